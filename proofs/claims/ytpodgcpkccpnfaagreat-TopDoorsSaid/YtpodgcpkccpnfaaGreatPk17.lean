/-
  Parts of a proof, packed: WldF, WldG, WldH, WldI, WldJ
-/
import Derived.Laws.AppendOwnNone
import Derived.Test.YtpodgcpkccpnfaaGreatPk01
import Derived.Test.YtpodgcpkccpnfaaGreatPk16
set_option linter.unusedVariables false
set_option linter.unusedSimpArgs false
set_option maxRecDepth 20000
set_option maxHeartbeats 16000000
namespace Go.Proofs.YtpodgcpkccpnfaaGreat
open Go.RowKit
def PickPost (Z : WK) (N : Nat) (W : World) (ow : Nat → Nat) (evs : List EvD) (S' : WD) (e : Ending) (w' : World) : Prop := ∃ v va' vl' ow' N', e = .returned v ∧ EvRow w' W.heap.size v evs ∧ N' ≤ N + 9 ∧ Wd Z w' S' N' va' vl' ow' ∧
 (∀ k, k < W.heap.size → ow' k = ow k) ∧ (∀ k, k < W.heap.size → ow k = 0 → w'.heap[k]? = W.heap[k]?) ∧ ∀ k, v.ownBlock = some k → ow' k = 0
theorem EvRow.nil (w : World) (q : Nat) : EvRow w q (.slice none 0 0) [] := own_nil _ _ _ _
theorem tick_wrap {n : Nat} (h : n ≤ 1000000000) : wrap64 ((n : Int) + 1) = ((n + 1 : Nat) : Int) := by rw [IntWalk.wrap64_in _ (by omega)]; omega
theorem Wd.tick {Z : WK} {W : World} {S : WD} {N : Nat} {va vl : Nat → Value} {ow : Nat → Nat} (H : Wd Z W S N va vl ow) : Wd Z (W.setCell ⟨Z.b, 5, none⟩ (.int .i64 (S.now + 1 : Nat))) S.tick N va vl ow :=
 H.setB (j := 5) (by decide) (.int .i64 (S.now + 1 : Nat)) (dr := S.drawn) (nw := S.now + 1) (fun i hi => by match i, hi with | 0, _ | 1, _ | 2, _ | 3, _ | 4, _ | 5, _ => rfl)
theorem Wd.tickE {Z : WK} {W : World} {S : WD} {N : Nat} {va vl : Nat → Value} {ow : Nat → Nat} (H : Wd Z W S N va vl ow) (h : S.now ≤ 1000000000) : ∃ n1 : Nat, wrap64 ((S.now : Int) + 1) = (n1 : Int) ∧ Wd Z (W.setCell ⟨Z.b, 5, none⟩ (.int .i64 n1)) S.tick N va vl ow :=
 ⟨S.now + 1, tick_wrap h, H.tick⟩
theorem wpick_over {Z : WK} {W : World} {S : WD} {N : Nat} {va vl : Nat → Value} {ow : Nat → Nat} (H : Wd Z W S N va vl ow) (hZ : ZOK Z) {t : Nat} (ht : t < Z.n) (hnow : S.now ≤ 1000000000) {PA : Option Addr} {pc : Nat} (hpv : Z.pv t = .slice PA (S.ths t).prog.length pc) (hpl : (S.ths t).prog.length ≤ 1000000)
 (ho : (S.ths t).halted = true ∨ ((S.ths t).halted = false ∧ (S.ths t).st = 0 ∧ (S.ths t).prog.length ≤ (S.ths t).next)) :
 Calls Tryz.prog 26 #[.pointer (some ⟨Z.b, 0, none⟩), .int .i64 t] W (PickPost Z N W ow [] S.tick) := by
 have HAT := hQ' (wat_any Z.b Z.g Z.n Z.c1 t W (H.cb 2 (by decide)) ht hZ.n8 hZ.cap)
 have b5 : W.cell? ⟨Z.b, 5, none⟩ = some (.int .i64 S.now) := H.cb 5 (by decide)
 have f5 := H.fb 5
 obtain ⟨n1, hw, htick⟩ := H.tickE hnow
 have HN := hQ' htick
 have HKK := hQ' (fun (k : Nat) (hk : ow k = 0) => show (W.setCell ⟨Z.b, 5, none⟩ (.int .i64 n1)).heap[k]? = W.heap[k]? from Below.heap_setCell W ⟨Z.b, 5, none⟩ _ k (fun e => by rw [e, H.ob] at hk; cases hk))
 have hcg := (htick.cg t ht).cell
 rcases ho with ho | ⟨hh, hst, hov⟩
 · have g10 : (W.setCell ⟨Z.b, 5, none⟩ (.int .i64 n1)).cell? ⟨Z.g, t * 11 + 10, none⟩ = some (.bool true) := by have h := hcg 10 (by decide); rw [← ho]; exact h
   clear hcg htick H ho hpv hpl ht hZ hnow
   go_enter Tryz.func26, Tryz.ntmps26
   go_wp2_with fail
   refine wp_scope_hop 0 rfl (fun J hJ => ?_)
   go_wp2_with fail
   refine HAT.out.mono ?_
   rintro e w1 ⟨rfl, rfl⟩
   go_wp2_with fail
   go_ret
   exact ⟨_, va, vl, ow, N, rfl, EvRow.nil _ _, by omega, HN.out, fun _ _ => rfl, fun k _ h => HKK.out k h, fun k e => by cases e⟩
 · have g10 : (W.setCell ⟨Z.b, 5, none⟩ (.int .i64 n1)).cell? ⟨Z.g, t * 11 + 10, none⟩ = some (.bool false) := by have h := hcg 10 (by decide); rw [← hh]; exact h
   have g7 : (W.setCell ⟨Z.b, 5, none⟩ (.int .i64 n1)).cell? ⟨Z.g, t * 11 + 7, none⟩ = some (.int .i64 0) := by have h := hcg 7 (by decide); rw [← hst]; exact h
   have g1 : (W.setCell ⟨Z.b, 5, none⟩ (.int .i64 n1)).cell? ⟨Z.g, t * 11 + 1, none⟩ = some (.int .i64 (S.ths t).next) := hcg 1 (by decide)
   have g0 : (W.setCell ⟨Z.b, 5, none⟩ (.int .i64 n1)).cell? ⟨Z.g, t * 11, none⟩ = some (.slice PA (S.ths t).prog.length pc) := by rw [← hpv]; exact hcg 0 (by decide)
   obtain ⟨nx, hnx⟩ : ∃ n, (S.ths t).next = n := ⟨_, rfl⟩
   obtain ⟨pl, hpl2⟩ : ∃ n, (S.ths t).prog.length = n := ⟨_, rfl⟩
   rw [hnx] at g1 hov
   rw [hpl2] at g0 hov hpl
   have hov : (pl : Int) ≤ (nx : Int) := by omega
   clear hcg htick H hst hh hpv ht hZ hnow hnx hpl2
   go_enter Tryz.func26, Tryz.ntmps26
   go_wp2_with fail
   refine wp_scope_hop 0 rfl (fun J hJ => ?_)
   go_wp2_with fail
   refine HAT.out.mono ?_
   rintro e w1 ⟨rfl, rfl⟩
   go_upto_region 10 with fail
   generalize w1.setCell ⟨Z.b, 5, none⟩ (.int .i64 n1) = W1 at *
   go_wp2_with fail
   go_quiet (fail)
   go_wp2_with fail
   go_ret
   exact ⟨_, va, vl, ow, N, rfl, EvRow.nil _ _, by omega, HN.out.grow ((Up.refl _).drewN _), fun _ _ => rfl, fun k _ h => HKK.out k h, fun k e => by cases e⟩
theorem wpick_asked {Z : WK} {W : World} {S : WD} {N : Nat} {va vl : Nat → Value} {ow : Nat → Nat} (H : Wd Z W S N va vl ow) (hZ : ZOK Z) {t : Nat} (ht : t < Z.n) (hnow : S.now ≤ 1000000000) (hh : (S.ths t).halted = false) (hst : (S.ths t).st = 1) (hN : N ≤ 90000) :
 Calls Tryz.prog 26 #[.pointer (some ⟨Z.b, 0, none⟩), .int .i64 t] W (PickPost Z N W ow [] (beginS Z.M t S.tick)) := by
 have HAT := hQ' (wat_any Z.b Z.g Z.n Z.c1 t W (H.cb 2 (by decide)) ht hZ.n8 hZ.cap)
 have b5 : W.cell? ⟨Z.b, 5, none⟩ = some (.int .i64 S.now) := H.cb 5 (by decide)
 have f5 := H.fb 5
 obtain ⟨n1, hw, htick⟩ := H.tickE hnow
 have HBG := hQ' (wbegin_any htick hZ ht hN)
 have HOW := hQ' (show ow Z.b = 1 ∧ ow Z.g = 2 from ⟨H.ob, H.og⟩)
 have HSZ := hQ' (show (W.setCell ⟨Z.b, 5, none⟩ (.int .i64 n1)).heap.size = W.heap.size by simp)
 have HKK := hQ' (fun (k : Nat) (hk : ow k = 0) => show (W.setCell ⟨Z.b, 5, none⟩ (.int .i64 n1)).heap[k]? = W.heap[k]? from Below.heap_setCell W ⟨Z.b, 5, none⟩ _ k (fun e => by rw [e, H.ob] at hk; cases hk))
 have hcg := (htick.cg t ht).cell
 have g10 : (W.setCell ⟨Z.b, 5, none⟩ (.int .i64 n1)).cell? ⟨Z.g, t * 11 + 10, none⟩ = some (.bool false) := by have h := hcg 10 (by decide); rw [← hh]; exact h
 have g7 : (W.setCell ⟨Z.b, 5, none⟩ (.int .i64 n1)).cell? ⟨Z.g, t * 11 + 7, none⟩ = some (.int .i64 1) := by have h := hcg 7 (by decide); rw [← hst]; exact h
 clear hcg htick H hst hh ht hZ hnow hN
 go_enter Tryz.func26, Tryz.ntmps26
 go_wp2_with fail
 refine wp_scope_hop 1 rfl (fun J hJ => ?_)
 go_wp2_with fail
 refine HAT.out.mono ?_
 rintro e w1 ⟨rfl, rfl⟩
 go_wp2_with fail
 go_step3
 refine ⟨rfl, hJ.out _ _ ?_⟩
 go_wp2_with fail
 refine HBG.out.mono ?_
 rintro e w3 ⟨rfl, ow', h3, h4, h5⟩
 rw [HSZ.out] at h4 h5
 have H3 := hQ' (And.intro h3 (And.intro h4 h5))
 clear h3 h4 h5 g7 g10 HBG b5 f5
 go_wp2_with fail
 go_ret
 exact ⟨_, va, vl, ow', N + 9, rfl, EvRow.nil _ _, by omega, H3.out.1, H3.out.2.1, fun k hk h0 => (H3.out.2.2 k hk (by rw [h0]; decide) (fun e => by rw [e, HOW.out.2] at h0; cases h0)).trans (HKK.out k h0), fun k e => by cases e⟩
end Go.Proofs.YtpodgcpkccpnfaaGreat

namespace Go.Proofs.YtpodgcpkccpnfaaGreat
open Go.RowKit
theorem wpList_appendOwn {P : Program} {ops : Array Oper} {rest : List Oper} {o : Oper} {a : Act} {Q : Exit → Act → World → Prop} {w : World} (hgd : o.guard = none) (s x : Operand) (t : TypeId)
 (ho : o.op = .call { callee := .builtin .append, args := #[s, x], argTypes := #[t, t] })
 (B : Nat) (e : TypeId) (i : TypeInfo) (z : Value) (size bytes : Nat) (ht : P.underlying t = some (.slice e)) (hi : P.info? e = some i) (hz : i.zero = some z)
 (hsize : i.size = size) (hby : i.bytes = bytes) (hzs : z.cells.size = size) (hsz : 0 < size)
 (v : Value) (n : Nat) (xs : List Value) (hs : a.eval s = v) (hown : w.ownsRow B e size v n xs)
 (B2 : Nat) (v2 : Value) (m : Nat) (ys : List Value) (hx : a.eval x = v2) (hown2 : w.ownsRow B2 e size v2 m ys) (h1 : ∀ u ∈ ys, u.oneCell' = true)
 (hb1 : 0 < bytes) (hbytes : (n + m) * bytes ≤ 140737488355328) (hB : B ≤ w.heap.size)
 (h : ∀ v' w', w'.ownsRow B e size v' (n + m) (xs ++ ys) → w.grownBy w' v.ownBlock → Below B w w' → (v'.ownBlock = v.ownBlock ∨ v'.ownBlock = some w.heap.size) → wpList P ops Q rest (a.put o.dst v') w') :
 wpList P ops Q (o :: rest) a w := by
 have h63 : n + m ≤ maxLen := by
  have : n + m ≤ (n + m) * bytes := Nat.le_mul_of_pos_right _ hb1
  unfold maxLen; omega
 rcases hown2.2 with ⟨rfl, rfl⟩ | ⟨g, cap, cur, rfl, hg, hh, hcap, hmax, hsz2, hcells⟩
 · have hys : ys = [] := List.eq_nil_of_length_eq_zero (by have := hown2.1; omega)
   subst hys
   refine wpList_append_own_none hgd s x t ho B e i size ht hi v n xs hs hown hx ?_
   exact h v w (by simpa using hown) (World.grownBy.refl w _) (Below.refl _ _) (.inl rfl)
 · refine wpList_append_own_at (w := w) hgd s x t ho B e i z size bytes ht hi hz hsize hby hzs hsz v n xs hs hown ⟨g, 0, none⟩ m cap ys hx hown2.1 ?_ h1 h63 hbytes hB ?_
   · intro j u hu
     rw [Go.WideShapes.add_plain, Nat.zero_add, cell_of_row w g j _ _ _ hh]
     rw [← hcells, List.getElem?_take] at hu
     split at hu
     · simpa using hu
     · cases hu
   · intro v' w' hown' hgr _ hat
     exact h v' w' hown' hgr (grownBy_below hgr hB (own_ge hown)) hat
theorem Wd.offRow {Z : WK} {W W' : World} {S : WD} {N : Nat} {va vl : Nat → Value} {ow : Nat → Nat} {v : Value} (H : Wd Z W S N va vl ow) (hv : ∀ k, v.ownBlock = some k → ow k = 0 ∧ Z.w1.heap.size ≤ k) (G : W.grownBy W' v.ownBlock) (hB : Below Z.B W W') : Wd Z W' S N va vl ow :=
 H.keep hB (fun k hk h => G.block k hk (fun e => h (hv k e.symm).1)) (fun k hk _ => G.block k (Nat.lt_of_lt_of_le hk H.up.size) (fun e => by have := (hv k e.symm).2; omega))
def thenB (M : MD) (t : Nat) (S1 : WD) : WD := if (S1.ths t).st = 1 then beginS M t S1 else S1
theorem wpick_idle {Z : WK} {W : World} {S S1 : WD} {N : Nat} {va vl : Nat → Value} {ow : Nat → Nat} {evs : List EvD} (H : Wd Z W S N va vl ow) (hZ : ZOK Z) {t : Nat} (ht : t < Z.n) (hnow : S.now ≤ 1000000000) (hh : (S.ths t).halted = false) (hst : (S.ths t).st = 0) (hN : N ≤ 90000)
 {PA : Option Addr} {pc : Nat} (hpv : Z.pv t = .slice PA (S.ths t).prog.length pc) (hpl : (S.ths t).prog.length ≤ 1000000) (hov : (S.ths t).next < (S.ths t).prog.length)
 (hplay : ∀ W2, Wd Z W2 S.tick N va vl ow → Calls Tryz.prog 57 #[.pointer (some ⟨Z.b, 0, none⟩), .int .i64 t] W2 (WPlayPost Z N W2 ow evs S1)) (hev : evs.length ≤ 2000) :
 Calls Tryz.prog 26 #[.pointer (some ⟨Z.b, 0, none⟩), .int .i64 t] W (PickPost Z N W ow (callEv t S.tick :: evs) (thenB Z.M t S1)) := by
 have HAT := hQ' (wat_any Z.b Z.g Z.n Z.c1 t W (H.cb 2 (by decide)) ht hZ.n8 hZ.cap)
 have b5 : W.cell? ⟨Z.b, 5, none⟩ = some (.int .i64 S.now) := H.cb 5 (by decide)
 have f5 := H.fb 5
 obtain ⟨n1, hn1⟩ : ∃ n, S.now + 1 = n := ⟨_, rfl⟩
 have hw := tick_wrap hnow
 have htick := H.tick
 rw [hn1] at hw htick
 have HN := hQ' htick
 have HKK := hQ' (fun (k : Nat) (hk : ow k = 0) => show (W.setCell ⟨Z.b, 5, none⟩ (.int .i64 n1)).heap[k]? = W.heap[k]? from Below.heap_setCell W ⟨Z.b, 5, none⟩ _ k (fun e => by rw [e, H.ob] at hk; cases hk))
 have HOB := hQ' (show ow Z.b = 1 ∧ ow Z.g = 2 from ⟨H.ob, H.og⟩)
 have hcg := (htick.cg t ht).cell
 have g10 : (W.setCell ⟨Z.b, 5, none⟩ (.int .i64 n1)).cell? ⟨Z.g, t * 11 + 10, none⟩ = some (.bool false) := by have h := hcg 10 (by decide); rw [← hh]; exact h
 have g7 : (W.setCell ⟨Z.b, 5, none⟩ (.int .i64 n1)).cell? ⟨Z.g, t * 11 + 7, none⟩ = some (.int .i64 0) := by have h := hcg 7 (by decide); rw [← hst]; exact h
 have g1 : (W.setCell ⟨Z.b, 5, none⟩ (.int .i64 n1)).cell? ⟨Z.g, t * 11 + 1, none⟩ = some (.int .i64 (S.ths t).next) := hcg 1 (by decide)
 have g0 : (W.setCell ⟨Z.b, 5, none⟩ (.int .i64 n1)).cell? ⟨Z.g, t * 11, none⟩ = some (.slice PA (S.ths t).prog.length pc) := by rw [← hpv]; exact hcg 0 (by decide)
 have hsz : (W.setCell ⟨Z.b, 5, none⟩ (.int .i64 n1)).heap.size = W.heap.size := by simp
 obtain ⟨nx, hnx⟩ : ∃ n, (S.ths t).next = n := ⟨_, rfl⟩
 obtain ⟨pl, hpl2⟩ : ∃ n, (S.ths t).prog.length = n := ⟨_, rfl⟩
 have HCE := hQ' (show callEv t S.tick = ⟨n1, 1, t, nx, 0, 0, 0⟩ by unfold callEv WD.tick; rw [← hn1, ← hnx])
 rw [hnx] at g1 hov
 rw [hpl2] at g0 hov hpl
 have hov' : (nx : Int) < (pl : Int) := by omega
 have HPL := hQ' hplay
 have HEV := hQ' (And.intro hev (And.intro hN ht))
 have HNW := hQ' (And.intro hn1 hnx)
 have HZ := hQ' hZ
 clear hcg H htick hst hh hpv ht hZ hnow hnx hpl2 hov hplay hev hn1 hN
 go_enter Tryz.func26, Tryz.ntmps26
 go_wp2_with fail
 refine wp_scope_hop 0 rfl (fun J hJ => ?_)
 go_wp2_with fail
 refine HAT.out.mono ?_
 rintro e w1 ⟨rfl, rfl⟩
 go_upto_region 10 with fail
 have HSZ := hQ' hsz
 clear hsz HAT b5 f5
 generalize w1.setCell ⟨Z.b, 5, none⟩ (.int .i64 n1) = W1 at *
 go_wp2_with fail
 go_quiet (fail)
 rename_i nq
 go_wp2_with fail
 have HN1 := hQ' (HN.out.grow ((Up.refl W1).drewN nq))
 have HKQ := hQ' (fun (k : Nat) (hk : ow k = 0) => show (W1.drewN nq).heap[k]? = w1.heap[k]? from HKK.out k hk)
 have HSQ := hQ' (show (W1.drewN nq).heap.size = w1.heap.size from HSZ.out)
 clear g10 g7 g1 g0 HN HKK HSZ
 generalize W1.drewN nq = W2 at *
 have hsu : ∀ W', Up W2 W' → W'.cell? ⟨Z.b, 5, none⟩ = some (.int .i64 n1) ∧ W'.cell? ⟨Z.g, t * 11 + 1, none⟩ = some (.int .i64 nx) := fun W' u => by
  have a0 : W'.cell? ⟨Z.b, 5, none⟩ = some (.int .i64 (S.now + 1 : Nat)) := (HN1.out.grow u).cb 5 (by decide)
  have a1 : W'.cell? ⟨Z.g, t * 11 + 1, none⟩ = some (.int .i64 (S.ths t).next) := ((HN1.out.grow u).cg t HEV.out.2.2).cell 1 (by decide)
  rw [HNW.out.1] at a0
  rw [HNW.out.2] at a1
  exact ⟨a0, a1⟩
 have HSU := hQ' hsu
 have hS := hsu W2.drew (Up.refl W2).drew
 have HEVR := hQ' (show W2.drew.heap.size = W2.heap.size from rfl)
 obtain ⟨i0, hi', hz0, hz1, hz2⟩ := info_parts infoEv
 have HIE := hQ' hi'
 have HZ0 := hQ' hz0
 have HZ1 := hQ' hz1
 have HZ2 := hQ' hz2
 have HN3 := hQ' (fun (W' : World) (u : Up W2 W') => HPL.out W' (HN1.out.grow u))
 clear hsu hi' hz0 hz1 hz2 HPL
 refine wp_region_held_drew (S := fun w' => w'.cell? ⟨Z.b, 5, none⟩ = some (.int .i64 n1) ∧ w'.cell? ⟨Z.g, t * 11 + 1, none⟩ = some (.int .i64 nx)) (by kernel_rfl) hS (fun hS0 => ?_)
 clear hS
 refine tkE 0 ?_ rfl (by kernel_rfl) (fun _ _ _ h => h) hS0 ?_ ?_
 rotate_left
 · intro w hSw
   try dsimp only at hSw
   go_simp
   try (with_reducible rfl)
 try simp only [Act.put, sC_I, sC_0, sC_1]
 refine tkE 1 ?_ rfl (by kernel_rfl) (fun _ _ _ h => h) hS0 ?_ ?_
 rotate_left
 · intro w hSw
   try dsimp only at hSw
   go_simp
   try (with_reducible rfl)
 try simp only [Act.put, sC_I, sC_0, sC_1]
 refine tkE 2 ?_ rfl (by kernel_rfl) (fun _ _ _ h => h) hS0 ?_ ?_
 rotate_left
 · intro w hSw
   try dsimp only at hSw
   go_simp
   try (with_reducible rfl)
 try simp only [Act.put, sC_I, sC_0, sC_1]
 refine tkE 3 ?_ rfl (by kernel_rfl) (fun _ _ _ h => h) hS0 ?_ ?_
 rotate_left
 · intro w hSw
   try dsimp only at hSw
   go_simp
   try (with_reducible rfl)
 try simp only [Act.put, sC_I, sC_0, sC_1]
 refine tkE 4 ?_ rfl (by kernel_rfl) (fun _ _ _ h => h) hS0 ?_ ?_
 rotate_left
 · intro w hSw
   try dsimp only at hSw
   go_simp
   try (with_reducible rfl)
 try simp only [Act.put, sC_I, sC_0, sC_1]
 refine tkE 5 ?_ rfl (by kernel_rfl) (fun _ _ _ h => h) hS0 ?_ ?_
 rotate_left
 · intro w hSw
   try dsimp only at hSw
   go_simp
   try (with_reducible rfl)
 try simp only [Act.put, sC_I, sC_0, sC_1]
 refine tkE 6 ?_ rfl (by kernel_rfl) (fun _ _ _ h => h) hS0 ?_ ?_
 rotate_left
 · intro w hSw
   try dsimp only at hSw
   go_simp
   try (with_reducible rfl)
 try simp only [Act.put, sC_I, sC_0, sC_1]
 refine tkE 7 ?_ rfl (by kernel_rfl) (fun _ _ _ h => h) hS0 ?_ ?_
 rotate_left
 · intro w hSw
   try dsimp only at hSw
   go_simp
   try (with_reducible rfl)
 try simp only [Act.put, sC_I, sC_0, sC_1]
 refine tkE 8 ?_ rfl (by kernel_rfl) (fun _ _ _ h => h) hS0 ?_ ?_
 rotate_left
 · intro w hSw
   try dsimp only at hSw
   go_simp
   try (with_reducible rfl)
 try simp only [Act.put, sC_I, sC_0, sC_1]
 refine tkE 9 ?_ rfl (by kernel_rfl) (fun _ _ _ h => h) hS0 ?_ ?_
 rotate_left
 · intro w hSw
   try dsimp only at hSw
   go_simp
   try (with_reducible rfl)
 try simp only [Act.put, sC_I, sC_0, sC_1]
 refine tkE 10 ?_ rfl (by kernel_rfl) (fun _ _ _ h => h) hS0 ?_ ?_
 rotate_left
 · intro w hSw
   try dsimp only at hSw
   go_simp
   try (with_reducible rfl)
 try simp only [Act.put, sC_I, sC_0, sC_1]
 refine rdE 11 (by kernel_rfl) rfl fun K hK => ?_
 go_simp
 refine hK.out _ _ (HSU.out _ (((Up.refl W2).alloc _).drew)) (fun hS1 => ?_)
 clear hK K
 try simp only [Act.put, sC_I, sC_0, sC_1]
 refine rdE 12 (by kernel_rfl) rfl fun K hK => ?_
 refine step_append_lies _ rfl (.tmp 41) (.tmp 52) 30 rfl W2.heap.size 60 i0 (.agg #[.int .i64 0, .int .i64 0, .int .i64 0, .int .i64 0, .int .i64 0, .int .i64 0, .int .i64 0]) 7 56 Tryz.underlying30 HIE.out HZ0.out HZ1.out HZ2.out rfl (by decide) _ 0 [] rfl (own_nil _ _ _ _) ⟨W2.heap.size, 0, none⟩ 1 1 [.int .i64 n1, .int .i64 1, .int .i64 t, .int .i64 nx, .int .i64 0, .int .i64 0, .int .i64 0] rfl rfl (news1 W2 _ _) (by simp [Value.oneCell']) (by decide) (by unfold maxLen; decide) (by decide) (by simp) _ rfl ?_
 intro g5 cap5 w5 hown5 hg5 hat5 hlt5
 have HU5 := hQ' (show Up W2 w5 from Below.trans ((Up.refl W2).alloc _).drew (grownBy_below hg5 (by simp) (own_ge (own_nil W2 W2.heap.size 60 7))))
 have HO5 : Hid (EvRow w5 W2.heap.size (.slice (some ⟨g5, 0, none⟩) 1 cap5) [⟨n1, 1, t, nx, 0, 0, 0⟩]) := hQ' (EvRow.push (l := []) rfl hown5)
 clear hown5 hg5 hat5 hlt5
 refine hK.out _ _ (HSU.out _ HU5.out) (fun hS2 => ?_)
 clear hK K
 try simp only [Act.put, sC_I, sC_0, sC_1]
 refine tkE 13 ?_ rfl (by kernel_rfl) (fun _ _ _ h => h) hS2 ?_ ?_
 rotate_left
 · intro w hSw
   try dsimp only at hSw
   go_simp
   try (with_reducible rfl)
 try simp only [Act.put, sC_I, sC_0, sC_1]
 refine wpAnyH_done (by kernel_rfl) ?_ _
 try simp only [Act.put, sC_I, sC_0, sC_1, List.getElem_toArray, List.getElem_cons_succ, List.getElem_cons_zero]
 clear hS0 hS1 hS2 HSU
 have HP5 := hQ' (HN3.out w5 HU5.out)
 clear HN3
 go_wp2_with fail
 go_step3
 refine ⟨rfl, hJ.out _ _ ?_⟩
 go_wp2_with fail
 refine HP5.out.mono ?_
 rintro e w6 ⟨v, va', vl', ow', rfl, hE, hW, hO, hF, hV⟩
 have HGT := hQ' HN1.out.gt
 have HR6 := hQ' (own_same HO5.out fun k e => hF k (World.ownsRow.lt HO5.out k e).2 (fun e2 => by have := (World.ownsRow.lt HO5.out k e).1; have := HGT.out; omega))
 have HE6 := hQ' hE
 have HW6 := hQ' hW
 have HQ5 := hQ' (show ow' g5 = 0 ∧ W2.heap.size ≤ g5 ∧ g5 < w5.heap.size from by
  have h := World.ownsRow.lt HO5.out g5 rfl
  exact ⟨(hO g5 h.2).trans (HN1.out.free h.1), h.1, h.2⟩)
 have HZS := hQ' HN1.out.up.size
 have HBZ := hQ' HN1.out.sz
 have HS6 := hQ' (show W2.heap.size ≤ w6.heap.size from by have := (World.ownsRow.lt HR6.out g5 rfl).2; have := HQ5.out; omega)
 have HF6 := hQ' (fun (k : Nat) (hk : k < w1.heap.size) (h0 : ow k = 0) => show w6.heap[k]? = w1.heap[k]? ∧ ow' k = 0 from by
  have h1 : k < W2.heap.size := by rw [HSQ.out]; exact hk
  have h2 : k < w5.heap.size := Nat.lt_of_lt_of_le h1 HU5.out.size
  exact ⟨(hF k h2 (fun e => by rw [e, HOB.out.2] at h0; cases h0)).trans ((HU5.out.block k h1).trans (HKQ.out k h0)), (hO k h2).trans h0⟩)
 have HO6 := hQ' (fun (k : Nat) (hk : k < w1.heap.size) => hO k (Nat.lt_of_lt_of_le (by rw [HSQ.out]; exact hk) HU5.out.size))
 have HVV := hQ' (fun (v7 : Value) (h : v7.ownBlock = Value.ownBlock (.slice (some ⟨g5, 0, none⟩) 1 cap5) ∨ v7.ownBlock = some w6.heap.size) (k : Nat) (e : v7.ownBlock = some k) => show ow' k = 0 from by
  rcases h with h | h
  · rw [h] at e
    cases e
    exact HQ5.out.1
  · rw [h] at e
    cases e
    exact HW6.out.free (Nat.le_refl _))
 have HRW := hQ' (fun (v7 : Value) (w7 : World) (h : w7.ownsRow W2.heap.size 60 7 v7 (1 + evs.length) ([.int .i64 n1, .int .i64 1, .int .i64 t, .int .i64 nx, .int .i64 0, .int .i64 0, .int .i64 0] ++ evs.flatMap evL)) => show EvRow w7 w1.heap.size v7 (callEv t S.tick :: evs) from by
  rw [HCE.out]
  unfold EvRow
  rw [List.length_cons, Nat.add_comm, List.flatMap_cons, ← HSQ.out]
  exact h)
 have HALL := hQ' (fun (v7 : Value) (w7 : World) (h1 : w7.ownsRow W2.heap.size 60 7 v7 (1 + evs.length) ([.int .i64 n1, .int .i64 1, .int .i64 t, .int .i64 nx, .int .i64 0, .int .i64 0, .int .i64 0] ++ evs.flatMap evL)) (h2 : w6.grownBy w7 (Value.ownBlock (.slice (some ⟨g5, 0, none⟩) 1 cap5))) (h3 : Below W2.heap.size w6 w7) (h4 : v7.ownBlock = Value.ownBlock (.slice (some ⟨g5, 0, none⟩) 1 cap5) ∨ v7.ownBlock = some w6.heap.size) =>
  show Wd Z w7 S1 N va' vl' ow' ∧ (∀ k, v7.ownBlock = some k → ow' k = 0) ∧ EvRow w7 w1.heap.size v7 (callEv t S.tick :: evs) ∧ (∀ k, k < w1.heap.size → ow k = 0 → w7.heap[k]? = w1.heap[k]?) ∧ W2.heap.size ≤ w7.heap.size from
   ⟨HW6.out.offRow (v := .slice (some ⟨g5, 0, none⟩) 1 cap5) (fun k e => by cases e; exact ⟨HQ5.out.1, Nat.le_trans HZS.out HQ5.out.2.1⟩) h2 (Below.mono h3 HBZ.out), HVV.out v7 h4, HRW.out v7 w7 h1, fun k hk h0 => (h3.block k (by rw [HSQ.out]; exact hk)).trans (HF6.out k hk h0).1, Nat.le_trans HS6.out h3.size⟩)
 clear hE hW hO hF hV HP5
 by_cases hs1 : (S1.ths t).st = 1
 · have HTB := hQ' (show thenB Z.M t S1 = beginS Z.M t S1 from if_pos hs1)
   go_wp2_with (at_builtin; refine wpList_appendOwn rfl (.tmp 88) (.tmp 91) 30 rfl W2.heap.size 60 i0 (.agg #[.int .i64 0, .int .i64 0, .int .i64 0, .int .i64 0, .int .i64 0, .int .i64 0, .int .i64 0]) 7 56 Tryz.underlying30 HIE.out HZ0.out HZ1.out HZ2.out rfl (by decide) _ 1 [.int .i64 n1, .int .i64 1, .int .i64 t, .int .i64 nx, .int .i64 0, .int .i64 0, .int .i64 0] rfl HR6.out _ _ evs.length (evs.flatMap evL) rfl HE6.out (evL_one evs) (by decide) (by have := HEV.out.1; omega) HS6.out ?_; intro v7 w7 hown7 hg7 hbel7 hat7; have H7 := hQ' (HALL.out v7 w7 hown7 hg7 hbel7 hat7); clear HR6 HE6 hown7 hg7 hbel7 hat7; have g7 : w7.cell? ⟨Z.g, t * 11 + 7, none⟩ = some (.int .i64 1) := (by have h := (H7.out.1.cg t HEV.out.2.2).cell 7 (by decide); rw [← hs1]; exact h))
   refine wp_label ?_
   go_wp2_with fail
   refine (wbegin_any H7.out.1 HZ.out HEV.out.2.2 HEV.out.2.1).mono ?_
   rintro e w8 ⟨rfl, ow8, h8, h9, h10⟩
   have H8 := hQ' (And.intro h8 (And.intro h9 h10))
   clear h8 h9 h10 g7
   go_wp2_with fail
   go_ret
   rw [HTB.out]
   refine ⟨v7, va', vl', ow8, N + 9, rfl, own_same H7.out.2.2.1 fun k e => ?_, by omega, H8.out.1, fun k hk => (H8.out.2.1 k (by have := H7.out.2.2.2.2; have := HSQ.out; omega)).trans (HO6.out k hk), fun k hk h0 => ?_, fun k e => ?_⟩
   · exact H8.out.2.2 k (World.ownsRow.lt H7.out.2.2.1 k e).2 (by rw [H7.out.2.1 k e]; decide) (fun e2 => by have h1 := H7.out.2.1 k e; rw [e2, HW6.out.og] at h1; cases h1)
   · have h1 := (HF6.out k hk h0).2
     exact (H8.out.2.2 k (by have := H7.out.2.2.2.2; have := HSQ.out; omega) (by rw [h1]; decide) (fun e2 => by rw [e2, HW6.out.og] at h1; cases h1)).trans (H7.out.2.2.2.1 k hk h0)
   · exact (H8.out.2.1 k (World.ownsRow.lt H7.out.2.2.1 k e).2).trans (H7.out.2.1 k e)
 · have HTB := hQ' (show thenB Z.M t S1 = S1 from if_neg hs1)
   have hs2 : ((S1.ths t).st != 1) = true := by rw [bne_iff_ne]; exact hs1
   go_wp2_with (at_builtin; refine wpList_appendOwn rfl (.tmp 88) (.tmp 91) 30 rfl W2.heap.size 60 i0 (.agg #[.int .i64 0, .int .i64 0, .int .i64 0, .int .i64 0, .int .i64 0, .int .i64 0, .int .i64 0]) 7 56 Tryz.underlying30 HIE.out HZ0.out HZ1.out HZ2.out rfl (by decide) _ 1 [.int .i64 n1, .int .i64 1, .int .i64 t, .int .i64 nx, .int .i64 0, .int .i64 0, .int .i64 0] rfl HR6.out _ _ evs.length (evs.flatMap evL) rfl HE6.out (evL_one evs) (by decide) (by have := HEV.out.1; omega) HS6.out ?_; intro v7 w7 hown7 hg7 hbel7 hat7; have H7 := hQ' (HALL.out v7 w7 hown7 hg7 hbel7 hat7); clear HR6 HE6 hown7 hg7 hbel7 hat7; have g7 : w7.cell? ⟨Z.g, t * 11 + 7, none⟩ = some (.int .i64 (S1.ths t).st) := (H7.out.1.cg t HEV.out.2.2).cell 7 (by decide))
   go_ret
   rw [HTB.out]
   exact ⟨v7, va', vl', ow', N, rfl, H7.out.2.2.1, by omega, H7.out.1, HO6.out, H7.out.2.2.2.1, H7.out.2.1⟩
end Go.Proofs.YtpodgcpkccpnfaaGreat

namespace Go.Proofs.YtpodgcpkccpnfaaGreat
open Go.RowKit
theorem wpList_push3 {P : Program} {ops : Array Oper} {rest : List Oper} {o : Oper} {a : Act} {Q : Exit → Act → World → Prop} {w : World} {e : TypeId} {news : List Value} (hgd : o.guard = none) (s x : Operand) (t : TypeId)
 (ho : o.op = .call { callee := .builtin .append, args := #[s, x], argTypes := #[t, t] })
 (B : Nat) (i : TypeInfo) (z : Value) (size bytes : Nat) (ht : P.underlying t = some (.slice e)) (hi : P.info? e = some i) (hz : i.zero = some z)
 (hsize : i.size = size) (hby : i.bytes = bytes) (hzs : z.cells.size = size) (hsz : 0 < size)
 (v : Value) (n : Nat) (xs : List Value) (hs : a.eval s = v) (hown : w.ownsRow B e size v n xs)
 (hx : a.eval x = .slice (some ⟨w.heap.size, 0, none⟩) 1 1) (hl : news.length = size) (h1 : ∀ u ∈ news, u.oneCell' = true)
 (hb1 : 0 < bytes) (hbytes : (n + 1) * bytes ≤ 140737488355328) (hB : B ≤ w.heap.size)
 (h : ∀ g cap w', w'.ownsRow B e size (.slice (some ⟨g, 0, none⟩) (n + 1) cap) (n + 1) (xs ++ news) → w.grownBy w' v.ownBlock → (v.ownBlock = some g ∨ w.heap.size ≤ g) → g < w'.heap.size → Below B w w' → wpList P ops Q rest (a.put o.dst (.slice (some ⟨g, 0, none⟩) (n + 1) cap)) w') :
 wpList P ops Q (o :: rest) a (w.alloc (.cells news.toArray e)) := by
 have h63 : n + 1 ≤ maxLen := by
  have : n + 1 ≤ (n + 1) * bytes := Nat.le_mul_of_pos_right _ hb1
  unfold maxLen; omega
 refine wpList_append_lies (w.alloc (.cells news.toArray e)) hgd s x t ho B e i z size bytes ht hi hz hsize hby hzs hsz v n xs hs (hown.alloc _) ⟨w.heap.size, 0, none⟩ 1 1 news hx (by omega) (fun j u hu => cells_new w news e j u hu) h1 (by decide) h63 hbytes (by simp; omega) _ rfl ?_
 intro g cap w' hown' hg hor hlt
 have hg' : w.grownBy w' v.ownBlock := ⟨hg.os, hg.tape, hg.output, Nat.le_trans (by simp) hg.size, fun k hk hne => (hg.block k (by simp; omega) hne).trans (Below.heap_alloc w _ k hk)⟩
 exact h g cap w' hown' hg' (hor.imp id (fun e => by rw [e]; simp)) hlt (grownBy_below hg' hB (own_ge hown))
theorem wpick_begun {Z : WK} {W : World} {S S1 : WD} {N : Nat} {va vl : Nat → Value} {ow : Nat → Nat} {evs : List EvD} (H : Wd Z W S N va vl ow) (hZ : ZOK Z) {t : Nat} (ht : t < Z.n) (hnow : S.now ≤ 1000000000) (hh : (S.ths t).halted = false) (hst : (S.ths t).st = 2) (hN : N ≤ 90000)
 (hD : ∀ W2, Wd Z W2 S.tick N va vl ow → DrawsAt Z W2) (hdr : Z.M.draws.length = 0 ∨ S.drawn < Z.M.draws.length) (hans : (S.ths t).ans.length ≤ 100000) (hacc : (S.ths t).accs ≤ 1000000)
 (hplay : ∀ W2 va2 ow2, Wd Z W2 (endS Z.M t S.tick) N va2 vl ow2 → (∀ k, k < W.heap.size → ow2 k = ow k) → Calls Tryz.prog 57 #[.pointer (some ⟨Z.b, 0, none⟩), .int .i64 t] W2 (WPlayPost Z N W2 ow2 evs S1)) (hev : evs.length ≤ 2000) :
 Calls Tryz.prog 26 #[.pointer (some ⟨Z.b, 0, none⟩), .int .i64 t] W (PickPost Z N W ow evs S1) := by
 have HAT := hQ' (wat_any Z.b Z.g Z.n Z.c1 t W (H.cb 2 (by decide)) ht hZ.n8 hZ.cap)
 have b5 : W.cell? ⟨Z.b, 5, none⟩ = some (.int .i64 S.now) := H.cb 5 (by decide)
 have f5 := H.fb 5
 obtain ⟨n1, hw, htick⟩ := H.tickE hnow
 have HN := hQ' htick
 have HKK := hQ' (fun (k : Nat) (hk : ow k = 0) => show (W.setCell ⟨Z.b, 5, none⟩ (.int .i64 n1)).heap[k]? = W.heap[k]? from Below.heap_setCell W ⟨Z.b, 5, none⟩ _ k (fun e => by rw [e, H.ob] at hk; cases hk))
 have HOB := hQ' (show ow Z.b = 1 ∧ ow Z.g = 2 from ⟨H.ob, H.og⟩)
 have hcg := (htick.cg t ht).cell
 have g10 : (W.setCell ⟨Z.b, 5, none⟩ (.int .i64 n1)).cell? ⟨Z.g, t * 11 + 10, none⟩ = some (.bool false) := by have h := hcg 10 (by decide); rw [← hh]; exact h
 have g7 : (W.setCell ⟨Z.b, 5, none⟩ (.int .i64 n1)).cell? ⟨Z.g, t * 11 + 7, none⟩ = some (.int .i64 2) := by have h := hcg 7 (by decide); rw [← hst]; exact h
 have HSZ := hQ' (show (W.setCell ⟨Z.b, 5, none⟩ (.int .i64 n1)).heap.size = W.heap.size by simp)
 have HPL := hQ' hplay
 have HEV := hQ' (And.intro hev (And.intro hN (And.intro ht (And.intro hans hacc))))
 have HDR := hQ' (fun (W2 : World) (h : Wd Z W2 S.tick N va vl ow) => wdraw_any h (hD W2 h) t hdr)
 have HZ := hQ' hZ
 clear hcg H htick hst hh ht hZ hnow hplay hev hN hD hdr hans hacc
 go_enter Tryz.func26, Tryz.ntmps26
 go_wp2_with fail
 refine wp_scope_hop 1 rfl (fun J hJ => ?_)
 go_wp2_with fail
 refine HAT.out.mono ?_
 rintro e w1 ⟨rfl, rfl⟩
 go_upto_region 17 with fail
 clear HAT b5 f5 g10 g7
 generalize w1.setCell ⟨Z.b, 5, none⟩ (.int .i64 n1) = W1 at *
 have HH := hQ' (HN.out.grow (Up.refl W1).drew)
 have HD1 := hQ' (HDR.out W1.drew HH.out)
 have hS : W1.drew.cell? ⟨Z.b, 1, none⟩ = some (.pointer (some ⟨Z.h, 0, none⟩)) ∧ W1.drew.cell? ⟨Z.g, t * 11 + 4, none⟩ = some (.int .i64 (S.ths t).acc.1) ∧ W1.drew.cell? ⟨Z.g, t * 11 + 5, none⟩ = some (.int .i64 (S.ths t).acc.2.1) ∧ W1.drew.cell? ⟨Z.g, t * 11 + 6, none⟩ = some (.int .i64 (S.ths t).acc.2.2) :=
  ⟨HH.out.cb 1 (by decide), (HH.out.cg t HEV.out.2.2.1).cell 4 (by decide), (HH.out.cg t HEV.out.2.2.1).cell 5 (by decide), (HH.out.cg t HEV.out.2.2.1).cell 6 (by decide)⟩
 refine wp_region_held_drew (S := fun w' => w'.cell? ⟨Z.b, 1, none⟩ = some (.pointer (some ⟨Z.h, 0, none⟩)) ∧ w'.cell? ⟨Z.g, t * 11 + 4, none⟩ = some (.int .i64 (S.ths t).acc.1) ∧ w'.cell? ⟨Z.g, t * 11 + 5, none⟩ = some (.int .i64 (S.ths t).acc.2.1) ∧ w'.cell? ⟨Z.g, t * 11 + 6, none⟩ = some (.int .i64 (S.ths t).acc.2.2)) (by kernel_rfl) hS (fun hS0 => ?_)
 clear hS HDR
 refine tkE 0 ?_ rfl (by kernel_rfl) (fun _ _ _ h => h) hS0 ?_ ?_
 rotate_left
 · intro w hSw
   try dsimp only at hSw
   go_simp
   try (with_reducible rfl)
 try simp only [Act.put, sC_I, sC_0, sC_1]
 refine tkE 1 ?_ rfl (by kernel_rfl) (fun _ _ _ h => h) hS0 ?_ ?_
 rotate_left
 · intro w hSw
   try dsimp only at hSw
   go_simp
   try (with_reducible rfl)
 try simp only [Act.put, sC_I, sC_0, sC_1]
 refine tkE 2 ?_ rfl (by kernel_rfl) (fun _ _ _ h => h) hS0 ?_ ?_
 rotate_left
 · intro w hSw
   try dsimp only at hSw
   go_simp
   try (with_reducible rfl)
 try simp only [Act.put, sC_I, sC_0, sC_1]
 refine tkE 3 ?_ rfl (by kernel_rfl) (fun _ _ _ h => h) hS0 ?_ ?_
 rotate_left
 · intro w hSw
   try dsimp only at hSw
   go_simp
   try (with_reducible rfl)
 try simp only [Act.put, sC_I, sC_0, sC_1]
 refine tkE 4 ?_ rfl (by kernel_rfl) (fun _ _ _ h => h) hS0 ?_ ?_
 rotate_left
 · intro w hSw
   try dsimp only at hSw
   go_simp
   try (with_reducible rfl)
 try simp only [Act.put, sC_I, sC_0, sC_1]
 refine tkE 5 ?_ rfl (by kernel_rfl) (fun _ _ _ h => h) hS0 ?_ ?_
 rotate_left
 · intro w hSw
   try dsimp only at hSw
   go_simp
   try (with_reducible rfl)
 try simp only [Act.put, sC_I, sC_0, sC_1]
 refine tkE 6 ?_ rfl (by kernel_rfl) (fun _ _ _ h => h) hS0 ?_ ?_
 rotate_left
 · intro w hSw
   try dsimp only at hSw
   go_simp
   try (with_reducible rfl)
 try simp only [Act.put, sC_I, sC_0, sC_1]
 refine tkE 7 ?_ rfl (by kernel_rfl) (fun _ _ _ h => h) hS0 ?_ ?_
 rotate_left
 · intro w hSw
   try dsimp only at hSw
   go_simp
   try (with_reducible rfl)
 try simp only [Act.put, sC_I, sC_0, sC_1]
 refine tkE 8 ?_ rfl (by kernel_rfl) (fun _ _ _ h => h) hS0 ?_ ?_
 rotate_left
 · intro w hSw
   try dsimp only at hSw
   go_simp
   try (with_reducible rfl)
 try simp only [Act.put, sC_I, sC_0, sC_1]
 refine tkE 9 ?_ rfl (by kernel_rfl) (fun _ _ _ h => h) hS0 ?_ ?_
 rotate_left
 · intro w hSw
   try dsimp only at hSw
   go_simp
   try (with_reducible rfl)
 try simp only [Act.put, sC_I, sC_0, sC_1]
 refine rdE 10 (by kernel_rfl) rfl fun K hK => ?_
 go_simp
 refine HD1.out.mono ?_
 rintro e w2 ⟨rfl, hB2, hF2⟩
 have H2 := hQ' hB2
 have HF2 := hQ' hF2
 have HE2 := hQ' (endM_any Z.l Z.B Z.h N S.bank (fun k => ow k = 3) t (drawV Z.M t S.tick) w2 (by omega) (by have := HZ.out.n8; have := HEV.out.2.2.1; omega) hB2.bk (by have := HEV.out.2.1; omega) Z.M.fresh)
 have hS2 : w2.cell? ⟨Z.b, 1, none⟩ = some (.pointer (some ⟨Z.h, 0, none⟩)) ∧ w2.cell? ⟨Z.g, t * 11 + 4, none⟩ = some (.int .i64 (S.ths t).acc.1) ∧ w2.cell? ⟨Z.g, t * 11 + 5, none⟩ = some (.int .i64 (S.ths t).acc.2.1) ∧ w2.cell? ⟨Z.g, t * 11 + 6, none⟩ = some (.int .i64 (S.ths t).acc.2.2) :=
  ⟨hB2.cb 1 (by decide), (hB2.cg t HEV.out.2.2.1).cell 4 (by decide), (hB2.cg t HEV.out.2.2.1).cell 5 (by decide), (hB2.cg t HEV.out.2.2.1).cell 6 (by decide)⟩
 clear hB2 hF2 HD1 HH
 obtain ⟨dv, hdv⟩ : ∃ d, drawV Z.M t S.tick = d := ⟨_, rfl⟩
 have HDV := hQ' hdv
 rw [hdv] at HE2 ⊢
 clear hdv
 refine hK.out _ _ hS2 (fun hS3 => ?_)
 clear hK K
 try simp only [Act.put, sC_I, sC_0, sC_1]
 refine rdE 11 (by kernel_rfl) rfl fun K hK => ?_
 go_simp
 refine HE2.out.mono ?_
 obtain ⟨R, hR⟩ : ∃ r, S.bank.endA Z.M.fresh t dv = r := ⟨_, rfl⟩
 have HR := hQ' hR
 rw [hR]
 clear hR
 obtain ⟨r1, r2, u'⟩ := R
 rintro e w3 ⟨rfl, hB3, hF3⟩
 have H3 : Hid (Wd Z w3 (⟨S.n, S.ths, u', drawN' Z.M t S.tick, S.now + 1⟩ : WD) N va vl (fun k => if w2.heap.size ≤ k ∧ k < w3.heap.size then 3 else ow k)) := hQ' (H2.out.bank hF3 hB3)
 have HF3 := hQ' hF3
 have hS4 : w3.cell? ⟨Z.b, 1, none⟩ = some (.pointer (some ⟨Z.h, 0, none⟩)) ∧ w3.cell? ⟨Z.g, t * 11 + 4, none⟩ = some (.int .i64 (S.ths t).acc.1) ∧ w3.cell? ⟨Z.g, t * 11 + 5, none⟩ = some (.int .i64 (S.ths t).acc.2.1) ∧ w3.cell? ⟨Z.g, t * 11 + 6, none⟩ = some (.int .i64 (S.ths t).acc.2.2) :=
  ⟨H3.out.cb 1 (by decide), (H3.out.cg t HEV.out.2.2.1).cell 4 (by decide), (H3.out.cg t HEV.out.2.2.1).cell 5 (by decide), (H3.out.cg t HEV.out.2.2.1).cell 6 (by decide)⟩
 clear hB3 hF3 HE2 H2
 refine hK.out _ _ hS4 (fun hS5 => ?_)
 clear hK K
 try simp only [Act.put, sC_I, sC_0, sC_1]
 refine tkE 12 ?_ rfl (by kernel_rfl) (fun _ _ _ h => h) hS5 ?_ ?_
 rotate_left
 · intro w hSw
   try dsimp only at hSw
   go_simp
   try (with_reducible rfl)
 try simp only [Act.put, sC_I, sC_0, sC_1]
 refine tkE 13 ?_ rfl (by kernel_rfl) (fun _ _ _ h => h) hS5 ?_ ?_
 rotate_left
 · intro w hSw
   try dsimp only at hSw
   go_simp
   try (with_reducible rfl)
 try simp only [Act.put, sC_I, sC_0, sC_1]
 refine tkE 14 ?_ rfl (by kernel_rfl) (fun _ _ _ h => h) hS5 ?_ ?_
 rotate_left
 · intro w hSw
   try dsimp only at hSw
   go_simp
   try (with_reducible rfl)
 try simp only [Act.put, sC_I, sC_0, sC_1]
 refine tkE 15 ?_ rfl (by kernel_rfl) (fun _ _ _ h => h) hS5 ?_ ?_
 rotate_left
 · intro w hSw
   try dsimp only at hSw
   go_simp
   try (with_reducible rfl)
 try simp only [Act.put, sC_I, sC_0, sC_1]
 refine wpAnyH_done (by kernel_rfl) ?_ _
 try simp only [Act.put, sC_I, sC_0, sC_1, List.getElem_toArray, List.getElem_cons_succ, List.getElem_cons_zero]
 clear hS0 hS2 hS3 hS4 hS5
 have HFR3 := hQ' (fun (k : Nat) (hk : k < w1.heap.size) (h0 : ow k = 0) => show w3.heap[k]? = w1.heap[k]? from by
  have h1 : k < W1.drew.heap.size := by show k < W1.heap.size; rw [HSZ.out]; exact hk
  exact (HF3.out.block k (Nat.lt_of_lt_of_le h1 HF2.out.size) (by rw [h0]; decide)).trans ((HF2.out.block k h1 (fun e => by rw [e, HOB.out.1] at h0; cases h0)).trans (HKK.out k h0)))
 have HOW3 := hQ' (fun (k : Nat) (hk : k < w1.heap.size) => show (fun k => if w2.heap.size ≤ k ∧ k < w3.heap.size then 3 else ow k) k = ow k from if_neg (by have h1 := HF2.out.size; have h2 := HSZ.out; have h3 : W1.drew.heap.size = W1.heap.size := rfl; omega))
 have HS3 := hQ' (show w1.heap.size ≤ w3.heap.size from by have h1 := HF2.out.size; have h2 := HSZ.out; have h3 : W1.drew.heap.size = W1.heap.size := rfl; have h4 := HF3.out.size; omega)
 clear HF2 HF3 HKK HSZ
 generalize (fun k => if w2.heap.size ≤ k ∧ k < w3.heap.size then 3 else ow k) = ow3 at *
 have HRA : Hid (w3.ownsRow Z.B 3 1 (va t) (S.ths t).ans.length (icells (S.ths t).ans)) := hQ' (H3.out.ra t HEV.out.2.2.1)
 have HOA := hQ' (fun k (e : (va t).ownBlock = some k) => show ow3 k = 4 + 2 * t from H3.out.oa t k HEV.out.2.2.1 e)
 have g3 : w3.cell? ⟨Z.g, t * 11 + 3, none⟩ = some (va t) := (H3.out.cg t HEV.out.2.2.1).cell 3 (by decide)
 obtain ⟨i0, hi, hz0, hz1, hz2⟩ := info_parts infoInt
 have HI := hQ' hi
 have HZ0 := hQ' hz0
 have HZ1 := hQ' hz1
 have HZ2 := hQ' hz2
 have HX := hQ' (fun (w4 : World) (g1 cap : Nat) => H3.out.growA (W1 := w4) (t := t) HEV.out.2.2.1 (g1 := g1) (cap := cap) (x := r1))
 have HSB := hQ' H3.out.sz
 clear hi hz0 hz1 hz2 H3
 obtain ⟨Aa, ca, hva, hac, _⟩ := own_form HRA.out
 rw [hva] at g3 HRA
 dsimp only at HX
 obtain ⟨n, hn⟩ : ∃ n, (S.ths t).ans.length = n := ⟨_, rfl⟩
 have HNN := hQ' hn
 rw [hn] at HRA HX hva g3
 rw [hva] at HX
 have HVA := hQ' hva
 have HVO := hQ' (fun k (e : Value.ownBlock (.slice Aa n ca) = some k) => show ow3 k = 4 + 2 * t ∧ k < w3.heap.size from by
  exact ⟨HOA.out k (by rw [hva]; exact e), (HRA.out.lt k e).2⟩)
 have HAN := hQ' (show n ≤ 100000 by have := HEV.out.2.2.2.1; omega)
 clear hn hva hac
 go_upto_region 19 with (at_builtin; refine wpList_push3 (news := [.int .i64 r1]) rfl (.tmp 75) (.tmp 77) 25 rfl Z.B i0 (.int .i64 0) 1 8 Tryz.underlying25 HI.out HZ0.out HZ1.out HZ2.out rfl (by decide) _ n (icells (S.ths t).ans) rfl HRA.out rfl rfl (by simp [Value.oneCell']) (by decide) (by have := HAN.out; omega) HSB.out ?_; intro g1 cap w4 hown4 hg4 hor4 hlt4 hbel4; obtain ⟨c3, f3, HB4'⟩ := HX.out w4 g1 cap hg4 hown4 hor4; have HG4 := hQ' (And.intro hg4 hor4); have HB4 := hQ' HB4'; clear HB4' hown4 hg4 hor4 hlt4 hbel4)
 have HOW5 := hQ' (fun (k : Nat) (hk : k < w1.heap.size) => show (fun k => if k = g1 then 4 + 2 * t else ow3 k) k = ow k from by
  show (if k = g1 then 4 + 2 * t else ow3 k) = ow k
  by_cases e : k = g1
  · rw [if_pos e]
    rcases HG4.out.2 with h | h
    · rw [← HOW3.out k hk, e]; exact (HVO.out g1 h).1.symm
    · have := HS3.out; omega
  · rw [if_neg e]; exact HOW3.out k hk)
 have HFR5 := hQ' (fun (k : Nat) (hk : k < w1.heap.size) (h0 : ow k = 0) => show (w4.setCell ⟨Z.g, t * 11 + 3, none⟩ (.slice (some ⟨g1, 0, none⟩) (n + 1) cap)).heap[k]? = w1.heap[k]? from by
  rw [Below.heap_setCell w4 ⟨Z.g, t * 11 + 3, none⟩ _ k (fun e => by rw [e, HOB.out.2] at h0; cases h0)]
  exact (HG4.out.1.block k (by have := HS3.out; omega) (fun e => by have h1 := (HVO.out k e.symm).1; rw [HOW3.out k hk] at h1; omega)).trans (HFR3.out k hk h0))
 have HS5 := hQ' (show w1.heap.size ≤ (w4.setCell ⟨Z.g, t * 11 + 3, none⟩ (.slice (some ⟨g1, 0, none⟩) (n + 1) cap)).heap.size from by have := HS3.out; have := HG4.out.1.size; simp; omega)
 generalize w4.setCell ⟨Z.g, t * 11 + 3, none⟩ (.slice (some ⟨g1, 0, none⟩) (n + 1) cap) = W5 at *
 clear c3 f3 HX HRA g3 HI HZ0 HZ1 HZ2 HG4 HVO HOA HVA HFR3 HOW3
 generalize (fun k => if k = g1 then 4 + 2 * t else ow3 k) = ow5 at *
 generalize (fun i => if i = t then Value.slice (some ⟨g1, 0, none⟩) (n + 1) cap else va i) = va5 at *
 have hc := (HB4.out.cg t HEV.out.2.2.1).cell
 rw [put_same] at hc
 obtain ⟨ac, hacs⟩ : ∃ k, (S.ths t).accs = k := ⟨_, rfl⟩
 have g9 : W5.cell? ⟨Z.g, t * 11 + 9, none⟩ = some (.int .i64 ac) := by rw [← hacs]; exact hc 9 (by decide)
 have f9 := HB4.out.fg (t * 11 + 9)
 obtain ⟨a1, ha1⟩ : ∃ k, ac + 1 = k := ⟨_, rfl⟩
 have hwa : wrap64 ((ac : Int) + 1) = (a1 : Int) := by have := HEV.out.2.2.2.2; rw [← ha1]; exact tick_wrap (by omega)
 have HES := hQ' (show endS Z.M t S.tick = (⟨S.n, S.ths, u', drawN' Z.M t S.tick, S.now + 1⟩ : WD).put t { S.ths t with ans := (S.ths t).ans ++ [r1], accs := a1 } from by
  unfold endS
  rw [show S.tick.bank = S.bank from rfl, HDV.out, HR.out, ← ha1, ← hacs]
  rfl)
 have HA := hQ' (HB4.out.stG (j := 9) HEV.out.2.2.1 (by decide) (.int .i64 a1) { S.ths t with ans := (S.ths t).ans ++ [r1], accs := a1 } (fun i hi => by match i, hi with | 0, _ | 1, _ | 2, _ | 3, _ | 4, _ | 5, _ | 6, _ | 7, _ | 8, _ | 9, _ | 10, _ => rfl) rfl rfl)
 have HFR6 := hQ' (fun (k : Nat) (hk : k < w1.heap.size) (h0 : ow k = 0) => show (W5.setCell ⟨Z.g, t * 11 + 9, none⟩ (.int .i64 a1)).heap[k]? = w1.heap[k]? from (Below.heap_setCell W5 ⟨Z.g, t * 11 + 9, none⟩ _ k (fun e => by rw [e, HOB.out.2] at h0; cases h0)).trans (HFR5.out k hk h0))
 have HS6 := hQ' (show w1.heap.size ≤ (W5.setCell ⟨Z.g, t * 11 + 9, none⟩ (.int .i64 a1)).heap.size from by have := HS5.out; simp; omega)
 clear hc HB4 hacs ha1 HFR5 HS5
 go_wp2_with fail
 refine wp_label ?_
 clear g9 f9
 generalize W5.setCell ⟨Z.g, t * 11 + 9, none⟩ (.int .i64 a1) = W6 at *
 have HP6 := hQ' (HPL.out W6 va5 ow5 (by rw [HES.out]; exact HA.out) HOW5.out)
 clear HPL HA HES
 obtain ⟨i0, hi', hz0, hz1, hz2⟩ := info_parts infoEv
 have HIE := hQ' hi'
 have HZ0 := hQ' hz0
 have HZ1 := hQ' hz1
 have HZ2 := hQ' hz2
 clear hi' hz0 hz1 hz2
 go_wp2_with fail
 refine HP6.out.mono ?_
 rintro e w7 ⟨v, va', vl', ow', rfl, hE, hW, hO, hF, hV⟩
 have HE7 := hQ' hE
 have HW7 := hQ' hW
 have HALL := hQ' (fun (v8 : Value) (w8 : World) (h1 : w8.ownsRow w7.heap.size 60 7 v8 (0 + evs.length) ([] ++ evs.flatMap evL)) (h2 : w7.grownBy w8 (Value.ownBlock (.slice none 0 0))) (h3 : Below w7.heap.size w7 w8) =>
  show PickPost Z N w1 ow evs S1 (.returned v8) w8 from by
   have hup : Up w7 w8 := h3
   rw [List.nil_append, Nat.zero_add] at h1
   have hs7 : w1.heap.size ≤ w7.heap.size := by
    rcases Nat.lt_or_ge w7.heap.size W6.heap.size with h | h
    · have h1 := hF w7.heap.size h (fun e => by have := hW.gt; omega)
      rw [Array.getElem?_eq_none (Nat.le_refl _), Array.getElem?_eq_getElem h] at h1
      cases h1
    · exact Nat.le_trans HS6.out h
   exact ⟨v8, va', vl', ow', N, rfl, own_base h1 hs7, by omega, hW.grow hup, fun k hk => (hO k (Nat.lt_of_lt_of_le hk HS6.out)).trans (HOW5.out k hk), fun k hk h0 => (hup.block k (by omega)).trans ((hF k (Nat.lt_of_lt_of_le hk HS6.out) (fun e => by rw [e, HOB.out.2] at h0; cases h0)).trans (HFR6.out k hk h0)), fun k e => hW.free (h1.lt k e).1⟩)
 clear hE hW hO hF hV HP6
 go_wp2_with (at_builtin; refine wpList_appendOwn rfl (.tmp 88) (.tmp 91) 30 rfl w7.heap.size 60 i0 (.agg #[.int .i64 0, .int .i64 0, .int .i64 0, .int .i64 0, .int .i64 0, .int .i64 0, .int .i64 0]) 7 56 Tryz.underlying30 HIE.out HZ0.out HZ1.out HZ2.out rfl (by decide) _ 0 [] rfl (own_nil _ _ _ _) _ _ evs.length (evs.flatMap evL) rfl HE7.out (evL_one evs) (by decide) (by have := HEV.out.1; omega) (Nat.le_refl _) ?_; intro v8 w8 hown8 hg8 hbel8 hat8; have H8 := hQ' (HALL.out v8 w8 hown8 hg8 hbel8); clear HE7 hown8 hg8 hbel8 hat8)
 go_ret
 exact H8.out
end Go.Proofs.YtpodgcpkccpnfaaGreat

namespace Go.Proofs.YtpodgcpkccpnfaaGreat
open Go.RowKit
theorem whalt_done {Z : WK} {W : World} {S : WD} {N : Nat} {va vl : Nat → Value} {ow : Nat → Nat} (H : Wd Z W S N va vl ow) (hZ : ZOK Z) {t : Nat} (ht : t < Z.n) (hh : (S.ths t).halted = true) :
 Calls Tryz.prog 25 #[.pointer (some ⟨Z.b, 0, none⟩), .int .i64 t] W (PickPost Z N W ow [] S) := by
 have HAT := hQ' (wat_any Z.b Z.g Z.n Z.c1 t W (H.cb 2 (by decide)) ht hZ.n8 hZ.cap)
 have g10 : W.cell? ⟨Z.g, t * 11 + 10, none⟩ = some (.bool true) := by have h := (H.cg t ht).cell 10 (by decide); rw [← hh]; exact h
 have HN := hQ' H
 clear H hh ht hZ
 go_enter Tryz.func25, Tryz.ntmps25
 go_wp2_with fail
 refine HAT.out.mono ?_
 rintro e w1 ⟨rfl, rfl⟩
 go_wp2_with fail
 go_ret
 exact ⟨_, va, vl, ow, N, rfl, EvRow.nil _ _, by omega, HN.out, fun _ _ => rfl, fun k _ h => rfl, fun k e => by cases e⟩
theorem own_one (w : World) (news : List Value) (e : TypeId) (size : Nat) (hl : news.length = size) : (w.alloc (.cells news.toArray e)).ownsRow w.heap.size e size (.slice (some ⟨w.heap.size, 0, none⟩) 1 1) 1 news :=
 ⟨by omega, .inr ⟨w.heap.size, 1, news.toArray, rfl, Nat.le_refl _, heap_alloc_new w _, Nat.le_refl _, by unfold maxLen; decide, by simp [hl], by rw [Nat.one_mul, ← hl]; simp⟩⟩
theorem whalt_any {Z : WK} {W : World} {S : WD} {N : Nat} {va vl : Nat → Value} {ow : Nat → Nat} (H : Wd Z W S N va vl ow) (hZ : ZOK Z) {t : Nat} (ht : t < Z.n) (hh : (S.ths t).halted = false) :
 Calls Tryz.prog 25 #[.pointer (some ⟨Z.b, 0, none⟩), .int .i64 t] W (PickPost Z N W ow [⟨S.now, 4, t, (S.ths t).next, 0, 0, 0⟩] (S.put t { S.ths t with halted := true })) := by
 have HAT := hQ' (wat_any Z.b Z.g Z.n Z.c1 t W (H.cb 2 (by decide)) ht hZ.n8 hZ.cap)
 have g10 : W.cell? ⟨Z.g, t * 11 + 10, none⟩ = some (.bool false) := by have h := (H.cg t ht).cell 10 (by decide); rw [← hh]; exact h
 have f10 := H.fg (t * 11 + 10)
 have hps : Wd Z W (S.put t (S.ths t)) N va vl ow := by rw [put_self]; exact H
 have HN := hQ' (hps.stG (j := 10) ht (by decide) (.bool true) { S.ths t with halted := true } (fun i hi => by match i, hi with | 0, _ | 1, _ | 2, _ | 3, _ | 4, _ | 5, _ | 6, _ | 7, _ | 8, _ | 9, _ | 10, _ => rfl) rfl rfl)
 have HKK := hQ' (fun (k : Nat) (hk : ow k = 0) => show (W.setCell ⟨Z.g, t * 11 + 10, none⟩ (.bool true)).heap[k]? = W.heap[k]? from Below.heap_setCell W ⟨Z.g, t * 11 + 10, none⟩ _ k (fun e => by rw [e, H.og] at hk; cases hk))
 have HSZ := hQ' (show (W.setCell ⟨Z.g, t * 11 + 10, none⟩ (.bool true)).heap.size = W.heap.size by simp)
 have HT := hQ' ht
 clear H hps hh ht hZ
 go_enter Tryz.func25, Tryz.ntmps25
 go_wp2_with fail
 refine HAT.out.mono ?_
 rintro e w1 ⟨rfl, rfl⟩
 go_upto_region 5 with fail
 clear g10 f10 HAT
 generalize w1.setCell ⟨Z.g, t * 11 + 10, none⟩ (.bool true) = W1 at *
 have hsu : ∀ W', Up W1 W' → W'.cell? ⟨Z.b, 5, none⟩ = some (.int .i64 S.now) ∧ W'.cell? ⟨Z.g, t * 11 + 1, none⟩ = some (.int .i64 (S.ths t).next) := fun W' u => by
  have hc := ((HN.out.grow u).cg t HT.out).cell
  rw [put_same] at hc
  exact ⟨(HN.out.grow u).cb 5 (by decide), hc 1 (by decide)⟩
 have hS := hsu W1.drew (Up.refl W1).drew
 have HSU := hQ' hsu
 obtain ⟨nx, hnx⟩ : ∃ n, (S.ths t).next = n := ⟨_, rfl⟩
 obtain ⟨nw, hnw⟩ : ∃ n, S.now = n := ⟨_, rfl⟩
 rw [hnx, hnw] at hS HSU
 have HNX := hQ' (And.intro hnx hnw)
 clear hsu hnx hnw
 refine wp_region_held_drew (S := fun w' => w'.cell? ⟨Z.b, 5, none⟩ = some (.int .i64 nw) ∧ w'.cell? ⟨Z.g, t * 11 + 1, none⟩ = some (.int .i64 nx)) (by kernel_rfl) hS (fun hS0 => ?_)
 clear hS
 refine tkE 0 ?_ rfl (by kernel_rfl) (fun _ _ _ h => h) hS0 ?_ ?_
 rotate_left
 · intro w hSw
   try dsimp only at hSw
   go_simp
   try (with_reducible rfl)
 try simp only [Act.put, sC_I, sC_0, sC_1]
 refine tkE 1 ?_ rfl (by kernel_rfl) (fun _ _ _ h => h) hS0 ?_ ?_
 rotate_left
 · intro w hSw
   try dsimp only at hSw
   go_simp
   try (with_reducible rfl)
 try simp only [Act.put, sC_I, sC_0, sC_1]
 refine tkE 2 ?_ rfl (by kernel_rfl) (fun _ _ _ h => h) hS0 ?_ ?_
 rotate_left
 · intro w hSw
   try dsimp only at hSw
   go_simp
   try (with_reducible rfl)
 try simp only [Act.put, sC_I, sC_0, sC_1]
 refine tkE 3 ?_ rfl (by kernel_rfl) (fun _ _ _ h => h) hS0 ?_ ?_
 rotate_left
 · intro w hSw
   try dsimp only at hSw
   go_simp
   try (with_reducible rfl)
 try simp only [Act.put, sC_I, sC_0, sC_1]
 refine tkE 4 ?_ rfl (by kernel_rfl) (fun _ _ _ h => h) hS0 ?_ ?_
 rotate_left
 · intro w hSw
   try dsimp only at hSw
   go_simp
   try (with_reducible rfl)
 try simp only [Act.put, sC_I, sC_0, sC_1]
 refine tkE 5 ?_ rfl (by kernel_rfl) (fun _ _ _ h => h) hS0 ?_ ?_
 rotate_left
 · intro w hSw
   try dsimp only at hSw
   go_simp
   try (with_reducible rfl)
 try simp only [Act.put, sC_I, sC_0, sC_1]
 refine tkE 6 ?_ rfl (by kernel_rfl) (fun _ _ _ h => h) hS0 ?_ ?_
 rotate_left
 · intro w hSw
   try dsimp only at hSw
   go_simp
   try (with_reducible rfl)
 try simp only [Act.put, sC_I, sC_0, sC_1]
 refine tkE 7 ?_ rfl (by kernel_rfl) (fun _ _ _ h => h) hS0 ?_ ?_
 rotate_left
 · intro w hSw
   try dsimp only at hSw
   go_simp
   try (with_reducible rfl)
 try simp only [Act.put, sC_I, sC_0, sC_1]
 refine tkE 8 ?_ rfl (by kernel_rfl) (fun _ _ _ h => h) hS0 ?_ ?_
 rotate_left
 · intro w hSw
   try dsimp only at hSw
   go_simp
   try (with_reducible rfl)
 try simp only [Act.put, sC_I, sC_0, sC_1]
 refine tkE 9 ?_ rfl (by kernel_rfl) (fun _ _ _ h => h) hS0 ?_ ?_
 rotate_left
 · intro w hSw
   try dsimp only at hSw
   go_simp
   try (with_reducible rfl)
 try simp only [Act.put, sC_I, sC_0, sC_1]
 refine rdE 10 (by kernel_rfl) rfl fun K hK => ?_
 go_simp
 refine hK.out _ _ (HSU.out _ (((Up.refl W1).alloc _).drew)) (fun hS1 => ?_)
 clear hK K
 try simp only [Act.put, sC_I, sC_0, sC_1]
 refine tkE 11 ?_ rfl (by kernel_rfl) (fun _ _ _ h => h) hS1 ?_ ?_
 rotate_left
 · intro w hSw
   try dsimp only at hSw
   go_simp
   try (with_reducible rfl)
 try simp only [Act.put, sC_I, sC_0, sC_1]
 refine wpAnyH_done (by kernel_rfl) ?_ _
 try simp only [Act.put, sC_I, sC_0, sC_1, List.getElem_toArray, List.getElem_cons_succ, List.getElem_cons_zero]
 have HR := hQ' (show EvRow (W1.alloc (.cells #[.int .i64 nw, .int .i64 4, .int .i64 t, .int .i64 nx, .int .i64 0, .int .i64 0, .int .i64 0] 60)).drew W1.heap.size (.slice (some ⟨W1.heap.size, 0, none⟩) 1 1) [⟨nw, 4, t, nx, 0, 0, 0⟩] from own_one W1 [.int .i64 nw, .int .i64 4, .int .i64 t, .int .i64 nx, .int .i64 0, .int .i64 0, .int .i64 0] 60 7 rfl)
 have hU : Up W1 (W1.alloc (.cells #[.int .i64 nw, .int .i64 4, .int .i64 t, .int .i64 nx, .int .i64 0, .int .i64 0, .int .i64 0] 60)).drew := ((Up.refl W1).alloc _).drew
 have HU := hQ' hU
 clear hS0 hS1 hU HSU
 go_wp2_with fail
 go_ret
 have hev : (⟨S.now, 4, t, (S.ths t).next, 0, 0, 0⟩ : EvD) = ⟨nw, 4, t, nx, 0, 0, 0⟩ := by rw [HNX.out.1, HNX.out.2]
 refine ⟨_, va, vl, ow, N, rfl, by rw [hev, ← HSZ.out]; exact HR.out, by omega, HN.out.grow HU.out, fun _ _ => rfl, fun k hk h0 => (HU.out.block k (by rw [HSZ.out]; exact hk)).trans (HKK.out k h0), fun k e => ?_⟩
 exact HN.out.free (World.ownsRow.lt HR.out k e).1
end Go.Proofs.YtpodgcpkccpnfaaGreat

namespace Go.Proofs.YtpodgcpkccpnfaaGreat
open Go.RowKit
section
variable {Z : WK} {W : World} {S : WD} {N : Nat} {va vl : Nat → Value} {ow : Nat → Nat}
theorem wnow_any (H : Wd Z W S N va vl ow) : Calls Tryz.prog 27 #[.pointer (some ⟨Z.b, 0, none⟩)] W fun e w' => e = .returned (.int .i64 S.now) ∧ w' = W := by
 have b5 : W.cell? ⟨Z.b, 5, none⟩ = some (.int .i64 S.now) := H.cb 5 (by decide)
 clear H
 go_enter Tryz.func27, Tryz.ntmps27
 go_wp2_with fail
 go_ret
 exact ⟨rfl, rfl⟩
theorem wnext_any (H : Wd Z W S N va vl ow) (hZ : ZOK Z) {t : Nat} (ht : t < Z.n) : Calls Tryz.prog 29 #[.pointer (some ⟨Z.b, 0, none⟩), .int .i64 t] W fun e w' => e = .returned (.int .i64 (S.ths t).next) ∧ w' = W := by
 have HAT := hQ' (wat_any Z.b Z.g Z.n Z.c1 t W (H.cb 2 (by decide)) ht hZ.n8 hZ.cap)
 have g1 : W.cell? ⟨Z.g, t * 11 + 1, none⟩ = some (.int .i64 (S.ths t).next) := (H.cg t ht).cell 1 (by decide)
 clear H ht hZ
 go_enter Tryz.func29, Tryz.ntmps29
 go_wp2_with fail
 refine HAT.out.mono ?_
 rintro e w1 ⟨rfl, rfl⟩
 go_wp2_with fail
 go_ret
 exact ⟨rfl, rfl⟩
theorem waccs_any (H : Wd Z W S N va vl ow) (hZ : ZOK Z) {t : Nat} (ht : t < Z.n) : Calls Tryz.prog 31 #[.pointer (some ⟨Z.b, 0, none⟩), .int .i64 t] W fun e w' => e = .returned (.int .i64 (S.ths t).accs) ∧ w' = W := by
 have HAT := hQ' (wat_any Z.b Z.g Z.n Z.c1 t W (H.cb 2 (by decide)) ht hZ.n8 hZ.cap)
 have g1 : W.cell? ⟨Z.g, t * 11 + 9, none⟩ = some (.int .i64 (S.ths t).accs) := (H.cg t ht).cell 9 (by decide)
 clear H ht hZ
 go_enter Tryz.func31, Tryz.ntmps31
 go_wp2_with fail
 refine HAT.out.mono ?_
 rintro e w1 ⟨rfl, rfl⟩
 go_wp2_with fail
 go_ret
 exact ⟨rfl, rfl⟩
def phaseV (th : ThD) : Int := if th.halted = true then 3 else if th.st = 0 ∧ th.prog.length ≤ th.next then 4 else th.st
theorem wphase_any (H : Wd Z W S N va vl ow) (hZ : ZOK Z) {t : Nat} (ht : t < Z.n) {PA : Option Addr} {pc : Nat} (hpv : Z.pv t = .slice PA (S.ths t).prog.length pc) : Calls Tryz.prog 30 #[.pointer (some ⟨Z.b, 0, none⟩), .int .i64 t] W fun e w' => e = .returned (.int .i64 (phaseV (S.ths t))) ∧ Up W w' := by
 have HAT := hQ' (wat_any Z.b Z.g Z.n Z.c1 t W (H.cb 2 (by decide)) ht hZ.n8 hZ.cap)
 have g10 : W.cell? ⟨Z.g, t * 11 + 10, none⟩ = some (.bool (S.ths t).halted) := (H.cg t ht).cell 10 (by decide)
 have g7 : W.cell? ⟨Z.g, t * 11 + 7, none⟩ = some (.int .i64 (S.ths t).st) := (H.cg t ht).cell 7 (by decide)
 have g1 : W.cell? ⟨Z.g, t * 11 + 1, none⟩ = some (.int .i64 (S.ths t).next) := (H.cg t ht).cell 1 (by decide)
 have g0 : W.cell? ⟨Z.g, t * 11, none⟩ = some (.slice PA (S.ths t).prog.length pc) := by rw [← hpv]; exact (H.cg t ht).cell 0 (by decide)
 obtain ⟨v, hv⟩ : ∃ v, phaseV (S.ths t) = v := ⟨_, rfl⟩
 rw [hv]
 have HV := hQ' hv
 unfold phaseV at HV
 generalize (S.ths t).prog.length = pl at *
 generalize (S.ths t).next = nx at *
 generalize (S.ths t).st = st at *
 clear H ht hZ hpv hv
 by_cases hh : (S.ths t).halted = true
 · rw [hh] at g10
   have hv : 3 = v := by rw [← HV.out, if_pos hh]
   subst hv
   clear hh HV
   go_enter Tryz.func30, Tryz.ntmps30
   go_wp2_with fail
   refine HAT.out.mono ?_
   rintro e w1 ⟨rfl, rfl⟩
   go_wp2_with fail
   go_ret
   exact ⟨rfl, Up.refl _⟩
 · have hf : (S.ths t).halted = false := by simpa using hh
   rw [hf] at g10
   rw [if_neg hh] at HV
   clear hf hh
   by_cases h0 : st = 0
   · subst h0
     by_cases hl : pl ≤ nx
     · have hv : 4 = v := by rw [← HV.out, if_pos ⟨rfl, hl⟩]
       subst hv
       have hd : (pl : Int) ≤ (nx : Int) := by omega
       clear HV hl
       go_enter Tryz.func30, Tryz.ntmps30
       go_wp2_with fail
       refine HAT.out.mono ?_
       rintro e w1 ⟨rfl, rfl⟩
       go_upto_region 6 with fail
       go_quiet (fail)
       go_wp2_with fail
       go_ret
       exact ⟨rfl, Up.refl _ |>.drewN _⟩
     · have hv : 0 = v := by rw [← HV.out, if_neg (fun h => hl h.2)]
       subst hv
       have hd : (nx : Int) < (pl : Int) := by omega
       clear HV hl
       go_enter Tryz.func30, Tryz.ntmps30
       go_wp2_with fail
       refine HAT.out.mono ?_
       rintro e w1 ⟨rfl, rfl⟩
       go_upto_region 6 with fail
       go_quiet (fail)
       go_wp2_with fail
       go_ret
       exact ⟨rfl, Up.refl _ |>.drewN _⟩
   · have hv : st = v := by rw [← HV.out, if_neg (fun h => h0 h.1)]
     subst hv
     have hd : (st == 0) = false := by rw [beq_eq_false_iff_ne]; exact h0
     clear HV h0
     go_enter Tryz.func30, Tryz.ntmps30
     go_wp2_with fail
     refine HAT.out.mono ?_
     rintro e w1 ⟨rfl, rfl⟩
     go_upto_region 6 with fail
     go_quiet (fail)
     go_wp2_with fail
     go_ret
     exact ⟨rfl, Up.refl _ |>.drewN _⟩
end
end Go.Proofs.YtpodgcpkccpnfaaGreat

