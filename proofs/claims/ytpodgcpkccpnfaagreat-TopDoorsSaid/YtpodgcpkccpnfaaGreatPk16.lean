/-
  Parts of a proof, packed: WldE
-/
import Derived.Test.YtpodgcpkccpnfaaGreatPk01
import Derived.Test.YtpodgcpkccpnfaaGreatPk15
set_option linter.unusedVariables false
set_option linter.unusedSimpArgs false
set_option maxRecDepth 20000
set_option maxHeartbeats 16000000
namespace Go.Proofs.YtpodgcpkccpnfaaGreat
open Go.RowKit
structure Laid3 (W W1 : World) (q b : Nat) (me x0 x1 x2 : Int) : Prop where
 up : Up W W1
 b0 : W1.heap[q]? = some (.cells #[.pointer (some ⟨b, 0, none⟩)] 69 (0, 0))
 b1 : W1.heap[q + 1]? = some (.cells #[.int .i64 me] 3 (0, 0))
 b2 : W1.heap[q + 1 + 1]? = some (.cells #[.int .i64 x0, .int .i64 x1, .int .i64 x2] 65 (0, 0))
 sz : W1.heap.size = q + 1 + 1 + 1
theorem laid2 (W : World) (O1 O2 : Obj) (nq : Nat) : Up W (((W.alloc O1).alloc O2).drewN nq) ∧ (((W.alloc O1).alloc O2).drewN nq).heap[W.heap.size]? = some O1 ∧ (((W.alloc O1).alloc O2).drewN nq).heap[W.heap.size + 1]? = some O2 ∧ (((W.alloc O1).alloc O2).drewN nq).heap.size = W.heap.size + 1 + 1 := by
 have u1 : Up W (W.alloc O1) := (Up.refl W).alloc O1
 have u2 : Up (W.alloc O1) (((W.alloc O1).alloc O2).drewN nq) := ((Up.refl _).alloc O2).drewN nq
 have e1 := heap_alloc_new W O1
 have e2 := heap_alloc_new (W.alloc O1) O2
 rw [World.size_alloc] at e2
 refine ⟨u1.trans u2, (u2.block _ (by simp)).trans e1, e2, by simp⟩
theorem laid3 {W W0 : World} {q b : Nat} {me x0 x1 x2 : Int} (hu : Up W W0) (h0 : W0.heap[q]? = some (.cells #[.pointer (some ⟨b, 0, none⟩)] 69 (0, 0))) (h1 : W0.heap[q + 1]? = some (.cells #[.int .i64 me] 3 (0, 0))) (hs : W0.heap.size = q + 1 + 1) (hq : W.heap.size = q) :
 Laid3 W (W0.alloc (.cells #[.int .i64 x0, .int .i64 x1, .int .i64 x2] 65)).drew q b me x0 x1 x2 := by
 have hu0 : Up W0 (W0.alloc (.cells #[.int .i64 x0, .int .i64 x1, .int .i64 x2] 65)).drew := ((Up.refl W0).alloc _).drew
 have hb := heap_alloc_new W0 (.cells #[.int .i64 x0, .int .i64 x1, .int .i64 x2] 65)
 rw [hs] at hb
 exact ⟨hu.trans hu0, (hu0.block _ (by omega)).trans h0, (hu0.block _ (by omega)).trans h1, hb, by simp; omega⟩
theorem EvRow.push {w : World} {q j : Nat} {lv : Value} {l : List EvD} {e : EvD} (hj : l.length = j) (h : w.ownsRow q 60 7 lv (j + 1) (l.flatMap evL ++ evL e)) : EvRow w q lv (l ++ [e]) := by
 unfold EvRow
 rw [List.length_append, List.flatMap_append, hj]
 simpa using h
def WPlayPost (Z : WK) (N : Nat) (W : World) (ow : Nat → Nat) (evs : List EvD) (S' : WD) (e : Ending) (w' : World) : Prop := ∃ v va' vl' ow', e = .returned v ∧ EvRow w' W.heap.size v evs ∧ Wd Z w' S' N va' vl' ow' ∧
 (∀ k, k < W.heap.size → ow' k = ow k) ∧ (∀ k, k < W.heap.size → k ≠ Z.g → w'.heap[k]? = W.heap[k]?) ∧ ∀ k, v.ownBlock = some k → ow' k = 0
theorem geOut {n0 N0 : Nat} {A Nn L : Option Addr} (h : (∀ b' off, A = some ⟨b', off, none⟩ → N0 + 1 ≤ b') ∧ (∀ b' off, L = some ⟨b', off, none⟩ → N0 + 1 ≤ b') ∧ (∀ b' off, Nn = some ⟨b', off, none⟩ → N0 + 1 ≤ b')) (hn : n0 ≤ N0) : ∀ b off, (A = some ⟨b, off, none⟩ ∨ L = some ⟨b, off, none⟩ ∨ Nn = some ⟨b, off, none⟩) → n0 ≤ b := fun b off e => by
 rcases e with e | e | e
 · have := h.1 b off e; omega
 · have := h.2.1 b off e; omega
 · have := h.2.2 b off e; omega
theorem take_note (l : List (Int × Int)) (f : (Int × Int) → EvD) {nt j : Nat} (h : nt + j < l.length) : ((l.drop nt).map f).take (j + 1) = ((l.drop nt).map f).take j ++ [f (l.getD (nt + j) (0, 0))] := by
 have hj : j < ((l.drop nt).map f).length := by simp; omega
 rw [List.take_add_one, List.getElem?_eq_getElem hj]
 simp [List.getD_eq_getElem?_getD, List.getElem?_eq_getElem h]
theorem notes_len (l : List (Int × Int)) (f : (Int × Int) → EvD) (nt : Nat) : ((l.drop nt).map f).length = l.length - nt := by simp
def NotesD (S : WD) (t : Nat) (s' : TS) : List EvD := (s'.nts.drop (S.ths t).nts).map (fun k => noteEv S.now t (S.ths t).next k.1)
theorem wplay_any {Z : WK} {W : World} {S : WD} {N : Nat} {va vl : Nat → Value} {ow : Nat → Nat} (H : Wd Z W S N va vl ow) (hZ : ZOK Z) {t : Nat} (ht : t < Z.n) {ob : Option Addr} {on oc pb po pn pc : Nat} {x0 x1 x2 : Int}
 (hov : Z.ov = .slice ob on oc) (hpv : Z.pv t = .slice (some ⟨pb, po, none⟩) pn pc) (hpn : (S.ths t).next < pn) (hpc : pn ≤ pc ∧ pn ≤ 1000000 ∧ pc ≤ 9223372036854775807) (hcall : (S.ths t).call = (x0, x1, x2))
 (hcell : W.cell? ⟨pb, po + (S.ths t).next * 3, none⟩ = some (.int .i64 x0) ∧ W.cell? ⟨pb, po + (S.ths t).next * 3 + 1, none⟩ = some (.int .i64 x1) ∧ W.cell? ⟨pb, po + (S.ths t).next * 3 + 2, none⟩ = some (.int .i64 x2))
 (hdo : ∀ (W2 : World) (g' B : Nat), Below Z.B Z.w1 W2 → (∀ k, k < Z.w1.heap.size → ow k = 0 → W2.heap[k]? = Z.w1.heap[k]?) → Z.w1.heap.size ≤ g' → Tape1 W2 g' B ⟨(S.ths t).ans, (S.ths t).loc, [], []⟩ →
  Calls Tryz.prog 84 #[.pointer (some ⟨g', 0, none⟩), .slice ob on oc, .agg #[.int .i64 x0, .int .i64 x1, .int .i64 x2], .int .i64 t] W2 (TPost encR g' B W2 ((Z.M.P t (x0, x1, x2)).onT ⟨(S.ths t).ans, (S.ths t).loc, [], []⟩)))
 (hl0 : (S.ths t).loc.length ≤ 32768) (hl1 : (S.ths t).ans.length ≤ 5000) (hn1 : (S.ths t).nts ≤ 1000) (r : Option RD × TS) (hr : playO Z.M t (S.ths t) = r) (hn : r.2.nts.length ≤ 1000) (ha : r.2.acc.length ≤ 100000) (hac : r.1 = none → 1 ≤ r.2.acc.length) (hll : (shortL r.2.loc).length ≤ 1000000) :
 Calls Tryz.prog 57 #[.pointer (some ⟨Z.b, 0, none⟩), .int .i64 t] W (WPlayPost Z N W ow (playE Z.M t S) (playS Z.M t S)) := by
 have hE : playE Z.M t S = NotesD S t r.2 ++ (match r.1 with | none => [] | some v => [⟨S.now, 2, t, (S.ths t).next, 0, v.1, v.2⟩]) := by unfold playE NotesD; rw [hr]; rcases r with ⟨_ | _, _⟩ <;> rfl
 have hS' : playS Z.M t S = S.put t (match r.1 with
  | none => { S.ths t with nts := r.2.nts.length, acc := r.2.acc.getD (r.2.acc.length - 1) (0, 0, 0), st := 1 }
  | some _ => { S.ths t with loc := shortL r.2.loc, ans := [], nts := 0, st := 0, next := (S.ths t).next + 1 }) := by unfold playS playT; rw [hr]; rcases r with ⟨_ | _, _⟩ <;> rfl
 rw [hE, hS']
 have hp : (Z.M.P t (x0, x1, x2)).onT ⟨(S.ths t).ans, (S.ths t).loc, [], []⟩ = r := by rw [← hr]; unfold playO; rw [hcall]
 clear hr hE hS' hcall
 have b2 : W.cell? ⟨Z.b, 2, none⟩ = some (.slice (some ⟨Z.g, 0, none⟩) Z.n Z.c1) := H.cb 2 (by decide)
 have b2l := cell_lt b2
 have HH := hQ' H
 obtain ⟨ro, s'⟩ := r
 dsimp only at hn ha hac hll ⊢
 have HDO := hQ' hdo
 have HP := hQ' hp
 have HAC := hQ' hac
 have h0 : (0 : Int) ≤ (t : Int) := by omega
 have h1 : (t : Int) < (Z.n : Int) := by omega
 have hcap := hZ.cap
 have HT := hQ' ht
 have HZ := hQ' hZ
 have HPN := hQ' (And.intro hpn hpc)
 have HCE := hQ' hcell
 have HOV := hQ' hov
 have HPV := hQ' hpv
 have HNN := hQ' (And.intro hn1 (And.intro hn (And.intro ha (And.intro hll (And.intro hl0 hl1)))))
 have HL2 := hQ' (fun nq => laid2 W (.cells #[.pointer (some ⟨Z.b, 0, none⟩)] 69) (.cells #[.int .i64 t] 3) nq)
 have HB2 := hQ' (fun (nq : Nat) => (HL2.out nq).1.cell (p := ⟨Z.b, 2, none⟩) b2l)
 clear H hdo hp hac hn1 hn ha hll hl0 hl1 ht hZ hpn hpc hcell hov hpv
 go_enter Tryz.func57, Tryz.ntmps57
 go_wp2_with fail
 go_quiet (fail)
 rename_i nq
 go_upto_region 2 with fail
 clear b2 b2l HB2
 have HB0 := hQ' (HL2.out nq)
 obtain ⟨W0, hW0⟩ : ∃ x, (((W.alloc (.cells #[.pointer (some ⟨Z.b, 0, none⟩)] 69)).alloc (.cells #[.int .i64 t] 3)).drewN nq) = x := ⟨_, rfl⟩
 rw [hW0] at HB0 ⊢
 clear hW0 HL2
 have HBW := hQ' (show Z.b < W.heap.size ∧ Z.g < W.heap.size from ⟨HH.out.bt, HH.out.gt⟩)
 obtain ⟨q, hq⟩ : ∃ q, W.heap.size = q := ⟨_, rfl⟩
 have HQ := hQ' hq
 rw [hq] at HB0 HBW ⊢
 have HG0 := hQ' (HH.out.grow HB0.out.1)
 clear hq
 obtain ⟨nx, hnx⟩ : ∃ k, (S.ths t).next = k := ⟨_, rfl⟩
 have HNX := hQ' hnx
 rw [hnx] at HPN HCE
 have hsu : ∀ W', Up W0 W' → W'.cell? ⟨Z.g, t * 11, none⟩ = some (.slice (some ⟨pb, po, none⟩) pn pc) ∧ W'.cell? ⟨Z.g, t * 11 + 1, none⟩ = some (.int .i64 nx) ∧ W'.cell? ⟨pb, po + nx * 3, none⟩ = some (.int .i64 x0) ∧ W'.cell? ⟨pb, po + nx * 3 + 1, none⟩ = some (.int .i64 x1) ∧ W'.cell? ⟨pb, po + nx * 3 + 2, none⟩ = some (.int .i64 x2) := fun W' u => by
  have hw := HG0.out.grow u
  have hu := HB0.out.1.trans u
  have a0 : W'.cell? ⟨Z.g, t * 11 + 0, none⟩ = some (Z.pv t) := (hw.cg t HT.out).cell 0 (by decide)
  rw [HPV.out] at a0
  have a1 : W'.cell? ⟨Z.g, t * 11 + 1, none⟩ = some (.int .i64 (S.ths t).next) := (hw.cg t HT.out).cell 1 (by decide)
  rw [HNX.out] at a1
  exact ⟨a0, a1, (hu.cell (cell_lt HCE.out.1)).trans HCE.out.1, (hu.cell (cell_lt HCE.out.2.1)).trans HCE.out.2.1, (hu.cell (cell_lt HCE.out.2.2)).trans HCE.out.2.2⟩
 have HSU := hQ' hsu
 have hS := hsu W0.drew (Up.refl W0).drew
 have i0 : (0 : Int) ≤ (nx : Int) := by omega
 have i1 : (nx : Int) < (pn : Int) := by have := HPN.out.1; omega
 have i2 := HPN.out.2
 have HL3 := hQ' (laid3 (x0 := x0) (x1 := x1) (x2 := x2) HB0.out.1 HB0.out.2.1 HB0.out.2.2.1 HB0.out.2.2.2 HQ.out)
 clear hsu hnx
 refine wp_region_held_drew (S := fun w' => w'.cell? ⟨Z.g, t * 11, none⟩ = some (.slice (some ⟨pb, po, none⟩) pn pc) ∧ w'.cell? ⟨Z.g, t * 11 + 1, none⟩ = some (.int .i64 nx) ∧ w'.cell? ⟨pb, po + nx * 3, none⟩ = some (.int .i64 x0) ∧ w'.cell? ⟨pb, po + nx * 3 + 1, none⟩ = some (.int .i64 x1) ∧ w'.cell? ⟨pb, po + nx * 3 + 2, none⟩ = some (.int .i64 x2)) (by kernel_rfl) hS (fun hS0 => ?_)
 clear hS
 refine tkE 0 ?_ rfl (by kernel_rfl) (fun _ _ _ h => h) hS0 ?_ ?_
 rotate_left
 · intro w hSw
   try dsimp only at hSw
   go_simp
   try (with_reducible rfl)
 try simp only [Act.put, sC_I, sC_0, sC_1]
 refine tkE 1 ?_ rfl (by kernel_rfl) (fun _ _ _ h => h) hS0 ?_ ?_
 rotate_left
 · intro w hSw
   try dsimp only at hSw
   go_simp
   try (with_reducible rfl)
 try simp only [Act.put, sC_I, sC_0, sC_1]
 refine tkE 2 ?_ rfl (by kernel_rfl) (fun _ _ _ h => h) hS0 ?_ ?_
 rotate_left
 · intro w hSw
   try dsimp only at hSw
   go_simp
   try (with_reducible rfl)
 try simp only [Act.put, sC_I, sC_0, sC_1]
 refine tkE 3 ?_ rfl (by kernel_rfl) (fun _ _ _ h => h) hS0 ?_ ?_
 rotate_left
 · intro w hSw
   try dsimp only at hSw
   go_simp
   try (with_reducible rfl)
 try simp only [Act.put, sC_I, sC_0, sC_1]
 refine tkE 4 ?_ rfl (by kernel_rfl) (fun _ _ _ h => h) hS0 ?_ ?_
 rotate_left
 · intro w hSw
   try dsimp only at hSw
   go_simp
   try (with_reducible rfl)
 try simp only [Act.put, sC_I, sC_0, sC_1]
 refine tkE 5 ?_ rfl (by kernel_rfl) (fun _ _ _ h => h) hS0 ?_ ?_
 rotate_left
 · intro w hSw
   try dsimp only at hSw
   go_simp
   try (with_reducible rfl)
 try simp only [Act.put, sC_I, sC_0, sC_1]
 refine tkE 6 ?_ rfl (by kernel_rfl) (fun _ _ _ h => h) hS0 ?_ ?_
 rotate_left
 · intro w hSw
   try dsimp only at hSw
   go_simp
   try (with_reducible rfl)
 try simp only [Act.put, sC_I, sC_0, sC_1]
 refine tkE 7 ?_ rfl (by kernel_rfl) (fun _ _ _ h => h) hS0 ?_ ?_
 rotate_left
 · intro w hSw
   try dsimp only at hSw
   go_simp
   try (with_reducible rfl)
 try simp only [Act.put, sC_I, sC_0, sC_1]
 refine tkE 8 ?_ rfl (by kernel_rfl) (fun _ _ _ h => h) hS0 ?_ ?_
 rotate_left
 · intro w hSw
   try dsimp only at hSw
   go_simp
   try (with_reducible rfl)
 try simp only [Act.put, sC_I, sC_0, sC_1]
 refine tkE 9 ?_ rfl (by kernel_rfl) (fun _ _ _ h => h) hS0 ?_ ?_
 rotate_left
 · intro w hSw
   try dsimp only at hSw
   go_simp
   try (with_reducible rfl)
 try simp only [Act.put, sC_I, sC_0, sC_1]
 refine rdE 10 (by kernel_rfl) rfl fun K hK => ?_
 go_simp
 refine hK.out _ _ (HSU.out _ ((Up.refl W0).alloc _).drew) (fun hS1 => ?_)
 clear hK K
 try simp only [Act.put, sC_I, sC_0, sC_1]
 refine rdE 11 (by kernel_rfl) rfl fun K hK => ?_
 go_simp
 refine hK.out _ _ (HSU.out _ ((Up.refl W0).alloc _).drew) (fun hS2 => ?_)
 clear hK K
 try simp only [Act.put, sC_I, sC_0, sC_1]
 refine wpAnyH_done (by kernel_rfl) ?_ _
 try simp only [Act.put, sC_I, sC_0, sC_1, List.getElem_toArray, List.getElem_cons_succ, List.getElem_cons_zero]
 clear hS0 hS1 hS2 HSU HG0 i0 i1 i2
 generalize (W0.alloc (.cells #[.int .i64 x0, .int .i64 x1, .int .i64 x2] 65)).drew = W1 at *
 have hzq := HB0.out.2.2.2
 rw [hzq]
 clear hzq HB0
 have HH1 := hQ' (HH.out.grow HL3.out.up)
 obtain ⟨rp, hval⟩ : ∃ x, ro.getD (0, 0) = x := ⟨_, rfl⟩
 obtain ⟨x, y⟩ := rp
 have HVAL := hQ' hval
 obtain ⟨dn, hdn⟩ : ∃ x, ro.isSome = x := ⟨_, rfl⟩
 have HDN := hQ' hdn
 clear hval hdn
 go_wp2_with fail
 go_cut [7, 8] (fun v pz wx => ∃ (rb zb : Nat) (A : Option Addr) (c : Nat) (Nn : Option Addr) (d : Nat) (L : Option Addr) (e : Nat), v = .pointer (some ⟨rb, 0, none⟩) ∧ pz = .pointer (some ⟨zb, 0, none⟩) ∧ Hid (Boxed W1 wx rb zb (x, y) dn s' A c Nn d L e))
 case first =>
  have hmf : ∀ (fn : Fn) (first cap : Array Value) (w : World), (Instr.makeFunc fn first cap).run Tryz.prog w = .ok (.func fn first cap) w := fun _ _ _ _ => rfl
  obtain ⟨A0, c0, hva0, _, _⟩ := own_form (HH1.out.rl t HT.out)
  obtain ⟨A1, c2, hva1, _, _⟩ := own_form (HH1.out.ra t HT.out)
  have hsu : ∀ W', Up W1 W' → W'.cell? ⟨Z.g, t * 11 + 2, none⟩ = some (.slice A0 (S.ths t).loc.length c0) ∧ W'.cell? ⟨Z.g, t * 11 + 3, none⟩ = some (.slice A1 (S.ths t).ans.length c2) := fun W' u => by
   have hw := HH1.out.grow u
   have a0 : W'.cell? ⟨Z.g, t * 11 + 2, none⟩ = some (vl t) := (hw.cg t HT.out).cell 2 (by decide)
   have a1 : W'.cell? ⟨Z.g, t * 11 + 3, none⟩ = some (va t) := (hw.cg t HT.out).cell 3 (by decide)
   rw [hva0] at a0
   rw [hva1] at a1
   exact ⟨a0, a1⟩
  have hrl := HH1.out.rl t HT.out
  have hra := HH1.out.ra t HT.out
  rw [hva0] at hrl
  rw [hva1] at hra
  have HSU := hQ' hsu
  have HPL := hQ' (fun (W : World) (hU : Up W1 W) => playR 83 #[.pointer (some ⟨q, 0, none⟩), .pointer (some ⟨q + 1 + 1, 0, none⟩), .pointer (some ⟨q + 1, 0, none⟩)] ((Z.M.P t (x0, x1, x2)).onT) (S.ths t).loc (S.ths t).ans A0 A1 c0 c2 W (own_nil0 hrl) HNN.out.2.2.2.2.1 HNN.out.2.2.2.2.2 ((own_IValB hrl).up hU) ((own_IValB hra).up hU) (own_len hrl)
   (fun args W => enters Tryz.func83 (by kernel_rfl) rfl args W)
   (fun W' g' B' hU' hg' hT' => by
    have hUU := hU.trans hU'
    have hq1 := (hUU.block _ (Array.getElem?_eq_some_iff.1 HL3.out.b0).1).trans HL3.out.b0
    have hq2 := (hUU.block _ (Array.getElem?_eq_some_iff.1 HL3.out.b1).1).trans HL3.out.b1
    have hq3 := (hUU.block _ (Array.getElem?_eq_some_iff.1 HL3.out.b2).1).trans HL3.out.b2
    have hs1 := HL3.out.sz
    have hs2 := hU.size
    have hs3 := HBW.out
    have hob : W'.cell? ⟨Z.b, 0, none⟩ = some (.slice ob on oc) := by rw [← HOV.out]; exact (HH1.out.grow hUU).cb 0 (by decide)
    exact wcl_any g' B' (cell_of_one hq1) ⟨cell_of_row _ _ 0 _ _ _ hq3, cell_of_row _ _ 1 _ _ _ hq3, cell_of_row _ _ 2 _ _ _ hq3⟩ (cell_of_one hq2) hob ⟨by omega, by omega, by omega, by omega⟩ hT' (fun W2 hU2 hT2 => by
     have hw := HH1.out.grow (hUU.trans hU2)
     exact HDO.out W2 g' B' hw.up hw.ro (by have := HH1.out.up.size; omega) hT2)))
  rw [HP.out] at HPL
  dsimp only at HPL
  rw [HVAL.out, HDN.out] at HPL
  unfold encR at HPL
  clear HDO hsu hrl hra hva0 hva1
  have HU0 := hQ' (show Up W1 W1.drew from (Up.refl W1).drew)
  have hS := HSU.out W1.drew HU0.out
  refine wp_region_held_drew (S := fun w' => w'.cell? ⟨Z.g, t * 11 + 2, none⟩ = some (.slice A0 (S.ths t).loc.length c0) ∧ w'.cell? ⟨Z.g, t * 11 + 3, none⟩ = some (.slice A1 (S.ths t).ans.length c2)) (by kernel_rfl) hS (fun hS0 => ?_)
  clear hS
  generalize W1.drew = w0 at *
  refine tkE 0 ?_ rfl (by kernel_rfl) (fun _ _ _ h => h) hS0 ?_ ?_
  rotate_left
  · intro w hSw
    try dsimp only at hSw
    go_simp
    try (with_reducible rfl)
  try simp only [Act.put, sC_I, sC_0, sC_1]
  refine tkE 1 ?_ rfl (by kernel_rfl) (fun _ _ _ h => h) hS0 ?_ ?_
  rotate_left
  · intro w hSw
    try dsimp only at hSw
    go_simp
    try (with_reducible rfl)
  try simp only [Act.put, sC_I, sC_0, sC_1]
  refine tkE 2 ?_ rfl (by kernel_rfl) (fun _ _ _ h => h) hS0 ?_ ?_
  rotate_left
  · intro w hSw
    try dsimp only at hSw
    go_simp
    try (with_reducible rfl)
  try simp only [Act.put, sC_I, sC_0, sC_1]
  refine tkE 3 ?_ rfl (by kernel_rfl) (fun _ _ _ h => h) hS0 ?_ ?_
  rotate_left
  · intro w hSw
    try dsimp only at hSw
    go_simp
    try (with_reducible rfl)
  try simp only [Act.put, sC_I, sC_0, sC_1]
  refine tkE 4 ?_ rfl (by kernel_rfl) (fun _ _ _ h => h) hS0 ?_ ?_
  rotate_left
  · intro w hSw
    try dsimp only at hSw
    go_simp
    try (with_reducible rfl)
  try simp only [Act.put, sC_I, sC_0, sC_1]
  refine tkE 5 ?_ rfl (by kernel_rfl) (fun _ _ _ h => h) hS0 ?_ ?_
  rotate_left
  · intro w hSw
    try dsimp only at hSw
    go_simp
    try (with_reducible rfl)
  try simp only [Act.put, sC_I, sC_0, sC_1]
  refine tkE 6 ?_ rfl (by kernel_rfl) (fun _ _ _ h => h) hS0 ?_ ?_
  rotate_left
  · intro w hSw
    try dsimp only at hSw
    go_simp
    try (with_reducible rfl)
  try simp only [Act.put, sC_I, sC_0, sC_1]
  refine tkE 7 ?_ rfl (by kernel_rfl) (fun _ _ _ h => h) hS0 ?_ ?_
  rotate_left
  · intro w hSw
    try dsimp only at hSw
    go_simp
    try (with_reducible rfl)
  try simp only [Act.put, sC_I, sC_0, sC_1]
  refine tkE 8 ?_ rfl (by kernel_rfl) (fun _ _ _ h => h) hS0 ?_ ?_
  rotate_left
  · intro w hSw
    try dsimp only at hSw
    go_simp
    try (with_reducible rfl)
  try simp only [Act.put, sC_I, sC_0, sC_1]
  refine wpAnyH_ready (rs := [9, 13, 14]) (by kernel_rfl) (by simp) ?_
  refine AllReadyH.cons rfl (fun K hK => ?_) (AllReadyH.cons rfl (fun K hK => ?_) (AllReadyH.cons rfl (fun K hK => ?_) (AllReadyH.nil)))
  · go_simp
    refine (HPL.out w0 HU0.out).mono ?_
    rintro e w1 ⟨ov, rfl, ⟨A, c, Nn, d, L, e', rfl, r1, r2, r3, r4, r5, r6⟩, hu2⟩
    have HU1 := hQ' (HU0.out.trans hu2)
    have HA1 : Hid (Rows3 w1 s' A Nn L e') := hQ' ⟨r1, r2, r3, r4⟩
    have HG : Hid (∀ b off, (A = some ⟨b, off, none⟩ ∨ L = some ⟨b, off, none⟩ ∨ Nn = some ⟨b, off, none⟩) → W1.heap.size ≤ b) := hQ' (geOut r6 HU0.out.size)
    have hS := HSU.out w1 HU1.out
    clear r1 r2 r3 r4 r5 r6 hu2 hS0
    refine hK.out _ _ hS (fun hS1 => ?_)
    clear hK K
    try simp only [Act.put, sC_I, sC_0, sC_1]
    clear hS
    refine tkE 10 ?_ rfl (by kernel_rfl) (fun _ _ _ h => h) hS1 ?_ ?_
    rotate_left
    · intro w hSw
      try dsimp only at hSw
      go_simp
      try (with_reducible rfl)
    try simp only [Act.put, sC_I, sC_0, sC_1]
    refine tkE 11 ?_ rfl (by kernel_rfl) (fun _ _ _ h => h) hS1 ?_ ?_
    rotate_left
    · intro w hSw
      try dsimp only at hSw
      go_simp
      try (with_reducible rfl)
    try simp only [Act.put, sC_I, sC_0, sC_1]
    refine tkE 12 ?_ rfl (by kernel_rfl) (fun _ _ _ h => h) hS1 ?_ ?_
    rotate_left
    · intro w hSw
      try dsimp only at hSw
      go_simp
      try (with_reducible rfl)
    try simp only [Act.put, sC_I, sC_0, sC_1]
    refine wpAnyH_ready (rs := [13, 14]) (by kernel_rfl) (by simp) ?_
    refine AllReadyH.cons rfl (fun K hK => ?_) (AllReadyH.cons rfl (fun K hK => ?_) (AllReadyH.nil))
    · go_simp
      have hu2 : Up w1 (w1.alloc (.cells #[.int .i64 0, .int .i64 0] 58)) := (Up.refl _).alloc _
      have HU2 := hQ' (HU1.out.trans hu2)
      have HR2 : Hid (Box3 W1.heap.size (w1.alloc (.cells #[.int .i64 0, .int .i64 0] 58)) w1.heap.size (repO 0 0)) := hQ' (Box3.new HU1.out.size #[.int .i64 0, .int .i64 0] 58)
      have HA2 := hQ' (HA1.out.up hu2)
      have HOR := hQ' (HA1.out.new (Nat.le_refl _))
      have hS := HSU.out _ HU2.out
      clear hu2 hS1
      refine hK.out _ _ hS (fun hS2 => ?_)
      clear hK K
      try simp only [Act.put, sC_I, sC_0, sC_1]
      clear hS
      generalize w1.alloc (.cells #[.int .i64 0, .int .i64 0] 58) = w2 at *
      generalize w1.heap.size = rb at *
      refine wpAnyH_ready (rs := [14]) (by kernel_rfl) (by simp) ?_
      refine AllReadyH.cons rfl (fun K hK => ?_) (AllReadyH.nil)
      · go_simp
        have hu2 : Up w2 (w2.alloc (.cells #[.bool false, .slice none 0 0, .slice none 0 0, .slice none 0 0] 161)) := (Up.refl _).alloc _
        have HU3 := hQ' (HU2.out.trans hu2)
        have HO3 : Hid (Box3 W1.heap.size (w2.alloc (.cells #[.bool false, .slice none 0 0, .slice none 0 0, .slice none 0 0] 161)) w2.heap.size outO0) := hQ' (Box3.new HU2.out.size #[.bool false, .slice none 0 0, .slice none 0 0, .slice none 0 0] 161)
        have HA3 := hQ' (HA2.out.up hu2)
        have HOZ := hQ' (HA2.out.new (Nat.le_refl _))
        have HR3 := hQ' (HR2.out.up hu2)
        have hS := HSU.out _ HU3.out
        clear hu2 hS2
        refine hK.out _ _ hS (fun hS3 => ?_)
        clear hK K
        try simp only [Act.put, sC_I, sC_0, sC_1]
        clear hS
        generalize w2.alloc (.cells #[.bool false, .slice none 0 0, .slice none 0 0, .slice none 0 0] 161) = w3 at *
        generalize w2.heap.size = zb at *
        refine wpAnyH_ready (rs := [15]) (by kernel_rfl) (by simp) ?_
        refine AllReadyH.cons rfl (fun K hK => ?_) (AllReadyH.nil)
        · have hblk := HR3.out.blk
          unfold repO at hblk
          have r0 := cell_of_row w3 rb 0 _ _ _ hblk
          have f0 := frozen_of_row w3 rb 0 _ _ hblk
          have r1 := cell_of_row w3 rb 1 _ _ _ hblk
          have f1 := frozen_of_row w3 rb 1 _ _ hblk
          simp only [gA_T, gA_0, gA_S] at r0 r1
          clear hblk
          go_simp
          have hk : ∀ k, k ≠ rb → ((w3.setCell ⟨rb, 0, none⟩ (.int .i64 x)).setCell ⟨rb, 1, none⟩ (.int .i64 y)).heap[k]? = w3.heap[k]? := fun k hk => put2_other w3 rb k _ _ hk
          have HU4 : Hid (Up W1 ((w3.setCell ⟨rb, 0, none⟩ (.int .i64 x)).setCell ⟨rb, 1, none⟩ (.int .i64 y))) := hQ' (HU3.out.putN HR3.out.ge _ _)
          have HR4 : Hid (Box3 W1.heap.size ((w3.setCell ⟨rb, 0, none⟩ (.int .i64 x)).setCell ⟨rb, 1, none⟩ (.int .i64 y)) rb (repO x y)) := hQ' (Box3.putR HR3.out)
          have HA4 : Hid (Rows3 ((w3.setCell ⟨rb, 0, none⟩ (.int .i64 x)).setCell ⟨rb, 1, none⟩ (.int .i64 y)) s' A Nn L e') := hQ' (HA3.out.keep HOR.out (fun k hne _ => hk k hne))
          have HO4 := hQ' (HO3.out.keep (Ne.symm (HR3.out.ne0 HO3.out)) hk)
          have hS := HSU.out _ HU4.out
          clear hk r0 f0 r1 f1 hS3
          refine hK.out _ _ hS (fun hS4 => ?_)
          clear hK K
          try simp only [Act.put, sC_I, sC_0, sC_1]
          clear hS
          generalize (w3.setCell ⟨rb, 0, none⟩ (.int .i64 x)).setCell ⟨rb, 1, none⟩ (.int .i64 y) = w4 at *
          refine wpAnyH_ready (rs := [16]) (by kernel_rfl) (by simp) ?_
          refine AllReadyH.cons rfl (fun K hK => ?_) (AllReadyH.nil)
          · have hblk := HO4.out.blk
            unfold outO0 at hblk
            have r0 := cell_of_row w4 zb 0 _ _ _ hblk
            have f0 := frozen_of_row w4 zb 0 _ _ hblk
            have r1 := cell_of_row w4 zb 1 _ _ _ hblk
            have f1 := frozen_of_row w4 zb 1 _ _ hblk
            have r2 := cell_of_row w4 zb 2 _ _ _ hblk
            have f2 := frozen_of_row w4 zb 2 _ _ hblk
            have r3 := cell_of_row w4 zb 3 _ _ _ hblk
            have f3 := frozen_of_row w4 zb 3 _ _ hblk
            simp only [gA_T, gA_0, gA_S] at r0 r1 r2 r3
            clear hblk
            go_simp
            have hk : ∀ k, k ≠ zb → ((((w4.setCell ⟨zb, 0, none⟩ (.bool dn)).setCell ⟨zb, 1, none⟩ (.slice A s'.acc.length c)).setCell ⟨zb, 2, none⟩ (.slice Nn s'.nts.length d)).setCell ⟨zb, 3, none⟩ (.slice L (shortL s'.loc).length e')).heap[k]? = w4.heap[k]? := fun k hk => put4_other w4 zb k _ _ _ _ hk
            have HU5 : Hid (Up W1 ((((w4.setCell ⟨zb, 0, none⟩ (.bool dn)).setCell ⟨zb, 1, none⟩ (.slice A s'.acc.length c)).setCell ⟨zb, 2, none⟩ (.slice Nn s'.nts.length d)).setCell ⟨zb, 3, none⟩ (.slice L (shortL s'.loc).length e'))) := hQ' (HU4.out.putM HO4.out.ge _ _ _ _)
            have HO5 : Hid (Box3 W1.heap.size ((((w4.setCell ⟨zb, 0, none⟩ (.bool dn)).setCell ⟨zb, 1, none⟩ (.slice A s'.acc.length c)).setCell ⟨zb, 2, none⟩ (.slice Nn s'.nts.length d)).setCell ⟨zb, 3, none⟩ (.slice L (shortL s'.loc).length e')) zb (outO dn s' A Nn L c d e')) := hQ' (Box3.putO HO4.out)
            have HA5 : Hid (Rows3 ((((w4.setCell ⟨zb, 0, none⟩ (.bool dn)).setCell ⟨zb, 1, none⟩ (.slice A s'.acc.length c)).setCell ⟨zb, 2, none⟩ (.slice Nn s'.nts.length d)).setCell ⟨zb, 3, none⟩ (.slice L (shortL s'.loc).length e')) s' A Nn L e') := hQ' (HA4.out.keep HOZ.out (fun k hne _ => hk k hne))
            have HR5 := hQ' (HR4.out.keep (HR4.out.ne0 HO4.out) hk)
            have hS := HSU.out _ HU5.out
            clear hk r0 f0 r1 f1 r2 f2 r3 f3 hS4
            refine hK.out _ _ hS (fun hS5 => ?_)
            clear hK K
            try simp only [Act.put, sC_I, sC_0, sC_1]
            clear hS
            generalize (((w4.setCell ⟨zb, 0, none⟩ (.bool dn)).setCell ⟨zb, 1, none⟩ (.slice A s'.acc.length c)).setCell ⟨zb, 2, none⟩ (.slice Nn s'.nts.length d)).setCell ⟨zb, 3, none⟩ (.slice L (shortL s'.loc).length e') = w5 at *
            refine wpAnyH_done (by kernel_rfl) ?_ _
            try simp only [Act.put, sC_I, sC_0, sC_1, List.getElem_toArray, List.getElem_cons_succ, List.getElem_cons_zero]
            skip
            go_wp2_with fail
            go_meet
            exact ⟨rb, zb, A, c, Nn, d, L, e', rfl, rfl, hQ' ⟨HU5.out, HR5.out, HO5.out, HA5.out, HG.out⟩⟩
    · go_simp
      have hu2 : Up w1 (w1.alloc (.cells #[.bool false, .slice none 0 0, .slice none 0 0, .slice none 0 0] 161)) := (Up.refl _).alloc _
      have HU2 := hQ' (HU1.out.trans hu2)
      have HO2 : Hid (Box3 W1.heap.size (w1.alloc (.cells #[.bool false, .slice none 0 0, .slice none 0 0, .slice none 0 0] 161)) w1.heap.size outO0) := hQ' (Box3.new HU1.out.size #[.bool false, .slice none 0 0, .slice none 0 0, .slice none 0 0] 161)
      have HA2 := hQ' (HA1.out.up hu2)
      have HOZ := hQ' (HA1.out.new (Nat.le_refl _))
      have hS := HSU.out _ HU2.out
      clear hu2 hS1
      refine hK.out _ _ hS (fun hS2 => ?_)
      clear hK K
      try simp only [Act.put, sC_I, sC_0, sC_1]
      clear hS
      generalize w1.alloc (.cells #[.bool false, .slice none 0 0, .slice none 0 0, .slice none 0 0] 161) = w2 at *
      generalize w1.heap.size = zb at *
      refine wpAnyH_ready (rs := [13]) (by kernel_rfl) (by simp) ?_
      refine AllReadyH.cons rfl (fun K hK => ?_) (AllReadyH.nil)
      · go_simp
        have hu2 : Up w2 (w2.alloc (.cells #[.int .i64 0, .int .i64 0] 58)) := (Up.refl _).alloc _
        have HU3 := hQ' (HU2.out.trans hu2)
        have HR3 : Hid (Box3 W1.heap.size (w2.alloc (.cells #[.int .i64 0, .int .i64 0] 58)) w2.heap.size (repO 0 0)) := hQ' (Box3.new HU2.out.size #[.int .i64 0, .int .i64 0] 58)
        have HA3 := hQ' (HA2.out.up hu2)
        have HOR := hQ' (HA2.out.new (Nat.le_refl _))
        have HO3 := hQ' (HO2.out.up hu2)
        have hS := HSU.out _ HU3.out
        clear hu2 hS2
        refine hK.out _ _ hS (fun hS3 => ?_)
        clear hK K
        try simp only [Act.put, sC_I, sC_0, sC_1]
        clear hS
        generalize w2.alloc (.cells #[.int .i64 0, .int .i64 0] 58) = w3 at *
        generalize w2.heap.size = rb at *
        refine wpAnyH_ready (rs := [15]) (by kernel_rfl) (by simp) ?_
        refine AllReadyH.cons rfl (fun K hK => ?_) (AllReadyH.nil)
        · have hblk := HR3.out.blk
          unfold repO at hblk
          have r0 := cell_of_row w3 rb 0 _ _ _ hblk
          have f0 := frozen_of_row w3 rb 0 _ _ hblk
          have r1 := cell_of_row w3 rb 1 _ _ _ hblk
          have f1 := frozen_of_row w3 rb 1 _ _ hblk
          simp only [gA_T, gA_0, gA_S] at r0 r1
          clear hblk
          go_simp
          have hk : ∀ k, k ≠ rb → ((w3.setCell ⟨rb, 0, none⟩ (.int .i64 x)).setCell ⟨rb, 1, none⟩ (.int .i64 y)).heap[k]? = w3.heap[k]? := fun k hk => put2_other w3 rb k _ _ hk
          have HU4 : Hid (Up W1 ((w3.setCell ⟨rb, 0, none⟩ (.int .i64 x)).setCell ⟨rb, 1, none⟩ (.int .i64 y))) := hQ' (HU3.out.putN HR3.out.ge _ _)
          have HR4 : Hid (Box3 W1.heap.size ((w3.setCell ⟨rb, 0, none⟩ (.int .i64 x)).setCell ⟨rb, 1, none⟩ (.int .i64 y)) rb (repO x y)) := hQ' (Box3.putR HR3.out)
          have HA4 : Hid (Rows3 ((w3.setCell ⟨rb, 0, none⟩ (.int .i64 x)).setCell ⟨rb, 1, none⟩ (.int .i64 y)) s' A Nn L e') := hQ' (HA3.out.keep HOR.out (fun k hne _ => hk k hne))
          have HO4 := hQ' (HO3.out.keep (Ne.symm (HR3.out.ne0 HO3.out)) hk)
          have hS := HSU.out _ HU4.out
          clear hk r0 f0 r1 f1 hS3
          refine hK.out _ _ hS (fun hS4 => ?_)
          clear hK K
          try simp only [Act.put, sC_I, sC_0, sC_1]
          clear hS
          generalize (w3.setCell ⟨rb, 0, none⟩ (.int .i64 x)).setCell ⟨rb, 1, none⟩ (.int .i64 y) = w4 at *
          refine wpAnyH_ready (rs := [16]) (by kernel_rfl) (by simp) ?_
          refine AllReadyH.cons rfl (fun K hK => ?_) (AllReadyH.nil)
          · have hblk := HO4.out.blk
            unfold outO0 at hblk
            have r0 := cell_of_row w4 zb 0 _ _ _ hblk
            have f0 := frozen_of_row w4 zb 0 _ _ hblk
            have r1 := cell_of_row w4 zb 1 _ _ _ hblk
            have f1 := frozen_of_row w4 zb 1 _ _ hblk
            have r2 := cell_of_row w4 zb 2 _ _ _ hblk
            have f2 := frozen_of_row w4 zb 2 _ _ hblk
            have r3 := cell_of_row w4 zb 3 _ _ _ hblk
            have f3 := frozen_of_row w4 zb 3 _ _ hblk
            simp only [gA_T, gA_0, gA_S] at r0 r1 r2 r3
            clear hblk
            go_simp
            have hk : ∀ k, k ≠ zb → ((((w4.setCell ⟨zb, 0, none⟩ (.bool dn)).setCell ⟨zb, 1, none⟩ (.slice A s'.acc.length c)).setCell ⟨zb, 2, none⟩ (.slice Nn s'.nts.length d)).setCell ⟨zb, 3, none⟩ (.slice L (shortL s'.loc).length e')).heap[k]? = w4.heap[k]? := fun k hk => put4_other w4 zb k _ _ _ _ hk
            have HU5 : Hid (Up W1 ((((w4.setCell ⟨zb, 0, none⟩ (.bool dn)).setCell ⟨zb, 1, none⟩ (.slice A s'.acc.length c)).setCell ⟨zb, 2, none⟩ (.slice Nn s'.nts.length d)).setCell ⟨zb, 3, none⟩ (.slice L (shortL s'.loc).length e'))) := hQ' (HU4.out.putM HO4.out.ge _ _ _ _)
            have HO5 : Hid (Box3 W1.heap.size ((((w4.setCell ⟨zb, 0, none⟩ (.bool dn)).setCell ⟨zb, 1, none⟩ (.slice A s'.acc.length c)).setCell ⟨zb, 2, none⟩ (.slice Nn s'.nts.length d)).setCell ⟨zb, 3, none⟩ (.slice L (shortL s'.loc).length e')) zb (outO dn s' A Nn L c d e')) := hQ' (Box3.putO HO4.out)
            have HA5 : Hid (Rows3 ((((w4.setCell ⟨zb, 0, none⟩ (.bool dn)).setCell ⟨zb, 1, none⟩ (.slice A s'.acc.length c)).setCell ⟨zb, 2, none⟩ (.slice Nn s'.nts.length d)).setCell ⟨zb, 3, none⟩ (.slice L (shortL s'.loc).length e')) s' A Nn L e') := hQ' (HA4.out.keep HOZ.out (fun k hne _ => hk k hne))
            have HR5 := hQ' (HR4.out.keep (HR4.out.ne0 HO4.out) hk)
            have hS := HSU.out _ HU5.out
            clear hk r0 f0 r1 f1 r2 f2 r3 f3 hS4
            refine hK.out _ _ hS (fun hS5 => ?_)
            clear hK K
            try simp only [Act.put, sC_I, sC_0, sC_1]
            clear hS
            generalize (((w4.setCell ⟨zb, 0, none⟩ (.bool dn)).setCell ⟨zb, 1, none⟩ (.slice A s'.acc.length c)).setCell ⟨zb, 2, none⟩ (.slice Nn s'.nts.length d)).setCell ⟨zb, 3, none⟩ (.slice L (shortL s'.loc).length e') = w5 at *
            refine wpAnyH_done (by kernel_rfl) ?_ _
            try simp only [Act.put, sC_I, sC_0, sC_1, List.getElem_toArray, List.getElem_cons_succ, List.getElem_cons_zero]
            skip
            go_wp2_with fail
            go_meet
            exact ⟨rb, zb, A, c, Nn, d, L, e', rfl, rfl, hQ' ⟨HU5.out, HR5.out, HO5.out, HA5.out, HG.out⟩⟩
  · go_simp
    have hu2 : Up w0 (w0.alloc (.cells #[.int .i64 0, .int .i64 0] 58)) := (Up.refl _).alloc _
    have HU1 := hQ' (HU0.out.trans hu2)
    have HR1 : Hid (Box3 W1.heap.size (w0.alloc (.cells #[.int .i64 0, .int .i64 0] 58)) w0.heap.size (repO 0 0)) := hQ' (Box3.new HU0.out.size #[.int .i64 0, .int .i64 0] 58)
    have hS := HSU.out _ HU1.out
    clear hu2 hS0
    refine hK.out _ _ hS (fun hS1 => ?_)
    clear hK K
    try simp only [Act.put, sC_I, sC_0, sC_1]
    clear hS
    generalize w0.alloc (.cells #[.int .i64 0, .int .i64 0] 58) = w1 at *
    generalize w0.heap.size = rb at *
    refine wpAnyH_ready (rs := [9, 14]) (by kernel_rfl) (by simp) ?_
    refine AllReadyH.cons rfl (fun K hK => ?_) (AllReadyH.cons rfl (fun K hK => ?_) (AllReadyH.nil))
    · go_simp
      refine (HPL.out w1 HU1.out).mono ?_
      rintro e w2 ⟨ov, rfl, ⟨A, c, Nn, d, L, e', rfl, r1, r2, r3, r4, r5, r6⟩, hu2⟩
      have HU2 := hQ' (HU1.out.trans hu2)
      have HA2 : Hid (Rows3 w2 s' A Nn L e') := hQ' ⟨r1, r2, r3, r4⟩
      have HG : Hid (∀ b off, (A = some ⟨b, off, none⟩ ∨ L = some ⟨b, off, none⟩ ∨ Nn = some ⟨b, off, none⟩) → W1.heap.size ≤ b) := hQ' (geOut r6 HU1.out.size)
      have HR2 := hQ' (HR1.out.up hu2)
      have HOR : Hid (off3 s' A Nn L rb) := hQ' (offOut r6 (Nat.le_of_lt HR1.out.lt))
      have hS := HSU.out w2 HU2.out
      clear r1 r2 r3 r4 r5 r6 hu2 hS1
      refine hK.out _ _ hS (fun hS2 => ?_)
      clear hK K
      try simp only [Act.put, sC_I, sC_0, sC_1]
      clear hS
      refine tkE 10 ?_ rfl (by kernel_rfl) (fun _ _ _ h => h) hS2 ?_ ?_
      rotate_left
      · intro w hSw
        try dsimp only at hSw
        go_simp
        try (with_reducible rfl)
      try simp only [Act.put, sC_I, sC_0, sC_1]
      refine tkE 11 ?_ rfl (by kernel_rfl) (fun _ _ _ h => h) hS2 ?_ ?_
      rotate_left
      · intro w hSw
        try dsimp only at hSw
        go_simp
        try (with_reducible rfl)
      try simp only [Act.put, sC_I, sC_0, sC_1]
      refine tkE 12 ?_ rfl (by kernel_rfl) (fun _ _ _ h => h) hS2 ?_ ?_
      rotate_left
      · intro w hSw
        try dsimp only at hSw
        go_simp
        try (with_reducible rfl)
      try simp only [Act.put, sC_I, sC_0, sC_1]
      refine wpAnyH_ready (rs := [14]) (by kernel_rfl) (by simp) ?_
      refine AllReadyH.cons rfl (fun K hK => ?_) (AllReadyH.nil)
      · go_simp
        have hu2 : Up w2 (w2.alloc (.cells #[.bool false, .slice none 0 0, .slice none 0 0, .slice none 0 0] 161)) := (Up.refl _).alloc _
        have HU3 := hQ' (HU2.out.trans hu2)
        have HO3 : Hid (Box3 W1.heap.size (w2.alloc (.cells #[.bool false, .slice none 0 0, .slice none 0 0, .slice none 0 0] 161)) w2.heap.size outO0) := hQ' (Box3.new HU2.out.size #[.bool false, .slice none 0 0, .slice none 0 0, .slice none 0 0] 161)
        have HA3 := hQ' (HA2.out.up hu2)
        have HOZ := hQ' (HA2.out.new (Nat.le_refl _))
        have HR3 := hQ' (HR2.out.up hu2)
        have hS := HSU.out _ HU3.out
        clear hu2 hS2
        refine hK.out _ _ hS (fun hS3 => ?_)
        clear hK K
        try simp only [Act.put, sC_I, sC_0, sC_1]
        clear hS
        generalize w2.alloc (.cells #[.bool false, .slice none 0 0, .slice none 0 0, .slice none 0 0] 161) = w3 at *
        generalize w2.heap.size = zb at *
        refine wpAnyH_ready (rs := [15]) (by kernel_rfl) (by simp) ?_
        refine AllReadyH.cons rfl (fun K hK => ?_) (AllReadyH.nil)
        · have hblk := HR3.out.blk
          unfold repO at hblk
          have r0 := cell_of_row w3 rb 0 _ _ _ hblk
          have f0 := frozen_of_row w3 rb 0 _ _ hblk
          have r1 := cell_of_row w3 rb 1 _ _ _ hblk
          have f1 := frozen_of_row w3 rb 1 _ _ hblk
          simp only [gA_T, gA_0, gA_S] at r0 r1
          clear hblk
          go_simp
          have hk : ∀ k, k ≠ rb → ((w3.setCell ⟨rb, 0, none⟩ (.int .i64 x)).setCell ⟨rb, 1, none⟩ (.int .i64 y)).heap[k]? = w3.heap[k]? := fun k hk => put2_other w3 rb k _ _ hk
          have HU4 : Hid (Up W1 ((w3.setCell ⟨rb, 0, none⟩ (.int .i64 x)).setCell ⟨rb, 1, none⟩ (.int .i64 y))) := hQ' (HU3.out.putN HR3.out.ge _ _)
          have HR4 : Hid (Box3 W1.heap.size ((w3.setCell ⟨rb, 0, none⟩ (.int .i64 x)).setCell ⟨rb, 1, none⟩ (.int .i64 y)) rb (repO x y)) := hQ' (Box3.putR HR3.out)
          have HA4 : Hid (Rows3 ((w3.setCell ⟨rb, 0, none⟩ (.int .i64 x)).setCell ⟨rb, 1, none⟩ (.int .i64 y)) s' A Nn L e') := hQ' (HA3.out.keep HOR.out (fun k hne _ => hk k hne))
          have HO4 := hQ' (HO3.out.keep (Ne.symm (HR3.out.ne0 HO3.out)) hk)
          have hS := HSU.out _ HU4.out
          clear hk r0 f0 r1 f1 hS3
          refine hK.out _ _ hS (fun hS4 => ?_)
          clear hK K
          try simp only [Act.put, sC_I, sC_0, sC_1]
          clear hS
          generalize (w3.setCell ⟨rb, 0, none⟩ (.int .i64 x)).setCell ⟨rb, 1, none⟩ (.int .i64 y) = w4 at *
          refine wpAnyH_ready (rs := [16]) (by kernel_rfl) (by simp) ?_
          refine AllReadyH.cons rfl (fun K hK => ?_) (AllReadyH.nil)
          · have hblk := HO4.out.blk
            unfold outO0 at hblk
            have r0 := cell_of_row w4 zb 0 _ _ _ hblk
            have f0 := frozen_of_row w4 zb 0 _ _ hblk
            have r1 := cell_of_row w4 zb 1 _ _ _ hblk
            have f1 := frozen_of_row w4 zb 1 _ _ hblk
            have r2 := cell_of_row w4 zb 2 _ _ _ hblk
            have f2 := frozen_of_row w4 zb 2 _ _ hblk
            have r3 := cell_of_row w4 zb 3 _ _ _ hblk
            have f3 := frozen_of_row w4 zb 3 _ _ hblk
            simp only [gA_T, gA_0, gA_S] at r0 r1 r2 r3
            clear hblk
            go_simp
            have hk : ∀ k, k ≠ zb → ((((w4.setCell ⟨zb, 0, none⟩ (.bool dn)).setCell ⟨zb, 1, none⟩ (.slice A s'.acc.length c)).setCell ⟨zb, 2, none⟩ (.slice Nn s'.nts.length d)).setCell ⟨zb, 3, none⟩ (.slice L (shortL s'.loc).length e')).heap[k]? = w4.heap[k]? := fun k hk => put4_other w4 zb k _ _ _ _ hk
            have HU5 : Hid (Up W1 ((((w4.setCell ⟨zb, 0, none⟩ (.bool dn)).setCell ⟨zb, 1, none⟩ (.slice A s'.acc.length c)).setCell ⟨zb, 2, none⟩ (.slice Nn s'.nts.length d)).setCell ⟨zb, 3, none⟩ (.slice L (shortL s'.loc).length e'))) := hQ' (HU4.out.putM HO4.out.ge _ _ _ _)
            have HO5 : Hid (Box3 W1.heap.size ((((w4.setCell ⟨zb, 0, none⟩ (.bool dn)).setCell ⟨zb, 1, none⟩ (.slice A s'.acc.length c)).setCell ⟨zb, 2, none⟩ (.slice Nn s'.nts.length d)).setCell ⟨zb, 3, none⟩ (.slice L (shortL s'.loc).length e')) zb (outO dn s' A Nn L c d e')) := hQ' (Box3.putO HO4.out)
            have HA5 : Hid (Rows3 ((((w4.setCell ⟨zb, 0, none⟩ (.bool dn)).setCell ⟨zb, 1, none⟩ (.slice A s'.acc.length c)).setCell ⟨zb, 2, none⟩ (.slice Nn s'.nts.length d)).setCell ⟨zb, 3, none⟩ (.slice L (shortL s'.loc).length e')) s' A Nn L e') := hQ' (HA4.out.keep HOZ.out (fun k hne _ => hk k hne))
            have HR5 := hQ' (HR4.out.keep (HR4.out.ne0 HO4.out) hk)
            have hS := HSU.out _ HU5.out
            clear hk r0 f0 r1 f1 r2 f2 r3 f3 hS4
            refine hK.out _ _ hS (fun hS5 => ?_)
            clear hK K
            try simp only [Act.put, sC_I, sC_0, sC_1]
            clear hS
            generalize (((w4.setCell ⟨zb, 0, none⟩ (.bool dn)).setCell ⟨zb, 1, none⟩ (.slice A s'.acc.length c)).setCell ⟨zb, 2, none⟩ (.slice Nn s'.nts.length d)).setCell ⟨zb, 3, none⟩ (.slice L (shortL s'.loc).length e') = w5 at *
            refine wpAnyH_done (by kernel_rfl) ?_ _
            try simp only [Act.put, sC_I, sC_0, sC_1, List.getElem_toArray, List.getElem_cons_succ, List.getElem_cons_zero]
            skip
            go_wp2_with fail
            go_meet
            exact ⟨rb, zb, A, c, Nn, d, L, e', rfl, rfl, hQ' ⟨HU5.out, HR5.out, HO5.out, HA5.out, HG.out⟩⟩
    · go_simp
      have hu2 : Up w1 (w1.alloc (.cells #[.bool false, .slice none 0 0, .slice none 0 0, .slice none 0 0] 161)) := (Up.refl _).alloc _
      have HU2 := hQ' (HU1.out.trans hu2)
      have HO2 : Hid (Box3 W1.heap.size (w1.alloc (.cells #[.bool false, .slice none 0 0, .slice none 0 0, .slice none 0 0] 161)) w1.heap.size outO0) := hQ' (Box3.new HU1.out.size #[.bool false, .slice none 0 0, .slice none 0 0, .slice none 0 0] 161)
      have HR2 := hQ' (HR1.out.up hu2)
      have hS := HSU.out _ HU2.out
      clear hu2 hS1
      refine hK.out _ _ hS (fun hS2 => ?_)
      clear hK K
      try simp only [Act.put, sC_I, sC_0, sC_1]
      clear hS
      generalize w1.alloc (.cells #[.bool false, .slice none 0 0, .slice none 0 0, .slice none 0 0] 161) = w2 at *
      generalize w1.heap.size = zb at *
      refine wpAnyH_ready (rs := [9]) (by kernel_rfl) (by simp) ?_
      refine AllReadyH.cons rfl (fun K hK => ?_) (AllReadyH.nil)
      · go_simp
        refine (HPL.out w2 HU2.out).mono ?_
        rintro e w3 ⟨ov, rfl, ⟨A, c, Nn, d, L, e', rfl, r1, r2, r3, r4, r5, r6⟩, hu2⟩
        have HU3 := hQ' (HU2.out.trans hu2)
        have HA3 : Hid (Rows3 w3 s' A Nn L e') := hQ' ⟨r1, r2, r3, r4⟩
        have HG : Hid (∀ b off, (A = some ⟨b, off, none⟩ ∨ L = some ⟨b, off, none⟩ ∨ Nn = some ⟨b, off, none⟩) → W1.heap.size ≤ b) := hQ' (geOut r6 HU2.out.size)
        have HR3 := hQ' (HR2.out.up hu2)
        have HOR : Hid (off3 s' A Nn L rb) := hQ' (offOut r6 (Nat.le_of_lt HR2.out.lt))
        have HO3 := hQ' (HO2.out.up hu2)
        have HOZ : Hid (off3 s' A Nn L zb) := hQ' (offOut r6 (Nat.le_of_lt HO2.out.lt))
        have hS := HSU.out w3 HU3.out
        clear r1 r2 r3 r4 r5 r6 hu2 hS2
        refine hK.out _ _ hS (fun hS3 => ?_)
        clear hK K
        try simp only [Act.put, sC_I, sC_0, sC_1]
        clear hS
        refine tkE 10 ?_ rfl (by kernel_rfl) (fun _ _ _ h => h) hS3 ?_ ?_
        rotate_left
        · intro w hSw
          try dsimp only at hSw
          go_simp
          try (with_reducible rfl)
        try simp only [Act.put, sC_I, sC_0, sC_1]
        refine tkE 11 ?_ rfl (by kernel_rfl) (fun _ _ _ h => h) hS3 ?_ ?_
        rotate_left
        · intro w hSw
          try dsimp only at hSw
          go_simp
          try (with_reducible rfl)
        try simp only [Act.put, sC_I, sC_0, sC_1]
        refine tkE 12 ?_ rfl (by kernel_rfl) (fun _ _ _ h => h) hS3 ?_ ?_
        rotate_left
        · intro w hSw
          try dsimp only at hSw
          go_simp
          try (with_reducible rfl)
        try simp only [Act.put, sC_I, sC_0, sC_1]
        refine wpAnyH_ready (rs := [15]) (by kernel_rfl) (by simp) ?_
        refine AllReadyH.cons rfl (fun K hK => ?_) (AllReadyH.nil)
        · have hblk := HR3.out.blk
          unfold repO at hblk
          have r0 := cell_of_row w3 rb 0 _ _ _ hblk
          have f0 := frozen_of_row w3 rb 0 _ _ hblk
          have r1 := cell_of_row w3 rb 1 _ _ _ hblk
          have f1 := frozen_of_row w3 rb 1 _ _ hblk
          simp only [gA_T, gA_0, gA_S] at r0 r1
          clear hblk
          go_simp
          have hk : ∀ k, k ≠ rb → ((w3.setCell ⟨rb, 0, none⟩ (.int .i64 x)).setCell ⟨rb, 1, none⟩ (.int .i64 y)).heap[k]? = w3.heap[k]? := fun k hk => put2_other w3 rb k _ _ hk
          have HU4 : Hid (Up W1 ((w3.setCell ⟨rb, 0, none⟩ (.int .i64 x)).setCell ⟨rb, 1, none⟩ (.int .i64 y))) := hQ' (HU3.out.putN HR3.out.ge _ _)
          have HR4 : Hid (Box3 W1.heap.size ((w3.setCell ⟨rb, 0, none⟩ (.int .i64 x)).setCell ⟨rb, 1, none⟩ (.int .i64 y)) rb (repO x y)) := hQ' (Box3.putR HR3.out)
          have HA4 : Hid (Rows3 ((w3.setCell ⟨rb, 0, none⟩ (.int .i64 x)).setCell ⟨rb, 1, none⟩ (.int .i64 y)) s' A Nn L e') := hQ' (HA3.out.keep HOR.out (fun k hne _ => hk k hne))
          have HO4 := hQ' (HO3.out.keep (Ne.symm (HR3.out.ne0 HO3.out)) hk)
          have hS := HSU.out _ HU4.out
          clear hk r0 f0 r1 f1 hS3
          refine hK.out _ _ hS (fun hS4 => ?_)
          clear hK K
          try simp only [Act.put, sC_I, sC_0, sC_1]
          clear hS
          generalize (w3.setCell ⟨rb, 0, none⟩ (.int .i64 x)).setCell ⟨rb, 1, none⟩ (.int .i64 y) = w4 at *
          refine wpAnyH_ready (rs := [16]) (by kernel_rfl) (by simp) ?_
          refine AllReadyH.cons rfl (fun K hK => ?_) (AllReadyH.nil)
          · have hblk := HO4.out.blk
            unfold outO0 at hblk
            have r0 := cell_of_row w4 zb 0 _ _ _ hblk
            have f0 := frozen_of_row w4 zb 0 _ _ hblk
            have r1 := cell_of_row w4 zb 1 _ _ _ hblk
            have f1 := frozen_of_row w4 zb 1 _ _ hblk
            have r2 := cell_of_row w4 zb 2 _ _ _ hblk
            have f2 := frozen_of_row w4 zb 2 _ _ hblk
            have r3 := cell_of_row w4 zb 3 _ _ _ hblk
            have f3 := frozen_of_row w4 zb 3 _ _ hblk
            simp only [gA_T, gA_0, gA_S] at r0 r1 r2 r3
            clear hblk
            go_simp
            have hk : ∀ k, k ≠ zb → ((((w4.setCell ⟨zb, 0, none⟩ (.bool dn)).setCell ⟨zb, 1, none⟩ (.slice A s'.acc.length c)).setCell ⟨zb, 2, none⟩ (.slice Nn s'.nts.length d)).setCell ⟨zb, 3, none⟩ (.slice L (shortL s'.loc).length e')).heap[k]? = w4.heap[k]? := fun k hk => put4_other w4 zb k _ _ _ _ hk
            have HU5 : Hid (Up W1 ((((w4.setCell ⟨zb, 0, none⟩ (.bool dn)).setCell ⟨zb, 1, none⟩ (.slice A s'.acc.length c)).setCell ⟨zb, 2, none⟩ (.slice Nn s'.nts.length d)).setCell ⟨zb, 3, none⟩ (.slice L (shortL s'.loc).length e'))) := hQ' (HU4.out.putM HO4.out.ge _ _ _ _)
            have HO5 : Hid (Box3 W1.heap.size ((((w4.setCell ⟨zb, 0, none⟩ (.bool dn)).setCell ⟨zb, 1, none⟩ (.slice A s'.acc.length c)).setCell ⟨zb, 2, none⟩ (.slice Nn s'.nts.length d)).setCell ⟨zb, 3, none⟩ (.slice L (shortL s'.loc).length e')) zb (outO dn s' A Nn L c d e')) := hQ' (Box3.putO HO4.out)
            have HA5 : Hid (Rows3 ((((w4.setCell ⟨zb, 0, none⟩ (.bool dn)).setCell ⟨zb, 1, none⟩ (.slice A s'.acc.length c)).setCell ⟨zb, 2, none⟩ (.slice Nn s'.nts.length d)).setCell ⟨zb, 3, none⟩ (.slice L (shortL s'.loc).length e')) s' A Nn L e') := hQ' (HA4.out.keep HOZ.out (fun k hne _ => hk k hne))
            have HR5 := hQ' (HR4.out.keep (HR4.out.ne0 HO4.out) hk)
            have hS := HSU.out _ HU5.out
            clear hk r0 f0 r1 f1 r2 f2 r3 f3 hS4
            refine hK.out _ _ hS (fun hS5 => ?_)
            clear hK K
            try simp only [Act.put, sC_I, sC_0, sC_1]
            clear hS
            generalize (((w4.setCell ⟨zb, 0, none⟩ (.bool dn)).setCell ⟨zb, 1, none⟩ (.slice A s'.acc.length c)).setCell ⟨zb, 2, none⟩ (.slice Nn s'.nts.length d)).setCell ⟨zb, 3, none⟩ (.slice L (shortL s'.loc).length e') = w5 at *
            refine wpAnyH_done (by kernel_rfl) ?_ _
            try simp only [Act.put, sC_I, sC_0, sC_1, List.getElem_toArray, List.getElem_cons_succ, List.getElem_cons_zero]
            skip
            go_wp2_with fail
            go_meet
            exact ⟨rb, zb, A, c, Nn, d, L, e', rfl, rfl, hQ' ⟨HU5.out, HR5.out, HO5.out, HA5.out, HG.out⟩⟩
  · go_simp
    have hu2 : Up w0 (w0.alloc (.cells #[.bool false, .slice none 0 0, .slice none 0 0, .slice none 0 0] 161)) := (Up.refl _).alloc _
    have HU1 := hQ' (HU0.out.trans hu2)
    have HO1 : Hid (Box3 W1.heap.size (w0.alloc (.cells #[.bool false, .slice none 0 0, .slice none 0 0, .slice none 0 0] 161)) w0.heap.size outO0) := hQ' (Box3.new HU0.out.size #[.bool false, .slice none 0 0, .slice none 0 0, .slice none 0 0] 161)
    have hS := HSU.out _ HU1.out
    clear hu2 hS0
    refine hK.out _ _ hS (fun hS1 => ?_)
    clear hK K
    try simp only [Act.put, sC_I, sC_0, sC_1]
    clear hS
    generalize w0.alloc (.cells #[.bool false, .slice none 0 0, .slice none 0 0, .slice none 0 0] 161) = w1 at *
    generalize w0.heap.size = zb at *
    refine wpAnyH_ready (rs := [9, 13]) (by kernel_rfl) (by simp) ?_
    refine AllReadyH.cons rfl (fun K hK => ?_) (AllReadyH.cons rfl (fun K hK => ?_) (AllReadyH.nil))
    · go_simp
      refine (HPL.out w1 HU1.out).mono ?_
      rintro e w2 ⟨ov, rfl, ⟨A, c, Nn, d, L, e', rfl, r1, r2, r3, r4, r5, r6⟩, hu2⟩
      have HU2 := hQ' (HU1.out.trans hu2)
      have HA2 : Hid (Rows3 w2 s' A Nn L e') := hQ' ⟨r1, r2, r3, r4⟩
      have HG : Hid (∀ b off, (A = some ⟨b, off, none⟩ ∨ L = some ⟨b, off, none⟩ ∨ Nn = some ⟨b, off, none⟩) → W1.heap.size ≤ b) := hQ' (geOut r6 HU1.out.size)
      have HO2 := hQ' (HO1.out.up hu2)
      have HOZ : Hid (off3 s' A Nn L zb) := hQ' (offOut r6 (Nat.le_of_lt HO1.out.lt))
      have hS := HSU.out w2 HU2.out
      clear r1 r2 r3 r4 r5 r6 hu2 hS1
      refine hK.out _ _ hS (fun hS2 => ?_)
      clear hK K
      try simp only [Act.put, sC_I, sC_0, sC_1]
      clear hS
      refine tkE 10 ?_ rfl (by kernel_rfl) (fun _ _ _ h => h) hS2 ?_ ?_
      rotate_left
      · intro w hSw
        try dsimp only at hSw
        go_simp
        try (with_reducible rfl)
      try simp only [Act.put, sC_I, sC_0, sC_1]
      refine tkE 11 ?_ rfl (by kernel_rfl) (fun _ _ _ h => h) hS2 ?_ ?_
      rotate_left
      · intro w hSw
        try dsimp only at hSw
        go_simp
        try (with_reducible rfl)
      try simp only [Act.put, sC_I, sC_0, sC_1]
      refine tkE 12 ?_ rfl (by kernel_rfl) (fun _ _ _ h => h) hS2 ?_ ?_
      rotate_left
      · intro w hSw
        try dsimp only at hSw
        go_simp
        try (with_reducible rfl)
      try simp only [Act.put, sC_I, sC_0, sC_1]
      refine wpAnyH_ready (rs := [13]) (by kernel_rfl) (by simp) ?_
      refine AllReadyH.cons rfl (fun K hK => ?_) (AllReadyH.nil)
      · go_simp
        have hu2 : Up w2 (w2.alloc (.cells #[.int .i64 0, .int .i64 0] 58)) := (Up.refl _).alloc _
        have HU3 := hQ' (HU2.out.trans hu2)
        have HR3 : Hid (Box3 W1.heap.size (w2.alloc (.cells #[.int .i64 0, .int .i64 0] 58)) w2.heap.size (repO 0 0)) := hQ' (Box3.new HU2.out.size #[.int .i64 0, .int .i64 0] 58)
        have HA3 := hQ' (HA2.out.up hu2)
        have HOR := hQ' (HA2.out.new (Nat.le_refl _))
        have HO3 := hQ' (HO2.out.up hu2)
        have hS := HSU.out _ HU3.out
        clear hu2 hS2
        refine hK.out _ _ hS (fun hS3 => ?_)
        clear hK K
        try simp only [Act.put, sC_I, sC_0, sC_1]
        clear hS
        generalize w2.alloc (.cells #[.int .i64 0, .int .i64 0] 58) = w3 at *
        generalize w2.heap.size = rb at *
        refine wpAnyH_ready (rs := [15]) (by kernel_rfl) (by simp) ?_
        refine AllReadyH.cons rfl (fun K hK => ?_) (AllReadyH.nil)
        · have hblk := HR3.out.blk
          unfold repO at hblk
          have r0 := cell_of_row w3 rb 0 _ _ _ hblk
          have f0 := frozen_of_row w3 rb 0 _ _ hblk
          have r1 := cell_of_row w3 rb 1 _ _ _ hblk
          have f1 := frozen_of_row w3 rb 1 _ _ hblk
          simp only [gA_T, gA_0, gA_S] at r0 r1
          clear hblk
          go_simp
          have hk : ∀ k, k ≠ rb → ((w3.setCell ⟨rb, 0, none⟩ (.int .i64 x)).setCell ⟨rb, 1, none⟩ (.int .i64 y)).heap[k]? = w3.heap[k]? := fun k hk => put2_other w3 rb k _ _ hk
          have HU4 : Hid (Up W1 ((w3.setCell ⟨rb, 0, none⟩ (.int .i64 x)).setCell ⟨rb, 1, none⟩ (.int .i64 y))) := hQ' (HU3.out.putN HR3.out.ge _ _)
          have HR4 : Hid (Box3 W1.heap.size ((w3.setCell ⟨rb, 0, none⟩ (.int .i64 x)).setCell ⟨rb, 1, none⟩ (.int .i64 y)) rb (repO x y)) := hQ' (Box3.putR HR3.out)
          have HA4 : Hid (Rows3 ((w3.setCell ⟨rb, 0, none⟩ (.int .i64 x)).setCell ⟨rb, 1, none⟩ (.int .i64 y)) s' A Nn L e') := hQ' (HA3.out.keep HOR.out (fun k hne _ => hk k hne))
          have HO4 := hQ' (HO3.out.keep (Ne.symm (HR3.out.ne0 HO3.out)) hk)
          have hS := HSU.out _ HU4.out
          clear hk r0 f0 r1 f1 hS3
          refine hK.out _ _ hS (fun hS4 => ?_)
          clear hK K
          try simp only [Act.put, sC_I, sC_0, sC_1]
          clear hS
          generalize (w3.setCell ⟨rb, 0, none⟩ (.int .i64 x)).setCell ⟨rb, 1, none⟩ (.int .i64 y) = w4 at *
          refine wpAnyH_ready (rs := [16]) (by kernel_rfl) (by simp) ?_
          refine AllReadyH.cons rfl (fun K hK => ?_) (AllReadyH.nil)
          · have hblk := HO4.out.blk
            unfold outO0 at hblk
            have r0 := cell_of_row w4 zb 0 _ _ _ hblk
            have f0 := frozen_of_row w4 zb 0 _ _ hblk
            have r1 := cell_of_row w4 zb 1 _ _ _ hblk
            have f1 := frozen_of_row w4 zb 1 _ _ hblk
            have r2 := cell_of_row w4 zb 2 _ _ _ hblk
            have f2 := frozen_of_row w4 zb 2 _ _ hblk
            have r3 := cell_of_row w4 zb 3 _ _ _ hblk
            have f3 := frozen_of_row w4 zb 3 _ _ hblk
            simp only [gA_T, gA_0, gA_S] at r0 r1 r2 r3
            clear hblk
            go_simp
            have hk : ∀ k, k ≠ zb → ((((w4.setCell ⟨zb, 0, none⟩ (.bool dn)).setCell ⟨zb, 1, none⟩ (.slice A s'.acc.length c)).setCell ⟨zb, 2, none⟩ (.slice Nn s'.nts.length d)).setCell ⟨zb, 3, none⟩ (.slice L (shortL s'.loc).length e')).heap[k]? = w4.heap[k]? := fun k hk => put4_other w4 zb k _ _ _ _ hk
            have HU5 : Hid (Up W1 ((((w4.setCell ⟨zb, 0, none⟩ (.bool dn)).setCell ⟨zb, 1, none⟩ (.slice A s'.acc.length c)).setCell ⟨zb, 2, none⟩ (.slice Nn s'.nts.length d)).setCell ⟨zb, 3, none⟩ (.slice L (shortL s'.loc).length e'))) := hQ' (HU4.out.putM HO4.out.ge _ _ _ _)
            have HO5 : Hid (Box3 W1.heap.size ((((w4.setCell ⟨zb, 0, none⟩ (.bool dn)).setCell ⟨zb, 1, none⟩ (.slice A s'.acc.length c)).setCell ⟨zb, 2, none⟩ (.slice Nn s'.nts.length d)).setCell ⟨zb, 3, none⟩ (.slice L (shortL s'.loc).length e')) zb (outO dn s' A Nn L c d e')) := hQ' (Box3.putO HO4.out)
            have HA5 : Hid (Rows3 ((((w4.setCell ⟨zb, 0, none⟩ (.bool dn)).setCell ⟨zb, 1, none⟩ (.slice A s'.acc.length c)).setCell ⟨zb, 2, none⟩ (.slice Nn s'.nts.length d)).setCell ⟨zb, 3, none⟩ (.slice L (shortL s'.loc).length e')) s' A Nn L e') := hQ' (HA4.out.keep HOZ.out (fun k hne _ => hk k hne))
            have HR5 := hQ' (HR4.out.keep (HR4.out.ne0 HO4.out) hk)
            have hS := HSU.out _ HU5.out
            clear hk r0 f0 r1 f1 r2 f2 r3 f3 hS4
            refine hK.out _ _ hS (fun hS5 => ?_)
            clear hK K
            try simp only [Act.put, sC_I, sC_0, sC_1]
            clear hS
            generalize (((w4.setCell ⟨zb, 0, none⟩ (.bool dn)).setCell ⟨zb, 1, none⟩ (.slice A s'.acc.length c)).setCell ⟨zb, 2, none⟩ (.slice Nn s'.nts.length d)).setCell ⟨zb, 3, none⟩ (.slice L (shortL s'.loc).length e') = w5 at *
            refine wpAnyH_done (by kernel_rfl) ?_ _
            try simp only [Act.put, sC_I, sC_0, sC_1, List.getElem_toArray, List.getElem_cons_succ, List.getElem_cons_zero]
            skip
            go_wp2_with fail
            go_meet
            exact ⟨rb, zb, A, c, Nn, d, L, e', rfl, rfl, hQ' ⟨HU5.out, HR5.out, HO5.out, HA5.out, HG.out⟩⟩
    · go_simp
      have hu2 : Up w1 (w1.alloc (.cells #[.int .i64 0, .int .i64 0] 58)) := (Up.refl _).alloc _
      have HU2 := hQ' (HU1.out.trans hu2)
      have HR2 : Hid (Box3 W1.heap.size (w1.alloc (.cells #[.int .i64 0, .int .i64 0] 58)) w1.heap.size (repO 0 0)) := hQ' (Box3.new HU1.out.size #[.int .i64 0, .int .i64 0] 58)
      have HO2 := hQ' (HO1.out.up hu2)
      have hS := HSU.out _ HU2.out
      clear hu2 hS1
      refine hK.out _ _ hS (fun hS2 => ?_)
      clear hK K
      try simp only [Act.put, sC_I, sC_0, sC_1]
      clear hS
      generalize w1.alloc (.cells #[.int .i64 0, .int .i64 0] 58) = w2 at *
      generalize w1.heap.size = rb at *
      refine wpAnyH_ready (rs := [9]) (by kernel_rfl) (by simp) ?_
      refine AllReadyH.cons rfl (fun K hK => ?_) (AllReadyH.nil)
      · go_simp
        refine (HPL.out w2 HU2.out).mono ?_
        rintro e w3 ⟨ov, rfl, ⟨A, c, Nn, d, L, e', rfl, r1, r2, r3, r4, r5, r6⟩, hu2⟩
        have HU3 := hQ' (HU2.out.trans hu2)
        have HA3 : Hid (Rows3 w3 s' A Nn L e') := hQ' ⟨r1, r2, r3, r4⟩
        have HG : Hid (∀ b off, (A = some ⟨b, off, none⟩ ∨ L = some ⟨b, off, none⟩ ∨ Nn = some ⟨b, off, none⟩) → W1.heap.size ≤ b) := hQ' (geOut r6 HU2.out.size)
        have HR3 := hQ' (HR2.out.up hu2)
        have HOR : Hid (off3 s' A Nn L rb) := hQ' (offOut r6 (Nat.le_of_lt HR2.out.lt))
        have HO3 := hQ' (HO2.out.up hu2)
        have HOZ : Hid (off3 s' A Nn L zb) := hQ' (offOut r6 (Nat.le_of_lt HO2.out.lt))
        have hS := HSU.out w3 HU3.out
        clear r1 r2 r3 r4 r5 r6 hu2 hS2
        refine hK.out _ _ hS (fun hS3 => ?_)
        clear hK K
        try simp only [Act.put, sC_I, sC_0, sC_1]
        clear hS
        refine tkE 10 ?_ rfl (by kernel_rfl) (fun _ _ _ h => h) hS3 ?_ ?_
        rotate_left
        · intro w hSw
          try dsimp only at hSw
          go_simp
          try (with_reducible rfl)
        try simp only [Act.put, sC_I, sC_0, sC_1]
        refine tkE 11 ?_ rfl (by kernel_rfl) (fun _ _ _ h => h) hS3 ?_ ?_
        rotate_left
        · intro w hSw
          try dsimp only at hSw
          go_simp
          try (with_reducible rfl)
        try simp only [Act.put, sC_I, sC_0, sC_1]
        refine tkE 12 ?_ rfl (by kernel_rfl) (fun _ _ _ h => h) hS3 ?_ ?_
        rotate_left
        · intro w hSw
          try dsimp only at hSw
          go_simp
          try (with_reducible rfl)
        try simp only [Act.put, sC_I, sC_0, sC_1]
        refine wpAnyH_ready (rs := [15]) (by kernel_rfl) (by simp) ?_
        refine AllReadyH.cons rfl (fun K hK => ?_) (AllReadyH.nil)
        · have hblk := HR3.out.blk
          unfold repO at hblk
          have r0 := cell_of_row w3 rb 0 _ _ _ hblk
          have f0 := frozen_of_row w3 rb 0 _ _ hblk
          have r1 := cell_of_row w3 rb 1 _ _ _ hblk
          have f1 := frozen_of_row w3 rb 1 _ _ hblk
          simp only [gA_T, gA_0, gA_S] at r0 r1
          clear hblk
          go_simp
          have hk : ∀ k, k ≠ rb → ((w3.setCell ⟨rb, 0, none⟩ (.int .i64 x)).setCell ⟨rb, 1, none⟩ (.int .i64 y)).heap[k]? = w3.heap[k]? := fun k hk => put2_other w3 rb k _ _ hk
          have HU4 : Hid (Up W1 ((w3.setCell ⟨rb, 0, none⟩ (.int .i64 x)).setCell ⟨rb, 1, none⟩ (.int .i64 y))) := hQ' (HU3.out.putN HR3.out.ge _ _)
          have HR4 : Hid (Box3 W1.heap.size ((w3.setCell ⟨rb, 0, none⟩ (.int .i64 x)).setCell ⟨rb, 1, none⟩ (.int .i64 y)) rb (repO x y)) := hQ' (Box3.putR HR3.out)
          have HA4 : Hid (Rows3 ((w3.setCell ⟨rb, 0, none⟩ (.int .i64 x)).setCell ⟨rb, 1, none⟩ (.int .i64 y)) s' A Nn L e') := hQ' (HA3.out.keep HOR.out (fun k hne _ => hk k hne))
          have HO4 := hQ' (HO3.out.keep (Ne.symm (HR3.out.ne0 HO3.out)) hk)
          have hS := HSU.out _ HU4.out
          clear hk r0 f0 r1 f1 hS3
          refine hK.out _ _ hS (fun hS4 => ?_)
          clear hK K
          try simp only [Act.put, sC_I, sC_0, sC_1]
          clear hS
          generalize (w3.setCell ⟨rb, 0, none⟩ (.int .i64 x)).setCell ⟨rb, 1, none⟩ (.int .i64 y) = w4 at *
          refine wpAnyH_ready (rs := [16]) (by kernel_rfl) (by simp) ?_
          refine AllReadyH.cons rfl (fun K hK => ?_) (AllReadyH.nil)
          · have hblk := HO4.out.blk
            unfold outO0 at hblk
            have r0 := cell_of_row w4 zb 0 _ _ _ hblk
            have f0 := frozen_of_row w4 zb 0 _ _ hblk
            have r1 := cell_of_row w4 zb 1 _ _ _ hblk
            have f1 := frozen_of_row w4 zb 1 _ _ hblk
            have r2 := cell_of_row w4 zb 2 _ _ _ hblk
            have f2 := frozen_of_row w4 zb 2 _ _ hblk
            have r3 := cell_of_row w4 zb 3 _ _ _ hblk
            have f3 := frozen_of_row w4 zb 3 _ _ hblk
            simp only [gA_T, gA_0, gA_S] at r0 r1 r2 r3
            clear hblk
            go_simp
            have hk : ∀ k, k ≠ zb → ((((w4.setCell ⟨zb, 0, none⟩ (.bool dn)).setCell ⟨zb, 1, none⟩ (.slice A s'.acc.length c)).setCell ⟨zb, 2, none⟩ (.slice Nn s'.nts.length d)).setCell ⟨zb, 3, none⟩ (.slice L (shortL s'.loc).length e')).heap[k]? = w4.heap[k]? := fun k hk => put4_other w4 zb k _ _ _ _ hk
            have HU5 : Hid (Up W1 ((((w4.setCell ⟨zb, 0, none⟩ (.bool dn)).setCell ⟨zb, 1, none⟩ (.slice A s'.acc.length c)).setCell ⟨zb, 2, none⟩ (.slice Nn s'.nts.length d)).setCell ⟨zb, 3, none⟩ (.slice L (shortL s'.loc).length e'))) := hQ' (HU4.out.putM HO4.out.ge _ _ _ _)
            have HO5 : Hid (Box3 W1.heap.size ((((w4.setCell ⟨zb, 0, none⟩ (.bool dn)).setCell ⟨zb, 1, none⟩ (.slice A s'.acc.length c)).setCell ⟨zb, 2, none⟩ (.slice Nn s'.nts.length d)).setCell ⟨zb, 3, none⟩ (.slice L (shortL s'.loc).length e')) zb (outO dn s' A Nn L c d e')) := hQ' (Box3.putO HO4.out)
            have HA5 : Hid (Rows3 ((((w4.setCell ⟨zb, 0, none⟩ (.bool dn)).setCell ⟨zb, 1, none⟩ (.slice A s'.acc.length c)).setCell ⟨zb, 2, none⟩ (.slice Nn s'.nts.length d)).setCell ⟨zb, 3, none⟩ (.slice L (shortL s'.loc).length e')) s' A Nn L e') := hQ' (HA4.out.keep HOZ.out (fun k hne _ => hk k hne))
            have HR5 := hQ' (HR4.out.keep (HR4.out.ne0 HO4.out) hk)
            have hS := HSU.out _ HU5.out
            clear hk r0 f0 r1 f1 r2 f2 r3 f3 hS4
            refine hK.out _ _ hS (fun hS5 => ?_)
            clear hK K
            try simp only [Act.put, sC_I, sC_0, sC_1]
            clear hS
            generalize (((w4.setCell ⟨zb, 0, none⟩ (.bool dn)).setCell ⟨zb, 1, none⟩ (.slice A s'.acc.length c)).setCell ⟨zb, 2, none⟩ (.slice Nn s'.nts.length d)).setCell ⟨zb, 3, none⟩ (.slice L (shortL s'.loc).length e') = w5 at *
            refine wpAnyH_done (by kernel_rfl) ?_ _
            try simp only [Act.put, sC_I, sC_0, sC_1, List.getElem_toArray, List.getElem_cons_succ, List.getElem_cons_zero]
            skip
            go_wp2_with fail
            go_meet
            exact ⟨rb, zb, A, c, Nn, d, L, e', rfl, rfl, hQ' ⟨HU5.out, HR5.out, HO5.out, HA5.out, HG.out⟩⟩
 case rest =>
  obtain ⟨rb, zb, A, c, Nn, d, L, e', rfl, rfl, HC⟩ := hcut
  have HBC := hQ' (HH1.out.grow HC.out.up)
  have HUW := hQ' (HL3.out.up.trans HC.out.up)
  have HSZ := hQ' (show W1.heap.size = q + 1 + 1 + 1 ∧ W1.heap.size ≤ wc.heap.size from ⟨HL3.out.sz, HC.out.up.size⟩)
  have HQS := hQ' (fun (W' : World) (hU : Up wc W') => show W'.cell? ⟨q, 0, none⟩ = some (.pointer (some ⟨Z.b, 0, none⟩)) ∧ W'.cell? ⟨q + 1, 0, none⟩ = some (.int .i64 t) ∧ W'.cell? ⟨Z.g, t * 11 + 1, none⟩ = some (.int .i64 nx) ∧ W'.cell? ⟨Z.b, 5, none⟩ = some (.int .i64 S.now) from
   have hUU := HC.out.up.trans hU
   have a1 : W'.cell? ⟨Z.g, t * 11 + 1, none⟩ = some (.int .i64 (S.ths t).next) := ((HBC.out.grow hU).cg t HT.out).cell 1 (by decide)
   ⟨cell_of_one ((hUU.block _ (Array.getElem?_eq_some_iff.1 HL3.out.b0).1).trans HL3.out.b0), cell_of_one ((hUU.block _ (Array.getElem?_eq_some_iff.1 HL3.out.b1).1).trans HL3.out.b1), by rw [← HNX.out]; exact a1, (HBC.out.grow hU).cb 5 (by decide)⟩)
  clear HDO HP HL3 HH1 HCE HOV HPV h0 h1 hcap
  obtain ⟨nn, hnn⟩ : ∃ nn, s'.nts.length = nn := ⟨_, rfl⟩
  obtain ⟨hn1, hn2, hn3, hn4, -, -⟩ := HNN.out
  rw [hnn] at hn2
  have HNE := hQ' hnn
  have g8 : wc.cell? ⟨Z.g, t * 11 + 8, none⟩ = some (.int .i64 (S.ths t).nts) := (HBC.out.cg t HT.out).cell 8 (by decide)
  obtain ⟨nt, hnt⟩ : ∃ nt : Nat, (S.ths t).nts = nt := ⟨_, rfl⟩
  have HNT := hQ' hnt
  rw [hnt] at g8 hn1
  have HN3 := hQ' hn3
  have HN4 := hQ' hn4
  obtain ⟨kk, hkk⟩ : ∃ kk, nn - nt = kk := ⟨_, rfl⟩
  have HKL := hQ' (show (NotesD S t s').length = kk by unfold NotesD; rw [notes_len, HNE.out, HNT.out, hkk])
  have z2c : wc.cell? ⟨zb, 2, none⟩ = some (.slice Nn nn d) := by
   have := cell_of_row wc zb 2 _ _ _ HC.out.out.blk
   rw [HNE.out] at this
   exact this
  clear hnn hnt HNN hn3 hn4
  go_wp2_with fail
  go_loopw [9, 10] (fun lv iv wr => ∃ j : Nat, j ≤ kk ∧ iv = .int .i64 ((nt + j : Nat) : Int) ∧ Hid (EvRow wr wc.heap.size lv ((NotesD S t s').take j)) ∧ Hid (Up wc wr)) (fun _ t _ => ((nn : Int) - intOf t).toNat)
  case atStart => exact ⟨0, by omega, by simp, hQ' (by rw [List.take_zero]; exact own_nil _ _ _ _), hQ' (Up.refl _)⟩
  case round =>
   obtain ⟨j, hj, rfl, HE, HU⟩ := hrel
   have z2 := (HU.out.cell (cell_lt z2c)).trans z2c
   have HLT := hQ' (show ((NotesD S t s').take j).length = j by rw [List.length_take, HKL.out]; omega)
   by_cases hlt : nt + j < nn
   · obtain ⟨i, hi⟩ : ∃ i : Nat, nt + j = i := ⟨_, rfl⟩
     obtain ⟨nb, off, rfl, hx, _⟩ := HC.out.rows.nts i (by rw [HNE.out]; omega)
     have HTN := hQ' (show (NotesD S t s').take (j + 1) = (NotesD S t s').take j ++ [noteEv S.now t (S.ths t).next (s'.nts.getD i (0, 0)).1] from by
      rw [← hi, ← HNT.out]
      exact take_note s'.nts (fun k => noteEv S.now t (S.ths t).next k.1) (by rw [HNE.out, HNT.out]; exact hlt))
     generalize (s'.nts.getD i (0, 0)).1 = x9 at *
     have HSI := hQ' (fun (W : World) (hU : Up wc W) => show W.cell? ⟨q, 0, none⟩ = some (.pointer (some ⟨Z.b, 0, none⟩)) ∧ W.cell? ⟨q + 1, 0, none⟩ = some (.int .i64 t) ∧ W.cell? ⟨Z.g, t * 11 + 1, none⟩ = some (.int .i64 nx) ∧ W.cell? ⟨Z.b, 5, none⟩ = some (.int .i64 S.now) ∧ W.cell? ⟨zb, 2, none⟩ = some (.slice (some ⟨nb, off, none⟩) nn d) ∧ W.cell? ⟨nb, off + i * 2, none⟩ = some (.int .i64 x9) from
      ⟨(HQS.out W hU).1, (HQS.out W hU).2.1, (HQS.out W hU).2.2.1, (HQS.out W hU).2.2.2, (hU.cell (cell_lt z2c)).trans z2c, (hU.cell (cell_lt hx)).trans hx⟩)
     obtain ⟨xs, hxe⟩ : ∃ xs, ((NotesD S t s').take j).flatMap evL = xs := ⟨_, rfl⟩
     have hxs : wr.ownsRow wc.heap.size 60 7 u9 j xs := by
      have h := HE.out
      unfold EvRow at h
      rw [HLT.out, hxe] at h
      exact h
     have HXE := hQ' hxe
     obtain ⟨Ae, ce, rfl, hce, _⟩ := own_form hxs
     have HXS := hQ' hxs
     have HI2 := hQ' hi
     have HJ := hQ' (show j < kk ∧ j ≤ 1000 by omega)
     rw [hi] at hlt
     rw [hi]
     have hlt : (i : Int) < (nn : Int) := by omega
     have hw1 : wrap64 ((i : Int) + 1) = (i : Int) + 1 := IntWalk.wrap64_in _ (by omega)
     have HWQ := hQ' (show wc.heap.size ≤ wr.heap.size from HU.out.size)
     obtain ⟨i0, hi', hz0, hz1, hz2⟩ := info_parts infoEv
     have HIE := hQ' hi'
     have HZ0 := hQ' hz0
     have HZ1 := hQ' hz1
     have HZ2 := hQ' hz2
     clear hi hx hxs hxe z2 hi' hz0 hz1 hz2 hj HE
     have z2 := (HSI.out wr HU.out).2.2.2.2.1
     go_wp2_with fail
     clear z2
     have hS := HSI.out wr.drew HU.out.drew
     refine wp_region_held_drew (S := fun w' => w'.cell? ⟨q, 0, none⟩ = some (.pointer (some ⟨Z.b, 0, none⟩)) ∧ w'.cell? ⟨q + 1, 0, none⟩ = some (.int .i64 t) ∧ w'.cell? ⟨Z.g, t * 11 + 1, none⟩ = some (.int .i64 nx) ∧ w'.cell? ⟨Z.b, 5, none⟩ = some (.int .i64 S.now) ∧ w'.cell? ⟨zb, 2, none⟩ = some (.slice (some ⟨nb, off, none⟩) nn d) ∧ w'.cell? ⟨nb, off + i * 2, none⟩ = some (.int .i64 x9)) (by kernel_rfl) hS (fun hS0 => ?_)
     clear hS
     refine tkE 0 ?_ rfl (by kernel_rfl) (fun _ _ _ h => h) hS0 ?_ ?_
     rotate_left
     · intro w hSw
       try dsimp only at hSw
       go_simp
       try (with_reducible rfl)
     try simp only [Act.put, sC_I, sC_0, sC_1]
     refine tkE 1 ?_ rfl (by kernel_rfl) (fun _ _ _ h => h) hS0 ?_ ?_
     rotate_left
     · intro w hSw
       try dsimp only at hSw
       go_simp
       try (with_reducible rfl)
     try simp only [Act.put, sC_I, sC_0, sC_1]
     refine tkE 2 ?_ rfl (by kernel_rfl) (fun _ _ _ h => h) hS0 ?_ ?_
     rotate_left
     · intro w hSw
       try dsimp only at hSw
       go_simp
       try (with_reducible rfl)
     try simp only [Act.put, sC_I, sC_0, sC_1]
     refine tkE 3 ?_ rfl (by kernel_rfl) (fun _ _ _ h => h) hS0 ?_ ?_
     rotate_left
     · intro w hSw
       try dsimp only at hSw
       go_simp
       try (with_reducible rfl)
     try simp only [Act.put, sC_I, sC_0, sC_1]
     refine tkE 4 ?_ rfl (by kernel_rfl) (fun _ _ _ h => h) hS0 ?_ ?_
     rotate_left
     · intro w hSw
       try dsimp only at hSw
       go_simp
       try (with_reducible rfl)
     try simp only [Act.put, sC_I, sC_0, sC_1]
     refine tkE 5 ?_ rfl (by kernel_rfl) (fun _ _ _ h => h) hS0 ?_ ?_
     rotate_left
     · intro w hSw
       try dsimp only at hSw
       go_simp
       try (with_reducible rfl)
     try simp only [Act.put, sC_I, sC_0, sC_1]
     refine tkE 6 ?_ rfl (by kernel_rfl) (fun _ _ _ h => h) hS0 ?_ ?_
     rotate_left
     · intro w hSw
       try dsimp only at hSw
       go_simp
       try (with_reducible rfl)
     try simp only [Act.put, sC_I, sC_0, sC_1]
     refine tkE 7 ?_ rfl (by kernel_rfl) (fun _ _ _ h => h) hS0 ?_ ?_
     rotate_left
     · intro w hSw
       try dsimp only at hSw
       go_simp
       try (with_reducible rfl)
     try simp only [Act.put, sC_I, sC_0, sC_1]
     refine tkE 8 ?_ rfl (by kernel_rfl) (fun _ _ _ h => h) hS0 ?_ ?_
     rotate_left
     · intro w hSw
       try dsimp only at hSw
       go_simp
       try (with_reducible rfl)
     try simp only [Act.put, sC_I, sC_0, sC_1]
     refine tkE 9 ?_ rfl (by kernel_rfl) (fun _ _ _ h => h) hS0 ?_ ?_
     rotate_left
     · intro w hSw
       try dsimp only at hSw
       go_simp
       try (with_reducible rfl)
     try simp only [Act.put, sC_I, sC_0, sC_1]
     refine tkE 10 ?_ rfl (by kernel_rfl) (fun _ _ _ h => h) hS0 ?_ ?_
     rotate_left
     · intro w hSw
       try dsimp only at hSw
       go_simp
       try (with_reducible rfl)
     try simp only [Act.put, sC_I, sC_0, sC_1]
     refine tkE 11 ?_ rfl (by kernel_rfl) (fun _ _ _ h => h) hS0 ?_ ?_
     rotate_left
     · intro w hSw
       try dsimp only at hSw
       go_simp
       try (with_reducible rfl)
     try simp only [Act.put, sC_I, sC_0, sC_1]
     refine tkE 12 ?_ rfl (by kernel_rfl) (fun _ _ _ h => h) hS0 ?_ ?_
     rotate_left
     · intro w hSw
       try dsimp only at hSw
       go_simp
       try (with_reducible rfl)
     try simp only [Act.put, sC_I, sC_0, sC_1]
     refine tkE 13 ?_ rfl (by kernel_rfl) (fun _ _ _ h => h) hS0 ?_ ?_
     rotate_left
     · intro w hSw
       try dsimp only at hSw
       go_simp
       try (with_reducible rfl)
     try simp only [Act.put, sC_I, sC_0, sC_1]
     refine tkE 14 ?_ rfl (by kernel_rfl) (fun _ _ _ h => h) hS0 ?_ ?_
     rotate_left
     · intro w hSw
       try dsimp only at hSw
       go_simp
       try (with_reducible rfl)
     try simp only [Act.put, sC_I, sC_0, sC_1]
     refine tkE 15 ?_ rfl (by kernel_rfl) (fun _ _ _ h => h) hS0 ?_ ?_
     rotate_left
     · intro w hSw
       try dsimp only at hSw
       go_simp
       try (with_reducible rfl)
     try simp only [Act.put, sC_I, sC_0, sC_1]
     refine tkE 16 ?_ rfl (by kernel_rfl) (fun _ _ _ h => h) hS0 ?_ ?_
     rotate_left
     · intro w hSw
       try dsimp only at hSw
       go_simp
       try (with_reducible rfl)
     try simp only [Act.put, sC_I, sC_0, sC_1]
     refine rdE 17 (by kernel_rfl) rfl fun K hK => ?_
     go_simp
     refine hK.out _ _ (HSI.out _ ((HU.out.alloc _).drew)) (fun hS1 => ?_)
     clear hK K
     try simp only [Act.put, sC_I, sC_0, sC_1]
     refine rdE 18 (by kernel_rfl) rfl fun K hK => ?_
     refine step_append_lies _ rfl (.tmp 51) (.tmp 68) 30 rfl wc.heap.size 60 i0 (.agg #[.int .i64 0, .int .i64 0, .int .i64 0, .int .i64 0, .int .i64 0, .int .i64 0, .int .i64 0]) 7 56 Tryz.underlying30 HIE.out HZ0.out HZ1.out HZ2.out rfl (by decide) _ j xs rfl (own_same HXS.out fun k e => ((Up.refl wr).alloc _).drew.block k (HXS.out.lt k e).2) ⟨wr.heap.size, 0, none⟩ 1 1 [.int .i64 S.now, .int .i64 3, .int .i64 t, .int .i64 nx, .int .i64 x9, .int .i64 0, .int .i64 0] rfl rfl (news1 wr _ _) (by simp [Value.oneCell']) (by decide) (by have := HJ.out; unfold maxLen; omega) (by have := HJ.out; omega) (by have := HWQ.out; simp; omega) _ rfl ?_
     intro g5 cap5 w5 hown5 hg5 hat5 hlt5
     have hU5 : Up wc w5 := Below.trans ((HU.out.alloc _).drew) (grownBy_below hg5 (by have := HWQ.out; simp; omega) (own_ge HXS.out))
     have HU5 := hQ' hU5
     have HE5 : Hid (EvRow w5 wc.heap.size (.slice (some ⟨g5, 0, none⟩) (j + 1) cap5) ((NotesD S t s').take (j + 1))) := hQ' (by
      rw [HTN.out, HNX.out]
      refine EvRow.push HLT.out ?_
      rw [HXE.out]
      exact hown5)
     clear hown5 hg5 hat5 hlt5 hU5
     refine hK.out _ _ (HSI.out _ HU5.out) (fun hS2 => ?_)
     clear hK K
     try simp only [Act.put, sC_I, sC_0, sC_1]
     refine tkE 19 ?_ rfl (by kernel_rfl) (fun _ _ _ h => h) hS2 ?_ ?_
     rotate_left
     · intro w hSw
       try dsimp only at hSw
       go_simp
       try (with_reducible rfl)
     try simp only [Act.put, sC_I, sC_0, sC_1]
     refine wpAnyH_done (by kernel_rfl) ?_ _
     try simp only [Act.put, sC_I, sC_0, sC_1, List.getElem_toArray, List.getElem_cons_succ, List.getElem_cons_zero]
     clear hS0 hS1 hS2
     go_wp2_with fail
     go_roundw
     case rel => exact ⟨j + 1, by have := HJ.out; omega, by have := HI2.out; simp; omega, HE5, HU5⟩
     case measure => simp [intOf]; omega
   · obtain rfl : j = kk := by omega
     have HBr := hQ' (HBC.out.grow HU.out)
     have g8r : wr.cell? ⟨Z.g, t * 11 + 8, none⟩ = some (.int .i64 nt) := (HU.out.cell (cell_lt g8)).trans g8
     have f8r := HBr.out.fg (t * 11 + 8)
     have hps : Wd Z wr (S.put t (S.ths t)) N va vl ow := by rw [put_self]; exact HBr.out
     have HF9 := hQ' (hps.stG (j := 8) HT.out (by decide) (.int .i64 nn) { S.ths t with nts := nn } (fun i hi => by match i, hi with | 0, _ | 1, _ | 2, _ | 3, _ | 4, _ | 5, _ | 6, _ | 7, _ | 8, _ | 9, _ | 10, _ => rfl) rfl rfl)
     have HZG := hQ' (show Z.g < W1.heap.size from by have := HBW.out; have := HSZ.out; omega)
     have HK9 := hQ' (fun (k : Nat) (hk : k ≠ Z.g) => show (wr.setCell ⟨Z.g, t * 11 + 8, none⟩ (.int .i64 nn)).heap[k]? = wr.heap[k]? from Below.heap_setCell wr ⟨Z.g, t * 11 + 8, none⟩ _ k hk)
     have HEK : Hid (EvRow wr wc.heap.size u9 (NotesD S t s')) := by
      have h := HE.out
      rw [List.take_of_length_le (Nat.le_of_eq HKL.out)] at h
      exact hQ' h
     clear hlt hj hps HE HLT
     cases ro with
     | none =>
      have hdn := HDN.out
      simp only [Option.isSome_none] at hdn
      subst hdn
      go_upto_region 10 with fail
      clear g8r f8r z2
      obtain ⟨W9, hW9⟩ : ∃ x, wr.setCell ⟨Z.g, t * 11 + 8, none⟩ (.int .i64 nn) = x := ⟨_, rfl⟩
      rw [hW9] at HF9 HK9 ⊢
      clear hW9
      obtain ⟨m, hm⟩ : ∃ m, s'.acc.length = m + 1 := ⟨s'.acc.length - 1, by have := HAC.out rfl; omega⟩
      obtain ⟨ab, aoff, rfl, h0, h1, h2⟩ := HC.out.rows.acc m (by omega)
      have hga := HC.out.ge ab aoff (.inl rfl)
      have hgz := HC.out.out.ge
      have hzg := HZG.out
      have hblk := (HK9.out zb (by omega)).trans ((HU.out.block zb HC.out.out.lt).trans HC.out.out.blk)
      have z0 := cell_of_row W9 zb 0 _ _ _ hblk
      have z1 := cell_of_row W9 zb 1 _ _ _ hblk
      simp only [gA_T, gA_0, gA_S, hm] at z0 z1
      have a0 := ((tcell (HK9.out ab (by omega))).trans (HU.out.cell (cell_lt h0))).trans h0
      have a1 := ((tcell (HK9.out ab (by omega))).trans (HU.out.cell (cell_lt h1))).trans h1
      have a2 := ((tcell (HK9.out ab (by omega))).trans (HU.out.cell (cell_lt h2))).trans h2
      have HGD := hQ' (show s'.acc.getD (s'.acc.length - 1) (0, 0, 0) = s'.acc.getD m (0, 0, 0) by rw [hm]; rfl)
      have hm3 : m < 100000 := by have := HN3.out; omega
      clear h0 h1 h2 hblk hm hga hgz hzg
      obtain ⟨⟨k0, k1, k2⟩, hkq⟩ : ∃ q, s'.acc.getD m (0, 0, 0) = q := ⟨_, rfl⟩
      rw [hkq] at a0 a1 a2 HGD
      dsimp only at a0 a1 a2
      clear hkq
      have hwm : wrap64 (((m + 1 : Nat) : Int) - 1) = (m : Int) := by rw [IntWalk.wrap64_in _ (by omega)]; omega
      have hc9 := (HF9.out.cg t HT.out).cell
      rw [put_same] at hc9
      have c4 : W9.cell? ⟨Z.g, t * 11 + 4, none⟩ = some (.int .i64 (S.ths t).acc.1) := hc9 4 (by decide)
      have c5 : W9.cell? ⟨Z.g, t * 11 + 5, none⟩ = some (.int .i64 (S.ths t).acc.2.1) := hc9 5 (by decide)
      have c6 : W9.cell? ⟨Z.g, t * 11 + 6, none⟩ = some (.int .i64 (S.ths t).acc.2.2) := hc9 6 (by decide)
      have c7 : W9.cell? ⟨Z.g, t * 11 + 7, none⟩ = some (.int .i64 (S.ths t).st) := hc9 7 (by decide)
      have f4 := HF9.out.fg (t * 11 + 4)
      have f5 := HF9.out.fg (t * 11 + 5)
      have f6 := HF9.out.fg (t * 11 + 6)
      have f7 := HF9.out.fg (t * 11 + 7)
      have HA4 := hQ' (HF9.out.stG (j := 4) HT.out (by decide) (.int .i64 k0) { S.ths t with nts := nn, acc := (k0, (S.ths t).acc.2.1, (S.ths t).acc.2.2) } (fun i hi => by match i, hi with | 0, _ | 1, _ | 2, _ | 3, _ | 4, _ | 5, _ | 6, _ | 7, _ | 8, _ | 9, _ | 10, _ => rfl) rfl rfl)
      have HA5 := hQ' (HA4.out.stG (j := 5) HT.out (by decide) (.int .i64 k1) { S.ths t with nts := nn, acc := (k0, k1, (S.ths t).acc.2.2) } (fun i hi => by match i, hi with | 0, _ | 1, _ | 2, _ | 3, _ | 4, _ | 5, _ | 6, _ | 7, _ | 8, _ | 9, _ | 10, _ => rfl) rfl rfl)
      have HA6 := hQ' (HA5.out.stG (j := 6) HT.out (by decide) (.int .i64 k2) { S.ths t with nts := nn, acc := (k0, k1, k2) } (fun i hi => by match i, hi with | 0, _ | 1, _ | 2, _ | 3, _ | 4, _ | 5, _ | 6, _ | 7, _ | 8, _ | 9, _ | 10, _ => rfl) rfl rfl)
      have HA7 := hQ' (HA6.out.stG (j := 7) HT.out (by decide) (.int .i64 1) { S.ths t with nts := nn, acc := (k0, k1, k2), st := 1 } (fun i hi => by match i, hi with | 0, _ | 1, _ | 2, _ | 3, _ | 4, _ | 5, _ | 6, _ | 7, _ | 8, _ | 9, _ | 10, _ => rfl) rfl rfl)
      have HGO := hQ' (fun (k : Nat) (hk : k ≠ Z.g) => show ((((W9.setCell ⟨Z.g, t * 11 + 4, none⟩ (.int .i64 k0)).setCell ⟨Z.g, t * 11 + 5, none⟩ (.int .i64 k1)).setCell ⟨Z.g, t * 11 + 6, none⟩ (.int .i64 k2)).setCell ⟨Z.g, t * 11 + 7, none⟩ (.int .i64 1)).heap[k]? = wr.heap[k]? from by
       rw [Below.heap_setCell _ _ _ _ hk, Below.heap_setCell _ _ _ _ hk, Below.heap_setCell _ _ _ _ hk, Below.heap_setCell _ _ _ _ hk]
       exact HK9.out k hk)
      have HXE := hQ' (show EvRow ((((W9.setCell ⟨Z.g, t * 11 + 4, none⟩ (.int .i64 k0)).setCell ⟨Z.g, t * 11 + 5, none⟩ (.int .i64 k1)).setCell ⟨Z.g, t * 11 + 6, none⟩ (.int .i64 k2)).setCell ⟨Z.g, t * 11 + 7, none⟩ (.int .i64 1)) q u9 (NotesD S t s') from by
       refine own_base (own_same HEK.out fun k e => HGO.out k (fun e2 => ?_)) ?_
       · have := (World.ownsRow.lt HEK.out k e).1; have := HZG.out; have := HSZ.out; omega
       · have := HSZ.out; omega)
      have HFR := hQ' (fun (k : Nat) (hk : k < q) (hg : k ≠ Z.g) => (HGO.out k hg).trans ((HU.out.block k (by have := HSZ.out; omega)).trans (HUW.out.block k (by rw [HQ.out]; exact hk))))
      have HOW := hQ' (fun (k : Nat) (e : Value.ownBlock u9 = some k) => HBC.out.free (World.ownsRow.lt HEK.out k e).1)
      clear HA4 HA5 HA6 HF9 HK9 hc9 HGO
      go_wp2_with fail
      go_ret
      unfold WPlayPost
      rw [HQ.out]
      refine ⟨u9, va, vl, ow, rfl, ?_, ?_, fun _ _ => rfl, HFR.out, HOW.out⟩
      · exact HXE.out
      · have hgd := HGD.out
        rw [List.getD_eq_getElem?_getD] at hgd
        rw [hgd, HNE.out]; exact HA7.out
     | some v0 =>
      obtain ⟨v1, v2⟩ := v0
      have hval := HVAL.out
      simp only [Option.getD_some, Prod.mk.injEq] at hval
      obtain ⟨rfl, rfl⟩ := hval
      have hdn := HDN.out
      simp only [Option.isSome_some] at hdn
      subst hdn
      go_upto_region 10 with fail
      clear g8r f8r z2
      obtain ⟨W9, hW9⟩ : ∃ x, wr.setCell ⟨Z.g, t * 11 + 8, none⟩ (.int .i64 nn) = x := ⟨_, rfl⟩
      have hs9 : wr.heap.size ≤ W9.heap.size := by rw [← hW9]; simp
      rw [hW9] at HF9 HK9 ⊢
      clear hW9
      have hgz := HC.out.out.ge
      have hgr := HC.out.rep.ge
      have hzg := HZG.out
      have hblk := (HK9.out zb (by omega)).trans ((HU.out.block zb HC.out.out.lt).trans HC.out.out.blk)
      have hblr := (HK9.out rb (by omega)).trans ((HU.out.block rb HC.out.rep.lt).trans HC.out.rep.blk)
      have z0 := cell_of_row W9 zb 0 _ _ _ hblk
      simp only [gA_T, gA_0, gA_S] at z0
      have hc9 := (HF9.out.cg t HT.out).cell
      rw [put_same] at hc9
      have HSW := hQ' (show q + 1 < wc.heap.size ∧ rb < wc.heap.size ∧ zb < wc.heap.size ∧ Z.b < wc.heap.size ∧ Z.g < wc.heap.size from ⟨by have := HSZ.out; omega, HC.out.rep.lt, HC.out.out.lt, HBC.out.bt, HBC.out.gt⟩)
      have HS9 := hQ' (show W9.cell? ⟨q, 0, none⟩ = some (.pointer (some ⟨Z.b, 0, none⟩)) ∧ W9.cell? ⟨q + 1, 0, none⟩ = some (.int .i64 t) ∧ W9.cell? ⟨Z.g, t * 11 + 1, none⟩ = some (.int .i64 nx) ∧ W9.cell? ⟨Z.b, 5, none⟩ = some (.int .i64 S.now) ∧ W9.cell? ⟨rb, 0, none⟩ = some (.int .i64 v1) ∧ W9.cell? ⟨rb, 1, none⟩ = some (.int .i64 v2) from
       have hQ := HQS.out wr HU.out
       have a1 : W9.cell? ⟨Z.g, t * 11 + 1, none⟩ = some (.int .i64 (S.ths t).next) := hc9 1 (by decide)
       ⟨(tcell (HK9.out q (by have := HBW.out; omega))).trans hQ.1, (tcell (HK9.out (q + 1) (by have := HBW.out; omega))).trans hQ.2.1, by rw [← HNX.out]; exact a1, HF9.out.cb 5 (by decide), cell_of_row W9 rb 0 _ _ _ hblr, cell_of_row W9 rb 1 _ _ _ hblr⟩)
      have HBK := hQ' hblk
      have hx9 : W9.ownsRow wc.heap.size 60 7 u9 j ((NotesD S t s').flatMap evL) := by
       have h := own_same HEK.out fun k e => HK9.out k (by have := (World.ownsRow.lt HEK.out k e).1; have := HSZ.out; omega)
       rw [HKL.out] at h
       exact h
      obtain ⟨xs, hxe⟩ : ∃ xs, (NotesD S t s').flatMap evL = xs := ⟨_, rfl⟩
      rw [hxe] at hx9
      have HXN := hQ' hxe
      obtain ⟨Ae, ce, rfl, hce, _⟩ := own_form hx9
      have HXS := hQ' hx9
      obtain ⟨i0, hi', hz0, hz1, hz2⟩ := info_parts infoEv
      have HIE := hQ' hi'
      have HZ0 := hQ' hz0
      have HZ1 := hQ' hz1
      have HZ2 := hQ' hz2
      have HWQ := hQ' (show wc.heap.size ≤ W9.heap.size from Nat.le_trans HU.out.size hs9)
      have HJ := hQ' (show j ≤ 1000 by omega)
      have HSA := hQ' (fun (W : World) (hB : Below wc.heap.size W9 W) => show W.cell? ⟨q, 0, none⟩ = some (.pointer (some ⟨Z.b, 0, none⟩)) ∧ W.cell? ⟨q + 1, 0, none⟩ = some (.int .i64 t) ∧ W.cell? ⟨Z.g, t * 11 + 1, none⟩ = some (.int .i64 nx) ∧ W.cell? ⟨Z.b, 5, none⟩ = some (.int .i64 S.now) ∧ W.cell? ⟨rb, 0, none⟩ = some (.int .i64 v1) ∧ W.cell? ⟨rb, 1, none⟩ = some (.int .i64 v2) from
       ⟨(tcell (hB.block q (by have := HSW.out; omega))).trans HS9.out.1, (tcell (hB.block (q + 1) (by have := HSW.out; omega))).trans HS9.out.2.1, (tcell (hB.block Z.g (by have := HSW.out; omega))).trans HS9.out.2.2.1, (tcell (hB.block Z.b (by have := HSW.out; omega))).trans HS9.out.2.2.2.1, (tcell (hB.block rb (by have := HSW.out; omega))).trans HS9.out.2.2.2.2.1, (tcell (hB.block rb (by have := HSW.out; omega))).trans HS9.out.2.2.2.2.2⟩)
      have HBA := hQ' (show Below wc.heap.size W9 (W9.alloc (.cells #[.int .i64 S.now, .int .i64 2, .int .i64 t, .int .i64 nx, .int .i64 0, .int .i64 v1, .int .i64 v2] 60)).drew from (Below.alloc (Below.refl _ _) HWQ.out _).drew)
      clear hx9 hi' hz0 hz1 hz2 hblk hblr hgz hgr hzg hs9 hce hxe hc9 HEK
      go_wp2_with fail
      clear z0
      have hS : W9.drew.cell? ⟨q, 0, none⟩ = some (.pointer (some ⟨Z.b, 0, none⟩)) ∧ W9.drew.cell? ⟨q + 1, 0, none⟩ = some (.int .i64 t) ∧ W9.drew.cell? ⟨Z.g, t * 11 + 1, none⟩ = some (.int .i64 nx) ∧ W9.drew.cell? ⟨Z.b, 5, none⟩ = some (.int .i64 S.now) ∧ W9.drew.cell? ⟨rb, 0, none⟩ = some (.int .i64 v1) ∧ W9.drew.cell? ⟨rb, 1, none⟩ = some (.int .i64 v2) := HS9.out
      refine wp_region_held_drew (S := fun w' => w'.cell? ⟨q, 0, none⟩ = some (.pointer (some ⟨Z.b, 0, none⟩)) ∧ w'.cell? ⟨q + 1, 0, none⟩ = some (.int .i64 t) ∧ w'.cell? ⟨Z.g, t * 11 + 1, none⟩ = some (.int .i64 nx) ∧ w'.cell? ⟨Z.b, 5, none⟩ = some (.int .i64 S.now) ∧ w'.cell? ⟨rb, 0, none⟩ = some (.int .i64 v1) ∧ w'.cell? ⟨rb, 1, none⟩ = some (.int .i64 v2)) (by kernel_rfl) hS (fun hS0 => ?_)
      clear hS
      refine tkE 0 ?_ rfl (by kernel_rfl) (fun _ _ _ h => h) hS0 ?_ ?_
      rotate_left
      · intro w hSw
        try dsimp only at hSw
        go_simp
        try (with_reducible rfl)
      try simp only [Act.put, sC_I, sC_0, sC_1]
      refine tkE 1 ?_ rfl (by kernel_rfl) (fun _ _ _ h => h) hS0 ?_ ?_
      rotate_left
      · intro w hSw
        try dsimp only at hSw
        go_simp
        try (with_reducible rfl)
      try simp only [Act.put, sC_I, sC_0, sC_1]
      refine tkE 2 ?_ rfl (by kernel_rfl) (fun _ _ _ h => h) hS0 ?_ ?_
      rotate_left
      · intro w hSw
        try dsimp only at hSw
        go_simp
        try (with_reducible rfl)
      try simp only [Act.put, sC_I, sC_0, sC_1]
      refine tkE 3 ?_ rfl (by kernel_rfl) (fun _ _ _ h => h) hS0 ?_ ?_
      rotate_left
      · intro w hSw
        try dsimp only at hSw
        go_simp
        try (with_reducible rfl)
      try simp only [Act.put, sC_I, sC_0, sC_1]
      refine tkE 4 ?_ rfl (by kernel_rfl) (fun _ _ _ h => h) hS0 ?_ ?_
      rotate_left
      · intro w hSw
        try dsimp only at hSw
        go_simp
        try (with_reducible rfl)
      try simp only [Act.put, sC_I, sC_0, sC_1]
      refine tkE 5 ?_ rfl (by kernel_rfl) (fun _ _ _ h => h) hS0 ?_ ?_
      rotate_left
      · intro w hSw
        try dsimp only at hSw
        go_simp
        try (with_reducible rfl)
      try simp only [Act.put, sC_I, sC_0, sC_1]
      refine tkE 6 ?_ rfl (by kernel_rfl) (fun _ _ _ h => h) hS0 ?_ ?_
      rotate_left
      · intro w hSw
        try dsimp only at hSw
        go_simp
        try (with_reducible rfl)
      try simp only [Act.put, sC_I, sC_0, sC_1]
      refine tkE 7 ?_ rfl (by kernel_rfl) (fun _ _ _ h => h) hS0 ?_ ?_
      rotate_left
      · intro w hSw
        try dsimp only at hSw
        go_simp
        try (with_reducible rfl)
      try simp only [Act.put, sC_I, sC_0, sC_1]
      refine tkE 8 ?_ rfl (by kernel_rfl) (fun _ _ _ h => h) hS0 ?_ ?_
      rotate_left
      · intro w hSw
        try dsimp only at hSw
        go_simp
        try (with_reducible rfl)
      try simp only [Act.put, sC_I, sC_0, sC_1]
      refine tkE 9 ?_ rfl (by kernel_rfl) (fun _ _ _ h => h) hS0 ?_ ?_
      rotate_left
      · intro w hSw
        try dsimp only at hSw
        go_simp
        try (with_reducible rfl)
      try simp only [Act.put, sC_I, sC_0, sC_1]
      refine tkE 10 ?_ rfl (by kernel_rfl) (fun _ _ _ h => h) hS0 ?_ ?_
      rotate_left
      · intro w hSw
        try dsimp only at hSw
        go_simp
        try (with_reducible rfl)
      try simp only [Act.put, sC_I, sC_0, sC_1]
      refine tkE 11 ?_ rfl (by kernel_rfl) (fun _ _ _ h => h) hS0 ?_ ?_
      rotate_left
      · intro w hSw
        try dsimp only at hSw
        go_simp
        try (with_reducible rfl)
      try simp only [Act.put, sC_I, sC_0, sC_1]
      refine rdE 12 (by kernel_rfl) rfl fun K hK => ?_
      go_simp
      refine hK.out _ _ (HSA.out _ HBA.out) (fun hS1 => ?_)
      clear hK K
      try simp only [Act.put, sC_I, sC_0, sC_1]
      refine rdE 13 (by kernel_rfl) rfl fun K hK => ?_
      refine step_append_lies _ rfl (.tmp 94) (.tmp 106) 30 rfl wc.heap.size 60 i0 (.agg #[.int .i64 0, .int .i64 0, .int .i64 0, .int .i64 0, .int .i64 0, .int .i64 0, .int .i64 0]) 7 56 Tryz.underlying30 HIE.out HZ0.out HZ1.out HZ2.out rfl (by decide) _ j xs rfl (own_same HXS.out fun k e => ((Up.refl W9).alloc _).drew.block k (HXS.out.lt k e).2) ⟨W9.heap.size, 0, none⟩ 1 1 [.int .i64 S.now, .int .i64 2, .int .i64 t, .int .i64 nx, .int .i64 0, .int .i64 v1, .int .i64 v2] rfl rfl (news1 W9 _ _) (by simp [Value.oneCell']) (by decide) (by have := HJ.out; unfold maxLen; omega) (by have := HJ.out; omega) (by have := HWQ.out; simp; omega) _ rfl ?_
      intro g5 cap5 w5 hown5 hg5 hat5 hlt5
      have HB5 := hQ' (show Below wc.heap.size W9 w5 from Below.trans HBA.out (grownBy_below hg5 (by have := HWQ.out; simp; omega) (own_ge HXS.out)))
      have HO5 : Hid (EvRow w5 wc.heap.size (.slice (some ⟨g5, 0, none⟩) (j + 1) cap5) (NotesD S t s' ++ [⟨S.now, 2, t, nx, 0, v1, v2⟩])) := hQ' (by
       refine EvRow.push HKL.out ?_
       rw [HXN.out]
       exact hown5)
      clear hown5 hg5 hat5 hlt5
      refine hK.out _ _ (HSA.out _ HB5.out) (fun hS2 => ?_)
      clear hK K
      try simp only [Act.put, sC_I, sC_0, sC_1]
      refine tkE 14 ?_ rfl (by kernel_rfl) (fun _ _ _ h => h) hS2 ?_ ?_
      rotate_left
      · intro w hSw
        try dsimp only at hSw
        go_simp
        try (with_reducible rfl)
      try simp only [Act.put, sC_I, sC_0, sC_1]
      refine wpAnyH_done (by kernel_rfl) ?_ _
      try simp only [Act.put, sC_I, sC_0, sC_1, List.getElem_toArray, List.getElem_cons_succ, List.getElem_cons_zero]
      clear hS0 hS1 hS2
      have HN5 := hQ' (HBC.out.below HWQ.out HF9.out HB5.out)
      have hb5 := (HB5.out.block zb (by have := HSW.out; omega)).trans HBK.out
      have z3 := cell_of_row w5 zb 3 _ _ _ hb5
      simp only [gA_T, gA_0, gA_S] at z3
      have hrow5 : Row w5 L (shortL s'.loc).length (IVal (shortL s'.loc)) := row_keep HC.out.rows.loc (fun b' off e hp => by
       have h1 := HC.out.ge b' off (.inr (.inl e))
       obtain ⟨b2, off2, e2, hc2⟩ := HC.out.rows.loc 0 hp
       rw [e] at e2
       cases e2
       have h2 := cell_lt hc2
       have h3 := HZG.out
       exact (HB5.out.block b' h2).trans ((HK9.out b' (by omega)).trans (HU.out.block b' h2)))
      have HCL := hQ' (clone_any (shortL s'.loc) L e' w5 HC.out.rows.nil hrow5 HN4.out)
      clear hb5 hrow5
      go_wp2_with fail
      refine HCL.out.mono ?_
      rintro e w6 ⟨v6, rfl, ho6, hu6⟩
      obtain ⟨A6, c6, rfl, _, _⟩ := own_form ho6
      clear z3 HCL
      have HN6 := hQ' (HN5.out.grow hu6)
      have ho6' := own_base ho6 (show Z.B ≤ w5.heap.size from HN5.out.sz)
      have hv6 : ∀ k, Value.ownBlock (.slice A6 (shortL s'.loc).length c6) = some k → w5.heap.size ≤ k := fun k e => (ho6.lt k e).1
      have hnew : ∀ k, Value.ownBlock (.slice A6 (shortL s'.loc).length c6) = some k → ow k = 0 ∧ Z.w1.heap.size ≤ k := fun k e => by
       have h1 := hv6 k e
       exact ⟨HN5.out.free h1, Nat.le_trans HN5.out.up.size h1⟩
      have hc6 := (HN6.out.cg t HT.out).cell
      rw [put_same] at hc6
      have c1' : w6.cell? ⟨Z.g, t * 11 + 1, none⟩ = some (.int .i64 nx) := by rw [← HNX.out]; exact hc6 1 (by decide)
      have c2' : w6.cell? ⟨Z.g, t * 11 + 2, none⟩ = some (vl t) := hc6 2 (by decide)
      have c3' : w6.cell? ⟨Z.g, t * 11 + 3, none⟩ = some (va t) := hc6 3 (by decide)
      have c7' : w6.cell? ⟨Z.g, t * 11 + 7, none⟩ = some (.int .i64 (S.ths t).st) := hc6 7 (by decide)
      have c8' : w6.cell? ⟨Z.g, t * 11 + 8, none⟩ = some (.int .i64 nn) := hc6 8 (by decide)
      have f1 := HN6.out.fg (t * 11 + 1)
      have f2 := HN6.out.fg (t * 11 + 2)
      have f3 := HN6.out.fg (t * 11 + 3)
      have f7 := HN6.out.fg (t * 11 + 7)
      have f8 := HN6.out.fg (t * 11 + 8)
      have HA2 := hQ' (HN6.out.stL HT.out ho6' hnew)
      have HA3 := hQ' (HA2.out.stA0 HT.out)
      have HA8 := hQ' (HA3.out.stG (j := 8) HT.out (by decide) (.int .i64 (0 : Nat)) { S.ths t with nts := 0, loc := shortL s'.loc, ans := [] } (fun i hi => by match i, hi with | 0, _ | 1, _ | 2, _ | 3, _ | 4, _ | 5, _ | 6, _ | 7, _ | 8, _ | 9, _ | 10, _ => rfl) rfl rfl)
      have HA7 := hQ' (HA8.out.stG (j := 7) HT.out (by decide) (.int .i64 0) { S.ths t with nts := 0, loc := shortL s'.loc, ans := [], st := 0 } (fun i hi => by match i, hi with | 0, _ | 1, _ | 2, _ | 3, _ | 4, _ | 5, _ | 6, _ | 7, _ | 8, _ | 9, _ | 10, _ => rfl) rfl rfl)
      have HA1 := hQ' (HA7.out.stG (j := 1) HT.out (by decide) (.int .i64 ((S.ths t).next + 1 : Nat)) { S.ths t with nts := 0, loc := shortL s'.loc, ans := [], st := 0, next := (S.ths t).next + 1 } (fun i hi => by match i, hi with | 0, _ | 1, _ | 2, _ | 3, _ | 4, _ | 5, _ | 6, _ | 7, _ | 8, _ | 9, _ | 10, _ => rfl) rfl rfl)
      rw [HNX.out] at HA1
      have hwx : wrap64 ((nx : Int) + 1) = ((nx + 1 : Nat) : Int) := by
       have := HPN.out
       rw [IntWalk.wrap64_in _ (by omega)]; omega
      have HGO := hQ' (fun (k : Nat) (hk : k ≠ Z.g) => show (((((w6.setCell ⟨Z.g, t * 11 + 2, none⟩ (.slice A6 (shortL s'.loc).length c6)).setCell ⟨Z.g, t * 11 + 3, none⟩ (.slice none 0 0)).setCell ⟨Z.g, t * 11 + 8, none⟩ (.int .i64 0)).setCell ⟨Z.g, t * 11 + 7, none⟩ (.int .i64 0)).setCell ⟨Z.g, t * 11 + 1, none⟩ (.int .i64 (nx + 1 : Nat))).heap[k]? = w6.heap[k]? from by
       rw [Below.heap_setCell _ _ _ _ hk, Below.heap_setCell _ _ _ _ hk, Below.heap_setCell _ _ _ _ hk, Below.heap_setCell _ _ _ _ hk, Below.heap_setCell _ _ _ _ hk])
      have HOF := hQ' (own_base (own_same HO5.out fun k e => (HGO.out k (by have h1 := (World.ownsRow.lt HO5.out k e).1; have := HZG.out; have := HSZ.out; omega)).trans (hu6.block k (World.ownsRow.lt HO5.out k e).2)) (show q ≤ wc.heap.size by have := HSZ.out; omega))
      have HFR := hQ' (fun (k : Nat) (hk : k < q) (hg : k ≠ Z.g) => (HGO.out k hg).trans ((hu6.block k (by have := HWQ.out; have := HB5.out.size; have := HSZ.out; omega)).trans ((HB5.out.block k (by have := HSZ.out; omega)).trans ((HK9.out k hg).trans ((HU.out.block k (by have := HSZ.out; omega)).trans (HUW.out.block k (by rw [HQ.out]; exact hk)))))))
      have HOW := hQ' (fun (k : Nat) (e : Value.ownBlock (.slice (some ⟨g5, 0, none⟩) (j + 1) cap5) = some k) => show (if Value.ownBlock (.slice A6 (shortL s'.loc).length c6) = some k then 5 + 2 * t else ow k) = 0 from by
       have h1 := World.ownsRow.lt HO5.out k e
       rw [if_neg (fun e2 => by have := hv6 k e2; omega)]
       exact HBC.out.free h1.1)
      have HOO := hQ' (fun (k : Nat) (hk : k < q) => show (if Value.ownBlock (.slice A6 (shortL s'.loc).length c6) = some k then 5 + 2 * t else ow k) = ow k from if_neg (fun e2 => by have := hv6 k e2; have := HWQ.out; have := HB5.out.size; have := HSZ.out; omega))
      clear HA2 HA3 HA8 HA7 ho6 ho6' hv6 hu6 HN6 HGO HO5 HN5 hc6 hnew
      go_wp2_with fail
      go_ret
      unfold WPlayPost
      rw [HQ.out]
      refine ⟨_, (fun i => if i = t then .slice none 0 0 else va i), (fun i => if i = t then (.slice A6 (shortL s'.loc).length c6) else vl i), _, rfl, ?_, ?_, HOO.out, HFR.out, HOW.out⟩
      · rw [HNX.out]; exact HOF.out
      · rw [HNX.out]; exact HA1.out
end Go.Proofs.YtpodgcpkccpnfaaGreat

