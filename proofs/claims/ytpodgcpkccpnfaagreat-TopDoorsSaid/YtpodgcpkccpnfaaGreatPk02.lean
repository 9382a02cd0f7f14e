/-
  Parts of a proof, packed: TapeD, OpT, Ints, CellP, BankP, TapeE, WldP, LogA
-/
import Derived.ScopeJumps
import Derived.Test.YtpodgcpkccpnfaaGreatChecked
import Derived.BigQuiet
import Derived.Test.YtpodgcpkccpnfaaGreatPk01
set_option linter.unusedVariables false
set_option linter.unusedSimpArgs false
set_option maxRecDepth 20000
set_option maxHeartbeats 16000000
namespace Go.Proofs.YtpodgcpkccpnfaaGreat
open Go.RowKit
theorem note_one (a : Int × Int) (l : List (Int × Int)) : ncells (l ++ [a]) = ncells l ++ [.int .i64 a.1, .int .i64 a.2] := by rw [ncells_append]; rfl
theorem note_append {w0 W w1 : World} {g B : Nat} {s : TS} {va : Value} {k0 : Int} {g1 cap : Nat} (hU : Up w0 W) (h : Tape1 w0 g B s) (hca : w0.cell? ⟨g, 4, none⟩ = some va) (hown : w0.ownsRow B 168 2 va s.nts.length (ncells s.nts))
 (hown1 : w1.ownsRow B 168 2 (.slice (some ⟨g1, 0, none⟩) (s.nts.length + 1) cap) (s.nts.length + 1) (ncells s.nts ++ [.int .i64 k0, .int .i64 (s.acc.length : Int)])) (hg : W.grownBy w1 va.ownBlock) :
 w1.cell? ⟨g, 4, none⟩ = some va ∧ w1.frozen? ⟨g, 4, none⟩ = false ∧ Tape1 (w1.setCell ⟨g, 4, none⟩ (.slice (some ⟨g1, 0, none⟩) (s.nts.length + 1) cap)) g B (s.noted k0) ∧ TK g B w0 (w1.setCell ⟨g, 4, none⟩ (.slice (some ⟨g1, 0, none⟩) (s.nts.length + 1) cap)) := by
 have h2 := h.up hU
 have hown2 := own_up hown hU
 have hlow : W.heap[g]? = w1.heap[g]? := (hg.block g h2.1.gs (fun e => by have := own_ge hown2 g e.symm; have := h.1.gB; omega)).symm
 have hca2 : W.cell? ⟨g, 4, none⟩ = some va := (hU.cell (p := ⟨g, 4, none⟩) h.1.gs).trans hca
 refine ⟨(tcell hlow.symm).trans hca2, (tfrozen hlow.symm).trans (h2.1.fz 4), ⟨h2.1.pushN k0 hca2 hown2 hg (by rw [note_one]; exact hown1), h.2⟩, ?_⟩
 exact ((TK.ofUp hU).grown hown2 (.inr (.inr rfl)) hg).setCell _
theorem news1 (w : World) (news : List Value) (e : TypeId) : ∀ j u, news[j]? = some u → (w.alloc (.cells news.toArray e)).drew.cell? ((⟨w.heap.size, 0, none⟩ : Addr).add j) = some u := fun j u h => cells_new w news e j u h
theorem note_any (g B : Nat) (k0 : Int) (s : TS) (w : World) (h : Tape1 w g B s) (hb : s.nts.length < 1000000) :
 Calls Tryz.prog 236 #[.pointer (some ⟨g, 0, none⟩), .int .i64 k0] w fun e w' => e = .returned (.tuple #[]) ∧ Tape1 w' g B (s.noted k0) ∧ TK g B w w' := by
 obtain ⟨va, hca, hown⟩ := h.1.nts
 obtain ⟨Aa, ca, rfl, hac, _⟩ := own_form hown
 obtain ⟨vb, hcb, hownb⟩ := h.1.acc
 obtain ⟨Ab, cb, rfl, hbc, _⟩ := own_form hownb
 have c0 := h.1.c0
 have hgs := h.1.gs
 have HS := hQ' h.1.sz
 have HOWN := hQ' hown
 have HX := hQ' (fun (W w1 : World) (g1 cap : Nat) (hU : Up w W) => note_append (W := W) (w1 := w1) (g1 := g1) (cap := cap) (k0 := k0) hU h hca hown)
 have hf3 := h.1.fz 4
 obtain ⟨i0, hi, hz0, hz1, hz2⟩ := info_parts infoNote
 have HI := hQ' hi
 have HZ0 := hQ' hz0
 have HZ1 := hQ' hz1
 have HZ2 := hQ' hz2
 obtain ⟨n, hn⟩ : ∃ n, s.nts.length = n := ⟨_, rfl⟩
 obtain ⟨m, hm⟩ : ∃ m, s.acc.length = m := ⟨_, rfl⟩
 rw [hn] at hca hac HOWN HX hb
 rw [hm] at hcb HX
 clear hown h hi hz0 hz1 hz2 hn hm hownb
 go_enter Tryz.func236, Tryz.ntmps236
 go_wp2_with fail
 go_region_law (refine step_append_lies _ rfl (.tmp 17) (.tmp 25) 159 rfl B 168 i0 (.agg #[.int .i64 0, .int .i64 0]) 2 16 Tryz.underlying159 HI.out HZ0.out HZ1.out HZ2.out rfl (by decide) _ n (ncells s.nts) rfl (own_up HOWN.out ((Up.refl w).alloc _).drew) ⟨w.heap.size, 0, none⟩ 1 1 [.int .i64 k0, .int .i64 (m : Int)] rfl rfl (news1 w _ _) (by simp [Value.oneCell']) (by decide) (by unfold maxLen; omega) (by omega) (by have := HS.out; simp; omega) _ rfl ?_; intro g1 cap w1 hown1 hgrow hat hlt1; obtain ⟨hc3, hf3', HT0, HK0⟩ := HX.out _ _ _ _ ((Up.refl w).alloc _).drew hown1 hgrow; have HT := hQ' HT0; have HK := hQ' HK0; clear HT0 HK0 hown1 hgrow hat hlt1)
 all_goals
  go_end0
  exact ⟨rfl, HT.out, HK.out⟩
theorem set_append {w0 W w1 : World} {g B : Nat} {s : TS} {A : Option Addr} {c : Nat} {k : Nat} {v1 : Value} (hU : Up w0 W) (h : Tape1 w0 g B s) (hca : w0.cell? ⟨g, 2, none⟩ = some (.slice A s.loc.length c)) (hown : w0.ownsRow B 3 1 (.slice A s.loc.length c) s.loc.length (icells s.loc)) (hk : s.loc.length + k ≤ 32768)
 (hown1 : w1.ownsRow B 3 1 v1 (s.loc.length + k) (icells s.loc ++ List.replicate k (.int .i64 0))) (hg : W.grownBy w1 (Value.slice A s.loc.length c).ownBlock) :
 w1.cell? ⟨g, 2, none⟩ = some (.slice A s.loc.length c) ∧ w1.frozen? ⟨g, 2, none⟩ = false ∧ Tape1 (w1.setCell ⟨g, 2, none⟩ v1) g B { s with loc := s.loc ++ List.replicate k 0 } ∧ TK g B w0 (w1.setCell ⟨g, 2, none⟩ v1) := by
 have h2 := h.up hU
 have hown2 := own_up hown hU
 have hlow : W.heap[g]? = w1.heap[g]? := (hg.block g h2.1.gs (fun e => by have := own_ge hown2 g e.symm; have := h.1.gB; omega)).symm
 have hca2 : W.cell? ⟨g, 2, none⟩ = some (.slice A s.loc.length c) := (hU.cell (p := ⟨g, 2, none⟩) h.1.gs).trans hca
 refine ⟨(tcell hlow.symm).trans hca2, (tfrozen hlow.symm).trans (h2.1.fz 2), ⟨?_, h.2⟩, ((TK.ofUp hU).grown hown2 (.inl rfl) hg).setCell _⟩
 refine h2.1.newL (s.loc ++ List.replicate k 0) (by simp; omega) ?_ hg.size ?_
 · intro q hq hno
   refine hg.block q hq (fun e => ?_)
   rcases hown2.2 with ⟨hv, _⟩ | ⟨g', cap, cur, hv, hb, h3, _⟩
   · rw [hv] at e; simp [Value.ownBlock] at e
   · rw [hv] at e
     simp only [Value.ownBlock, Option.some.injEq] at e
     subst e
     exact hno cur hb h3
 · have : (s.loc ++ List.replicate k (0 : Int)).length = s.loc.length + k := by simp
   rw [this]
   have h3 : icells (s.loc ++ List.replicate k 0) = icells s.loc ++ List.replicate k (.int .i64 0) := by unfold icells; simp
   rw [h3]
   exact hown1
theorem set_store {w : World} {g B : Nat} {s : TS} (h : Tape1 w g B s) (k : Nat) (hk : k < s.loc.length) (x : Int) :
 ∃ gl c, w.cell? ⟨g, 2, none⟩ = some (.slice (some ⟨gl, 0, none⟩) s.loc.length c) ∧ w.cell? ⟨gl, k, none⟩ = some (.int .i64 (s.loc.getD k 0)) ∧ w.frozen? ⟨gl, k, none⟩ = false ∧
  Tape1 (w.setCell ⟨gl, k, none⟩ (.int .i64 x)) g B { s with loc := s.loc.set k x } ∧ TK g B w (w.setCell ⟨gl, k, none⟩ (.int .i64 x)) ∧ gl ≠ g := by
 obtain ⟨v, hcv, hown⟩ := h.1.loc
 have hown0 := hown
 rcases hown.2 with ⟨_, h0⟩ | ⟨gl, cap, cur, rfl, hb, hh, hnc, hcm, hcs, htake⟩
 · omega
 · have hgl : gl ≠ g := by have := h.1.gB; omega
   have hset : ∀ q, q ≠ gl → (w.setCell ⟨gl, k, none⟩ (.int .i64 x)).heap[q]? = w.heap[q]? := fun q hne => Below.heap_setCell w ⟨gl, k, none⟩ _ q hne
   have hgg := hset g (by omega)
   have hrow : ∀ e', e' ≠ 3 → ∀ q cs, B ≤ q → w.heap[q]? = some (.cells cs e' (0, 0)) → (w.setCell ⟨gl, k, none⟩ (.int .i64 x)).heap[q]? = w.heap[q]? := fun e' hne q cs _ hq => hset q (fun e => by
    subst e
    rw [hh] at hq
    simp only [Option.some.injEq, Obj.cells.injEq] at hq
    exact hne hq.2.1.symm)
   refine ⟨gl, cap, hcv, ?_, ?_, ⟨⟨h.1.gB, by simpa using h.1.sz, (tcell hgg).trans h.1.c0, fun j => (tfrozen hgg).trans (h.1.fz j), ?_, ?_, ?_, ?_, h.1.la, h.1.lb, by simpa using h.1.ll⟩, h.2⟩, ?_, hgl⟩
   · rw [hown0.cellAt k (by omega)]
     have := iVal_map hk
     unfold IVal at this
     exact this
   · exact hown0.frozenAt k
   · obtain ⟨A, c, h1, h2, h3⟩ := h.1.ans
     exact ⟨A, c, (tcell hgg).trans h1, row_keep h2 (fun b off e hp => hset b (by have := h3 b off e hp; have := h.1.gB; omega)), h3⟩
   · refine ⟨_, (tcell hgg).trans hcv, ?_⟩
     have hst := (hown0.stored k (.int .i64 x)).1
     have e1 : icells (s.loc.set k x) = (icells s.loc).set k (.int .i64 x) := by unfold icells; rw [List.map_set]
     rw [e1]
     simpa using hst
   · obtain ⟨v2, h1, h2⟩ := h.1.acc
     exact ⟨v2, (tcell hgg).trans h1, own_keep h2 (hrow _ (by decide))⟩
   · obtain ⟨v2, h1, h2⟩ := h.1.nts
     exact ⟨v2, (tcell hgg).trans h1, own_keep h2 (hrow _ (by decide))⟩
   · exact ⟨rfl, rfl, rfl, by simp, fun q _ _ hf => hset q (fun e => by
      subst e
      exact absurd rfl (hf hb cur _ hh).1)⟩
theorem i64w (y : Int) (h0 : -4611686018427387904 ≤ y) (h1 : y ≤ 4611686018427387904) : IntKind.i64.wrap y = y := by simp [IntKind.wrap, IntKind.bits, IntKind.signed]; omega
theorem wrap_k (p n k : Nat) (h : p + 1 = n + k) (hp : (p : Int) ≤ 32767) : IntKind.i64.wrap (IntKind.i64.wrap ((p : Int) + 1) - (n : Int)) = (k : Int) := by
 rw [i64w ((p : Int) + 1) (by omega) (by omega), i64w _ (by omega) (by omega)]
 omega
theorem set_out (s : TS) (i x : Int) (h : i < 0 ∨ 32768 ≤ i) : s.set i x = s := by unfold TS.set; rw [if_pos h]
theorem set_none (s : TS) (i : Int) (h : ¬ (i < 0 ∨ 32768 ≤ i)) (h2 : (s.loc.length : Int) ≤ i) : s.set i 0 = s := by unfold TS.set; rw [if_neg h, if_pos h2, if_pos rfl]
theorem set_more (s : TS) (p k : Nat) (x : Int) (h : p < 32768) (h2 : p + 1 = s.loc.length + k) (hk : 0 < k) (hx : ¬ x = 0) : s.set p x = { s with loc := (s.loc ++ List.replicate k 0).set p x } := by
 unfold TS.set
 rw [if_neg (by omega), if_pos (by omega), if_neg hx, Int.toNat_natCast, h2]
 congr 4
 omega
theorem set_in (s : TS) (p : Nat) (x : Int) (h : p < 32768) (h2 : p < s.loc.length) : s.set p x = { s with loc := s.loc.set p x } := by
 unfold TS.set
 rw [if_neg (by omega), if_neg (by omega), Int.toNat_natCast]
theorem set_any (g B : Nat) (i x : Int) (s : TS) (w : World) (h : Tape1 w g B s) :
 Calls Tryz.prog 207 #[.pointer (some ⟨g, 0, none⟩), .int .i64 i, .int .i64 x] w fun e w' => e = .returned (.tuple #[]) ∧ Tape1 w' g B (s.set i x) ∧ TK g B w w' := by
 obtain ⟨v, hcv, hown⟩ := h.1.loc
 obtain ⟨A, c, rfl, hac, hcm⟩ := own_form hown
 have c0 := h.1.c0
 have hll := h.1.ll
 have H := hQ' h
 by_cases hr : i < 0 ∨ 32768 ≤ i
 · have HG := hQ' (set_out s i x hr)
   clear h hown hcv
   rcases hr with h1 | h1
   · go_enter Tryz.func207, Tryz.ntmps207
     go_wp2_with fail
     refine bodyPost_ret (results_none rfl _ _ _) rfl ?_
     exact ⟨rfl, by rw [HG.out]; exact H.out, TK.refl _ _ _⟩
   · have h2 : ¬ i < 0 := by omega
     go_enter Tryz.func207, Tryz.ntmps207
     go_wp2_with fail
     refine bodyPost_ret (results_none rfl _ _ _) rfl ?_
     exact ⟨rfl, by rw [HG.out]; exact H.out, TK.refl _ _ _⟩
 · have h1 : ¬ i < 0 := by omega
   have h2 : ¬ 32768 ≤ i := by omega
   obtain ⟨p, rfl⟩ : ∃ p : Nat, i = p := ⟨i.toNat, by omega⟩
   by_cases hin : p < s.loc.length
   · have HG := hQ' (set_in s p x (by omega) hin)
     obtain ⟨gl, c1, k1, k2, k3, k4, k5, hne⟩ := set_store h p hin x
     have H4 := hQ' k4
     have H5 := hQ' k5
     have hle : ¬ (s.loc.length : Int) ≤ (p : Int) := by omega
     have hmp : ((p : Int) < s.loc.length) := by omega
     clear h hown hcv hr k4 k5 hin
     generalize s.loc.getD p 0 = old at *
     obtain ⟨n, hn⟩ : ∃ n, s.loc.length = n := ⟨_, rfl⟩
     rw [hn] at k1 hle hll hmp
     clear hn hac hcm
     go_enter Tryz.func207, Tryz.ntmps207
     go_wp2_with fail
     go_end0
     exact ⟨rfl, by rw [HG.out]; exact H4.out, H5.out⟩
   · by_cases hx : x = 0
     · subst hx
       have HG := hQ' (set_none s p hr (by omega))
       have hle : (s.loc.length : Int) ≤ (p : Int) := by omega
       clear h hown hr hin
       obtain ⟨n, hn⟩ : ∃ n, s.loc.length = n := ⟨_, rfl⟩
       rw [hn] at hcv hle hll
       clear hn hac
       go_enter Tryz.func207, Tryz.ntmps207
       go_wp2_with fail
       refine bodyPost_ret (results_none rfl _ _ _) rfl ?_
       exact ⟨rfl, by rw [HG.out]; exact H.out, TK.refl _ _ _⟩
     · obtain ⟨k, hk⟩ : ∃ k, p + 1 = s.loc.length + k := ⟨p + 1 - s.loc.length, by omega⟩
       have HG := hQ' (set_more s p k x (by omega) hk (by omega) hx)
       have HX := hQ' (fun (W w1 : World) (v1 : Value) (hU : Up w W) => set_append (W := W) (w1 := w1) (v1 := v1) (k := k) hU h hcv hown (by omega))
       have HOWN := hQ' hown
       have hgs := h.1.gs
       have hf2 := h.1.fz 2
       have HS := hQ' h.1.sz
       obtain ⟨i0, hi, hz0, hz1, hz2⟩ := info_parts infoInt
       have HI := hQ' hi
       have HZ0 := hQ' hz0
       have HZ1 := hQ' hz1
       have HZ2 := hQ' hz2
       have hle : (s.loc.length : Int) ≤ (p : Int) := by omega
       have hx0 : (x == 0) = false := by simpa using hx
       have HL := hQ' (show (s.loc ++ List.replicate k (0 : Int)).length = p + 1 by simp; omega)
       obtain ⟨n, hn⟩ : ∃ n, s.loc.length = n := ⟨_, rfl⟩
       rw [hn] at hcv hle hll HX HOWN hk hac
       have HK := hQ' hk
       have hp1 : (p : Int) ≤ 32767 := by omega
       have HW := hQ' (show IntKind.i64.wrap (IntKind.i64.wrap ((p : Int) + 1) - (n : Int)) = (k : Int) from wrap_k p n k hk hp1)
       clear h hown hr hin hn hi hz0 hz1 hz2 hk
       go_enter Tryz.func207, Tryz.ntmps207
       go_wp2_with fail
       go_region_law (refine step_append_zeros rfl (.tmp 36) (.tmp 44) 25 3 rfl B 3 i0 .i64 .i64 Tryz.underlying25 Tryz.underlying3 HI.out HZ0.out HZ1.out HZ2.out _ n (icells s.loc) rfl (own_up HOWN.out (Up.refl w).drew) k (by simp [Act.eval, Act.put]; exact HW.out) (by have := HK.out; omega) (by have := HK.out; omega) (by have := HS.out; simp; omega) ?_; intro v1 w1 hown1 hgrow; obtain ⟨g1, cap, rfl, _, _⟩ := hown1.form (by have := HK.out; omega); obtain ⟨hc3, hf3', HT0, HK0⟩ := HX.out _ _ _ (Up.refl w).drew hown1 hgrow; have HT := hQ' HT0; have HK9 := hQ' HK0; clear HT0 HK0 hown1 hgrow)
       all_goals
        generalize w1.setCell ⟨g, 2, none⟩ (.slice (some ⟨g1, 0, none⟩) (n + k) cap) = W1 at *
        obtain ⟨gl, c1, k1, k2, k3, k4, k5, hne⟩ := set_store HT.out p (by rw [HL.out]; omega) x
        simp only at k1 k2 k4
        rw [HL.out] at k1
        have H4 := hQ' k4
        have H5 := hQ' (HK9.out.trans k5)
        have hm1 : (p : Int) < ((p + 1 : Nat) : Int) := by omega
        clear hc3 hf3' hcv hf2 k4 k5 HT HK9 HOWN
        generalize (s.loc ++ List.replicate k (0 : Int)).getD p 0 = old at *
        generalize p + 1 = q at *
        go_wp2_with fail
        go_end0
        exact ⟨rfl, by rw [HG.out]; exact H4.out, H5.out⟩
end Go.Proofs.YtpodgcpkccpnfaaGreat

namespace Go.Proofs.YtpodgcpkccpnfaaGreat
open Go.RowKit
theorem set_len (s : TS) (i v : Int) : (s.set i v).acc = s.acc ∧ (s.set i v).nts = s.nts ∧ (s.set i v).loc.length ≤ max s.loc.length 32768 := by
 unfold TS.set
 split
 · exact ⟨rfl, rfl, by omega⟩
 · split
   · split
     · exact ⟨rfl, rfl, by omega⟩
     · refine ⟨rfl, rfl, ?_⟩
       simp only [List.length_set, List.length_append, List.length_replicate]
       omega
   · refine ⟨rfl, rfl, ?_⟩
     simp only [List.length_set]
     omega
theorem asked_len (s : TS) (a : Int × Int × Int) : (s.asked a).acc.length = s.acc.length + 1 ∧ (s.asked a).nts = s.nts ∧ (s.asked a).loc = s.loc := by simp [TS.asked]
theorem set_nts (s : TS) (i x : Int) : (s.set i x).nts = s.nts := by
 unfold TS.set
 split
 · rfl
 · split
   · split <;> rfl
   · rfl
theorem set_acc (s : TS) (i x : Int) : (s.set i x).acc = s.acc := by
 unfold TS.set
 split
 · rfl
 · split
   · split <;> rfl
   · rfl
theorem set_ans (s : TS) (i x : Int) : (s.set i x).ans = s.ans := by
 unfold TS.set
 split
 · rfl
 · split
   · split <;> rfl
   · rfl
inductive Op (α : Type) : Type where
 | ret (v : α) : Op α
 | ask (a : Int × Int × Int) (k : Int → Op α) : Op α
 | get (i : Int) (k : Int → Op α) : Op α
 | set (i v : Int) (k : Op α) : Op α
 | note (c : Int) (k : Op α) : Op α
 | live (k : Bool → Op α) : Op α
variable {α β : Type}
def Op.bind : Op α → (α → Op β) → Op β
 | .ret v, f => f v
 | .ask a k, f => .ask a fun x => (k x).bind f
 | .get i k, f => .get i fun x => (k x).bind f
 | .set i v k, f => .set i v (k.bind f)
 | .note c k, f => .note c (k.bind f)
 | .live k, f => .live fun b => (k b).bind f
def Op.onT : Op α → TS → Option α × TS
 | .ret v, s => (some v, s)
 | .ask a k, s => if s.acc.length < s.ans.length then (k s.told).onT (s.asked a) else (none, s.asked a)
 | .get i k, s => (k (s.get i)).onT s
 | .set i v k, s => k.onT (s.set i v)
 | .note c k, s => k.onT (s.noted c)
 | .live k, s => (k true).onT s
def andT (x : Option α × TS) (f : α → TS → Option β × TS) : Option β × TS := match x with
 | (some v, s) => f v s
 | (none, s) => (none, s)
theorem onT_bind : ∀ (o : Op α) (f : α → Op β) (s : TS), (o.bind f).onT s = andT (o.onT s) fun v s => (f v).onT s
 | .ret v, f, s => rfl
 | .ask a k, f, s => by
  show (if _ then _ else _) = andT (if _ then _ else _) _
  by_cases h : s.acc.length < s.ans.length
  · rw [if_pos h, if_pos h]; exact onT_bind (k s.told) f _
  · rw [if_neg h, if_neg h]; rfl
 | .get i k, f, s => onT_bind (k (s.get i)) f s
 | .set i v k, f, s => onT_bind k f _
 | .note c k, f, s => onT_bind k f _
 | .live k, f, s => onT_bind (k true) f s
theorem op_len : ∀ (o : Op α) (s : TS), s.acc.length ≤ s.ans.length → (o.onT s).2.acc.length ≤ s.ans.length + 1 ∧ (o.onT s).2.ans = s.ans ∧ (o.onT s).2.loc.length ≤ max s.loc.length 32768
 | .ret v, s, h => ⟨Nat.le_succ_of_le h, rfl, Nat.le_max_left _ _⟩
 | .ask a k, s, h => by
  obtain ⟨e1, e2, e3⟩ := asked_len s a
  by_cases hlt : s.acc.length < s.ans.length
  · have e : (Op.ask a k).onT s = (k s.told).onT (s.asked a) := if_pos hlt
    rw [e]
    have := op_len (k s.told) (s.asked a) (by rw [e1]; exact hlt)
    rw [e3] at this
    exact this
  · have e : (Op.ask a k).onT s = (none, s.asked a) := if_neg hlt
    rw [e]
    exact ⟨by rw [e1]; show _ ≤ s.ans.length + 1; omega, rfl, by rw [e3]; exact Nat.le_max_left _ _⟩
 | .get i k, s, h => op_len (k _) s h
 | .set i v k, s, h => by
  obtain ⟨e1, e2, e3⟩ := set_len s i v
  have := op_len k (s.set i v) (by rw [e1, set_ans]; exact h)
  rw [set_ans] at this
  exact ⟨this.1, this.2.1, by have := this.2.2; show (k.onT (s.set i v)).2.loc.length ≤ _; omega⟩
 | .note c k, s, h => op_len k (s.noted c) h
 | .live k, s, h => op_len (k true) s h
def Op.few : Nat → Op α → Prop
 | n, .ret v => True
 | n, .ask a k => ∀ x, (k x).few n
 | n, .get i k => ∀ x, (k x).few n
 | n, .set i v k => k.few n
 | n, .note c k => ∃ m, n = m + 1 ∧ k.few m
 | n, .live k => ∀ b, (k b).few n
theorem op_few : ∀ (o : Op α) (n : Nat) (s : TS), o.few n → (o.onT s).2.nts.length ≤ s.nts.length + n
 | .ret v, n, s, h => Nat.le_add_right _ _
 | .ask a k, n, s, h => by
  by_cases hlt : s.acc.length < s.ans.length
  · have e : (Op.ask a k).onT s = (k s.told).onT (s.asked a) := if_pos hlt
    rw [e]; exact op_few (k s.told) n (s.asked a) (h _)
  · have e : (Op.ask a k).onT s = (none, s.asked a) := if_neg hlt
    rw [e]; exact Nat.le_add_right _ _
 | .get i k, n, s, h => op_few (k _) n s (h _)
 | .set i v k, n, s, h => by
  have := op_few k n (s.set i v) h
  rw [set_nts] at this
  exact this
 | .note c k, n, s, h => by
  obtain ⟨m, rfl, h2⟩ := h
  have := op_few k m (s.noted c) h2
  simp only [TS.noted, List.length_append, List.length_singleton] at this
  show (k.onT (s.noted c)).2.nts.length ≤ _
  simp only [TS.noted]
  omega
 | .live k, n, s, h => op_few (k true) n s (h true)
theorem few_bind : ∀ (o : Op α) (f : α → Op β) (n m : Nat), o.few n → (∀ v, (f v).few m) → (o.bind f).few (n + m)
 | .ret v, f, n, m, h, hf => few_more (f v) (hf v) (by omega)
 | .ask a k, f, n, m, h, hf => fun x => few_bind (k x) f n m (h x) hf
 | .get i k, f, n, m, h, hf => fun x => few_bind (k x) f n m (h x) hf
 | .set i v k, f, n, m, h, hf => few_bind k f n m h hf
 | .note c k, f, n, m, h, hf => by
  obtain ⟨n', rfl, h2⟩ := h
  exact ⟨n' + m, by omega, few_bind k f n' m h2 hf⟩
 | .live k, f, n, m, h, hf => fun b => few_bind (k b) f n m (h b) hf
where few_more {γ : Type} : ∀ (o : Op γ) {n m : Nat}, o.few n → n ≤ m → o.few m
 | .ret v, n, m, h, hle => trivial
 | .ask a k, n, m, h, hle => fun x => few_more (k x) (h x) hle
 | .get i k, n, m, h, hle => fun x => few_more (k x) (h x) hle
 | .set i v k, n, m, h, hle => few_more k h hle
 | .note c k, n, m, h, hle => by
  obtain ⟨n', rfl, h2⟩ := h
  obtain ⟨m', rfl⟩ : ∃ m', m = m' + 1 := ⟨m - 1, by omega⟩
  exact ⟨m', rfl, few_more k h2 (by omega)⟩
 | .live k, n, m, h, hle => fun b => few_more (k b) (h b) hle
theorem TPost.two {enc : α → Value} {g B : Nat} {w : World} {r : Option α × TS} {e : Ending} {w' : World} (h : TPost enc g B w r e w') :
 (∃ v s', r = (Option.some v, s') ∧ e = .returned (enc v) ∧ Tape1 w' g B s' ∧ TK g B w w') ∨ (∃ s', r = (Option.none, s') ∧ e = .panicked (stopC g) ∧ TapeIs w' g B 2 s' ∧ TK g B w w') := by
 obtain ⟨o, s'⟩ := r
 cases o with
 | some v => exact .inl ⟨v, s', rfl, TPost.of_some rfl h⟩
 | none => exact .inr ⟨s', rfl, TPost.of_none rfl h⟩
theorem TPost.from {enc : α → Value} {g B : Nat} {w0 w : World} {r : Option α × TS} {e : Ending} {w' : World} (h : TPost enc g B w r e w') (k : TK g B w0 w) : TPost enc g B w0 r e w' := ⟨h.1, k.trans h.2⟩
theorem wp_scope_hop {P : Program} {a : Act} {w : World} {Q : Exit → Act → World → Prop} {c rest : Code} (l : Nat) (hf : findLabel c l = some rest)
 (first : ∀ J : Act → World → Prop, Hid (∀ a w, rest.wp P (Exit.noGoto Q) a w → J a w) → c.wp P (Exit.jump l J Q) a w) : (Code.scope c).wp P Q a w :=
 wp_scope_jumps l (fun a w => rest.wp P (Exit.noGoto Q) a w) (fun _ _ => 0) hf (first _ (hQ' fun _ _ h => h)) (fun a w h => wp_mono h (fun e a' w' q => by
  cases e <;> first | exact q | exact q.elim))
def Goes (g B : Nat) (W : World) (R : Option α × TS) (enc : β → Value) (k : β → Op α) (e : Ending) (w' : World) : Prop :=
 (∃ s', e = .panicked (stopC g) ∧ Hid (TapeIs w' g B 2 s') ∧ Hid (TK g B W w') ∧ Hid (R = (none, s'))) ∨ (∃ x s', e = .returned (enc x) ∧ Hid (Tape1 w' g B s') ∧ Hid (TK g B W w') ∧ Hid ((k x).onT s' = R))
theorem call_step {g B : Nat} {W : World} {s : TS} {R : Option α × TS} {enc : β → Value} {o : Op β} {k : β → Op α} {f : Nat} {args : Array Value}
 (hc : Calls Tryz.prog f args W (TPost enc g B W (o.onT s))) (hE : (o.bind k).onT s = R) : Calls Tryz.prog f args W (Goes g B W R enc k) :=
 hc.mono fun e w' q => by
  rw [onT_bind] at hE
  rcases q.two with ⟨v, s', hr, he, h1, k1⟩ | ⟨s', hr, he, h1, k1⟩
  · rw [hr] at hE
    exact .inr ⟨v, s', he, hQ' h1, hQ' k1, hQ' hE⟩
  · rw [hr] at hE
    exact .inl ⟨s', he, hQ' h1, hQ' k1, hQ' hE.symm⟩
end Go.Proofs.YtpodgcpkccpnfaaGreat

namespace Go.Proofs.YtpodgcpkccpnfaaGreat
open Go.RowKit
def clampI (n lo hi : Int) : Int := if n < lo then lo else if hi < n then hi else n
theorem within_any (n lo hi : Int) (w : World) : Calls Tryz.prog 63 #[.int .i64 n, .int .i64 lo, .int .i64 hi] w fun e w' => e = .returned (.int .i64 (clampI n lo hi)) ∧ w = w' := by
 unfold clampI
 by_cases h1 : n < lo
 · rw [if_pos h1]
   go_enter Tryz.func63, Tryz.ntmps63
   go_wp2
   go_ret
   exact ⟨rfl, rfl⟩
 · rw [if_neg h1]
   by_cases h2 : hi < n
   · rw [if_pos h2]
     go_enter Tryz.func63, Tryz.ntmps63
     go_wp2
     go_ret
     exact ⟨rfl, rfl⟩
   · rw [if_neg h2]
     go_enter Tryz.func63, Tryz.ntmps63
     go_wp2
     go_ret
     exact ⟨rfl, rfl⟩
def wrapI (n top : Int) : Int := n % (clampI top 0 1099511627776 + 1)
theorem clampI_le (top : Int) : 0 ≤ clampI top 0 1099511627776 ∧ clampI top 0 1099511627776 ≤ 1099511627776 := by
 unfold clampI
 split
 · omega
 · split <;> omega
theorem tmod_emod (n m : Int) (hm : 0 < m) : -m < n.tmod m ∧ n.tmod m < m ∧ n % m = if n.tmod m < 0 then n.tmod m + m else n.tmod m := by
 by_cases hn : 0 ≤ n
 · rw [Int.tmod_eq_emod_of_nonneg hn]
   have h1 := Int.emod_nonneg n (show m ≠ 0 by omega)
   have h2 := Int.emod_lt_of_pos n hm
   refine ⟨by omega, h2, ?_⟩
   rw [if_neg (by omega)]
 · have e : n.tmod m = -((-n) % m) := by
    have := Int.neg_tmod (-n) m
    rw [Int.neg_neg] at this
    rw [this, Int.tmod_eq_emod_of_nonneg (by omega)]
   have h1 := Int.emod_nonneg (-n) (show m ≠ 0 by omega)
   have h2 := Int.emod_lt_of_pos (-n) hm
   have h3 := Int.mul_ediv_add_emod (-n) m
   generalize hk : (-n) % m = k at *
   have hn2 : n = m * (-((-n) / m)) + (-k) := by
    rw [Int.mul_neg]
    omega
   have h4 : n % m = (-k) % m := by
    rw [hn2, Int.mul_add_emod_self_left]
   rw [e]
   refine ⟨by omega, by omega, ?_⟩
   rw [h4]
   by_cases hk0 : k = 0
   · subst hk0; simp
   · rw [if_pos (by omega), ← Int.add_emod_right, Int.emod_eq_of_lt (by omega) (by omega)]
theorem wrapR_any (n top : Int) (w : World) : Calls Tryz.prog 34 #[.int .i64 n, .int .i64 top] w fun e w' => e = .returned (.int .i64 (wrapI n top)) ∧ w = w' := by
 have C := hQ' (within_any top 0 1099511627776 w)
 have HW := hQ' (show wrapI n top = n % (clampI top 0 1099511627776 + 1) from rfl)
 obtain ⟨h0, h1⟩ := clampI_le top
 generalize clampI top 0 1099511627776 = t at *
 have hm0 : ¬ (t + 1 = 0) := by omega
 obtain ⟨hq, hp, he⟩ := tmod_emod n (t + 1) (by omega)
 have HE := hQ' he
 have HP := hQ' hp
 have HQ := hQ' hq
 clear hp hq he
 go_enter Tryz.func34, Tryz.ntmps34
 go_wp2_with fail
 refine C.out.mono ?_
 rintro e w' ⟨rfl, rfl⟩
 by_cases hr : n.tmod (t + 1) < 0
 · have hq := HQ.out
   have hp := HP.out
   have HE2 := hQ' (HE.out.trans (if_pos hr))
   go_wp2_with fail
   go_ret
   exact ⟨by rw [HW.out, HE2.out]; rfl, rfl⟩
 · have hq := HQ.out
   have hp := HP.out
   have HE2 := hQ' (HE.out.trans (if_neg hr))
   go_wp2_with fail
   go_ret
   exact ⟨by rw [HW.out, HE2.out]; rfl, rfl⟩
end Go.Proofs.YtpodgcpkccpnfaaGreat

namespace Go.Proofs.YtpodgcpkccpnfaaGreat
open Go.RowKit
structure Acc8 where
 on : Bool
 wr : Bool
 val : Int
 ov : Bool
 may : List Int
def acc0 : Acc8 := ⟨false, false, 0, false, []⟩
structure CS where
 kind : Int
 top : Int
 value : Int
 bys : Nat → Acc8
def CS.new (kind top : Int) : CS := ⟨kind, clampI top 0 1099511627776, 0, fun _ => acc0⟩
def CS.put (c : CS) (t : Nat) (a : Acc8) : CS := { c with bys := fun i => if i = t then a else c.bys i }
def ovl (kind : Int) (v : Int) (r : Acc8) : Acc8 := { r with ov := true, may := if kind = 2 then r.may ++ [v] else r.may }
def readN (c : CS) : Nat → Acc8
 | 0 => ⟨true, false, 0, false, if c.kind = 2 then [c.value] else []⟩
 | n + 1 => if (c.bys n).on = true ∧ (c.bys n).wr = true then ovl c.kind (c.bys n).val (readN c n) else readN c n
def wrN (c : CS) (v : Int) : Nat → CS
 | 0 => c
 | n + 1 => if ((wrN c v n).bys n).on = true ∧ ((wrN c v n).bys n).wr = false then (wrN c v n).put n (ovl c.kind v ((wrN c v n).bys n)) else wrN c v n
def clampT (v top : Int) : Int := clampI v 0 (clampI top 0 1099511627776)
def CS.begin (c : CS) (t k v : Int) : Int × CS :=
 if t < 0 ∨ 8 ≤ t ∨ (k ≠ 1 ∧ k ≠ 2) then (1, c)
 else if (c.bys t.toNat).on = true then (12, c)
 else if k = 1 then (0, c.put t.toNat (readN c 8))
 else (0, (wrN c (clampT v c.top) 8).put t.toNat ⟨true, true, clampT v c.top, false, []⟩)
def tellC (c : CS) (a : Acc8) (d : Int) : Int :=
 if c.kind = 1 ∧ a.ov = true then wrapI d c.top else if c.kind = 2 then a.may.getD (wrapI d ((a.may.length : Int) - 1)).toNat 0 else c.value
def CS.endA (c : CS) (t d : Int) : Int × Int × CS :=
 if t < 0 ∨ 8 ≤ t then (0, 7, c)
 else if (c.bys t.toNat).on = false then (0, 7, c)
 else if (c.bys t.toNat).wr = true then (0, 0, { c.put t.toNat acc0 with value := (c.bys t.toNat).val })
 else (tellC c (c.bys t.toNat) d, 0, c.put t.toNat acc0)
end Go.Proofs.YtpodgcpkccpnfaaGreat

namespace Go.Proofs.YtpodgcpkccpnfaaGreat
open Go.RowKit
structure BS where
 u : List (Int × CS)
 by' : Nat → Bool × Int
def getU : List (Int × CS) → Int → Option CS
 | [], _ => none
 | p :: r, n => if p.1 = n then some p.2 else getU r n
def putU : List (Int × CS) → Int → CS → List (Int × CS)
 | [], n, c => [(n, c)]
 | p :: r, n, c => if p.1 = n then (n, c) :: r else p :: putU r n c
theorem getU_same (n : Int) (c : CS) : ∀ u, getU (putU u n c) n = some c
 | [] => by simp [putU, getU]
 | p :: r => by
  unfold putU
  split
  · simp [getU]
  · rename_i h
    simp [getU, h, getU_same n c r]
theorem getU_other {n m : Int} (h : m ≠ n) (c : CS) : ∀ u, getU (putU u n c) m = getU u m
 | [] => by simp [putU, getU, Ne.symm h]
 | p :: r => by
  unfold putU
  split
  · rename_i e
    simp [getU, e, Ne.symm h]
  · simp only [getU, getU_other h c r]
def bs0 : BS := ⟨[], fun _ => (false, 0)⟩
def BS.busy (s : BS) (t : Int) : Int × Bool := if t < 0 ∨ 8 ≤ t then (0, false) else ((s.by' t.toNat).2, (s.by' t.toNat).1)
def BS.setBy (s : BS) (t : Int) (p : Bool × Int) : BS := { s with by' := fun i => if i = t.toNat then p else s.by' i }
def BS.begin (many : Int) (er : Int) (mk : Int → CS) (s : BS) (t k cl v : Int) : Int × BS :=
 if ¬ (0 ≤ cl ∧ cl < many) then (er, s)
 else if (s.busy t).2 = true then (12, s)
 else if (((getU s.u cl).getD (mk cl)).begin t k v).1 ≠ 0 then ((((getU s.u cl).getD (mk cl)).begin t k v).1, s)
 else (0, { u := putU s.u cl (((getU s.u cl).getD (mk cl)).begin t k v).2, by' := fun i => if i = t.toNat then (true, cl) else s.by' i })
def BS.endA (mk : Int → CS) (s : BS) (t d : Int) : Int × Int × BS :=
 if (s.busy t).2 = false then (0, 7, s)
 else ((((getU s.u (s.busy t).1).getD (mk 0)).endA t d).1, (((getU s.u (s.busy t).1).getD (mk 0)).endA t d).2.1,
  { u := putU s.u (s.busy t).1 (((getU s.u (s.busy t).1).getD (mk 0)).endA t d).2.2, by' := fun i => if i = t.toNat then (false, 0) else s.by' i })
def BS.value (s : BS) (n : Int) : Int := match getU s.u n with | none => 0 | some c => c.value
def BS.Good (s : BS) : Prop := ∀ t, t < 8 → (s.by' t).1 = true → (getU s.u (s.by' t).2).isSome = true
theorem bs0_good : bs0.Good := fun t _ h => by cases h
theorem busy_in {s : BS} {t : Int} (h : (s.busy t).2 = true) : 0 ≤ t ∧ t < 8 ∧ (s.by' t.toNat).1 = true ∧ (s.busy t).1 = (s.by' t.toNat).2 := by
 unfold BS.busy at h ⊢
 split at h
 · cases h
 · rename_i hn
   rw [if_neg hn]
   exact ⟨by omega, by omega, h, rfl⟩
theorem BS.Good.begin {s : BS} (h : s.Good) (many er : Int) (mk : Int → CS) (t k cl v : Int) : (s.begin many er mk t k cl v).2.Good := by
 unfold BS.begin
 split
 · exact h
 split
 · exact h
 split
 · exact h
 intro i hi hon
 simp only at hon ⊢
 by_cases e : i = t.toNat
 · rw [if_pos e, getU_same]; rfl
 · rw [if_neg e] at hon ⊢
   by_cases e2 : (s.by' i).2 = cl
   · rw [e2, getU_same]; rfl
   · rw [getU_other e2]; exact h i hi hon
theorem BS.Good.endA {s : BS} (h : s.Good) (mk : Int → CS) (t d : Int) : (s.endA mk t d).2.2.Good := by
 unfold BS.endA
 split
 · exact h
 intro i hi hon
 simp only at hon ⊢
 by_cases e : i = t.toNat
 · rw [if_pos e] at hon; cases hon
 · rw [if_neg e] at hon ⊢
   by_cases e2 : (s.by' i).2 = (s.busy t).1
   · rw [e2, getU_same]; rfl
   · rw [getU_other e2]; exact h i hi hon
def ByR (k : Int) (p q : Bool × Int) : Prop := (p = (true, k) → q = (true, k)) ∧ (p ≠ (true, k) → q = (false, 0))
structure Apart (k : Int) (a b : BS) : Prop where
 same : getU a.u k = getU b.u k
 by' : ∀ t, t < 8 → ByR k (a.by' t) (b.by' t)
theorem Apart.value {k : Int} {a b : BS} (h : Apart k a b) : a.value k = b.value k := by unfold BS.value; rw [h.same]
theorem Apart.busy {k : Int} {a b : BS} (h : Apart k a b) {t : Int} (ha : (a.busy t).2 = true) (hk : (a.busy t).1 = k) : b.busy t = (k, true) := by
 obtain ⟨h1, h2, h3, h4⟩ := busy_in ha
 have e : a.by' t.toNat = (true, k) := by rw [← hk, h4]; exact Prod.ext h3 rfl
 have := (h.by' t.toNat (by omega)).1 e
 unfold BS.busy
 rw [if_neg (by omega), this]
theorem Apart.endK {k : Int} {a b : BS} (h : Apart k a b) (mk : Int → CS) {t : Int} (d : Int) (ha : (a.busy t).2 = true) (hk : (a.busy t).1 = k) :
 (a.endA mk t d).1 = (b.endA mk t d).1 ∧ (a.endA mk t d).2.1 = (b.endA mk t d).2.1 ∧ Apart k (a.endA mk t d).2.2 (b.endA mk t d).2.2 := by
 have hb := h.busy ha hk
 unfold BS.endA
 rw [hb, hk, ha, h.same]
 rw [if_neg (by simp), if_neg (by simp)]
 refine ⟨rfl, rfl, ?_, fun i hi => ?_⟩
 · show getU (putU a.u k _) k = getU (putU b.u k _) k
   rw [getU_same, getU_same]
 · show ByR k (if i = t.toNat then (false, 0) else a.by' i) (if i = t.toNat then (false, 0) else b.by' i)
   by_cases e : i = t.toNat
   · rw [if_pos e, if_pos e]; exact ⟨fun e => (by cases e), fun _ => rfl⟩
   · rw [if_neg e, if_neg e]; exact h.by' i hi
end Go.Proofs.YtpodgcpkccpnfaaGreat

namespace Go.Proofs.YtpodgcpkccpnfaaGreat
open Go.RowKit
theorem range_ival (l : List Int) : (List.range l.length).map (IVal l) = icells l := by
 apply List.ext_getElem
 · simp [icells]
 · intro i h1 h2
   simp at h1
   simp only [List.getElem_map, List.getElem_range]
   have := iVal_map h1
   unfold icells at h2 ⊢
   rw [List.getElem?_eq_getElem h2] at this
   exact (Option.some.inj this).symm
theorem icells_one (l : List Int) : ∀ u ∈ icells l, u.oneCell' = true := by
 intro u hu
 unfold icells at hu
 obtain ⟨c, _, rfl⟩ := List.mem_map.1 hu
 rfl
theorem row_none {w : World} {n : Nat} {f : Nat → Value} (h : Row w none n f) : n = 0 := by
 rcases Nat.eq_zero_or_pos n with h0 | h0
 · exact h0
 · obtain ⟨b, off, e, _⟩ := h 0 h0
   cases e
theorem clone_any (l : List Int) (A : Option Addr) (c : Nat) (w : World) (hA : A = none → c = 0) (hr : Row w A l.length (IVal l)) (hb : l.length ≤ 1000000) :
 Calls Tryz.prog 52 #[.slice A l.length c] w fun e w' => ∃ v, e = .returned v ∧ w'.ownsRow w.heap.size 3 1 v l.length (icells l) ∧ Up w w' := by
 have hnil := fun W : World => Lib.run_eql_slice_nil (P := Tryz.prog) W 25 3 A l.length c 0 0 Tryz.underlying25
 cases A with
 | none =>
  obtain rfl := List.eq_nil_of_length_eq_zero (row_none hr)
  have hc := hA rfl
  subst hc
  clear hr hA hb
  show Calls Tryz.prog 52 #[.slice none 0 0] w fun e w' => ∃ v, e = .returned v ∧ w'.ownsRow w.heap.size 3 1 v 0 [] ∧ Up w w'
  simp only [List.length_nil] at hnil
  go_enter Tryz.func52, Tryz.ntmps52
  go_wp2_with fail
  go_ret
  exact ⟨_, rfl, World.ownsRow_nil _ _ _ _, Up.refl _⟩
 | some ad =>
  obtain ⟨i0, hi, hz0, hz1, hz2⟩ := info_parts infoInt
  have HI := hQ' hi
  have HZ0 := hQ' hz0
  have HZ1 := hQ' hz1
  have HZ2 := hQ' hz2
  have HR := hQ' hr
  have HB := hQ' hb
  have HRI := hQ' (range_ival l)
  have H1 := hQ' (show ∀ u ∈ (List.range l.length).map (IVal l), u.oneCell' = true by rw [HRI.out]; exact icells_one l)
  obtain ⟨n, hn⟩ : ∃ n, l.length = n := ⟨_, rfl⟩
  rw [hn] at HR HB HRI H1 hnil ⊢
  clear hi hz0 hz1 hz2 hr hA hb hn
  go_enter Tryz.func52, Tryz.ntmps52
  go_wp2_with (at_builtin; refine wpList_appendRow rfl (.tmp 5) (.tmp 6) 25 rfl w.heap.size 3 i0 (.int .i64 0) 8 Tryz.underlying25 HI.out HZ0.out HZ1.out HZ2.out rfl _ 0 [] rfl ?_ (some ad) n c (IVal l) rfl (fun h => by cases h) ?_ H1.out (by decide) (by have := HB.out; omega) ?_ ?_)
  case _ => exact own_empty w 3
  case _ => exact HR.out.up ((Up.refl w).alloc _)
  case _ => simp
  · intro v1 w1 hown1 hg hbel
    rw [HRI.out] at hown1
    have HO := hQ' hown1
    have HU := hQ' (show Up w w1 from Below.trans ((Up.refl w).alloc _) hbel)
    clear hown1 hg hbel
    go_wp2_with fail
    go_ret
    exact ⟨_, rfl, HO.out, HU.out⟩
def shortLen (l : List Int) : Nat → Nat
 | 0 => 0
 | n + 1 => if l.getD n 0 = 0 then shortLen l n else n + 1
def shortL (l : List Int) : List Int := l.take (shortLen l l.length)
theorem shortLen_le (l : List Int) : ∀ n, shortLen l n ≤ n
 | 0 => Nat.le_refl _
 | n + 1 => by
  unfold shortLen
  split
  · exact Nat.le_trans (shortLen_le l n) (by omega)
  · exact Nat.le_refl _
theorem shortL_length (l : List Int) : (shortL l).length = shortLen l l.length := by
 unfold shortL
 rw [List.length_take]
 have := shortLen_le l l.length
 omega
theorem row_takeI {w : World} {A : Option Addr} {n k : Nat} {l : List Int} (h : Row w A n (IVal l)) (hk : k ≤ n) : Row w A k (IVal (l.take k)) := fun j hj => by
 obtain ⟨b, off, e, hc⟩ := h j (by omega)
 refine ⟨b, off, e, ?_⟩
 rw [hc]
 unfold IVal
 rw [List.getD_eq_getElem?_getD, List.getD_eq_getElem?_getD, List.getElem?_take, if_pos hj]
theorem short_any (l : List Int) (A : Option Addr) (c : Nat) (w : World) (hA : A = none → c = 0) (hr : Row w A l.length (IVal l)) (hb : l.length ≤ 1000000) (hcl : l.length ≤ c) :
 Calls Tryz.prog 111 #[.slice A l.length c] w fun e w' => ∃ v, e = .returned v ∧ w'.ownsRow w.heap.size 3 1 v (shortL l).length (icells (shortL l)) ∧ Up w w' := by
 have HR := hQ' hr
 have HC := hQ' (fun (k : Nat) (hk : k ≤ l.length) => show k = shortLen l l.length → Calls Tryz.prog 52 #[.slice A k c] w fun e w' => ∃ v, e = .returned v ∧ w'.ownsRow w.heap.size 3 1 v (shortL l).length (icells (shortL l)) ∧ Up w w' from fun h => by
  have h2 := clone_any (l.take k) A c w hA (by rw [List.length_take, Nat.min_eq_left hk]; exact row_takeI hr hk) (by rw [List.length_take]; omega)
  rw [List.length_take, Nat.min_eq_left hk] at h2
  have h3 : shortL l = l.take k := by unfold shortL; rw [h]
  rw [h3, List.length_take, Nat.min_eq_left hk]
  exact h2)
 have HS := hQ' (show ∀ k, k < l.length → l.getD k 0 = 0 → shortLen l (k + 1) = shortLen l k from fun k _ h => by show (if l.getD k 0 = 0 then shortLen l k else k + 1) = _; rw [if_pos h])
 have HS2 := hQ' (show ∀ k, k < l.length → ¬ l.getD k 0 = 0 → shortLen l (k + 1) = k + 1 from fun k _ h => by show (if l.getD k 0 = 0 then shortLen l k else k + 1) = _; rw [if_neg h])
 have HS0 := hQ' (show shortLen l 0 = 0 from rfl)
 obtain ⟨n, hn⟩ : ∃ n, l.length = n := ⟨_, rfl⟩
 rw [hn] at HR hb hcl HC HS HS2 ⊢
 clear hr hn hA
 go_enter Tryz.func111, Tryz.ntmps111
 go_wp2_with fail
 go_loop [3] (fun t => ∃ k : Nat, k ≤ n ∧ t = .int .i64 k ∧ Hid (shortLen l k = shortLen l n)) (fun t => (intOf t).toNat)
 case atStart => exact ⟨n, Nat.le_refl _, rfl, hQ' rfl⟩
 case round =>
  obtain ⟨k, hk, rfl, HK⟩ := hrel
  cases k with
  | zero =>
   have HCC := hQ' (HC.out 0 hk (by rw [← HK.out]; exact HS0.out.symm))
   go_wp2_with fail
   refine HCC.out.mono ?_
   rintro e w1 ⟨v, rfl, h1, h2⟩
   have H1 := hQ' h1
   have H2 := hQ' h2
   clear h1 h2
   go_wp2_with fail
   go_ret
   exact ⟨_, rfl, H1.out, H2.out⟩
  | succ k =>
   obtain ⟨b, off, rfl, hcell⟩ := HR.out k (by omega)
   unfold IVal at hcell
   have HSk := hQ' (HS.out k (by omega))
   have HSk2 := hQ' (HS2.out k (by omega))
   generalize l.getD k 0 = x at *
   have e1 : ((k + 1 : Nat) : Int) = (k : Int) + 1 := by omega
   by_cases hx : x = 0
   · subst hx
     have HX := hQ' ((HSk.out rfl).symm.trans HK.out)
     have hin : (k : Int) < (n : Int) := by omega
     go_wp2_with fail
     exact ⟨⟨k, by omega, rfl, HX⟩, by simp [intOf]⟩
   · have hx0 : (x == 0) = false := by simpa using hx
     have HCC := hQ' (HC.out (k + 1) hk (by rw [← HK.out]; exact (HSk2.out hx).symm))
     go_wp2_with fail
     refine HCC.out.mono ?_
     rintro e w1 ⟨v, rfl, h1, h2⟩
     have H1 := hQ' h1
     have H2 := hQ' h2
     clear h1 h2
     go_wp2_with fail
     go_ret
     exact ⟨_, rfl, H1.out, H2.out⟩
end Go.Proofs.YtpodgcpkccpnfaaGreat

namespace Go.Proofs.YtpodgcpkccpnfaaGreat
open Go.RowKit
abbrev CD := Int × Int × Int
abbrev RD := Int × Int
structure ThD where
 prog : List CD
 next : Nat
 loc : List Int
 ans : List Int
 acc : Int × Int × Int
 st : Int
 nts : Nat
 accs : Nat
 halted : Bool
structure EvD where
 at' : Int
 kind : Int
 thread : Int
 call : Int
 val : Int
 err : Int
 rep : Int
def th0 : ThD := ⟨[], 0, [], [], (0, 0, 0), 0, 0, 0, false⟩
structure WD where
 n : Nat
 ths : Nat → ThD
 bank : BS
 drawn : Nat
 now : Nat
def WD.put (S : WD) (t : Nat) (th : ThD) : WD := { S with ths := fun i => if i = t then th else S.ths i }
structure MD where
 P : Nat → CD → Op RD
 many : Int
 fresh : Int → CS
 draws : List Int
variable (M : MD)
def ThD.call (th : ThD) : CD := th.prog.getD th.next (0, 0, 0)
def playO (t : Nat) (th : ThD) : Option RD × TS := (M.P t th.call).onT ⟨th.ans, th.loc, [], []⟩
def noteEv (now : Nat) (t next : Nat) (k : Int) : EvD := ⟨now, 3, t, next, k, 0, 0⟩
def playE (t : Nat) (S : WD) : List EvD :=
 ((playO M t (S.ths t)).2.nts.drop (S.ths t).nts).map (fun k => noteEv S.now t (S.ths t).next k.1) ++
  (match (playO M t (S.ths t)).1 with | none => [] | some v => [⟨S.now, 2, t, (S.ths t).next, 0, v.1, v.2⟩])
def playT (t : Nat) (th : ThD) : ThD := match (playO M t th).1 with
 | none => { th with nts := (playO M t th).2.nts.length, acc := (playO M t th).2.acc.getD ((playO M t th).2.acc.length - 1) (0, 0, 0), st := 1 }
 | some _ => { th with loc := shortL (playO M t th).2.loc, ans := [], nts := 0, st := 0, next := th.next + 1 }
def playS (t : Nat) (S : WD) : WD := S.put t (playT M t (S.ths t))
def bankB (t : Nat) (S : WD) : Int × BS := S.bank.begin M.many 6 M.fresh t (S.ths t).acc.1 (S.ths t).acc.2.1 (S.ths t).acc.2.2
def beginS (t : Nat) (S : WD) : WD := if (bankB M t S).1 = 0 then { S.put t { S.ths t with st := 2 } with bank := (bankB M t S).2 } else S
def drawV (t : Nat) (S : WD) : Int := if (S.ths t).acc.1 ≠ 1 ∨ M.draws.length = 0 then 0 else M.draws.getD S.drawn 0
def drawN' (t : Nat) (S : WD) : Nat := if (S.ths t).acc.1 ≠ 1 ∨ M.draws.length = 0 then S.drawn else (S.drawn + 1) % M.draws.length
def endS (t : Nat) (S : WD) : WD :=
 { S.put t { S.ths t with ans := (S.ths t).ans ++ [(S.bank.endA M.fresh t (drawV M t S)).1], accs := (S.ths t).accs + 1 } with bank := (S.bank.endA M.fresh t (drawV M t S)).2.2, drawn := drawN' M t S }
def WD.tick (S : WD) : WD := { S with now := S.now + 1 }
def callEv (t : Nat) (S : WD) : EvD := ⟨S.now, 1, t, (S.ths t).next, 0, 0, 0⟩
def idleS (t : Nat) (S : WD) : WD := if ((playS M t S).ths t).st = 1 then beginS M t (playS M t S) else playS M t S
def pickS (t : Nat) (S : WD) : WD :=
 if S.n ≤ t then S
 else if (S.ths t).halted = true then S.tick
 else if (S.ths t).st = 0 then (if (S.ths t).prog.length ≤ (S.ths t).next then S.tick else idleS M t S.tick)
 else if (S.ths t).st = 1 then beginS M t S.tick
 else playS M t (endS M t S.tick)
def pickE (t : Nat) (S : WD) : List EvD :=
 if S.n ≤ t then []
 else if (S.ths t).halted = true then []
 else if (S.ths t).st = 0 then (if (S.ths t).prog.length ≤ (S.ths t).next then [] else callEv t S.tick :: playE M t S.tick)
 else if (S.ths t).st = 1 then []
 else playE M t (endS M t S.tick)
def haltS (t : Nat) (S : WD) : WD := if S.n ≤ t ∨ (S.ths t).halted = true then S else S.put t { S.ths t with halted := true }
def haltE (t : Nat) (S : WD) : List EvD := if S.n ≤ t ∨ (S.ths t).halted = true then [] else [⟨S.now, 4, t, (S.ths t).next, 0, 0, 0⟩]
def timesS (t : Nat) : Nat → WD → WD × List EvD
 | 0, S => (S, [])
 | k + 1, S => (pickS M t (timesS t k S).1, (timesS t k S).2 ++ pickE M t (timesS t k S).1)
structure PickD where
 thread : Int
 times : Int
 halt : Bool
def stepP (p : PickD) (S : WD) : WD × List EvD := if p.halt = true then (haltS p.thread.toNat S, haltE p.thread.toNat S) else timesS M p.thread.toNat p.times.toNat S
def runP (ps : List PickD) : Nat → WD → WD × List EvD
 | 0, S => (S, [])
 | k + 1, S => ((stepP M (ps.getD k ⟨0, 0, true⟩) (runP ps k S).1).1, (runP ps k S).2 ++ (stepP M (ps.getD k ⟨0, 0, true⟩) (runP ps k S).1).2)
def startW (progs : List (List CD)) : WD := ⟨progs.length, fun t => { th0 with prog := progs.getD t [] }, bs0, 0, 0⟩
inductive Head (α : Type) : Type where
 | done (v : α)
 | wait (a : Int × Int × Int) (k : Int → Op α)
def Op.head {α : Type} : Op α → List Int → Head α × List Int × List Int
 | .ret v, l => (.done v, l, [])
 | .ask a k, l => (.wait a k, l, [])
 | .get i k, l => (k ((⟨[], l, [], []⟩ : TS).get i)).head l
 | .set i v k, l => k.head ((⟨[], l, [], []⟩ : TS).set i v).loc
 | .note c k, l => ((k.head l).1, (k.head l).2.1, c :: (k.head l).2.2)
 | .live k, l => (k true).head l
theorem get_loc (s : TS) (i : Int) : s.get i = (⟨[], s.loc, [], []⟩ : TS).get i := rfl
theorem set_locE (s : TS) (i v : Int) : s.set i v = { s with loc := ((⟨[], s.loc, [], []⟩ : TS).set i v).loc } := by
 unfold TS.set
 split
 · rfl
 split
 · split <;> rfl
 · rfl
def headT {α : Type} (h : Head α × List Int × List Int) (s : TS) : Option α × TS := match h with
 | (.done v, l, ks) => (some v, { s with loc := l, nts := s.nts ++ ks.map fun k => (k, (s.acc.length : Int)) })
 | (.wait a k, l, ks) => (Op.ask a k).onT { s with loc := l, nts := s.nts ++ ks.map fun k => (k, (s.acc.length : Int)) }
theorem onT_head {α : Type} : ∀ (o : Op α) (s : TS), o.onT s = headT (o.head s.loc) s
 | .ret v, s => by
  show (some v, s) = (some v, _)
  simp
 | .ask a k, s => by
  show _ = (Op.ask a k).onT _
  simp
 | .get i k, s => by
  show (k (s.get i)).onT s = headT ((k _).head s.loc) s
  rw [onT_head (k (s.get i)) s, get_loc]
 | .set i v k, s => by
  show k.onT (s.set i v) = headT (k.head _) s
  rw [onT_head k (s.set i v), set_locE]
  generalize ((⟨[], s.loc, [], []⟩ : TS).set i v).loc = l
  rcases k.head l with ⟨h, l2, ks⟩
  cases h <;> rfl
 | .note c k, s => by
  show k.onT (s.noted c) = headT ((k.head s.loc).1, (k.head s.loc).2.1, c :: (k.head s.loc).2.2) s
  rw [onT_head k (s.noted c)]
  show headT (k.head s.loc) _ = _
  rcases k.head s.loc with ⟨h, l2, ks⟩
  cases h <;> simp [headT, TS.noted]
 | .live k, s => onT_head (k true) s
end Go.Proofs.YtpodgcpkccpnfaaGreat

namespace Go.Proofs.YtpodgcpkccpnfaaGreat
open Go.RowKit
abbrev AD := Int × Int × Int
inductive Item : Type where
 | note (k : Int) (p : Nat) : Item
 | acc (a : AD) (b e : Nat) (x : Int) : Item
def getL (l : List Int) (i : Int) : Int := (⟨[], l, [], []⟩ : TS).get i
def setL (l : List Int) (i v : Int) : List Int := ((⟨[], l, [], []⟩ : TS).set i v).loc
variable {α β : Type}
inductive Path : Op α → List Int → List Item → Op α → List Int → Prop where
 | nil (o : Op α) (l : List Int) : Path o l [] o l
 | get {i : Int} {k : Int → Op α} {l : List Int} {L : List Item} {o' : Op α} {l' : List Int} (h : Path (k (getL l i)) l L o' l') : Path (.get i k) l L o' l'
 | set {i v : Int} {k : Op α} {l : List Int} {L : List Item} {o' : Op α} {l' : List Int} (h : Path k (setL l i v) L o' l') : Path (.set i v k) l L o' l'
 | live {k : Bool → Op α} {l : List Int} {L : List Item} {o' : Op α} {l' : List Int} (h : Path (k true) l L o' l') : Path (.live k) l L o' l'
 | note {c : Int} {k : Op α} {l : List Int} {L : List Item} {o' : Op α} {l' : List Int} (p : Nat) (h : Path k l L o' l') : Path (.note c k) l (.note c p :: L) o' l'
 | ask {a : AD} {k : Int → Op α} {l : List Int} {L : List Item} {o' : Op α} {l' : List Int} (b e : Nat) (x : Int) (h : Path (k x) l L o' l') : Path (.ask a k) l (.acc a b e x :: L) o' l'
theorem Path.trans {o o1 o2 : Op α} {l l1 l2 : List Int} {L1 L2 : List Item} (h : Path o l L1 o1 l1) (k : Path o1 l1 L2 o2 l2) : Path o l (L1 ++ L2) o2 l2 := by
 induction h with
 | nil => exact k
 | get _ ih => exact .get (ih k)
 | set _ ih => exact .set (ih k)
 | live _ ih => exact .live (ih k)
 | note p _ ih => exact .note p (ih k)
 | ask b e x _ ih => exact .ask b e x (ih k)
theorem Path.bind {o : Op α} {f : α → Op β} {l : List Int} {L : List Item} {o' : Op β} {l' : List Int} (h : Path (o.bind f) l L o' l') :
 (∃ o1, o' = o1.bind f ∧ Path o l L o1 l') ∨ ∃ v L1 L2 l1, L = L1 ++ L2 ∧ Path o l L1 (.ret v) l1 ∧ Path (f v) l1 L2 o' l' := by
 induction o generalizing l L with
 | ret v => exact .inr ⟨v, [], L, l, rfl, .nil _ _, h⟩
 | ask a k ih =>
  cases h with
  | nil => exact .inl ⟨.ask a k, rfl, .nil _ _⟩
  | ask b e x h =>
   rcases ih x h with ⟨o1, h1, h2⟩ | ⟨v, L1, L2, l1, h1, h2, h3⟩
   · exact .inl ⟨o1, h1, .ask b e x h2⟩
   · exact .inr ⟨v, _ :: L1, L2, l1, by rw [h1]; rfl, .ask b e x h2, h3⟩
 | get i k ih =>
  cases h with
  | nil => exact .inl ⟨.get i k, rfl, .nil _ _⟩
  | get h =>
   rcases ih _ h with ⟨o1, h1, h2⟩ | ⟨v, L1, L2, l1, h1, h2, h3⟩
   · exact .inl ⟨o1, h1, .get h2⟩
   · exact .inr ⟨v, L1, L2, l1, h1, .get h2, h3⟩
 | set i v k ih =>
  cases h with
  | nil => exact .inl ⟨.set i v k, rfl, .nil _ _⟩
  | set h =>
   rcases ih h with ⟨o1, h1, h2⟩ | ⟨v, L1, L2, l1, h1, h2, h3⟩
   · exact .inl ⟨o1, h1, .set h2⟩
   · exact .inr ⟨v, L1, L2, l1, h1, .set h2, h3⟩
 | note c k ih =>
  cases h with
  | nil => exact .inl ⟨.note c k, rfl, .nil _ _⟩
  | note p h =>
   rcases ih h with ⟨o1, h1, h2⟩ | ⟨v, L1, L2, l1, h1, h2, h3⟩
   · exact .inl ⟨o1, h1, .note p h2⟩
   · exact .inr ⟨v, _ :: L1, L2, l1, by rw [h1]; rfl, .note p h2, h3⟩
 | live k ih =>
  cases h with
  | nil => exact .inl ⟨.live k, rfl, .nil _ _⟩
  | live h =>
   rcases ih _ h with ⟨o1, h1, h2⟩ | ⟨v, L1, L2, l1, h1, h2, h3⟩
   · exact .inl ⟨o1, h1, .live h2⟩
   · exact .inr ⟨v, L1, L2, l1, h1, .live h2, h3⟩
theorem Path.bind_ret {o : Op α} {f : α → Op β} {l : List Int} {L : List Item} {v : β} {l' : List Int} (h : Path (o.bind f) l L (.ret v) l') :
 ∃ u L1 L2 l1, L = L1 ++ L2 ∧ Path o l L1 (.ret u) l1 ∧ Path (f u) l1 L2 (.ret v) l' := by
 rcases h.bind with ⟨o1, h1, h2⟩ | h
 · cases o1 with
   | ret u => exact ⟨u, L, [], l', by simp, h2, by rw [h1]; exact .nil _ _⟩
   | ask a k => cases h1
   | get i k => cases h1
   | set i v k => cases h1
   | note c k => cases h1
   | live k => cases h1
 · exact h
def Op.all (Q : AD → Prop) : Op α → Prop
 | .ret _ => True
 | .ask a k => Q a ∧ ∀ x, (k x).all Q
 | .get _ k => ∀ x, (k x).all Q
 | .set _ _ k => k.all Q
 | .note _ k => k.all Q
 | .live k => ∀ b, (k b).all Q
theorem Op.all_bind {Q : AD → Prop} : ∀ (o : Op α) (f : α → Op β), o.all Q → (∀ v, (f v).all Q) → (o.bind f).all Q
 | .ret v, f, _, h => h v
 | .ask a k, f, h, h2 => ⟨h.1, fun x => Op.all_bind (k x) f (h.2 x) h2⟩
 | .get i k, f, h, h2 => fun x => Op.all_bind (k x) f (h x) h2
 | .set i v k, f, h, h2 => Op.all_bind k f h h2
 | .note c k, f, h, h2 => Op.all_bind k f h h2
 | .live k, f, h, h2 => fun b => Op.all_bind (k b) f (h b) h2
theorem Path.all {Q : AD → Prop} {o o' : Op α} {l l' : List Int} {L : List Item} (h : Path o l L o' l') (hq : o.all Q) : (∀ a b e x, Item.acc a b e x ∈ L → Q a) ∧ o'.all Q := by
 induction h with
 | nil => exact ⟨fun _ _ _ _ h => absurd h (by simp), hq⟩
 | get _ ih => exact ih (hq _)
 | set _ ih => exact ih hq
 | live _ ih => exact ih (hq _)
 | note p _ ih =>
  refine ⟨fun a b e x h => ?_, (ih hq).2⟩
  rcases List.mem_cons.1 h with h | h
  · cases h
  · exact (ih hq).1 a b e x h
 | ask b e x _ ih =>
  refine ⟨fun a b e x h => ?_, (ih (hq.2 _)).2⟩
  rcases List.mem_cons.1 h with h | h
  · cases h; exact hq.1
  · exact (ih (hq.2 _)).1 a b e x h
def Op.noted (Q : Int → Prop) : Op α → Prop
 | .ret _ => True
 | .ask _ k => ∀ x, (k x).noted Q
 | .get _ k => ∀ x, (k x).noted Q
 | .set _ _ k => k.noted Q
 | .note c k => Q c ∧ k.noted Q
 | .live k => ∀ b, (k b).noted Q
theorem Path.noted {Q : Int → Prop} {o o' : Op α} {l l' : List Int} {L : List Item} (h : Path o l L o' l') (hq : o.noted Q) : (∀ k p, Item.note k p ∈ L → Q k) ∧ o'.noted Q := by
 induction h with
 | nil => exact ⟨fun _ _ h => absurd h (by simp), hq⟩
 | get _ ih => exact ih (hq _)
 | set _ ih => exact ih hq
 | live _ ih => exact ih (hq _)
 | note p _ ih =>
  refine ⟨fun k q h => ?_, (ih hq.2).2⟩
  rcases List.mem_cons.1 h with h | h
  · cases h; exact hq.1
  · exact (ih hq.2).1 k q h
 | ask b e x _ ih =>
  refine ⟨fun k q h => ?_, (ih (hq _)).2⟩
  rcases List.mem_cons.1 h with h | h
  · cases h
  · exact (ih (hq _)).1 k q h
def told : List Item → List Int
 | [] => []
 | .note _ _ :: L => told L
 | .acc _ _ _ x :: L => x :: told L
def asks : List Item → List AD
 | [] => []
 | .note _ _ :: L => asks L
 | .acc a _ _ _ :: L => a :: asks L
def kinds : List Item → List Int
 | [] => []
 | .note k _ :: L => k :: kinds L
 | .acc _ _ _ _ :: L => kinds L
theorem told_append : ∀ L M, told (L ++ M) = told L ++ told M
 | [], M => rfl
 | .note _ _ :: L, M => told_append L M
 | .acc _ _ _ x :: L, M => congrArg (x :: ·) (told_append L M)
theorem kinds_append : ∀ L M, kinds (L ++ M) = kinds L ++ kinds M
 | [], M => rfl
 | .note k _ :: L, M => congrArg (k :: ·) (kinds_append L M)
 | .acc _ _ _ _ :: L, M => kinds_append L M
theorem asks_told : ∀ L, (asks L).length = (told L).length
 | [] => rfl
 | .note _ _ :: L => asks_told L
 | .acc _ _ _ _ :: L => by simp only [asks, told, List.length_cons, asks_told L]
theorem Path.onT {o o' : Op α} {l l' : List Int} {L : List Item} (h : Path o l L o' l') :
 ∀ (pre ys : List Int) (A : List AD) (N : List (Int × Int)), A.length = pre.length → ∃ N', o.onT ⟨pre ++ (told L ++ ys), l, A, N⟩ = o'.onT ⟨pre ++ (told L ++ ys), l', A ++ asks L, N ++ N'⟩ ∧ N'.map Prod.fst = kinds L := by
 induction h with
 | nil => intro pre ys A N _; exact ⟨[], by simp [asks], rfl⟩
 | @get i k l L o' l' _ ih =>
  intro pre ys A N hA
  obtain ⟨N', h1, h2⟩ := ih pre ys A N hA
  exact ⟨N', by rw [← h1]; rfl, h2⟩
 | @set i v k l L o' l' _ ih =>
  intro pre ys A N hA
  obtain ⟨N', h1, h2⟩ := ih pre ys A N hA
  refine ⟨N', ?_, h2⟩
  rw [← h1]
  show k.onT (TS.set _ i v) = _
  rw [set_locE]
  rfl
 | live _ ih =>
  intro pre ys A N hA
  obtain ⟨N', h1, h2⟩ := ih pre ys A N hA
  exact ⟨N', by rw [← h1]; rfl, h2⟩
 | @note c k l L o' l' p _ ih =>
  intro pre ys A N hA
  obtain ⟨N', h1, h2⟩ := ih pre ys A (N ++ [(c, (A.length : Int))]) hA
  refine ⟨(c, (A.length : Int)) :: N', ?_, by simp only [List.map_cons, h2, kinds]⟩
  show k.onT _ = _
  rw [List.append_assoc] at h1
  exact h1
 | @ask a k l L o' l' b e x _ ih =>
  intro pre ys A N hA
  obtain ⟨N', h1, h2⟩ := ih (pre ++ [x]) ys (A ++ [a]) N (by simp [hA])
  refine ⟨N', ?_, h2⟩
  have e1 : pre ++ (told (.acc a b e x :: L) ++ ys) = (pre ++ [x]) ++ (told L ++ ys) := by simp [told]
  rw [e1]
  have hlt : A.length < ((pre ++ [x]) ++ (told L ++ ys)).length := by rw [hA, List.length_append, List.length_append, List.length_singleton]; omega
  have e2 : (Op.ask a k).onT ⟨(pre ++ [x]) ++ (told L ++ ys), l, A, N⟩ = (k ((⟨(pre ++ [x]) ++ (told L ++ ys), l, A, N⟩ : TS).told)).onT ((⟨(pre ++ [x]) ++ (told L ++ ys), l, A, N⟩ : TS).asked a) := if_pos hlt
  rw [e2]
  have e3 : (⟨(pre ++ [x]) ++ (told L ++ ys), l, A, N⟩ : TS).told = x := by
   show ((pre ++ [x]) ++ (told L ++ ys)).getD A.length 0 = x
   rw [hA, List.append_assoc, List.getD_eq_getElem?_getD, List.getElem?_append_right (Nat.le_refl _), Nat.sub_self]; rfl
  rw [e3]
  simp only [TS.asked]
  rw [h1]
  simp [asks]
def notesAt (p : Nat) : List Int → List Item
 | [] => []
 | k :: ks => .note k p :: notesAt (p + 1) ks
theorem notesAt_told (p : Nat) : ∀ ks, told (notesAt p ks) = [] := fun ks => by
 induction ks generalizing p with
 | nil => rfl
 | cons k ks ih => exact ih (p + 1)
theorem notesAt_kinds (p : Nat) : ∀ ks, kinds (notesAt p ks) = ks := fun ks => by
 induction ks generalizing p with
 | nil => rfl
 | cons k ks ih => exact congrArg (k :: ·) (ih (p + 1))
def Head.op {α : Type} : Head α → Op α
 | .done v => .ret v
 | .wait a k => .ask a k
theorem head_path : ∀ (o : Op α) (l : List Int) (p : Nat), Path o l (notesAt p (o.head l).2.2) (o.head l).1.op (o.head l).2.1
 | .ret v, l, p => .nil _ _
 | .ask a k, l, p => .nil _ _
 | .get i k, l, p => .get (head_path _ l p)
 | .set i v k, l, p => .set (head_path k _ p)
 | .note c k, l, p => .note p (head_path k l (p + 1))
 | .live k, l, p => .live (head_path _ l p)
def Seq : Nat → List Item → Prop
 | _, [] => True
 | lo, .note _ p :: L => lo < p ∧ Seq p L
 | lo, .acc _ b e _ :: L => lo < b ∧ b < e ∧ Seq e L
def lastP : Nat → List Item → Nat
 | lo, [] => lo
 | _, .note _ p :: L => lastP p L
 | _, .acc _ _ e _ :: L => lastP e L
theorem Seq.append : ∀ {lo : Nat} {L M : List Item}, Seq lo (L ++ M) ↔ Seq lo L ∧ Seq (lastP lo L) M
 | lo, [], M => ⟨fun h => ⟨trivial, h⟩, fun h => h.2⟩
 | lo, .note k p :: L, M => by
  show (lo < p ∧ Seq p (L ++ M)) ↔ (lo < p ∧ Seq p L) ∧ _
  rw [Seq.append]
  exact ⟨fun h => ⟨⟨h.1, h.2.1⟩, h.2.2⟩, fun h => ⟨h.1.1, h.1.2, h.2⟩⟩
 | lo, .acc a b e x :: L, M => by
  show (lo < b ∧ b < e ∧ Seq e (L ++ M)) ↔ (lo < b ∧ b < e ∧ Seq e L) ∧ _
  rw [Seq.append]
  exact ⟨fun h => ⟨⟨h.1, h.2.1, h.2.2.1⟩, h.2.2.2⟩, fun h => ⟨h.1.1, h.1.2.1, h.1.2.2, h.2⟩⟩
theorem lastP_append : ∀ (lo : Nat) (L M : List Item), lastP lo (L ++ M) = lastP (lastP lo L) M
 | lo, [], M => rfl
 | lo, .note k p :: L, M => lastP_append p L M
 | lo, .acc a b e x :: L, M => lastP_append e L M
theorem Seq.le_last : ∀ {lo : Nat} {L : List Item}, Seq lo L → lo ≤ lastP lo L
 | lo, [], _ => Nat.le_refl _
 | lo, .note k p :: L, h => Nat.le_trans (Nat.le_of_lt h.1) (Seq.le_last (L := L) h.2)
 | lo, .acc a b e x :: L, h => Nat.le_trans (by have := h.1; have := h.2.1; omega) (Seq.le_last (L := L) h.2.2)
theorem Seq.note {lo : Nat} {L : List Item} (h : Seq lo L) {k : Int} {p : Nat} (hm : Item.note k p ∈ L) : lo < p ∧ p ≤ lastP lo L := by
 induction L generalizing lo with
 | nil => cases hm
 | cons i L ih =>
  cases i with
  | note k' p' =>
   rcases List.mem_cons.1 hm with e | hm
   · cases e; exact ⟨h.1, Seq.le_last (L := L) h.2⟩
   · have := ih h.2 hm; exact ⟨Nat.lt_trans h.1 this.1, this.2⟩
  | acc a b e x =>
   rcases List.mem_cons.1 hm with e | hm
   · cases e
   · have := ih h.2.2 hm; exact ⟨by have := h.1; have := h.2.1; omega, this.2⟩
theorem Seq.acc {lo : Nat} {L : List Item} (h : Seq lo L) {a : AD} {b e : Nat} {x : Int} (hm : Item.acc a b e x ∈ L) : lo < b ∧ b < e ∧ e ≤ lastP lo L := by
 induction L generalizing lo with
 | nil => cases hm
 | cons i L ih =>
  cases i with
  | note k' p' =>
   rcases List.mem_cons.1 hm with e | hm
   · cases e
   · have := ih h.2 hm; exact ⟨Nat.lt_trans h.1 this.1, this.2⟩
  | acc a' b' e' x' =>
   rcases List.mem_cons.1 hm with e | hm
   · cases e; exact ⟨h.1, h.2.1, Seq.le_last (L := L) h.2.2⟩
   · have := ih h.2.2 hm; exact ⟨by have := h.1; have := h.2.1; omega, this.2⟩
end Go.Proofs.YtpodgcpkccpnfaaGreat

