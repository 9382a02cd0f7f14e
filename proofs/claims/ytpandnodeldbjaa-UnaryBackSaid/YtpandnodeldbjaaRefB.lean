/-
  The document's Mem: its methods, by contracts.
-/
import Derived.Test.YtpandnodeldbjaaRefA
import Derived.BigQuiet
set_option linter.unusedVariables false
set_option linter.unusedSimpArgs false
namespace Go.Proofs.Ytpandnodeldbjaa
open Go.RowKit

/-- What the append of an access leaves, in its region. -/
theorem racc_append {w0 W w1 : World} {h B : Nat} {s : TS} {va : Value} {a : Int × Int × Int} {g1 cap : Nat} (hU : Up w0 W) (r : RefC w0 h B s) (hca : w0.cell? ⟨h, 3, none⟩ = some va) (hown : w0.ownsRow B 45 3 va s.acc.length (acells s.acc))
    (hown1 : w1.ownsRow B 45 3 (.slice (some ⟨g1, 0, none⟩) (s.acc.length + 1) cap) (s.acc.length + 1) (acells s.acc ++ [.int .i64 a.1, .int .i64 a.2.1, .int .i64 a.2.2])) (hg : W.grownBy w1 va.ownBlock) :
    (w1.cell? ⟨h, 3, none⟩ = some va ∧ w1.frozen? ⟨h, 3, none⟩ = false) ∧ RefC (w1.setCell ⟨h, 3, none⟩ (.slice (some ⟨g1, 0, none⟩) (s.acc.length + 1) cap)) h B (s.asked a) ∧ TK h B w0 (w1.setCell ⟨h, 3, none⟩ (.slice (some ⟨g1, 0, none⟩) (s.acc.length + 1) cap)) ∧
      (∀ j v, j ≠ 3 → w0.cell? ⟨h, j, none⟩ = some v → (w1.setCell ⟨h, 3, none⟩ (.slice (some ⟨g1, 0, none⟩) (s.acc.length + 1) cap)).cell? ⟨h, j, none⟩ = some v) := by
  have r2 := r.up hU
  have hown2 := own_up hown hU
  have hlow : w1.heap[h]? = W.heap[h]? := by obtain ⟨cs, hh⟩ := r2.ty; exact hg.block h r2.hs (own_apart hh hown2 (by decide))
  have hca2 : W.cell? ⟨h, 3, none⟩ = some va := (hU.cell (p := ⟨h, 3, none⟩) r.hs).trans hca
  refine ⟨⟨(tcell hlow).trans hca2, (tfrozen hlow).trans (r2.fz 3)⟩, r2.pushA a hca2 hown2 hg (by rw [acc_one]; exact hown1), ?_, ?_⟩
  · exact ((TK.ofUp hU).grown hown2 (.inr (.inl rfl)) hg).setCell _
  · intro j v hj hc
    exact (World.cell?_setCell_other _ _ _ _ (by simp <;> omega)).trans ((tcell hlow).trans ((hU.cell (p := ⟨h, j, none⟩) r.hs).trans hc))

theorem racc_stopped {W1 : World} {h B n : Nat} {s : TS} {a : Int × Int × Int} (hT : RefC W1 h B (s.asked a)) (k1 : W1.cell? ⟨h, 1, none⟩ = some (.int .i64 (n : Int))) (k2 : W1.cell? ⟨h, 2, none⟩ = some (.bool false)) (hn : s.acc.length = n) (hm : s.ans.length = n) :
    RefIs (W1.setCell ⟨h, 2, none⟩ (.bool true)).drew h B ⟨s.asked a, true⟩ := by
  refine RefIs.up (w := W1.setCell ⟨h, 2, none⟩ (.bool true)) ⟨hT.side 2 (.inr rfl) _, ?_, World.cell?_setCell_same _ _ _ k2, fun h => by simp at h, fun _ => by simp [TS.asked]; omega⟩ (Up.refl _).drew
  rw [World.cell?_setCell_other _ _ _ _ (by simp), k1]
  have : min (s.asked a).acc.length (s.asked a).ans.length = n := by simp [TS.asked]; omega
  simp only [this]
theorem racc_gone {W1 : World} {h B n : Nat} {s : TS} {a : Int × Int × Int} (hT : RefC W1 h B (s.asked a)) (k1 : W1.cell? ⟨h, 1, none⟩ = some (.int .i64 (n : Int))) (k2 : W1.cell? ⟨h, 2, none⟩ = some (.bool false)) (hn : s.acc.length = n) (hm : n < s.ans.length) :
    RefIs (W1.setCell ⟨h, 1, none⟩ (.int .i64 ((n : Int) + 1))) h B ⟨s.asked a, false⟩ := by
  refine ⟨hT.side 1 (.inl rfl) _, ?_, ?_, fun _ => by simp [TS.asked]; omega, fun h => by simp at h⟩
  · rw [World.cell?_setCell_same _ _ _ k1]
    have : min (s.asked a).acc.length (s.asked a).ans.length = n + 1 := by simp [TS.asked]; omega
    simp only [this]
    rfl
  · rw [World.cell?_setCell_other _ _ _ _ (by simp), k2]

set_option maxRecDepth 10000 in
set_option maxHeartbeats 1000000 in
theorem access_over (h B : Nat) (a0 a1 a2 : Int) (r : RS) (w : World) (R : RefIs w h B r) (ho : r.over = true) :
    Calls Try.prog 104 #[.pointer (some ⟨h, 0, none⟩), .agg #[.int .i64 a0, .int .i64 a1, .int .i64 a2]] w fun e w' => e = .returned (.int .i64 0) ∧ RefIs w' h B r ∧ TK h B w w' := by
  have c2 := R.ov
  rw [ho] at c2
  have hhs := R.c.hs
  have HR := Lib.hid (R.up ((Up.refl w).alloc (.cells #[.int .i64 a0, .int .i64 a1, .int .i64 a2] 45)))
  clear R ho
  go_enter Try.func104, Try.ntmps104
  go_wp2_with fail
  go_ret
  exact ⟨rfl, HR.out, TK.ofUp ((Up.refl w).alloc _)⟩

set_option maxRecDepth 10000 in
set_option maxHeartbeats 1000000 in
theorem access_stop (h B : Nat) (a0 a1 a2 : Int) (s : TS) (w : World) (R : RefIs w h B ⟨s, false⟩) (hlt : ¬ s.acc.length < s.ans.length) :
    Calls Try.prog 104 #[.pointer (some ⟨h, 0, none⟩), .agg #[.int .i64 a0, .int .i64 a1, .int .i64 a2]] w fun e w' => e = .returned (.int .i64 0) ∧ RefIs w' h B ⟨s.asked (a0, a1, a2), true⟩ ∧ TK h B w w' := by
  have c2 := R.ov
  have c1 := R.at'
  have hlf := R.lf rfl
  simp only at c1 c2 hlf
  have hmn : min s.acc.length s.ans.length = s.ans.length := by omega
  rw [hmn] at c1
  have HEQ := Lib.hid (show s.acc.length = s.ans.length by omega)
  obtain ⟨va, hca, hown⟩ := R.c.acc
  obtain ⟨Aa, ca, rfl, hac, _⟩ := own_form hown
  obtain ⟨A1, d1, hcans, _, _⟩ := R.c.ans
  have hhs := R.c.hs
  have hlb := R.c.lb
  have hf3 := R.c.fz 3
  have HS := Lib.hid R.c.sz
  have HOWN := Lib.hid hown
  have HX := Lib.hid (fun (W w1 : World) (g1 cap : Nat) (hU : Up w W) => racc_append (W := W) (w1 := w1) (g1 := g1) (cap := cap) (a := (a0, a1, a2)) hU R.c hca hown)
  obtain ⟨i0, hi, hz0, hz1, hz2⟩ := info_parts infoAcc
  have HI := Lib.hid hi
  have HZ0 := Lib.hid hz0
  have HZ1 := Lib.hid hz1
  have HZ2 := Lib.hid hz2
  obtain ⟨n, hn⟩ : ∃ n, s.ans.length = n := ⟨_, rfl⟩
  rw [hn] at c1 hcans hlb HEQ
  rw [HEQ.out] at hca hac HOWN HX
  have HN := Lib.hid hn
  have HC1 := Lib.hid c1
  have HC2 := Lib.hid c2
  have HCA := Lib.hid hcans
  clear hown R hi hz0 hz1 hz2 hn hlt hmn hlf c1 hcans
  go_enter Try.func104, Try.ntmps104
  go_wp2_with fail
  go_region_law (refine step_append_lies _ rfl (.tmp 13) (.tmp 15) 26 rfl B 45 i0 (.agg #[.int .i64 0, .int .i64 0, .int .i64 0]) 3 24 Try.underlying26 HI.out HZ0.out HZ1.out HZ2.out rfl (by decide) _ n (acells s.acc) rfl (own_up HOWN.out (((Up.refl w).alloc _).alloc _).drew) ⟨w.heap.size + 1, 0, none⟩ 1 1 [.int .i64 a0, .int .i64 a1, .int .i64 a2] rfl rfl (news2 w _ _ _) (by simp [Value.oneCell']) (by decide) (by unfold maxLen; omega) (by omega) (by have := HS.out; simp; omega) _ rfl ?_; intro g1 cap w1 hown1 hgrow hat hlt1; obtain ⟨⟨hc3, hf3'⟩, HT0, HK0, HO0⟩ := HX.out _ _ _ _ (((Up.refl w).alloc _).alloc _).drew hown1 hgrow; have HT := Lib.hid HT0; have HK := Lib.hid HK0; have HO := Lib.hid HO0; clear HT0 HK0 HO0 hown1 hgrow hat hlt1)
  all_goals
    generalize w1.setCell ⟨h, 3, none⟩ (.slice (some ⟨g1, 0, none⟩) (n + 1) cap) = W1 at *
    have k1 := HO.out 1 _ (by decide) HC1.out
    have k0 := HO.out 0 _ (by decide) HCA.out
    have k2 := HO.out 2 _ (by decide) HC2.out
    have f2 := HT.out.fz 2
    clear hc3 hf3' hca hf3 HOWN HX c2
    go_wp2_with fail
    go_region
    all_goals
      go_wp2_with fail
      go_ret
      exact ⟨rfl, racc_stopped HT.out k1 k2 HEQ.out HN.out, (HK.out.setCell (j := 2) (.bool true)).drew⟩

set_option maxRecDepth 10000 in
set_option maxHeartbeats 1000000 in
theorem access_ok (h B : Nat) (a0 a1 a2 : Int) (s : TS) (w : World) (R : RefIs w h B ⟨s, false⟩) (hlt : s.acc.length < s.ans.length) :
    Calls Try.prog 104 #[.pointer (some ⟨h, 0, none⟩), .agg #[.int .i64 a0, .int .i64 a1, .int .i64 a2]] w fun e w' => e = .returned (.int .i64 s.told) ∧ RefIs w' h B ⟨s.asked (a0, a1, a2), false⟩ ∧ TK h B w w' := by
  have c2 := R.ov
  have c1 := R.at'
  simp only at c1 c2
  have hmn : min s.acc.length s.ans.length = s.acc.length := by omega
  rw [hmn] at c1
  obtain ⟨va, hca, hown⟩ := R.c.acc
  obtain ⟨Aa, ca, rfl, hac, _⟩ := own_form hown
  obtain ⟨A1, d1, hcans, hra, hrb⟩ := R.c.ans
  obtain ⟨b, off, rfl, hcell⟩ := hra s.acc.length hlt
  have hb1 := hrb b off rfl (Nat.lt_of_le_of_lt (Nat.zero_le _) hlt)
  unfold IVal at hcell
  have hhs := R.c.hs
  have hlb := R.c.lb
  have hf3 := R.c.fz 3
  have HS := Lib.hid R.c.sz
  have HB := Lib.hid R.c.hB
  have HOWN := Lib.hid hown
  have HX := Lib.hid (fun (W w1 : World) (g1 cap : Nat) (hU : Up w W) => racc_append (W := W) (w1 := w1) (g1 := g1) (cap := cap) (a := (a0, a1, a2)) hU R.c hca hown)
  have HTD := Lib.hid (show s.told = s.ans.getD s.acc.length 0 from rfl)
  obtain ⟨i0, hi, hz0, hz1, hz2⟩ := info_parts infoAcc
  have HI := Lib.hid hi
  have HZ0 := Lib.hid hz0
  have HZ1 := Lib.hid hz1
  have HZ2 := Lib.hid hz2
  rw [← HTD.out] at hcell
  obtain ⟨td, htd⟩ : ∃ td, s.told = td := ⟨_, rfl⟩
  rw [htd] at hcell ⊢
  obtain ⟨m, hm⟩ : ∃ m, s.ans.length = m := ⟨_, rfl⟩
  obtain ⟨n, hn⟩ : ∃ n, s.acc.length = n := ⟨_, rfl⟩
  rw [hm] at hcans hlb hlt
  rw [hn] at hlt c1 hcell hca hac HOWN HX
  have HN := Lib.hid hn
  have HM := Lib.hid hm
  have HC1 := Lib.hid c1
  have HC2 := Lib.hid c2
  have HCA := Lib.hid hcans
  have HCELL := Lib.hid hcell
  have hge : ¬ (m : Int) ≤ (n : Int) := by omega
  have hin : (n : Int) < (m : Int) := by omega
  clear hown R hi hz0 hz1 hz2 hn hm hmn c1 hcans hra hrb hcell htd HTD
  go_enter Try.func104, Try.ntmps104
  go_wp2_with fail
  go_region_law (refine step_append_lies _ rfl (.tmp 13) (.tmp 15) 26 rfl B 45 i0 (.agg #[.int .i64 0, .int .i64 0, .int .i64 0]) 3 24 Try.underlying26 HI.out HZ0.out HZ1.out HZ2.out rfl (by decide) _ n (acells s.acc) rfl (own_up HOWN.out (((Up.refl w).alloc _).alloc _).drew) ⟨w.heap.size + 1, 0, none⟩ 1 1 [.int .i64 a0, .int .i64 a1, .int .i64 a2] rfl rfl (news2 w _ _ _) (by simp [Value.oneCell']) (by decide) (by unfold maxLen; omega) (by omega) (by have := HS.out; simp; omega) _ rfl ?_; intro g1 cap w1 hown1 hgrow hat hlt1; obtain ⟨⟨hc3, hf3'⟩, HT0, HK0, HO0⟩ := HX.out _ _ _ _ (((Up.refl w).alloc _).alloc _).drew hown1 hgrow; have HT := Lib.hid HT0; have HK := Lib.hid HK0; have HO := Lib.hid HO0; clear HT0 HK0 HO0 hown1 hgrow hat hlt1)
  all_goals
    generalize w1.setCell ⟨h, 3, none⟩ (.slice (some ⟨g1, 0, none⟩) (n + 1) cap) = W1 at *
    have k1 := HO.out 1 _ (by decide) HC1.out
    have k0 := HO.out 0 _ (by decide) HCA.out
    have K2 := Lib.hid (HO.out 2 _ (by decide) HC2.out)
    have f1 := HT.out.fz 1
    have HR := Lib.hid (racc_gone HT.out k1 K2.out HN.out (by have := HM.out; omega))
    have q0 : (W1.setCell ⟨h, 1, none⟩ (.int .i64 ((n : Int) + 1))).cell? ⟨h, 0, none⟩ = some (.slice (some ⟨b, off, none⟩) m d1) := (World.cell?_setCell_other _ _ _ _ (by simp)).trans k0
    have q1 : (W1.setCell ⟨h, 1, none⟩ (.int .i64 ((n : Int) + 1))).cell? ⟨h, 1, none⟩ = some (.int .i64 ((n : Int) + 1)) := World.cell?_setCell_same _ _ _ k1
    have qc : (W1.setCell ⟨h, 1, none⟩ (.int .i64 ((n : Int) + 1))).cell? ⟨b, off + n, none⟩ = some (.int .i64 td) := (tcell (Below.heap_setCell _ _ _ _ (by have := HB.out; simp; omega))).trans ((tcell (HK.out.block b (cell_lt HCELL.out) (by have := HB.out; omega) (Far.low hb1))).trans HCELL.out)
    have HK1 := Lib.hid ((HK.out.setCell (j := 1) (.int .i64 ((n : Int) + 1))).drew)
    clear hc3 hf3' hca hf3 HOWN HX c2 HT HK HO
    go_wp2_with fail
    go_region
    all_goals
      go_wp2_with fail
      go_region
      all_goals
        go_wp2_with fail
        go_ret
        exact ⟨rfl, HR.out.up (Up.refl _).drew.drew, HK1.out.drew⟩

end Go.Proofs.Ytpandnodeldbjaa
