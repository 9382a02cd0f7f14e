/-
  End of a bank: the walk.
-/
import Derived.Test.YtpapcheliohacaaBankG
set_option linter.unusedVariables false
set_option linter.unusedSimpArgs false
namespace Go.Proofs.Ytpapcheliohacaa
open Go.RowKit

theorem CFrame.toFr {w w' : World} {g : Nat} {ms ms' : Nat → Value} {X : Nat → Prop} (f : CFrame w w' g ms ms') (hX : ∀ k, Ft g ms k → X k) : Fr w w' X :=
  ⟨f.os, f.tape, f.output, f.size, fun k hk hn => f.block k hk (fun e => hn (hX k (.inl e))) (fun i hi e => hn (hX k (.inr ⟨i, hi, e⟩)))⟩

set_option maxRecDepth 10000 in
set_option maxHeartbeats 4000000 in
theorem endM_any (l : List SD) (B h N : Nat) (s : BS) (X : Nat → Prop) (t d : Int) (w : World) (ht0 : -9223372036854775808 ≤ t) (ht1 : t ≤ 9223372036854775807) (H : BankM w B h l s N X) (hN : N ≤ 1000) (mk : Int → CS) :
    Calls Try.prog 20 #[.pointer (some ⟨h, 0, none⟩), .int .i64 t, .int .i64 d] w fun e w' => e = .returned (.tuple #[.int .i64 (s.endA mk t d).1, .int .i64 (s.endA mk t d).2.1]) ∧ BankM w' B h l (s.endA mk t d).2.2 N (XG X w w') ∧ Fr w w' X := by
  have HBU := Lib.hid (busyM_any l B h N s X t w ht0 ht1 H)
  have HB := Lib.hid (show B ≤ w.heap.size from by
    obtain ⟨m, R, sz, F, MS, h1, h2, h3, h4, h5, h6⟩ := H
    have := h4 _ h3.1; omega)
  by_cases hbz : (s.busy t).2 = false
  · have e0 : s.endA mk t d = (0, 7, s) := by unfold BS.endA; rw [if_pos hbz]
    rw [e0]
    rw [hbz] at HBU
    have HH := Lib.hid H
    generalize (s.busy t).1 = q at *
    clear e0 hbz H
    go_enter Try.func20, Try.ntmps20
    go_wp2_with fail
    refine HBU.out.mono ?_
    rintro e w2 ⟨rfl, hu2⟩
    have HU2 := Lib.hid hu2
    clear hu2
    go_wp2_with fail
    go_ret2
    exact ⟨rfl, (HH.out.up HU2.out).more (Nat.le_refl _) (fun k hk => .inl hk) (XG.ge HH.out.lt HU2.out.size HB.out), Fr.ofUp HU2.out⟩
  · have hbt : (s.busy t).2 = true := by cases hq : (s.busy t).2 <;> simp_all
    obtain ⟨p0, p1, p2, p3⟩ := busy_in hbt
    obtain ⟨tn, rfl⟩ : ∃ tn : Nat, t = tn := ⟨t.toNat, by omega⟩
    have htn : tn < 8 := by omega
    obtain ⟨m, R, sz, F, MS, h1, h2, h3, h4, h5, h6⟩ := H
    rw [Int.toNat_natCast] at p2 p3
    have hgood := h6 tn htn p2
    rw [← p3] at hgood
    rw [hbt] at HBU
    have hby : s.by' tn = (true, (s.busy (tn : Int)).1) := Prod.ext p2 p3.symm
    obtain ⟨q, hq⟩ : ∃ q, (s.busy (tn : Int)).1 = q := ⟨_, rfl⟩
    rw [hq] at HBU hgood hby
    have hd := h2.dom q
    rw [hgood] at hd
    obtain ⟨g, hg⟩ := Option.isSome_iff_exists.1 hd
    obtain ⟨c, hc⟩ := h2.get hg
    obtain ⟨hci, hcg⟩ := h2.cell q g c hg hc
    have e0 : s.endA mk tn d = ((c.endA tn d).1, (c.endA tn d).2.1, { u := putU s.u q (c.endA tn d).2.2, by' := fun i => if i = tn then (false, 0) else s.by' i }) := by
      unfold BS.endA
      rw [if_neg hbz, hq, hc]
      rfl
    rw [e0]
    have HGD := Lib.hid (show BS.Good { u := putU s.u q (c.endA tn d).2.2, by' := fun i => if i = tn then (false, 0) else s.by' i } from by have := BS.Good.endA h6 mk tn d; rw [e0] at this; exact this)
    have HX := Lib.hid h3
    have HXL := Lib.hid h4
    have HSZ := Lib.hid h5
    have HO := Lib.hid h1
    have HC := Lib.hid h2
    have HG := Lib.hid hg
    have HCU := Lib.hid hc
    have HCG := Lib.hid (hcg.endA tn d)
    have HCG0 := Lib.hid hcg
    have HWF := Lib.hid (h2.rng q g hg)
    have hi8 : (tn : Int) < 8 := by omega
    have hi0 : (0 : Int) ≤ (tn : Int) := by omega
    clear hci hcg hc hd hgood e0 h1 h2 h3 h4 h5 h6 hq hg p0 p1 p2 p3 hbz hbt
    generalize s.busy (tn : Int) = bz at *
    go_enter Try.func20, Try.ntmps20
    go_wp2_with fail
    refine HBU.out.mono ?_
    rintro e w2 ⟨rfl, hu2⟩
    have HU2 := Lib.hid hu2
    have HO2 := Lib.hid (HO.out.up hu2)
    have HO3 := Lib.hid (HO2.out.setBy tn htn (false, 0))
    have HC3 := Lib.hid ((HC.out.up hu2).st2 (3 + tn * 2) (.bool false) (.int .i64 0))
    have HF3 := Lib.hid (st2_fr w2 h (3 + tn * 2) (.bool false) (.int .i64 0) X HX.out.1)
    have b0 := HO2.out.blk.on tn htn
    have b1 := HO2.out.blk.at' tn htn
    have b2 := HO3.out.blk.k2
    have fz := HO2.out.blk.fz
    have hlk := HO3.out.map.look HWF.out
    rw [HG.out] at hlk
    unfold ptrV at hlk
    obtain ⟨w3, hw3⟩ : ∃ w3, st2 w2 h (3 + tn * 2) (.bool false) (.int .i64 0) = w3 := ⟨_, rfl⟩
    dsimp only at hlk b2
    rw [hw3] at hlk b2 HC3 HF3
    dsimp only at HO3
    rw [hw3] at HO3
    unfold st2 at hw3
    have HW3 := Lib.hid hw3
    have HEN := Lib.hid (end_any g g N c (MS q) tn d w3 (HC3.out.cell q g c HG.out HCU.out).1 HCG0.out hN)
    clear hu2
    go_wp2_with fail
    refine HEN.out.mono ?_
    rintro e w4 ⟨rfl, ms', hc4, hf4⟩
    have HT := Lib.hid (HC3.out.step (Nat.le_refl N) HO3.out.blk.lt HO3.out.map.isLt (fun k e => (HO3.out.row.lt k e).2) HG.out hc4 HCG.out hf4)
    have HO4 := Lib.hid (HO3.out.keep (hf4.block h HO3.out.blk.lt (fun e => (HC3.out.ft q g HG.out g (.inl rfl)).2.1 e.symm) (fun i hi e => (HC3.out.ft q g HG.out h (.inr ⟨i, hi, e⟩)).2.1 rfl))
      (hf4.block m HO3.out.map.isLt (fun e => (HC3.out.ft q g HG.out g (.inl rfl)).2.2.1 e.symm) (fun i hi e => (HC3.out.ft q g HG.out m (.inr ⟨i, hi, e⟩)).2.2.1 rfl))
      (fun k e => hf4.block k (HO3.out.row.lt k e).2 (fun e2 => (HC3.out.ft q g HG.out g (.inl rfl)).2.2.2 (by rw [e, e2])) (fun i hi e2 => (HC3.out.ft q g HG.out k (.inr ⟨i, hi, e2⟩)).2.2.2 e)))
    have HF4 := Lib.hid (HF3.out.same (hf4.toFr (X := X) (fun k hk => (HC3.out.ft q g HG.out k hk).1)))
    have HFF := Lib.hid ((Fr.ofUp (X := X) HU2.out).same HF4.out)
    have HZ := Lib.hid (show w3.heap.size = w2.heap.size from by rw [← HW3.out]; simp)
    clear hc4 hf4 hw3 b0 b1 b2 fz hlk
    go_wp2_with fail
    go_ret2
    refine ⟨rfl, ⟨m, R, sz, F, setMS MS q ms', HO4.out, (HT.out.more (Nat.le_refl _) (X' := XG X w w4) (fun k hk => ?_)), ⟨.inl HX.out.1, .inl HX.out.2.1, fun k e => .inl (HX.out.2.2 k e)⟩, XG.ge HXL.out HFF.out.size HB.out, HSZ.out, HGD.out⟩, HFF.out⟩
    rcases hk with hk | hk
    · exact .inl hk
    · have := HU2.out.size
      have := HZ.out
      exact .inr ⟨by omega, hk.2⟩

end Go.Proofs.Ytpapcheliohacaa
