/-
  End of a bank: the walk.
-/
import Derived.Test.YtedkgamecdmjdaaBankF
set_option linter.unusedVariables false
set_option linter.unusedSimpArgs false
namespace Go.Proofs.Ytedkgamecdmjdaa
open Go.RowKit

theorem CFrame.toFr {w w' : World} {g : Nat} {ms ms' : Nat → Value} {X : Nat → Prop} (f : CFrame w w' g ms ms') (hX : ∀ k, Ft g ms k → X k) : Fr w w' X :=
  ⟨f.os, f.tape, f.output, f.size, fun k hk hn => f.block k hk (fun e => hn (hX k (.inl e))) (fun i hi e => hn (hX k (.inr ⟨i, hi, e⟩)))⟩

set_option maxRecDepth 10000 in
set_option maxHeartbeats 4000000 in
theorem endM_any (l : List SD) (B h N : Nat) (s : BS) (X : Nat → Prop) (t d : Int) (w : World) (ht0 : -9223372036854775808 ≤ t) (ht1 : t ≤ 9223372036854775807) (H : BankM w B h l s N X) (hN : N ≤ 1000) (mk : Int → CS) :
    Calls Try.prog 34 #[.pointer (some ⟨h, 0, none⟩), .int .i64 t, .int .i64 d] w fun e w' => e = .returned (.tuple #[.int .i64 (s.endA mk t d).1, .int .i64 (s.endA mk t d).2.1]) ∧ BankM w' B h l (s.endA mk t d).2.2 N (XG X w w') ∧ Fr w w' X := by
  have HBU := Lib.hid (busyM_any l B h N s X t w ht0 ht1 H)
  have HB := Lib.hid (show B ≤ w.heap.size from by
    obtain ⟨m, R, sz, F, MS, h1, h2, h3, h4, h5, h6⟩ := H
    have := h4 _ h3.1; omega)
  by_cases hbz : (s.busy t).2 = false
  · have e0 : s.endA mk t d = (0, 7, s) := by unfold BS.endA; rw [if_pos hbz]
    rw [e0]
    rw [hbz] at HBU
    have HH := Lib.hid H
    generalize (s.busy t).1 = q at *
    clear e0 hbz H
    go_enter Try.func34, Try.ntmps34
    go_wp2_with fail
    refine HBU.out.mono ?_
    rintro e w2 ⟨rfl, hu2⟩
    have HU2 := Lib.hid hu2
    clear hu2
    go_wp2_with fail
    go_ret2
    exact ⟨rfl, (HH.out.up HU2.out).more (Nat.le_refl _) (fun k hk => .inl hk) (XG.ge HH.out.lt HU2.out.size HB.out), Fr.ofUp HU2.out⟩
  · have hbt : (s.busy t).2 = true := by cases hq : (s.busy t).2 <;> simp_all
    obtain ⟨p0, p1, p2, p3⟩ := busy_in hbt
    obtain ⟨tn, rfl⟩ : ∃ tn : Nat, t = tn := ⟨t.toNat, by omega⟩
    have htn : tn < 8 := by omega
    obtain ⟨m, R, sz, F, MS, h1, h2, h3, h4, h5, h6⟩ := H
    rw [Int.toNat_natCast] at p2 p3
    have hgood := h6 tn htn p2
    rw [← p3] at hgood
    rw [hbt] at HBU
    have hby : s.by' tn = (true, (s.busy (tn : Int)).1) := Prod.ext p2 p3.symm
    obtain ⟨q, hq⟩ : ∃ q, (s.busy (tn : Int)).1 = q := ⟨_, rfl⟩
    rw [hq] at HBU hgood hby
    have hd := h2.dom q
    rw [hgood] at hd
    obtain ⟨g, hg⟩ := Option.isSome_iff_exists.1 hd
    obtain ⟨c, hc⟩ := h2.get hg
    obtain ⟨hci, hcg⟩ := h2.cell q g c hg hc
    have e0 : s.endA mk tn d = ((c.endA tn d).1, (c.endA tn d).2.1, { u := putU s.u q (c.endA tn d).2.2, by' := fun i => if i = tn then (false, 0) else s.by' i }) := by
      unfold BS.endA
      rw [if_neg hbz, hq, hc]
      rfl
    rw [e0]
    have HGD := Lib.hid (show BS.Good { u := putU s.u q (c.endA tn d).2.2, by' := fun i => if i = tn then (false, 0) else s.by' i } from by have := BS.Good.endA h6 mk tn d; rw [e0] at this; exact this)
    have HX := Lib.hid h3
    have HXL := Lib.hid h4
    have HSZ := Lib.hid h5
    have HO := Lib.hid h1
    have HC := Lib.hid h2
    have HG := Lib.hid hg
    have HCU := Lib.hid hc
    have HCG := Lib.hid (hcg.endA tn d)
    have HCG0 := Lib.hid hcg
    have HWF := Lib.hid (h2.rng q g hg)
    have hi8 : (tn : Int) < 8 := by omega
    have hi0 : (0 : Int) ≤ (tn : Int) := by omega
    clear hci hcg hc hd hgood e0 h1 h2 h3 h4 h5 h6 hq hg p0 p1 p2 p3 hbz hbt
    generalize s.busy (tn : Int) = bz at *
    go_enter Try.func34, Try.ntmps34
    go_wp2_with fail
    refine HBU.out.mono ?_
    rintro e w2 ⟨rfl, hu2⟩
    have HU2 := Lib.hid hu2
    have HO2 := Lib.hid (HO.out.up hu2)
    have HO3 := Lib.hid (HO2.out.setBy tn htn (false, 0))
    have HC3 := Lib.hid ((HC.out.up hu2).st2 (3 + tn * 2) (.bool false) (.int .i64 0))
    have HF3 := Lib.hid (st2_fr w2 h (3 + tn * 2) (.bool false) (.int .i64 0) X HX.out.1)
    have b0 := HO2.out.blk.on tn htn
    have b1 := HO2.out.blk.at' tn htn
    have b2 := HO3.out.blk.k2
    have fz := HO2.out.blk.fz
    have hlk := HO3.out.map.look HWF.out
    rw [HG.out] at hlk
    unfold ptrV at hlk
    obtain ⟨w3, hw3⟩ : ∃ w3, st2 w2 h (3 + tn * 2) (.bool false) (.int .i64 0) = w3 := ⟨_, rfl⟩
    dsimp only at hlk b2
    rw [hw3] at hlk b2 HC3 HF3
    dsimp only at HO3
    rw [hw3] at HO3
    unfold st2 at hw3
    have HW3 := Lib.hid hw3
    have HEN := Lib.hid (end_any g g N c (MS q) tn d w3 (HC3.out.cell q g c HG.out HCU.out).1 HCG0.out hN)
    clear hu2
    go_wp2_with fail
    refine HEN.out.mono ?_
    rintro e w4 ⟨rfl, ms', hc4, hf4⟩
    have HT := Lib.hid (HC3.out.step (Nat.le_refl N) HO3.out.blk.lt HO3.out.map.isLt (fun k e => (HO3.out.row.lt k e).2) HG.out hc4 HCG.out hf4)
    have HO4 := Lib.hid (HO3.out.keep (hf4.block h HO3.out.blk.lt (fun e => (HC3.out.ft q g HG.out g (.inl rfl)).2.1 e.symm) (fun i hi e => (HC3.out.ft q g HG.out h (.inr ⟨i, hi, e⟩)).2.1 rfl))
      (hf4.block m HO3.out.map.isLt (fun e => (HC3.out.ft q g HG.out g (.inl rfl)).2.2.1 e.symm) (fun i hi e => (HC3.out.ft q g HG.out m (.inr ⟨i, hi, e⟩)).2.2.1 rfl))
      (fun k e => hf4.block k (HO3.out.row.lt k e).2 (fun e2 => (HC3.out.ft q g HG.out g (.inl rfl)).2.2.2 (by rw [e, e2])) (fun i hi e2 => (HC3.out.ft q g HG.out k (.inr ⟨i, hi, e2⟩)).2.2.2 e)))
    have HF4 := Lib.hid (HF3.out.same (hf4.toFr (X := X) (fun k hk => (HC3.out.ft q g HG.out k hk).1)))
    have HFF := Lib.hid ((Fr.ofUp (X := X) HU2.out).same HF4.out)
    have HZ := Lib.hid (show w3.heap.size = w2.heap.size from by rw [← HW3.out]; simp)
    clear hc4 hf4 hw3 b0 b1 b2 fz hlk
    go_wp2_with fail
    go_ret2
    refine ⟨rfl, ⟨m, R, sz, F, setMS MS q ms', HO4.out, (HT.out.more (Nat.le_refl _) (X' := XG X w w4) (fun k hk => ?_)), ⟨.inl HX.out.1, .inl HX.out.2.1, fun k e => .inl (HX.out.2.2 k e)⟩, XG.ge HXL.out HFF.out.size HB.out, HSZ.out, HGD.out⟩, HFF.out⟩
    rcases hk with hk | hk
    · exact .inl hk
    · have := HU2.out.size
      have := HZ.out
      exact .inr ⟨by omega, hk.2⟩

end Go.Proofs.Ytedkgamecdmjdaa

/-
  Begin of a bank: the walk.
-/
namespace Go.Proofs.Ytedkgamecdmjdaa
open Go.RowKit

theorem begin_in (c : CS) (t k v : Int) (h : (c.begin t k v).1 = 0) : 0 ≤ t ∧ t < 8 := by
  unfold CS.begin at h
  split at h
  · simp at h
  · omega
theorem begin_stay (c : CS) (t k v : Int) (h : (c.begin t k v).1 ≠ 0) : (c.begin t k v).2 = c := by
  unfold CS.begin at h ⊢
  split at h
  · rename_i hc; rw [if_pos hc]
  · rename_i hc
    rw [if_neg hc]
    split at h
    · rename_i h2; rw [if_pos h2]
    · split at h <;> exact absurd rfl h
theorem putU_get {u : List (Int × CS)} {q : Int} {c : CS} (h : getU u q = some c) : ∀ x, getU (putU u q c) x = getU u x := fun x => by
  by_cases e : x = q
  · rw [e, getU_same, h]
  · rw [getU_other e]
theorem putU_put {u : List (Int × CS)} {q : Int} {c d : CS} : ∀ x, getU (putU (putU u q c) q d) x = getU (putU u q d) x := fun x => by
  by_cases e : x = q
  · rw [e, getU_same, getU_same]
  · rw [getU_other e, getU_other e, getU_other e]

/-- The cell at hand, ahead of its Begin. -/
structure AtHand (w w3 : World) (B h m : Nat) (R : Value) (l : List SD) (s : BS) (N sz g : Nat) (F F1 : Int → Option Nat) (MS1 : Int → Nat → Value) (u1 : List (Int × CS)) (X X3 : Nat → Prop) (cl : Int) (c : CS) : Prop where
  o : BankO w3 B h m R (cntK l l.length) (runsK l l.length) s.by' sz F
  cs : Cells w3 u1 N B h m R F1 MS1 X3
  at' : F1 cl = some g
  u : getU u1 cl = some c
  put : ∀ c' x, getU (putU u1 cl c') x = getU (putU s.u cl c') x
  f : ∀ x, F1 x = if x = cl then some g else F x
  up : Up w w3
  x3 : ∀ k, X3 k → XG X w w3 k
  x : ∀ k, X k → X3 k
  err : ∀ w4 ms', CFrame w3 w4 g (MS1 cl) ms' → CellIs w4 g g c ms' → ∃ MS2, Cells w4 s.u N B h m R F MS2 (XG X w w4)

theorem AtHand.fr {w w3 w4 : World} {B h m : Nat} {R : Value} {l : List SD} {s : BS} {N sz g : Nat} {F F1 : Int → Option Nat} {MS1 : Int → Nat → Value} {u1 : List (Int × CS)} {X X3 : Nat → Prop} {cl : Int} {c : CS} {ms' : Nat → Value}
    (H : AtHand w w3 B h m R l s N sz g F F1 MS1 u1 X X3 cl c) (hf : CFrame w3 w4 g (MS1 cl) ms') : Fr w w4 X :=
  (Fr.ofUp (X := X) H.up).trans (hf.toFr (X := X3) (fun k hk => (H.cs.ft cl g H.at' k hk).1)) (fun k hk h => by
    rcases H.x3 k h with h | h
    · exact h
    · omega)
theorem AtHand.o4 {w w3 w4 : World} {B h m : Nat} {R : Value} {l : List SD} {s : BS} {N sz g : Nat} {F F1 : Int → Option Nat} {MS1 : Int → Nat → Value} {u1 : List (Int × CS)} {X X3 : Nat → Prop} {cl : Int} {c : CS} {ms' : Nat → Value}
    (H : AtHand w w3 B h m R l s N sz g F F1 MS1 u1 X X3 cl c) (hf : CFrame w3 w4 g (MS1 cl) ms') : BankO w4 B h m R (cntK l l.length) (runsK l l.length) s.by' sz F :=
  H.o.keep (hf.block h H.o.blk.lt (fun e => (H.cs.ft cl g H.at' g (.inl rfl)).2.1 e.symm) (fun i hi e => (H.cs.ft cl g H.at' h (.inr ⟨i, hi, e⟩)).2.1 rfl))
    (hf.block m H.o.map.isLt (fun e => (H.cs.ft cl g H.at' g (.inl rfl)).2.2.1 e.symm) (fun i hi e => (H.cs.ft cl g H.at' m (.inr ⟨i, hi, e⟩)).2.2.1 rfl))
    (fun k e => hf.block k (H.o.row.lt k e).2 (fun e2 => (H.cs.ft cl g H.at' g (.inl rfl)).2.2.2 (by rw [e, e2])) (fun i hi e2 => (H.cs.ft cl g H.at' k (.inr ⟨i, hi, e2⟩)).2.2.2 e))
/-- A cell that was there. -/
theorem atHand_old {w w3 : World} {B h m : Nat} {R : Value} {l : List SD} {s : BS} {N sz g : Nat} {F : Int → Option Nat} {MS : Int → Nat → Value} {X : Nat → Prop} {cl : Int} {c : CS}
    (HO : BankO w B h m R (cntK l l.length) (runsK l l.length) s.by' sz F) (HC : Cells w s.u N B h m R F MS X) (up : Up w w3) (hg : F cl = some g) (hc : getU s.u cl = some c) :
    AtHand w w3 B h m R l s N sz g F F MS s.u X X cl c := by
  refine ⟨HO.up up, HC.up up, hg, hc, fun _ _ => rfl, fun x => ?_, up, fun k hk => .inl hk, fun k hk => hk, fun w4 ms' hf hc4 => ?_⟩
  · split
    · rename_i e; rw [e, hg]
    · rfl
  · have h3 := HC.up up
    have hlt := fun k (e : R.ownBlock = some k) => ((HO.up up).row.lt k e).2
    have h4 := h3.step (Nat.le_refl N) (HO.up up).blk.lt (HO.up up).map.isLt hlt hg hc4 (h3.cell cl g c hg hc).2 hf
    refine ⟨_, (h4.congr (u' := s.u) (F' := F) (fun q => (putU_get hc q).symm) (fun _ => rfl)).more (Nat.le_refl _) fun k hk => ?_⟩
    rcases hk with hk | hk
    · exact .inl hk
    · exact .inr ⟨Nat.le_trans up.size hk.1, hk.2⟩
/-- A cell that has just been made. -/
theorem atHand_new {w w2 w3 : World} {B h m : Nat} {R : Value} {l : List SD} {s : BS} {N sz g : Nat} {F : Int → Option Nat} {MS : Int → Nat → Value} {X : Nat → Prop} {cl : Int} {c : CS}
    (HO : BankO w B h m R (cntK l l.length) (runsK l l.length) s.by' sz F) (HC : Cells w s.u N B h m R F MS X) (up : Up w w2) (up2 : Up w2 w3) (hg : F cl = none) (hge : w2.heap.size ≤ g) (hc : CellIs w3 g g c (fun _ => .slice none 0 0)) (hgd : CGood c N) (hw : Wf cl) :
    AtHand w w3 B h m R l s N sz g F (fun x => if x = cl then some g else F x) (setMS MS cl (fun _ => .slice none 0 0)) (putU s.u cl c) X (XG X w2 w3) cl c := by
  have hlt := fun k (e : R.ownBlock = some k) => ((HO.up up).row.lt k e).2
  have h3 := (HC.up up).add (HO.up up).blk.lt (HO.up up).map.isLt hlt up2 hge hc hgd hw
  refine ⟨HO.up (up.trans up2), h3, if_pos rfl, getU_same _ _ _, fun c' x => putU_put x, fun x => rfl, up.trans up2, fun k hk => ?_, fun k hk => .inl hk, fun w4 ms' hf hc4 => ⟨MS, ?_⟩⟩
  · rcases hk with hk | hk
    · exact .inl hk
    · exact .inr ⟨Nat.le_trans up.size hk.1, hk.2⟩
  · have hms : setMS MS cl (fun _ => Value.slice none 0 0) cl = fun _ => Value.slice none 0 0 := by unfold setMS; rw [if_pos rfl]
    rw [hms] at hf
    have hs : w.heap.size ≤ w4.heap.size := Nat.le_trans (up.trans up2).size hf.size
    refine (HC.keep hs fun q gq hq k hk => ?_).more (Nat.le_refl _) (fun k hk => .inl hk)
    have hkl := HC.lt hq hk
    have hu := up.size
    exact (hf.block k (Nat.lt_of_lt_of_le hkl (up.trans up2).size) (by omega) (fun i hi e => by simp [Value.ownBlock] at e)).trans ((up.trans up2).block k hkl)
theorem AtHand.fail {w w3 w4 : World} {B h m : Nat} {R : Value} {l : List SD} {s : BS} {N sz g : Nat} {F F1 : Int → Option Nat} {MS1 : Int → Nat → Value} {u1 : List (Int × CS)} {X X3 : Nat → Prop} {cl : Int} {c : CS} {ms' : Nat → Value}
    (H : AtHand w w3 B h m R l s N sz g F F1 MS1 u1 X X3 cl c) (hf : CFrame w3 w4 g (MS1 cl) ms') (hc4 : CellIs w4 g g c ms') (hX : X h ∧ X m ∧ ∀ k, R.ownBlock = some k → X k) (hXL : ∀ k, X k → B ≤ k ∧ k < w.heap.size) (hB : B ≤ w.heap.size) (hsz : sz ≤ N) (hgd : s.Good) :
    BankM w4 B h l s (N + 9) (XG X w w4) ∧ Fr w w4 X := by
  have hfr := H.fr hf
  obtain ⟨MS2, h2⟩ := H.err w4 ms' hf hc4
  exact ⟨⟨m, R, sz, F, MS2, H.o4 hf, h2.more (by omega) (fun k hk => hk), ⟨.inl hX.1, .inl hX.2.1, fun k e => .inl (hX.2.2 k e)⟩, XG.ge hXL hfr.size hB, by omega, hgd⟩, hfr⟩
/-- An access has begun: the map and the thread's place are stored. -/
theorem AtHand.done {w w3 w4 w5 w6 : World} {B h m : Nat} {R : Value} {l : List SD} {s : BS} {N sz g tn : Nat} {F F1 : Int → Option Nat} {MS1 : Int → Nat → Value} {u1 : List (Int × CS)} {X X3 : Nat → Prop} {cl : Int} {c c' : CS} {ms' : Nat → Value}
    (H : AtHand w w3 B h m R l s N sz g F F1 MS1 u1 X X3 cl c) (hf : CFrame w3 w4 g (MS1 cl) ms') (hc4 : CellIs w4 g g c' ms') (hgc : CGood c' (N + 9)) (hX : X h ∧ X m ∧ ∀ k, R.ownBlock = some k → X k) (hXL : ∀ k, X k → B ≤ k ∧ k < w.heap.size) (hB : B ≤ w.heap.size) (hsz : sz ≤ N) (htn : tn < 8)
    (u4 : Up w4 w5) (hg6 : w5.grownBy w6 (some m)) (ho6 : BankO w6 B h m R (cntK l l.length) (runsK l l.length) s.by' (sz + 1) (fun x => if x = cl then some g else F x)) (hgd : BS.Good { u := putU s.u cl c', by' := fun i => if i = tn then (true, cl) else s.by' i }) :
    ∀ w7, Up w6 w7 → BankM (st2 w7 h (3 + tn * 2) (.bool true) (.int .i64 cl)) B h l { u := putU s.u cl c', by' := fun i => if i = tn then (true, cl) else s.by' i } (N + 9) (XG X w (st2 w7 h (3 + tn * 2) (.bool true) (.int .i64 cl))) ∧ Fr w (st2 w7 h (3 + tn * 2) (.bool true) (.int .i64 cl)) X := by
  intro w7 u7
  have hlt := fun k (e : R.ownBlock = some k) => (H.o.row.lt k e).2
  have h4 := H.cs.step (N' := N + 9) (by omega) H.o.blk.lt H.o.map.isLt hlt H.at' hc4 hgc hf
  have h6 := ((h4.up u4).grown hg6).up u7
  have hfr : Fr w (st2 w7 h (3 + tn * 2) (.bool true) (.int .i64 cl)) X :=
    ((((H.fr hf).same (Fr.ofUp u4)).same (grown_fr hg6 hX.2.1)).same (Fr.ofUp u7)).same (st2_fr _ _ _ _ _ X hX.1)
  have hs7 : (st2 w7 h (3 + tn * 2) (.bool true) (.int .i64 cl)).heap.size = w7.heap.size := st2_size _ _ _ _ _
  refine ⟨⟨m, R, sz + 1, _, _, (ho6.up u7).setBy tn htn (true, cl), ((h6.st2 (3 + tn * 2) (.bool true) (.int .i64 cl)).congr (u' := putU s.u cl c') (F' := fun x => if x = cl then some g else F x) (fun q => (H.put c' q).symm) (fun q => (H.f q).symm)).more (Nat.le_refl _) (fun k hk => ?_), ⟨.inl hX.1, .inl hX.2.1, fun k e => .inl (hX.2.2 k e)⟩, XG.ge hXL hfr.size hB, by omega, hgd⟩, hfr⟩
  have hu3 := H.up.size
  rcases hk with hk | hk
  · rcases H.x3 k hk with hk | hk
    · exact .inl hk
    · have h1 := hf.size
      have h2 := u4.size
      have h3 := hg6.size
      have h5 := u7.size
      exact .inr ⟨hk.1, by omega⟩
  · have h2 := u4.size
    have h3 := hg6.size
    have h5 := u7.size
    exact .inr ⟨by omega, by omega⟩

end Go.Proofs.Ytedkgamecdmjdaa
