/-
  Parts of a proof, packed: BankH, BankK
-/
import Derived.Deep.RegionLaw
import Derived.Deep.RegionHeld3
import Derived.Test.YtpodgcpkccpnfaaGreatPk01
import Derived.Test.YtpodgcpkccpnfaaGreatPk11
set_option linter.unusedVariables false
set_option linter.unusedSimpArgs false
set_option maxRecDepth 20000
set_option maxHeartbeats 16000000
namespace Go.Proofs.YtpodgcpkccpnfaaGreat
open Go.RowKit
theorem CFrame.toFr {w w' : World} {g : Nat} {ms ms' : Nat → Value} {X : Nat → Prop} (f : CFrame w w' g ms ms') (hX : ∀ k, Ft g ms k → X k) : Fr w w' X :=
 ⟨f.os, f.tape, f.output, f.size, fun k hk hn => f.block k hk (fun e => hn (hX k (.inl e))) (fun i hi e => hn (hX k (.inr ⟨i, hi, e⟩)))⟩
theorem endM_any (l : List SD) (B h N : Nat) (s : BS) (X : Nat → Prop) (t d : Int) (w : World) (ht0 : -9223372036854775808 ≤ t) (ht1 : t ≤ 9223372036854775807) (H : BankM w B h l s N X) (hN : N ≤ 100000) (mk : Int → CS) :
 Calls Tryz.prog 55 #[.pointer (some ⟨h, 0, none⟩), .int .i64 t, .int .i64 d] w fun e w' => e = .returned (.tuple #[.int .i64 (s.endA mk t d).1, .int .i64 (s.endA mk t d).2.1]) ∧ BankM w' B h l (s.endA mk t d).2.2 N (XG X w w') ∧ Fr w w' X := by
 have HBU := hQ' (busyM_any l B h N s X t w ht0 ht1 H)
 have HB := hQ' (show B ≤ w.heap.size from by
  obtain ⟨m, R, sz, F, MS, h1, h2, h3, h4, h5, h6⟩ := H
  have := h4 _ h3.1; omega)
 by_cases hbz : (s.busy t).2 = false
 · have e0 : s.endA mk t d = (0, 7, s) := by unfold BS.endA; rw [if_pos hbz]
   rw [e0]
   rw [hbz] at HBU
   have HH := hQ' H
   generalize (s.busy t).1 = q at *
   clear e0 hbz H
   go_enter Tryz.func55, Tryz.ntmps55
   go_wp2_with fail
   refine HBU.out.mono ?_
   rintro e w2 ⟨rfl, hu2⟩
   have HU2 := hQ' hu2
   clear hu2
   go_wp2_with fail
   go_ret2
   exact ⟨rfl, (HH.out.up HU2.out).more (Nat.le_refl _) (fun k hk => .inl hk) (XG.ge HH.out.lt HU2.out.size HB.out), Fr.ofUp HU2.out⟩
 · have hbt : (s.busy t).2 = true := by cases hq : (s.busy t).2 <;> simp_all
   obtain ⟨p0, p1, p2, p3⟩ := busy_in hbt
   obtain ⟨tn, rfl⟩ : ∃ tn : Nat, t = tn := ⟨t.toNat, by omega⟩
   have htn : tn < 8 := by omega
   obtain ⟨m, R, sz, F, MS, h1, h2, h3, h4, h5, h6⟩ := H
   rw [Int.toNat_natCast] at p2 p3
   have hgood := h6 tn htn p2
   rw [← p3] at hgood
   rw [hbt] at HBU
   have hby : s.by' tn = (true, (s.busy (tn : Int)).1) := Prod.ext p2 p3.symm
   obtain ⟨q, hq⟩ : ∃ q, (s.busy (tn : Int)).1 = q := ⟨_, rfl⟩
   rw [hq] at HBU hgood hby
   have hd := h2.dom q
   rw [hgood] at hd
   obtain ⟨g, hg⟩ := Option.isSome_iff_exists.1 hd
   obtain ⟨c, hc⟩ := h2.get hg
   obtain ⟨hci, hcg⟩ := h2.cell q g c hg hc
   have e0 : s.endA mk tn d = ((c.endA tn d).1, (c.endA tn d).2.1, { u := putU s.u q (c.endA tn d).2.2, by' := fun i => if i = tn then (false, 0) else s.by' i }) := by
    unfold BS.endA
    rw [if_neg hbz, hq, hc]
    rfl
   rw [e0]
   have HGD := hQ' (show BS.Good { u := putU s.u q (c.endA tn d).2.2, by' := fun i => if i = tn then (false, 0) else s.by' i } from by have := BS.Good.endA h6 mk tn d; rw [e0] at this; exact this)
   have HX := hQ' h3
   have HXL := hQ' h4
   have HSZ := hQ' h5
   have HO := hQ' h1
   have HC := hQ' h2
   have HG := hQ' hg
   have HCU := hQ' hc
   have HCG := hQ' (hcg.endA tn d)
   have HCG0 := hQ' hcg
   have HWF := hQ' (h2.rng q g hg)
   have hi8 : (tn : Int) < 8 := by omega
   have hi0 : (0 : Int) ≤ (tn : Int) := by omega
   clear hci hcg hc hd hgood e0 h1 h2 h3 h4 h5 h6 hq hg p0 p1 p2 p3 hbz hbt
   generalize s.busy (tn : Int) = bz at *
   go_enter Tryz.func55, Tryz.ntmps55
   go_wp2_with fail
   refine HBU.out.mono ?_
   rintro e w2 ⟨rfl, hu2⟩
   have HU2 := hQ' hu2
   have HO2 := hQ' (HO.out.up hu2)
   have HO3 := hQ' (HO2.out.setBy tn htn (false, 0))
   have HC3 := hQ' ((HC.out.up hu2).st2 (3 + tn * 2) (.bool false) (.int .i64 0))
   have HF3 := hQ' (st2_fr w2 h (3 + tn * 2) (.bool false) (.int .i64 0) X HX.out.1)
   have b0 := HO2.out.blk.on tn htn
   have b1 := HO2.out.blk.at' tn htn
   have b2 := HO3.out.blk.k2
   have fz := HO2.out.blk.fz
   have hlk := HO3.out.map.look HWF.out
   rw [HG.out] at hlk
   unfold ptrV at hlk
   obtain ⟨w3, hw3⟩ : ∃ w3, st2 w2 h (3 + tn * 2) (.bool false) (.int .i64 0) = w3 := ⟨_, rfl⟩
   dsimp only at hlk b2
   rw [hw3] at hlk b2 HC3 HF3
   dsimp only at HO3
   rw [hw3] at HO3
   unfold st2 at hw3
   have HW3 := hQ' hw3
   have HEN := hQ' (end_any g g N c (MS q) tn d w3 (HC3.out.cell q g c HG.out HCU.out).1 HCG0.out hN)
   clear hu2
   go_wp2_with fail
   refine HEN.out.mono ?_
   rintro e w4 ⟨rfl, ms', hc4, hf4⟩
   have HT := hQ' (HC3.out.step (Nat.le_refl N) HO3.out.blk.lt HO3.out.map.isLt (fun k e => (HO3.out.row.lt k e).2) HG.out hc4 HCG.out hf4)
   have HO4 := hQ' (HO3.out.keep (hf4.block h HO3.out.blk.lt (fun e => (HC3.out.ft q g HG.out g (.inl rfl)).2.1 e.symm) (fun i hi e => (HC3.out.ft q g HG.out h (.inr ⟨i, hi, e⟩)).2.1 rfl))
    (hf4.block m HO3.out.map.isLt (fun e => (HC3.out.ft q g HG.out g (.inl rfl)).2.2.1 e.symm) (fun i hi e => (HC3.out.ft q g HG.out m (.inr ⟨i, hi, e⟩)).2.2.1 rfl))
    (fun k e => hf4.block k (HO3.out.row.lt k e).2 (fun e2 => (HC3.out.ft q g HG.out g (.inl rfl)).2.2.2 (by rw [e, e2])) (fun i hi e2 => (HC3.out.ft q g HG.out k (.inr ⟨i, hi, e2⟩)).2.2.2 e)))
   have HF4 := hQ' (HF3.out.same (hf4.toFr (X := X) (fun k hk => (HC3.out.ft q g HG.out k hk).1)))
   have HFF := hQ' ((Fr.ofUp (X := X) HU2.out).same HF4.out)
   have HZ := hQ' (show w3.heap.size = w2.heap.size from by rw [← HW3.out]; simp)
   clear hc4 hf4 hw3 b0 b1 b2 fz hlk
   go_wp2_with fail
   go_ret2
   refine ⟨rfl, ⟨m, R, sz, F, setMS MS q ms', HO4.out, (HT.out.more (Nat.le_refl _) (X' := XG X w w4) (fun k hk => ?_)), ⟨.inl HX.out.1, .inl HX.out.2.1, fun k e => .inl (HX.out.2.2 k e)⟩, XG.ge HXL.out HFF.out.size HB.out, HSZ.out, HGD.out⟩, HFF.out⟩
   rcases hk with hk | hk
   · exact .inl hk
   · have := HU2.out.size
     have := HZ.out
     exact .inr ⟨by omega, hk.2⟩
end Go.Proofs.YtpodgcpkccpnfaaGreat
namespace Go.Proofs.YtpodgcpkccpnfaaGreat
open Go.RowKit
theorem begin_in (c : CS) (t k v : Int) (h : (c.begin t k v).1 = 0) : 0 ≤ t ∧ t < 8 := by
 unfold CS.begin at h
 split at h
 · simp at h
 · omega
theorem begin_stay (c : CS) (t k v : Int) (h : (c.begin t k v).1 ≠ 0) : (c.begin t k v).2 = c := by
 unfold CS.begin at h ⊢
 split at h
 · rename_i hc; rw [if_pos hc]
 · rename_i hc
   rw [if_neg hc]
   split at h
   · rename_i h2; rw [if_pos h2]
   · split at h <;> exact absurd rfl h
theorem putU_get {u : List (Int × CS)} {q : Int} {c : CS} (h : getU u q = some c) : ∀ x, getU (putU u q c) x = getU u x := fun x => by
 by_cases e : x = q
 · rw [e, getU_same, h]
 · rw [getU_other e]
theorem putU_put {u : List (Int × CS)} {q : Int} {c d : CS} : ∀ x, getU (putU (putU u q c) q d) x = getU (putU u q d) x := fun x => by
 by_cases e : x = q
 · rw [e, getU_same, getU_same]
 · rw [getU_other e, getU_other e, getU_other e]
structure AtHand (w w3 : World) (B h m : Nat) (R : Value) (l : List SD) (s : BS) (N sz g : Nat) (F F1 : Int → Option Nat) (MS1 : Int → Nat → Value) (u1 : List (Int × CS)) (X X3 : Nat → Prop) (cl : Int) (c : CS) : Prop where
 o : BankO w3 B h m R (cntK l l.length) (runsK l l.length) s.by' sz F
 cs : Cells w3 u1 N B h m R F1 MS1 X3
 at' : F1 cl = some g
 u : getU u1 cl = some c
 put : ∀ c' x, getU (putU u1 cl c') x = getU (putU s.u cl c') x
 f : ∀ x, F1 x = if x = cl then some g else F x
 up : Up w w3
 x3 : ∀ k, X3 k → XG X w w3 k
 x : ∀ k, X k → X3 k
 err : ∀ w4 ms', CFrame w3 w4 g (MS1 cl) ms' → CellIs w4 g g c ms' → ∃ MS2, Cells w4 s.u N B h m R F MS2 (XG X w w4)
theorem AtHand.fr {w w3 w4 : World} {B h m : Nat} {R : Value} {l : List SD} {s : BS} {N sz g : Nat} {F F1 : Int → Option Nat} {MS1 : Int → Nat → Value} {u1 : List (Int × CS)} {X X3 : Nat → Prop} {cl : Int} {c : CS} {ms' : Nat → Value}
 (H : AtHand w w3 B h m R l s N sz g F F1 MS1 u1 X X3 cl c) (hf : CFrame w3 w4 g (MS1 cl) ms') : Fr w w4 X :=
 (Fr.ofUp (X := X) H.up).trans (hf.toFr (X := X3) (fun k hk => (H.cs.ft cl g H.at' k hk).1)) (fun k hk h => by
  rcases H.x3 k h with h | h
  · exact h
  · omega)
theorem AtHand.o4 {w w3 w4 : World} {B h m : Nat} {R : Value} {l : List SD} {s : BS} {N sz g : Nat} {F F1 : Int → Option Nat} {MS1 : Int → Nat → Value} {u1 : List (Int × CS)} {X X3 : Nat → Prop} {cl : Int} {c : CS} {ms' : Nat → Value}
 (H : AtHand w w3 B h m R l s N sz g F F1 MS1 u1 X X3 cl c) (hf : CFrame w3 w4 g (MS1 cl) ms') : BankO w4 B h m R (cntK l l.length) (runsK l l.length) s.by' sz F :=
 H.o.keep (hf.block h H.o.blk.lt (fun e => (H.cs.ft cl g H.at' g (.inl rfl)).2.1 e.symm) (fun i hi e => (H.cs.ft cl g H.at' h (.inr ⟨i, hi, e⟩)).2.1 rfl))
  (hf.block m H.o.map.isLt (fun e => (H.cs.ft cl g H.at' g (.inl rfl)).2.2.1 e.symm) (fun i hi e => (H.cs.ft cl g H.at' m (.inr ⟨i, hi, e⟩)).2.2.1 rfl))
  (fun k e => hf.block k (H.o.row.lt k e).2 (fun e2 => (H.cs.ft cl g H.at' g (.inl rfl)).2.2.2 (by rw [e, e2])) (fun i hi e2 => (H.cs.ft cl g H.at' k (.inr ⟨i, hi, e2⟩)).2.2.2 e))
theorem atHand_old {w w3 : World} {B h m : Nat} {R : Value} {l : List SD} {s : BS} {N sz g : Nat} {F : Int → Option Nat} {MS : Int → Nat → Value} {X : Nat → Prop} {cl : Int} {c : CS}
 (HO : BankO w B h m R (cntK l l.length) (runsK l l.length) s.by' sz F) (HC : Cells w s.u N B h m R F MS X) (up : Up w w3) (hg : F cl = some g) (hc : getU s.u cl = some c) :
 AtHand w w3 B h m R l s N sz g F F MS s.u X X cl c := by
 refine ⟨HO.up up, HC.up up, hg, hc, fun _ _ => rfl, fun x => ?_, up, fun k hk => .inl hk, fun k hk => hk, fun w4 ms' hf hc4 => ?_⟩
 · split
   · rename_i e; rw [e, hg]
   · rfl
 · have h3 := HC.up up
   have hlt := fun k (e : R.ownBlock = some k) => ((HO.up up).row.lt k e).2
   have h4 := h3.step (Nat.le_refl N) (HO.up up).blk.lt (HO.up up).map.isLt hlt hg hc4 (h3.cell cl g c hg hc).2 hf
   refine ⟨_, (h4.congr (u' := s.u) (F' := F) (fun q => (putU_get hc q).symm) (fun _ => rfl)).more (Nat.le_refl _) fun k hk => ?_⟩
   rcases hk with hk | hk
   · exact .inl hk
   · exact .inr ⟨Nat.le_trans up.size hk.1, hk.2⟩
theorem atHand_new {w w2 w3 : World} {B h m : Nat} {R : Value} {l : List SD} {s : BS} {N sz g : Nat} {F : Int → Option Nat} {MS : Int → Nat → Value} {X : Nat → Prop} {cl : Int} {c : CS}
 (HO : BankO w B h m R (cntK l l.length) (runsK l l.length) s.by' sz F) (HC : Cells w s.u N B h m R F MS X) (up : Up w w2) (up2 : Up w2 w3) (hg : F cl = none) (hge : w2.heap.size ≤ g) (hc : CellIs w3 g g c (fun _ => .slice none 0 0)) (hgd : CGood c N) (hw : Wf cl) :
 AtHand w w3 B h m R l s N sz g F (fun x => if x = cl then some g else F x) (setMS MS cl (fun _ => .slice none 0 0)) (putU s.u cl c) X (XG X w2 w3) cl c := by
 have hlt := fun k (e : R.ownBlock = some k) => ((HO.up up).row.lt k e).2
 have h3 := (HC.up up).add (HO.up up).blk.lt (HO.up up).map.isLt hlt up2 hge hc hgd hw
 refine ⟨HO.up (up.trans up2), h3, if_pos rfl, getU_same _ _ _, fun c' x => putU_put x, fun x => rfl, up.trans up2, fun k hk => ?_, fun k hk => .inl hk, fun w4 ms' hf hc4 => ⟨MS, ?_⟩⟩
 · rcases hk with hk | hk
   · exact .inl hk
   · exact .inr ⟨Nat.le_trans up.size hk.1, hk.2⟩
 · have hms : setMS MS cl (fun _ => Value.slice none 0 0) cl = fun _ => Value.slice none 0 0 := by unfold setMS; rw [if_pos rfl]
   rw [hms] at hf
   have hs : w.heap.size ≤ w4.heap.size := Nat.le_trans (up.trans up2).size hf.size
   refine (HC.keep hs fun q gq hq k hk => ?_).more (Nat.le_refl _) (fun k hk => .inl hk)
   have hkl := HC.lt hq hk
   have hu := up.size
   exact (hf.block k (Nat.lt_of_lt_of_le hkl (up.trans up2).size) (by omega) (fun i hi e => by simp [Value.ownBlock] at e)).trans ((up.trans up2).block k hkl)
theorem AtHand.fail {w w3 w4 : World} {B h m : Nat} {R : Value} {l : List SD} {s : BS} {N sz g : Nat} {F F1 : Int → Option Nat} {MS1 : Int → Nat → Value} {u1 : List (Int × CS)} {X X3 : Nat → Prop} {cl : Int} {c : CS} {ms' : Nat → Value}
 (H : AtHand w w3 B h m R l s N sz g F F1 MS1 u1 X X3 cl c) (hf : CFrame w3 w4 g (MS1 cl) ms') (hc4 : CellIs w4 g g c ms') (hX : X h ∧ X m ∧ ∀ k, R.ownBlock = some k → X k) (hXL : ∀ k, X k → B ≤ k ∧ k < w.heap.size) (hB : B ≤ w.heap.size) (hsz : sz ≤ N) (hgd : s.Good) :
 BankM w4 B h l s (N + 9) (XG X w w4) ∧ Fr w w4 X := by
 have hfr := H.fr hf
 obtain ⟨MS2, h2⟩ := H.err w4 ms' hf hc4
 exact ⟨⟨m, R, sz, F, MS2, H.o4 hf, h2.more (by omega) (fun k hk => hk), ⟨.inl hX.1, .inl hX.2.1, fun k e => .inl (hX.2.2 k e)⟩, XG.ge hXL hfr.size hB, by omega, hgd⟩, hfr⟩
theorem AtHand.done {w w3 w4 w5 w6 : World} {B h m : Nat} {R : Value} {l : List SD} {s : BS} {N sz g tn : Nat} {F F1 : Int → Option Nat} {MS1 : Int → Nat → Value} {u1 : List (Int × CS)} {X X3 : Nat → Prop} {cl : Int} {c c' : CS} {ms' : Nat → Value}
 (H : AtHand w w3 B h m R l s N sz g F F1 MS1 u1 X X3 cl c) (hf : CFrame w3 w4 g (MS1 cl) ms') (hc4 : CellIs w4 g g c' ms') (hgc : CGood c' (N + 9)) (hX : X h ∧ X m ∧ ∀ k, R.ownBlock = some k → X k) (hXL : ∀ k, X k → B ≤ k ∧ k < w.heap.size) (hB : B ≤ w.heap.size) (hsz : sz ≤ N) (htn : tn < 8)
 (u4 : Up w4 w5) (hg6 : w5.grownBy w6 (some m)) (ho6 : BankO w6 B h m R (cntK l l.length) (runsK l l.length) s.by' (sz + 1) (fun x => if x = cl then some g else F x)) (hgd : BS.Good { u := putU s.u cl c', by' := fun i => if i = tn then (true, cl) else s.by' i }) :
 ∀ w7, Up w6 w7 → BankM (st2 w7 h (3 + tn * 2) (.bool true) (.int .i64 cl)) B h l { u := putU s.u cl c', by' := fun i => if i = tn then (true, cl) else s.by' i } (N + 9) (XG X w (st2 w7 h (3 + tn * 2) (.bool true) (.int .i64 cl))) ∧ Fr w (st2 w7 h (3 + tn * 2) (.bool true) (.int .i64 cl)) X := by
 intro w7 u7
 have hlt := fun k (e : R.ownBlock = some k) => (H.o.row.lt k e).2
 have h4 := H.cs.step (N' := N + 9) (by omega) H.o.blk.lt H.o.map.isLt hlt H.at' hc4 hgc hf
 have h6 := ((h4.up u4).grown hg6).up u7
 have hfr : Fr w (st2 w7 h (3 + tn * 2) (.bool true) (.int .i64 cl)) X :=
  ((((H.fr hf).same (Fr.ofUp u4)).same (grown_fr hg6 hX.2.1)).same (Fr.ofUp u7)).same (st2_fr _ _ _ _ _ X hX.1)
 have hs7 : (st2 w7 h (3 + tn * 2) (.bool true) (.int .i64 cl)).heap.size = w7.heap.size := st2_size _ _ _ _ _
 refine ⟨⟨m, R, sz + 1, _, _, (ho6.up u7).setBy tn htn (true, cl), ((h6.st2 (3 + tn * 2) (.bool true) (.int .i64 cl)).congr (u' := putU s.u cl c') (F' := fun x => if x = cl then some g else F x) (fun q => (H.put c' q).symm) (fun q => (H.f q).symm)).more (Nat.le_refl _) (fun k hk => ?_), ⟨.inl hX.1, .inl hX.2.1, fun k e => .inl (hX.2.2 k e)⟩, XG.ge hXL hfr.size hB, by omega, hgd⟩, hfr⟩
 have hu3 := H.up.size
 rcases hk with hk | hk
 · rcases H.x3 k hk with hk | hk
   · exact .inl hk
   · have h1 := hf.size
     have h2 := u4.size
     have h3 := hg6.size
     have h5 := u7.size
     exact .inr ⟨hk.1, by omega⟩
 · have h2 := u4.size
   have h3 := hg6.size
   have h5 := u7.size
   exact .inr ⟨by omega, by omega⟩
end Go.Proofs.YtpodgcpkccpnfaaGreat

namespace Go.Proofs.YtpodgcpkccpnfaaGreat
open Go.RowKit
theorem wf_small {n : Int} (h0 : 0 ≤ n) (h1 : n < 32768) : Wf n := by unfold Wf; simp [Lit.wf, IntKind.min, IntKind.max, IntKind.signed, IntKind.bits]; omega
def begR (er : Int) (s s1 : BS) : Int × BS := if er ≠ 0 then (er, s) else (0, s1)
theorem begR_err {er : Int} {s s1 : BS} (h : er ≠ 0) : begR er s s1 = (er, s) := by unfold begR; rw [if_pos h]
theorem begR_ok {s s1 : BS} : begR 0 s s1 = (0, s1) := by unfold begR; rw [if_neg (by simp)]
theorem beginM_any (l : List SD) (B h N : Nat) (s : BS) (X : Nat → Prop) (t k cl v : Int) (w : World) (hfit : Fit l) (ht0 : -9223372036854775808 ≤ t) (ht1 : t ≤ 9223372036854775807) (H : BankM w B h l s N X) (hN : N ≤ 90000) :
 Calls Tryz.prog 85 #[.pointer (some ⟨h, 0, none⟩), .int .i64 t, .agg #[.int .i64 k, .int .i64 cl, .int .i64 v]] w fun e w' => e = .returned (.int .i64 (s.begin (cntK l l.length) 6 (mkP l) t k cl v).1) ∧ BankM w' B h l (s.begin (cntK l l.length) 6 (mkP l) t k cl v).2 (N + 9) (XG X w w') ∧ Fr w w' X := by
 have HH := hQ' H
 have HB := hQ' (show B ≤ w.heap.size from by
  obtain ⟨m, R, sz, F, MS, h1, h2, h3, h4, h5, h6⟩ := H
  have := h4 _ h3.1; omega)
 have hUb : Up w (w.alloc (.cells #[.int .i64 k, .int .i64 cl, .int .i64 v] 111)) := (Up.refl w).alloc _
 have hbx := heap_alloc_new w (.cells #[.int .i64 k, .int .i64 cl, .int .i64 v] 111)
 obtain ⟨W, hW⟩ : ∃ x, w.alloc (.cells #[.int .i64 k, .int .i64 cl, .int .i64 v] 111) = x := ⟨_, rfl⟩
 rw [hW] at hUb hbx
 have HW := hQ' hW
 have HU := hQ' hUb
 have HBX := hQ' hbx
 have b1 := cell_of_row _ _ 1 _ _ _ hbx
 simp only [gA_T, gA_0, gA_S] at b1
 have HKP : Hid (∀ w2, Up w w2 → BankM w2 B h l s (N + 9) (XG X w w2) ∧ Fr w w2 X) := hQ' (fun w2 u => ⟨(HH.out.up u).more (by omega) (fun k hk => .inl hk) (XG.ge HH.out.lt u.size HB.out), Fr.ofUp u⟩)
 obtain ⟨m, R, sz, F, MS, h1, h2, h3, h4, h5, h6⟩ := H
 have HHAS := hQ' (bhas_any h R _ m s.by' cl W (h1.up hUb).blk)
 have HBU := hQ' (bbusy_any h R _ m s t W ht0 ht1 (h1.up hUb).blk)
 clear hW hUb hbx
 by_cases hin : 0 ≤ cl ∧ cl < cntK l l.length
 rotate_left
 · have e0 : s.begin (cntK l l.length) 6 (mkP l) t k cl v = (6, s) := by unfold BS.begin; rw [if_pos hin]
   rw [e0]
   rw [decide_eq_false hin] at HHAS
   clear h1 h2 h3 h4 h5 h6 e0 hin
   go_enter Tryz.func85, Tryz.ntmps85
   go_wp2_with fail
   rw [HW.out]
   go_wp2_with fail
   refine HHAS.out.mono ?_
   rintro e w2 ⟨rfl, rfl⟩
   go_wp2_with fail
   go_ret
   exact ⟨rfl, HKP.out _ HU.out⟩
 rw [decide_eq_true hin] at HHAS
 have hwf := wf_small hin.1 (show cl < 32768 from by have := hfit.few; omega)
 obtain ⟨bq, hbq⟩ : ∃ q, s.busy t = q := ⟨_, rfl⟩
 obtain ⟨bq1, bq2⟩ := bq
 rw [hbq] at HBU
 dsimp only at HBU
 cases bq2
 rotate_left
 · have e0 : s.begin (cntK l l.length) 6 (mkP l) t k cl v = (12, s) := by unfold BS.begin; rw [if_neg (by simpa using hin), hbq, if_pos rfl]
   rw [e0]
   clear h1 h2 h3 h4 h5 h6 e0 hin hbq
   go_enter Tryz.func85, Tryz.ntmps85
   go_wp2_with fail
   rw [HW.out]
   go_wp2_with fail
   refine HHAS.out.mono ?_
   rintro e w2 ⟨rfl, rfl⟩
   go_wp2_with fail
   refine HBU.out.mono ?_
   rintro e w3 ⟨rfl, hu3⟩
   have HU3 := hQ' (HU.out.trans hu3)
   clear hu3
   go_wp2_with fail
   go_ret
   exact ⟨rfl, HKP.out _ HU3.out⟩
 obtain ⟨c, hc⟩ : ∃ c, (getU s.u cl).getD (mkP l cl) = c := ⟨_, rfl⟩
 have e0 : s.begin (cntK l l.length) 6 (mkP l) t k cl v = begR (c.begin t k v).1 s { u := putU s.u cl (c.begin t k v).2, by' := fun i => if i = t.toNat then (true, cl) else s.by' i } := by
  unfold BS.begin begR; rw [if_neg (by simpa using hin), hbq, if_neg (by simp), hc]
 have HGD := hQ' (show BS.Good (s.begin (cntK l l.length) 6 (mkP l) t k cl v).2 from h6.begin _ _ _ _ _ _ _)
 obtain ⟨er, hE1⟩ : ∃ er, (c.begin t k v).1 = er := ⟨_, rfl⟩
 obtain ⟨c', hE2⟩ : ∃ c', (c.begin t k v).2 = c' := ⟨_, rfl⟩
 rw [hE1, hE2] at e0
 rw [e0] at HGD ⊢
 have HE1 := hQ' hE1
 have HE2 := hQ' hE2
 clear e0 hE1 hE2
 have HX := hQ' h3
 have HXL := hQ' h4
 have HSZ := hQ' h5
 have HG0 := hQ' h6
 have HO := hQ' h1
 have HC := hQ' h2
 have HFU := hQ' (h2.dom cl)
 have HWF := hQ' hwf
 have HIN := hQ' (show 0 ≤ cl ∧ cl < endK l l.length from by rw [cnt_end hfit.all hfit.few]; exact hin)
 have HFT := hQ' hfit
 clear h1 h2 h3 h4 h5 h6 hin hwf hbq
 go_enter Tryz.func85, Tryz.ntmps85
 go_wp2_with fail
 rw [HW.out]
 go_wp2_with fail
 refine HHAS.out.mono ?_
 rintro e w2 ⟨rfl, rfl⟩
 go_wp2_with fail
 refine HBU.out.mono ?_
 rintro e w3 ⟨rfl, hu3⟩
 have HU3 := hQ' (HU.out.trans hu3)
 have HB3 := hQ' ((hu3.block w.heap.size (by have := HBX.out; exact (Array.getElem?_eq_some_iff.1 this).1)).trans HBX.out)
 have HO3 := hQ' (HO.out.up (HU3.out.trans (Up.refl w3).drew))
 have b1 := cell_of_row _ _ 1 _ _ _ HB3.out
 simp only [gA_T, gA_0, gA_S] at b1
 have hSS : w3.drew.cell? ⟨h, 2, none⟩ = some (.map (some m)) ∧ w3.drew.cell? ⟨w.heap.size, 1, none⟩ = some (.int .i64 cl) ∧ (Instr.lookup 144 (.map (some m)) (.int .i64 cl) true).run Tryz.prog w3.drew = .ok (.tuple #[ptrV (F cl), .bool (F cl).isSome]) w3.drew := ⟨HO3.out.blk.k2, b1, HO3.out.map.lookOk HWF.out⟩
 clear hu3
 go_wp2_with fail
 refine wp_region_held_drew (S := fun w' => w'.cell? ⟨h, 2, none⟩ = some (.map (some m)) ∧ w'.cell? ⟨w.heap.size, 1, none⟩ = some (.int .i64 cl) ∧ (Instr.lookup 144 (.map (some m)) (.int .i64 cl) true).run Tryz.prog w' = .ok (.tuple #[ptrV (F cl), .bool (F cl).isSome]) w') (by kernel_rfl) hSS (fun hS0 => ?_)
 clear hSS
 refine tkE 0 ?_ rfl (by kernel_rfl) (fun _ _ _ h => h) hS0 ?_ ?_
 rotate_left
 · intro w hSw
   try dsimp only at hSw
   go_simp
   try (with_reducible rfl)
 try simp only [Act.put, sC_I, sC_0, sC_1]
 refine tkE 1 ?_ rfl (by kernel_rfl) (fun _ _ _ h => h) hS0 ?_ ?_
 rotate_left
 · intro w hSw
   try dsimp only at hSw
   go_simp
   try (with_reducible rfl)
 try simp only [Act.put, sC_I, sC_0, sC_1]
 refine tkE 2 ?_ rfl (by kernel_rfl) (fun _ _ _ h => h) hS0 ?_ ?_
 rotate_left
 · intro w hSw
   try dsimp only at hSw
   go_simp
   try (with_reducible rfl)
 try simp only [Act.put, sC_I, sC_0, sC_1]
 refine tkE 3 ?_ rfl (by kernel_rfl) (fun _ _ _ h => h) hS0 ?_ ?_
 rotate_left
 · intro w hSw
   try dsimp only at hSw
   go_simp
   try (with_reducible rfl)
 try simp only [Act.put, sC_I, sC_0, sC_1]
 refine tkE 4 ?_ rfl (by kernel_rfl) (fun _ _ _ h => h) hS0 ?_ ?_
 rotate_left
 · intro w hSw
   try dsimp only at hSw
   go_simp
   try (with_reducible rfl)
 try simp only [Act.put, sC_I, sC_0, sC_1]
 refine tkE 5 ?_ rfl (by kernel_rfl) (fun _ _ _ h => h) hS0 ?_ ?_
 rotate_left
 · intro w hSw
   try dsimp only at hSw
   go_simp
   try (with_reducible rfl)
 try simp only [Act.put, sC_I, sC_0, sC_1]
 refine tkE 6 ?_ rfl (by kernel_rfl) (fun _ _ _ h => h) hS0 ?_ ?_
 rotate_left
 · intro w hSw
   try dsimp only at hSw
   go_simp
   try (with_reducible rfl)
 try simp only [Act.put, sC_I, sC_0, sC_1]
 refine tkE 7 ?_ rfl (by kernel_rfl) (fun _ _ _ h => h) hS0 ?_ ?_
 rotate_left
 · intro w hSw
   try dsimp only at hSw
   go_simp
   try (with_reducible rfl)
 try simp only [Act.put, sC_I, sC_0, sC_1]
 refine tkE 8 ?_ rfl (by kernel_rfl) (fun _ _ _ h => h) hS0 ?_ ?_
 rotate_left
 · intro w hSw
   try dsimp only at hSw
   go_simp
   try (with_reducible rfl)
 try simp only [Act.put, sC_I, sC_0, sC_1]
 refine tkE 9 ?_ rfl (by kernel_rfl) (fun _ _ _ h => h) hS0 ?_ ?_
 rotate_left
 · intro w hSw
   try dsimp only at hSw
   go_simp
   try (with_reducible rfl)
 try simp only [Act.put, sC_I, sC_0, sC_1]
 refine tkE 10 ?_ rfl (by kernel_rfl) (fun _ _ _ h => h) hS0 ?_ ?_
 rotate_left
 · intro w hSw
   try dsimp only at hSw
   go_simp
   try (with_reducible rfl)
 try simp only [Act.put, sC_I, sC_0, sC_1]
 refine tkE 11 ?_ rfl (by kernel_rfl) (fun _ _ _ h => h) hS0 ?_ ?_
 rotate_left
 · intro w hSw
   try dsimp only at hSw
   go_simp
   try (with_reducible rfl)
 try simp only [Act.put, sC_I, sC_0, sC_1]
 refine wpAnyH_done (by kernel_rfl) ?_ _
 try simp only [Act.put, sC_I, sC_0, sC_1, List.getElem_toArray, List.getElem_cons_succ, List.getElem_cons_zero]
 clear hS0
 have HU3D := hQ' (HU3.out.trans (Up.refl w3).drew)
 have HBD := hQ' (show w3.drew.heap[w.heap.size]? = some (.cells #[.int .i64 k, .int .i64 cl, .int .i64 v] 111) from HB3.out)
 clear HO3 b1
 generalize w3.drew = w4 at *
 obtain ⟨oF, hoF⟩ : ∃ o, F cl = o := ⟨_, rfl⟩
 rw [hoF] at HFU ⊢
 have HoF := hQ' hoF
 have HHC := hQ' hc
 clear hoF hc
 cases oF with
 | some g =>
  have hcu : getU s.u cl = some c := by
   have h1 := HFU.out
   have h2 := HHC.out
   cases hg : getU s.u cl with
   | none => rw [hg] at h1; cases h1
   | some d => rw [hg] at h2; rw [← h2]; rfl
  have HAH := hQ' (atHand_old (N := N) HO.out HC.out HU3D.out HoF.out hcu)
  clear hcu
  unfold ptrV
  dsimp only
  have HAB : Hid (∀ x, Ft g (MS cl) x → x ≠ w.heap.size) := hQ' (fun x hx e => by have := HC.out.lt HoF.out hx; omega)
  have HBX5 := hQ' HBD.out
  obtain ⟨MS1, hMS⟩ : ∃ x, MS = x := ⟨_, rfl⟩
  obtain ⟨w5, hw5⟩ : ∃ x, w4 = x := ⟨_, rfl⟩
  have HC0 := hQ' HC.out
  rw [hMS] at HAH HAB
  rw [hw5] at HAH HBX5 ⊢
  clear hMS hw5
  have b0 := cell_of_row _ _ 0 _ _ _ HBX5.out
  have b1 := cell_of_row _ _ 1 _ _ _ HBX5.out
  have b2 := cell_of_row _ _ 2 _ _ _ HBX5.out
  simp only [gA_T, gA_0, gA_S] at b0 b1 b2
  have HBG := hQ' (begin_any g g N c _ t k cl v w5 (HAH.out.cs.cell cl g c HAH.out.at' HAH.out.u).1 (HAH.out.cs.cell cl g c HAH.out.at' HAH.out.u).2 hN)
  rw [HE1.out, HE2.out] at HBG
  have HGC := hQ' ((HAH.out.cs.cell cl g c HAH.out.at' HAH.out.u).2.begin t k v)
  rw [HE2.out] at HGC
  have HNB := hQ' (show ∀ x, Ft g (MS1 cl) x → x ≠ w.heap.size from fun x hx e => HAB.out x hx e)
  go_wp2_with fail
  refine HBG.out.mono ?_
  rintro e w6 ⟨rfl, ms', hc6, hf6⟩
  by_cases her : er = 0
  rotate_left
  · have hst := begin_stay c t k v (by rw [HE1.out]; exact her)
    rw [HE2.out] at hst
    rw [hst] at hc6
    have HR := hQ' (HAH.out.fail hf6 hc6 HX.out HXL.out HB.out HSZ.out HG0.out)
    have hne : (er != 0) = true := by rw [bne_iff_ne]; exact her
    have HER := hQ' her
    clear her hst hc6 hf6 b0 b1 b2
    go_wp2_with fail
    go_ret
    rw [begR_err HER.out]
    exact ⟨rfl, HR.out⟩
  · obtain ⟨p0, p1⟩ := begin_in c t k v (by rw [HE1.out]; exact her)
    obtain ⟨tn, rfl⟩ : ∃ tn : Nat, t = tn := ⟨t.toNat, by omega⟩
    have htn : tn < 8 := by omega
    subst her
    rw [begR_ok] at HGD
    rw [Int.toNat_natCast] at HGD
    have hbx6 := (hf6.block w.heap.size (Array.getElem?_eq_some_iff.1 HBX5.out).1 (fun e => HNB.out g (.inl rfl) e.symm) (fun i hi e => HNB.out _ (.inr ⟨i, hi, e⟩) rfl)).trans HBX5.out
    have HBX6 := hQ' hbx6
    have HO6 := hQ' ((HAH.out.o4 hf6).up (Up.refl w6).drew)
    obtain ⟨w7, hrun, ho7, hg7⟩ := HO6.out.store (show sz < maxLen from by unfold maxLen; have := HSZ.out; omega) HWF.out g
    have HDN := hQ' (HAH.out.done (w5 := w6.drew) (w6 := w7) hf6 hc6 HGC.out HX.out HXL.out HB.out HSZ.out htn (Up.refl w6).drew hg7 ho7 HGD.out w7 (Up.refl w7))
    have HO7 := hQ' ho7
    have HDN2 := hQ' (And.intro (HDN.out.1.up (Up.refl _).drew) (Fr.same HDN.out.2 (Fr.ofUp (X := X) (Up.refl _).drew)))
    have hmw : w.heap.size ≠ m := fun e => by have := HO.out.map.isLt; omega
    have HBX7 := hQ' (show w7.heap[w.heap.size]? = _ from (hg7.block w.heap.size (Array.getElem?_eq_some_iff.1 hbx6).1 (fun e => hmw (by injection e))).trans hbx6)
    have hhw : w.heap.size ≠ h := fun e => by have := HO.out.blk.lt; omega
    clear hc6 hf6 ho7 hg7 p0 p1
    have c1 := cell_of_row _ _ 1 _ _ _ HBX6.out
    simp only [gA_T, gA_0, gA_S] at c1
    have hSS : w6.drew.cell? ⟨h, 2, none⟩ = some (.map (some m)) ∧ w6.drew.cell? ⟨w.heap.size, 1, none⟩ = some (.int .i64 cl) := ⟨HO6.out.blk.k2, c1⟩
    clear b0 b1 b2 c1
    go_wp2_with fail
    refine wp_region_held_drew (S := fun w' => w'.cell? ⟨h, 2, none⟩ = some (.map (some m)) ∧ w'.cell? ⟨w.heap.size, 1, none⟩ = some (.int .i64 cl)) (by kernel_rfl) hSS (fun hS0 => ?_)
    clear hSS
    refine tkE 0 ?_ rfl (by kernel_rfl) (fun _ _ _ h => h) hS0 ?_ ?_
    rotate_left
    · intro w hSw
      try dsimp only at hSw
      go_simp
      try (with_reducible rfl)
    try simp only [Act.put, sC_I, sC_0, sC_1]
    refine tkE 1 ?_ rfl (by kernel_rfl) (fun _ _ _ h => h) hS0 ?_ ?_
    rotate_left
    · intro w hSw
      try dsimp only at hSw
      go_simp
      try (with_reducible rfl)
    try simp only [Act.put, sC_I, sC_0, sC_1]
    refine tkE 2 ?_ rfl (by kernel_rfl) (fun _ _ _ h => h) hS0 ?_ ?_
    rotate_left
    · intro w hSw
      try dsimp only at hSw
      go_simp
      try (with_reducible rfl)
    try simp only [Act.put, sC_I, sC_0, sC_1]
    refine tkE 3 ?_ rfl (by kernel_rfl) (fun _ _ _ h => h) hS0 ?_ ?_
    rotate_left
    · intro w hSw
      try dsimp only at hSw
      go_simp
      try (with_reducible rfl)
    try simp only [Act.put, sC_I, sC_0, sC_1]
    refine tkE 4 ?_ rfl (by kernel_rfl) (fun _ _ _ h => h) hS0 ?_ ?_
    rotate_left
    · intro w hSw
      try dsimp only at hSw
      go_simp
      try (with_reducible rfl)
    try simp only [Act.put, sC_I, sC_0, sC_1]
    refine tkE 5 ?_ rfl (by kernel_rfl) (fun _ _ _ h => h) hS0 ?_ ?_
    rotate_left
    · intro w hSw
      try dsimp only at hSw
      go_simp
      try (with_reducible rfl)
    try simp only [Act.put, sC_I, sC_0, sC_1]
    refine tkE 6 ?_ rfl (by kernel_rfl) (fun _ _ _ h => h) hS0 ?_ ?_
    rotate_left
    · intro w hSw
      try dsimp only at hSw
      go_simp
      try (with_reducible rfl)
    try simp only [Act.put, sC_I, sC_0, sC_1]
    refine rdE 7 (by kernel_rfl) rfl fun K hK => ?_
    go_simp
    have c1 := cell_of_row _ _ 1 _ _ _ HBX7.out
    simp only [gA_T, gA_0, gA_S] at c1
    refine hK.out _ _ (And.intro HO7.out.blk.k2 c1) (fun hS1 => ?_)
    clear hK K
    try simp only [Act.put, sC_I, sC_0, sC_1]
    refine wpAnyH_done (by kernel_rfl) ?_ _
    try simp only [Act.put, sC_I, sC_0, sC_1, List.getElem_toArray, List.getElem_cons_succ, List.getElem_cons_zero]
    clear hS0 hS1
    go_wp2_with fail
    have x0 := HO7.out.blk.on tn htn
    have x1 := HO7.out.blk.at' tn htn
    have fz := HO7.out.blk.fz
    have hi8 : (tn : Int) < 8 := by omega
    have hi0 : (0 : Int) ≤ (tn : Int) := by omega
    refine wp_region_held_drew (S := fun w' => w'.cell? ⟨w.heap.size, 1, none⟩ = some (.int .i64 cl)) (by kernel_rfl) c1 (fun hS0 => ?_)
    refine tkE 0 ?_ rfl (by kernel_rfl) (fun _ _ _ h => h) hS0 ?_ ?_
    rotate_left
    · intro w hSw
      try dsimp only at hSw
      go_simp
      try (with_reducible rfl)
    try simp only [Act.put, sC_I, sC_0, sC_1]
    refine tkE 1 ?_ rfl (by kernel_rfl) (fun _ _ _ h => h) hS0 ?_ ?_
    rotate_left
    · intro w hSw
      try dsimp only at hSw
      go_simp
      try (with_reducible rfl)
    try simp only [Act.put, sC_I, sC_0, sC_1]
    refine tkE 2 ?_ rfl (by kernel_rfl) (fun _ _ _ h => h) hS0 ?_ ?_
    rotate_left
    · intro w hSw
      try dsimp only at hSw
      go_simp
      try (with_reducible rfl)
    try simp only [Act.put, sC_I, sC_0, sC_1]
    refine tkE 3 ?_ rfl (by kernel_rfl) (fun _ _ _ h => h) hS0 ?_ ?_
    rotate_left
    · intro w hSw
      try dsimp only at hSw
      go_simp
      try (with_reducible rfl)
    try simp only [Act.put, sC_I, sC_0, sC_1]
    refine tkE 4 ?_ rfl (by kernel_rfl) (fun _ _ _ h => h) hS0 ?_ ?_
    rotate_left
    · intro w hSw
      try dsimp only at hSw
      go_simp
      try (with_reducible rfl)
    try simp only [Act.put, sC_I, sC_0, sC_1]
    refine tkE 5 ?_ rfl (by kernel_rfl) (fun _ _ _ h => h) hS0 ?_ ?_
    rotate_left
    · intro w hSw
      try dsimp only at hSw
      go_simp
      try (with_reducible rfl)
    try simp only [Act.put, sC_I, sC_0, sC_1]
    refine tkE 6 ?_ rfl (by kernel_rfl) (fun _ _ _ h => h) hS0 ?_ ?_
    rotate_left
    · intro w hSw
      try dsimp only at hSw
      go_simp
      try (with_reducible rfl)
    try simp only [Act.put, sC_I, sC_0, sC_1]
    refine tkE 7 ?_ rfl (by kernel_rfl) (fun _ _ _ h => h) hS0 ?_ ?_
    rotate_left
    · intro w hSw
      try dsimp only at hSw
      go_simp
      try (with_reducible rfl)
    try simp only [Act.put, sC_I, sC_0, sC_1]
    refine rdE 8 (by kernel_rfl) rfl fun K hK => ?_
    go_simp
    have c2 := (cellE (w := w7) (o := 1) (st2_other w7 h (3 + tn * 2) (.bool true) (.int .i64 cl) w.heap.size hhw)).trans c1
    unfold st2 at HDN2 c2
    refine hK.out _ _ c2 (fun hS1 => ?_)
    clear hK K
    try simp only [Act.put, sC_I, sC_0, sC_1]
    refine wpAnyH_done (by kernel_rfl) ?_ _
    try simp only [Act.put, sC_I, sC_0, sC_1, List.getElem_toArray, List.getElem_cons_succ, List.getElem_cons_zero]
    clear hS0 hS1 x0 x1 fz
    go_wp2_with fail
    go_ret
    rw [begR_ok, Int.toNat_natCast]
    exact ⟨rfl, (HDN2.out.1.more (Nat.le_refl _) (fun k hk => hk) HDN2.out.1.lt), HDN2.out.2⟩
 | none =>
  have hcu : mkP l cl = c := by
   have h1 := HFU.out
   have h2 := HHC.out
   cases hg : getU s.u cl with
   | none => rw [hg] at h2; exact h2
   | some d => rw [hg] at h1; cases h1
  have HFR := hQ' (fresh_any l B h m R _ s.by' sz F cl w4 HFT.out.len (HO.out.up HU3D.out) HIN.out.1 HIN.out.2)
  rw [hcu] at HFR
  have hgd0 : CGood c N := by
   rw [← hcu]
   unfold mkP
   split <;> exact (CGood.new _ _).more (Nat.zero_le _)
  have HGD0 := hQ' hgd0
  have HAH0 := hQ' (fun (w5 : World) (g : Nat) (u5 : Up w4 w5) (hge : w4.heap.size ≤ g) (hc5 : CellIs w5 g g c (fun _ => .slice none 0 0)) => atHand_new (N := N) HO.out HC.out HU3D.out u5 HoF.out hge hc5 hgd0 HWF.out)
  have b1 := cell_of_row _ _ 1 _ _ _ HBD.out
  simp only [gA_T, gA_0, gA_S] at b1
  clear hcu hgd0
  unfold ptrV
  dsimp only
  go_wp2_with fail
  refine HFR.out.mono ?_
  rintro e w5 ⟨g, rfl, hge, hc5, hu5⟩
  have HAH := hQ' (HAH0.out w5 g hu5 hge hc5)
  have HBX5 := hQ' ((hu5.block w.heap.size (Array.getElem?_eq_some_iff.1 HBD.out).1).trans HBD.out)
  have HAB0 : Hid (∀ x, Ft g (fun _ => Value.slice none 0 0) x → x ≠ w.heap.size) := hQ' (fun x hx e => by
   have := (Array.getElem?_eq_some_iff.1 HBD.out).1
   rcases hx with rfl | ⟨i, hi, e2⟩
   · omega
   · simp [Value.ownBlock] at e2)
  have hms : setMS MS cl (fun _ => Value.slice none 0 0) cl = fun _ => Value.slice none 0 0 := by unfold setMS; rw [if_pos rfl]
  obtain ⟨MS1, hMS⟩ : ∃ x, setMS MS cl (fun _ => Value.slice none 0 0) = x := ⟨_, rfl⟩
  have HAB : Hid (∀ x, Ft g (MS1 cl) x → x ≠ w.heap.size) := hQ' (by rw [← hMS, hms]; exact HAB0.out)
  rw [hMS] at HAH
  clear hMS hms hge hc5 hu5 b1
  have b0 := cell_of_row _ _ 0 _ _ _ HBX5.out
  have b1 := cell_of_row _ _ 1 _ _ _ HBX5.out
  have b2 := cell_of_row _ _ 2 _ _ _ HBX5.out
  simp only [gA_T, gA_0, gA_S] at b0 b1 b2
  have HBG := hQ' (begin_any g g N c _ t k cl v w5 (HAH.out.cs.cell cl g c HAH.out.at' HAH.out.u).1 (HAH.out.cs.cell cl g c HAH.out.at' HAH.out.u).2 hN)
  rw [HE1.out, HE2.out] at HBG
  have HGC := hQ' ((HAH.out.cs.cell cl g c HAH.out.at' HAH.out.u).2.begin t k v)
  rw [HE2.out] at HGC
  have HNB := hQ' (show ∀ x, Ft g (MS1 cl) x → x ≠ w.heap.size from fun x hx e => HAB.out x hx e)
  go_wp2_with fail
  refine HBG.out.mono ?_
  rintro e w6 ⟨rfl, ms', hc6, hf6⟩
  by_cases her : er = 0
  rotate_left
  · have hst := begin_stay c t k v (by rw [HE1.out]; exact her)
    rw [HE2.out] at hst
    rw [hst] at hc6
    have HR := hQ' (HAH.out.fail hf6 hc6 HX.out HXL.out HB.out HSZ.out HG0.out)
    have hne : (er != 0) = true := by rw [bne_iff_ne]; exact her
    have HER := hQ' her
    clear her hst hc6 hf6 b0 b1 b2
    go_wp2_with fail
    go_ret
    rw [begR_err HER.out]
    exact ⟨rfl, HR.out⟩
  · obtain ⟨p0, p1⟩ := begin_in c t k v (by rw [HE1.out]; exact her)
    obtain ⟨tn, rfl⟩ : ∃ tn : Nat, t = tn := ⟨t.toNat, by omega⟩
    have htn : tn < 8 := by omega
    subst her
    rw [begR_ok] at HGD
    rw [Int.toNat_natCast] at HGD
    have hbx6 := (hf6.block w.heap.size (Array.getElem?_eq_some_iff.1 HBX5.out).1 (fun e => HNB.out g (.inl rfl) e.symm) (fun i hi e => HNB.out _ (.inr ⟨i, hi, e⟩) rfl)).trans HBX5.out
    have HBX6 := hQ' hbx6
    have HO6 := hQ' ((HAH.out.o4 hf6).up (Up.refl w6).drew)
    obtain ⟨w7, hrun, ho7, hg7⟩ := HO6.out.store (show sz < maxLen from by unfold maxLen; have := HSZ.out; omega) HWF.out g
    have HDN := hQ' (HAH.out.done (w5 := w6.drew) (w6 := w7) hf6 hc6 HGC.out HX.out HXL.out HB.out HSZ.out htn (Up.refl w6).drew hg7 ho7 HGD.out w7 (Up.refl w7))
    have HO7 := hQ' ho7
    have HDN2 := hQ' (And.intro (HDN.out.1.up (Up.refl _).drew) (Fr.same HDN.out.2 (Fr.ofUp (X := X) (Up.refl _).drew)))
    have hmw : w.heap.size ≠ m := fun e => by have := HO.out.map.isLt; omega
    have HBX7 := hQ' (show w7.heap[w.heap.size]? = _ from (hg7.block w.heap.size (Array.getElem?_eq_some_iff.1 hbx6).1 (fun e => hmw (by injection e))).trans hbx6)
    have hhw : w.heap.size ≠ h := fun e => by have := HO.out.blk.lt; omega
    clear hc6 hf6 ho7 hg7 p0 p1
    have c1 := cell_of_row _ _ 1 _ _ _ HBX6.out
    simp only [gA_T, gA_0, gA_S] at c1
    have hSS : w6.drew.cell? ⟨h, 2, none⟩ = some (.map (some m)) ∧ w6.drew.cell? ⟨w.heap.size, 1, none⟩ = some (.int .i64 cl) := ⟨HO6.out.blk.k2, c1⟩
    clear b0 b1 b2 c1
    go_wp2_with fail
    refine wp_region_held_drew (S := fun w' => w'.cell? ⟨h, 2, none⟩ = some (.map (some m)) ∧ w'.cell? ⟨w.heap.size, 1, none⟩ = some (.int .i64 cl)) (by kernel_rfl) hSS (fun hS0 => ?_)
    clear hSS
    refine tkE 0 ?_ rfl (by kernel_rfl) (fun _ _ _ h => h) hS0 ?_ ?_
    rotate_left
    · intro w hSw
      try dsimp only at hSw
      go_simp
      try (with_reducible rfl)
    try simp only [Act.put, sC_I, sC_0, sC_1]
    refine tkE 1 ?_ rfl (by kernel_rfl) (fun _ _ _ h => h) hS0 ?_ ?_
    rotate_left
    · intro w hSw
      try dsimp only at hSw
      go_simp
      try (with_reducible rfl)
    try simp only [Act.put, sC_I, sC_0, sC_1]
    refine tkE 2 ?_ rfl (by kernel_rfl) (fun _ _ _ h => h) hS0 ?_ ?_
    rotate_left
    · intro w hSw
      try dsimp only at hSw
      go_simp
      try (with_reducible rfl)
    try simp only [Act.put, sC_I, sC_0, sC_1]
    refine tkE 3 ?_ rfl (by kernel_rfl) (fun _ _ _ h => h) hS0 ?_ ?_
    rotate_left
    · intro w hSw
      try dsimp only at hSw
      go_simp
      try (with_reducible rfl)
    try simp only [Act.put, sC_I, sC_0, sC_1]
    refine tkE 4 ?_ rfl (by kernel_rfl) (fun _ _ _ h => h) hS0 ?_ ?_
    rotate_left
    · intro w hSw
      try dsimp only at hSw
      go_simp
      try (with_reducible rfl)
    try simp only [Act.put, sC_I, sC_0, sC_1]
    refine tkE 5 ?_ rfl (by kernel_rfl) (fun _ _ _ h => h) hS0 ?_ ?_
    rotate_left
    · intro w hSw
      try dsimp only at hSw
      go_simp
      try (with_reducible rfl)
    try simp only [Act.put, sC_I, sC_0, sC_1]
    refine tkE 6 ?_ rfl (by kernel_rfl) (fun _ _ _ h => h) hS0 ?_ ?_
    rotate_left
    · intro w hSw
      try dsimp only at hSw
      go_simp
      try (with_reducible rfl)
    try simp only [Act.put, sC_I, sC_0, sC_1]
    refine rdE 7 (by kernel_rfl) rfl fun K hK => ?_
    go_simp
    have c1 := cell_of_row _ _ 1 _ _ _ HBX7.out
    simp only [gA_T, gA_0, gA_S] at c1
    refine hK.out _ _ (And.intro HO7.out.blk.k2 c1) (fun hS1 => ?_)
    clear hK K
    try simp only [Act.put, sC_I, sC_0, sC_1]
    refine wpAnyH_done (by kernel_rfl) ?_ _
    try simp only [Act.put, sC_I, sC_0, sC_1, List.getElem_toArray, List.getElem_cons_succ, List.getElem_cons_zero]
    clear hS0 hS1
    go_wp2_with fail
    have x0 := HO7.out.blk.on tn htn
    have x1 := HO7.out.blk.at' tn htn
    have fz := HO7.out.blk.fz
    have hi8 : (tn : Int) < 8 := by omega
    have hi0 : (0 : Int) ≤ (tn : Int) := by omega
    refine wp_region_held_drew (S := fun w' => w'.cell? ⟨w.heap.size, 1, none⟩ = some (.int .i64 cl)) (by kernel_rfl) c1 (fun hS0 => ?_)
    refine tkE 0 ?_ rfl (by kernel_rfl) (fun _ _ _ h => h) hS0 ?_ ?_
    rotate_left
    · intro w hSw
      try dsimp only at hSw
      go_simp
      try (with_reducible rfl)
    try simp only [Act.put, sC_I, sC_0, sC_1]
    refine tkE 1 ?_ rfl (by kernel_rfl) (fun _ _ _ h => h) hS0 ?_ ?_
    rotate_left
    · intro w hSw
      try dsimp only at hSw
      go_simp
      try (with_reducible rfl)
    try simp only [Act.put, sC_I, sC_0, sC_1]
    refine tkE 2 ?_ rfl (by kernel_rfl) (fun _ _ _ h => h) hS0 ?_ ?_
    rotate_left
    · intro w hSw
      try dsimp only at hSw
      go_simp
      try (with_reducible rfl)
    try simp only [Act.put, sC_I, sC_0, sC_1]
    refine tkE 3 ?_ rfl (by kernel_rfl) (fun _ _ _ h => h) hS0 ?_ ?_
    rotate_left
    · intro w hSw
      try dsimp only at hSw
      go_simp
      try (with_reducible rfl)
    try simp only [Act.put, sC_I, sC_0, sC_1]
    refine tkE 4 ?_ rfl (by kernel_rfl) (fun _ _ _ h => h) hS0 ?_ ?_
    rotate_left
    · intro w hSw
      try dsimp only at hSw
      go_simp
      try (with_reducible rfl)
    try simp only [Act.put, sC_I, sC_0, sC_1]
    refine tkE 5 ?_ rfl (by kernel_rfl) (fun _ _ _ h => h) hS0 ?_ ?_
    rotate_left
    · intro w hSw
      try dsimp only at hSw
      go_simp
      try (with_reducible rfl)
    try simp only [Act.put, sC_I, sC_0, sC_1]
    refine tkE 6 ?_ rfl (by kernel_rfl) (fun _ _ _ h => h) hS0 ?_ ?_
    rotate_left
    · intro w hSw
      try dsimp only at hSw
      go_simp
      try (with_reducible rfl)
    try simp only [Act.put, sC_I, sC_0, sC_1]
    refine tkE 7 ?_ rfl (by kernel_rfl) (fun _ _ _ h => h) hS0 ?_ ?_
    rotate_left
    · intro w hSw
      try dsimp only at hSw
      go_simp
      try (with_reducible rfl)
    try simp only [Act.put, sC_I, sC_0, sC_1]
    refine rdE 8 (by kernel_rfl) rfl fun K hK => ?_
    go_simp
    have c2 := (cellE (w := w7) (o := 1) (st2_other w7 h (3 + tn * 2) (.bool true) (.int .i64 cl) w.heap.size hhw)).trans c1
    unfold st2 at HDN2 c2
    refine hK.out _ _ c2 (fun hS1 => ?_)
    clear hK K
    try simp only [Act.put, sC_I, sC_0, sC_1]
    refine wpAnyH_done (by kernel_rfl) ?_ _
    try simp only [Act.put, sC_I, sC_0, sC_1, List.getElem_toArray, List.getElem_cons_succ, List.getElem_cons_zero]
    clear hS0 hS1 x0 x1 fz
    go_wp2_with fail
    go_ret
    rw [begR_ok, Int.toNat_natCast]
    exact ⟨rfl, (HDN2.out.1.more (Nat.le_refl _) (fun k hk => hk) HDN2.out.1.lt), HDN2.out.2⟩
end Go.Proofs.YtpodgcpkccpnfaaGreat

