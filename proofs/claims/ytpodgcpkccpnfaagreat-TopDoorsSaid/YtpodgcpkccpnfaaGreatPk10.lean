/-
  Parts of a proof, packed: End, EndW, Beg, BegW, New, Good, Keep, BankO
-/
import Derived.Deep.RegionHeld3
import Derived.Test.YtpodgcpkccpnfaaGreatPk01
import Derived.Test.YtpodgcpkccpnfaaGreatPk08
import Derived.Test.YtpodgcpkccpnfaaGreatPk09
set_option linter.unusedVariables false
set_option linter.unusedSimpArgs false
set_option maxRecDepth 20000
set_option maxHeartbeats 16000000
namespace Go.Proofs.YtpodgcpkccpnfaaGreat
open Go.RowKit
def st5 (w : World) (b o : Nat) (v0 v1 v2 v3 v4 : Value) : World := ((((w.setCell ⟨b, o, none⟩ v0).setCell ⟨b, o + 1, none⟩ v1).setCell ⟨b, o + 2, none⟩ v2).setCell ⟨b, o + 3, none⟩ v3).setCell ⟨b, o + 4, none⟩ v4
theorem st5_other (w : World) (b o k : Nat) (v0 v1 v2 v3 v4 : Value) (h : k ≠ b) : (st5 w b o v0 v1 v2 v3 v4).heap[k]? = w.heap[k]? := by
 unfold st5
 rw [Below.heap_setCell _ _ _ _ h, Below.heap_setCell _ _ _ _ h, Below.heap_setCell _ _ _ _ h, Below.heap_setCell _ _ _ _ h, Below.heap_setCell _ _ _ _ h]
theorem st5_size (w : World) (b o : Nat) (v0 v1 v2 v3 v4 : Value) : (st5 w b o v0 v1 v2 v3 v4).heap.size = w.heap.size := by simp [st5]
theorem st5_cell (w : World) (b o j : Nat) (v0 v1 v2 v3 v4 : Value) (h : j < o ∨ o + 4 < j) : (st5 w b o v0 v1 v2 v3 v4).cell? ⟨b, j, none⟩ = w.cell? ⟨b, j, none⟩ := by
 unfold st5
 rw [World.cell?_setCell_other _ _ _ _ (by simp <;> omega), World.cell?_setCell_other _ _ _ _ (by simp <;> omega), World.cell?_setCell_other _ _ _ _ (by simp <;> omega), World.cell?_setCell_other _ _ _ _ (by simp <;> omega), World.cell?_setCell_other _ _ _ _ (by simp <;> omega)]
theorem st5_fz (w : World) (b o j : Nat) (v0 v1 v2 v3 v4 : Value) : (st5 w b o v0 v1 v2 v3 v4).frozen? ⟨b, j, none⟩ = w.frozen? ⟨b, j, none⟩ := by unfold st5; simp [go_sem]
theorem st5_at {w : World} {b o : Nat} {x0 x1 x2 x3 x4 : Value} (v0 v1 v2 v3 v4 : Value) (h0 : w.cell? ⟨b, o, none⟩ = some x0) (h1 : w.cell? ⟨b, o + 1, none⟩ = some x1) (h2 : w.cell? ⟨b, o + 2, none⟩ = some x2) (h3 : w.cell? ⟨b, o + 3, none⟩ = some x3) (h4 : w.cell? ⟨b, o + 4, none⟩ = some x4) :
 (st5 w b o v0 v1 v2 v3 v4).cell? ⟨b, o, none⟩ = some v0 ∧ (st5 w b o v0 v1 v2 v3 v4).cell? ⟨b, o + 1, none⟩ = some v1 ∧ (st5 w b o v0 v1 v2 v3 v4).cell? ⟨b, o + 2, none⟩ = some v2 ∧ (st5 w b o v0 v1 v2 v3 v4).cell? ⟨b, o + 3, none⟩ = some v3 ∧ (st5 w b o v0 v1 v2 v3 v4).cell? ⟨b, o + 4, none⟩ = some v4 := by
 have oth : ∀ (W : World) (i j : Nat) (y : Value), j ≠ i → (W.setCell ⟨b, i, none⟩ y).cell? ⟨b, j, none⟩ = W.cell? ⟨b, j, none⟩ := fun W i j y hne => World.cell?_setCell_other _ _ _ _ (by simp <;> omega)
 unfold st5
 refine ⟨?_, ?_, ?_, ?_, ?_⟩
 · rw [oth _ _ _ _ (by omega), oth _ _ _ _ (by omega), oth _ _ _ _ (by omega), oth _ _ _ _ (by omega)]
   exact World.cell?_setCell_same _ _ _ h0
 · rw [oth _ _ _ _ (by omega), oth _ _ _ _ (by omega), oth _ _ _ _ (by omega)]
   exact World.cell?_setCell_same _ _ _ ((oth _ _ _ _ (by omega)).trans h1)
 · rw [oth _ _ _ _ (by omega), oth _ _ _ _ (by omega)]
   exact World.cell?_setCell_same _ _ _ ((oth _ _ _ _ (by omega)).trans ((oth _ _ _ _ (by omega)).trans h2))
 · rw [oth _ _ _ _ (by omega)]
   exact World.cell?_setCell_same _ _ _ ((oth _ _ _ _ (by omega)).trans ((oth _ _ _ _ (by omega)).trans ((oth _ _ _ _ (by omega)).trans h3)))
 · exact World.cell?_setCell_same _ _ _ ((oth _ _ _ _ (by omega)).trans ((oth _ _ _ _ (by omega)).trans ((oth _ _ _ _ (by omega)).trans ((oth _ _ _ _ (by omega)).trans h4))))
def setM (ms : Nat → Value) (t : Nat) (m : Value) : Nat → Value := fun i => if i = t then m else ms i
theorem CellIs.store {w : World} {h B : Nat} {c : CS} {ms : Nat → Value} (H : CellIs w h B c ms) (t : Nat) (ht : t < 8) (a : Acc8) (m : Value) (hm : MayIs w B m a.may) (hap : m.ownBlock ≠ some h)
 (htwo : ∀ j, j < 8 → j ≠ t → ∀ k, m.ownBlock = some k → (ms j).ownBlock ≠ some k) :
 CellIs (st5 w h (3 + t * 5) (.bool a.on) (.bool a.wr) (.int .i64 a.val) (.bool a.ov) m) h B (c.put t a) (setM ms t m) := by
 obtain ⟨x0, x1, x2, x3, x4⟩ := H.acc t ht
 have hk : ∀ k, k ≠ h → (st5 w h (3 + t * 5) (.bool a.on) (.bool a.wr) (.int .i64 a.val) (.bool a.ov) m).heap[k]? = w.heap[k]? := fun k hne => st5_other _ _ _ _ _ _ _ _ _ hne
 refine ⟨by rw [st5_size]; exact H.sz, (st5_cell _ _ _ _ _ _ _ _ _ (by omega)).trans H.k0, (st5_cell _ _ _ _ _ _ _ _ _ (by omega)).trans H.k1, (st5_cell _ _ _ _ _ _ _ _ _ (by omega)).trans H.k2, fun i hi => ?_, fun j => (st5_fz _ _ _ _ _ _ _ _ _).trans (H.fz j), fun i hi => ?_, fun i hi => ?_, fun i j hi hj hij k hik => ?_⟩
 · by_cases e : i = t
   · subst e
     have := st5_at (.bool a.on) (.bool a.wr) (.int .i64 a.val) (.bool a.ov) m x0 x1 x2 x3 x4
     simp only [CS.put, setM, if_pos]
     exact this
   · obtain ⟨y0, y1, y2, y3, y4⟩ := H.acc i hi
     simp only [CS.put, setM, if_neg e]
     have far : i * 5 + 5 ≤ t * 5 ∨ t * 5 + 5 ≤ i * 5 := by omega
     exact ⟨(st5_cell _ _ _ _ _ _ _ _ _ (by omega)).trans y0, (st5_cell _ _ _ _ _ _ _ _ _ (by omega)).trans y1, (st5_cell _ _ _ _ _ _ _ _ _ (by omega)).trans y2, (st5_cell _ _ _ _ _ _ _ _ _ (by omega)).trans y3, (st5_cell _ _ _ _ _ _ _ _ _ (by omega)).trans y4⟩
 · by_cases e : i = t
   · subst e
     simp only [CS.put, setM, if_pos]
     exact hm.same (by rw [st5_size]; exact Nat.le_refl _) fun k hkk => hk k (fun e => hap (by rw [hkk, e]))
   · simp only [CS.put, setM, if_neg e]
     exact (H.own i hi).same (by rw [st5_size]; exact Nat.le_refl _) fun k hkk => hk k (fun e => H.apart i hi (by rw [hkk, e]))
 · unfold setM
   split
   · exact hap
   · exact H.apart i hi
 · unfold setM at hik ⊢
   split at hik
   · rw [if_neg (by omega)]
     exact htwo j hj (by omega) k hik
   · rename_i hit
     split
     · intro e2
       exact htwo i hi hit k e2 hik
     · exact H.two i j hi hj hij k hik
theorem CellIs.val {w : World} {h B : Nat} {c : CS} {ms : Nat → Value} (H : CellIs w h B c ms) (v : Int) : CellIs (w.setCell ⟨h, 2, none⟩ (.int .i64 v)) h B { c with value := v } ms := by
 have hk : ∀ k, k ≠ h → (w.setCell ⟨h, 2, none⟩ (.int .i64 v)).heap[k]? = w.heap[k]? := fun k hne => Below.heap_setCell w ⟨h, 2, none⟩ _ k hne
 have oth : ∀ j, j ≠ 2 → (w.setCell ⟨h, 2, none⟩ (.int .i64 v)).cell? ⟨h, j, none⟩ = w.cell? ⟨h, j, none⟩ := fun j hne => World.cell?_setCell_other _ _ _ _ (by simp <;> omega)
 refine ⟨by simpa using H.sz, (oth _ (by omega)).trans H.k0, (oth _ (by omega)).trans H.k1, World.cell?_setCell_same _ _ _ H.k2, fun i hi => ?_, fun j => by simpa [go_sem] using H.fz j, fun i hi => (H.own i hi).same (by simp) fun k hkk => hk k (fun e => H.apart i hi (by rw [hkk, e])), H.apart, H.two⟩
 obtain ⟨y0, y1, y2, y3, y4⟩ := H.acc i hi
 exact ⟨(oth _ (by omega)).trans y0, (oth _ (by omega)).trans y1, (oth _ (by omega)).trans y2, (oth _ (by omega)).trans y3, (oth _ (by omega)).trans y4⟩
theorem CellIs.up {w w' : World} {h B : Nat} {c : CS} {ms : Nat → Value} (H : CellIs w h B c ms) (u : Up w w') : CellIs w' h B c ms := by
 have hh := u.block h H.lt
 have cc : ∀ j, w'.cell? ⟨h, j, none⟩ = w.cell? ⟨h, j, none⟩ := fun j => cellE hh
 refine ⟨Nat.le_trans H.sz u.size, (cc _).trans H.k0, (cc _).trans H.k1, (cc _).trans H.k2, fun i hi => ?_, fun j => (frozenE hh).trans (H.fz j), fun i hi => (H.own i hi).same u.size fun k hkk => u.block k ((H.own i hi).ge k hkk).2, H.apart, H.two⟩
 obtain ⟨y0, y1, y2, y3, y4⟩ := H.acc i hi
 exact ⟨(cc _).trans y0, (cc _).trans y1, (cc _).trans y2, (cc _).trans y3, (cc _).trans y4⟩
end Go.Proofs.YtpodgcpkccpnfaaGreat

namespace Go.Proofs.YtpodgcpkccpnfaaGreat
open Go.RowKit
theorem wrapI_in (d top : Int) (h : 0 ≤ top ∧ top ≤ 1099511627776 := by omega) : 0 ≤ wrapI d top ∧ wrapI d top ≤ top := by
 have e : clampI top 0 1099511627776 = top := by unfold clampI; rw [if_neg (by omega), if_neg (by omega)]
 unfold wrapI
 rw [e]
 have h1 := Int.emod_nonneg d (show top + 1 ≠ 0 by omega)
 have h2 := Int.emod_lt_of_pos d (show 0 < top + 1 by omega)
 omega
structure CFrame (w w' : World) (h : Nat) (ms ms' : Nat → Value) : Prop where
 os : w'.os = w.os
 tape : w'.tape = w.tape
 output : w'.output = w.output
 size : w.heap.size ≤ w'.heap.size
 block : ∀ k, k < w.heap.size → k ≠ h → (∀ i, i < 8 → (ms i).ownBlock ≠ some k) → w'.heap[k]? = w.heap[k]?
 new : ∀ i, i < 8 → ∀ k, (ms' i).ownBlock = some k → (∃ j, j < 8 ∧ (ms j).ownBlock = some k) ∨ w.heap.size ≤ k
theorem CFrame.refl (w : World) (h : Nat) (ms : Nat → Value) : CFrame w w h ms ms := ⟨rfl, rfl, rfl, Nat.le_refl _, fun _ _ _ _ => rfl, fun i hi k hk => .inl ⟨i, hi, hk⟩⟩
theorem CFrame.ofUp {w w' : World} {h : Nat} {ms : Nat → Value} (u : Up w w') : CFrame w w' h ms ms := ⟨u.os, u.tape, u.output, u.size, fun k hk _ _ => u.block k hk, fun i hi k hk => .inl ⟨i, hi, hk⟩⟩
theorem st5_below (w : World) (b o N : Nat) (v0 v1 v2 v3 v4 : Value) (h : N ≤ b) : Below N w (st5 w b o v0 v1 v2 v3 v4) :=
 (((((Below.refl N w).setCell (p := ⟨b, o, none⟩) h _).setCell (p := ⟨b, o + 1, none⟩) h _).setCell (p := ⟨b, o + 2, none⟩) h _).setCell (p := ⟨b, o + 3, none⟩) h _).setCell (p := ⟨b, o + 4, none⟩) h _
theorem CFrame.up {w w1 w2 : World} {h : Nat} {ms ms' : Nat → Value} (f : CFrame w w1 h ms ms') (u : Up w1 w2) : CFrame w w2 h ms ms' :=
 ⟨u.os.trans f.os, u.tape.trans f.tape, u.output.trans f.output, Nat.le_trans f.size u.size, fun k hk hne hi => (u.block k (Nat.lt_of_lt_of_le hk f.size)).trans (f.block k hk hne hi), f.new⟩
structure CGood (c : CS) (N : Nat) : Prop where
 pos : ∀ i, i < 8 → (c.bys i).on = true → (c.bys i).wr = false → c.kind = 2 → 0 < (c.bys i).may.length
 few : ∀ i, i < 8 → (c.bys i).may.length ≤ N
theorem end_any (h B N : Nat) (c : CS) (ms : Nat → Value) (t d : Int) (w : World) (H : CellIs w h B c ms) (hg : CGood c N) (hN : N ≤ 100000) :
 Calls Tryz.prog 81 #[.pointer (some ⟨h, 0, none⟩), .int .i64 t, .int .i64 d] w fun e w' => e = .returned (.tuple #[.int .i64 (c.endA t d).1, .int .i64 (c.endA t d).2.1]) ∧ ∃ ms', CellIs w' h B (c.endA t d).2.2 ms' ∧ CFrame w w' h ms ms' := by
 have HH := hQ' H
 by_cases h1 : t < 0
 · have e0 : c.endA t d = (0, 7, c) := by unfold CS.endA; rw [if_pos (.inl h1)]
   rw [e0]
   go_enter Tryz.func81, Tryz.ntmps81
   go_wp2_with fail
   go_ret2
   exact ⟨rfl, ms, HH.out, CFrame.refl _ _ _⟩
 by_cases h2 : 8 ≤ t
 · have e0 : c.endA t d = (0, 7, c) := by unfold CS.endA; rw [if_pos (.inr h2)]
   rw [e0]
   go_enter Tryz.func81, Tryz.ntmps81
   go_wp2_with fail
   go_ret2
   exact ⟨rfl, ms, HH.out, CFrame.refl _ _ _⟩
 obtain ⟨tn, rfl⟩ : ∃ tn : Nat, t = tn := ⟨t.toNat, by omega⟩
 have htn : tn < 8 := by omega
 obtain ⟨x0, x1, x2, x3, x4⟩ := H.acc tn htn
 have hi1 : ¬ (8 : Int) ≤ tn := h2
 have ht0 : (0 : Int) ≤ tn := by omega
 have ht8 : (tn : Int) < 8 := by omega
 cases hon : (c.bys tn).on
 · have e0 : c.endA tn d = (0, 7, c) := by unfold CS.endA; rw [if_neg (by omega), Int.toNat_natCast, if_pos hon]
   rw [e0]
   rw [hon] at x0
   clear H hon x1 x2 x3 x4 e0
   go_enter Tryz.func81, Tryz.ntmps81
   go_wp2_with fail
   go_ret2
   exact ⟨rfl, ms, HH.out, CFrame.refl _ _ _⟩
 obtain ⟨Am, cm, hmv, hcm⟩ := (H.own tn htn).form
 rw [hmv] at x4
 obtain ⟨nm, hnm⟩ : ∃ x, (c.bys tn).may.length = x := ⟨_, rfl⟩
 rw [hnm] at x4 hmv hcm
 have HMV := hQ' hmv
 have HNM := hQ' hnm
 clear hmv hnm
 have k0 := H.k0
 have k1 := H.k1
 have k2 := H.k2
 have fz := H.fz
 have hlt := H.lt
 have HST := hQ' (H.store tn htn acc0 (.slice none 0 0) (.inl ⟨rfl, .inl ⟨rfl, rfl⟩⟩) (by simp [Value.ownBlock]) (by simp [Value.ownBlock]))
 have HFR := hQ' (show ∀ w', (∀ k, k ≠ h → w'.heap[k]? = w.heap[k]?) → Below 0 w w' → CFrame w w' h ms (setM ms tn (.slice none 0 0)) from
  fun w' hk hb => ⟨hb.os, hb.tape, hb.output, hb.size, fun k _ hne _ => hk k hne, fun i hi k hik => by
   unfold setM at hik
   split at hik
   · simp [Value.ownBlock] at hik
   · exact .inl ⟨i, hi, hik⟩⟩)
 have HFU := hQ' (show ∀ (w1 w2 : World) (ms' : Nat → Value), CFrame w w1 h ms ms' → Up w1 w2 → CFrame w w2 h ms ms' from fun w1 w2 ms' f u => f.up u)
 rw [hon] at x0
 cases hwr : (c.bys tn).wr
 rotate_left
 · rw [hwr] at x1
   have e0 : c.endA tn d = (0, 0, { c.put tn acc0 with value := (c.bys tn).val }) := by unfold CS.endA; rw [if_neg (by omega), Int.toNat_natCast, if_neg (by simp [hon]), if_pos hwr]
   rw [e0]
   have HP := hQ' (show ∀ o, ∃ ms', CellIs (((st5 w h (3 + tn * 5) (.bool false) (.bool false) (.int .i64 0) (.bool false) (.slice none 0 0)).setCell ⟨h, 2, none⟩ (.int .i64 (c.bys tn).val)).alloc o) h B { c.put tn acc0 with value := (c.bys tn).val } ms' ∧ CFrame w (((st5 w h (3 + tn * 5) (.bool false) (.bool false) (.int .i64 0) (.bool false) (.slice none 0 0)).setCell ⟨h, 2, none⟩ (.int .i64 (c.bys tn).val)).alloc o) h ms ms' from fun o =>
    ⟨setM ms tn (.slice none 0 0), (HST.out.val _).up ((Up.refl _).alloc o), HFU.out _ _ _ (HFR.out _ (fun k hne => (Below.heap_setCell (st5 w h (3 + tn * 5) (.bool false) (.bool false) (.int .i64 0) (.bool false) (.slice none 0 0)) ⟨h, 2, none⟩ _ k hne).trans (st5_other _ _ _ _ _ _ _ _ _ hne)) ((st5_below w h (3 + tn * 5) 0 _ _ _ _ _ (Nat.zero_le _)).setCell (p := ⟨h, 2, none⟩) (Nat.zero_le _) _)) ((Up.refl _).alloc o)⟩)
   clear H hon hwr e0
   go_enter Tryz.func81, Tryz.ntmps81
   go_wp2_with fail
   go_ret2
   exact ⟨rfl, HP.out _⟩
 rw [hwr] at x1
 have e0 : c.endA tn d = (tellC c (c.bys tn) d, 0, c.put tn acc0) := by unfold CS.endA; rw [if_neg (by omega), Int.toNat_natCast, if_neg (by simp [hon]), if_neg (by simp [hwr])]
 rw [e0]
 have HP := hQ' (show ∀ o, ∃ ms', CellIs ((st5 w h (3 + tn * 5) (.bool false) (.bool false) (.int .i64 0) (.bool false) (.slice none 0 0)).alloc o) h B (c.put tn acc0) ms' ∧ CFrame w ((st5 w h (3 + tn * 5) (.bool false) (.bool false) (.int .i64 0) (.bool false) (.slice none 0 0)).alloc o) h ms ms' from fun o =>
  ⟨setM ms tn (.slice none 0 0), HST.out.up ((Up.refl _).alloc o), HFU.out _ _ _ (HFR.out _ (fun k hne => st5_other _ _ _ _ _ _ _ _ _ hne) (st5_below w h (3 + tn * 5) 0 _ _ _ _ _ (Nat.zero_le _))) ((Up.refl _).alloc o)⟩)
 obtain ⟨ov, hov⟩ : ∃ x, (c.bys tn).ov = x := ⟨_, rfl⟩
 rw [hov] at x3
 obtain ⟨kd, hkd⟩ : ∃ x, c.kind = x := ⟨_, rfl⟩
 rw [hkd] at k0
 have HTE := hQ' (show tellC c (c.bys tn) d = if kd = 1 ∧ ov = true then wrapI d c.top else if kd = 2 then (c.bys tn).may.getD (wrapI d ((nm : Int) - 1)).toNat 0 else c.value from by unfold tellC; rw [hkd, hov, HNM.out])
 have HWR := hQ' (fun n top W => nwrap_any n top W)
 have HGP := hQ' (show kd = 2 → 0 < nm from fun e => by have := hg.pos tn htn hon hwr (by rw [hkd, e]); rw [HNM.out] at this; exact this)
 have HMA := hQ' (show MayIs w B (.slice Am nm cm) (c.bys tn).may from by rw [← HMV.out]; exact H.own tn htn)
 have HAP := hQ' (show (Value.slice Am nm cm).ownBlock ≠ some h from by rw [← HMV.out]; exact H.apart tn htn)
 clear H hon hwr e0 hov hkd
 by_cases hk1 : kd = 1
 · subst hk1
   cases ov
   · have HT2 := hQ' (HTE.out.trans (by rw [if_neg (by simp), if_neg (by decide)]))
     go_enter Tryz.func81, Tryz.ntmps81
     go_wp2_with fail
     go_ret2
     exact ⟨by rw [HT2.out]; rfl, HP.out _⟩
   · have HT2 := hQ' (HTE.out.trans (by rw [if_pos ⟨rfl, rfl⟩]))
     go_enter Tryz.func81, Tryz.ntmps81
     go_wp2_with fail
     refine (HWR.out _ _ _).mono ?_
     rintro e w1 ⟨rfl, rfl⟩
     go_wp2_with fail
     go_ret2
     exact ⟨by rw [HT2.out]; rfl, HP.out _⟩
 by_cases hk2 : kd = 2
 rotate_left
 · have HT2 := hQ' (HTE.out.trans (by rw [if_neg (fun e => hk1 e.1), if_neg hk2]))
   have q1 : (kd == 1) = false := by rw [beq_eq_false_iff_ne]; exact hk1
   have q2 : (kd == 2) = false := by rw [beq_eq_false_iff_ne]; exact hk2
   go_enter Tryz.func81, Tryz.ntmps81
   go_wp2_with fail
   go_ret2
   exact ⟨by rw [HT2.out]; rfl, HP.out _⟩
 subst hk2
 have hpos := HGP.out rfl
 have hfew : nm ≤ 100000 := by have := hg.few tn htn; rw [HNM.out] at this; omega
 have hw := wrapI_in d ((nm : Int) - 1) (by omega)
 obtain ⟨ix, hix⟩ : ∃ i : Nat, wrapI d ((nm : Int) - 1) = i := ⟨(wrapI d ((nm : Int) - 1)).toNat, by omega⟩
 rw [hix] at hw
 have HT2 := hQ' (HTE.out.trans (by rw [if_neg (by simp), if_pos rfl, hix, Int.toNat_natCast]))
 obtain ⟨x, hx⟩ : ∃ x, (c.bys tn).may.getD ix 0 = x := ⟨_, rfl⟩
 rw [hx] at HT2
 obtain ⟨g, hAm, hgs, hrow⟩ : ∃ g, Am = some ⟨g, 0, none⟩ ∧ g < w.heap.size ∧ ∀ j u, (icells (c.bys tn).may)[j]? = some u → w.cell? ⟨g, j, none⟩ = some u := by
  rcases HMA.out with h1 | ⟨g, h1, h2, h3, h4⟩
  · rcases h1.2 with ⟨_, hn⟩ | ⟨g, cap, cur, hv, hb, hh, h5, _⟩
    · rw [HNM.out] at hn; omega
    · simp only [Value.slice.injEq] at hv
      refine ⟨g, hv.1, (Array.getElem?_eq_some_iff.1 hh).1, fun j u hu => ?_⟩
      have := h1.cells (g := g) (by rw [hv.1]; rfl) j u hu
      rw [Go.WideShapes.add_plain, Nat.zero_add] at this
      exact this
  · simp only [Value.slice.injEq] at h1
    exact ⟨g, h1.1, h3, h4⟩
 subst hAm
 have hgh : g ≠ h := fun e => HAP.out (by rw [e]; rfl)
 have hxc : w.cell? ⟨g, ix, none⟩ = some (.int .i64 x) := hrow ix _ (by unfold icells; rw [List.getElem?_map, List.getElem?_eq_getElem (by rw [HNM.out]; omega)]; rw [← hx, getD_lt (by rw [HNM.out]; omega)]; rfl)
 have hU : Up (st5 w h (3 + tn * 5) (.bool false) (.bool false) (.int .i64 0) (.bool false) (.slice none 0 0)) ((st5 w h (3 + tn * 5) (.bool false) (.bool false) (.int .i64 0) (.bool false) (.slice none 0 0)).alloc (.cells #[.bool true, .bool false, .int .i64 (c.bys tn).val, .bool ov, .slice (some ⟨g, 0, none⟩) nm cm] 191)) := (Up.refl _).alloc _
 have hsz : (st5 w h (3 + tn * 5) (.bool false) (.bool false) (.int .i64 0) (.bool false) (.slice none 0 0)).heap.size = w.heap.size := st5_size _ _ _ _ _ _ _ _
 have hbx := heap_alloc_new (st5 w h (3 + tn * 5) (.bool false) (.bool false) (.int .i64 0) (.bool false) (.slice none 0 0)) (.cells #[.bool true, .bool false, .int .i64 (c.bys tn).val, .bool ov, .slice (some ⟨g, 0, none⟩) nm cm] 191)
 rw [hsz] at hbx
 have S0 : ((st5 w h (3 + tn * 5) (.bool false) (.bool false) (.int .i64 0) (.bool false) (.slice none 0 0)).alloc (.cells #[.bool true, .bool false, .int .i64 (c.bys tn).val, .bool ov, .slice (some ⟨g, 0, none⟩) nm cm] 191)).cell? ⟨w.heap.size, 4, none⟩ = some (.slice (some ⟨g, 0, none⟩) nm cm) ∧ ((st5 w h (3 + tn * 5) (.bool false) (.bool false) (.int .i64 0) (.bool false) (.slice none 0 0)).alloc (.cells #[.bool true, .bool false, .int .i64 (c.bys tn).val, .bool ov, .slice (some ⟨g, 0, none⟩) nm cm] 191)).cell? ⟨g, ix, none⟩ = some (.int .i64 x) := ⟨cell_of_row _ _ 4 _ _ _ hbx, (cellE ((hU.block g (by rw [hsz]; exact hgs)).trans (st5_other _ _ _ _ _ _ _ _ _ hgh))).trans hxc⟩
 have HS0 := hQ' S0
 have HC2 := hQ' (show ∀ W, Calls Tryz.prog 109 #[.int .i64 d, .int .i64 ((nm : Int) - 1)] W fun e w' => e = .returned (.int .i64 (ix : Int)) ∧ w' = W from fun W => by have := HWR.out d ((nm : Int) - 1) W; rw [hix] at this; exact this)
 have hxi : (ix : Int) < nm := by omega
 have hx0 : (0 : Int) ≤ ix := by omega
 have hw1 : IntKind.i64.wrap ((nm : Int) - 1) = (nm : Int) - 1 := by simp [IntKind.wrap, IntKind.bits, IntKind.signed]; omega
 have hw2 : wrap64 ((nm : Int) - 1) = (nm : Int) - 1 := IntWalk.wrap64_in _ (by omega)
 obtain ⟨W, hW⟩ : ∃ x, (st5 w h (3 + tn * 5) (.bool false) (.bool false) (.int .i64 0) (.bool false) (.slice none 0 0)).alloc (.cells #[.bool true, .bool false, .int .i64 (c.bys tn).val, .bool ov, .slice (some ⟨g, 0, none⟩) nm cm] 191) = x := ⟨_, rfl⟩
 have HPW := hQ' (show ∃ ms', CellIs W h B (c.put tn acc0) ms' ∧ CFrame w W h ms ms' from by rw [← hW]; exact HP.out _)
 rw [hW] at HS0
 unfold st5 at hW
 have HW := hQ' hW
 clear S0 hrow hx hxc hU hsz hbx hix hw hpos HTE HMA HGP HWR HP HST HFR HFU HH hW
 go_enter Tryz.func81, Tryz.ntmps81
 go_wp2_with fail
 rw [HW.out]
 clear x0 x1 x2 x3 x4 k0 k1 k2 fz
 refine wp_region_held_drew (S := fun w' => w'.cell? ⟨w.heap.size, 4, none⟩ = some (.slice (some ⟨g, 0, none⟩) nm cm) ∧ w'.cell? ⟨g, ix, none⟩ = some (.int .i64 x)) (by kernel_rfl) HS0.out (fun hH0 => ?_)
 refine tkE 0 ?_ rfl (by kernel_rfl) (fun _ _ _ h => h) hH0 ?_ ?_
 rotate_left
 · intro w hSw
   try dsimp only at hSw
   go_simp
   try (with_reducible rfl)
 try simp only [Act.put, sC_I, sC_0, sC_1]
 refine tkE 1 ?_ rfl (by kernel_rfl) (fun _ _ _ h => h) hH0 ?_ ?_
 rotate_left
 · intro w hSw
   try dsimp only at hSw
   go_simp
   try (with_reducible rfl)
 try simp only [Act.put, sC_I, sC_0, sC_1]
 refine tkE 2 ?_ rfl (by kernel_rfl) (fun _ _ _ h => h) hH0 ?_ ?_
 rotate_left
 · intro w hSw
   try dsimp only at hSw
   go_simp
   try (with_reducible rfl)
 try simp only [Act.put, sC_I, sC_0, sC_1]
 refine tkE 3 ?_ rfl (by kernel_rfl) (fun _ _ _ h => h) hH0 ?_ ?_
 rotate_left
 · intro w hSw
   try dsimp only at hSw
   go_simp
   try (with_reducible rfl)
 try simp only [Act.put, sC_I, sC_0, sC_1]
 refine tkE 4 ?_ rfl (by kernel_rfl) (fun _ _ _ h => h) hH0 ?_ ?_
 rotate_left
 · intro w hSw
   try dsimp only at hSw
   go_simp
   try (with_reducible rfl)
 try simp only [Act.put, sC_I, sC_0, sC_1]
 refine tkE 5 ?_ rfl (by kernel_rfl) (fun _ _ _ h => h) hH0 ?_ ?_
 rotate_left
 · intro w hSw
   try dsimp only at hSw
   go_simp
   try (with_reducible rfl)
 try simp only [Act.put, sC_I, sC_0, sC_1]
 refine tkE 6 ?_ rfl (by kernel_rfl) (fun _ _ _ h => h) hH0 ?_ ?_
 rotate_left
 · intro w hSw
   try dsimp only at hSw
   go_simp
   try (with_reducible rfl)
 try simp only [Act.put, sC_I, sC_0, sC_1]
 refine rdE 7 (by kernel_rfl) rfl fun K hK => ?_
 go_simp
 try rw [hw1]
 refine (HC2.out _).mono ?_
 rintro e w1 ⟨rfl, rfl⟩
 refine hK.out _ _ hH0 (fun hH1 => ?_)
 clear hK K
 try simp only [Act.put, sC_I, sC_0, sC_1]
 refine tkE 8 ?_ rfl (by kernel_rfl) (fun _ _ _ h => h) hH1 ?_ ?_
 rotate_left
 · intro w hSw
   try dsimp only at hSw
   go_simp
   try (with_reducible rfl)
 try simp only [Act.put, sC_I, sC_0, sC_1]
 refine tkE 9 ?_ rfl (by kernel_rfl) (fun _ _ _ h => h) hH1 ?_ ?_
 rotate_left
 · intro w hSw
   try dsimp only at hSw
   go_simp
   try (with_reducible rfl)
 try simp only [Act.put, sC_I, sC_0, sC_1]
 refine tkE 10 ?_ rfl (by kernel_rfl) (fun _ _ _ h => h) hH1 ?_ ?_
 rotate_left
 · intro w hSw
   try dsimp only at hSw
   go_simp
   try (with_reducible rfl)
 try simp only [Act.put, sC_I, sC_0, sC_1]
 refine tkE 11 ?_ rfl (by kernel_rfl) (fun _ _ _ h => h) hH1 ?_ ?_
 rotate_left
 · intro w hSw
   try dsimp only at hSw
   go_simp
   try (with_reducible rfl)
 try simp only [Act.put, sC_I, sC_0, sC_1]
 refine wpAnyH_done (by kernel_rfl) ?_ _
 simp only [Act.put, sC_I, sC_0, sC_1, List.getElem_toArray, List.getElem_cons_succ, List.getElem_cons_zero]
 go_wp2_with fail
 go_ret2
 obtain ⟨ms', p1, p2⟩ := HPW.out
 exact ⟨by rw [HT2.out]; rfl, ms', p1.up (Up.refl _).drew, p2.up (Up.refl _).drew⟩
end Go.Proofs.YtpodgcpkccpnfaaGreat

namespace Go.Proofs.YtpodgcpkccpnfaaGreat
open Go.RowKit
theorem CellIs.over {w w' : World} {h B : Nat} {c : CS} {ms : Nat → Value} (H : CellIs w h B c ms) (i : Nat) (hi : i < 8) (v : Int) (m' : Value) (hp : OvPost w w' h (3 + i * 5) (ms i) m') (hm : MayIs w' B m' (if c.kind = 2 then (c.bys i).may ++ [v] else (c.bys i).may)) :
 CellIs w' h B (c.put i (ovl c.kind v (c.bys i))) (setM ms i m') ∧ CFrame w w' h ms (setM ms i m') := by
 obtain ⟨x0, x1, x2, x3, x4⟩ := H.acc i hi
 have hlt := H.lt
 have hge := fun j hj => (H.own j hj).ge
 have hob : ∀ b, b < w.heap.size → (ms i).ownBlock ≠ some b → m'.ownBlock ≠ some b := fun b hb hne => by
  rcases hp.ob with h1 | h1
  · rw [h1]; exact hne
  · intro e; have := h1 b e; omega
 refine ⟨⟨Nat.le_trans H.sz hp.size, (hp.oth 0 (by omega) (by omega)).trans H.k0, (hp.oth 1 (by omega) (by omega)).trans H.k1, (hp.oth 2 (by omega) (by omega)).trans H.k2, fun j hj => ?_, fun j => (hp.fz j).trans (H.fz j), fun j hj => ?_, fun j hj => ?_, fun a b ha hb hab k hk => ?_⟩, ⟨hp.os, hp.tape, hp.output, hp.size, fun k hk hne hall => hp.block k hk hne (hall i hi), fun j hj k hk => ?_⟩⟩
 · by_cases e : j = i
   · subst e
     simp only [CS.put, setM, if_pos]
     exact ⟨(hp.oth _ (by omega) (by omega)).trans x0, (hp.oth _ (by omega) (by omega)).trans x1, (hp.oth _ (by omega) (by omega)).trans x2, hp.c3, hp.c4⟩
   · obtain ⟨y0, y1, y2, y3, y4⟩ := H.acc j hj
     simp only [CS.put, setM, if_neg e]
     have far : j * 5 + 5 ≤ i * 5 ∨ i * 5 + 5 ≤ j * 5 := by omega
     exact ⟨(hp.oth _ (by omega) (by omega)).trans y0, (hp.oth _ (by omega) (by omega)).trans y1, (hp.oth _ (by omega) (by omega)).trans y2, (hp.oth _ (by omega) (by omega)).trans y3, (hp.oth _ (by omega) (by omega)).trans y4⟩
 · by_cases e : j = i
   · subst e
     simp only [CS.put, setM, if_pos, ovl]
     exact hm
   · simp only [CS.put, setM, if_neg e]
     exact (H.own j hj).same hp.size fun k hkk => hp.block k (hge j hj k hkk).2 (fun e2 => H.apart j hj (by rw [hkk, e2])) (fun e2 => H.two j i hj hi e k hkk e2)
 · unfold setM
   split
   · exact hob h hlt (H.apart i hi)
   · exact H.apart j hj
 · unfold setM at hk ⊢
   split at hk
   · rename_i hai
     subst hai
     rw [if_neg (fun e => hab e.symm)]
     rcases hp.ob with h1 | h1
     · rw [h1] at hk
       exact H.two a b ha hb hab k hk
     · intro e2
       have := h1 k hk
       have := hge b hb k e2
       omega
   · rename_i hai
     split
     · rename_i hbi
       subst hbi
       intro e2
       rcases hp.ob with h1 | h1
       · rw [h1] at e2
         exact H.two b a hb ha (fun e => hab e.symm) k e2 hk
       · have := h1 k e2
         have := hge a ha k hk
         omega
     · exact H.two a b ha hb hab k hk
 · unfold setM at hk
   split at hk
   · rcases hp.ob with h1 | h1
     · exact .inl ⟨i, hi, by rw [← h1]; exact hk⟩
     · exact .inr (h1 k hk)
   · exact .inl ⟨j, hj, hk⟩
theorem CFrame.trans {a b c : World} {h : Nat} {m0 m1 m2 : Nat → Value} (f : CFrame a b h m0 m1) (g : CFrame b c h m1 m2) : CFrame a c h m0 m2 := by
 refine ⟨g.os.trans f.os, g.tape.trans f.tape, g.output.trans f.output, Nat.le_trans f.size g.size, fun k hk hne hall => ?_, fun i hi k hk => ?_⟩
 · refine (g.block k (Nat.lt_of_lt_of_le hk f.size) hne fun i hi e => ?_).trans (f.block k hk hne hall)
   rcases f.new i hi k e with ⟨j, hj, h2⟩ | h2
   · exact hall j hj h2
   · omega
 · rcases g.new i hi k hk with ⟨j, hj, h2⟩ | h2
   · exact f.new j hj k h2
   · exact .inr (Nat.le_trans f.size h2)
theorem wrN_kind (c : CS) (v : Int) : ∀ n, (wrN c v n).kind = c.kind ∧ (wrN c v n).top = c.top ∧ (wrN c v n).value = c.value
 | 0 => ⟨rfl, rfl, rfl⟩
 | n + 1 => by
  have := wrN_kind c v n
  unfold wrN
  split
  · exact this
  · exact this
theorem wrN_bys (c : CS) (v : Int) : ∀ n i, (wrN c v n).bys i = if i < n ∧ (c.bys i).on = true ∧ (c.bys i).wr = false then ovl c.kind v (c.bys i) else c.bys i
 | 0, i => by rw [if_neg (by omega)]; rfl
 | n + 1, i => by
  have hn := wrN_bys c v n n
  rw [if_neg (by omega)] at hn
  have hi := wrN_bys c v n i
  have hk := (wrN_kind c v n).1
  unfold wrN
  rw [hn]
  by_cases hc : (c.bys n).on = true ∧ (c.bys n).wr = false
  · rw [if_pos hc]
    unfold CS.put
    by_cases e : i = n
    · subst e
      simp only [if_pos]
      rw [if_pos ⟨by omega, hc⟩]
    · simp only [if_neg e]
      rw [hi]
      by_cases h2 : i < n ∧ (c.bys i).on = true ∧ (c.bys i).wr = false
      · rw [if_pos h2, if_pos ⟨by omega, h2.2⟩]
      · rw [if_neg h2, if_neg (fun h3 => h2 ⟨by omega, h3.2⟩)]
  · rw [if_neg hc, hi]
    by_cases h2 : i < n ∧ (c.bys i).on = true ∧ (c.bys i).wr = false
    · rw [if_pos h2, if_pos ⟨by omega, h2.2⟩]
    · rw [if_neg h2, if_neg (fun h3 => by
       by_cases e : i = n
       · subst e; exact hc h3.2
       · exact h2 ⟨by omega, h3.2⟩)]
end Go.Proofs.YtpodgcpkccpnfaaGreat

namespace Go.Proofs.YtpodgcpkccpnfaaGreat
open Go.RowKit
theorem MayIs.weak {w : World} {B B' : Nat} {m : Value} {l : List Int} (h : MayIs w B m l) (hb : B' ≤ B) : MayIs w B' m l := by
 rcases h with h | ⟨g, h1, h2, h3, h4⟩
 · refine .inl ⟨h.1, h.2.imp id fun ⟨g, cap, cur, e1, e2, e3⟩ => ⟨g, cap, cur, e1, by omega, e3⟩⟩
 · exact .inr ⟨g, h1, by omega, h3, h4⟩
theorem CellIs.lay {w W : World} {h B : Nat} {c : CS} {ms ms0 : Nat → Value} (H : CellIs W h B c ms) (f : CFrame w W h ms0 ms) (t : Nat) (ht : t < 8) (a : Acc8) (m : Value) (hm : MayIs W B m a.may) (hnew : ∀ k, m.ownBlock = some k → w.heap.size ≤ k ∧ k < W.heap.size ∧ ∀ i, i < 8 → (ms i).ownBlock ≠ some k) (hlt : h < w.heap.size) :
 CellIs (st5 W h (3 + t * 5) (.bool a.on) (.bool a.wr) (.int .i64 a.val) (.bool a.ov) m) h B (c.put t a) (setM ms t m) ∧ CFrame w (st5 W h (3 + t * 5) (.bool a.on) (.bool a.wr) (.int .i64 a.val) (.bool a.ov) m) h ms0 (setM ms t m) := by
 refine ⟨H.store t ht a m hm (fun e => by have := (hnew h e).1; omega) (fun j hj hne k hk => (hnew k hk).2.2 j hj), ?_⟩
 have hb := st5_below W h (3 + t * 5) 0 (.bool a.on) (.bool a.wr) (.int .i64 a.val) (.bool a.ov) m (Nat.zero_le _)
 refine ⟨hb.os.trans f.os, hb.tape.trans f.tape, hb.output.trans f.output, Nat.le_trans f.size hb.size, fun k hk hne hall => (st5_other _ _ _ _ _ _ _ _ _ hne).trans (f.block k hk hne hall), fun i hi k hk => ?_⟩
 unfold setM at hk
 split at hk
 · exact .inr (hnew k hk).1
 · exact f.new i hi k hk
theorem begin_any (h B N : Nat) (c : CS) (ms : Nat → Value) (t k cl v : Int) (w : World) (H : CellIs w h B c ms) (hg : CGood c N) (hN : N ≤ 90000) :
 Calls Tryz.prog 115 #[.pointer (some ⟨h, 0, none⟩), .int .i64 t, .agg #[.int .i64 k, .int .i64 cl, .int .i64 v]] w fun e w' => e = .returned (.int .i64 (c.begin t k v).1) ∧ ∃ ms', CellIs w' h B (c.begin t k v).2 ms' ∧ CFrame w w' h ms ms' := by
 have HH := hQ' H
 have hUb : Up w (w.alloc (.cells #[.int .i64 k, .int .i64 cl, .int .i64 v] 111)) := (Up.refl w).alloc _
 have hbx := heap_alloc_new w (.cells #[.int .i64 k, .int .i64 cl, .int .i64 v] 111)
 have HF := hQ' (show CellIs (w.alloc (.cells #[.int .i64 k, .int .i64 cl, .int .i64 v] 111)) h B c ms ∧ CFrame w (w.alloc (.cells #[.int .i64 k, .int .i64 cl, .int .i64 v] 111)) h ms ms from ⟨H.up hUb, CFrame.ofUp hUb⟩)
 obtain ⟨W, hW⟩ : ∃ x, w.alloc (.cells #[.int .i64 k, .int .i64 cl, .int .i64 v] 111) = x := ⟨_, rfl⟩
 rw [hW] at hUb hbx HF
 have HW := hQ' hW
 have HU := hQ' hUb
 have b0 := cell_of_row _ _ 0 _ _ _ hbx
 have b2 := cell_of_row _ _ 2 _ _ _ hbx
 simp only [gA_T, gA_0, gA_S] at b0 b2
 have HBX := hQ' hbx
 clear hW hUb hbx
 by_cases h1 : t < 0
 · have e0 : c.begin t k v = (1, c) := by unfold CS.begin; rw [if_pos (.inl h1)]
   rw [e0]
   clear e0 H
   go_enter Tryz.func115, Tryz.ntmps115
   go_wp2_with fail
   rw [HW.out]
   go_wp2_with fail
   go_ret
   exact ⟨rfl, ms, HF.out⟩
 by_cases h2 : 8 ≤ t
 · have e0 : c.begin t k v = (1, c) := by unfold CS.begin; rw [if_pos (.inr (.inl h2))]
   rw [e0]
   clear e0 H
   go_enter Tryz.func115, Tryz.ntmps115
   go_wp2_with fail
   rw [HW.out]
   go_wp2_with fail
   go_ret
   exact ⟨rfl, ms, HF.out⟩
 by_cases h3 : k ≠ 1 ∧ k ≠ 2
 · have e0 : c.begin t k v = (1, c) := by unfold CS.begin; rw [if_pos (.inr (.inr h3))]
   rw [e0]
   obtain ⟨q1, q2⟩ := h3
   have p1 : (k != 1) = true := by simp [bne, q1]
   have p2 : (k != 2) = true := by simp [bne, q2]
   clear e0 H
   go_enter Tryz.func115, Tryz.ntmps115
   go_wp2_with fail
   rw [HW.out]
   go_wp2_with fail
   go_ret
   exact ⟨rfl, ms, HF.out⟩
 obtain ⟨tn, rfl⟩ : ∃ tn : Nat, t = tn := ⟨t.toNat, by omega⟩
 have htn : tn < 8 := by omega
 have ht0 : (0 : Int) ≤ tn := by omega
 have ht8 : (tn : Int) < 8 := by omega
 obtain ⟨x0, x1, x2, x3, x4⟩ := HF.out.1.acc tn htn
 have hk12 : k = 1 ∨ k = 2 := by omega
 cases hon : (c.bys tn).on
 rotate_left
 · have e0 : c.begin tn k v = (12, c) := by unfold CS.begin; rw [if_neg (by omega), Int.toNat_natCast, if_pos hon]
   rw [e0]
   rw [hon, ← HW.out] at x0
   clear e0 H hon x1 x2 x3 x4
   rcases hk12 with rfl | rfl
   all_goals
    go_enter Tryz.func115, Tryz.ntmps115
    go_wp2_with fail
    rw [HW.out]
    go_wp2_with fail
    go_ret
    exact ⟨rfl, ms, HF.out⟩
 rw [hon] at x0
 have fz := HF.out.1.fz
 obtain ⟨Am, cm, hmv, -⟩ := (HF.out.1.own tn htn).form
 rw [hmv] at x4
 rw [← HW.out] at x0
 rcases hk12 with rfl | rfl
 · have e0 : c.begin tn 1 v = (0, c.put tn (readN c 8)) := by unfold CS.begin; rw [if_neg (by omega), Int.toNat_natCast, if_neg (by simp [hon]), if_pos rfl]
   rw [e0]
   clear e0 hon
   have HRD := hQ' (cread_any h B c ms W.drew (HF.out.1.up (Up.refl W).drew))
   go_enter Tryz.func115, Tryz.ntmps115
   go_wp2_with fail
   rw [HW.out]
   go_wp2_with fail
   clear x0 x1 x2 x3 x4 b0 b2
   refine wp_region_held_drew (S := fun _ => True) (by kernel_rfl) trivial (fun hH0 => ?_)
   refine tkE 0 ?_ rfl (by kernel_rfl) (fun _ _ _ h => h) hH0 ?_ ?_
   rotate_left
   · intro w hSw
     try dsimp only at hSw
     go_simp
     try (with_reducible rfl)
   try simp only [Act.put, sC_I, sC_0, sC_1]
   refine tkE 1 ?_ rfl (by kernel_rfl) (fun _ _ _ h => h) hH0 ?_ ?_
   rotate_left
   · intro w hSw
     try dsimp only at hSw
     go_simp
     try (with_reducible rfl)
   try simp only [Act.put, sC_I, sC_0, sC_1]
   refine tkE 2 ?_ rfl (by kernel_rfl) (fun _ _ _ h => h) hH0 ?_ ?_
   rotate_left
   · intro w hSw
     try dsimp only at hSw
     go_simp
     try (with_reducible rfl)
   try simp only [Act.put, sC_I, sC_0, sC_1]
   refine tkE 4 ?_ rfl (by kernel_rfl) (fun _ _ _ h => h) hH0 ?_ ?_
   rotate_left
   · intro w hSw
     try dsimp only at hSw
     go_simp
     try (with_reducible rfl)
   try simp only [Act.put, sC_I, sC_0, sC_1]
   refine tkE 5 ?_ rfl (by kernel_rfl) (fun _ _ _ h => h) hH0 ?_ ?_
   rotate_left
   · intro w hSw
     try dsimp only at hSw
     go_simp
     try (with_reducible rfl)
   try simp only [Act.put, sC_I, sC_0, sC_1]
   refine rdE 3 (by kernel_rfl) rfl fun K hK => ?_
   go_simp
   refine HRD.out.mono ?_
   rintro e w1 ⟨m, rfl, hu, hm⟩
   have hU1 := ((Up.refl W).drew).trans hu
   have HC1 := hQ' (HF.out.1.up hU1)
   have HF1 := hQ' (HF.out.2.trans (CFrame.ofUp (ms := ms) hU1))
   have hlt : h < w.heap.size := HH.out.lt
   have HUs := hQ' hu
   obtain ⟨x0, x1, x2, x3, x4⟩ := HC1.out.acc tn htn
   have fz1 := HC1.out.fz
   obtain ⟨Am1, cm1, hmv1, -⟩ := (HC1.out.own tn htn).form
   rw [hmv1] at x4
   have HM := hQ' hm
   obtain ⟨Am2, cm2, rfl, -⟩ := hm.form
   clear hu hm hU1 hmv hmv1
   refine hK.out _ _ trivial (fun hH1 => ?_)
   clear hK K
   try simp only [Act.put, sC_I, sC_0, sC_1]
   refine tkE 6 ?_ rfl (by kernel_rfl) (fun _ _ _ h => h) hH1 ?_ ?_
   rotate_left
   · intro w hSw
     try dsimp only at hSw
     go_simp
     try (with_reducible rfl)
   try simp only [Act.put, sC_I, sC_0, sC_1]
   refine rdE 7 (by kernel_rfl) rfl fun K hK => ?_
   go_simp
   have HL := hQ' (HC1.out.lay HF1.out tn htn (readN c 8) (.slice Am2 (readN c 8).may.length cm2) (HM.out.weak (Nat.le_trans HH.out.sz (Nat.le_trans HU.out.size (Nat.le_refl _)))) (fun k hk => by
    have := HM.out.ge k hk
    have hs : w.heap.size ≤ W.drew.heap.size := HU.out.size
    exact ⟨by omega, this.2, fun i hi e => by have := ((HH.out.own i hi).ge k e).2; omega⟩) hlt)
   unfold st5 at HL
   refine hK.out _ _ trivial (fun hH2 => ?_)
   clear hK K
   try simp only [Act.put, sC_I, sC_0, sC_1]
   refine wpAnyH_done (by kernel_rfl) ?_ _
   try simp only [Act.put, sC_I, sC_0, sC_1, List.getElem_toArray, List.getElem_cons_succ, List.getElem_cons_zero]
   clear x0 x1 x2 x3 x4 fz fz1
   go_wp2_with fail
   go_ret
   exact ⟨rfl, _, HL.out⟩
 · have hcl : clampT v c.top = clampT v c.top := rfl
   generalize hV : clampT v c.top = V
   have e0 : c.begin tn 2 v = (0, (wrN c V 8).put tn ⟨true, true, V, false, []⟩) := by unfold CS.begin; rw [if_neg (by omega), Int.toNat_natCast, if_neg (by simp [hon]), if_neg (by decide), hV]
   rw [e0]
   clear e0 hon
   have k1 := HF.out.1.k1
   have hS0 : W.cell? ⟨w.heap.size, 2, none⟩ = some (.int .i64 v) ∧ W.cell? ⟨h, 1, none⟩ = some (.int .i64 c.top) := ⟨b2, k1⟩
   have HS0 := hQ' hS0
   have HCL := hQ' (nclamp_any v c.top)
   clear hS0
   go_enter Tryz.func115, Tryz.ntmps115
   go_wp2_with fail
   rw [HW.out]
   clear x0 x1 x2 x3 x4 fz hmv b0 b2 k1 hcl
   refine wp_region_held_drew (S := fun w' => w'.cell? ⟨w.heap.size, 2, none⟩ = some (.int .i64 v) ∧ w'.cell? ⟨h, 1, none⟩ = some (.int .i64 c.top)) (by kernel_rfl) HS0.out (fun hH0 => ?_)
   refine tkE 0 ?_ rfl (by kernel_rfl) (fun _ _ _ h => h) hH0 ?_ ?_
   rotate_left
   · intro w hSw
     try dsimp only at hSw
     go_simp
     try (with_reducible rfl)
   try simp only [Act.put, sC_I, sC_0, sC_1]
   refine tkE 1 ?_ rfl (by kernel_rfl) (fun _ _ _ h => h) hH0 ?_ ?_
   rotate_left
   · intro w hSw
     try dsimp only at hSw
     go_simp
     try (with_reducible rfl)
   try simp only [Act.put, sC_I, sC_0, sC_1]
   refine tkE 2 ?_ rfl (by kernel_rfl) (fun _ _ _ h => h) hH0 ?_ ?_
   rotate_left
   · intro w hSw
     try dsimp only at hSw
     go_simp
     try (with_reducible rfl)
   try simp only [Act.put, sC_I, sC_0, sC_1]
   refine tkE 3 ?_ rfl (by kernel_rfl) (fun _ _ _ h => h) hH0 ?_ ?_
   rotate_left
   · intro w hSw
     try dsimp only at hSw
     go_simp
     try (with_reducible rfl)
   try simp only [Act.put, sC_I, sC_0, sC_1]
   refine tkE 4 ?_ rfl (by kernel_rfl) (fun _ _ _ h => h) hH0 ?_ ?_
   rotate_left
   · intro w hSw
     try dsimp only at hSw
     go_simp
     try (with_reducible rfl)
   try simp only [Act.put, sC_I, sC_0, sC_1]
   refine tkE 5 ?_ rfl (by kernel_rfl) (fun _ _ _ h => h) hH0 ?_ ?_
   rotate_left
   · intro w hSw
     try dsimp only at hSw
     go_simp
     try (with_reducible rfl)
   try simp only [Act.put, sC_I, sC_0, sC_1]
   refine rdE 6 (by kernel_rfl) rfl fun K hK => ?_
   go_simp
   refine (HCL.out _).mono ?_
   rintro e w1 ⟨rfl, rfl⟩
   rw [hV]
   refine hK.out _ _ hH0 (fun hH1 => ?_)
   clear hK K
   try simp only [Act.put, sC_I, sC_0, sC_1]
   refine tkE 7 ?_ rfl (by kernel_rfl) (fun _ _ _ h => h) hH1 ?_ ?_
   rotate_left
   · intro w hSw
     try dsimp only at hSw
     go_simp
     try (with_reducible rfl)
   try simp only [Act.put, sC_I, sC_0, sC_1]
   refine wpAnyH_done (by kernel_rfl) ?_ _
   try simp only [Act.put, sC_I, sC_0, sC_1, List.getElem_toArray, List.getElem_cons_succ, List.getElem_cons_zero]
   go_wp2_with fail
   have HVV := hQ' hV
   have HS := hQ' (show CellIs W.drew h B c ms ∧ CFrame w W.drew h ms ms from ⟨HF.out.1.up (Up.refl W).drew, HF.out.2.trans (CFrame.ofUp (Up.refl W).drew)⟩)
   clear hV
   go_loopw [52] (fun t wr => ∃ (k : Nat) (ms' : Nat → Value), k ≤ 8 ∧ t = .int .i64 k ∧ Hid (CellIs wr h B (wrN c V k) ms' ∧ CFrame w wr h ms ms')) (fun t _ => 8 - (intOf t).toNat)
   case atStart => exact ⟨0, ms, by omega, rfl, HS⟩
   case round =>
    obtain ⟨k, ms', hk8, rfl, HSr⟩ := hrel
    have HLT := hQ' HH.out.lt
    by_cases hlt : k < 8
    · have hbk : (wrN c V k).bys k = c.bys k := by rw [wrN_bys, if_neg (by omega)]
      obtain ⟨y0, y1, y2, y3, y4⟩ := HSr.out.1.acc k hlt
      have hki : (k : Int) < 8 := by omega
      have hk0 : (0 : Int) ≤ k := by omega
      have hs : wrN c V (k + 1) = if ((wrN c V k).bys k).on = true ∧ ((wrN c V k).bys k).wr = false then (wrN c V k).put k (ovl c.kind V ((wrN c V k).bys k)) else wrN c V k := rfl
      have HOV := hQ' (overlap_may h h (3 + k * 5) B (wrN c V k).kind V (ms' k) ((wrN c V k).bys k).ov ((wrN c V k).bys k).may wr HSr.out.1.k0 y3 y4 HSr.out.1.fz (HSr.out.1.own k hlt) HSr.out.1.sz (by rw [hbk]; have := hg.few k hlt; omega) (HSr.out.1.apart k hlt))
      have HST := hQ' (fun w2 m' hp hm => HSr.out.1.over (w' := w2) k hlt V m' hp hm)
      rw [hbk] at y0 y1 hs
      obtain ⟨on, hon⟩ : ∃ x, (c.bys k).on = x := ⟨_, rfl⟩
      obtain ⟨wrt, hwr⟩ : ∃ x, (c.bys k).wr = x := ⟨_, rfl⟩
      rw [hon] at y0 hs
      rw [hwr] at y1 hs
      have HS2 := hQ' hs
      clear hs hon hwr y2 y3 y4
      cases on
      · have HS3 := hQ' (HS2.out.trans (if_neg (by simp)))
        clear y1
        go_wp2_with fail
        go_roundw
        case rel => exact ⟨k + 1, ms', by omega, by go_num, hQ' (by rw [HS3.out]; exact HSr.out)⟩
        case measure => simp [intOf]; omega
      cases wrt
      rotate_left
      · have HS3 := hQ' (HS2.out.trans (if_neg (by simp)))
        go_wp2_with fail
        go_roundw
        case rel => exact ⟨k + 1, ms', by omega, by go_num, hQ' (by rw [HS3.out]; exact HSr.out)⟩
        case measure => simp [intOf]; omega
      have HS3 := hQ' (HS2.out.trans (if_pos ⟨rfl, rfl⟩))
      clear HS2
      go_wp2_with fail
      refine HOV.out.mono ?_
      rintro e w2 ⟨rfl, m', hp, hm, -⟩
      obtain ⟨q1, q2⟩ := HST.out w2 m' hp hm
      have HS4 := hQ' (show CellIs w2 h B (wrN c V (k + 1)) (setM ms' k m') ∧ CFrame w w2 h ms (setM ms' k m') from ⟨by rw [HS3.out]; rw [hbk, (wrN_kind c V k).1] at q1; exact q1, HSr.out.2.trans q2⟩)
      clear hp hm q1 q2 y0 y1 HOV HST
      go_wp2_with fail
      go_roundw
      case rel => exact ⟨k + 1, _, by omega, by go_num, HS4⟩
      case measure => simp [intOf]; omega
    · obtain rfl : k = 8 := by omega
      clear hlt
      obtain ⟨x0, x1, x2, x3, x4⟩ := HSr.out.1.acc tn htn
      have fz := HSr.out.1.fz
      obtain ⟨Am, cm, hmv, -⟩ := (HSr.out.1.own tn htn).form
      rw [hmv] at x4
      have HL := hQ' (HSr.out.1.lay HSr.out.2 tn htn ⟨true, true, V, false, []⟩ (.slice none 0 0) (.inl ⟨rfl, .inl ⟨rfl, rfl⟩⟩) (by simp [Value.ownBlock]) HLT.out)
      unfold st5 at HL
      clear hmv
      go_wp2_with fail
      go_ret
      exact ⟨rfl, _, HL.out⟩
end Go.Proofs.YtpodgcpkccpnfaaGreat

namespace Go.Proofs.YtpodgcpkccpnfaaGreat
open Go.RowKit
theorem clampT_big (top : Int) : clampT top 1099511627776 = clampI top 0 1099511627776 := rfl
def newC (k T : Int) : Array Value := #[.int .i64 k, .int .i64 T, .int .i64 0, .bool false, .bool false, .int .i64 0, .bool false, .slice none 0 0, .bool false, .bool false, .int .i64 0, .bool false, .slice none 0 0, .bool false, .bool false, .int .i64 0, .bool false, .slice none 0 0, .bool false, .bool false, .int .i64 0, .bool false, .slice none 0 0, .bool false, .bool false, .int .i64 0, .bool false, .slice none 0 0, .bool false, .bool false, .int .i64 0, .bool false, .slice none 0 0, .bool false, .bool false, .int .i64 0, .bool false, .slice none 0 0, .bool false, .bool false, .int .i64 0, .bool false, .slice none 0 0]
theorem new_is {W : World} {h : Nat} {kind T : Int} (hb : W.heap[h]? = some (.cells (newC kind T) 194 (0, 0))) : CellIs W h h ⟨kind, T, 0, fun _ => acc0⟩ (fun _ => .slice none 0 0) := by
 refine ⟨Nat.le_of_lt (Array.getElem?_eq_some_iff.1 hb).1, cell_of_row _ _ 0 _ _ _ hb, cell_of_row _ _ 1 _ _ _ hb, cell_of_row _ _ 2 _ _ _ hb, fun i hi => ?_, fun j => frozen_of_row _ _ j _ _ hb, fun i hi => .inl ⟨rfl, .inl ⟨rfl, rfl⟩⟩, fun i hi => by simp [Value.ownBlock], fun i j hi hj hne k hk => by simp [Value.ownBlock]⟩
 have h8 : i = 0 ∨ i = 1 ∨ i = 2 ∨ i = 3 ∨ i = 4 ∨ i = 5 ∨ i = 6 ∨ i = 7 := by omega
 rcases h8 with rfl | rfl | rfl | rfl | rfl | rfl | rfl | rfl
 all_goals exact ⟨cell_of_row _ _ _ _ _ _ hb, cell_of_row _ _ _ _ _ _ hb, cell_of_row _ _ _ _ _ _ hb, cell_of_row _ _ _ _ _ _ hb, cell_of_row _ _ _ _ _ _ hb⟩
theorem new_any (kind top : Int) (w : World) : Calls Tryz.prog 172 #[.int .i64 kind, .int .i64 top] w fun e w' => e = .returned (.pointer (some ⟨w.heap.size, 0, none⟩)) ∧ CellIs w' w.heap.size w.heap.size (CS.new kind top) (fun _ => .slice none 0 0) ∧ Up w w' := by
 have HCL := hQ' (nclamp_any top 1099511627776)
 go_enter Tryz.func172, Tryz.ntmps172
 go_wp2_with fail
 refine (HCL.out _).mono ?_
 rintro e w1 ⟨rfl, rfl⟩
 rw [clampT_big]
 obtain ⟨T, hT⟩ : ∃ x, clampI top 0 1099511627776 = x := ⟨_, rfl⟩
 rw [hT]
 have HT := hQ' (show CS.new kind top = ⟨kind, T, 0, fun _ => acc0⟩ from by unfold CS.new; rw [hT])
 clear hT
 go_wp2_with fail
 go_ret
 rw [HT.out]
 exact ⟨rfl, new_is (heap_alloc_new w1 (.cells (newC kind T) 194)), (Up.refl w1).alloc _⟩
end Go.Proofs.YtpodgcpkccpnfaaGreat

namespace Go.Proofs.YtpodgcpkccpnfaaGreat
open Go.RowKit
theorem CGood.put {c : CS} {N : Nat} (g : CGood c N) (t : Nat) (a : Acc8) (h1 : a.on = true → a.wr = false → c.kind = 2 → 0 < a.may.length) (h2 : a.may.length ≤ N) : CGood (c.put t a) N := by
 refine ⟨fun i hi => ?_, fun i hi => ?_⟩
 · unfold CS.put
   by_cases e : i = t
   · simp only [if_pos e]; exact h1
   · simp only [if_neg e]; exact g.pos i hi
 · unfold CS.put
   by_cases e : i = t
   · simp only [if_pos e]; exact h2
   · simp only [if_neg e]; exact g.few i hi
theorem CGood.more {c : CS} {N M : Nat} (g : CGood c N) (h : N ≤ M) : CGood c M := ⟨g.pos, fun i hi => Nat.le_trans (g.few i hi) h⟩
theorem CGood.wr {c : CS} {N : Nat} (g : CGood c N) (v : Int) (n : Nat) : CGood (wrN c v n) (N + 1) := by
 have hk := (wrN_kind c v n).1
 refine ⟨fun i hi h1 h2 h3 => ?_, fun i hi => ?_⟩
 · rw [hk] at h3
   rw [wrN_bys] at h1 h2 ⊢
   split at h1
   · rename_i hc
     rw [if_pos hc] at h2 ⊢
     unfold ovl
     simp [if_pos h3]
   · rename_i hc
     rw [if_neg hc] at h2 ⊢
     exact g.pos i hi h1 h2 h3
 · have := g.few i hi
   rw [wrN_bys]
   split
   · unfold ovl
     dsimp only
     split
     · simp; omega
     · omega
   · omega
theorem CGood.begin {c : CS} {N : Nat} (g : CGood c N) (t k v : Int) : CGood (c.begin t k v).2 (N + 9) := by
 unfold CS.begin
 split
 · exact g.more (by omega)
 split
 · exact g.more (by omega)
 split
 · refine (g.more (by omega)).put _ _ (fun _ _ h => readN_some c h 8) ?_
   have := readN_few c 8
   omega
 · exact ((g.wr _ 8).more (by omega)).put _ _ (fun _ h => absurd h (by simp)) (by simp)
theorem CGood.endA {c : CS} {N : Nat} (g : CGood c N) (t d : Int) : CGood (c.endA t d).2.2 N := by
 unfold CS.endA
 have hp : CGood (c.put t.toNat acc0) N := g.put _ _ (fun h => absurd h (by simp [acc0])) (by simp [acc0])
 split
 · exact g
 split
 · exact g
 split
 · exact ⟨hp.pos, hp.few⟩
 · exact hp
theorem CGood.new (kind top : Int) : CGood (CS.new kind top) 0 := ⟨fun i hi h => absurd h (by simp [CS.new, acc0]), fun i hi => by simp [CS.new, acc0]⟩
end Go.Proofs.YtpodgcpkccpnfaaGreat

namespace Go.Proofs.YtpodgcpkccpnfaaGreat
open Go.RowKit
theorem CellIs.keep {w w' : World} {h B : Nat} {c : CS} {ms : Nat → Value} (H : CellIs w h B c ms) (hs : w.heap.size ≤ w'.heap.size) (hh : w'.heap[h]? = w.heap[h]?) (hm : ∀ i, i < 8 → ∀ k, (ms i).ownBlock = some k → w'.heap[k]? = w.heap[k]?) : CellIs w' h B c ms := by
 have cc : ∀ j, w'.cell? ⟨h, j, none⟩ = w.cell? ⟨h, j, none⟩ := fun j => cellE hh
 refine ⟨Nat.le_trans H.sz hs, (cc _).trans H.k0, (cc _).trans H.k1, (cc _).trans H.k2, fun i hi => ?_, fun j => (frozenE hh).trans (H.fz j), fun i hi => (H.own i hi).same hs fun k hkk => hm i hi k hkk, H.apart, H.two⟩
 obtain ⟨y0, y1, y2, y3, y4⟩ := H.acc i hi
 exact ⟨(cc _).trans y0, (cc _).trans y1, (cc _).trans y2, (cc _).trans y3, (cc _).trans y4⟩
end Go.Proofs.YtpodgcpkccpnfaaGreat

namespace Go.Proofs.YtpodgcpkccpnfaaGreat
open Go.RowKit
structure BankO (w : World) (B h m : Nat) (R : Value) (many : Int) (rs : List (Int × SD)) (by' : Nat → Bool × Int) (sz : Nat) (F : Int → Option Nat) : Prop where
 blk : BankB w h R many m by'
 row : w.ownsRow B 154 4 R rs.length (rcells rs)
 map : MapB w m sz F
 hm : h ≠ m
 rh : R.ownBlock ≠ some h
 rm : R.ownBlock ≠ some m
 geh : B ≤ h
 gem : B ≤ m
theorem BankO.keep {w w' : World} {B h m : Nat} {R : Value} {many : Int} {rs : List (Int × SD)} {by' : Nat → Bool × Int} {sz : Nat} {F : Int → Option Nat} (H : BankO w B h m R many rs by' sz F)
 (eh : w'.heap[h]? = w.heap[h]?) (em : w'.heap[m]? = w.heap[m]?) (er : ∀ k, R.ownBlock = some k → w'.heap[k]? = w.heap[k]?) : BankO w' B h m R many rs by' sz F :=
 ⟨H.blk.same eh, own_same H.row er, H.map.up em, H.hm, H.rh, H.rm, H.geh, H.gem⟩
theorem BankO.up {w w' : World} {B h m : Nat} {R : Value} {many : Int} {rs : List (Int × SD)} {by' : Nat → Bool × Int} {sz : Nat} {F : Int → Option Nat} (H : BankO w B h m R many rs by' sz F) (u : Up w w') : BankO w' B h m R many rs by' sz F :=
 H.keep (u.block h H.blk.lt) (u.block m H.map.isLt) fun k e => u.block k (H.row.lt k e).2
def bankC (many : Int) (m : Nat) : Array Value := #[.slice none 0 0, .int .i64 many, .map (some m), .bool false, .int .i64 0, .bool false, .int .i64 0, .bool false, .int .i64 0, .bool false, .int .i64 0, .bool false, .int .i64 0, .bool false, .int .i64 0, .bool false, .int .i64 0, .bool false, .int .i64 0]
theorem bankB_new {W : World} {h m : Nat} {many : Int} {t : TypeId} (hb : W.heap[h]? = some (.cells (bankC many m) t (0, 0))) : BankB W h (.slice none 0 0) many m (fun _ => (false, 0)) := by
 refine ⟨cell_of_row _ _ 0 _ _ _ hb, cell_of_row _ _ 1 _ _ _ hb, cell_of_row _ _ 2 _ _ _ hb, fun i hi => ?_, fun i hi => ?_, fun j => frozen_of_row _ _ j _ _ hb⟩
 all_goals
  have h8 : i = 0 ∨ i = 1 ∨ i = 2 ∨ i = 3 ∨ i = 4 ∨ i = 5 ∨ i = 6 ∨ i = 7 := by omega
  rcases h8 with rfl | rfl | rfl | rfl | rfl | rfl | rfl | rfl
  all_goals exact cell_of_row _ _ _ _ _ _ hb
theorem bankO_new (w : World) (B : Nat) (many : Int) (t : TypeId) (hB : B ≤ w.heap.size) : BankO ((w.alloc (.map #[] 0)).alloc (.cells (bankC many w.heap.size) t)) B (w.heap.size + 1) w.heap.size (.slice none 0 0) many [] (fun _ => (false, 0)) 0 (fun _ => none) := by
 have hb := heap_alloc_new (w.alloc (.map #[] 0)) (.cells (bankC many w.heap.size) t)
 rw [World.size_alloc] at hb
 have hM := mapB_start ((World.ownsMap_made w Tryz.prog 3 ptrR).alloc (.cells (bankC many w.heap.size) t))
 exact ⟨bankB_new hb, ⟨rfl, .inl ⟨rfl, rfl⟩⟩, hM, by omega, by simp [Value.ownBlock], by simp [Value.ownBlock], by omega, hB⟩
theorem bankO_append {w W w1 : World} {B h m g1 cap : Nat} {R : Value} {many : Int} {rs : List (Int × SD)} {by' : Nat → Bool × Int} {sz : Nat} {F : Int → Option Nat} {r : Int × SD} (H : BankO w B h m R many rs by' sz F) (u : Up w W)
 (hown : w1.ownsRow B 154 4 (.slice (some ⟨g1, 0, none⟩) (rs.length + 1) cap) (rs.length + 1) (rcells rs ++ rcell r)) (hg : W.grownBy w1 R.ownBlock) (hor : R.ownBlock = some g1 ∨ w.heap.size ≤ g1) :
 (w1.cell? ⟨h, 0, none⟩ = some R ∧ w1.frozen? ⟨h, 0, none⟩ = false) ∧ BankO (w1.setCell ⟨h, 0, none⟩ (.slice (some ⟨g1, 0, none⟩) (rs.length + 1) cap)) B h m (.slice (some ⟨g1, 0, none⟩) (rs.length + 1) cap) many (rs ++ [r]) by' sz F := by
 have hk : ∀ k, k < w.heap.size → R.ownBlock ≠ some k → w1.heap[k]? = w.heap[k]? := fun k h1 h2 => (hg.block k (Nat.lt_of_lt_of_le h1 u.size) (fun e => h2 e.symm)).trans (u.block k h1)
 have hh : w1.heap[h]? = w.heap[h]? := hk h H.blk.lt H.rh
 have hmm : w1.heap[m]? = w.heap[m]? := hk m H.map.isLt H.rm
 have hgh : g1 ≠ h := by
  rcases hor with e | e
  · exact fun e2 => H.rh (by rw [← e2]; exact e)
  · have := H.blk.lt; omega
 have hgm : g1 ≠ m := by
  rcases hor with e | e
  · exact fun e2 => H.rm (by rw [← e2]; exact e)
  · have := H.map.isLt; omega
 have k0 : w1.cell? ⟨h, 0, none⟩ = some R := (cellE hh).trans H.blk.k0
 have ho : ∀ j, j ≠ 0 → (w1.setCell ⟨h, 0, none⟩ (.slice (some ⟨g1, 0, none⟩) (rs.length + 1) cap)).cell? ⟨h, j, none⟩ = w.cell? ⟨h, j, none⟩ := fun j hj => (World.cell?_setCell_other _ _ _ _ (by simp <;> omega)).trans (cellE hh)
 refine ⟨⟨k0, (frozenE hh).trans (H.blk.fz 0)⟩, ⟨⟨World.cell?_setCell_same _ _ _ k0, (ho 1 (by decide)).trans H.blk.k1, (ho 2 (by decide)).trans H.blk.k2, fun t ht => (ho _ (by omega)).trans (H.blk.on t ht), fun t ht => (ho _ (by omega)).trans (H.blk.at' t ht), fun j => ?_⟩, ?_, ?_, H.hm, ?_, ?_, H.geh, H.gem⟩⟩
 · have : (w1.setCell ⟨h, 0, none⟩ (.slice (some ⟨g1, 0, none⟩) (rs.length + 1) cap)).frozen? ⟨h, j, none⟩ = w1.frozen? ⟨h, j, none⟩ := by simp [go_sem]
   rw [this]
   exact (frozenE hh).trans (H.blk.fz j)
 · rw [List.length_append, rcells_append]
   refine own_same (by simpa [rcells] using hown) fun k e => Below.heap_setCell w1 ⟨h, 0, none⟩ _ k (show k ≠ h from ?_)
   simp only [Value.ownBlock, Option.some.injEq] at e
   omega
 · exact H.map.up ((Below.heap_setCell w1 ⟨h, 0, none⟩ _ m (fun e => H.hm e.symm)).trans hmm)
 · simp only [Value.ownBlock, ne_eq, Option.some.injEq]; exact hgh
 · simp only [Value.ownBlock, ne_eq, Option.some.injEq]; exact hgm
end Go.Proofs.YtpodgcpkccpnfaaGreat

