/-
  What a read sees: each value is handed to a closure, till that says no.
-/
import Derived.Test.YtpefcbmmbpcalaaOnly
import Derived.Laws.EntriesVeiled
set_option linter.unusedVariables false
set_option linter.unusedSimpArgs false
namespace Go.Proofs.Ytpefcbmmbpcalaa
open Go.RowKit

def lastA (ws : List OpD) (first : Int) (r : OpD) : Int := ws.foldl (fun v o => if aheadB o r then o.val else v) first
def bothV (ws : List OpD) (r : OpD) : List Int := (ws.filter fun o => bothB o r).map (·.val)
def seenL (ws : List OpD) (first : Int) (r : OpD) : List Int := lastA ws first r :: bothV ws r
theorem lastA_take (ws : List OpD) (first : Int) (r : OpD) (j : Nat) (h : j < ws.length) : lastA (ws.take (j + 1)) first r = if aheadB (ws.getD j op0) r then (ws.getD j op0).val else lastA (ws.take j) first r := by
  unfold lastA
  rw [List.take_succ_eq_append_getElem h, List.foldl_append, List.getD_eq_getElem?_getD, List.getElem?_eq_getElem h]
  rfl
theorem bothV_drop (ws : List OpD) (r : OpD) (j : Nat) (h : j < ws.length) : bothV (ws.drop j) r = if bothB (ws.getD j op0) r then (ws.getD j op0).val :: bothV (ws.drop (j + 1)) r else bothV (ws.drop (j + 1)) r := by
  unfold bothV
  have e : ws.getD j op0 = ws[j] := by rw [List.getD_eq_getElem?_getD, List.getElem?_eq_getElem h]; rfl
  rw [List.drop_eq_getElem_cons h, e]
  by_cases hb : bothB ws[j] r = true
  · rw [List.filter_cons, if_pos hb, if_pos hb]; rfl
  · rw [List.filter_cons, if_neg hb, if_neg hb]
/-- Those that are handed: till the first no. -/
def handed (ask : List Int → Int → Bool) : List Int → List Int → List Int
  | pre, [] => pre
  | pre, x :: xs => if ask pre x then handed ask (pre ++ [x]) xs else pre ++ [x]
/-- Nothing handed yet, or the last one was answered with yes. -/
def Asked (ask : List Int → Int → Bool) (pre : List Int) : Prop := pre = [] ∨ ∃ p y, pre = p ++ [y] ∧ ask p y = true
/-- All blocks stay but those of X. -/
structure KX (X : Nat → Prop) (w w' : World) : Prop where
  os : w'.os = w.os
  tape : w'.tape = w.tape
  output : w'.output = w.output
  size : w.heap.size ≤ w'.heap.size
  block : ∀ k, k < w.heap.size → ¬ X k → w'.heap[k]? = w.heap[k]?
theorem KX.refl (X : Nat → Prop) (w : World) : KX X w w := ⟨rfl, rfl, rfl, Nat.le_refl _, fun _ _ _ => rfl⟩
theorem KX.trans {X : Nat → Prop} {a b c : World} (h : KX X a b) (k : KX X b c) : KX X a c := ⟨k.os.trans h.os, k.tape.trans h.tape, k.output.trans h.output, Nat.le_trans h.size k.size, fun q hq hx => (k.block q (Nat.lt_of_lt_of_le hq h.size) hx).trans (h.block q hq hx)⟩
theorem KX.up {X : Nat → Prop} {w w' : World} (u : Up w w') : KX X w w' := ⟨u.os, u.tape, u.output, u.size, fun k hk _ => u.block k hk⟩
theorem KX.below {X : Nat → Prop} {B : Nat} {w w' : World} (h : KX X w w') (hB : B ≤ w.heap.size) (hX : ∀ k, X k → B ≤ k) : Below B w w' := ⟨h.os, h.tape, h.output, h.size, fun k hk => h.block k (by omega) (fun hx => by have := hX k hx; omega)⟩
theorem KX.box {X : Nat → Prop} {w w' : World} {b : Nat} {o : Obj} (h : KX X w w') (hb : w.heap[b]? = some o) (hx : ¬ X b) : w'.heap[b]? = some o := (h.block b (Array.getElem?_eq_some_iff.1 hb).1 hx).trans hb
theorem KX.setCell {X : Nat → Prop} {w : World} {a : Addr} (ha : X a.block) (u : Value) : KX X w (w.setCell a u) := ⟨rfl, rfl, rfl, by simp [World.setCell], fun k hk hx => heap_setCell_other _ _ _ _ (fun e => hx (e ▸ ha))⟩

set_option maxRecDepth 10000 in
set_option maxHeartbeats 1000000 in
theorem seen_gen (K : Nat) (cap : List Value) (X : Nat → Prop) (M : List Int → World → Prop) (ask : List Int → Int → Bool) (ws : List OpD) (A : Option Addr) (c : Nat) (first : Int) (r : OpD) (w : World) (hL : ws.length ≤ 1000000) (hcf : ∀ args W, (callFunc K args).run Try.prog W = .ok (.enter K args) W)
    (hX : ¬ X w.heap.size) (hM : ∀ pre W W', M pre W → Up W W' → M pre W') (hrow : ∀ W, KX X w W → OpRow W A ws) (h0 : M [] w)
    (hcl : ∀ pre x W, w.heap.size < W.heap.size → pre.length ≤ ws.length → Asked ask pre → M pre W → Calls Try.prog K (.int .i64 x :: cap).toArray W fun e W' => e = .returned (.bool (ask pre x)) ∧ M (pre ++ [x]) W' ∧ KX X W W') :
    Calls Try.prog 26 #[.slice A ws.length c, .int .i64 first, oagg r, .func (.func K) #[] cap.toArray] w fun e w' => (∃ v, e = .returned v) ∧ M (handed ask [] (seenL ws first r)) w' ∧ KX X w w' := by
  have HX := Lib.hid hX
  have HM := Lib.hid hM
  have HRW := Lib.hid hrow
  have HCL := Lib.hid hcl
  have H0 := Lib.hid h0
  have HL := Lib.hid hL
  have hl2 : (ws.length : Int) ≤ 1000000 := by omega
  have HLT := Lib.hid (fun j h => lastA_take ws first r j h)
  have HBD := Lib.hid (fun j h => bothV_drop ws r j h)
  have HLA : Hid (lastA (ws.take ws.length) first r = lastA ws first r) := Lib.hid (by rw [List.take_length])
  have HAH := Lib.hid (fun o W => ahead_any o r W)
  have HBO := Lib.hid (fun o W => both_any o r W)
  have HSL : Hid (seenL ws first r = lastA ws first r :: bothV (ws.drop 0) r) := Lib.hid rfl
  have HBE : Hid (bothV (ws.drop ws.length) r = []) := Lib.hid (by rw [List.drop_length]; rfl)
  have HL0 : Hid (lastA (ws.take 0) first r = first) := Lib.hid rfl
  clear hX hM hrow hcl h0 hL
  obtain ⟨RF, RT, RW, RV, RH⟩ := r
  unfold oagg at HAH HBO ⊢
  dsimp only at HAH HBO ⊢
  generalize hrr : (⟨RF, RT, RW, RV, RH⟩ : OpD) = rr at *
  clear hrr
  have HB0 := Lib.hid (heap_alloc_new w (.cells #[.int .i64 RF, .int .i64 RT, .bool RW, .int .i64 RV, .int .i64 RH] 24))
  have HU0 := Lib.hid ((Up.refl w).alloc (.cells #[.int .i64 RF, .int .i64 RT, .bool RW, .int .i64 RV, .int .i64 RH] 24))
  have HNX : Hid (¬ X w.heap.size) := HX
  go_enter Try.func26, Try.ntmps26
  go_wp2_with fail
  go_loopw [8, 16] (fun u x wr => ∃ j : Nat, j ≤ ws.length ∧ x = .int .i64 j ∧ u = .int .i64 (lastA (ws.take j) first rr) ∧ wr.heap[w.heap.size]? = some (.cells #[.int .i64 RF, .int .i64 RT, .bool RW, .int .i64 RV, .int .i64 RH] 24 (0, 0)) ∧ Hid (Up w wr)) (fun _ x _ => ws.length - (intOf x).toNat)
  case atStart => exact ⟨0, by omega, rfl, by rw [HL0.out], HB0.out, HU0⟩
  case round =>
    obtain ⟨j, hj, rfl, rfl, hb, HV⟩ := hrel
    by_cases hlt : j < ws.length
    · have hji : (j : Int) < ws.length := by omega
      have hj0 : (0 : Int) ≤ j := by omega
      obtain ⟨b1, off, rfl, x0, x1, x2, x3, x4⟩ := HRW.out wr (KX.up HV.out) j hlt
      have HS := Lib.hid (HLT.out j hlt)
      generalize ws.getD j op0 = o at *
      have HC := Lib.hid (fun W => HAH.out o W)
      obtain ⟨F, T, Wr, V, Th⟩ := o
      dsimp only at x0 x1 x2 x3 x4 HS HC
      have HBA := Lib.hid (heap_alloc_new wr (.cells #[.int .i64 F, .int .i64 T, .bool Wr, .int .i64 V, .int .i64 Th] 24))
      have HUA := Lib.hid (HV.out.alloc (.cells #[.int .i64 F, .int .i64 T, .bool Wr, .int .i64 V, .int .i64 Th] 24))
      have HBR := Lib.hid (box_up hb ((Up.refl wr).alloc (.cells #[.int .i64 F, .int .i64 T, .bool Wr, .int .i64 V, .int .i64 Th] 24)))
      obtain ⟨y0, y1, y2, y3, y4⟩ := box_cells HBR.out
      clear hb
      go_wp2_with fail
      refine (HC.out _).mono ?_
      rintro e w2 ⟨rfl, hu2⟩
      have HU2 := Lib.hid (HUA.out.trans hu2)
      have HB2 := Lib.hid (box_up HBA.out hu2)
      have HR2 := Lib.hid (box_up HBR.out hu2)
      clear hu2 x0 x1 x2 x3 x4 y0 y1 y2 y3 y4 HC
      cases hah : aheadB ⟨F, T, Wr, V, Th⟩ rr
      · have HS2 : Hid (lastA (ws.take (j + 1)) first rr = lastA (ws.take j) first rr) := Lib.hid (by rw [HS.out, hah]; rfl)
        clear HS hah
        go_wp2_with fail
        go_roundw
        case rel => exact ⟨j + 1, by omega, by go_num, by rw [HS2.out], HR2.out, HU2⟩
        case measure => simp [intOf]; omega
      · have HS2 : Hid (lastA (ws.take (j + 1)) first rr = V) := Lib.hid (by rw [HS.out, hah]; rfl)
        obtain ⟨x0, x1, x2, x3, x4⟩ := box_cells HB2.out
        clear HS hah
        go_wp2_with fail
        go_roundw
        case rel => exact ⟨j + 1, by omega, by go_num, by rw [HS2.out], HR2.out, HU2⟩
        case measure => simp [intOf]; omega
    · obtain rfl : j = ws.length := by omega
      clear hlt
      rw [HLA.out]
      have HCF := Lib.hid (HCL.out [] (lastA ws first rr) wr (Array.getElem?_eq_some_iff.1 hb).1 (Nat.zero_le _) (.inl rfl) (HM.out _ _ _ H0.out HV.out))
      have HR1 := Lib.hid hb
      clear hb HLT HLA HL0
      generalize lastA ws first rr = la at *
      go_wp2_with fail
      refine HCF.out.mono ?_
      rintro e w3 ⟨rfl, hm3, hk3⟩
      have HM3 := Lib.hid hm3
      have HK3 := Lib.hid ((KX.up HV.out).trans hk3)
      have HR3 := Lib.hid (hk3.box HR1.out HNX.out)
      clear hm3 hk3 HCF
      cases hask : ask [] la
      · have HHA : Hid (handed ask [] (seenL ws first rr) = [la]) := Lib.hid (by rw [HSL.out]; unfold handed; rw [hask]; rfl)
        clear hask
        go_wp2_with fail
        refine bodyPost_ret (results_none rfl _ _ _) rfl ?_
        exact ⟨⟨_, rfl⟩, by rw [HHA.out]; exact HM3.out, HK3.out⟩
      · have HAS : Hid (Asked ask [la]) := Lib.hid (.inr ⟨[], la, rfl, hask⟩)
        have HHA : Hid (handed ask [] (seenL ws first rr) = handed ask [la] (bothV (ws.drop 0) rr)) := Lib.hid (by rw [HSL.out, handed, hask]; rfl)
        clear hask
        go_wp2_with fail
        go_loopw [32] (fun x wr => ∃ (j : Nat) (pre : List Int), j ≤ ws.length ∧ x = .int .i64 j ∧ wr.heap[w.heap.size]? = some (.cells #[.int .i64 RF, .int .i64 RT, .bool RW, .int .i64 RV, .int .i64 RH] 24 (0, 0)) ∧ Hid (M pre wr) ∧ Hid (KX X w wr) ∧ Hid (Asked ask pre) ∧ Hid (pre.length ≤ j + 1) ∧ Hid (handed ask [] (seenL ws first rr) = handed ask pre (bothV (ws.drop j) rr))) (fun x _ => ws.length - (intOf x).toNat)
        case atStart => exact ⟨0, [la], by omega, rfl, HR3.out, HM3, HK3, HAS, Lib.hid (Nat.le_refl _), HHA⟩
        case round =>
          obtain ⟨j, pre, hj, rfl, hb, HMJ, HKJ, HAJ, HPJ, HHJ⟩ := hrel
          by_cases hlt : j < ws.length
          · have hji : (j : Int) < ws.length := by omega
            have hj0 : (0 : Int) ≤ j := by omega
            obtain ⟨b1, off, rfl, x0, x1, x2, x3, x4⟩ := HRW.out wr HKJ.out j hlt
            have HS := Lib.hid (HBD.out j hlt)
            generalize ws.getD j op0 = o at *
            have HC := Lib.hid (fun W => HBO.out o W)
            obtain ⟨F, T, Wr, V, Th⟩ := o
            dsimp only at x0 x1 x2 x3 x4 HS HC
            have HBA := Lib.hid (heap_alloc_new wr (.cells #[.int .i64 F, .int .i64 T, .bool Wr, .int .i64 V, .int .i64 Th] 24))
            have HUA := Lib.hid ((Up.refl wr).alloc (.cells #[.int .i64 F, .int .i64 T, .bool Wr, .int .i64 V, .int .i64 Th] 24))
            have HBR := Lib.hid (box_up hb HUA.out)
            obtain ⟨y0, y1, y2, y3, y4⟩ := box_cells HBR.out
            clear hb
            go_wp2_with fail
            refine (HC.out _).mono ?_
            rintro e w4 ⟨rfl, hu4⟩
            have HU4 := Lib.hid (HUA.out.trans hu4)
            have HB4 := Lib.hid (box_up HBA.out hu4)
            have HR4 := Lib.hid (box_up HBR.out hu4)
            clear hu4 x0 x1 x2 x3 x4 y0 y1 y2 y3 y4 HC
            cases hbo : bothB ⟨F, T, Wr, V, Th⟩ rr
            · have HHN : Hid (handed ask [] (seenL ws first rr) = handed ask pre (bothV (ws.drop (j + 1)) rr)) := Lib.hid (by rw [HHJ.out, HS.out, hbo]; rfl)
              clear HS hbo
              go_wp2_with fail
              go_roundw
              case rel => exact ⟨j + 1, pre, by omega, by go_num, HR4.out, Lib.hid (HM.out _ _ _ HMJ.out HU4.out), Lib.hid (HKJ.out.trans (KX.up HU4.out)), HAJ, Lib.hid (Nat.le_succ_of_le HPJ.out), HHN⟩
              case measure => simp [intOf]; omega
            · have HCV := Lib.hid (HCL.out pre V w4 (Array.getElem?_eq_some_iff.1 HR4.out).1 (Nat.le_trans HPJ.out hlt) HAJ.out (HM.out _ _ _ HMJ.out HU4.out))
              obtain ⟨x0, x1, x2, x3, x4⟩ := box_cells HB4.out
              go_wp2_with fail
              refine HCV.out.mono ?_
              rintro e w5 ⟨rfl, hm5, hk5⟩
              have HM5 := Lib.hid hm5
              have HK5 := Lib.hid ((HKJ.out.trans (KX.up HU4.out)).trans hk5)
              have HR5 := Lib.hid (hk5.box HR4.out HNX.out)
              clear hm5 hk5 HCV x0 x1 x2 x3 x4
              cases hask : ask pre V
              · have HHN : Hid (handed ask [] (seenL ws first rr) = pre ++ [V]) := Lib.hid (by rw [HHJ.out, HS.out, hbo]; show handed ask pre (V :: _) = _; rw [handed, hask]; rfl)
                clear HS hbo hask
                go_wp2_with fail
                refine bodyPost_ret (results_none rfl _ _ _) rfl ?_
                exact ⟨⟨_, rfl⟩, by rw [HHN.out]; exact HM5.out, HK5.out⟩
              · have HAS : Hid (Asked ask (pre ++ [V])) := Lib.hid (.inr ⟨pre, V, rfl, hask⟩)
                have HHN : Hid (handed ask [] (seenL ws first rr) = handed ask (pre ++ [V]) (bothV (ws.drop (j + 1)) rr)) := Lib.hid (by rw [HHJ.out, HS.out, hbo]; show handed ask pre (V :: _) = _; rw [handed, hask]; rfl)
                clear HS hbo hask
                go_wp2_with fail
                go_roundw
                case rel => exact ⟨j + 1, pre ++ [V], by omega, by go_num, HR5.out, HM5, HK5, HAS, Lib.hid (by rw [List.length_append]; exact Nat.succ_le_succ HPJ.out), HHN⟩
                case measure => simp [intOf]; omega
          · obtain rfl : j = ws.length := by omega
            clear hlt
            have HHN : Hid (handed ask [] (seenL ws first rr) = pre) := Lib.hid (by rw [HHJ.out, HBE.out]; rfl)
            go_wp2_with fail
            go_end0
            exact ⟨⟨_, rfl⟩, by rw [HHN.out]; exact HMJ.out, HKJ.out⟩

theorem seen_any (K : Nat) (cap : List Value) (X : Nat → Prop) (M : List Int → World → Prop) (ask : List Int → Int → Bool) (ws : List OpD) (A : Option Addr) (c : Nat) (first : Int) (r : OpD) (w : World) (hL : ws.length ≤ 1000000) (hcf : ∀ args W, (callFunc K args).run Try.prog W = .ok (.enter K args) W)
    (hX : ∀ k, X k → k < w.heap.size) (hM : ∀ pre W W', M pre W → Up W W' → M pre W') (hrow : ∀ W, KX X w W → OpRow W A ws) (h0 : M [] w)
    (hcl : ∀ pre x W, Asked ask pre → M pre W → Calls Try.prog K (.int .i64 x :: cap).toArray W fun e W' => e = .returned (.bool (ask pre x)) ∧ M (pre ++ [x]) W' ∧ KX X W W') :
    Calls Try.prog 26 #[.slice A ws.length c, .int .i64 first, oagg r, .func (.func K) #[] cap.toArray] w fun e w' => (∃ v, e = .returned v) ∧ M (handed ask [] (seenL ws first r)) w' ∧ KX X w w' :=
  seen_gen K cap X M ask ws A c first r w hL hcf (fun h => Nat.lt_irrefl _ (hX _ h)) hM hrow h0 (fun pre x W _ _ => hcl pre x W)

end Go.Proofs.Ytpefcbmmbpcalaa
