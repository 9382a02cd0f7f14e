/-
  The document's next: those that may tell.
-/
import Derived.Test.YtpefcbmmbpcalaaDoorMask
import Derived.Test.YtpefcbmmbpcalaaDoorAhd
import Derived.Deep.DeepCutAuto
import Derived.Deep.QuietTactic
import Derived.BigQuiet
import Derived.Deep.RegionHeld3
set_option linter.unusedVariables false
set_option linter.unusedSimpArgs false
namespace Go.Proofs.YtpefcbmmbpcalaaDoor
open Go.RowKit

def ncells (l : List Nat) : List Value := l.map fun (i : Nat) => Value.int .i64 (i : Int)
theorem ncells_append (l m : List Nat) : ncells (l ++ m) = ncells l ++ ncells m := by unfold ncells; rw [List.map_append]
theorem ncells_len (l : List Nat) : (ncells l).length = l.length := by simp [ncells]
def OwnN (w : World) (B : Nat) (v : Value) (l : List Nat) : Prop := w.ownsRow B 3 1 v l.length (ncells l)
def mayK (l : List OpD) (d i k : Nat) : Bool := !hasB d i && (List.range k).all fun q => hasB d q || !aheadB (l.getD q op0) (l.getD i op0)
def mayB (l : List OpD) (d i : Nat) : Bool := mayK l d i l.length
def nextK (l : List OpD) (d n : Nat) : List Nat := (List.range n).filter (mayB l d)
def nextL (l : List OpD) (d : Nat) : List Nat := nextK l d l.length
theorem mayK_succ (l : List OpD) (d i k : Nat) : mayK l d i (k + 1) = (mayK l d i k && (hasB d k || !aheadB (l.getD k op0) (l.getD i op0))) := by
  unfold mayK
  rw [List.range_succ, List.all_append, Bool.and_assoc]
  simp
theorem nextK_succ (l : List OpD) (d n : Nat) : nextK l d (n + 1) = if mayB l d n then nextK l d n ++ [n] else nextK l d n := by
  unfold nextK
  rw [List.range_succ, List.filter_append]
  by_cases h : mayB l d n
  · simp [h]
  · simp [h]
theorem nextK_len (l : List OpD) (d n : Nat) : (nextK l d n).length ≤ n := by
  have := List.length_filter_le (mayB l d) (List.range n)
  rw [List.length_range] at this
  exact this
theorem infoI : (Tryd.prog.info? 3).map (fun i => (i.zero, i.size, i.bytes)) = some (some (.int .i64 0), 1, 8) := by kernel_rfl
theorem iparts {P : Program} {e : TypeId} {z : Value} {s b : Nat} (h : (P.info? e).map (fun i => (i.zero, i.size, i.bytes)) = some (some z, s, b)) : ∃ i, P.info? e = some i ∧ i.zero = some z ∧ i.size = s ∧ i.bytes = b := by
  cases hi : P.info? e with
  | none => rw [hi] at h; cases h
  | some i =>
    rw [hi] at h
    simp only [Option.map_some, Option.some.injEq, Prod.mk.injEq] at h
    exact ⟨i, rfl, h.1, h.2.1, h.2.2⟩
theorem own_up4 {w w' : World} {B e size n : Nat} {v : Value} {xs : List Value} (h : w.ownsRow B e size v n xs) (u : Up w w') : w'.ownsRow B e size v n xs := by
  rcases h.2 with ⟨hv, hn⟩ | ⟨g, cap, cur, hv, hg, hh, hr⟩
  · exact ⟨h.1, .inl ⟨hv, hn⟩⟩
  · exact ⟨h.1, .inr ⟨g, cap, cur, hv, hg, (u.block g (Array.getElem?_eq_some_iff.1 hh).1).trans hh, hr⟩⟩

set_option maxRecDepth 10000 in
set_option maxHeartbeats 2000000 in
theorem next_any (l : List OpD) (A : Option Addr) (c d : Nat) (w : World) (hL : l.length ≤ 64) (hd : d < top64) (hr : OpRow w A l) :
    Calls Tryd.prog 13 #[.slice A l.length c, .int .u64 d] w fun e w' => ∃ v, e = .returned v ∧ OwnN w' w.heap.size v (nextL l d) ∧ Up w w' := by
  obtain ⟨i0, hi, hz0, hz1, hz2⟩ := iparts infoI
  have HI := Lib.hid hi
  have HZ0 := Lib.hid hz0
  have HZ1 := Lib.hid hz1
  have HZ2 := Lib.hid hz2
  have HR := Lib.hid hr
  have hl2 : (l.length : Int) ≤ 64 := by omega
  have HC := Lib.hid (fun i W (h : i < l.length) => rhas_any d i W hd (by omega))
  have HMS := Lib.hid (mayK_succ l d)
  have HNS := Lib.hid (nextK_succ l d)
  have HLE := Lib.hid (fun n => nextK_len l d n)
  have HM0 : Hid (∀ i, mayK l d i 0 = !hasB d i) := Lib.hid (fun i => by unfold mayK; simp)
  have HMB : Hid (∀ i, mayB l d i = mayK l d i l.length) := Lib.hid (fun _ => rfl)
  have HL64 := Lib.hid hL
  clear hi hz0 hz1 hz2 hr hL hd
  go_enter Tryd.func13, Tryd.ntmps13
  go_wp2_with fail
  go_loopw [5, 6] (fun u x wr => ∃ i : Nat, i ≤ l.length ∧ x = .int .i64 i ∧ Hid (OwnN wr w.heap.size u (nextK l d i)) ∧ Hid (Up w wr)) (fun _ x _ => l.length - (intOf x).toNat)
  case atStart => exact ⟨0, by omega, rfl, Lib.hid (own_nil _ _ _ _), Lib.hid (Up.refl _)⟩
  case round =>
    obtain ⟨i, hi, rfl, HO, HV⟩ := hrel
    by_cases hlt : i < l.length
    · have hii : (i : Int) < l.length := by omega
      have hi0 : (0 : Int) ≤ i := by omega
      have HI1 := Lib.hid hlt
      have HSZ := Lib.hid HV.out.size
      have HC1 := Lib.hid (HC.out i wr hlt)
      have HM1 := Lib.hid (HM0.out i)
      go_wp2_with fail
      refine HC1.out.mono ?_
      rintro _ wz ⟨rfl, rfl⟩
      go_wp2_with fail
      rw [← HM1.out]
      go_loopw [7, 8] (fun m y wq => ∃ k : Nat, k ≤ l.length ∧ y = .int .i64 k ∧ m = .bool (mayK l d i k) ∧ Hid (Up wz wq)) (fun _ y _ => l.length - (intOf y).toNat)
      case atStart => exact ⟨0, by omega, rfl, rfl, Lib.hid (Up.refl _)⟩
      case round =>
        obtain ⟨k, hk, rfl, rfl, HVQ⟩ := hrel
        by_cases hlk : k < l.length
        · have hki : (k : Int) < l.length := by omega
          have hk0 : (0 : Int) ≤ k := by omega
          have HS := Lib.hid (HMS.out i k)
          have HC2 := Lib.hid (fun W => HC.out k W hlk)
          obtain ⟨bi, offi, eA, i0', i1, i2, i3, i4⟩ := HR.out.up (HV.out.trans HVQ.out) i HI1.out
          obtain ⟨bk, offk, eB, k0, k1, k2, k3, k4⟩ := HR.out.up (HV.out.trans HVQ.out) k hlk
          subst eA
          cases eB
          have HAH := Lib.hid (fun W => rahead_any (l.getD k op0) (l.getD i op0) W)
          generalize hm2 : mayK l d i (k + 1) = m2 at *
          have HM2 := Lib.hid hm2
          clear hm2
          generalize mayK l d i k = m at *
          generalize aheadB (l.getD k op0) (l.getD i op0) = ah at *
          generalize l.getD i op0 = p at *
          generalize l.getD k op0 = q at *
          generalize hasB d k = hb at *
          obtain ⟨PF, PT, PW, PV, PH⟩ := p
          obtain ⟨QF, QT, QW, QV, QH⟩ := q
          unfold oagg at HAH
          dsimp only at HAH i0' i1 i2 i3 i4 k0 k1 k2 k3 k4
          cases m
          · have HN : Hid (m2 = false) := Lib.hid (by rw [HS.out]; rfl)
            clear HS i0' i1 i2 i3 i4 k0 k1 k2 k3 k4
            go_wp2_with fail
            go_quiet (fail)
            go_wp2_with fail
            go_roundw
            case rel => exact ⟨k + 1, by omega, by go_num, by rw [HM2.out, HN.out], Lib.hid (below_drewN HVQ.out _)⟩
            case measure => simp [intOf]; omega
          · cases hb
            · have HN : Hid (m2 = !ah) := Lib.hid (by rw [HS.out]; rfl)
              have KP : Hid (∀ w', Up wr w' → Up wr w' ∧ w'.cell? ⟨bi, offi + i * 5, none⟩ = some (.int .i64 PF) ∧ w'.cell? ⟨bi, offi + i * 5 + 1, none⟩ = some (.int .i64 PT) ∧ w'.cell? ⟨bi, offi + i * 5 + 2, none⟩ = some (.bool PW) ∧ w'.cell? ⟨bi, offi + i * 5 + 3, none⟩ = some (.int .i64 PV) ∧ w'.cell? ⟨bi, offi + i * 5 + 4, none⟩ = some (.int .i64 PH) ∧ w'.cell? ⟨bi, offi + k * 5, none⟩ = some (.int .i64 QF) ∧ w'.cell? ⟨bi, offi + k * 5 + 1, none⟩ = some (.int .i64 QT) ∧ w'.cell? ⟨bi, offi + k * 5 + 2, none⟩ = some (.bool QW) ∧ w'.cell? ⟨bi, offi + k * 5 + 3, none⟩ = some (.int .i64 QV) ∧ w'.cell? ⟨bi, offi + k * 5 + 4, none⟩ = some (.int .i64 QH)) := Lib.hid (fun w' u => ⟨u, (u.cell (cell_lt i0')).trans i0', (u.cell (cell_lt i1)).trans i1, (u.cell (cell_lt i2)).trans i2, (u.cell (cell_lt i3)).trans i3, (u.cell (cell_lt i4)).trans i4, (u.cell (cell_lt k0)).trans k0, (u.cell (cell_lt k1)).trans k1, (u.cell (cell_lt k2)).trans k2, (u.cell (cell_lt k3)).trans k3, (u.cell (cell_lt k4)).trans k4⟩)
              have HCX := Lib.hid (fun W (u : Up wr W) => (HC2.out W).mono fun e w' (h : _ ∧ _) => show _ ∧ Up wr w' from ⟨h.1, by rw [h.2]; exact u⟩)
              have HAX := Lib.hid (fun W (u : Up wr W) => (HAH.out W).mono fun e w' (h : _ ∧ _) => show _ ∧ Up wr w' from ⟨h.1, u.trans h.2⟩)
              clear HS i0' i1 i2 i3 i4 k0 k1 k2 k3 k4 HC2 HAH
              go_wp2_with fail
              go_region_held3 (fun w' => Up wr w' ∧ w'.cell? ⟨bi, offi + i * 5, none⟩ = some (.int .i64 PF) ∧ w'.cell? ⟨bi, offi + i * 5 + 1, none⟩ = some (.int .i64 PT) ∧ w'.cell? ⟨bi, offi + i * 5 + 2, none⟩ = some (.bool PW) ∧ w'.cell? ⟨bi, offi + i * 5 + 3, none⟩ = some (.int .i64 PV) ∧ w'.cell? ⟨bi, offi + i * 5 + 4, none⟩ = some (.int .i64 PH) ∧ w'.cell? ⟨bi, offi + k * 5, none⟩ = some (.int .i64 QF) ∧ w'.cell? ⟨bi, offi + k * 5 + 1, none⟩ = some (.int .i64 QT) ∧ w'.cell? ⟨bi, offi + k * 5 + 2, none⟩ = some (.bool QW) ∧ w'.cell? ⟨bi, offi + k * 5 + 3, none⟩ = some (.int .i64 QV) ∧ w'.cell? ⟨bi, offi + k * 5 + 4, none⟩ = some (.int .i64 QH))
                (first | exact KP.out _ (by assumption) | exact KP.out _ (Up.refl _).drew)
                (first | (go_at_call 26; refine (HCX.out _ (And.left (by assumption))).mono ?_; rintro e w' ⟨rfl, hb⟩) | (go_at_call 25; refine (HAX.out _ (And.left (by assumption))).mono ?_; rintro e w' ⟨rfl, hb⟩))
              all_goals
                go_wp2_with fail
                go_roundw
                case rel => exact ⟨k + 1, by omega, by go_num, by rw [HM2.out, HN.out], Lib.hid (HVQ.out.trans (by first | assumption | exact And.left (by assumption)))⟩
                case measure => simp [intOf]; omega
            · have HN : Hid (m2 = true) := Lib.hid (by rw [HS.out]; rfl)
              clear HS i0' i1 i2 i3 i4 k0 k1 k2 k3 k4
              go_wp2_with fail
              go_quiet ((go_at_call 26; exact Calls.quiet_of_same (HC2.out _)))
              go_wp2_with fail
              go_roundw
              case rel => exact ⟨k + 1, by omega, by go_num, by rw [HM2.out, HN.out], Lib.hid (below_drewN HVQ.out _)⟩
              case measure => simp [intOf]; omega
        · obtain rfl : k = l.length := by omega
          clear hlk
          have HUQ := Lib.hid (HV.out.trans HVQ.out)
          have HOQ := Lib.hid (own_up4 HO.out HVQ.out)
          have HNI := Lib.hid (HNS.out i)
          have HSQ := Lib.hid HUQ.out.size
          rw [← HMB.out]
          cases hmb : mayB l d i
          · have HNJ : Hid (nextK l d (i + 1) = nextK l d i) := Lib.hid (by rw [HNI.out, hmb]; rfl)
            clear HNI hmb
            go_wp2_with fail
            go_roundw
            case rel => exact ⟨i + 1, by omega, by go_num, by rw [HNJ.out]; exact HOQ, HUQ⟩
            case measure => simp [intOf]; omega
          · have HNJ : Hid (nextK l d (i + 1) = nextK l d i ++ [i]) := Lib.hid (by rw [HNI.out, hmb]; rfl)
            have HLB : Hid (((nextK l d i).length + 1) * 8 ≤ 140737488355328) := Lib.hid (by have := HLE.out i; omega)
            clear HNI hmb
            go_wp2_with (at_builtin; refine wpList_push (news := [.int .i64 i]) rfl (.tmp 44) (.tmp 46) 24 rfl w.heap.size i0 (.int .i64 0) 1 8 Tryd.underlying24 HI.out HZ0.out HZ1.out HZ2.out rfl (by decide) _ (nextK l d i).length (ncells (nextK l d i)) rfl HOQ.out rfl rfl (by simp [Value.oneCell']) (by decide) HLB.out HSQ.out ?_; intro v' w6 hown6 hg hbl)
            have HO6 : Hid (OwnN w6 w.heap.size v' (nextK l d (i + 1))) := Lib.hid (by
              rw [HNJ.out]
              unfold OwnN
              rw [List.length_append, ncells_append]
              exact hown6)
            have HU6 := Lib.hid (show Up w w6 from Below.trans HUQ.out hbl)
            clear hown6 hg hbl
            go_wp2_with fail
            go_roundw
            case rel => exact ⟨i + 1, by omega, by go_num, HO6, HU6⟩
            case measure => simp [intOf]; omega
    · obtain rfl : i = l.length := by omega
      clear hlt
      go_wp2_with fail
      go_ret
      exact ⟨_, rfl, HO.out, HV.out⟩

end Go.Proofs.YtpefcbmmbpcalaaDoor
