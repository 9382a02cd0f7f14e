/-
  The walks of Parse (and of slices.Clip at ints).
-/
import Derived.Test.YtaplhooapgfdgaaDoorCycC
set_option linter.unusedVariables false
set_option linter.unusedSimpArgs false
namespace Go.Proofs.YtaplhooapgfdgaaDoor
open Go.RowKit

theorem slice_some {A : Option Addr} {g n n' c c' : Nat} (h : Value.slice (some ⟨g, 0, none⟩) n c = .slice A n' c') : some ⟨g, 0, none⟩ = A ∧ c = c' := by
  injection h with h1 _ h3
  exact ⟨h1, h3⟩

theorem clip_any (g n c : Nat) (w : World) (h : n ≤ c) (hc : c ≤ 9223372036854775807) : Calls Tryd.prog 25 #[.slice (some ⟨g, 0, none⟩) n c] w fun e w' => e = .returned (.slice (some ⟨g, 0, none⟩) n n) ∧ w = w' := by
  go_enter Tryd.func25, Tryd.ntmps25
  go_wp2_with fail
  go_ret
  exact ⟨rfl, rfl⟩

def rowL (l : List UInt8) : List Int := l.map fun c => (c.toNat : Int) - 48
/-- What a text is read as. -/
def parseL (l : List UInt8) : Option (List Int) :=
  if l = [45] then some [] else if l.length = 0 then none else if 8 < l.length then none else if fineL (rowL l) then some (rowL l) else none

def ParsePost (r : Option (List Int)) (w : World) (e : Ending) (w' : World) : Prop :=
  match r with
  | none => e = .returned (.tuple #[.slice none 0 0, .int .i64 3]) ∧ Below w.heap.size w w'
  | some l => ∃ A c, e = .returned (.tuple #[.slice A l.length c, .int .i64 0]) ∧ Row w' A l.length (IVal l) ∧ Below w.heap.size w w'

set_option maxHeartbeats 1000000 in
theorem parse_any (s : ByteArray) (w : World) (hs : s.size ≤ 9223372036854775807) : Calls Tryd.prog 19 #[.string s] w fun e w' => ParsePost (parseL s.data.toList) w e w' := by
  have hsz : s.data.toList.length = s.size := rfl
  by_cases h1 : s.data.toList = [45]
  · have HP := Lib.hid (show parseL s.data.toList = some [] by unfold parseL; rw [if_pos h1])
    have h2 : (s.toList == [45]) = true := by rw [ByteArray.toList_eq, h1]; rfl
    clear hsz h1
    go_enter Tryd.func19, Tryd.ntmps19
    go_wp2_with fail
    go_ret2
    rw [HP.out]
    exact ⟨none, 0, rfl, Row.nil _ _ _, Below.refl _ _⟩
  · have h2 : (s.toList == [45]) = false := by rw [ByteArray.toList_eq, beq_eq_false_iff_ne]; exact h1
    by_cases h3 : s.size = 0
    · have HP := Lib.hid (show parseL s.data.toList = none by unfold parseL; rw [if_neg h1, if_pos (by rw [hsz, h3])])
      have h4 : ((s.size : Int) == 0) = true := by rw [h3]; rfl
      clear hsz h1 h3
      go_enter Tryd.func19, Tryd.ntmps19
      go_wp2_with fail
      go_ret2
      rw [HP.out]
      exact ⟨rfl, Below.refl _ _⟩
    · have h4 : ((s.size : Int) == 0) = false := beq_eq_false_iff_ne.2 (by omega)
      by_cases h5 : 8 < s.size
      · have HP := Lib.hid (show parseL s.data.toList = none by unfold parseL; rw [if_neg h1, if_neg (by rw [hsz]; exact h3), if_pos (by rw [hsz]; exact h5)])
        clear hsz h1 h3
        go_enter Tryd.func19, Tryd.ntmps19
        go_wp2_with fail
        go_ret2
        rw [HP.out]
        exact ⟨rfl, Below.refl _ _⟩
      · have HP := Lib.hid (show parseL s.data.toList = if fineL (rowL s.data.toList) then some (rowL s.data.toList) else none by
          unfold parseL; rw [if_neg h1, if_neg (by rw [hsz]; exact h3), if_neg (by rw [hsz]; exact h5)])
        have hn0 : 0 < s.size := by omega
        have hn8 : s.size ≤ 8 := by omega
        have HSZ := Lib.hid hsz
        obtain ⟨i0, hi, hz0, hz1, hz2⟩ := info_parts infoI
        have HI := Lib.hid hi
        have HZ0 := Lib.hid hz0
        have HZ1 := Lib.hid hz1
        have HZ2 := Lib.hid hz2
        clear hsz h1 h3 h5 hi hz0 hz1 hz2
        go_enter Tryd.func19, Tryd.ntmps19
        go_wp2_with fail
        go_loopw [4, 18] (fun v t wr => ∃ k : Nat, k ≤ s.size ∧ t = .int .i64 k ∧ Hid (wr.ownsRow w.heap.size 3 1 v k ((rowL (s.data.toList.take k)).map (Value.int .i64))) ∧ Hid (Below w.heap.size w wr)) (fun _ t _ => s.size - (intOf t).toNat)
        case atStart => exact ⟨0, by omega, rfl, Lib.hid (own_nil _ _ _ _), Lib.hid (Below.refl _ _)⟩
        case round =>
          obtain ⟨k, hk, rfl, HO, HW⟩ := hrel
          by_cases hlt : k < s.size
          · have HX := Lib.hid (show (rowL (s.data.toList.take k)).map (Value.int .i64) ++ [.int .i64 ((s[k].toNat : Int) - 48)] = (rowL (s.data.toList.take (k + 1))).map (Value.int .i64) by
              rw [List.take_succ_eq_append_getElem (by rw [HSZ.out]; exact hlt)]
              unfold rowL
              rw [List.map_append, List.map_append]; rfl)
            have hbyte : (s[k].toNat : Int) ≤ 255 := by have := s[k].toNat_lt; omega
            have hB : w.heap.size ≤ wr.heap.size := HW.out.size
            have HC := Lib.hid (show (k + 1) * 8 ≤ 140737488355328 by omega)
            go_wp2_with (at_builtin; refine wpList_push (news := [.int .i64 ((s[k].toNat : Int) - 48)]) rfl _ _ 22 rfl w.heap.size i0 _ 1 8 Tryd.underlying22 HI.out HZ0.out HZ1.out HZ2.out rfl (by decide) _ _ _ rfl HO.out rfl rfl (by simp [Value.oneCell']) (by decide) HC.out hB ?_; intro v' w1 hown' _ hb')
            rw [HX.out] at hown'
            have HO2 := Lib.hid hown'
            have HW2 := Lib.hid (HW.out.trans hb')
            clear hown' hb' HX HO
            go_wp2_with fail
            go_roundw
            case rel => exact ⟨k + 1, by omega, by go_num, HO2, HW2⟩
            case measure => simp [intOf]; omega
          · obtain rfl : k = s.size := by omega
            have hrl : (rowL s.data.toList).length = s.size := by unfold rowL; rw [List.length_map, HSZ.out]
            have HO1 := HO.out
            rw [List.take_of_length_le (by rw [HSZ.out]; exact Nat.le_refl _)] at HO1
            obtain ⟨g, cap, hv, _, _⟩ := HO1.form hn0
            rw [hv]
            rw [hv] at HO1
            obtain ⟨A', c', he, hrow, hcap⟩ := own_row HO1 (f := IVal (rowL s.data.toList)) (fun j hj => iVal_map (by rw [hrl]; exact hj))
            obtain ⟨rfl, rfl⟩ := slice_some he
            have hcm : cap ≤ 9223372036854775807 := by
              rcases HO1.2 with ⟨h, _⟩ | ⟨g2, cap2, cur2, h, _, _, _, hm2, _⟩
              · injection h with h _ _; cases h
              · injection h with _ _ h; subst h; exact hm2
            have cf := fine_any (rowL s.data.toList) (some ⟨g, 0, none⟩) cap wr (by omega) (by rw [hrl]; exact hrow)
            rw [hrl] at cf
            have HR := Lib.hid hrow
            have HRL := Lib.hid hrl
            have CC := Lib.hid (clip_any g s.size cap wr hcap hcm)
            clear hrow hrl HO1 he hv HO
            cases hf : fineL (rowL s.data.toList)
            · rw [hf] at cf
              have CF := Lib.hid cf
              have HP2 := HP.out
              rw [hf] at HP2
              have HP3 := Lib.hid HP2
              clear cf hf HP2
              go_wp2_with fail
              refine CF.out.mono ?_
              rintro e w' ⟨rfl, rfl⟩
              go_wp2_with fail
              go_ret2
              rw [HP3.out]
              exact ⟨rfl, HW.out⟩
            · rw [hf] at cf
              have CF := Lib.hid cf
              have HP2 := HP.out
              rw [hf] at HP2
              have HP3 := Lib.hid HP2
              clear cf hf HP2
              go_wp2_with fail
              refine CF.out.mono ?_
              rintro e w' ⟨rfl, rfl⟩
              go_wp2_with fail
              refine CC.out.mono ?_
              rintro e w' ⟨rfl, rfl⟩
              go_wp2_with fail
              go_ret2
              rw [HP3.out]
              refine ⟨some ⟨g, 0, none⟩, s.size, by rw [HRL.out]; rfl, ?_, HW.out⟩
              rw [HRL.out]
              exact HR.out

end Go.Proofs.YtaplhooapgfdgaaDoor
