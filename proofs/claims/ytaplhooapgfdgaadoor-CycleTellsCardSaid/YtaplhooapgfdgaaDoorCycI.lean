/-
  The walk of the document's Parse.
-/
import Derived.Test.YtaplhooapgfdgaaDoorCycH
import Derived.Test.YtaplhooapgfdgaaDoorCycD
set_option linter.unusedVariables false
set_option linter.unusedSimpArgs false
namespace Go.Proofs.YtaplhooapgfdgaaDoor
open Go.RowKit

def RParsePost (r : Option (List Int)) (w : World) (e : Ending) (w' : World) : Prop :=
  match r with
  | none => e = .returned (.tuple #[.slice none 0 0, .bool false]) ∧ Up w w'
  | some l => ∃ A c, e = .returned (.tuple #[.slice A l.length c, .bool true]) ∧ Row w' A l.length (IVal l) ∧ Up w w'

theorem chr_row (l : List UInt8) (h : (rowL l).all digB = true) : (rowL l).map chr = l := by
  induction l with
  | nil => rfl
  | cons c l ih =>
    unfold rowL at h ih ⊢
    simp only [List.map_cons, List.all_cons, Bool.and_eq_true] at h ⊢
    rw [ih h.2]
    congr 1
    have hn := c.toNat_lt
    unfold chr
    rcases digB_cases _ h.1 with g | g | g
    all_goals
      rw [show (48 + ((c.toNat : Int) - 48)).toNat = c.toNat from by omega]
      exact UInt8.ofNat_toNat

theorem rowL_length (l : List UInt8) : (rowL l).length = l.length := by unfold rowL; simp

/-- What the texts of rows say: the two ways to read agree. -/
theorem parse_agrees (l : List UInt8) (h0 : l ≠ []) (h1 : l ≠ [45]) :
    (textL (rowL (l.take 9)) = l ∧ parseL l = some (rowL (l.take 9))) ∨ (textL (rowL (l.take 9)) ≠ l ∧ parseL l = none) := by
  unfold parseL
  rw [if_neg h1, if_neg (by simpa using h0)]
  by_cases h8 : 8 < l.length
  · rw [if_pos h8]
    right
    refine ⟨?_, rfl⟩
    have hf : fineL (rowL (l.take 9)) = false := by
      unfold fineL
      rw [decide_eq_false (by rw [rowL_length, List.length_take]; omega)]; rfl
    unfold textL
    rw [hf]
    exact fun h => h0 h.symm
  · rw [if_neg h8, List.take_of_length_le (by omega)]
    cases hf : fineL (rowL l)
    · right
      unfold textL
      rw [hf]
      exact ⟨fun h => h0 h.symm, rfl⟩
    · left
      have hall : (rowL l).all digB = true := by unfold fineL at hf; rw [Bool.and_eq_true] at hf; exact hf.2
      unfold textL
      rw [hf]
      have hne : rowL l ≠ [] := fun h => h0 (by have := rowL_length l; rw [h] at this; exact List.eq_nil_of_length_eq_zero this.symm)
      simp only [if_true]
      rw [if_neg hne]
      exact ⟨chr_row l hall, trivial⟩

theorem bytes_eq {s : ByteArray} {l : List UInt8} (h : s.data.toList = l) : s = ⟨l.toArray⟩ := by
  cases s with
  | mk d => subst h; simp

set_option maxHeartbeats 1000000 in
theorem rparse_any (s : ByteArray) (w : World) (hs : s.size ≤ 9223372036854775807) : Calls Tryd.prog 20 #[.string s] w fun e w' => RParsePost (parseL s.data.toList) w e w' := by
  by_cases h1 : s.data.toList = [45]
  · obtain rfl := bytes_eq h1
    have CT := Lib.hid (fun w => rtext_any [] none 0 w (by decide) (Row.nil _ _ _))
    clear h1 hs
    go_enter Tryd.func20, Tryd.ntmps20
    go_wp2_with fail
    refine wp_loop_rounds 1 ?_
    rw [rounds_succ]
    go_wp2_with fail
    refine (CT.out _).mono ?_
    rintro e w' ⟨rfl, rfl⟩
    go_wp2_with fail
    go_ret2
    exact ⟨none, 0, rfl, Row.nil _ _ _, Up.refl _⟩
  · by_cases h0 : s.data.toList = []
    · obtain rfl := bytes_eq h0
      clear h1 hs h0
      go_enter Tryd.func20, Tryd.ntmps20
      go_wp2_with fail
      refine wp_loop_rounds 1 ?_
      rw [rounds_succ]
      go_wp2_with fail
      go_ret2
      exact ⟨rfl, Up.refl _⟩
    · have hsz : s.data.toList.length = s.size := rfl
      have HA := Lib.hid (parse_agrees s.data.toList h0 h1)
      have h2 : (s.toList == [45]) = false := by rw [ByteArray.toList_eq, beq_eq_false_iff_ne]; exact h1
      have h3 : (s.toList == []) = false := by rw [ByteArray.toList_eq, beq_eq_false_iff_ne]; exact h0
      have h3' : s.toList.isEmpty = false := by rw [ByteArray.toList_eq]; cases h : s.data.toList <;> first | rfl | exact absurd h h0
      have hn0 : 0 < s.size := by rw [← hsz]; exact List.length_pos_iff.2 h0
      have HSZ := Lib.hid hsz
      obtain ⟨m, hm⟩ : ∃ m, min s.size 9 = m := ⟨_, rfl⟩
      have hm9 : m ≤ 9 := by omega
      have hms : m ≤ s.size := by omega
      have hm0 : 0 < m := by omega
      have HM := Lib.hid hm
      obtain ⟨i0, hi, hz0, hz1, hz2⟩ := info_parts infoI
      have HI := Lib.hid hi
      have HZ0 := Lib.hid hz0
      have HZ1 := Lib.hid hz1
      have HZ2 := Lib.hid hz2
      clear hsz h1 h0 hi hz0 hz1 hz2 hm
      go_enter Tryd.func20, Tryd.ntmps20
      go_wp2_with fail
      go_loopw [4, 5] (fun v t wr => ∃ k : Nat, k ≤ m ∧ t = .int .i64 k ∧ Hid (wr.ownsRow w.heap.size 3 1 v k ((rowL (s.data.toList.take k)).map (Value.int .i64))) ∧ Hid (Up w wr)) (fun _ t _ => m - (intOf t).toNat)
      case atStart => exact ⟨0, by omega, rfl, Lib.hid (own_nil _ _ _ _), Lib.hid (Up.refl _)⟩
      case round =>
        obtain ⟨k, hk, rfl, HO, HW⟩ := hrel
        by_cases hlt : k < m
        · have hks : k < s.size := by omega
          have HX := Lib.hid (show (rowL (s.data.toList.take k)).map (Value.int .i64) ++ [.int .i64 ((s[k].toNat : Int) - 48)] = (rowL (s.data.toList.take (k + 1))).map (Value.int .i64) by
            rw [List.take_succ_eq_append_getElem (by rw [HSZ.out]; exact hks)]
            unfold rowL
            rw [List.map_append, List.map_append]; rfl)
          have hbyte : (s[k].toNat : Int) ≤ 255 := by have := s[k].toNat_lt; omega
          have hB : w.heap.size ≤ wr.heap.size := HW.out.size
          have HC := Lib.hid (show (k + 1) * 8 ≤ 140737488355328 by omega)
          go_wp2_with (at_builtin; refine wpList_push (news := [.int .i64 ((s[k].toNat : Int) - 48)]) rfl _ _ 22 rfl w.heap.size i0 _ 1 8 Tryd.underlying22 HI.out HZ0.out HZ1.out HZ2.out rfl (by decide) _ _ _ rfl HO.out rfl rfl (by simp [Value.oneCell']) (by decide) HC.out hB ?_; intro v' w1 hown' _ hb')
          rw [HX.out] at hown'
          have HO2 := Lib.hid hown'
          have HW2 := Lib.hid (show Up w w1 from Below.trans HW.out hb')
          clear hown' hb' HX HO
          go_wp2_with fail
          go_roundw
          case rel => exact ⟨k + 1, by omega, by go_num, HO2, HW2⟩
          case measure => simp [intOf]; omega
        · obtain rfl : k = m := by omega
          have hrl : (rowL (s.data.toList.take 9)).length = k := by rw [rowL_length, List.length_take, HSZ.out]; have := HM.out; omega
          have htake : s.data.toList.take k = s.data.toList.take 9 := by
            rw [← HM.out, ← HSZ.out]
            rcases Nat.le_total s.data.toList.length 9 with g | g
            · rw [Nat.min_eq_left g, List.take_length, List.take_of_length_le g]
            · rw [Nat.min_eq_right g]
          have HO1 := HO.out
          rw [htake] at HO1
          generalize rowL (s.data.toList.take 9) = row at *
          obtain ⟨A', c', he, hrow, hcap⟩ := own_row HO1 (f := IVal row) (fun j hj => iVal_map (by rw [hrl]; exact hj))
          rw [he]
          have ct := rtext_any row A' c' wr (by omega) (by rw [hrl]; exact hrow)
          rw [hrl] at ct
          have HR := Lib.hid hrow
          have HRL := Lib.hid hrl
          clear hrow hrl HO1 he HO htake
          have hsl : ∀ t : List UInt8, (ByteArray.mk t.toArray).toList = t := fun t => ByteArray.toList_mk t
          rcases HA.out with ⟨ha, hp⟩ | ⟨ha, hp⟩
          · rw [ha] at ct
            have CT := Lib.hid ct
            have HP := Lib.hid hp
            clear ct hp ha hsl HA
            by_cases hks : k < s.size
            · obtain rfl : k = 9 := by have := HM.out; omega
              go_wp2_with fail
              refine CT.out.mono ?_
              rintro e w' ⟨rfl, rfl⟩
              go_wp2_with fail
              go_ret2
              rw [HP.out]
              exact ⟨A', c', by rw [HRL.out]; rfl, by rw [HRL.out]; exact HR.out, HW.out⟩
            · go_wp2_with fail
              refine CT.out.mono ?_
              rintro e w' ⟨rfl, rfl⟩
              go_wp2_with fail
              go_ret2
              rw [HP.out]
              exact ⟨A', c', by rw [HRL.out]; rfl, by rw [HRL.out]; exact HR.out, HW.out⟩
          · have hne : (textL row == s.toList) = false := by rw [ByteArray.toList_eq, beq_eq_false_iff_ne]; exact ha
            have HP := Lib.hid hp
            clear hp ha hsl HA
            generalize textL row = t at *
            have CT := Lib.hid ct
            clear ct
            by_cases hks : k < s.size
            · obtain rfl : k = 9 := by have := HM.out; omega
              go_wp2_with fail
              refine CT.out.mono ?_
              rintro e w' ⟨rfl, rfl⟩
              go_wp2_with fail
              go_ret2
              rw [HP.out]
              exact ⟨rfl, HW.out⟩
            · go_wp2_with fail
              refine CT.out.mono ?_
              rintro e w' ⟨rfl, rfl⟩
              go_wp2_with fail
              go_ret2
              rw [HP.out]
              exact ⟨rfl, HW.out⟩

end Go.Proofs.YtaplhooapgfdgaaDoor
