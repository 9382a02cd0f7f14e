/-
  The walks of Digits at digits, and of the document's Text and Parse.
-/
import Derived.Test.YtaplhooapgfdgaaDoorCycG
set_option linter.unusedVariables false
set_option linter.unusedSimpArgs false
namespace Go.Proofs.YtaplhooapgfdgaaDoor
open Go.RowKit

def strSize : Value → Nat
  | .string b => 1 - b.size
  | _ => 0

theorem digits_any (d : Int) (w : World) (h : digB d = true) : Calls Tryd.prog 24 #[.int .i64 d] w fun e w' => e = .returned (.string ⟨[chr d].toArray⟩) ∧ w = w' := by
  rcases digB_cases d h with rfl | rfl | rfl
  all_goals
    clear h
    go_enter Tryd.func24, Tryd.ntmps24
    go_wp2_with fail
  · go_loop [0, 4] (fun n s => (n = .int .i64 0 ∧ s = .string ⟨#[]⟩) ∨ (n = .int .i64 0 ∧ s = .string ⟨#[48]⟩)) (fun _ s => strSize s)
    case atStart => exact .inl ⟨rfl, rfl⟩
    case round =>
      rcases hrel with ⟨rfl, rfl⟩ | ⟨rfl, rfl⟩
      · go_wp2_with fail
        go_round
        case rel => exact .inr ⟨rfl, rfl⟩
        case measure => decide
      · go_wp2_with fail
        go_ret
        exact ⟨rfl, rfl⟩
  · go_loop [0, 4] (fun n s => (n = .int .i64 (-1) ∧ s = .string ⟨#[]⟩) ∨ (n = .int .i64 0 ∧ s = .string ⟨#[49]⟩)) (fun _ s => strSize s)
    case atStart => exact .inl ⟨rfl, rfl⟩
    case round =>
      rcases hrel with ⟨rfl, rfl⟩ | ⟨rfl, rfl⟩
      · go_wp2_with fail
        go_round
        case rel => exact .inr ⟨rfl, rfl⟩
        case measure => decide
      · go_wp2_with fail
        go_ret
        exact ⟨rfl, rfl⟩
  · go_loop [0, 4] (fun n s => (n = .int .i64 (-2) ∧ s = .string ⟨#[]⟩) ∨ (n = .int .i64 0 ∧ s = .string ⟨#[50]⟩)) (fun _ s => strSize s)
    case atStart => exact .inl ⟨rfl, rfl⟩
    case round =>
      rcases hrel with ⟨rfl, rfl⟩ | ⟨rfl, rfl⟩
      · go_wp2_with fail
        go_round
        case rel => exact .inr ⟨rfl, rfl⟩
        case measure => decide
      · go_wp2_with fail
        go_ret
        exact ⟨rfl, rfl⟩

set_option maxHeartbeats 1000000 in
theorem rtext_any (l : List Int) (A : Option Addr) (c : Nat) (w : World) (hm : l.length ≤ 9223372036854775807) (hrow : Row w A l.length (IVal l)) :
    Calls Tryd.prog 18 #[.slice A l.length c] w fun e w' => e = .returned (.string ⟨(textL l).toArray⟩) ∧ w = w' := by
  have CF := Lib.hid (rfine_any l A c w hm hrow)
  cases hf : fineL l
  · rw [hf] at CF
    have HT := Lib.hid (show textL l = [] by unfold textL; rw [hf]; rfl)
    generalize l.length = n at *
    clear hf hrow
    go_enter Tryd.func18, Tryd.ntmps18
    go_wp2_with fail
    refine CF.out.mono ?_
    rintro e w' ⟨rfl, rfl⟩
    go_wp2_with fail
    go_ret
    exact ⟨by rw [HT.out]; rfl, rfl⟩
  · rw [hf] at CF
    have HT := Lib.hid (show textL l = if l = [] then [45] else l.map chr by unfold textL; rw [hf]; rfl)
    have HD := Lib.hid (show ∀ k, k < l.length → digB (l.getD k 0) = true by
      have := hf
      unfold fineL at this
      rw [Bool.and_eq_true] at this
      exact all_getD.1 this.2)
    have HR := Lib.hid hrow
    obtain ⟨n, hn⟩ : ∃ n, l.length = n := ⟨_, rfl⟩
    rw [hn] at CF hm ⊢
    have HN := Lib.hid hn
    have hn8 : n ≤ 8 := by
      have := hf
      unfold fineL at this
      simp at this
      omega
    clear hf hrow hn
    go_enter Tryd.func18, Tryd.ntmps18
    go_wp2_with fail
    refine CF.out.mono ?_
    rintro e w' ⟨rfl, rfl⟩
    go_wp2_with fail
    go_loop [3, 4] (fun s t => ∃ k : Nat, k ≤ n ∧ t = .int .i64 k ∧ s = .string ⟨((l.take k).map chr).toArray⟩) (fun _ t => n - (intOf t).toNat)
    case atStart => exact ⟨0, by omega, rfl, rfl⟩
    case round =>
      obtain ⟨k, hk, rfl, rfl⟩ := hrel
      by_cases hlt : k < n
      · obtain ⟨b, off, rfl, hc⟩ := HR.out k (by rw [HN.out]; exact hlt)
        unfold IVal at hc
        have hd := HD.out k (by rw [HN.out]; exact hlt)
        have C := Lib.hid (fun w => digits_any (l.getD k 0) w hd)
        have HX := Lib.hid (show (l.take k).map chr ++ [chr (l.getD k 0)] = (l.take (k + 1)).map chr by
          rw [getD_lt (by rw [HN.out]; exact hlt), List.take_succ_eq_append_getElem (by rw [HN.out]; exact hlt), List.map_append]; rfl)
        clear hd
        generalize l.getD k 0 = d at *
        have hpl : ¬ 9223372036854775807 < ((l.take k).map chr).length + 1 := by rw [List.length_map, List.length_take, HN.out]; omega
        generalize (l.take k).map chr = p at *
        go_wp2_with fail
        refine (C.out _).mono ?_
        rintro e w' ⟨rfl, rfl⟩
        go_wp2_with fail
        go_round
        case rel => exact ⟨k + 1, by omega, by go_num, by rw [← HX.out]; exact congrArg Value.string (ByteArray.mk_append_mk p [chr d])⟩
        case measure => simp [intOf]; omega
      · obtain rfl : k = n := by omega
        by_cases h0 : l = []
        · subst h0
          have HT2 := Lib.hid (show textL [] = [45] from rfl)
          obtain rfl : 0 = k := HN.out
          clear hlt hk hm
          go_wp2_with fail
          go_ret
          exact ⟨rfl, rfl⟩
        · have HT2 := Lib.hid (show textL l = (l.take k).map chr by
            rw [HT.out, if_neg h0, List.take_of_length_le (by rw [HN.out]; exact Nat.le_refl _)])
          have hne : ((ByteArray.mk ((l.take k).map chr).toArray).toList == []) = false := by
            rw [ByteArray.toList_mk, beq_eq_false_iff_ne]
            intro h
            rw [List.take_of_length_le (by rw [HN.out]; exact Nat.le_refl _)] at h
            exact h0 (List.map_eq_nil_iff.1 h)
          generalize (l.take k).map chr = p at *
          clear h0
          rw [ByteArray.toList_mk] at hne
          have hne2 : p.isEmpty = false := by cases p <;> first | rfl | simp at hne
          go_wp2_with fail
          go_ways
          go_ret
          exact ⟨by rw [HT2.out]; rfl, rfl⟩

end Go.Proofs.YtaplhooapgfdgaaDoor
