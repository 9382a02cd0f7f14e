/-
  Rows of strips: a table's, many's.
-/
import Derived.Test.YtlclijnoablejaaStrA
set_option linter.unusedVariables false
set_option linter.unusedSimpArgs false
namespace Go.Proofs.Ytlclijnoablejaa
open Go.RowKit

theorem Sums.nil : Sums [] 0 0 := ⟨rfl, rfl, fun a h => by cases h⟩
set_option maxHeartbeats 1000000 in
theorem threads_table (n : Nat) (w : World) (hn : 1 ≤ n ∧ n ≤ 8) : Calls Try.prog 61 #[.int .i64 n] w fun e w' => e = .returned (.int .i64 n) ∧ w' = w := by
  have e1 : min (n : Int) 8 = n := by omega
  have e2 : max 1 (n : Int) = n := by omega
  go_enter Try.func61, Try.ntmps61
  go_wp2_with fail
  all_goals
    go_ret
    refine ⟨?_, rfl⟩
    refine congrArg (fun z => Ending.returned (Value.int .i64 z)) ?_
    omega
set_option maxHeartbeats 1000000 in
theorem threads_many (n : Nat) (w : World) (hn : 1 ≤ n ∧ n ≤ 8) : Calls Try.prog 62 #[.int .i64 n] w fun e w' => e = .returned (.int .i64 n) ∧ w' = w := by
  have e1 : min (n : Int) 8 = n := by omega
  have e2 : max 1 (n : Int) = n := by omega
  go_enter Try.func62, Try.ntmps62
  go_wp2_with fail
  all_goals
    go_ret
    refine ⟨?_, rfl⟩
    refine congrArg (fun z => Ending.returned (Value.int .i64 z)) ?_
    omega

set_option maxRecDepth 10000 in
set_option maxHeartbeats 1000000 in
theorem bstrips_any (n : Nat) (w : World) (hn : 1 ≤ n ∧ n ≤ 8) : Calls Try.prog 58 #[.int .i64 n] w fun e w' => ∃ v l, e = .returned v ∧ OwnStr w' w.heap.size v l ∧ Sums l (2 * ((n - 1) * (n - 1))) (16 * (((n - 1) * (n - 1) : Nat) : Int)) ∧ Up w w' ∧ (n = 1 → v = .slice none 0 0) := by
  obtain ⟨i0, hi, hz0, hz1, hz2⟩ := sinfo_parts infoStrip
  have HI := Lib.hid hi
  have HZ0 := Lib.hid hz0
  have HZ1 := Lib.hid hz1
  have HZ2 := Lib.hid hz2
  obtain ⟨k, hk⟩ : ∃ k : Nat, n - 1 = k := ⟨_, rfl⟩
  have hk1 : (n : Int) - 1 = k := by omega
  have hk7 : k ≤ 7 := by omega
  obtain ⟨q, hq⟩ : ∃ q : Nat, k * k = q := ⟨_, rfl⟩
  have hq1 : (k : Int) * k = q := by rw [← hq]; simp
  have hq49 : q ≤ 49 := by rw [← hq]; exact Nat.mul_le_mul hk7 hk7
  have hw1 : wrap64 ((n : Int) - 1) = (k : Int) := by rw [hk1]; exact IntWalk.wrap64_in _ (by omega)
  have hw2 : wrap64 ((k : Int) * k) = (q : Int) := by rw [hq1]; exact IntWalk.wrap64_in _ (by omega)
  rw [hk, hq]
  have HQ := Lib.hid hq49
  have HN1 := Lib.hid (show n = 1 → q = 0 from fun e => by subst e; rw [← hq, ← hk])
  have HTH := Lib.hid (threads_table n w hn)
  clear hi hz0 hz1 hz2
  go_enter Try.func58, Try.ntmps58
  go_wp2_with fail
  refine HTH.out.mono ?_
  rintro e w1 ⟨rfl, rfl⟩
  go_wp2_with fail
  clear hk hk1 hk7 hq hq1 hw1 hw2 hn HTH
  go_loopw [4, 11] (fun u v wr => ∃ (j : Nat) (l : List (Int × Int × Int)), j ≤ q ∧ v = .int .i64 j ∧ Hid (OwnStr wr w1.heap.size u l ∧ Sums l (2 * j) (16 * (j : Int)) ∧ Up w1 wr ∧ (j = 0 → u = .slice none 0 0))) (fun _ v _ => q - (intOf v).toNat)
  case atStart => exact ⟨0, [], by omega, rfl, Lib.hid ⟨⟨rfl, .inl ⟨rfl, rfl⟩⟩, Sums.nil, Up.refl _, fun _ => rfl⟩⟩
  case round =>
    obtain ⟨j, l, hj, rfl, HO⟩ := hrel
    by_cases hlt : j < q
    · have hji : (j : Int) < q := by omega
      go_wp2_with fail
      refine (sstrips_any _).mono ?_
      rintro e w2 ⟨v2, rfl, ho2, hu2⟩
      obtain ⟨g, cap, rfl, hg1, hg2⟩ := World.ownsRow.form ho2 (by decide)
      have HN := Lib.hid (fun j u h => ho2.cells (g := g) rfl j u h)
      have HOA := Lib.hid (own_up3 HO.out.1 hu2)
      have HUA := Lib.hid (HO.out.2.2.1.trans hu2)
      have HB := Lib.hid (show l.length + 2 ≤ maxLen ∧ (l.length + 2) * 24 ≤ 140737488355328 from by rw [HO.out.2.1.len]; unfold maxLen; omega)
      clear ho2 hu2 hg1 hg2
      go_wp2_with (at_builtin; refine wpList_append_lies _ rfl (.tmp 13) (.tmp 14) 56 rfl w1.heap.size 55 i0 (.agg #[.int .i64 0, .int .i64 0, .int .i64 0]) 3 24 Try.underlying56 HI.out HZ0.out HZ1.out HZ2.out rfl (by decide) _ l.length (scells l) rfl HOA.out ⟨g, 0, none⟩ 2 cap (scells slotL) rfl rfl HN.out (scells_one _) (by decide) HB.out.1 HB.out.2 HUA.out.size _ rfl ?_; intro g1 cap1 w6 hown6 hg hor hlt6)
      have HO6 := Lib.hid (show OwnStr w6 w1.heap.size (.slice (some ⟨g1, 0, none⟩) (l.length + 2) cap1) (l ++ slotL) ∧ Sums (l ++ slotL) (2 * (j + 1)) (16 * ((j + 1 : Nat) : Int)) ∧ Up w1 w6 ∧ (j + 1 = 0 → Value.slice (some ⟨g1, 0, none⟩) (l.length + 2) cap1 = .slice none 0 0) from by
        refine ⟨?_, ?_, show Below w1.heap.size w1 w6 from Below.grown HUA.out hg HUA.out.size (own_ge HOA.out), fun e => by omega⟩
        · unfold OwnStr
          rw [List.length_append, scells_append]
          exact hown6
        · have h := HO.out.2.1.append slotL_sums
          rw [show 2 * (j + 1) = 2 * j + 2 by omega, show (16 : Int) * ((j + 1 : Nat) : Int) = 16 * (j : Int) + 16 by omega]
          exact h)
      clear hown6 hg hor hlt6
      go_wp2_with fail
      go_roundw
      case rel => exact ⟨j + 1, _, by omega, by go_num, HO6⟩
      case measure => simp [intOf]; omega
    · obtain rfl : j = q := by omega
      clear hlt
      go_wp2_with fail
      go_ret
      exact ⟨_, l, rfl, HO.out.1, HO.out.2.1, HO.out.2.2.1, fun e => HO.out.2.2.2 (HN1.out e)⟩

set_option maxRecDepth 10000 in
set_option maxHeartbeats 1000000 in
theorem mstrips_any (n : Nat) (w : World) (hn : 1 ≤ n ∧ n ≤ 8) : Calls Try.prog 59 #[.int .i64 n] w fun e w' => ∃ v l, e = .returned v ∧ OwnStr w' w.heap.size v l ∧ Sums l (2 * ((n - 1) * (n - 1)) * n) (16 * (((n - 1) * (n - 1) * n : Nat) : Int)) ∧ Up w w' := by
  obtain ⟨i0, hi, hz0, hz1, hz2⟩ := sinfo_parts infoStrip
  have HI := Lib.hid hi
  have HZ0 := Lib.hid hz0
  have HZ1 := Lib.hid hz1
  have HZ2 := Lib.hid hz2
  have HBS := Lib.hid (fun W => bstrips_any n W hn)
  have HTH := Lib.hid (threads_many n w hn)
  clear hi hz0 hz1 hz2
  have hq49 : (n - 1) * (n - 1) ≤ 49 := Nat.mul_le_mul (show n - 1 ≤ 7 by omega) (show n - 1 ≤ 7 by omega)
  by_cases h1 : n = 1
  · subst h1
    go_enter Try.func59, Try.ntmps59
    go_wp2_with fail
    refine HTH.out.mono ?_
    rintro e w1 ⟨rfl, rfl⟩
    go_wp2_with fail
    go_loopw [3, 6] (fun u v wr => ∃ (j : Nat), j ≤ 1 ∧ v = .int .i64 j ∧ u = .slice none 0 0 ∧ Hid (Up w1 wr)) (fun _ v _ => 1 - (intOf v).toNat)
    case atStart => exact ⟨0, by omega, rfl, rfl, Lib.hid (Up.refl _)⟩
    case round =>
      obtain ⟨j, hj, rfl, rfl, HU⟩ := hrel
      by_cases hlt : j < 1
      · obtain rfl : j = 0 := by omega
        go_wp2_with fail
        refine (HBS.out _).mono ?_
        rintro e w2 ⟨v2, l, rfl, ho2, hs2, hu2, hv⟩
        have hv' : v2 = .slice none 0 0 := by first | exact hv rfl | exact hv trivial
        subst hv'
        have HU2 := Lib.hid (HU.out.trans hu2)
        clear ho2 hs2 hu2 hv
        go_wp2_with fail
        go_roundw
        case rel => exact ⟨1, by omega, by go_num, rfl, HU2⟩
        case measure => simp [intOf]
      · obtain rfl : j = 1 := by omega
        clear hlt
        go_wp2_with fail
        go_ret
        exact ⟨_, [], rfl, ⟨rfl, .inl ⟨rfl, rfl⟩⟩, Sums.nil, HU.out⟩
  · obtain ⟨q, hq⟩ : ∃ q : Nat, (n - 1) * (n - 1) = q := ⟨_, rfl⟩
    have hq1 : 1 ≤ q := by
      rw [← hq]
      have : 1 * 1 ≤ (n - 1) * (n - 1) := Nat.mul_le_mul (by omega) (by omega)
      omega
    rw [hq] at HBS hq49 ⊢
    have HQ := Lib.hid (And.intro hq1 hq49)
    have HNN := Lib.hid hn
    clear hq hq1 hq49 h1
    go_enter Try.func59, Try.ntmps59
    go_wp2_with fail
    refine HTH.out.mono ?_
    rintro e w1 ⟨rfl, rfl⟩
    go_wp2_with fail
    go_loopw [3, 6] (fun u v wr => ∃ (j : Nat) (l : List (Int × Int × Int)), j ≤ n ∧ v = .int .i64 j ∧ Hid (OwnStr wr w1.heap.size u l ∧ Sums l (2 * q * j) (16 * ((q * j : Nat) : Int)) ∧ Up w1 wr)) (fun _ v _ => n - (intOf v).toNat)
    case atStart => exact ⟨0, [], by omega, rfl, Lib.hid ⟨⟨rfl, .inl ⟨rfl, rfl⟩⟩, Sums.nil, Up.refl _⟩⟩
    case round =>
      obtain ⟨j, l, hj, rfl, HO⟩ := hrel
      by_cases hlt : j < n
      · have hji : (j : Int) < n := by omega
        go_wp2_with fail
        refine (HBS.out _).mono ?_
        rintro e w2 ⟨v2, l2, rfl, ho2, hs2, hu2, -⟩
        obtain ⟨g, cap, rfl, hg1, hg2⟩ := World.ownsRow.form ho2 (by rw [hs2.len]; have := HQ.out.1; omega)
        have HN := Lib.hid (fun j u h => ho2.cells (g := g) rfl j u h)
        have HS2 := Lib.hid hs2
        have HOA := Lib.hid (own_up3 HO.out.1 hu2)
        have HUA := Lib.hid (HO.out.2.2.trans hu2)
        have hjq : 2 * q * j ≤ 2 * 49 * 8 := Nat.mul_le_mul (by have := HQ.out.2; omega) (by have := HNN.out; omega)
        have HB := Lib.hid (show l.length + l2.length ≤ maxLen ∧ (l.length + l2.length) * 24 ≤ 140737488355328 from by rw [HO.out.2.1.len, hs2.len]; have := HQ.out.2; unfold maxLen; omega)
        have HP := Lib.hid (show 0 < l2.length from by rw [hs2.len]; have := HQ.out.1; omega)
        have HL2 := Lib.hid (scells_len l2)
        clear ho2 hu2 hg1 hg2 hs2 hjq
        go_wp2_with (at_builtin; refine wpList_append_lies _ rfl (.tmp 8) (.tmp 10) 56 rfl w1.heap.size 55 i0 (.agg #[.int .i64 0, .int .i64 0, .int .i64 0]) 3 24 Try.underlying56 HI.out HZ0.out HZ1.out HZ2.out rfl (by decide) _ l.length (scells l) rfl HOA.out ⟨g, 0, none⟩ l2.length cap (scells l2) rfl HL2.out HN.out (scells_one _) HP.out HB.out.1 HB.out.2 HUA.out.size _ rfl ?_; intro g1 cap1 w6 hown6 hg hor hlt6)
        have HO6 := Lib.hid (show OwnStr w6 w1.heap.size (.slice (some ⟨g1, 0, none⟩) (l.length + l2.length) cap1) (l ++ l2) ∧ Sums (l ++ l2) (2 * q * (j + 1)) (16 * ((q * (j + 1) : Nat) : Int)) ∧ Up w1 w6 from by
          refine ⟨?_, ?_, show Below w1.heap.size w1 w6 from Below.grown HUA.out hg HUA.out.size (own_ge HOA.out)⟩
          · unfold OwnStr
            rw [List.length_append, scells_append]
            exact hown6
          · have h := HO.out.2.1.append HS2.out
            have e1 : 2 * q * (j + 1) = 2 * q * j + 2 * q := by rw [Nat.mul_succ]
            have e2 : (16 : Int) * ((q * (j + 1) : Nat) : Int) = 16 * ((q * j : Nat) : Int) + 16 * (q : Int) := by rw [Nat.mul_succ, Int.natCast_add, Int.mul_add]
            rw [e1, e2]
            exact h)
        clear hown6 hg hor hlt6
        go_wp2_with fail
        go_roundw
        case rel => exact ⟨j + 1, _, by omega, by go_num, HO6⟩
        case measure => simp [intOf]; omega
      · obtain rfl : j = n := by omega
        clear hlt
        go_wp2_with fail
        go_ret
        exact ⟨_, l, rfl, HO.out.1, HO.out.2.1, HO.out.2.2⟩

end Go.Proofs.Ytlclijnoablejaa
