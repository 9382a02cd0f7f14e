/-
  The document's Tame.
-/
import Derived.Test.YtleebaebihbcdaaTapeE
import Derived.Test.YtleebaebihbcdaaInts
set_option linter.unusedVariables false
set_option linter.unusedSimpArgs false
namespace Go.Proofs.Ytleebaebihbcdaa
open Go.RowKit

def tameL (l : List Int) (top : Int) : List Int := l.map (wrapI · top)
theorem tame_take {l : List Int} {k : Nat} (top : Int) (hk : k < l.length) : tameL (l.take (k + 1)) top = tameL (l.take k) top ++ [wrapI (l.getD k 0) top] := by
  unfold tameL
  rw [List.take_succ_eq_append_getElem hk, List.map_append, getD_lt hk]
  rfl
theorem tame_range (l : List Int) (top : Int) : ∀ n ∈ tameL l top, 0 ≤ n ∧ n ≤ 1099511627776 := by
  intro n hn
  unfold tameL at hn
  obtain ⟨x, _, rfl⟩ := List.mem_map.1 hn
  unfold wrapI
  obtain ⟨h0, h1⟩ := clampI_le top
  have h2 := Int.emod_nonneg x (show clampI top 0 1099511627776 + 1 ≠ 0 by omega)
  have h3 := Int.emod_lt_of_pos x (show 0 < clampI top 0 1099511627776 + 1 by omega)
  omega

set_option maxRecDepth 10000 in
set_option maxHeartbeats 1000000 in
theorem tame_any (l : List Int) (A : Option Addr) (c : Nat) (top : Int) (w : World) (hl : l.length ≤ 3000) (hr : Row w A l.length (IVal l)) :
    Calls Try.prog 14 #[.slice A l.length c, .int .i64 top] w fun e w' =>
      ∃ A' c', e = .returned (.slice A' l.length c') ∧ Row w' A' l.length (IVal (tameL l top)) ∧ l.length ≤ c' ∧ (A' = none → c' = 0) ∧ Up w w' := by
  have HR := Lib.hid hr
  have HW := Lib.hid (fun (n : Int) (W : World) => wrapR_any n top W)
  obtain ⟨i0, hi, hz0, hz1, hz2⟩ := info_parts infoInt
  have HI := Lib.hid hi
  have HZ0 := Lib.hid hz0
  have HZ1 := Lib.hid hz1
  have HZ2 := Lib.hid hz2
  obtain ⟨n, hn⟩ : ∃ n, l.length = n := ⟨_, rfl⟩
  rw [hn] at hl HR ⊢
  have HN := Lib.hid hn
  clear hn hi hz0 hz1 hz2 hr
  go_enter Try.func14, Try.ntmps14
  go_wp2_with fail
  go_loopw [5, 6] (fun v t wr => ∃ k : Nat, k ≤ n ∧ t = .int .i64 k ∧ Hid (wr.ownsRow w.heap.size 3 1 v k (icells (tameL (l.take k) top))) ∧ Hid (Up w wr)) (fun _ t _ => n - (intOf t).toNat)
  case atStart => exact ⟨0, by omega, rfl, Lib.hid (World.ownsRow_nil _ _ _ _), Lib.hid (Up.refl _)⟩
  case round =>
    obtain ⟨k, hk, rfl, HO, HU⟩ := hrel
    by_cases hlt : k < n
    · obtain ⟨b, off, rfl, hc⟩ := HR.out k hlt
      have hc := (HU.out.cell (p := ⟨b, off + k, none⟩) (cell_lt hc)).trans hc
      unfold IVal at hc
      have HT := Lib.hid (tame_take (l := l) (k := k) top (by rw [HN.out]; exact hlt))
      generalize l.getD k 0 = x at *
      have hk3 : ((k : Int) < 3000) = True := by simp; omega
      have hkw : wrap64 ((k : Int) + 1) = (k : Int) + 1 := IntWalk.wrap64_in _ ⟨by omega, by omega⟩
      have HL3 := Lib.hid hl
      clear hl
      obtain ⟨A1, c1, hv, _, _⟩ := own_form HO.out
      subst hv
      have HSJ := Lib.hid (show k + 1 ≤ maxLen ∧ (k + 1) * 8 ≤ 140737488355328 by have := HL3.out; unfold maxLen; omega)
      have HWX := Lib.hid (fun W => HW.out x W)
      generalize wrapI x top = y at *
      go_wp2_with (first | (go_at_call 69; refine (HWX.out _).mono ?_; rintro e w1 ⟨rfl, rfl⟩) | (at_builtin; refine wpList_append_lies _ rfl (.tmp 17) (.tmp 24) 23 rfl w.heap.size 3 i0 (.int .i64 0) 1 8 Try.underlying23 HI.out HZ0.out HZ1.out HZ2.out rfl (by decide) _ k (icells (tameL (l.take k) top)) rfl (own_up HO.out ((Up.refl wr).alloc _)) ⟨wr.heap.size, 0, none⟩ 1 1 [.int .i64 y] rfl rfl (cells_new wr [.int .i64 y] 3) (by intro u hu; simp at hu; subst hu; rfl) (by decide) HSJ.out.1 HSJ.out.2 (by have := HU.out.size; simp; omega) _ rfl ?_))
      intro g1 cap w1 hown1 hgrow hat hlt1
      have HO2 := Lib.hid (show w1.ownsRow w.heap.size 3 1 (.slice (some ⟨g1, 0, none⟩) (k + 1) cap) (k + 1) (icells (tameL (l.take (k + 1)) top)) by
        rw [HT.out]
        have : icells (tameL (l.take k) top ++ [y]) = icells (tameL (l.take k) top) ++ [.int .i64 y] := by unfold icells; simp
        rw [this]
        exact hown1)
      have HU2 := Lib.hid (show Up w w1 from (Up.alloc HU.out (.cells #[.int .i64 y] 3)).grown hgrow (by have := HU.out.size; simp; omega) (own_ge HO.out))
      clear hown1 hgrow hat hlt1 hk3 hkw
      have hl2 := HL3.out
      go_wp2_with fail
      go_roundw
      case rel => exact ⟨k + 1, by omega, by go_num, HO2, HU2⟩
      case measure => simp [intOf]; omega
    · obtain rfl : k = n := by omega
      obtain ⟨A1, c1, rfl, h1, _⟩ := own_form HO.out
      obtain ⟨A2, c2, hA, hrow, _⟩ := own_row (f := IVal (tameL l top)) HO.out (fun j hj => by
        have e : l.take k = l := List.take_of_length_le (by rw [HN.out]; exact Nat.le_refl _)
        rw [e]
        exact iVal_map (by unfold tameL; rw [List.length_map, HN.out]; exact hj))
      simp only [Value.slice.injEq] at hA
      obtain ⟨rfl, _, rfl⟩ := hA
      have HROW := Lib.hid hrow
      have HNIL := Lib.hid (show A1 = none → c1 = 0 from fun hA => by
        rcases HO.out.2 with ⟨hv, _⟩ | ⟨g, cap, cur, hv, hb, _⟩
        · simp only [Value.slice.injEq] at hv; exact hv.2.2
        · simp only [Value.slice.injEq] at hv
          rw [hv.1] at hA; cases hA)
      clear hrow
      go_wp2_with fail
      go_ret
      exact ⟨A1, c1, rfl, HROW.out, h1, HNIL.out, HU.out⟩

end Go.Proofs.Ytleebaebihbcdaa
