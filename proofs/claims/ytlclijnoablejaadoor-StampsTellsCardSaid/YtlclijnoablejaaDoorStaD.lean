/-
  Who is behind whom; the last one.
-/
import Derived.Test.YtlclijnoablejaaDoorStaC
set_option linter.unusedVariables false
set_option linter.unusedSimpArgs false
namespace Go.Proofs.YtlclijnoablejaaDoor
open Go.RowKit

def behindB (L : List (List Int)) (a c : Int) : Bool := fineBd L && threadB L.length a && threadB L.length c && domI (L.getD a.toNat []) (L.getD c.toNat [])

set_option maxRecDepth 10000 in
set_option maxHeartbeats 2000000 in
theorem behind_any (L : List (List Int)) (A : Option Addr) (cc : Nat) (a c : Int) (w : World) (hring : Ring w) (hL : L.length ≤ 9223372036854775807) (hb : BRow w A L) :
    Calls Tryd.prog 18 #[.slice A L.length cc, .int .i64 a, .int .i64 c] w fun e w' => e = .returned (.bool (behindB L a c)) ∧ Dr w w' := by
  have HF : Hid (∀ n, Calls Tryd.prog 10 #[.slice A L.length cc] (w.drewN n) fun e w' => e = .returned (.bool (fineBd L)) ∧ w' = w.drewN n) := Lib.hid (fun n => (sfine_any L A cc _ hL (hb.up ((Up.refl w).drewN n))).mono fun e w' ⟨he, hw⟩ => ⟨he, hw.symm⟩)
  have HT : Hid (∀ t n, Calls Tryd.prog 26 #[.slice A L.length cc, .int .i64 t] (w.drewN n) fun e w' => e = .returned (.bool (threadB L.length t)) ∧ w' = w.drewN n) := Lib.hid (fun t n => (thread_any L.length A cc t _ hL).mono fun e w' ⟨he, hw⟩ => ⟨he, hw.symm⟩)
  have HTA := Lib.hid (HT.out a)
  have HTC := Lib.hid (HT.out c)
  have HB := Lib.hid hb
  have HG := Lib.hid hring
  have HL := Lib.hid hL
  have HBD : Hid (behindB L a c = (fineBd L && threadB L.length a && threadB L.length c && domI (L.getD a.toNat []) (L.getD c.toNat []))) := Lib.hid rfl
  clear HT hb hring hL
  generalize behindB L a c = r at HBD ⊢
  cases hfb : fineBd L
  · rw [hfb] at HF HBD
    have HN : Hid (r = false) := Lib.hid HBD.out
    clear HBD hfb HTA HTC
    generalize L.length = n at *
    go_enter Tryd.func18, Tryd.ntmps18
    go_wp2_with fail
    go_quiet ((first | (go_at_call 10; exact Calls.quiet_of_same (HF.out _))))
    go_wp2_with fail
    go_ret
    exact ⟨by rw [HN.out]; rfl, ⟨_, rfl⟩⟩
  · rw [hfb] at HF HBD
    clear hfb
    cases hta : threadB L.length a
    · rw [hta] at HTA HBD
      have HN : Hid (r = false) := Lib.hid HBD.out
      clear HBD hta HTC
      generalize L.length = n at *
      go_enter Tryd.func18, Tryd.ntmps18
      go_wp2_with fail
      go_quiet ((first | (go_at_call 10; exact Calls.quiet_of_same (HF.out _)) | (go_at_call 26; with_reducible exact Calls.quiet_of_same (HTA.out _))))
      go_wp2_with fail
      go_ret
      exact ⟨by rw [HN.out]; rfl, ⟨_, rfl⟩⟩
    · rw [hta] at HTA HBD
      cases htc : threadB L.length c
      · rw [htc] at HTC HBD
        have HN : Hid (r = false) := Lib.hid HBD.out
        clear HBD
        by_cases hac : a = c
        · exfalso
          rw [hac, htc] at hta
          cases hta
        · go_enter Tryd.func18, Tryd.ntmps18
          go_wp2_with fail
          go_quiet ((first | (go_at_call 10; exact Calls.quiet_of_same (HF.out _)) | (go_at_call 26; with_reducible exact Calls.quiet_of_same (HTA.out _)) | (go_at_call 26; with_reducible exact Calls.quiet_of_same (HTC.out _))))
          go_wp2_with fail
          go_ret
          exact ⟨by rw [HN.out]; rfl, ⟨_, rfl⟩⟩
      · rw [htc] at HTC HBD
        have ha : 0 ≤ a ∧ a < L.length := by unfold threadB at hta; simpa using hta
        have hc : 0 ≤ c ∧ c < L.length := by unfold threadB at htc; simpa using htc
        obtain ⟨i, rfl⟩ : ∃ i : Nat, a = i := ⟨a.toNat, by omega⟩
        obtain ⟨k, rfl⟩ : ∃ k : Nat, c = k := ⟨c.toNat, by omega⟩
        have hi : i < L.length := by omega
        have hk : k < L.length := by omega
        rw [Int.toNat_natCast, Int.toNat_natCast] at HBD
        obtain ⟨b1, off1, A1, c1, rfl, hc1, hr1⟩ := HB.out i hi
        obtain ⟨b2, off2, A2, c2, e2, hc2, hr2⟩ := HB.out k hk
        injection e2 with e2
        injection e2 with e2 e3
        subst e2 e3
        have HD : Hid (∀ n, Calls Tryd.prog 33 #[.slice A1 (L.getD i []).length c1, .slice A2 (L.getD k []).length c2] (w.drewN n) fun e w' => e = .returned (.bool (domI (L.getD i []) (L.getD k []))) ∧ Dr (w.drewN n) w') := Lib.hid (fun n => dom_q _ _ _ _ _ _ _ (HG.out.up ((Up.refl w).drewN n)) hr1.len hr2.len (hr1.up ((Up.refl w).drewN n)).row (hr2.up ((Up.refl w).drewN n)).row)
        have hii : (i : Int) < L.length := ha.2
        have hkk : (k : Int) < L.length := hc.2
        have hi0 : (0 : Int) ≤ i := ha.1
        have hk0 : (0 : Int) ≤ k := hc.1
        have hl2 : (L.length : Int) ≤ 9223372036854775807 := by have := HL.out; omega
        clear hr1 hr2 hi hk ha hc hta htc HB HG HL
        have HBD2 : Hid (r = domI (L.getD i []) (L.getD k [])) := Lib.hid (by have := HBD.out; simpa using this)
        clear HBD
        generalize domI (L.getD i []) (L.getD k []) = x at *
        generalize (L.getD i []).length = n1 at *
        generalize (L.getD k []).length = n2 at *
        generalize L.length = n at *
        go_enter Tryd.func18, Tryd.ntmps18
        go_wp2_with fail
        go_quiet ((first | (go_at_call 10; exact Calls.quiet_of_same (HF.out _)) | (go_at_call 26; with_reducible exact Calls.quiet_of_same (HTA.out _)) | (go_at_call 26; with_reducible exact Calls.quiet_of_same (HTC.out _)) | (go_at_call 33; exact Calls.quiet_of (HD.out _))))
        go_wp2_with fail
        go_ret
        exact ⟨by rw [HBD2.out]; rfl, ⟨_, rfl⟩⟩

end Go.Proofs.YtlclijnoablejaaDoor
