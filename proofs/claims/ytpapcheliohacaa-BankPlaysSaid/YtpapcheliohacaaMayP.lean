/-
  Whatever overlaps: what a read tells is from 0 to top, and was written, but of a safe cell.
-/
import Derived.Test.YtpapcheliohacaaLives
set_option linter.unusedVariables false
set_option linter.unusedSimpArgs false
namespace Go.Proofs.Ytpapcheliohacaa
open Go.RowKit

/-- A number that may be told. -/
def Told (ws : List Int) (top x : Int) : Prop := (0 ≤ x ∧ x ≤ top) ∧ x ∈ ws
structure MayInv (c : CS) (ws : List Int) (top : Int) : Prop where
  ctop : c.top = top
  nul : 0 ∈ ws
  val : Told ws top c.value
  wr : ∀ i, (c.bys i).wr = true → Told ws top (c.bys i).val
  may : ∀ i x, x ∈ (c.bys i).may → Told ws top x
  some : ∀ i, (c.bys i).on = true → (c.bys i).wr = false → c.kind = 2 → 0 < (c.bys i).may.length
theorem Told.more {ws : List Int} {top x : Int} (h : Told ws top x) (y : Int) : Told (ws ++ [y]) top x := ⟨h.1, List.mem_append_left _ h.2⟩
theorem MayInv.more {c : CS} {ws : List Int} {top : Int} (H : MayInv c ws top) (y : Int) : MayInv c (ws ++ [y]) top :=
  ⟨H.ctop, List.mem_append_left _ H.nul, H.val.more y, fun i h => (H.wr i h).more y, fun i x h => (H.may i x h).more y, H.some⟩
theorem MayInv.new (kind top : Int) (h : 0 ≤ top ∧ top ≤ 65535) : MayInv (CS.new kind top) [0] top :=
  ⟨by unfold CS.new clampI; dsimp only; rw [if_neg (by omega), if_neg (by omega)], by simp, ⟨⟨Int.le_refl _, h.1⟩, by simp [CS.new]⟩, fun i h => absurd h (by simp [CS.new, acc0]), fun i x h => absurd h (by simp [CS.new, acc0]), fun i h => absurd h (by simp [CS.new, acc0])⟩
theorem MayInv.put {c : CS} {ws : List Int} {top : Int} (H : MayInv c ws top) (t : Nat) (a : Acc8) (h1 : a.wr = true → Told ws top a.val) (h2 : ∀ x, x ∈ a.may → Told ws top x) (h3 : a.on = true → a.wr = false → c.kind = 2 → 0 < a.may.length) : MayInv (c.put t a) ws top := by
  refine ⟨H.ctop, H.nul, H.val, fun i => ?_, fun i => ?_, fun i => ?_⟩
  · unfold CS.put; dsimp only; split
    · exact h1
    · exact H.wr i
  · unfold CS.put; dsimp only; split
    · exact h2
    · exact H.may i
  · unfold CS.put; dsimp only; split
    · exact h3
    · exact H.some i
theorem MayInv.ovl {c : CS} {ws : List Int} {top v : Int} (hv : Told ws top v) (a : Acc8) (h : ∀ x, x ∈ a.may → Told ws top x) : ∀ x, x ∈ (ovl c.kind v a).may → Told ws top x := by
  intro x hx
  unfold Go.Proofs.Ytpapcheliohacaa.ovl at hx
  dsimp only at hx
  split at hx
  · rcases List.mem_append.1 hx with h1 | h1
    · exact h x h1
    · simp only [List.mem_singleton] at h1; subst h1; exact hv
  · exact h x hx
theorem MayInv.readN {c : CS} {ws : List Int} {top : Int} (H : MayInv c ws top) : ∀ n x, x ∈ (readN c n).may → Told ws top x
  | 0, x => by
    unfold Go.Proofs.Ytpapcheliohacaa.readN
    intro hx
    dsimp only at hx
    split at hx
    · simp only [List.mem_singleton] at hx; subst hx; exact H.val
    · cases hx
  | n + 1, x => by
    unfold Go.Proofs.Ytpapcheliohacaa.readN
    split
    · rename_i hc
      exact MayInv.ovl (H.wr n hc.2) _ (MayInv.readN H n) x
    · exact MayInv.readN H n x
theorem readN_wr (c : CS) : ∀ n, (readN c n).wr = false
  | 0 => rfl
  | n + 1 => by
    unfold readN
    split
    · exact readN_wr c n
    · exact readN_wr c n
theorem MayInv.wrN {c : CS} {ws : List Int} {top v : Int} (H : MayInv c ws top) (hv : Told ws top v) (n : Nat) : MayInv (wrN c v n) ws top := by
  obtain ⟨k1, k2, k3⟩ := wrN_kind c v n
  refine ⟨k2.trans H.ctop, H.nul, by rw [k3]; exact H.val, fun i => ?_, fun i => ?_, fun i => ?_⟩
  · rw [wrN_bys]
    split
    · exact H.wr i
    · exact H.wr i
  · rw [wrN_bys]
    split
    · exact MayInv.ovl hv _ (H.may i)
    · exact H.may i
  · rw [wrN_bys, k1]
    split
    · intro _ _ h2
      unfold Go.Proofs.Ytpapcheliohacaa.ovl
      simp [if_pos h2]
    · exact H.some i
theorem clampT_told (v top : Int) (h : 0 ≤ top ∧ top ≤ 65535) : 0 ≤ clampT v top ∧ clampT v top ≤ top := by
  rcases clampT_cases v top with ⟨_, e⟩ | ⟨_, _, _, _, e⟩ | ⟨_, _, _, _, e⟩ | ⟨_, _, _, _, e⟩ <;> rw [e] <;> omega
theorem MayInv.begin {c : CS} {ws : List Int} {top : Int} (H : MayInv c ws top) (ht : 0 ≤ top ∧ top ≤ 65535) (t k v : Int) : MayInv (c.begin t k v).2 (if (c.begin t k v).1 = 0 ∧ k ≠ 1 then ws ++ [clampT v top] else ws) top := by
  unfold CS.begin
  split
  · rw [if_neg (by simp)]; exact H
  split
  · rw [if_neg (by simp)]; exact H
  split
  · rename_i hk
    rw [if_neg (by simp [hk])]
    exact H.put _ _ (fun h => absurd h (by rw [readN_wr]; simp)) (H.readN 8) (fun _ _ h => readN_some c h 8)
  · rename_i hk
    rw [if_pos ⟨rfl, hk⟩, H.ctop]
    have hv : Told (ws ++ [clampT v top]) top (clampT v top) := ⟨clampT_told v top ht, by simp⟩
    exact ((H.more _).wrN hv 8).put _ _ (fun _ => hv) (fun x hx => absurd hx (by simp)) (fun _ h => absurd h (by simp))
theorem MayInv.told {c : CS} {ws : List Int} {top : Int} {N : Nat} (H : MayInv c ws top) (hg : CGood c N) (hN : N ≤ 1000) (ht : 0 ≤ top ∧ top ≤ 65535) (t d : Int) : (0 ≤ (c.endA t d).1 ∧ (c.endA t d).1 ≤ top) ∧ (c.kind ≠ 1 → (c.endA t d).1 ∈ ws) := by
  have hz : (0 ≤ (0 : Int) ∧ (0 : Int) ≤ top) ∧ (c.kind ≠ 1 → (0 : Int) ∈ ws) := ⟨⟨by omega, ht.1⟩, fun _ => H.nul⟩
  unfold CS.endA
  split
  · exact hz
  split
  · exact hz
  split
  · exact hz
  rename_i htt hon hwr
  have hon' : (c.bys t.toNat).on = true := by simpa using hon
  have hwr' : (c.bys t.toNat).wr = false := by simpa using hwr
  show (0 ≤ tellC c (c.bys t.toNat) d ∧ tellC c (c.bys t.toNat) d ≤ top) ∧ (c.kind ≠ 1 → tellC c (c.bys t.toNat) d ∈ ws)
  unfold tellC
  split
  · rename_i h1
    rw [H.ctop]
    exact ⟨wrapI_in d top (by omega), fun h => absurd h1.1 h⟩
  split
  · rename_i h2
    have hp := H.some _ hon' hwr' h2
    have hf := hg.few t.toNat (by omega)
    have hm := H.may t.toNat
    generalize (c.bys t.toNat).may = l at *
    have hw := wrapI_in d ((l.length : Int) - 1) (by omega)
    have hlt : (wrapI d ((l.length : Int) - 1)).toNat < l.length := by omega
    have hx := hm (l.getD (wrapI d ((l.length : Int) - 1)).toNat 0) (by rw [List.getD_eq_getElem?_getD, List.getElem?_eq_getElem hlt]; exact List.getElem_mem hlt)
    exact ⟨hx.1, fun _ => hx.2⟩
  · exact ⟨H.val.1, fun _ => H.val.2⟩
theorem MayInv.endA {c : CS} {ws : List Int} {top : Int} (H : MayInv c ws top) (t d : Int) : MayInv (c.endA t d).2.2 ws top := by
  have hp : MayInv (c.put t.toNat acc0) ws top := H.put _ _ (fun h => absurd h (by simp [acc0])) (fun x h => absurd h (by simp [acc0])) (fun h => absurd h (by simp [acc0]))
  unfold CS.endA
  split
  · exact H
  split
  · exact H
  split
  · rename_i hw
    exact ⟨hp.ctop, hp.nul, H.wr _ hw, hp.wr, hp.may, hp.some⟩
  · exact hp

end Go.Proofs.Ytpapcheliohacaa
