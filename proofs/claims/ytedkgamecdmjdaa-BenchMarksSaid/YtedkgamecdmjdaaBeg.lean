/-
  Package cell: an access begins: what stays.
-/
import Derived.Test.YtedkgamecdmjdaaEndW
set_option linter.unusedVariables false
set_option linter.unusedSimpArgs false
namespace Go.Proofs.Ytedkgamecdmjdaa
open Go.RowKit

theorem CellIs.over {w w' : World} {h B : Nat} {c : CS} {ms : Nat → Value} (H : CellIs w h B c ms) (i : Nat) (hi : i < 8) (v : Int) (m' : Value) (hp : OvPost w w' h (3 + i * 5) (ms i) m') (hm : MayIs w' B m' (if c.kind = 2 then (c.bys i).may ++ [v] else (c.bys i).may)) :
    CellIs w' h B (c.put i (ovl c.kind v (c.bys i))) (setM ms i m') ∧ CFrame w w' h ms (setM ms i m') := by
  obtain ⟨x0, x1, x2, x3, x4⟩ := H.acc i hi
  have hlt := H.lt
  have hge := fun j hj => (H.own j hj).ge
  have hob : ∀ b, b < w.heap.size → (ms i).ownBlock ≠ some b → m'.ownBlock ≠ some b := fun b hb hne => by
    rcases hp.ob with h1 | h1
    · rw [h1]; exact hne
    · intro e; have := h1 b e; omega
  refine ⟨⟨Nat.le_trans H.sz hp.size, (hp.oth 0 (by omega) (by omega)).trans H.k0, (hp.oth 1 (by omega) (by omega)).trans H.k1, (hp.oth 2 (by omega) (by omega)).trans H.k2, fun j hj => ?_, fun j => (hp.fz j).trans (H.fz j), fun j hj => ?_, fun j hj => ?_, fun a b ha hb hab k hk => ?_⟩, ⟨hp.os, hp.tape, hp.output, hp.size, fun k hk hne hall => hp.block k hk hne (hall i hi), fun j hj k hk => ?_⟩⟩
  · by_cases e : j = i
    · subst e
      simp only [CS.put, setM, if_pos]
      exact ⟨(hp.oth _ (by omega) (by omega)).trans x0, (hp.oth _ (by omega) (by omega)).trans x1, (hp.oth _ (by omega) (by omega)).trans x2, hp.c3, hp.c4⟩
    · obtain ⟨y0, y1, y2, y3, y4⟩ := H.acc j hj
      simp only [CS.put, setM, if_neg e]
      have far : j * 5 + 5 ≤ i * 5 ∨ i * 5 + 5 ≤ j * 5 := by omega
      exact ⟨(hp.oth _ (by omega) (by omega)).trans y0, (hp.oth _ (by omega) (by omega)).trans y1, (hp.oth _ (by omega) (by omega)).trans y2, (hp.oth _ (by omega) (by omega)).trans y3, (hp.oth _ (by omega) (by omega)).trans y4⟩
  · by_cases e : j = i
    · subst e
      simp only [CS.put, setM, if_pos, ovl]
      exact hm
    · simp only [CS.put, setM, if_neg e]
      exact (H.own j hj).same hp.size fun k hkk => hp.block k (hge j hj k hkk).2 (fun e2 => H.apart j hj (by rw [hkk, e2])) (fun e2 => H.two j i hj hi e k hkk e2)
  · unfold setM
    split
    · exact hob h hlt (H.apart i hi)
    · exact H.apart j hj
  · unfold setM at hk ⊢
    split at hk
    · rename_i hai
      subst hai
      rw [if_neg (fun e => hab e.symm)]
      rcases hp.ob with h1 | h1
      · rw [h1] at hk
        exact H.two a b ha hb hab k hk
      · intro e2
        have := h1 k hk
        have := hge b hb k e2
        omega
    · rename_i hai
      split
      · rename_i hbi
        subst hbi
        intro e2
        rcases hp.ob with h1 | h1
        · rw [h1] at e2
          exact H.two b a hb ha (fun e => hab e.symm) k e2 hk
        · have := h1 k e2
          have := hge a ha k hk
          omega
      · exact H.two a b ha hb hab k hk
  · unfold setM at hk
    split at hk
    · rcases hp.ob with h1 | h1
      · exact .inl ⟨i, hi, by rw [← h1]; exact hk⟩
      · exact .inr (h1 k hk)
    · exact .inl ⟨j, hj, hk⟩
theorem CFrame.trans {a b c : World} {h : Nat} {m0 m1 m2 : Nat → Value} (f : CFrame a b h m0 m1) (g : CFrame b c h m1 m2) : CFrame a c h m0 m2 := by
  refine ⟨g.os.trans f.os, g.tape.trans f.tape, g.output.trans f.output, Nat.le_trans f.size g.size, fun k hk hne hall => ?_, fun i hi k hk => ?_⟩
  · refine (g.block k (Nat.lt_of_lt_of_le hk f.size) hne fun i hi e => ?_).trans (f.block k hk hne hall)
    rcases f.new i hi k e with ⟨j, hj, h2⟩ | h2
    · exact hall j hj h2
    · omega
  · rcases g.new i hi k hk with ⟨j, hj, h2⟩ | h2
    · exact f.new j hj k h2
    · exact .inr (Nat.le_trans f.size h2)
theorem wrN_kind (c : CS) (v : Int) : ∀ n, (wrN c v n).kind = c.kind ∧ (wrN c v n).top = c.top ∧ (wrN c v n).value = c.value
  | 0 => ⟨rfl, rfl, rfl⟩
  | n + 1 => by
    have := wrN_kind c v n
    unfold wrN
    split
    · exact this
    · exact this
/-- Behind n threads: those below n are told, the others not yet. -/
theorem wrN_bys (c : CS) (v : Int) : ∀ n i, (wrN c v n).bys i = if i < n ∧ (c.bys i).on = true ∧ (c.bys i).wr = false then ovl c.kind v (c.bys i) else c.bys i
  | 0, i => by rw [if_neg (by omega)]; rfl
  | n + 1, i => by
    have hn := wrN_bys c v n n
    rw [if_neg (by omega)] at hn
    have hi := wrN_bys c v n i
    have hk := (wrN_kind c v n).1
    unfold wrN
    rw [hn]
    by_cases hc : (c.bys n).on = true ∧ (c.bys n).wr = false
    · rw [if_pos hc]
      unfold CS.put
      by_cases e : i = n
      · subst e
        simp only [if_pos]
        rw [if_pos ⟨by omega, hc⟩]
      · simp only [if_neg e]
        rw [hi]
        by_cases h2 : i < n ∧ (c.bys i).on = true ∧ (c.bys i).wr = false
        · rw [if_pos h2, if_pos ⟨by omega, h2.2⟩]
        · rw [if_neg h2, if_neg (fun h3 => h2 ⟨by omega, h3.2⟩)]
    · rw [if_neg hc, hi]
      by_cases h2 : i < n ∧ (c.bys i).on = true ∧ (c.bys i).wr = false
      · rw [if_pos h2, if_pos ⟨by omega, h2.2⟩]
      · rw [if_neg h2, if_neg (fun h3 => by
          by_cases e : i = n
          · subst e; exact hc h3.2
          · exact h2 ⟨by omega, h3.2⟩)]

end Go.Proofs.Ytedkgamecdmjdaa
