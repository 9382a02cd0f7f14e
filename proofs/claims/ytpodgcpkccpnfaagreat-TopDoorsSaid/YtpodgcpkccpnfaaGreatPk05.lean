/-
  Parts of a proof, packed: BakP, TW, Jmp
-/
import Derived.ScopeJumps
import Derived.Test.YtpodgcpkccpnfaaGreatPk01
import Derived.Test.YtpodgcpkccpnfaaGreatPk02
import Derived.Test.YtpodgcpkccpnfaaGreatPk04
set_option linter.unusedVariables false
set_option linter.unusedSimpArgs false
set_option maxRecDepth 20000
set_option maxHeartbeats 16000000
namespace Go.Proofs.YtpodgcpkccpnfaaGreat
open Go.RowKit
def readMax (num : Int) (me : Nat) : List Nat → Int → Op Int
 | [], t => .ret t
 | j :: js, t => if j = me then readMax num me js t else .ask (1, num + (j : Int), 0) fun x => readMax num me js (max t x)
def passB (t : Int) (lt : Bool) (x : Int) : Bool := !((x != 0) && decide (x ≤ t) && ((x != t) || lt))
def bakWait (ch num : Int) (me : Nat) (t : Int) (F : Nat) : List Nat → Op Unit
 | [] => .ret ()
 | j :: js => if j = me then bakWait ch num me t F js else (spin0 (ch + (j : Int)) F).bind fun _ => (spinP (num + (j : Int)) (passB t (decide (j < me))) F).bind fun _ => bakWait ch num me t F js
def bakBehind (ch num : Int) (me n : Nat) (t : Int) (F : Nat) : Op Int := .note 2 ((bakWait ch num me t F (List.range n)).bind fun _ => .note 3 (.ret 0))
def bakTicket (n : Nat) (room base loc : Int) (me F : Nat) (t : Int) : Op Int :=
 if room < t then .ask (2, base + (me : Int), 0) fun _ => .note 4 (.ret 11)
 else .ask (2, base + (n : Int) + (me : Int), t) fun _ => .set loc t (.ask (2, base + (me : Int), 0) fun _ => bakBehind base (base + (n : Int)) me n t F)
def bakAcq (n : Nat) (room base loc : Int) (me F : Nat) : Op Int :=
 .note 1 (.ask (2, base + (me : Int), 1) fun _ => (readMax (base + (n : Int)) me (List.range n) 0).bind fun t => bakTicket n room base loc me F (t + 1))
def bakRel (n : Nat) (base loc : Int) (me : Nat) : Op Unit := .note 5 (.ask (2, base + (n : Int) + (me : Int), 0) fun _ => .set loc 0 (.ret ()))
def bakT (n : Nat) (room base loc : Int) (F : Nat) (t op : Nat) : Op Int := if op = 0 then bakAcq n room base loc t F else (bakRel n base loc t).bind fun _ => .ret 0
theorem readMax_path {num : Int} {me : Nat} : ∀ {js : List Nat} {t : Int} {l : List Int} {L : List Item} {o : Op Int} {l' : List Int}, Path (readMax num me js t) l L o l' → ReadsN L [] ∧ (∀ a b e x, Item.acc a b e x ∈ L → ∃ j, j ∈ js ∧ j ≠ me ∧ a = (1, num + (j : Int), 0)) ∧ ∀ v, o = .ret v → t ≤ v ∧ l' = l ∧ ∀ j, j ∈ js → j ≠ me → ∃ b e x, Item.acc (1, num + (j : Int), 0) b e x ∈ L ∧ x ≤ v
 | [], t, l, L, o, l', h => by
  cases h
  exact ⟨ReadsN.nil _, fun a b e x hm => (by cases hm), fun v q => by cases q; exact ⟨Int.le_refl _, rfl, fun j hj => (by cases hj)⟩⟩
 | j :: js, t, l, L, o, l', h => by
  unfold readMax at h
  by_cases hj : j = me
  · rw [if_pos hj] at h
    obtain ⟨h1, h2, h3⟩ := readMax_path h
    refine ⟨h1, fun a b e x hm => ?_, fun v q => ?_⟩
    · obtain ⟨j', q1, q2⟩ := h2 a b e x hm
      exact ⟨j', List.mem_cons_of_mem _ q1, q2⟩
    · obtain ⟨q1, q2, q3⟩ := h3 v q
      refine ⟨q1, q2, fun j' hj' hne => ?_⟩
      rcases List.mem_cons.1 hj' with e | hj'
      · subst e; exact absurd hj hne
      · exact q3 j' hj' hne
  · rw [if_neg hj] at h
    cases h with
    | nil => exact ⟨ReadsN.nil _, fun a b e x hm => (by cases hm), fun v q => (by cases q)⟩
    | ask b e x h =>
     dsimp only at h
     obtain ⟨h1, h2, h3⟩ := readMax_path h
     refine ⟨fun it hm => ?_, fun a' b' e' x' hm => ?_, fun v q => ?_⟩
     · rcases List.mem_cons.1 hm with q | hm
       · exact .inl ⟨_, _, _, _, _, q⟩
       · exact h1 it hm
     · rcases List.mem_cons.1 hm with q | hm
       · cases q; exact ⟨j, .head _, hj, rfl⟩
       · obtain ⟨j', q1, q2⟩ := h2 a' b' e' x' hm
         exact ⟨j', List.mem_cons_of_mem _ q1, q2⟩
     · obtain ⟨q1, q2, q3⟩ := h3 v q
       refine ⟨by omega, q2, fun j' hj' hne => ?_⟩
       rcases List.mem_cons.1 hj' with e' | hj'
       · subst e'; exact ⟨b, e, x, .head _, by omega⟩
       · obtain ⟨b', e', x', w1, w2⟩ := q3 j' hj' hne
         exact ⟨b', e', x', List.mem_cons_of_mem _ w1, w2⟩
def Passed (ch num : Int) (me : Nat) (t : Int) (L : List Item) (j : Nat) : Prop :=
 ∃ A b e B b' e' x' D, L = A ++ .acc (1, ch + (j : Int), 0) b e 0 :: (B ++ .acc (1, num + (j : Int), 0) b' e' x' :: D) ∧ passB t (decide (j < me)) x' = true
theorem Passed.left {ch num : Int} {me : Nat} {t : Int} {L : List Item} {j : Nat} (h : Passed ch num me t L j) (K : List Item) : Passed ch num me t (K ++ L) j := by
 obtain ⟨A, b, e, B, b', e', x', D, h1, h2⟩ := h
 exact ⟨K ++ A, b, e, B, b', e', x', D, by rw [h1, List.append_assoc], h2⟩
theorem Passed.right {ch num : Int} {me : Nat} {t : Int} {L : List Item} {j : Nat} (h : Passed ch num me t L j) (K : List Item) : Passed ch num me t (L ++ K) j := by
 obtain ⟨A, b, e, B, b', e', x', D, h1, h2⟩ := h
 exact ⟨A, b, e, B, b', e', x', D ++ K, by rw [h1]; simp, h2⟩
theorem bakWait_path {ch num : Int} {me : Nat} {t : Int} {F : Nat} : ∀ {js : List Nat} {l : List Int} {L : List Item} {o : Op Unit} {l' : List Int}, Path (bakWait ch num me t F js) l L o l' → Known L → ReadsN L [] ∧ ∀ v, o = .ret v → l' = l ∧ ∀ j, j ∈ js → j ≠ me → Passed ch num me t L j
 | [], l, L, o, l', h, hk => by
  cases h
  exact ⟨ReadsN.nil _, fun v q => ⟨rfl, fun j hj => (by cases hj)⟩⟩
 | j :: js, l, L, o, l', h, hk => by
  unfold bakWait at h
  by_cases hj : j = me
  · rw [if_pos hj] at h
    obtain ⟨h1, h2⟩ := bakWait_path h hk
    refine ⟨h1, fun v q => ⟨(h2 v q).1, fun j' hj' hne => ?_⟩⟩
    rcases List.mem_cons.1 hj' with e | hj'
    · subst e; exact absurd hj hne
    · exact (h2 v q).2 j' hj' hne
  · rw [if_neg hj] at h
    have spinLoc : ∀ {c : Int} {f : Nat} {l : List Int} {L : List Item} {o : Op Unit} {l' : List Int}, Path (spin0 c f) l L o l' → l' = l := fun {c f} => by
     induction f with
     | zero => intro l L o l' h; cases h with
      | nil => rfl
      | ask b e x h => cases h; rfl
     | succ f ih => intro l L o l' h; cases h with
      | nil => rfl
      | ask b e x h =>
       dsimp only at h
       split at h
       · cases h; rfl
       · exact ih h
    have spinPLoc : ∀ {c : Int} {p : Int → Bool} {f : Nat} {l : List Int} {L : List Item} {o : Op Int} {l' : List Int}, Path (spinP c p f) l L o l' → l' = l := fun {c p f} => by
     induction f with
     | zero => intro l L o l' h; cases h with
      | nil => rfl
      | ask b e x h => cases h; rfl
     | succ f ih => intro l L o l' h; cases h with
      | nil => rfl
      | ask b e x h =>
       dsimp only at h
       split at h
       · cases h; rfl
       · exact ih h
    rcases h.bind with ⟨o1, h1, h2⟩ | ⟨v, L1, L2, l1, rfl, h2, h3⟩
    · obtain ⟨q1, q2⟩ := spin0_path h2 hk
      refine ⟨fun it hm => .inl ?_, fun v q => ?_⟩
      · obtain ⟨b, e, x, q⟩ := q1 it hm
        exact ⟨_, _, b, e, x, q⟩
      · exfalso
        rw [h1] at q
        cases o1 with
        | ret u =>
         rw [show (Op.ret u).bind _ = (spinP (num + (j : Int)) (passB t (decide (j < me))) F).bind fun _ => bakWait ch num me t F js from rfl] at q
         cases F with
         | zero => cases q
         | succ f => cases q
        | ask a k => cases q
        | get i k => cases q
        | set i v k => cases q
        | note c k => cases q
        | live k => cases q
    · obtain ⟨q1, q2⟩ := spin0_path h2 hk.left
      obtain ⟨A, b, e, hA⟩ := q2 v rfl
      have r1 : ReadsN L1 [] := fun it hm => by
       obtain ⟨b, e, x, q⟩ := q1 it hm
       exact .inl ⟨_, _, b, e, x, q⟩
      have hl1 := spinLoc h2
      rcases h3.bind with ⟨o1, h1, h4⟩ | ⟨v2, L3, L4, l2, rfl, h4, h5⟩
      · obtain ⟨w1, w2⟩ := spinP_path h4 hk.right
        refine ⟨r1.append fun it hm => ?_, fun v q => ?_⟩
        · obtain ⟨b, e, x, q⟩ := w1 it hm
          exact .inl ⟨_, _, b, e, x, q⟩
        · rw [h1] at q
          cases o1 with
          | ret u =>
           obtain ⟨g1, B, b', e', hB⟩ := w2 u rfl
           have hend : Path (bakWait ch num me t F js) l' [] o l' := by rw [h1]; exact .nil _ _
           obtain ⟨_, z2⟩ := bakWait_path hend (fun a b e x hm => by cases hm)
           refine ⟨by rw [spinPLoc h4, hl1], fun j' hj' hne => ?_⟩
           rcases List.mem_cons.1 hj' with e9 | hj'
           · subst e9
             exact ⟨A, b, e, B, b', e', u, [], by rw [hA, hB]; simp, g1⟩
           · have h9 := ((z2 v (by rw [h1]; exact q)).2 j' hj' hne).left (L1 ++ L2)
             rw [List.append_nil] at h9; exact h9
          | ask a k => cases q
          | get i k => cases q
          | set i v k => cases q
          | note c k => cases q
          | live k => cases q
      · obtain ⟨w1, w2⟩ := spinP_path h4 hk.right.left
        obtain ⟨g1, B, b', e', hB⟩ := w2 v2 rfl
        obtain ⟨z1, z2⟩ := bakWait_path h5 hk.right.right
        refine ⟨r1.append (ReadsN.append (fun it hm => ?_) z1), fun v q => ?_⟩
        · obtain ⟨b, e, x, q⟩ := w1 it hm
          exact .inl ⟨_, _, b, e, x, q⟩
        · refine ⟨by rw [(z2 v q).1, spinPLoc h4, hl1], fun j' hj' hne => ?_⟩
          rcases List.mem_cons.1 hj' with e9 | hj'
          · subst e9
            exact ⟨A, b, e, B, b', e', v2, L4, by rw [hA, hB]; simp, g1⟩
          · exact (((z2 v q).2 j' hj' hne).left _).left _
structure Behind2 (n : Nat) (room base : Int) (me : Nat) (L : List Item) (t : Int) (p1 b1 e1 : Nat) (Lr : List Item) (b2 e2 b3 e3 p2 : Nat) (Lw : List Item) : Prop where
 eq : ∃ x1 x2 x3, L = .note 1 p1 :: .acc (2, base + (me : Int), 1) b1 e1 x1 :: (Lr ++ .acc (2, base + (n : Int) + (me : Int), t) b2 e2 x2 :: .acc (2, base + (me : Int), 0) b3 e3 x3 :: .note 2 p2 :: Lw)
 rr : ReadsN Lr []
 max : ∀ j, j < n → j ≠ me → ∃ b e x, Item.acc (1, base + (n : Int) + (j : Int), 0) b e x ∈ Lr ∧ x < t
 pos : 1 ≤ t
 room : t ≤ room
 rw' : ReadsN Lw [3]
 pass : ∀ p3, Item.note 3 p3 ∈ Lw → ∀ j, j < n → j ≠ me → Passed base (base + (n : Int)) me t Lw j
 last : ∀ p3, Item.note 3 p3 ∈ Lw → ∃ L1, Lw = L1 ++ [.note 3 p3]
theorem bakAcq_path {n : Nat} {room base loc : Int} {me F : Nat} {l : List Int} {L : List Item} {o : Op Int} {l' : List Int} (h : Path (bakAcq n room base loc me F) l L o l') (hk : Known L) :
 (∃ t p1 b1 e1 Lr b2 e2 b3 e3 p2 Lw, Behind2 n room base me L t p1 b1 e1 Lr b2 e2 b3 e3 p2 Lw ∧ (∀ v, o = .ret v → v = 0 ∧ ∃ p3, Item.note 3 p3 ∈ Lw)) ∨
 ((∀ p, Item.note 2 p ∉ L) ∧ (∀ p, Item.note 3 p ∉ L) ∧ ∀ v, o = .ret v → v = 11) := by
 have nope : ∀ {Q : Prop} (hQ : Q), (Q ∧ True) := fun h => ⟨h, trivial⟩
 unfold bakAcq at h
 cases h with
 | nil => exact .inr ⟨fun p hm => (by cases hm), fun p hm => (by cases hm), fun v q => (by cases q)⟩
 | note p1 h =>
  cases h with
  | nil => exact .inr ⟨fun p hm => by simp at hm, fun p hm => by simp at hm, fun v q => (by cases q)⟩
  | ask b1 e1 x1 h =>
   dsimp only at h
   rcases h.bind with ⟨o1, h1, h2⟩ | ⟨t0, Lr, L2, l1, rfl, h2, h3⟩
   · obtain ⟨r1, _⟩ := readMax_path h2
     have hn : ∀ k p, Item.note k p ∉ (.note 1 p1 :: .acc (2, base + (me : Int), 1) b1 e1 x1 :: _ : List Item) ∨ k = 1 := fun k p => by
      by_cases hk1 : k = 1
      · exact .inr hk1
      · left
        intro hm
        rcases List.mem_cons.1 hm with q | hm
        · cases q; exact hk1 rfl
        rcases List.mem_cons.1 hm with q | hm
        · cases q
        rcases r1 _ hm with ⟨_, _, _, _, _, q⟩ | ⟨_, _, _, q⟩
        · cases q
        · cases q
     right
     refine ⟨fun p => (hn 2 p).resolve_right (by decide), fun p => (hn 3 p).resolve_right (by decide), fun v q => ?_⟩
     rw [h1] at q
     cases o1 with
     | ret u =>
      exfalso
      have q : bakTicket n room base loc me F (u + 1) = .ret v := q
      unfold bakTicket at q
      split at q <;> cases q
     | ask a k => cases q
     | get i k => cases q
     | set i v k => cases q
     | note c k => cases q
     | live k => cases q
   · obtain ⟨r1, _, r2⟩ := readMax_path h2
     obtain ⟨r3, r4, r5⟩ := r2 t0 rfl
     have hnr : ∀ k p, Item.note k p ∉ Lr := fun k p hm => by
      rcases r1 _ hm with ⟨_, _, _, _, _, q⟩ | ⟨_, _, _, q⟩
      · cases q
      · cases q
     unfold bakTicket at h3
     by_cases hroom : room < t0 + 1
     · rw [if_pos hroom] at h3
       right
       cases h3 with
       | nil => exact ⟨fun p hm => by simp [hnr] at hm, fun p hm => by simp [hnr] at hm, fun v q => (by cases q)⟩
       | ask b e x h3 =>
        cases h3 with
        | nil => exact ⟨fun p hm => by simp [hnr] at hm, fun p hm => by simp [hnr] at hm, fun v q => (by cases q)⟩
        | note p4 h3 =>
         cases h3
         exact ⟨fun p hm => by simp [hnr] at hm, fun p hm => by simp [hnr] at hm, fun v q => (by cases q; rfl)⟩
     · rw [if_neg hroom] at h3
       cases h3 with
       | nil => exact .inr ⟨fun p hm => by simp [hnr] at hm, fun p hm => by simp [hnr] at hm, fun v q => (by cases q)⟩
       | ask b2 e2 x2 h3 =>
        cases h3 with
        | nil => exact .inr ⟨fun p hm => by simp [hnr] at hm, fun p hm => by simp [hnr] at hm, fun v q => (by cases q)⟩
        | set h3 =>
         cases h3 with
         | nil => exact .inr ⟨fun p hm => by simp [hnr] at hm, fun p hm => by simp [hnr] at hm, fun v q => (by cases q)⟩
         | ask b3 e3 x3 h3 =>
          dsimp only at h3
          unfold bakBehind at h3
          cases h3 with
          | nil => exact .inr ⟨fun p hm => by simp [hnr] at hm, fun p hm => by simp [hnr] at hm, fun v q => (by cases q)⟩
          | @note _ _ _ Lw _ _ p2 h3 =>
           left
           have hkw : Known Lw := fun a b e x hm => hk a b e x (by simp [hm])
           have hmax : ∀ j, j < n → j ≠ me → ∃ b e x, Item.acc (1, base + (n : Int) + (j : Int), 0) b e x ∈ Lr ∧ x < t0 + 1 := fun j hj hne => by
            obtain ⟨b, e, x, q1, q2⟩ := r5 j (List.mem_range.2 hj) hne
            exact ⟨b, e, x, q1, by omega⟩
           refine ⟨t0 + 1, p1, b1, e1, Lr, b2, e2, b3, e3, p2, Lw, ?_, ?_⟩
           · rcases h3.bind with ⟨o1, h1, h4⟩ | ⟨v, L1, L3, l2, rfl, h4, h5⟩
             · obtain ⟨w1, w2⟩ := bakWait_path h4 hkw
               refine ⟨⟨x1, x2, x3, rfl⟩, r1, hmax, by omega, by omega, w1.more (fun k hk => by cases hk), fun p3 hm => ?_, fun p3 hm => ?_⟩
               all_goals
                rcases w1 _ hm with ⟨_, _, _, _, _, q⟩ | ⟨_, _, _, q⟩
                · cases q
                · cases q
             · obtain ⟨w1, w2⟩ := bakWait_path h4 hkw.left
               have w3 := w2 v rfl
               cases h5 with
               | nil =>
                rw [List.append_nil]
                refine ⟨⟨x1, x2, x3, rfl⟩, r1, hmax, by omega, by omega, w1.more (fun k hk => by cases hk), fun p3 hm => ?_, fun p3 hm => ?_⟩
                · exact fun j hj hne => w3.2 j (List.mem_range.2 hj) hne
                · rcases w1 _ hm with ⟨_, _, _, _, _, q⟩ | ⟨_, _, _, q⟩
                  · cases q
                  · cases q
               | note p3 h5 =>
                cases h5
                refine ⟨⟨x1, x2, x3, rfl⟩, r1, hmax, by omega, by omega, ReadsN.append (w1.more (fun k hk => by cases hk)) (fun it hm => ?_), fun p3 hm => ?_, fun p3' hm => ?_⟩
                · rw [List.mem_singleton] at hm
                  exact .inr ⟨3, p3, hm, .head _⟩
                · exact fun j hj hne => (w3.2 j (List.mem_range.2 hj) hne).right _
                · rcases List.mem_append.1 hm with hm | hm
                  · rcases w1 _ hm with ⟨_, _, _, _, _, q⟩ | ⟨_, _, _, q⟩
                    · cases q
                    · cases q
                  · rw [List.mem_singleton] at hm; cases hm
                    exact ⟨L1, rfl⟩
           · intro v q
             subst q
             obtain ⟨u, L1, L3, l2, rfl, h4, h5⟩ := h3.bind_ret
             cases h5 with
             | note p3 h5 =>
              cases h5
              exact ⟨rfl, p3, by simp⟩
end Go.Proofs.YtpodgcpkccpnfaaGreat

namespace Go.Proofs.YtpodgcpkccpnfaaGreat
open Go.RowKit
def askedN' (g : Nat) (w : World) : Nat := match w.cell? ⟨g, 3, none⟩ with | some (.slice _ n _) => n | _ => 0
theorem askedN'_eq {w : World} {g B : Nat} {s : TS} (h : Tape1 w g B s) : askedN' g w = s.acc.length := by
 obtain ⟨va, hca, hown⟩ := h.1.acc
 obtain ⟨A, c, rfl, _⟩ := own_form hown
 unfold askedN'
 rw [hca]
structure TWk (W : World) (g B : Nat) (A : List Int) (m : Nat) (wr : World) (s : TS) : Prop where
 tape : Tape1 wr g B s
 tk : TK g B W wr
 ans : s.ans = A
 nts : s.nts.length ≤ m
def TameA (A : List Int) : Prop := ∀ x, x ∈ A → 0 ≤ x ∧ x ≤ 1099511627776
section
variable {α : Type} {W wr w' : World} {g B m : Nat} {A : List Int} {s : TS}
theorem TWk.start (h : Tape1 W g B s) : TWk W g B s.ans s.nts.length W s := ⟨h, TK.refl g B W, rfl, Nat.le_refl _⟩
theorem TWk.up (h : TWk W g B A m wr s) (u : Up wr w') : TWk W g B A m w' s := ⟨h.tape.up u, h.tk.trans (TK.ofUp u), h.ans, h.nts⟩
theorem TWk.more (h : TWk W g B A m wr s) {m' : Nat} (hm : m ≤ m') : TWk W g B A m' wr s := ⟨h.tape, h.tk, h.ans, Nat.le_trans h.nts hm⟩
theorem TWk.base {W0 : World} (h : TWk W g B A m wr s) (u : Up W0 W) : TK g B W0 wr := (TK.ofUp u).trans h.tk
theorem TWk.block (h : TWk W g B A m wr s) {b : Nat} {cs : Array Value} {t : TypeId} (hb : W.heap[b]? = some (.cells cs t (0, 0))) (hg : b ≠ g) (ht : t ≠ 3 ∧ t ≠ 111 ∧ t ≠ 168) : wr.heap[b]? = some (.cells cs t (0, 0)) :=
 (h.tk.block b (Array.getElem?_eq_some_iff.1 hb).1 hg (fun _ cs' e he => by
  rw [hb] at he
  simp only [Option.some.injEq, Obj.cells.injEq, and_true] at he
  obtain ⟨_, rfl⟩ := he
  exact ht)).trans hb
theorem TWk.low (h : TWk W g B A m wr s) {b o : Nat} {v : Value} (hb : W.cell? ⟨b, o, none⟩ = some v) (hg : b ≠ g) (hB : b < B) : wr.cell? ⟨b, o, none⟩ = some v :=
 (tcell (h.tk.block b (cell_lt hb) hg (Far.low hB))).trans hb
theorem TWk.told_in (h : TWk W g B A m wr s) (hA : TameA A) : 0 ≤ s.told ∧ s.told ≤ 1099511627776 := by
 unfold TS.told
 rw [List.getD_eq_getElem?_getD]
 cases e : s.ans[s.acc.length]? with
 | none => simp
 | some x => exact hA x (by rw [← h.ans]; exact List.mem_of_getElem? e)
def AskP (W wr : World) (g B m : Nat) (A : List Int) (s : TS) (R : Option α × TS) (a : Int × Int × Int) (k : Int → Op α) (v : Value) (e : Ending) (w' : World) : Prop :=
 (e = .panicked (stopC g) ∧ Hid (R = (none, s.asked a)) ∧ Hid (TapeIs w' g B 2 (s.asked a)) ∧ Hid (TK g B W w')) ∨
 (e = .returned v ∧ Hid ((k s.told).onT (s.asked a) = R) ∧ Hid (TWk W g B A m w' (s.asked a)) ∧ Hid (s.acc.length < A.length))
theorem read_ask (h : TWk W g B A m wr s) {c : Int} {k : Int → Op α} {R : Option α × TS} (hE : (Op.ask (1, c, 0) k).onT s = R) :
 Calls Tryz.prog 214 #[.pointer (some ⟨g, 0, none⟩), .int .i64 c] wr (AskP W wr g B m A s R (1, c, 0) k (.int .i64 s.told)) := by
 by_cases hlt : s.acc.length < s.ans.length
 · have e1 : (Op.ask (1, c, 0) k).onT s = (k s.told).onT (s.asked (1, c, 0)) := if_pos hlt
   exact (read_ok g B c s wr h.tape hlt).mono fun e w' q => .inr ⟨q.1, hQ' (e1.symm.trans hE), hQ' ⟨q.2.1, h.tk.trans q.2.2, h.ans, h.nts⟩, hQ' (by rw [← h.ans]; exact hlt)⟩
 · have e1 : (Op.ask (1, c, 0) k).onT s = (none, s.asked (1, c, 0)) := if_neg hlt
   exact (read_stop g B c s wr h.tape hlt).mono fun e w' q => .inl ⟨q.1, hQ' (hE.symm.trans e1), hQ' q.2.1, hQ' (h.tk.trans q.2.2)⟩
theorem write_ask (h : TWk W g B A m wr s) {c v : Int} {k : Int → Op α} {R : Option α × TS} (hE : (Op.ask (2, c, v) k).onT s = R) :
 Calls Tryz.prog 212 #[.pointer (some ⟨g, 0, none⟩), .int .i64 c, .int .i64 v] wr (AskP W wr g B m A s R (2, c, v) k (.tuple #[])) := by
 by_cases hlt : s.acc.length < s.ans.length
 · have e1 : (Op.ask (2, c, v) k).onT s = (k s.told).onT (s.asked (2, c, v)) := if_pos hlt
   exact (write_ok g B c v s wr h.tape hlt).mono fun e w' q => .inr ⟨q.1, hQ' (e1.symm.trans hE), hQ' ⟨q.2.1, h.tk.trans q.2.2, h.ans, h.nts⟩, hQ' (by rw [← h.ans]; exact hlt)⟩
 · have e1 : (Op.ask (2, c, v) k).onT s = (none, s.asked (2, c, v)) := if_neg hlt
   exact (write_stop g B c v s wr h.tape hlt).mono fun e w' q => .inl ⟨q.1, hQ' (hE.symm.trans e1), hQ' q.2.1, hQ' (h.tk.trans q.2.2)⟩
theorem get_ask (h : TWk W g B A m wr s) {i : Int} {k : Int → Op α} {R : Option α × TS} (hE : (Op.get i k).onT s = R) :
 Calls Tryz.prog 205 #[.pointer (some ⟨g, 0, none⟩), .int .i64 i] wr fun e w' => e = .returned (.int .i64 (s.get i)) ∧ w' = wr ∧ Hid ((k (s.get i)).onT s = R) :=
 (get_any g B i s wr h.tape).mono fun e w' q => ⟨q.1, q.2, hQ' hE⟩
theorem set_ask (h : TWk W g B A m wr s) {i v : Int} {k : Op α} {R : Option α × TS} (hE : (Op.set i v k).onT s = R) :
 Calls Tryz.prog 207 #[.pointer (some ⟨g, 0, none⟩), .int .i64 i, .int .i64 v] wr fun e w' => e = .returned (.tuple #[]) ∧ Hid (k.onT (s.set i v) = R) ∧ Hid (TWk W g B A m w' (s.set i v)) ∧ Hid ((s.set i v).acc = s.acc) :=
 (set_any g B i v s wr h.tape).mono fun e w' q => ⟨q.1, hQ' hE, hQ' ⟨q.2.1, h.tk.trans q.2.2, by rw [set_ans]; exact h.ans, by rw [set_nts]; exact h.nts⟩, hQ' (set_acc s i v)⟩
theorem note_ask (h : TWk W g B A m wr s) (hm : m < 1000000) {c : Int} {k : Op α} {R : Option α × TS} (hE : (Op.note c k).onT s = R) :
 Calls Tryz.prog 236 #[.pointer (some ⟨g, 0, none⟩), .int .i64 c] wr fun e w' => e = .returned (.tuple #[]) ∧ Hid (k.onT (s.noted c) = R) ∧ Hid (TWk W g B A (m + 1) w' (s.noted c)) :=
 (note_any g B c s wr h.tape (Nat.lt_of_le_of_lt h.nts hm)).mono fun e w' q => ⟨q.1, hQ' hE, hQ' ⟨q.2.1, h.tk.trans q.2.2, h.ans, by simp only [TS.noted, List.length_append, List.length_singleton]; have := h.nts; omega⟩⟩
theorem asked_acc (s : TS) (a : Int × Int × Int) : (s.asked a).acc.length = s.acc.length + 1 := by simp [TS.asked]
theorem TWk.askedN (h : TWk W g B A m wr s) : askedN' g wr = s.acc.length := askedN'_eq h.tape
end
end Go.Proofs.YtpodgcpkccpnfaaGreat

namespace Go.Proofs.YtpodgcpkccpnfaaGreat
open Go.RowKit
def jumpsTo (J : Nat → Act → World → Prop) (Q : Exit → Act → World → Prop) : Exit → Act → World → Prop
 | .goto l', a, w => J l' a w
 | e, a, w => Q e a w
theorem wp_scope_labels {P : Program} {a : Act} {w : World} {Q : Exit → Act → World → Prop} {c : Code} (J : Nat → Act → World → Prop) (μ : Act → World → Nat)
 (first : c.wp P (jumpsTo J Q) a w)
 (pass : ∀ l a w, J l a w → ∃ rest, findLabel c l = some rest ∧ rest.wp P (jumpsTo (fun l' a' w' => J l' a' w' ∧ μ a' w' < μ a w) Q) a w) : (Code.scope c).wp P Q a w := by
 intro b k cs
 have key : ∀ n l rest a w, μ a w = n → J l a w → findLabel c l = some rest → ∃ e a' w', Q e a' w' ∧ Arrives P (lone (b.at a (.code rest :: .inScope c :: k)) cs w) b k cs e a' w' := by
  intro n
  induction n using Nat.strongRecOn with
  | _ n ih =>
   intro l rest a w hn hJ hf
   obtain ⟨rest', hf', hp⟩ := pass l a w hJ
   rw [hf] at hf'
   obtain rfl : rest = rest' := by simpa using hf'
   obtain ⟨e, a₁, w₁, hq, harr⟩ := hp b (.inScope c :: k) cs
   cases e with
   | normal => exact ⟨.normal, a₁, w₁, hq, Steps.trans harr (.one step_inScope)⟩
   | exit id => exact ⟨.exit id, a₁, w₁, hq, fun k' hk => harr k' (by simp [exitTo, hk])⟩
   | goto l' =>
    obtain ⟨hJ', hlt⟩ := hq
    obtain ⟨rest2, hf2, _⟩ := pass l' a₁ w₁ hJ'
    have hg : gotoIn l' (.inScope c :: k) = some (.code rest2 :: .inScope c :: k) := by simp [gotoIn, hf2]
    obtain ⟨e₂, a₂, w₂, hq₂, harr₂⟩ := ih _ (by omega) l' rest2 a₁ w₁ rfl hJ' hf2
    exact ⟨e₂, a₂, w₂, hq₂, .of_steps (harr _ hg) harr₂⟩
   | ret => exact ⟨_, a₁, w₁, hq, harr⟩
   | panic ch => exact ⟨_, a₁, w₁, hq, harr⟩
   | outgrown => exact ⟨_, a₁, w₁, hq, harr⟩
 obtain ⟨e, a₁, w₁, hq, harr⟩ := first b (.inScope c :: k) cs
 cases e with
 | normal => exact ⟨.normal, a₁, w₁, hq, .head step_scope (Steps.trans harr (.one step_inScope))⟩
 | exit id => exact ⟨.exit id, a₁, w₁, hq, fun k' hk => .head step_scope (harr k' (by simp [exitTo, hk]))⟩
 | goto l' =>
  obtain ⟨rest2, hf2, _⟩ := pass l' a₁ w₁ hq
  have hg : gotoIn l' (.inScope c :: k) = some (.code rest2 :: .inScope c :: k) := by simp [gotoIn, hf2]
  obtain ⟨e₂, a₂, w₂, hq₂, harr₂⟩ := key _ l' rest2 a₁ w₁ rfl hq hf2
  exact ⟨e₂, a₂, w₂, hq₂, .of_steps (.head step_scope (harr _ hg)) harr₂⟩
 | ret => exact ⟨_, a₁, w₁, hq, .of_steps (.one step_scope) harr⟩
 | panic ch => exact ⟨_, a₁, w₁, hq, .of_steps (.one step_scope) harr⟩
 | outgrown => exact ⟨_, a₁, w₁, hq, .of_steps (.one step_scope) harr⟩
def puts (a : Act) : List (Nat × Value) → Act
 | [] => a
 | (n, v) :: r => puts (a.put (some n) v) r
def Only (a : Act) (S : List Nat) (a' : Act) : Prop := a' = puts a (S.map fun n => (n, a'.tmps.getD n undef))
theorem wp_scope_frame {P : Program} {a : Act} {w : World} {Q : Exit → Act → World → Prop} {c : Code} (S : List Nat) (I : Nat → World → Prop) (μ : World → Nat)
 (first : ∀ J : Nat → Act → World → Prop, Hid (∀ l a' w', Only a S a' → I l w' → J l a' w') → c.wp P (jumpsTo J Q) a w)
 (pass : ∀ l (f : Nat → Value) w', I l w' → ∃ rest, findLabel c l = some rest ∧ ∀ J : Nat → Act → World → Prop, Hid (∀ l' a' w'', Only a S a' → I l' w'' → μ w'' < μ w' → J l' a' w'') → rest.wp P (jumpsTo J Q) (puts a (S.map fun n => (n, f n))) w') : (Code.scope c).wp P Q a w :=
 wp_scope_labels (fun l a' w' => Only a S a' ∧ I l w') (fun _ w' => μ w') (first _ (hQ' fun l a' w' h1 h2 => ⟨h1, h2⟩)) (fun l a' w' ⟨h1, h2⟩ => by
  obtain ⟨rest, hf, hp⟩ := pass l (fun n => a'.tmps.getD n undef) w' h2
  refine ⟨rest, hf, ?_⟩
  rw [h1]
  exact hp _ (hQ' fun l' a'' w'' g1 g2 g3 => ⟨⟨g1, g2⟩, g3⟩))
theorem wp_scope_frameF {P : Program} {a : Act} {w : World} {Q : Exit → Act → World → Prop} {c : Code} (S : List Nat) (I : Nat → (Nat → Value) → World → Prop) (μ : World → Nat)
 (first : ∀ J : Nat → Act → World → Prop, Hid (∀ l a' w', Only a S a' → I l (fun n => a'.tmps.getD n undef) w' → J l a' w') → c.wp P (jumpsTo J Q) a w)
 (pass : ∀ l (f : Nat → Value) w', I l f w' → ∃ rest, findLabel c l = some rest ∧ ∀ J : Nat → Act → World → Prop, Hid (∀ l' a' w'', Only a S a' → I l' (fun n => a'.tmps.getD n undef) w'' → μ w'' < μ w' → J l' a' w'') → rest.wp P (jumpsTo J Q) (puts a (S.map fun n => (n, f n))) w') : (Code.scope c).wp P Q a w :=
 wp_scope_labels (fun l a' w' => Only a S a' ∧ I l (fun n => a'.tmps.getD n undef) w') (fun _ w' => μ w') (first _ (hQ' fun l a' w' h1 h2 => ⟨h1, h2⟩)) (fun l a' w' ⟨h1, h2⟩ => by
  obtain ⟨rest, hf, hp⟩ := pass l (fun n => a'.tmps.getD n undef) w' h2
  refine ⟨rest, hf, ?_⟩
  rw [h1]
  exact hp _ (hQ' fun l' a'' w'' g1 g2 g3 => ⟨⟨g1, g2⟩, g3⟩))
end Go.Proofs.YtpodgcpkccpnfaaGreat

