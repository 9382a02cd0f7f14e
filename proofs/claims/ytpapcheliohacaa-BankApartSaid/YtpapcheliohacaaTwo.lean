/-
  Two banks, beside one another.
-/
import Derived.Test.YtpapcheliohacaaBankW
set_option linter.unusedVariables false
set_option linter.unusedSimpArgs false
namespace Go.Proofs.Ytpapcheliohacaa
open Go.RowKit

def TwoB (w0 w : World) (ha hb : Nat) (l : List SD) (sa sb : BS) (N M : Nat) (Z : Nat → Prop) : Prop :=
  Up w0 w ∧ ∃ Ba Bb Xa Xb, w0.heap.size ≤ Ba ∧ w0.heap.size ≤ Bb ∧ BankM w Ba ha l sa N Xa ∧ BankM w Bb hb l sb M Xb ∧ (∀ k, Xa k → ¬ Xb k) ∧ ∀ z, Z z → z < w.heap.size ∧ ¬ Xa z ∧ ¬ Xb z
theorem TwoB.swap {w0 w : World} {ha hb N M : Nat} {l : List SD} {sa sb : BS} {Z : Nat → Prop} (L : TwoB w0 w ha hb l sa sb N M Z) : TwoB w0 w hb ha l sb sa M N Z := by
  obtain ⟨h1, Ba, Bb, Xa, Xb, h2, h3, h4, h5, h6, h7⟩ := L
  exact ⟨h1, Bb, Ba, Xb, Xa, h3, h2, h5, h4, fun k hb ha => h6 k ha hb, fun z hz => ⟨(h7 z hz).1, (h7 z hz).2.2, (h7 z hz).2.1⟩⟩
theorem TwoB.less {w0 w : World} {ha hb N M : Nat} {l : List SD} {sa sb : BS} {Z Z' : Nat → Prop} (L : TwoB w0 w ha hb l sa sb N M Z) (hZ : ∀ z, Z' z → Z z) : TwoB w0 w ha hb l sa sb N M Z' := by
  obtain ⟨h1, Ba, Bb, Xa, Xb, h2, h3, h4, h5, h6, h7⟩ := L
  exact ⟨h1, Ba, Bb, Xa, Xb, h2, h3, h4, h5, h6, fun z hz => h7 z (hZ z hz)⟩
theorem TwoB.grow {w0 w w' : World} {ha hb N M : Nat} {l : List SD} {sa sb : BS} {Z : Nat → Prop} (L : TwoB w0 w ha hb l sa sb N M Z) (u : Up w w') : TwoB w0 w' ha hb l sa sb N M (fun k => Z k ∨ (w.heap.size ≤ k ∧ k < w'.heap.size)) := by
  obtain ⟨h1, Ba, Bb, Xa, Xb, h2, h3, h4, h5, h6, h7⟩ := L
  refine ⟨h1.trans u, Ba, Bb, Xa, Xb, h2, h3, h4.up u, h5.up u, h6, fun z hz => ?_⟩
  rcases hz with hz | hz
  · exact ⟨Nat.lt_of_lt_of_le (h7 z hz).1 u.size, (h7 z hz).2⟩
  · exact ⟨hz.2, fun hx => by have := (h4.lt z hx).2; omega, fun hx => by have := (h5.lt z hx).2; omega⟩
theorem TwoB.up {w0 w w' : World} {ha hb N M : Nat} {l : List SD} {sa sb : BS} {Z : Nat → Prop} (L : TwoB w0 w ha hb l sa sb N M Z) (u : Up w w') : TwoB w0 w' ha hb l sa sb N M Z := (L.grow u).less fun z hz => .inl hz
theorem TwoB.more {w0 w : World} {ha hb N N' M M' : Nat} {l : List SD} {sa sb : BS} {Z : Nat → Prop} (L : TwoB w0 w ha hb l sa sb N M Z) (hN : N ≤ N') (hM : M ≤ M') : TwoB w0 w ha hb l sa sb N' M' Z := by
  obtain ⟨h1, Ba, Bb, Xa, Xb, h2, h3, h4, h5, h6, h7⟩ := L
  exact ⟨h1, Ba, Bb, Xa, Xb, h2, h3, h4.more hN (fun k hk => hk) h4.lt, h5.more hM (fun k hk => hk) h5.lt, h6, h7⟩
theorem two_step {w0 w w' : World} {Ba Bb ha hb N N' M : Nat} {l : List SD} {sa sa' sb : BS} {Xa Xb Z : Nat → Prop} (h1 : Up w0 w) (h2 : w0.heap.size ≤ Ba) (h3 : w0.heap.size ≤ Bb) (h4 : BankM w Ba ha l sa N Xa) (h5 : BankM w Bb hb l sb M Xb) (h6 : ∀ k, Xa k → ¬ Xb k) (h7 : ∀ z, Z z → z < w.heap.size ∧ ¬ Xa z ∧ ¬ Xb z)
    (hm : BankM w' Ba ha l sa' N' (XG Xa w w')) (hf : Fr w w' Xa) : TwoB w0 w' ha hb l sa' sb N' M Z ∧ ∀ z, Z z → w'.heap[z]? = w.heap[z]? := by
  refine ⟨⟨hf.toUp h1 (fun k hk => Nat.le_trans h2 (h4.lt k hk).1), Ba, Bb, XG Xa w w', Xb, h2, h3, hm, h5.beside hf (fun k hb ha => h6 k ha hb), fun k ha hb => ?_, fun z hz => ⟨Nat.lt_of_lt_of_le (h7 z hz).1 hf.size, fun hx => ?_, (h7 z hz).2.2⟩⟩, fun z hz => hf.block z (h7 z hz).1 (h7 z hz).2.1⟩
  · rcases ha with ha | ha
    · exact h6 k ha hb
    · have := (h5.lt k hb).2; omega
  · rcases hx with hx | hx
    · exact (h7 z hz).2.1 hx
    · have := (h7 z hz).1; omega
theorem end_two (ha hb N M : Nat) (l : List SD) (sa sb : BS) (t d : Int) (w0 w : World) (Z : Nat → Prop) (mk : Int → CS) (ht : -9223372036854775808 ≤ t ∧ t ≤ 9223372036854775807) (L : TwoB w0 w ha hb l sa sb N M Z) (hN : N ≤ 1000) :
    Calls Try.prog 20 #[.pointer (some ⟨ha, 0, none⟩), .int .i64 t, .int .i64 d] w fun e w' => e = .returned (.tuple #[.int .i64 (sa.endA mk t d).1, .int .i64 (sa.endA mk t d).2.1]) ∧ TwoB w0 w' ha hb l (sa.endA mk t d).2.2 sb N M Z ∧ ∀ z, Z z → w'.heap[z]? = w.heap[z]? := by
  obtain ⟨h1, Ba, Bb, Xa, Xb, h2, h3, h4, h5, h6, h7⟩ := L
  exact (endM_any l Ba ha N sa Xa t d w ht.1 ht.2 h4 hN mk).mono fun e w' ⟨he, hm, hf⟩ => ⟨he, two_step h1 h2 h3 h4 h5 h6 h7 hm hf⟩
theorem begin_two (ha hb N M : Nat) (l : List SD) (sa sb : BS) (t k cl v : Int) (w0 w : World) (Z : Nat → Prop) (hf : Fit l) (ht : -9223372036854775808 ≤ t ∧ t ≤ 9223372036854775807) (L : TwoB w0 w ha hb l sa sb N M Z) (hN : N ≤ 900) :
    Calls Try.prog 22 #[.pointer (some ⟨ha, 0, none⟩), .int .i64 t, .agg #[.int .i64 k, .int .i64 cl, .int .i64 v]] w fun e w' => e = .returned (.int .i64 (sa.begin (cntK l l.length) 6 (mkP l) t k cl v).1) ∧ TwoB w0 w' ha hb l (sa.begin (cntK l l.length) 6 (mkP l) t k cl v).2 sb (N + 9) M Z ∧ ∀ z, Z z → w'.heap[z]? = w.heap[z]? := by
  obtain ⟨h1, Ba, Bb, Xa, Xb, h2, h3, h4, h5, h6, h7⟩ := L
  exact (beginM_any l Ba ha N sa Xa t k cl v w hf ht.1 ht.2 h4 hN).mono fun e w' ⟨he, hm, hf⟩ => ⟨he, two_step h1 h2 h3 h4 h5 h6 h7 hm hf⟩
theorem busy_two (ha hb N M : Nat) (l : List SD) (sa sb : BS) (t : Int) (w0 w : World) (Z : Nat → Prop) (ht : -9223372036854775808 ≤ t ∧ t ≤ 9223372036854775807) (L : TwoB w0 w ha hb l sa sb N M Z) :
    Calls Try.prog 24 #[.pointer (some ⟨ha, 0, none⟩), .int .i64 t] w fun e w' => e = .returned (.tuple #[.int .i64 (sa.busy t).1, .bool (sa.busy t).2]) ∧ Up w w' := by
  obtain ⟨h1, Ba, Bb, Xa, Xb, h2, h3, h4, h5, h6, h7⟩ := L
  exact busyM_any l Ba ha N sa Xa t w ht.1 ht.2 h4
theorem value_two (ha hb N M : Nat) (l : List SD) (sa sb : BS) (n : Int) (w0 w : World) (Z : Nat → Prop) (hn : Wf n) (L : TwoB w0 w ha hb l sa sb N M Z) :
    Calls Try.prog 26 #[.pointer (some ⟨ha, 0, none⟩), .int .i64 n] w fun e w' => e = .returned (.int .i64 (sa.value n)) ∧ w' = w := by
  obtain ⟨h1, Ba, Bb, Xa, Xb, h2, h3, h4, h5, h6, h7⟩ := L
  exact valueM_any l Ba ha N sa Xa n w hn h4
theorem two_new {w0 w1 w2 w3 : World} {ha hb : Nat} {l : List SD} {Xa Xb : Nat → Prop} (u1 : Up w0 w1) (u2 : Up w1 w2) (u3 : Up w2 w3) (h4 : BankM w2 w1.heap.size ha l bs0 0 Xa) (h5 : BankM w3 w2.heap.size hb l bs0 0 Xb) : TwoB w0 w3 ha hb l bs0 bs0 0 0 (fun _ => False) :=
  ⟨(u1.trans u2).trans u3, _, _, Xa, Xb, u1.size, (u1.trans u2).size, h4.up u3, h5, fun k ha hb => by have := (h4.lt k ha).2; have := (h5.lt k hb).1; omega, fun z hz => hz.elim⟩

end Go.Proofs.Ytpapcheliohacaa
