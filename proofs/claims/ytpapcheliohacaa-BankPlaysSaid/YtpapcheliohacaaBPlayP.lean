/-
  BankPlays: the program's bank beside the document's.
-/
import Derived.Test.YtpapcheliohacaaBankW
import Derived.Test.YtpapcheliohacaaDocH
import Derived.Test.YtpapcheliohacaaUsedD
set_option linter.unusedVariables false
set_option linter.unusedSimpArgs false
namespace Go.Proofs.Ytpapcheliohacaa
open Go.RowKit

def PlayB (w0 w : World) (h r : Nat) (l : List SD) (Ls : Value) (s : BS) (ds : BDl) (N K : Nat) (Z : Nat → Prop) : Prop :=
  Up w0 w ∧ ∃ Ba Bb Xa Xb, w0.heap.size ≤ Ba ∧ w0.heap.size ≤ Bb ∧ BankM w Ba h l s N Xa ∧ DocM w Bb r Ls ds K Xb ∧ (∀ k, Xa k → ¬ Xb k) ∧ ∀ z, Z z → z < w.heap.size ∧ ¬ Xa z ∧ ¬ Xb z
theorem PlayB.less {w0 w : World} {h r N K : Nat} {l : List SD} {Ls : Value} {s : BS} {ds : BDl} {Z Z' : Nat → Prop} (L : PlayB w0 w h r l Ls s ds N K Z) (hZ : ∀ z, Z' z → Z z) : PlayB w0 w h r l Ls s ds N K Z' := by
  obtain ⟨h1, Ba, Bb, Xa, Xb, h2, h3, h4, h5, h6, h7⟩ := L
  exact ⟨h1, Ba, Bb, Xa, Xb, h2, h3, h4, h5, h6, fun z hz => h7 z (hZ z hz)⟩
theorem PlayB.grow {w0 w w' : World} {h r N K : Nat} {l : List SD} {Ls : Value} {s : BS} {ds : BDl} {Z : Nat → Prop} (L : PlayB w0 w h r l Ls s ds N K Z) (u : Up w w') : PlayB w0 w' h r l Ls s ds N K (fun k => Z k ∨ (w.heap.size ≤ k ∧ k < w'.heap.size)) := by
  obtain ⟨h1, Ba, Bb, Xa, Xb, h2, h3, h4, h5, h6, h7⟩ := L
  refine ⟨h1.trans u, Ba, Bb, Xa, Xb, h2, h3, h4.up u, h5.up u, h6, fun z hz => ?_⟩
  rcases hz with hz | hz
  · exact ⟨Nat.lt_of_lt_of_le (h7 z hz).1 u.size, (h7 z hz).2⟩
  · exact ⟨hz.2, fun hx => by have := (h4.lt z hx).2; omega, fun hx => by have := (h5.lt z hx).2; omega⟩
theorem PlayB.up {w0 w w' : World} {h r N K : Nat} {l : List SD} {Ls : Value} {s : BS} {ds : BDl} {Z : Nat → Prop} (L : PlayB w0 w h r l Ls s ds N K Z) (u : Up w w') : PlayB w0 w' h r l Ls s ds N K Z := (L.grow u).less fun z hz => .inl hz
theorem PlayB.more {w0 w : World} {h r N N' K K' : Nat} {l : List SD} {Ls : Value} {s : BS} {ds : BDl} {Z : Nat → Prop} (L : PlayB w0 w h r l Ls s ds N K Z) (hN : N ≤ N') (hK : K ≤ K') : PlayB w0 w h r l Ls s ds N' K' Z := by
  obtain ⟨h1, Ba, Bb, Xa, Xb, h2, h3, h4, h5, h6, h7⟩ := L
  exact ⟨h1, Ba, Bb, Xa, Xb, h2, h3, h4.more hN (fun k hk => hk) h4.lt, h5.more hK (fun k hk => hk) h5.lt, h6, h7⟩
theorem pend_play (h r N K : Nat) (l : List SD) (Ls : Value) (s : BS) (ds : BDl) (t d : Int) (w0 w : World) (Z : Nat → Prop) (mk : Int → CS) (ht : -9223372036854775808 ≤ t ∧ t ≤ 9223372036854775807) (L : PlayB w0 w h r l Ls s ds N K Z) (hN : N ≤ 1000) :
    Calls Try.prog 20 #[.pointer (some ⟨h, 0, none⟩), .int .i64 t, .int .i64 d] w fun e w' => e = .returned (.tuple #[.int .i64 (s.endA mk t d).1, .int .i64 (s.endA mk t d).2.1]) ∧ PlayB w0 w' h r l Ls (s.endA mk t d).2.2 ds N K Z ∧ ∀ z, Z z → w'.heap[z]? = w.heap[z]? := by
  obtain ⟨h1, Ba, Bb, Xa, Xb, h2, h3, h4, h5, h6, h7⟩ := L
  refine (endM_any l Ba h N s Xa t d w ht.1 ht.2 h4 hN mk).mono fun e w' ⟨he, hm, hf⟩ => ⟨he, ⟨hf.toUp h1 (fun k hk => Nat.le_trans h2 (h4.lt k hk).1), Ba, Bb, XG Xa w w', Xb, h2, h3, hm, h5.beside hf (fun k hb ha => h6 k ha hb), fun k ha hb => ?_, fun z hz => ⟨Nat.lt_of_lt_of_le (h7 z hz).1 hf.size, fun hx => ?_, (h7 z hz).2.2⟩⟩, fun z hz => hf.block z (h7 z hz).1 (h7 z hz).2.1⟩
  · rcases ha with ha | ha
    · exact h6 k ha hb
    · have := (h5.lt k hb).2; omega
  · rcases hx with hx | hx
    · exact (h7 z hz).2.1 hx
    · have := (h7 z hz).1; omega
theorem pbegin_play (h r N K : Nat) (l : List SD) (Ls : Value) (s : BS) (ds : BDl) (t k cl v : Int) (w0 w : World) (Z : Nat → Prop) (hfit : Fit l) (ht : -9223372036854775808 ≤ t ∧ t ≤ 9223372036854775807) (L : PlayB w0 w h r l Ls s ds N K Z) (hN : N ≤ 900) :
    Calls Try.prog 22 #[.pointer (some ⟨h, 0, none⟩), .int .i64 t, .agg #[.int .i64 k, .int .i64 cl, .int .i64 v]] w fun e w' => e = .returned (.int .i64 (s.begin (cntK l l.length) 6 (mkP l) t k cl v).1) ∧ PlayB w0 w' h r l Ls (s.begin (cntK l l.length) 6 (mkP l) t k cl v).2 ds (N + 9) K Z ∧ ∀ z, Z z → w'.heap[z]? = w.heap[z]? := by
  obtain ⟨h1, Ba, Bb, Xa, Xb, h2, h3, h4, h5, h6, h7⟩ := L
  refine (beginM_any l Ba h N s Xa t k cl v w hfit ht.1 ht.2 h4 hN).mono fun e w' ⟨he, hm, hf⟩ => ⟨he, ⟨hf.toUp h1 (fun k hk => Nat.le_trans h2 (h4.lt k hk).1), Ba, Bb, XG Xa w w', Xb, h2, h3, hm, h5.beside hf (fun k hb ha => h6 k ha hb), fun k ha hb => ?_, fun z hz => ⟨Nat.lt_of_lt_of_le (h7 z hz).1 hf.size, fun hx => ?_, (h7 z hz).2.2⟩⟩, fun z hz => hf.block z (h7 z hz).1 (h7 z hz).2.1⟩
  · rcases ha with ha | ha
    · exact h6 k ha hb
    · have := (h5.lt k hb).2; omega
  · rcases hx with hx | hx
    · exact (h7 z hz).2.1 hx
    · have := (h7 z hz).1; omega
theorem dstep_play {w0 w w' : World} {Ba Bb h r N K K' : Nat} {l : List SD} {Ls : Value} {s : BS} {ds ds' : BDl} {Xa Xb Z : Nat → Prop} (h1 : Up w0 w) (h2 : w0.heap.size ≤ Ba) (h3 : w0.heap.size ≤ Bb) (h4 : BankM w Ba h l s N Xa) (h5 : DocM w Bb r Ls ds K Xb) (h6 : ∀ k, Xa k → ¬ Xb k) (h7 : ∀ z, Z z → z < w.heap.size ∧ ¬ Xa z ∧ ¬ Xb z)
    (hm : DocM w' Bb r Ls ds' K' (XG Xb w w')) (hf : Fr w w' Xb) : PlayB w0 w' h r l Ls s ds' N K' Z ∧ ∀ z, Z z → w'.heap[z]? = w.heap[z]? := by
  refine ⟨⟨hf.toUp h1 (fun k hk => Nat.le_trans h3 (h5.lt k hk).1), Ba, Bb, Xa, XG Xb w w', h2, h3, h4.beside hf h6, hm, fun k ha hb => ?_, fun z hz => ⟨Nat.lt_of_lt_of_le (h7 z hz).1 hf.size, (h7 z hz).2.1, fun hx => ?_⟩⟩, fun z hz => hf.block z (h7 z hz).1 (h7 z hz).2.2⟩
  · rcases hb with hb | hb
    · exact h6 k ha hb
    · have := (h4.lt k ha).2; omega
  · rcases hx with hx | hx
    · exact (h7 z hz).2.2 hx
    · have := (h7 z hz).1; omega
theorem dend_play (h r N K : Nat) (l : List SD) (Ls : Value) (s : BS) (ds : BDl) (t d : Int) (w0 w : World) (Z : Nat → Prop) (L : PlayB w0 w h r l Ls s ds N K Z) (hK : K ≤ 900) :
    Calls Try.prog 21 #[.pointer (some ⟨r, 0, none⟩), .int .i64 t, .int .i64 d] w fun e w' => e = .returned (.tuple #[.int .i64 (docEnd ds t d).1, .int .i64 (docEnd ds t d).2.1]) ∧ PlayB w0 w' h r l Ls s (docEnd ds t d).2.2 N (K + 1) Z ∧ ∀ z, Z z → w'.heap[z]? = w.heap[z]? := by
  obtain ⟨h1, Ba, Bb, Xa, Xb, h2, h3, h4, h5, h6, h7⟩ := L
  exact (rendB_any Bb r K Ls ds Xb t d w h5 hK).mono fun e w' ⟨he, hm, hf⟩ => ⟨he, dstep_play h1 h2 h3 h4 h5 h6 h7 hm hf⟩
theorem dbegin_play (h r N K : Nat) (l : List SD) (A : Option Addr) (c : Nat) (s : BS) (ds : BDl) (t k cl v : Int) (w0 w : World) (Z : Nat → Prop) (hfit : Fit l) (hr : StripRow w0 A l) (L : PlayB w0 w h r l (.slice A l.length c) s ds N K Z) (hK : K ≤ 900) :
    Calls Try.prog 23 #[.pointer (some ⟨r, 0, none⟩), .int .i64 t, .agg #[.int .i64 k, .int .i64 cl, .int .i64 v]] w fun e w' => e = .returned (.int .i64 (docBegin l ds t k cl v).1) ∧ PlayB w0 w' h r l (.slice A l.length c) s (docBegin l ds t k cl v).2 N (K + 1) Z ∧ ∀ z, Z z → w'.heap[z]? = w.heap[z]? := by
  obtain ⟨h1, Ba, Bb, Xa, Xb, h2, h3, h4, h5, h6, h7⟩ := L
  exact (rbeginB_any l A c Bb r K ds Xb t k cl v w hfit (hr.up h1) h5 hK).mono fun e w' ⟨he, hm, hf⟩ => ⟨he, dstep_play h1 h2 h3 h4 h5 h6 h7 hm hf⟩
theorem pbusy_play (h r N K : Nat) (l : List SD) (Ls : Value) (s : BS) (ds : BDl) (t : Int) (w0 w : World) (Z : Nat → Prop) (ht : -9223372036854775808 ≤ t ∧ t ≤ 9223372036854775807) (L : PlayB w0 w h r l Ls s ds N K Z) :
    Calls Try.prog 24 #[.pointer (some ⟨h, 0, none⟩), .int .i64 t] w fun e w' => e = .returned (.tuple #[.int .i64 (s.busy t).1, .bool (s.busy t).2]) ∧ Up w w' := by
  obtain ⟨h1, Ba, Bb, Xa, Xb, h2, h3, h4, h5, h6, h7⟩ := L
  exact busyM_any l Ba h N s Xa t w ht.1 ht.2 h4
theorem dbusy_play (h r N K : Nat) (l : List SD) (Ls : Value) (s : BS) (ds : BDl) (t : Int) (w0 w : World) (Z : Nat → Prop) (L : PlayB w0 w h r l Ls s ds N K Z) (hK : K ≤ 1000) :
    Calls Try.prog 25 #[.pointer (some ⟨r, 0, none⟩), .int .i64 t] w fun e w' => e = .returned (.int .i64 (busyZ ds t)) ∧ w' = w := by
  obtain ⟨h1, Ba, Bb, Xa, Xb, h2, h3, h4, ⟨Nv, Cv, gl, g1, g2, g3, g4, g5⟩, h6, h7⟩ := L
  exact rbusyB_any Bb r K Ls Nv Cv ds gl Xb t w g1 g2 g5 hK
theorem pvalue_play (h r N K : Nat) (l : List SD) (Ls : Value) (s : BS) (ds : BDl) (n : Int) (w0 w : World) (Z : Nat → Prop) (hn : Wf n) (L : PlayB w0 w h r l Ls s ds N K Z) :
    Calls Try.prog 26 #[.pointer (some ⟨h, 0, none⟩), .int .i64 n] w fun e w' => e = .returned (.int .i64 (s.value n)) ∧ w' = w := by
  obtain ⟨h1, Ba, Bb, Xa, Xb, h2, h3, h4, h5, h6, h7⟩ := L
  exact valueM_any l Ba h N s Xa n w hn h4
theorem dvalue_play (h r N K : Nat) (l : List SD) (Ls : Value) (s : BS) (ds : BDl) (n : Int) (w0 w : World) (Z : Nat → Prop) (L : PlayB w0 w h r l Ls s ds N K Z) (hK : K ≤ 1000) :
    Calls Try.prog 27 #[.pointer (some ⟨r, 0, none⟩), .int .i64 n] w fun e w' => e = .returned (.int .i64 (docValue ds n)) ∧ w' = w := by
  obtain ⟨h1, Ba, Bb, Xa, Xb, h2, h3, h4, h5, h6, h7⟩ := L
  exact rvalueB_any Bb r K Ls ds Xb n w h5 hK
theorem pused_play (h r N K : Nat) (l : List SD) (Ls : Value) (s : BS) (ds : BDl) (w0 w : World) (Z : Nat → Prop) (hN : N ≤ 1000) (L : PlayB w0 w h r l Ls s ds N K Z) :
    Calls Try.prog 29 #[.pointer (some ⟨h, 0, none⟩)] w fun e w' => ∃ (A : Option Addr) (c : Nat) (L : List Int), e = .returned (.slice A L.length c) ∧ UsedL s L ∧ Row w' A L.length (IVal L) ∧ Up w w' := by
  obtain ⟨h1, Ba, Bb, Xa, Xb, h2, h3, ⟨m, R, sz, F, MS, g3, g4, g5, g6, g7, g8⟩, h5, h6, h7⟩ := L
  exact (used_any h R _ m sz s.by' F w (by omega) g3.blk g3.map).mono fun e w' ⟨v, L, he, hu, hr, hup⟩ => by
    obtain ⟨A, c, hv, hrow, _⟩ := own_row (f := IVal L) hr (fun k hk => iVal_map hk)
    exact ⟨A, c, L, by rw [he, hv], ⟨hu.1, fun x => by rw [hu.2 x, g4.dom x]⟩, hrow, hup⟩
theorem dused_play (h r N K : Nat) (l : List SD) (Ls : Value) (s : BS) (ds : BDl) (w0 w : World) (Z : Nat → Prop) (L : PlayB w0 w h r l Ls s ds N K Z) (hK : K ≤ 1000) :
    Calls Try.prog 30 #[.pointer (some ⟨r, 0, none⟩)] w fun e w' => ∃ (A : Option Addr) (c : Nat), e = .returned (.slice A (usedK ds ds.length).length c) ∧ Row w' A (usedK ds ds.length).length (IVal (usedK ds ds.length)) ∧ Up w w' := by
  obtain ⟨h1, Ba, Bb, Xa, Xb, h2, h3, h4, ⟨Nv, Cv, gl, g1, g2, g3, g4, g5⟩, h6, h7⟩ := L
  exact (rusedB_any Bb r Ls Nv Cv ds gl w g1 (by have := g5.1; omega)).mono fun e w' ⟨v, he, hr, hup⟩ => by
    obtain ⟨A, c, hv, hrow, _⟩ := own_row (f := IVal (usedK ds ds.length)) hr (fun k hk => iVal_map hk)
    exact ⟨A, c, by rw [he, hv], hrow, hup⟩
/-- Both tell the same numbers. -/
theorem used_same {s : BS} {ds : BDl} {L : List Int} (H : BSim s ds) (hw : ∀ p ∈ ds, Wf p.1) (hL : UsedL s L) : L = usedK ds ds.length := by
  refine asc_eq hL.1 (usedK_sorted H.nd _ (Nat.le_refl _)) fun x => ?_
  rw [hL.2 x, usedK_mem, H.dom x]
  constructor
  · rintro ⟨_, p, hp, e⟩
    obtain ⟨i, hi, hpe⟩ := List.getElem_of_mem hp
    exact ⟨i, hi, by rw [List.getD_eq_getElem?_getD, List.getElem?_eq_getElem hi]; show ds[i].1 = x; rw [hpe, e]⟩
  · rintro ⟨i, hi, e⟩
    exact ⟨by rw [← e]; exact hw _ (getD_mem hi), _, getD_mem hi, e⟩
theorem docTurn_wf {ds : BDl} {j : Nat} {D : DS} (h : ∀ p ∈ ds, Wf p.1) (hj : j < ds.length) : ∀ p ∈ docTurn ds j D, Wf p.1 := fun p hp => by
  rcases turn_mem hj hp with rfl | hp
  · show Wf (ds.getD j d0).1
    exact h _ (getD_mem hj)
  · exact h p hp
theorem docTurn_wf' {ds : BDl} {j : Nat} {D : DS} (h : ∀ p ∈ ds, Wf p.1) : ∀ p ∈ docTurn ds j D, Wf p.1 := fun p hp => by
  by_cases hj : j < ds.length
  · exact docTurn_wf h hj p hp
  · unfold docTurn at hp
    rw [List.set_eq_of_length_le (by omega)] at hp
    exact h p hp
theorem docEnd_wf {ds : BDl} (t d : Int) (h : ∀ p ∈ ds, Wf p.1) : ∀ p ∈ (docEnd ds t d).2.2, Wf p.1 := by
  unfold docEnd
  split
  · exact h
  · exact docTurn_wf' h
theorem docBegin_wf {l : List SD} {ds : BDl} (t k cl v : Int) (hc : Wf cl) (h : ∀ p ∈ ds, Wf p.1) : ∀ p ∈ (docBegin l ds t k cl v).2, Wf p.1 := by
  unfold docBegin
  split
  · exact h
  split
  · exact h
  split
  · exact h
  refine docTurn_wf' ?_
  unfold docAdd
  split
  · intro p hp
    rcases List.mem_append.1 hp with hp | hp
    · exact h p hp
    · rw [List.mem_singleton] at hp; rw [hp]; exact hc
  · exact h
theorem play_new {w0 w1 w2 : World} {h : Nat} {l : List SD} {A : Option Addr} {c : Nat} {Xa : Nat → Prop} {t : TypeId} (u1 : Up w0 w1) (u2 : Up w1 w2) (h4 : BankM w2 w1.heap.size h l bs0 0 Xa) :
    PlayB w0 (w2.alloc (.cells #[.slice A l.length c, .slice none 0 0, .slice none 0 0] t)) h w2.heap.size l (.slice A l.length c) bs0 [] 0 0 (fun _ => False) := by
  have hb := heap_alloc_new w2 (.cells #[.slice A l.length c, .slice none 0 0, .slice none 0 0] t)
  have hu : Up w2 (w2.alloc (.cells #[.slice A l.length c, .slice none 0 0, .slice none 0 0] t)) := (Up.refl w2).alloc _
  refine ⟨(u1.trans u2).trans hu, _, w2.heap.size, Xa, fun k => k = w2.heap.size, u1.size, (u1.trans u2).size, h4.up hu, ⟨.slice none 0 0, .slice none 0 0, [], ⟨cell_of_row _ _ 0 _ _ _ hb, cell_of_row _ _ 1 _ _ _ hb, cell_of_row _ _ 2 _ _ _ hb, fun j => frozen_of_row _ _ j _ _ hb, ⟨rfl, .inl ⟨rfl, rfl⟩⟩, ⟨rfl, .inl ⟨rfl, rfl⟩⟩, by simp [Value.ownBlock], by simp [Value.ownBlock], by simp [Value.ownBlock], Nat.le_refl _⟩, ⟨rfl, fun j hj => absurd hj (Nat.not_lt_zero j), fun j hj => absurd hj (Nat.not_lt_zero j), fun i j hi => absurd hi (Nat.not_lt_zero i)⟩, ⟨rfl, by simp [Value.ownBlock], by simp [Value.ownBlock]⟩, fun k hk => ?_, ⟨Nat.le_refl _, fun p hp => (by cases hp)⟩⟩, fun k ha hb' => ?_, fun z hz => hz.elim⟩
  · rw [hk]; exact ⟨Nat.le_refl _, by simp⟩
  · have := (h4.lt k ha).2; omega

end Go.Proofs.Ytpapcheliohacaa
