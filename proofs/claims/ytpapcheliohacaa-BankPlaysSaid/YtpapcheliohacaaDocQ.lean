/-
  The document's bank, as plain data; that it meets the program's.
-/
import Derived.Test.YtpapcheliohacaaBankN
import Derived.Test.YtpapcheliohacaaBankH
import Derived.Test.YtpapcheliohacaaDocP
set_option linter.unusedVariables false
set_option linter.unusedSimpArgs false
namespace Go.Proofs.Ytpapcheliohacaa
open Go.RowKit

abbrev BDl := List (Int × DS)
def d0 : Int × DS := (0, ⟨0, 0, 0, 0, []⟩)
/-- Where the cell n stands among those from place k on. -/
def placeZ : BDl → Int → Nat → Int
  | [], _, _ => -1
  | p :: r, n, k => if p.1 = n then (k : Int) else placeZ r n (k + 1)
/-- To which cell an access of a thread is under way. -/
def busyZ : BDl → Int → Int
  | [], _ => -1
  | p :: r, t => if 0 ≤ findZ p.2.L t 0 then p.1 else busyZ r t
def atf (l : List SD) (n : Int) : Option SD := if 0 ≤ n ∧ n < endK l l.length then pickK l n l.length else none
def docAdd (ds : BDl) (cl : Int) (s : SD) : BDl := if placeZ ds cl 0 < 0 then ds ++ [(cl, ⟨s.kind, s.top, 0, 0, []⟩)] else ds
def docTurn (ds : BDl) (j : Nat) (D : DS) : BDl := ds.set j ((ds.getD j d0).1, D)
def docBegin (l : List SD) (ds : BDl) (t k cl v : Int) : Int × BDl :=
  match atf l cl with
  | none => (6, ds)
  | some s =>
    if (0 ≤ t ∧ t < 8) ∧ 0 ≤ busyZ ds t then (12, ds)
    else if t < 0 ∨ 7 < t ∨ k < 1 ∨ 2 < k then (1, ds)
    else ((((docAdd ds cl s).getD (placeZ (docAdd ds cl s) cl 0).toNat d0).2.begin t k cl v).1,
      docTurn (docAdd ds cl s) (placeZ (docAdd ds cl s) cl 0).toNat (((docAdd ds cl s).getD (placeZ (docAdd ds cl s) cl 0).toNat d0).2.begin t k cl v).2)
def docEnd (ds : BDl) (t d : Int) : Int × Int × BDl :=
  if busyZ ds t < 0 then (0, 7, ds)
  else (((ds.getD (placeZ ds (busyZ ds t) 0).toNat d0).2.endA t d).1, ((ds.getD (placeZ ds (busyZ ds t) 0).toNat d0).2.endA t d).2.1,
    docTurn ds (placeZ ds (busyZ ds t) 0).toNat ((ds.getD (placeZ ds (busyZ ds t) 0).toNat d0).2.endA t d).2.2)
def docValue (ds : BDl) (n : Int) : Int := if placeZ ds n 0 < 0 then 0 else (ds.getD (placeZ ds n 0).toNat d0).2.value

/-- Either nowhere, or at one place. -/
theorem placeZ_cases (n : Int) : ∀ (ds : BDl) (k : Nat), (placeZ ds n k = -1 ∧ ∀ p ∈ ds, p.1 ≠ n) ∨ ∃ j, j < ds.length ∧ placeZ ds n k = ((k + j : Nat) : Int) ∧ (ds.getD j d0).1 = n
  | [], _ => .inl ⟨rfl, fun p hp => (by cases hp)⟩
  | p :: r, k => by
    unfold placeZ
    by_cases h : p.1 = n
    · rw [if_pos h]; exact .inr ⟨0, by simp, by simp, h⟩
    · rw [if_neg h]
      rcases placeZ_cases n r (k + 1) with ⟨h1, h2⟩ | ⟨j, h1, h2, h3⟩
      · refine .inl ⟨h1, fun q hq => ?_⟩
        rcases List.mem_cons.1 hq with rfl | hq
        · exact h
        · exact h2 q hq
      · exact .inr ⟨j + 1, by simp; omega, by rw [h2]; congr 1; omega, by simpa using h3⟩

/-- Of the program's bank: at most one access under way for each thread, where its place says. -/
structure BInv (s : BS) : Prop where
  off : ∀ t, t < 8 → (s.by' t).1 = false → (s.by' t).2 = 0 ∧ ∀ q c, getU s.u q = some c → (c.bys t).on = false
  on : ∀ t, t < 8 → (s.by' t).1 = true → (∃ c, getU s.u (s.by' t).2 = some c ∧ (c.bys t).on = true) ∧ ∀ q c, q ≠ (s.by' t).2 → getU s.u q = some c → (c.bys t).on = false
structure BSim (s : BS) (ds : BDl) : Prop where
  inv : BInv s
  nd : ds.Pairwise (fun p q => p.1 ≠ q.1)
  dom : ∀ q, (getU s.u q).isSome = true ↔ ∃ p ∈ ds, p.1 = q
  one : ∀ p ∈ ds, ∀ c, getU s.u p.1 = some c → CSim c p.2
  now : ∀ p ∈ ds, 0 ≤ p.2.now
  nneg : ∀ p ∈ ds, 0 ≤ p.1
theorem BSim.get {s : BS} {ds : BDl} (H : BSim s ds) {p : Int × DS} (hp : p ∈ ds) : ∃ c, getU s.u p.1 = some c ∧ CSim c p.2 := by
  have := (H.dom p.1).2 ⟨p, hp, rfl⟩
  obtain ⟨c, hc⟩ := Option.isSome_iff_exists.1 this
  exact ⟨c, hc, H.one p hp c hc⟩
theorem bsim_start : BSim bs0 [] := ⟨⟨fun t _ _ => ⟨rfl, fun q c h => (by cases h)⟩, fun t _ h => (by cases h)⟩, List.Pairwise.nil, fun q => ⟨fun h => (by cases h), fun ⟨p, hp, _⟩ => (by cases hp)⟩, fun p hp => (by cases hp), fun p hp => (by cases hp), fun p hp => (by cases hp)⟩
/-- Whether a thread is under way at a cell. -/
theorem CSim.find {c : CS} {D : DS} (H : CSim c D) (t : Int) : (0 ≤ findZ D.L t 0) ↔ ∃ i : Nat, i < 8 ∧ t = (i : Int) ∧ (c.bys i).on = true := by
  by_cases ht : t < 0 ∨ 8 ≤ t
  · rw [findZ_none (H.out t ht)]
    exact ⟨fun h => by omega, fun ⟨i, h1, h2, _⟩ => by omega⟩
  · obtain ⟨i, rfl⟩ : ∃ i : Nat, t = (i : Int) := ⟨t.toNat, by omega⟩
    have hi : i < 8 := by omega
    rcases H.one i hi with ⟨h1, h2⟩ | ⟨a, h1, h2, _⟩
    · rw [findZ_none h1]
      exact ⟨fun h => by omega, fun ⟨j, _, e, h⟩ => by
        obtain rfl : i = j := by omega
        rw [h2] at h; cases h⟩
    · obtain ⟨j, _, e, _⟩ := findZ_some (k := 0) h1
      rw [e]
      exact ⟨fun _ => ⟨i, hi, rfl, h2⟩, fun _ => by omega⟩
theorem busyZ_none {t : Int} : ∀ {ds : BDl}, (∀ p ∈ ds, ¬ 0 ≤ findZ p.2.L t 0) → busyZ ds t = -1
  | [], _ => rfl
  | p :: r, h => by
    unfold busyZ
    rw [if_neg (h p (by simp)), busyZ_none (fun q hq => h q (by simp [hq]))]
theorem busyZ_some {t : Int} {n : Int} : ∀ {ds : BDl}, (∃ p ∈ ds, p.1 = n ∧ 0 ≤ findZ p.2.L t 0) → (∀ p ∈ ds, p.1 ≠ n → ¬ 0 ≤ findZ p.2.L t 0) → busyZ ds t = n
  | [], h, _ => by obtain ⟨p, hp, _⟩ := h; cases hp
  | p :: r, h, h2 => by
    unfold busyZ
    by_cases hf : 0 ≤ findZ p.2.L t 0
    · rw [if_pos hf]
      by_cases e : p.1 = n
      · exact e
      · exact absurd hf (h2 p (by simp) e)
    · rw [if_neg hf]
      refine busyZ_some ?_ (fun q hq => h2 q (by simp [hq]))
      obtain ⟨q, hq, h3, h4⟩ := h
      rcases List.mem_cons.1 hq with rfl | hq
      · exact absurd h4 hf
      · exact ⟨q, hq, h3, h4⟩
theorem BSim.busy {s : BS} {ds : BDl} (H : BSim s ds) (t : Int) : busyZ ds t = (if (s.busy t).2 = true then (s.busy t).1 else -1) ∧ ((s.busy t).2 = true → 0 ≤ (s.busy t).1) ∧ ((s.busy t).2 = false → (s.busy t).1 = 0) := by
  by_cases ht : t < 0 ∨ 8 ≤ t
  · have e : s.busy t = (0, false) := by unfold BS.busy; rw [if_pos ht]
    rw [e]
    refine ⟨?_, fun h => (by cases h), fun _ => rfl⟩
    rw [busyZ_none fun p hp => ?_]
    · rfl
    · obtain ⟨c, hc, hs⟩ := H.get hp
      rw [hs.find]
      rintro ⟨i, h1, h2, _⟩
      omega
  · obtain ⟨i, rfl⟩ : ∃ i : Nat, t = (i : Int) := ⟨t.toNat, by omega⟩
    have hi : i < 8 := by omega
    have e : s.busy (i : Int) = ((s.by' i).2, (s.by' i).1) := by unfold BS.busy; rw [if_neg ht]; rfl
    rw [e]
    dsimp only
    cases hb : (s.by' i).1
    · obtain ⟨h1, h2⟩ := H.inv.off i hi hb
      refine ⟨?_, fun h => (by cases h), fun _ => h1⟩
      rw [busyZ_none fun p hp => ?_]
      · rfl
      · obtain ⟨c, hc, hs⟩ := H.get hp
        rw [hs.find]
        rintro ⟨j, _, h4, h5⟩
        obtain rfl : i = j := by omega
        rw [h2 _ c hc] at h5; cases h5
    · obtain ⟨⟨c, h1, h2⟩, h3⟩ := H.inv.on i hi hb
      obtain ⟨p, hp, hpn⟩ := (H.dom _).1 (show (getU s.u (s.by' i).2).isSome = true by rw [h1]; rfl)
      refine ⟨?_, fun _ => by rw [← hpn]; exact H.nneg p hp, fun h => (by cases h)⟩
      rw [if_pos rfl]
      refine busyZ_some ⟨p, hp, hpn, ?_⟩ fun q hq hne => ?_
      · have hs := H.one p hp c (by rw [hpn]; exact h1)
        exact hs.find i |>.2 ⟨i, hi, rfl, h2⟩
      · obtain ⟨cq, hcq, hs⟩ := H.get hq
        rw [hs.find]
        rintro ⟨j, _, h4, h5⟩
        obtain rfl : i = j := by omega
        rw [h3 _ cq hne hcq] at h5; cases h5
theorem getD_mem {ds : BDl} {j : Nat} (h : j < ds.length) : ds.getD j d0 ∈ ds := by
  rw [List.getD_eq_getElem?_getD, List.getElem?_eq_getElem h]
  exact List.getElem_mem h
theorem BSim.value {s : BS} {ds : BDl} (H : BSim s ds) (n : Int) : docValue ds n = s.value n := by
  unfold docValue BS.value
  rcases placeZ_cases n ds 0 with ⟨h1, h2⟩ | ⟨j, h1, h2, h3⟩
  · rw [h1, if_pos (by decide)]
    cases hc : getU s.u n with
    | none => rfl
    | some c =>
      obtain ⟨p, hp, e⟩ := (H.dom n).1 (by rw [hc]; rfl)
      exact absurd e (h2 p hp)
  · rw [h2, if_neg (by omega), show ((0 + j : Nat) : Int).toNat = j by omega]
    obtain ⟨c, hc, hs⟩ := H.get (getD_mem h1)
    rw [h3] at hc
    rw [hc]; exact hs.value.symm

end Go.Proofs.Ytpapcheliohacaa

/-
  The document's bank meets the program's, call by call.
-/
namespace Go.Proofs.Ytpapcheliohacaa
open Go.RowKit

theorem begin_on (c : CS) (t k v : Int) (h : (c.begin t k v).1 = 0) : ∀ i, i < 8 → ((c.begin t k v).2.bys i).on = if i = t.toNat then true else (c.bys i).on := by
  intro i hi
  unfold CS.begin at h ⊢
  split at h
  · cases h
  rename_i h1
  rw [if_neg h1]
  split at h
  · cases h
  rename_i h2
  rw [if_neg h2]
  have hr : ∀ n, (readN c n).on = true := fun n => by
    induction n with
    | zero => rfl
    | succ n ih =>
      unfold readN
      split
      · exact ih
      · exact ih
  split
  · show ((c.put t.toNat (readN c 8)).bys i).on = _
    unfold CS.put
    dsimp only
    split
    · exact hr 8
    · rfl
  · show (((wrN c (clampT v c.top) 8).put t.toNat _).bys i).on = _
    unfold CS.put
    dsimp only
    split
    · rfl
    · rw [wrN_bys]
      split
      · rfl
      · rfl
theorem endA_on (c : CS) (t d : Int) (h : (c.endA t d).2.1 = 0) : ∀ i, i < 8 → ((c.endA t d).2.2.bys i).on = if i = t.toNat then false else (c.bys i).on := by
  intro i hi
  unfold CS.endA at h ⊢
  split at h
  · cases h
  rename_i h1
  rw [if_neg h1]
  split at h
  · cases h
  rename_i h2
  rw [if_neg h2]
  have hp : ((c.put t.toNat acc0).bys i).on = if i = t.toNat then false else (c.bys i).on := by
    unfold CS.put
    dsimp only
    split <;> rfl
  split
  · exact hp
  · exact hp
theorem begin_ok0 (c : CS) (t k v : Int) (ht : 0 ≤ t ∧ t < 8) (hk : k = 1 ∨ k = 2) (hon : (c.bys t.toNat).on = false) : (c.begin t k v).1 = 0 := by
  unfold CS.begin
  rw [if_neg (by omega), if_neg (by rw [hon]; simp)]
  split <;> rfl
theorem endA_ok0 (c : CS) (t d : Int) (ht : 0 ≤ t ∧ t < 8) (hon : (c.bys t.toNat).on = true) : (c.endA t d).2.1 = 0 := by
  unfold CS.endA
  rw [if_neg (by omega), if_neg (by rw [hon]; simp)]
  split <;> rfl
/-- An access has begun at cl. -/
theorem BInv.begin {s : BS} (H : BInv s) {t k cl v : Int} {c : CS} (ht : 0 ≤ t ∧ t < 8) (hb : (s.by' t.toNat).1 = false) (hc : ∀ c0, getU s.u cl = some c0 → c0 = c) (hn : getU s.u cl = none → ∀ i, i < 8 → (c.bys i).on = false) (h0 : (c.begin t k v).1 = 0) :
    BInv { u := putU s.u cl (c.begin t k v).2, by' := fun i => if i = t.toNat then (true, cl) else s.by' i } := by
  have hon := begin_on c t k v h0
  have hcl : ∀ i, i < 8 → i ≠ t.toNat → (s.by' i).1 = true → (s.by' i).2 ≠ cl → (c.bys i).on = false := fun i hi hne h1 h2 => by
    cases hg : getU s.u cl with
    | none => exact hn hg i hi
    | some c0 =>
      have e := hc c0 hg
      rw [← e]
      exact (H.on i hi h1).2 cl c0 (fun e => h2 e.symm) hg
  have hcl0 : ∀ i, i < 8 → (s.by' i).1 = false → (c.bys i).on = false := fun i hi h1 => by
    cases hg : getU s.u cl with
    | none => exact hn hg i hi
    | some c0 =>
      have e := hc c0 hg
      rw [← e]
      exact (H.off i hi h1).2 cl c0 hg
  refine ⟨fun i hi h1 => ?_, fun i hi h1 => ?_⟩
  · dsimp only at h1 ⊢
    by_cases e : i = t.toNat
    · rw [if_pos e] at h1; cases h1
    · rw [if_neg e] at h1 ⊢
      refine ⟨(H.off i hi h1).1, fun q c' hq => ?_⟩
      by_cases eq : q = cl
      · rw [eq, getU_same, Option.some.injEq] at hq
        rw [← hq, hon i hi, if_neg e]
        exact hcl0 i hi h1
      · rw [getU_other eq] at hq
        exact (H.off i hi h1).2 q c' hq
  · dsimp only at h1 ⊢
    by_cases e : i = t.toNat
    · rw [if_pos e]
      refine ⟨⟨_, getU_same _ _ _, by rw [hon i hi, if_pos e]⟩, fun q c' hne hq => ?_⟩
      rw [getU_other hne] at hq
      rw [e]
      exact (H.off t.toNat (by omega) hb).2 q c' hq
    · rw [if_neg e] at h1 ⊢
      obtain ⟨⟨c1, g1, g2⟩, g3⟩ := H.on i hi h1
      by_cases eq : (s.by' i).2 = cl
      · refine ⟨⟨(c.begin t k v).2, by rw [eq, getU_same], ?_⟩, fun q c' hne hq => ?_⟩
        · rw [hon i hi, if_neg e]
          rw [eq] at g1
          rw [← hc c1 g1]
          exact g2
        · rw [getU_other (by rw [← eq]; exact hne)] at hq
          exact g3 q c' hne hq
      · refine ⟨⟨c1, by rw [getU_other eq]; exact g1, g2⟩, fun q c' hne hq => ?_⟩
        by_cases eq2 : q = cl
        · rw [eq2, getU_same, Option.some.injEq] at hq
          rw [← hq, hon i hi, if_neg e]
          exact hcl i hi e h1 eq
        · rw [getU_other eq2] at hq
          exact g3 q c' hne hq
theorem BInv.endA {s : BS} (H : BInv s) {t d : Int} {c : CS} (ht : 0 ≤ t ∧ t < 8) (hb : (s.by' t.toNat).1 = true) (hc : getU s.u (s.by' t.toNat).2 = some c) :
    BInv { u := putU s.u (s.by' t.toNat).2 (c.endA t d).2.2, by' := fun i => if i = t.toNat then (false, 0) else s.by' i } := by
  obtain ⟨⟨c0, f1, f2⟩, f3⟩ := H.on t.toNat (by omega) hb
  rw [hc, Option.some.injEq] at f1
  subst f1
  have hon := endA_on c t d (endA_ok0 c t d ht f2)
  generalize hcl : (s.by' t.toNat).2 = cl at *
  refine ⟨fun i hi h1 => ?_, fun i hi h1 => ?_⟩
  · dsimp only at h1 ⊢
    by_cases e : i = t.toNat
    · rw [if_pos e]
      refine ⟨rfl, fun q c' hq => ?_⟩
      by_cases eq : q = cl
      · rw [eq, getU_same, Option.some.injEq] at hq
        rw [← hq, hon i hi, if_pos e]
      · rw [getU_other eq] at hq
        rw [e]; exact f3 q c' eq hq
    · rw [if_neg e] at h1 ⊢
      refine ⟨(H.off i hi h1).1, fun q c' hq => ?_⟩
      by_cases eq : q = cl
      · rw [eq, getU_same, Option.some.injEq] at hq
        rw [← hq, hon i hi, if_neg e]
        exact (H.off i hi h1).2 cl c hc
      · rw [getU_other eq] at hq
        exact (H.off i hi h1).2 q c' hq
  · dsimp only at h1 ⊢
    by_cases e : i = t.toNat
    · rw [if_pos e] at h1; cases h1
    · rw [if_neg e] at h1 ⊢
      obtain ⟨⟨c1, g1, g2⟩, g3⟩ := H.on i hi h1
      by_cases eq : (s.by' i).2 = cl
      · refine ⟨⟨(c.endA t d).2.2, by rw [eq, getU_same], ?_⟩, fun q c' hne hq => ?_⟩
        · rw [hon i hi, if_neg e]
          rw [eq, hc, Option.some.injEq] at g1
          rw [g1]
          exact g2
        · rw [getU_other (by rw [← eq]; exact hne)] at hq
          exact g3 q c' hne hq
      · refine ⟨⟨c1, by rw [getU_other eq]; exact g1, g2⟩, fun q c' hne hq => ?_⟩
        by_cases eq2 : q = cl
        · rw [eq2, getU_same, Option.some.injEq] at hq
          rw [← hq, hon i hi, if_neg e]
          exact g3 cl c (fun h => eq h.symm) hc
        · rw [getU_other eq2] at hq
          exact g3 q c' hne hq
theorem turn_mem {ds : BDl} {j : Nat} {D : DS} (h : j < ds.length) {p : Int × DS} (hp : p ∈ docTurn ds j D) : p = ((ds.getD j d0).1, D) ∨ p ∈ ds := by
  rcases List.mem_or_eq_of_mem_set hp with h | h
  · exact .inr h
  · exact .inl h
theorem turn_keys (ds : BDl) (j : Nat) (D : DS) : (docTurn ds j D).map (·.1) = ds.map (·.1) := by
  unfold docTurn
  apply List.ext_getElem
  · simp
  · intro i h1 h2
    simp only [List.length_map, List.length_set] at h1 h2
    simp only [List.getElem_map, List.getElem_set]
    split
    · rename_i e
      subst e
      rw [List.getD_eq_getElem?_getD, List.getElem?_eq_getElem (by simpa using h1)]; rfl
    · rfl
theorem keys_nd {ds : BDl} : ds.Pairwise (fun p q => p.1 ≠ q.1) ↔ (ds.map (·.1)).Nodup := by
  unfold List.Nodup
  rw [List.pairwise_map]
theorem keys_mem {ds : BDl} {q : Int} : (∃ p ∈ ds, p.1 = q) ↔ q ∈ ds.map (·.1) := by simp
/-- A cell of the document's is turned, and so is the program's. -/
theorem BSim.turn {s : BS} {ds : BDl} {by' : Nat → Bool × Int} (H : BSim s ds) {j : Nat} (hj : j < ds.length) {c' : CS} {D' : DS} (hs : CSim c' D') (hn : 0 ≤ D'.now) (hi : BInv { u := putU s.u (ds.getD j d0).1 c', by' := by' }) :
    BSim { u := putU s.u (ds.getD j d0).1 c', by' := by' } (docTurn ds j D') := by
  refine ⟨hi, ?_, fun q => ?_, fun p hp c hc => ?_, fun p hp => ?_, fun p hp => ?_⟩
  · rw [keys_nd, turn_keys, ← keys_nd]; exact H.nd
  · rw [keys_mem, turn_keys, ← keys_mem, ← H.dom q]
    by_cases e : q = (ds.getD j d0).1
    · rw [e, getU_same]
      exact ⟨fun _ => (H.dom _).2 ⟨_, getD_mem hj, rfl⟩, fun _ => rfl⟩
    · rw [getU_other e]
  · unfold docTurn at hp
    obtain ⟨i, hi', hpe⟩ := List.getElem_of_mem hp
    have hil : i < ds.length := by simpa using hi'
    rw [List.getElem_set] at hpe
    split at hpe
    · subst hpe
      rw [getU_same, Option.some.injEq] at hc
      rw [← hc]; exact hs
    · rename_i hne
      have hp2 : p ∈ ds := by rw [← hpe]; exact List.getElem_mem _
      have e : p.1 ≠ (ds.getD j d0).1 := fun e => by
        have := List.pairwise_iff_getElem.1 H.nd
        have hjd : ds.getD j d0 = ds[j] := by rw [List.getD_eq_getElem?_getD, List.getElem?_eq_getElem hj]; rfl
        rw [hjd, ← hpe] at e
        rcases Nat.lt_or_ge i j with h | h
        · exact this i j hil hj h e
        · exact this j i hj hil (by omega) e.symm
      rw [getU_other e] at hc
      exact H.one p hp2 c hc
  · rcases turn_mem hj hp with rfl | hp
    · exact hn
    · exact H.now p hp
  · rcases turn_mem hj hp with rfl | hp
    · show 0 ≤ (ds.getD j d0).1
      exact H.nneg _ (getD_mem hj)
    · exact H.nneg p hp
theorem ds_begin_now (D : DS) (t k cl v : Int) (h : 0 ≤ D.now) : 0 ≤ (D.begin t k cl v).2.now := by
  unfold DS.begin
  split
  · exact h
  split
  · exact h
  · show 0 ≤ D.now + 1; omega
theorem ds_end_now (D : DS) (t d : Int) (h : 0 ≤ D.now) : 0 ≤ (D.endA t d).2.2.now := by
  unfold DS.endA
  dsimp only
  split
  · exact h
  split
  · show 0 ≤ D.now + 1; omega
  · show 0 ≤ D.now + 1; omega
theorem end_simB {s : BS} {ds : BDl} (H : BSim s ds) (mk : Int → CS) (t d : Int) : (s.endA mk t d).1 = (docEnd ds t d).1 ∧ (s.endA mk t d).2.1 = (docEnd ds t d).2.1 ∧ BSim (s.endA mk t d).2.2 (docEnd ds t d).2.2 := by
  obtain ⟨hb, hb2, hb3⟩ := H.busy t
  unfold BS.endA docEnd
  cases hq : (s.busy t).2
  · have hz : busyZ ds t = -1 := by rw [hb, hq]; rfl
    rw [if_pos rfl, hz, if_pos (by decide)]
    exact ⟨rfl, rfl, H⟩
  · obtain ⟨h1, h2, h3, h4⟩ := busy_in hq
    have hz := hb2 hq
    have hz2 : busyZ ds t = (s.busy t).1 := by rw [hb, hq]; rfl
    rw [if_neg (by decide), hz2, if_neg (by omega)]
    generalize hn : (s.busy t).1 = n at *
    obtain ⟨⟨c, g1, g2⟩, g3⟩ := H.inv.on t.toNat (by omega) h3
    rw [← h4] at g1
    rw [g1]
    obtain ⟨p, hp, hpn⟩ := (H.dom n).1 (by rw [g1]; rfl)
    rcases placeZ_cases n ds 0 with ⟨_, f2⟩ | ⟨j, f1, f2, f3⟩
    · exact absurd hpn (f2 p hp)
    rw [f2, show ((0 + j : Nat) : Int).toNat = j by omega]
    have hm := getD_mem f1
    have hs := H.one _ hm c (by rw [f3]; exact g1)
    obtain ⟨e1, e2, e3⟩ := end_sim hs (H.now _ hm) t d
    refine ⟨e1, e2, ?_⟩
    have ht := H.turn (by' := fun i => if i = t.toNat then (false, 0) else s.by' i) f1 e3 (ds_end_now _ _ _ (H.now _ hm)) (by
      have := H.inv.endA (d := d) ⟨h1, h2⟩ h3 (by rw [← h4]; exact g1)
      rw [← h4, ← f3] at this
      exact this)
    rw [f3] at ht
    exact ht
/-- A new cell of the document's. -/
theorem pick_mono (l : List SD) (n : Int) : ∀ k, endK l k ≤ n → pickK l n k = none
  | 0, _ => rfl
  | k + 1, h => by
    have hm : endK l k ≤ endK l (k + 1) := by
      show endK l k ≤ if 0 < (l.getD k sd0).many then endK l k + (l.getD k sd0).many else endK l k
      split <;> omega
    unfold pickK
    rw [pick_mono l n k (by omega), if_neg (by omega)]
    rfl
theorem begin_simB {s : BS} {ds : BDl} (H : BSim s ds) (l : List SD) (t k cl v : Int) : (s.begin (endK l l.length) 6 (mkP l) t k cl v).1 = (docBegin l ds t k cl v).1 ∧ BSim (s.begin (endK l l.length) 6 (mkP l) t k cl v).2 (docBegin l ds t k cl v).2 := by
  unfold BS.begin docBegin
  by_cases hin : 0 ≤ cl ∧ cl < endK l l.length
  rotate_left
  · have ha : atf l cl = none := by unfold atf; rw [if_neg hin]
    rw [if_pos hin, ha]
    exact ⟨rfl, H⟩
  obtain ⟨sd, hsd⟩ := Option.isSome_iff_exists.1 (pick_some l cl hin.1 l.length hin.2)
  have ha : atf l cl = some sd := by unfold atf; rw [if_pos hin, hsd]
  have hmk : mkP l cl = CS.new sd.kind sd.top := by unfold mkP; rw [hsd]
  rw [if_neg (by simpa using hin), ha, hmk]
  dsimp only
  obtain ⟨hb, hb2, hb3⟩ := H.busy t
  cases hq : (s.busy t).2
  rotate_left
  · obtain ⟨h1, h2, h3, h4⟩ := busy_in hq
    have := hb2 hq
    rw [if_pos rfl, if_pos ⟨⟨h1, h2⟩, by rw [hb, hq, if_pos rfl]; exact this⟩]
    exact ⟨rfl, H⟩
  have hz : busyZ ds t = -1 := by rw [hb, hq]; rfl
  rw [if_neg (show ¬ (false = true) by decide), if_neg (show ¬ ((0 ≤ t ∧ t < 8) ∧ 0 ≤ busyZ ds t) by rw [hz]; omega)]
  by_cases htk : t < 0 ∨ 7 < t ∨ k < 1 ∨ 2 < k
  · rw [if_pos htk]
    have e : ∀ c : CS, c.begin t k v = (1, c) := fun c => by unfold CS.begin; rw [if_pos (by omega)]
    rw [e, if_pos (show (1 : Int) ≠ 0 by decide)]
    exact ⟨rfl, H⟩
  rw [if_neg htk]
  have ht : 0 ≤ t ∧ t < 8 := by omega
  have hby : (s.by' t.toNat).1 = false := by
    unfold BS.busy at hq
    rw [if_neg (by omega)] at hq
    exact hq
  obtain ⟨_, hoff⟩ := H.inv.off t.toNat (by omega) hby
  have hnew : ∀ i, ((CS.new sd.kind sd.top).bys i).on = false := fun i => rfl
  -- the cell at hand, the document's list with it
  obtain ⟨c, hc⟩ : ∃ c, (getU s.u cl).getD (CS.new sd.kind sd.top) = c := ⟨_, rfl⟩
  rw [hc]
  have hcon : (c.bys t.toNat).on = false := by
    rw [← hc]
    cases hg : getU s.u cl with
    | none => exact hnew _
    | some c0 => exact hoff cl c0 hg
  have h0 := begin_ok0 c t k v ht (by omega) hcon
  rw [if_neg (by rw [h0]; simp)]
  have hinv := H.inv.begin (t := t) (k := k) (cl := cl) (v := v) (c := c) ht hby (fun c0 hg => by rw [hg] at hc; exact hc) (fun hg i _ => by rw [hg] at hc; rw [← hc]; exact hnew i) h0
  -- a state in which the cell is there
  have key : ∀ (ds1 : BDl) (u1 : List (Int × CS)), BSim { u := u1, by' := s.by' } ds1 → getU u1 cl = some c → (∀ c' x, getU (putU u1 cl c') x = getU (putU s.u cl c') x) →
      (c.begin t k v).1 = ((ds1.getD (placeZ ds1 cl 0).toNat d0).2.begin t k cl v).1 ∧ BSim { u := putU s.u cl (c.begin t k v).2, by' := fun i => if i = t.toNat then (true, cl) else s.by' i } (docTurn ds1 (placeZ ds1 cl 0).toNat ((ds1.getD (placeZ ds1 cl 0).toNat d0).2.begin t k cl v).2) := by
    intro ds1 u1 H1 hg hput
    obtain ⟨p, hp, hpn⟩ := (H1.dom cl).1 (by rw [hg]; rfl)
    rcases placeZ_cases cl ds1 0 with ⟨_, f2⟩ | ⟨j, f1, f2, f3⟩
    · exact absurd hpn (f2 p hp)
    rw [f2, show ((0 + j : Nat) : Int).toNat = j by omega]
    have hm := getD_mem f1
    have hs := H1.one _ hm c (by rw [f3]; exact hg)
    obtain ⟨e1, e2⟩ := begin_sim hs (H1.now _ hm) t k cl v
    refine ⟨e1, ?_⟩
    have hinv1 : BInv { u := putU u1 cl (c.begin t k v).2, by' := fun i => if i = t.toNat then (true, cl) else s.by' i } :=
      ⟨fun i hi h1 => ⟨(hinv.off i hi h1).1, fun q c' hq => (hinv.off i hi h1).2 q c' (by rw [← hput]; exact hq)⟩, fun i hi h1 => by
        obtain ⟨⟨c1, g1, g2⟩, g3⟩ := hinv.on i hi h1
        exact ⟨⟨c1, by rw [hput]; exact g1, g2⟩, fun q c' hne hq => g3 q c' hne (by rw [← hput]; exact hq)⟩⟩
    have ht1 := H1.turn (by' := fun i => if i = t.toNat then (true, cl) else s.by' i) f1 e2 (ds_begin_now _ _ _ _ _ (H1.now _ hm)) (by rw [f3]; exact hinv1)
    rw [f3] at ht1
    exact ⟨hinv, ht1.nd, fun q => by rw [← ht1.dom q, hput], fun p hp c' hc' => ht1.one p hp c' (by rw [hput]; exact hc'), ht1.now, ht1.nneg⟩
  rcases placeZ_cases cl ds 0 with ⟨f1, f2⟩ | ⟨j, f1, f2, f3⟩
  · have hnone : getU s.u cl = none := by
      cases hg : getU s.u cl with
      | none => rfl
      | some c0 =>
        obtain ⟨p, hp, e⟩ := (H.dom cl).1 (by rw [hg]; rfl)
        exact absurd e (f2 p hp)
    have hce : c = CS.new sd.kind sd.top := by rw [← hc, hnone]; rfl
    have hda : docAdd ds cl sd = ds ++ [(cl, ⟨sd.kind, sd.top, 0, 0, []⟩)] := by unfold docAdd; rw [f1, if_pos (by decide)]
    rw [hda]
    refine (key _ (putU s.u cl c) ⟨?_, ?_, fun q => ?_, fun p hp c' hc' => ?_, fun p hp => ?_, fun p hp => ?_⟩ (getU_same _ _ _) (fun c' x => putU_put x)).imp (fun e => h0.symm.trans e) id
    · refine ⟨fun i hi h1 => ⟨(H.inv.off i hi h1).1, fun q c' hq => ?_⟩, fun i hi h1 => ?_⟩
      · by_cases e : q = cl
        · rw [e, getU_same, Option.some.injEq] at hq
          rw [← hq, hce]; exact hnew i
        · rw [getU_other e] at hq; exact (H.inv.off i hi h1).2 q c' hq
      · obtain ⟨⟨c1, g1, g2⟩, g3⟩ := H.inv.on i hi h1
        have hne : (s.by' i).2 ≠ cl := fun e => by rw [e, hnone] at g1; cases g1
        refine ⟨⟨c1, by rw [getU_other hne]; exact g1, g2⟩, fun q c' hq1 hq2 => ?_⟩
        by_cases e : q = cl
        · rw [e, getU_same, Option.some.injEq] at hq2
          rw [← hq2, hce]; exact hnew i
        · rw [getU_other e] at hq2; exact g3 q c' hq1 hq2
    · rw [List.pairwise_append]
      exact ⟨H.nd, List.pairwise_singleton _ _, fun a ha b hb => by rw [List.mem_singleton] at hb; rw [hb]; exact f2 a ha⟩
    · by_cases e : q = cl
      · rw [e, getU_same]
        exact ⟨fun _ => ⟨(cl, ⟨sd.kind, sd.top, 0, 0, []⟩), List.mem_append.2 (.inr (List.mem_singleton.2 rfl)), rfl⟩, fun _ => rfl⟩
      · rw [getU_other e, H.dom q]
        constructor
        · rintro ⟨p, hp, h⟩
          exact ⟨p, by simp [hp], h⟩
        · rintro ⟨p, hp, h⟩
          rcases List.mem_append.1 hp with hp | hp
          · exact ⟨p, hp, h⟩
          · rw [List.mem_singleton] at hp; rw [hp] at h; exact absurd h.symm e
    · rcases List.mem_append.1 hp with hp | hp
      · rw [getU_other (f2 p hp)] at hc'
        exact H.one p hp c' hc'
      · rw [List.mem_singleton] at hp
        subst hp
        rw [getU_same, Option.some.injEq] at hc'
        rw [← hc', hce]
        exact csim_new _ _
    · rcases List.mem_append.1 hp with hp | hp
      · exact H.now p hp
      · rw [List.mem_singleton] at hp; rw [hp]; exact Int.le_refl _
    · rcases List.mem_append.1 hp with hp | hp
      · exact H.nneg p hp
      · rw [List.mem_singleton] at hp; rw [hp]; exact hin.1
  · have hg : getU s.u cl = some c := by
      have := (H.dom cl).2 ⟨_, getD_mem f1, f3⟩
      cases hg : getU s.u cl with
      | none => rw [hg] at this; cases this
      | some c0 => rw [hg] at hc; rw [← hc]; rfl
    have hda : docAdd ds cl sd = ds := by unfold docAdd; rw [f2, if_neg (by omega)]
    rw [hda]
    exact (key ds s.u H hg (fun _ _ => rfl)).imp (fun e => h0.symm.trans e) id

end Go.Proofs.Ytpapcheliohacaa

/-
  The document's Used, as plain data: numbers laid in, one by one, where they belong.
-/
namespace Go.Proofs.Ytpapcheliohacaa
open Go.RowKit

def leadN : List Int → Int → Nat
  | [], _ => 0
  | a :: r, x => if a < x then leadN r x + 1 else 0
def insP (x : Int) (out : List Int) : List Int := out.take (leadN out x) ++ ([x] ++ out.drop (leadN out x))
def usedK (ds : BDl) : Nat → List Int
  | 0 => []
  | k + 1 => insP (ds.getD k d0).1 (usedK ds k)
theorem lead_le (x : Int) : ∀ out : List Int, leadN out x ≤ out.length
  | [] => Nat.le_refl _
  | a :: r => by
    have := lead_le x r
    unfold leadN
    split
    · simp; omega
    · simp
theorem lead_eq {x : Int} : ∀ {out : List Int} {k : Nat}, k ≤ out.length → (∀ j, j < k → out.getD j 0 < x) → (k = out.length ∨ ¬ out.getD k 0 < x) → leadN out x = k
  | [], k, hk, _, _ => by
    have : k = 0 := by simpa using hk
    subst this; rfl
  | a :: r, 0, _, _, h => by
    unfold leadN
    rw [if_neg]
    rcases h with h | h
    · simp at h
    · simpa using h
  | a :: r, k + 1, hk, h1, h2 => by
    unfold leadN
    have h0 := h1 0 (by omega)
    rw [List.getD_cons_zero] at h0
    rw [if_pos h0, lead_eq (k := k) (by simpa using hk) (fun j hj => by have := h1 (j + 1) (by omega); simpa using this) (h2.imp (fun h => by simpa using h) (fun h => by simpa using h))]
theorem lead_lt (x : Int) : ∀ out : List Int, ∀ a ∈ out.take (leadN out x), a < x
  | [], a, h => by simp at h
  | b :: r, a, h => by
    unfold leadN at h
    split at h
    · rw [List.take_succ_cons] at h
      rcases List.mem_cons.1 h with rfl | h
      · assumption
      · exact lead_lt x r a h
    · simp at h
theorem lead_ge {x : Int} : ∀ {out : List Int}, out.Pairwise (fun a b => a < b) → ∀ a ∈ out.drop (leadN out x), x ≤ a
  | [], _, a, h => by simp at h
  | b :: r, hp, a, h => by
    rw [List.pairwise_cons] at hp
    unfold leadN at h
    split at h
    · rw [List.drop_succ_cons] at h
      exact lead_ge hp.2 a h
    · rw [List.drop_zero] at h
      rcases List.mem_cons.1 h with rfl | h
      · omega
      · have := hp.1 a h; omega
theorem ins_mem (x : Int) (out : List Int) (a : Int) : a ∈ insP x out ↔ a = x ∨ a ∈ out := by
  unfold insP
  have e : a ∈ out ↔ a ∈ out.take (leadN out x) ∨ a ∈ out.drop (leadN out x) := by
    rw [← List.mem_append, List.take_append_drop]
  rw [e]
  simp only [List.mem_append, List.mem_singleton]
  constructor
  · rintro (h | h | h)
    · exact .inr (.inl h)
    · exact .inl h
    · exact .inr (.inr h)
  · rintro (h | h | h)
    · exact .inr (.inl h)
    · exact .inl h
    · exact .inr (.inr h)
theorem ins_sorted {x : Int} {out : List Int} (hp : out.Pairwise (fun a b => a < b)) (hx : x ∉ out) : (insP x out).Pairwise (fun a b => a < b) := by
  have h1 := lead_lt x out
  have h2 := lead_ge (x := x) hp
  unfold insP
  rw [← List.take_append_drop (leadN out x) out, List.pairwise_append] at hp
  have h3 : ∀ a ∈ out.drop (leadN out x), x < a := fun a ha => by
    have := h2 a ha
    have hne : x ≠ a := fun e => hx (by rw [e]; exact List.mem_of_mem_drop ha)
    omega
  rw [List.pairwise_append]
  refine ⟨hp.1, ?_, fun a ha b hb => ?_⟩
  · show ((x :: out.drop (leadN out x)) : List Int).Pairwise _
    rw [List.pairwise_cons]
    exact ⟨h3, hp.2.1⟩
  · rcases List.mem_append.1 hb with hb | hb
    · rw [List.mem_singleton] at hb; rw [hb]; exact h1 a ha
    · have := h1 a ha; have := h3 b hb; omega
theorem ins_len (x : Int) (out : List Int) : (insP x out).length = out.length + 1 := by
  unfold insP
  have := lead_le x out
  simp only [List.length_append, List.length_take, List.length_drop, List.length_cons, List.length_nil]
  omega
theorem usedK_len (ds : BDl) : ∀ k, (usedK ds k).length = k
  | 0 => rfl
  | k + 1 => by unfold usedK; rw [ins_len, usedK_len ds k]
theorem usedK_mem (ds : BDl) (a : Int) : ∀ k, a ∈ usedK ds k ↔ ∃ j, j < k ∧ (ds.getD j d0).1 = a
  | 0 => ⟨fun h => (by cases h), fun ⟨j, h, _⟩ => absurd h (Nat.not_lt_zero j)⟩
  | k + 1 => by
    unfold usedK
    rw [ins_mem, usedK_mem ds a k]
    constructor
    · rintro (h | ⟨j, h1, h2⟩)
      · exact ⟨k, by omega, h.symm⟩
      · exact ⟨j, by omega, h2⟩
    · rintro ⟨j, h1, h2⟩
      by_cases e : j = k
      · exact .inl (by rw [← h2, e])
      · exact .inr ⟨j, by omega, h2⟩
theorem usedK_sorted {ds : BDl} (hnd : ds.Pairwise (fun p q => p.1 ≠ q.1)) : ∀ k, k ≤ ds.length → (usedK ds k).Pairwise (fun a b => a < b)
  | 0, _ => List.Pairwise.nil
  | k + 1, h => by
    unfold usedK
    refine ins_sorted (usedK_sorted hnd k (by omega)) fun hm => ?_
    obtain ⟨j, h1, h2⟩ := (usedK_mem ds _ k).1 hm
    have := List.pairwise_iff_getElem.1 hnd j k (by omega) (by omega) h1
    rw [List.getD_eq_getElem?_getD, List.getD_eq_getElem?_getD, List.getElem?_eq_getElem (by omega), List.getElem?_eq_getElem (by omega)] at h2
    exact this h2
/-- Two ascending lists with the same numbers are one. -/
theorem asc_eq : ∀ {a b : List Int}, a.Pairwise (fun x y => x < y) → b.Pairwise (fun x y => x < y) → (∀ x, x ∈ a ↔ x ∈ b) → a = b
  | [], [], _, _, _ => rfl
  | [], y :: r, _, _, h => absurd ((h y).2 (by simp)) (by simp)
  | x :: l, [], _, _, h => absurd ((h x).1 (by simp)) (by simp)
  | x :: l, y :: r, ha, hb, h => by
    rw [List.pairwise_cons] at ha hb
    have e : x = y := by
      rcases List.mem_cons.1 ((h x).1 (by simp)) with h1 | h1
      · exact h1
      · rcases List.mem_cons.1 ((h y).2 (by simp)) with h2 | h2
        · exact h2.symm
        · have := ha.1 y h2; have := hb.1 x h1; omega
    subst e
    rw [asc_eq ha.2 hb.2 fun z => ?_]
    constructor
    · intro hz
      rcases List.mem_cons.1 ((h z).1 (by simp [hz])) with h1 | h1
      · have := ha.1 z hz; omega
      · exact h1
    · intro hz
      rcases List.mem_cons.1 ((h z).2 (by simp [hz])) with h1 | h1
      · have := hb.1 z hz; omega
      · exact h1

end Go.Proofs.Ytpapcheliohacaa
