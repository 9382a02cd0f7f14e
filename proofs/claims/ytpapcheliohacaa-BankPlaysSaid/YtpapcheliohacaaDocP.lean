/-
  The document's cell, as plain data: a list of all accesses that ever began; and that it meets the program's.
-/
import Derived.Test.YtpapcheliohacaaMayP
set_option linter.unusedVariables false
set_option linter.unusedSimpArgs false
namespace Go.Proofs.Ytpapcheliohacaa
open Go.RowKit

structure DA where
  t : Int
  k : Int
  cl : Int
  v : Int
  from_ : Int
  to : Int
  was : Int
def da0 : DA := ⟨0, 0, 0, 0, 0, 0, 0⟩
structure DS where
  kind : Int
  top : Int
  value : Int
  now : Int
  L : List DA
def hit (t : Int) (a : DA) : Bool := a.t == t && decide (a.to < 0)
/-- The place of a thread's access under way; k: the first place. -/
def findZ : List DA → Int → Nat → Int
  | [], _, _ => -1
  | a :: l, t, k => if hit t a = true then (k : Int) else findZ l t (k + 1)
def earlyB (f t : Int) (w : DA) : Bool := ((w.t == t && w.k == 2) && decide (w.from_ < f)) && (decide (w.to < 0) || decide (f < w.to))
def lateB (f : Int) (w : DA) : Bool := w.k == 2 && decide (f < w.from_)
def earlyL (L : List DA) (f t : Int) : List Int := (L.filter (earlyB f t)).map DA.v
def earlyN (L : List DA) (f : Int) : Nat → List Int
  | 0 => []
  | n + 1 => earlyN L f n ++ earlyL L f (n : Int)
def lateL (L : List DA) (f : Int) : List Int := (L.filter (lateB f)).map DA.v
def seenD (L : List DA) (f was : Int) : List Int := [was] ++ earlyN L f 8 ++ lateL L f
def DS.begin (D : DS) (t k cl v : Int) : Int × DS :=
  if t < 0 ∨ 7 < t ∨ k < 1 ∨ 2 < k then (1, D)
  else if 0 ≤ findZ D.L t 0 then (12, D)
  else (0, { D with now := D.now + 1, L := D.L ++ [⟨t, k, cl, clampT v D.top, D.now + 1, -1, D.value⟩] })
def DS.endA (D : DS) (t d : Int) : Int × Int × DS :=
  if findZ D.L t 0 < 0 then (0, 7, D)
  else
    let j := (findZ D.L t 0).toNat
    let a := D.L.getD j da0
    let L' := D.L.set j { a with to := D.now + 1 }
    if a.k = 2 then (0, 0, { D with now := D.now + 1, L := L', value := a.v })
    else
      (if D.kind = 1 ∧ 1 < (seenD L' a.from_ a.was).length then wrapI d (clampT D.top 1099511627776)
        else if D.kind = 2 then (seenD L' a.from_ a.was).getD (wrapI d (((seenD L' a.from_ a.was).length : Int) - 1)).toNat 0 else D.value, 0, { D with now := D.now + 1, L := L' })
def busyD (D : DS) : Nat → Nat
  | 0 => 0
  | n + 1 => busyD D n + if 0 ≤ findZ D.L (n : Int) 0 then 1 else 0

theorem findZ_none {t : Int} : ∀ {L : List DA} {k : Nat}, L.filter (hit t) = [] → findZ L t k = -1
  | [], _, _ => rfl
  | a :: l, k, h => by
    unfold findZ
    by_cases ha : hit t a = true
    · rw [List.filter_cons_of_pos ha] at h; cases h
    · rw [if_neg ha]
      rw [List.filter_cons_of_neg ha] at h
      exact findZ_none h
theorem findZ_some {t : Int} {a : DA} : ∀ {L : List DA} {k : Nat}, L.filter (hit t) = [a] → ∃ j, j < L.length ∧ findZ L t k = ((k + j : Nat) : Int) ∧ L.getD j da0 = a ∧ L = L.take j ++ a :: L.drop (j + 1) ∧ (L.take j).filter (hit t) = [] ∧ (L.drop (j + 1)).filter (hit t) = []
  | [], _, h => by cases h
  | b :: l, k, h => by
    unfold findZ
    by_cases hb : hit t b = true
    · rw [List.filter_cons_of_pos hb] at h
      simp only [List.cons.injEq] at h
      obtain ⟨rfl, h2⟩ := h
      exact ⟨0, by simp, by rw [if_pos hb]; simp, rfl, by simp, by simp, by simpa using h2⟩
    · rw [List.filter_cons_of_neg hb] at h
      obtain ⟨j, h1, h2, h3, h4, h5, h6⟩ := findZ_some (k := k + 1) h
      refine ⟨j + 1, by simp; omega, ?_, by simpa using h3, ?_, ?_, by simpa using h6⟩
      · rw [if_neg hb, h2]; congr 1; omega
      · simp only [List.take_succ_cons, List.drop_succ_cons, List.cons_append, List.cons.injEq, true_and]; exact h4
      · rw [List.take_succ_cons, List.filter_cons_of_neg hb]; exact h5

/-- What the two cells say of one thread. -/
def TSim (c : CS) (D : DS) (i : Nat) : Prop :=
  (D.L.filter (hit (i : Int)) = [] ∧ (c.bys i).on = false) ∨
  ∃ a, D.L.filter (hit (i : Int)) = [a] ∧ (c.bys i).on = true ∧
    ((a.k = 2 ∧ (c.bys i).wr = true ∧ (c.bys i).val = a.v) ∨
     (a.k = 1 ∧ (c.bys i).wr = false ∧ (c.kind = 2 → (c.bys i).may = seenD D.L a.from_ a.was) ∧ (c.bys i).ov = decide (1 < (seenD D.L a.from_ a.was).length)))
structure CSim (c : CS) (D : DS) : Prop where
  kind : c.kind = D.kind
  top : c.top = clampI D.top 0 1099511627776
  value : c.value = D.value
  one : ∀ i, i < 8 → TSim c D i
  thr : ∀ a, a ∈ D.L → 0 ≤ a.t ∧ a.t < 8
  tim : ∀ a, a ∈ D.L → a.from_ ≤ D.now ∧ a.to ≤ D.now
theorem csim_new (kind top : Int) : CSim (CS.new kind top) ⟨kind, top, 0, 0, []⟩ :=
  ⟨rfl, rfl, rfl, fun i hi => .inl ⟨rfl, rfl⟩, fun a h => absurd h (by simp), fun a h => absurd h (by simp)⟩
theorem CSim.out {c : CS} {D : DS} (H : CSim c D) (t : Int) (h : t < 0 ∨ 8 ≤ t) : D.L.filter (hit t) = [] := by
  rw [List.filter_eq_nil_iff]
  intro a ha hh
  have := H.thr a ha
  unfold hit at hh
  simp only [Bool.and_eq_true, beq_iff_eq] at hh
  omega
theorem CSim.busy {c : CS} {D : DS} (H : CSim c D) : ∀ n, n ≤ 8 → busyN c n = busyD D n
  | 0, _ => rfl
  | n + 1, h => by
    unfold busyN busyD
    rw [H.busy n (by omega)]
    congr 1
    rcases H.one n (by omega) with ⟨h1, h2⟩ | ⟨a, h1, h2, _⟩
    · rw [h2, findZ_none h1]; rfl
    · obtain ⟨j, _, e, _⟩ := findZ_some (k := 0) h1
      rw [h2, e, if_pos rfl, if_pos (by omega)]
theorem clamp_idem (v top : Int) : clampI v 0 (clampI (clampI top 0 1099511627776) 0 1099511627776) = clampI v 0 (clampI top 0 1099511627776) := by
  have : clampI (clampI top 0 1099511627776) 0 1099511627776 = clampI top 0 1099511627776 := by
    unfold clampI; repeat' split
    all_goals omega
  rw [this]

theorem early_none {L : List DA} {f t : Int} {now : Int} (hf : f = now + 1) (ht : ∀ a, a ∈ L → a.from_ ≤ now ∧ a.to ≤ now) : L.filter (earlyB f t) = (L.filter (hit t)).filter (fun a => a.k == 2) := by
  rw [List.filter_filter]
  refine List.filter_congr fun a ha => ?_
  obtain ⟨h1, h2⟩ := ht a ha
  unfold earlyB hit
  have e1 : decide (a.from_ < f) = true := by simp; omega
  have e2 : decide (f < a.to) = false := by simp; omega
  rw [e1, e2, Bool.and_true, Bool.or_false]
  cases (a.t == t) <;> cases (a.k == 2) <;> simp
theorem late_none {L : List DA} {f now : Int} (hf : now < f) (ht : ∀ a, a ∈ L → a.from_ ≤ now ∧ a.to ≤ now) : lateL L f = [] := by
  unfold lateL
  rw [List.filter_eq_nil_iff.2, List.map_nil]
  intro a ha hh
  have := ht a ha
  unfold lateB at hh
  simp only [Bool.and_eq_true, beq_iff_eq, decide_eq_true_eq] at hh
  omega
/-- A read that begins: its candidates are the document's. -/
theorem readN_seen {c : CS} {D : DS} (H : CSim c D) (L2 : List DA) (f : Int) (hL : ∀ t : Int, L2.filter (earlyB f t) = (D.L.filter (hit t)).filter (fun a => a.k == 2)) : ∀ n, n ≤ 8 → (c.kind = 2 → (readN c n).may = c.value :: earlyN L2 f n) ∧ (readN c n).ov = decide (0 < (earlyN L2 f n).length) ∧ (readN c n).on = true ∧ (readN c n).wr = false
  | 0, _ => by
    unfold readN earlyN
    exact ⟨fun h => by rw [if_pos h], rfl, rfl, rfl⟩
  | n + 1, hn => by
    obtain ⟨h1, h2, h3, h4⟩ := readN_seen H L2 f hL n (by omega)
    unfold readN earlyN earlyL
    rw [hL]
    rcases H.one n (by omega) with ⟨e1, e2⟩ | ⟨a, e1, e2, ⟨k1, k2, k3⟩ | ⟨k1, k2, _⟩⟩
    · rw [if_neg (by rw [e2]; simp), e1]
      simp only [List.filter_nil, List.map_nil, List.append_nil]
      exact ⟨h1, h2, h3, h4⟩
    · rw [if_pos ⟨e2, k2⟩, e1, List.filter_cons_of_pos (by simp [k1])]
      simp only [List.filter_nil, List.map_cons, List.map_nil]
      unfold ovl
      refine ⟨fun hk => ?_, ?_, h3, h4⟩
      · show (if c.kind = 2 then (readN c n).may ++ [(c.bys n).val] else (readN c n).may) = _
        rw [if_pos hk, h1 hk, k3]; rfl
      · simp
    · rw [if_neg (by rw [k2]; simp), e1, List.filter_cons_of_neg (by simp [k1])]
      simp only [List.filter_nil, List.map_nil, List.append_nil]
      exact ⟨h1, h2, h3, h4⟩
theorem earlyN_append {L : List DA} {a : DA} {f : Int} (h : ∀ t, earlyB f t a = false) : ∀ n, earlyN (L ++ [a]) f n = earlyN L f n
  | 0 => rfl
  | n + 1 => by
    unfold earlyN earlyL
    rw [earlyN_append h n, List.filter_append, List.filter_cons_of_neg (by rw [h]; simp)]
    simp
theorem seen_append_read {L : List DA} {a : DA} (f was : Int) (hk : a.k = 1) : seenD (L ++ [a]) f was = seenD L f was := by
  have e1 : ∀ t, earlyB f t a = false := fun t => by unfold earlyB; rw [hk]; simp
  have e2 : lateB f a = false := by unfold lateB; rw [hk]; simp
  unfold seenD lateL
  rw [earlyN_append e1, List.filter_append, List.filter_cons_of_neg (by rw [e2]; simp)]
  simp
theorem seen_append_write {L : List DA} {a : DA} (f was : Int) (hk : a.k = 2) (hf : f < a.from_) : seenD (L ++ [a]) f was = seenD L f was ++ [a.v] := by
  have e1 : ∀ t, earlyB f t a = false := fun t => by
    unfold earlyB
    have : decide (a.from_ < f) = false := by simp; omega
    rw [this]; simp
  have e2 : lateB f a = true := by unfold lateB; rw [hk]; simp; omega
  unfold seenD lateL
  rw [earlyN_append e1, List.filter_append, List.filter_cons_of_pos (by rw [e2])]
  simp
theorem begin_sim {c : CS} {D : DS} (H : CSim c D) (hn : 0 ≤ D.now) (t k cl v : Int) : (c.begin t k v).1 = (D.begin t k cl v).1 ∧ CSim (c.begin t k v).2 (D.begin t k cl v).2 := by
  unfold CS.begin DS.begin
  by_cases h1 : t < 0 ∨ 8 ≤ t ∨ (k ≠ 1 ∧ k ≠ 2)
  · rw [if_pos h1, if_pos (show t < 0 ∨ 7 < t ∨ k < 1 ∨ 2 < k by omega)]
    exact ⟨rfl, H⟩
  rw [if_neg h1, if_neg (show ¬ (t < 0 ∨ 7 < t ∨ k < 1 ∨ 2 < k) by omega)]
  have ht : 0 ≤ t ∧ t < 8 := by omega
  obtain ⟨tn, rfl⟩ := Int.eq_ofNat_of_zero_le ht.1
  have htn : tn < 8 := by omega
  rw [Int.toNat_natCast]
  rcases H.one tn htn with ⟨e1, e2⟩ | ⟨a, e1, e2, _⟩
  rotate_left
  · obtain ⟨j, _, e, _⟩ := findZ_some (k := 0) e1
    rw [if_pos e2, e, if_pos (show (0 : Int) ≤ ((0 + j : Nat) : Int) by omega)]
    exact ⟨rfl, H⟩
  rw [if_neg (show ¬ ((c.bys tn).on = true) by rw [e2]; simp), findZ_none e1, if_neg (show ¬ ((0 : Int) ≤ -1) by omega)]
  have hcv : clampT v c.top = clampT v D.top := by unfold clampT; rw [H.top, clamp_idem]
  rw [hcv]
  generalize hvv : clampT v D.top = vv
  by_cases h2 : k = 1
  · subst h2
    rw [if_pos rfl]
    refine ⟨rfl, H.kind, H.top, H.value, fun i hi => ?_, fun a ha => ?_, fun a ha => ?_⟩
    · unfold TSim CS.put
      dsimp only
      have hh : ∀ (i : Nat), i ≠ tn → (D.L ++ [(⟨(tn : Int), 1, cl, vv, D.now + 1, -1, D.value⟩ : DA)]).filter (hit (i : Int)) = D.L.filter (hit (i : Int)) := fun i hne => by
        have hz : hit (i : Int) ⟨(tn : Int), 1, cl, vv, D.now + 1, -1, D.value⟩ = false := by unfold hit; simp; omega
        rw [List.filter_append, List.filter_cons_of_neg (by rw [hz]; simp)]
        simp
      by_cases he : i = tn
      · subst he
        rw [if_pos rfl]
        have hz : hit (i : Int) ⟨(i : Int), 1, cl, vv, D.now + 1, -1, D.value⟩ = true := by unfold hit; simp
        refine .inr ⟨⟨(i : Int), 1, cl, vv, D.now + 1, -1, D.value⟩, ?_, ?_⟩
        · rw [List.filter_append, e1, List.filter_cons_of_pos hz]; rfl
        · obtain ⟨q1, q2, q3, q4⟩ := readN_seen H D.L (D.now + 1) (fun t => early_none rfl H.tim) 8 (by omega)
          have hs : seenD (D.L ++ [(⟨(i : Int), 1, cl, vv, D.now + 1, -1, D.value⟩ : DA)]) (D.now + 1) D.value = D.value :: earlyN D.L (D.now + 1) 8 := by
            rw [seen_append_read _ _ rfl]
            unfold seenD
            rw [late_none (now := D.now) (by omega) H.tim]
            simp
          refine ⟨q3, .inr ⟨rfl, q4, fun hk => ?_, ?_⟩⟩
          · show _ = seenD _ (D.now + 1) D.value
            rw [hs, q1 hk, H.value]
          · show _ = decide (1 < (seenD _ (D.now + 1) D.value).length)
            rw [hs, q2, List.length_cons]
            congr 1
            simp
      · rw [if_neg he, hh i he]
        rcases H.one i hi with h3 | ⟨a, a1, a2, a3 | ⟨a3, a4, a5, a6⟩⟩
        · exact .inl h3
        · exact .inr ⟨a, a1, a2, .inl a3⟩
        · refine .inr ⟨a, a1, a2, .inr ⟨a3, a4, ?_, ?_⟩⟩
          · rw [seen_append_read _ _ rfl]; exact a5
          · rw [seen_append_read _ _ rfl]; exact a6
    · rcases List.mem_append.1 ha with h | h
      · exact H.thr a h
      · simp only [List.mem_singleton] at h; subst h; exact ht
    · rcases List.mem_append.1 ha with h | h
      · have := H.tim a h
        show a.from_ ≤ D.now + 1 ∧ a.to ≤ D.now + 1
        omega
      · simp only [List.mem_singleton] at h; subst h; show D.now + 1 ≤ D.now + 1 ∧ -1 ≤ D.now + 1; omega
  · have h3 : k = 2 := by omega
    subst h3
    rw [if_neg h2]
    obtain ⟨k1, k2, k3⟩ := wrN_kind c vv 8
    refine ⟨rfl, k1.trans H.kind, k2.trans H.top, k3.trans H.value, fun i hi => ?_, fun a ha => ?_, fun a ha => ?_⟩
    · unfold TSim CS.put
      dsimp only
      have hh : ∀ (i : Nat), i ≠ tn → (D.L ++ [(⟨(tn : Int), 2, cl, vv, D.now + 1, -1, D.value⟩ : DA)]).filter (hit (i : Int)) = D.L.filter (hit (i : Int)) := fun i hne => by
        have hz : hit (i : Int) ⟨(tn : Int), 2, cl, vv, D.now + 1, -1, D.value⟩ = false := by unfold hit; simp; omega
        rw [List.filter_append, List.filter_cons_of_neg (by rw [hz]; simp)]
        simp
      by_cases he : i = tn
      · subst he
        rw [if_pos rfl]
        have hz : hit (i : Int) ⟨(i : Int), 2, cl, vv, D.now + 1, -1, D.value⟩ = true := by unfold hit; simp
        refine .inr ⟨⟨(i : Int), 2, cl, vv, D.now + 1, -1, D.value⟩, ?_, rfl, .inl ⟨rfl, rfl, rfl⟩⟩
        rw [List.filter_append, e1, List.filter_cons_of_pos hz]; rfl
      · rw [if_neg he, hh i he, wrN_bys, k1]
        rcases H.one i hi with ⟨h3, h4⟩ | ⟨a, a1, a2, ⟨a3, a4, a5⟩ | ⟨a3, a4, a5, a6⟩⟩
        · rw [if_neg (by rw [h4]; simp)]
          exact .inl ⟨h3, h4⟩
        · rw [if_neg (by rw [a4]; simp)]
          exact .inr ⟨a, a1, a2, .inl ⟨a3, a4, a5⟩⟩
        · rw [if_pos ⟨hi, a2, a4⟩]
          have ham : a ∈ D.L := by
            have : a ∈ D.L.filter (hit (i : Int)) := by rw [a1]; simp
            exact (List.mem_filter.1 this).1
          have hs := seen_append_write (L := D.L) (a := ⟨(tn : Int), 2, cl, vv, D.now + 1, -1, D.value⟩) a.from_ a.was rfl (by have := (H.tim a ham).1; show a.from_ < D.now + 1; omega)
          refine .inr ⟨a, a1, a2, .inr ⟨a3, a4, fun hk => ?_, ?_⟩⟩
          · rw [hs]
            unfold ovl
            show (if c.kind = 2 then (c.bys i).may ++ [vv] else (c.bys i).may) = _
            rw [if_pos hk, a5 hk]
          · rw [hs]
            unfold ovl seenD
            simp
            omega
    · rcases List.mem_append.1 ha with h | h
      · exact H.thr a h
      · simp only [List.mem_singleton] at h; subst h; exact ht
    · rcases List.mem_append.1 ha with h | h
      · have := H.tim a h
        show a.from_ ≤ D.now + 1 ∧ a.to ≤ D.now + 1
        omega
      · simp only [List.mem_singleton] at h; subst h; show D.now + 1 ≤ D.now + 1 ∧ -1 ≤ D.now + 1; omega

theorem filter_turned {L : List DA} {a a' : DA} {j : Nat} (hL : L = L.take j ++ a :: L.drop (j + 1)) (hj : j < L.length) (q : DA → Bool) : (L.set j a').filter q = (L.take j).filter q ++ (if q a' = true then [a'] else []) ++ (L.drop (j + 1)).filter q := by
  rw [List.set_eq_take_append_cons_drop, if_pos hj, List.filter_append]
  split
  · rename_i h; rw [List.filter_cons_of_pos h]; simp
  · rename_i h; rw [List.filter_cons_of_neg h]; simp
theorem filter_was {L : List DA} {a : DA} {j : Nat} (hL : L = L.take j ++ a :: L.drop (j + 1)) (q : DA → Bool) : L.filter q = (L.take j).filter q ++ (if q a = true then [a] else []) ++ (L.drop (j + 1)).filter q := by
  conv => lhs; rw [hL, List.filter_append]
  split
  · rename_i h; rw [List.filter_cons_of_pos h]; simp
  · rename_i h; rw [List.filter_cons_of_neg h]; simp
theorem turned_map {L : List DA} {a a' : DA} {j : Nat} (hL : L = L.take j ++ a :: L.drop (j + 1)) (hj : j < L.length) (q : DA → Bool) (hq : q a' = q a) (hv : a'.v = a.v) : ((L.set j a').filter q).map DA.v = (L.filter q).map DA.v := by
  rw [filter_turned hL hj, filter_was hL q, hq]
  split <;> simp [hv]
theorem earlyN_turned {L : List DA} {a a' : DA} {j : Nat} (hL : L = L.take j ++ a :: L.drop (j + 1)) (hj : j < L.length) (f : Int) (hq : ∀ t, earlyB f t a' = earlyB f t a) (hv : a'.v = a.v) : ∀ n, earlyN (L.set j a') f n = earlyN L f n
  | 0 => rfl
  | n + 1 => by
    unfold earlyN earlyL
    rw [earlyN_turned hL hj f hq hv n, turned_map hL hj _ (hq _) hv]
theorem seen_turned {L : List DA} {a : DA} {j : Nat} {now : Int} (hL : L = L.take j ++ a :: L.drop (j + 1)) (hj : j < L.length) (f was : Int) (hf : f ≤ now) (ha : a.to < 0) : seenD (L.set j { a with to := now + 1 }) f was = seenD L f was := by
  have hq : ∀ t, earlyB f t { a with to := now + 1 } = earlyB f t a := fun t => by
    unfold earlyB
    have e1 : decide (f < now + 1) = true := by simp; omega
    have e2 : decide (a.to < 0) = true := by simp [ha]
    dsimp only
    rw [e1, e2, Bool.or_true, Bool.true_or]
  unfold seenD
  rw [earlyN_turned hL hj f hq rfl]
  unfold lateL
  rw [turned_map (a' := { a with to := now + 1 }) hL hj (lateB f) rfl rfl]
theorem clamp_top (top : Int) : clampT top 1099511627776 = clampI top 0 1099511627776 := by
  unfold clampT
  have : clampI (1099511627776 : Int) 0 1099511627776 = 1099511627776 := by decide
  rw [this]
theorem end_sim {c : CS} {D : DS} (H : CSim c D) (hn : 0 ≤ D.now) (t d : Int) : (c.endA t d).1 = (D.endA t d).1 ∧ (c.endA t d).2.1 = (D.endA t d).2.1 ∧ CSim (c.endA t d).2.2 (D.endA t d).2.2 := by
  unfold CS.endA DS.endA
  dsimp only
  by_cases h1 : t < 0 ∨ 8 ≤ t
  · rw [if_pos h1, findZ_none (H.out t h1), if_pos (show (-1 : Int) < 0 by omega)]
    exact ⟨rfl, rfl, H⟩
  rw [if_neg h1]
  have ht : 0 ≤ t ∧ t < 8 := by omega
  obtain ⟨tn, rfl⟩ := Int.eq_ofNat_of_zero_le ht.1
  have htn : tn < 8 := by omega
  rw [Int.toNat_natCast]
  rcases H.one tn htn with ⟨e1, e2⟩ | ⟨a, e1, e2, e3⟩
  · rw [if_pos e2, findZ_none e1, if_pos (show (-1 : Int) < 0 by omega)]
    exact ⟨rfl, rfl, H⟩
  obtain ⟨j, hj, e, g1, g2, g3, g4⟩ := findZ_some (k := 0) e1
  rw [if_neg (by rw [e2]; simp), e, if_neg (show ¬ (((0 + j : Nat) : Int) < 0) by omega), Nat.zero_add, Int.toNat_natCast, g1]
  have ham : a ∈ D.L.filter (hit (tn : Int)) := by rw [e1]; simp
  have hah := (List.mem_filter.1 ham).2
  have hal := (List.mem_filter.1 ham).1
  have hat : a.t = (tn : Int) ∧ a.to < 0 := by unfold hit at hah; simpa using hah
  have htm := H.tim a hal
  have hseen : ∀ f was, f ≤ D.now → seenD (D.L.set j { a with to := D.now + 1 }) f was = seenD D.L f was := fun f was hf => seen_turned g2 hj f was hf hat.2
  have hone : ∀ (x : CS), x.kind = c.kind → (∀ i, i ≠ tn → x.bys i = c.bys i) → x.bys tn = acc0 → ∀ (y : DS), y.L = D.L.set j { a with to := D.now + 1 } → ∀ i, i < 8 → TSim x y i := by
    intro x hxk hx hxt y hy i hi
    unfold TSim
    rw [hy]
    by_cases he : i = tn
    · subst he
      rw [hxt]
      refine .inl ⟨?_, rfl⟩
      have hz : hit (i : Int) { a with to := D.now + 1 } = false := by unfold hit; simp; omega
      rw [filter_turned g2 hj, g3, g4, hz]; rfl
    · rw [hx i he, hxk]
      have hf : (D.L.set j { a with to := D.now + 1 }).filter (hit (i : Int)) = D.L.filter (hit (i : Int)) := by
        have hz1 : hit (i : Int) a = false := by unfold hit; simp; omega
        have hz2 : hit (i : Int) { a with to := D.now + 1 } = false := by unfold hit; simp; intro; omega
        rw [filter_turned g2 hj, filter_was g2 (hit (i : Int)), hz1, hz2]
        simp
      rw [hf]
      rcases H.one i hi with h3 | ⟨b, a1, a2, a3 | ⟨a3, a4, a5, a6⟩⟩
      · exact .inl h3
      · exact .inr ⟨b, a1, a2, .inl a3⟩
      · have hbm : b ∈ D.L := by
          have : b ∈ D.L.filter (hit (i : Int)) := by rw [a1]; simp
          exact (List.mem_filter.1 this).1
        refine .inr ⟨b, a1, a2, .inr ⟨a3, a4, ?_, ?_⟩⟩
        · rw [hseen _ _ (H.tim b hbm).1]; exact a5
        · rw [hseen _ _ (H.tim b hbm).1]; exact a6
  have hthr : ∀ b, b ∈ D.L.set j { a with to := D.now + 1 } → 0 ≤ b.t ∧ b.t < 8 := fun b hb => by
    rcases List.mem_or_eq_of_mem_set hb with h | h
    · exact H.thr b h
    · subst h; exact H.thr a hal
  have htim : ∀ b, b ∈ D.L.set j { a with to := D.now + 1 } → b.from_ ≤ D.now + 1 ∧ b.to ≤ D.now + 1 := fun b hb => by
    rcases List.mem_or_eq_of_mem_set hb with h | h
    · have := H.tim b h; omega
    · subst h; show a.from_ ≤ D.now + 1 ∧ D.now + 1 ≤ D.now + 1; omega
  have hput : ∀ i, i ≠ tn → (c.put tn acc0).bys i = c.bys i := fun i hi => by unfold CS.put; dsimp only; rw [if_neg hi]
  have hpt : (c.put tn acc0).bys tn = acc0 := by unfold CS.put; dsimp only; rw [if_pos rfl]
  rcases e3 with ⟨k1, k2, k3⟩ | ⟨k1, k2, k3, k4⟩
  · rw [if_pos k2, if_pos k1]
    exact ⟨rfl, rfl, H.kind, H.top, k3, hone { c.put tn acc0 with value := (c.bys tn).val } rfl hput hpt _ rfl, hthr, htim⟩
  · rw [if_neg (by rw [k2]; simp), if_neg (show ¬ a.k = 2 by omega)]
    refine ⟨?_, rfl, H.kind, H.top, H.value, hone (c.put tn acc0) rfl hput hpt _ rfl, hthr, htim⟩
    dsimp only
    rw [hseen _ _ htm.1, clamp_top, ← H.top]
    unfold tellC
    rw [k4, H.value, H.kind]
    by_cases hc : D.kind = 1 ∧ 1 < (seenD D.L a.from_ a.was).length
    · rw [if_pos ⟨hc.1, by simpa using hc.2⟩, if_pos hc]
    · rw [if_neg (by simpa using hc), if_neg hc]
      by_cases h2 : D.kind = 2
      · rw [if_pos h2, if_pos h2, k3 (H.kind.trans h2)]
      · rw [if_neg h2, if_neg h2]

end Go.Proofs.Ytpapcheliohacaa
