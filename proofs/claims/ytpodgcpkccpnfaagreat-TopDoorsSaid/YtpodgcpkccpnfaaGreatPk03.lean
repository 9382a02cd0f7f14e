/-
  Parts of a proof, packed: CellH, LogP
-/
import Derived.Test.YtpodgcpkccpnfaaGreatPk01
import Derived.Test.YtpodgcpkccpnfaaGreatPk02
set_option linter.unusedVariables false
set_option linter.unusedSimpArgs false
set_option maxRecDepth 20000
set_option maxHeartbeats 16000000
namespace Go.Proofs.YtpodgcpkccpnfaaGreat
open Go.RowKit
inductive What : Type where
 | call | note (k : Int) | ret (e v : Int) | halt | beg (a : AD) | fin (a : AD) (x : Int)
structure Atom where
 now : Nat
 t : Nat
 i : Nat
 w : What
def What.isFin : What → Bool
 | .fin _ _ => true
 | _ => false
def wr1 (M : MD) (c v : Int) (a : Atom) : Int := match a.w with
 | .fin (k, cl, u) _ => if k = 2 ∧ cl = c then clampT u (M.fresh c).top else v
 | _ => v
def cellAt (M : MD) (H : List Atom) (c : Int) (p : Nat) : Int := (H.take p).foldl (wr1 M c) (M.fresh c).value
theorem cellAt_append (M : MD) (H X : List Atom) (c : Int) {p : Nat} (h : p ≤ H.length) : cellAt M (H ++ X) c p = cellAt M H c p := by
 unfold cellAt; rw [List.take_append_of_le_length h]
theorem cellAt_snoc (M : MD) (H : List Atom) (a : Atom) (c : Int) : cellAt M (H ++ [a]) c (H.length + 1) = wr1 M c (cellAt M H c H.length) a := by
 unfold cellAt
 rw [show H.length + 1 = (H ++ [a]).length by simp, List.take_length, List.take_length, List.foldl_append]
 rfl
theorem cellAt_quiet {M : MD} {H : List Atom} {c : Int} {p q : Nat} (hpq : p ≤ q) (h : ∀ i a, p ≤ i → i < q → H[i]? = some a → ∀ u x, a.w ≠ .fin (2, c, u) x) : cellAt M H c q = cellAt M H c p := by
 induction q with
 | zero => obtain rfl : p = 0 := by omega
           rfl
 | succ q ih =>
  rcases Nat.lt_or_ge q p with hlt | hge
  · obtain rfl : p = q + 1 := by omega
    rfl
  · rw [← ih hge fun i a h1 h2 => h i a h1 (by omega)]
    unfold cellAt
    rw [List.take_add_one]
    cases e : H[q]? with
    | none => simp
    | some a =>
     rw [Option.toList_some, List.foldl_append]
     show wr1 M c _ a = _
     have := h q a hge (by omega) e
     unfold wr1
     split
     · rename_i k cl u x hw
       rw [if_neg]
       rintro ⟨rfl, rfl⟩
       exact this u x hw
     · rfl
theorem cellAt_write {M : MD} {H : List Atom} {c : Int} {e p : Nat} {a : Atom} {u x : Int} (he : H[e]? = some a) (hw : a.w = .fin (2, c, u) x) (hep : e < p) (h : ∀ i a, e < i → i < p → H[i]? = some a → ∀ u x, a.w ≠ .fin (2, c, u) x) :
 cellAt M H c p = clampT u (M.fresh c).top := by
 rw [cellAt_quiet (p := e + 1) (by omega) fun i a h1 h2 => h i a (by omega) h2]
 unfold cellAt
 rw [List.take_add_one, he, Option.toList_some, List.foldl_append]
 show wr1 M c _ a = _
 unfold wr1
 rw [hw]
 simp
def OverW (M : MD) (H : List Atom) (c : Int) (b : Nat) (v : Int) : Prop :=
 ∃ q a u, H[q]? = some a ∧ a.w = .beg (2, c, u) ∧ clampT u (M.fresh c).top = v ∧ (b < q ∨ (q < b ∧ ∀ p a', q < p → p < b → H[p]? = some a' → a'.t = a.t → a'.w.isFin = false))
theorem getE_append {H X : List Atom} {p : Nat} {a : Atom} (h : H[p]? = some a) : (H ++ X)[p]? = some a := by
 rw [List.getElem?_append_left (List.getElem?_eq_some_iff.1 h).1]; exact h
theorem getE_back {H X : List Atom} {p : Nat} {a : Atom} (h : (H ++ X)[p]? = some a) (hp : p < H.length) : H[p]? = some a := by
 rw [List.getElem?_append_left hp] at h; exact h
theorem getE_one {H : List Atom} {a a' : Atom} {p : Nat} (h : (H ++ [a])[p]? = some a') : H[p]? = some a' ∨ p = H.length ∧ a' = a := by
 rcases Nat.lt_or_ge p H.length with hp | hp
 · exact .inl (getE_back h hp)
 · rw [List.getElem?_append_right hp] at h
   have h1 := List.getElem?_eq_some_iff.1 h
   obtain ⟨h1, h2⟩ := h1
   simp only [List.length_singleton] at h1
   have : p = H.length := by omega
   subst this
   simp at h2
   exact .inr ⟨rfl, h2.symm⟩
theorem OverW.grow {M : MD} {H : List Atom} (X : List Atom) {c : Int} {b : Nat} {v : Int} (hb : b ≤ H.length) (h : OverW M H c b v) : OverW M (H ++ X) c b v := by
 obtain ⟨q, a, u, h1, h2, h3, h4⟩ := h
 refine ⟨q, a, u, getE_append h1, h2, h3, h4.imp id fun h => ⟨h.1, fun p a' h5 h6 h7 => h.2 p a' h5 h6 (getE_back h7 (by omega))⟩⟩
structure SlotOn (M : MD) (H : List Atom) (c : Int) (b : Nat) (a : AD) (C : CS) (pend : Nat → Option (Nat × AD)) (x : Acc8) : Prop where
 on : x.on = true
 wr : x.wr = decide (a.1 = 2)
 val : a.1 = 2 → x.val = clampT a.2.2 (M.fresh c).top
 quiet : a.1 = 1 → x.ov = false → C.value = cellAt M H c b ∧ ∀ t b' u, t < 8 → pend t ≠ some (b', (2, c, u))
 over : a.1 = 1 → x.ov = true → ∃ v, OverW M H c b v
 may : a.1 = 1 → C.kind = 2 → x.may ≠ [] ∧ ∀ v, v ∈ x.may → v = cellAt M H c b ∨ OverW M H c b v
structure CellOK (M : MD) (H : List Atom) (c : Int) (C : CS) (pend : Nat → Option (Nat × AD)) : Prop where
 kind : C.kind = (M.fresh c).kind
 top : C.top = (M.fresh c).top
 val : C.value = cellAt M H c H.length
 off : ∀ t, t < 8 → (∀ b a, pend t = some (b, a) → a.2.1 ≠ c) → (C.bys t).on = false
 slot : ∀ t b a, t < 8 → pend t = some (b, a) → a.2.1 = c → SlotOn M H c b a C pend (C.bys t)
def cellB (M : MD) (B : BS) (c : Int) : CS := (getU B.u c).getD (M.fresh c)
structure BankOK (M : MD) (H : List Atom) (B : BS) (pend : Nat → Option (Nat × AD)) : Prop where
 on : ∀ t b a, t < 8 → pend t = some (b, a) → B.by' t = (true, a.2.1)
 off : ∀ t, t < 8 → pend t = none → B.by' t = (false, 0)
 cell : ∀ c, CellOK M H c (cellB M B c) pend
 has : ∀ t b a, t < 8 → pend t = some (b, a) → ∃ C, getU B.u a.2.1 = some C
 at' : ∀ t b a, t < 8 → pend t = some (b, a) → (∃ A, H[b]? = some A ∧ A.t = t ∧ A.w = .beg a) ∧ (a.1 = 1 ∨ a.1 = 2) ∧ ∀ p A, b < p → H[p]? = some A → A.t = t → A.w.isFin = false
theorem readN_gen (c : CS) : ∀ m, (readN c m).on = true ∧ (readN c m).wr = false ∧ ((readN c m).ov = true → ∃ i, i < m ∧ (c.bys i).on = true ∧ (c.bys i).wr = true) ∧ ((readN c m).ov = false → ∀ i, i < m → (c.bys i).on = true → (c.bys i).wr = false) ∧
 (c.kind = 2 → (readN c m).may ≠ [] ∧ ∀ v, v ∈ (readN c m).may → v = c.value ∨ ∃ i, i < m ∧ (c.bys i).on = true ∧ (c.bys i).wr = true ∧ (c.bys i).val = v)
 | 0 => by
  refine ⟨rfl, rfl, fun h => (by cases h), fun _ i hi => (by omega), fun hk => ?_⟩
  show (if c.kind = 2 then [c.value] else []) ≠ [] ∧ ∀ v, v ∈ (if c.kind = 2 then [c.value] else []) → _
  rw [if_pos hk]
  exact ⟨by simp, fun v hv => .inl (by simpa using hv)⟩
 | m + 1 => by
  obtain ⟨h1, h2, h3, h4, h5⟩ := readN_gen c m
  unfold readN
  by_cases h : (c.bys m).on = true ∧ (c.bys m).wr = true
  · rw [if_pos h]
    refine ⟨h1, h2, fun _ => ⟨m, by omega, h⟩, fun e => (by cases e), fun hk => ?_⟩
    show (if c.kind = 2 then _ else _) ≠ [] ∧ ∀ v, v ∈ (if c.kind = 2 then _ else _) → _
    rw [if_pos hk]
    refine ⟨by simp, fun v hv => ?_⟩
    rcases List.mem_append.1 hv with hv | hv
    · exact ((h5 hk).2 v hv).imp id fun ⟨i, q1, q2⟩ => ⟨i, by omega, q2⟩
    · exact .inr ⟨m, by omega, h.1, h.2, (List.mem_singleton.1 hv).symm⟩
  · rw [if_neg h]
    refine ⟨h1, h2, fun e => ?_, fun e i hi hon => ?_, fun hk => ⟨(h5 hk).1, fun v hv => ((h5 hk).2 v hv).imp id fun ⟨i, q1, q2⟩ => ⟨i, by omega, q2⟩⟩⟩
    · obtain ⟨i, q1, q2⟩ := h3 e
      exact ⟨i, by omega, q2⟩
    · by_cases e2 : i = m
      · subst e2
        cases hw : (c.bys i).wr with
        | false => rfl
        | true => exact absurd ⟨hon, hw⟩ h
      · exact h4 e i (by omega) hon
theorem wrN_gen (c : CS) (v : Int) : ∀ m, (wrN c v m).kind = c.kind ∧ (wrN c v m).top = c.top ∧ (wrN c v m).value = c.value ∧
 ∀ i, (wrN c v m).bys i = if i < m ∧ (c.bys i).on = true ∧ (c.bys i).wr = false then ovl c.kind v (c.bys i) else c.bys i
 | 0 => ⟨rfl, rfl, rfl, fun i => by rw [if_neg (by omega)]; rfl⟩
 | m + 1 => by
  obtain ⟨h1, h2, h3, h4⟩ := wrN_gen c v m
  have hm : (wrN c v m).bys m = c.bys m := by rw [h4, if_neg (by omega)]
  unfold wrN
  rw [hm]
  by_cases h : (c.bys m).on = true ∧ (c.bys m).wr = false
  · rw [if_pos h]
    refine ⟨h1, h2, h3, fun i => ?_⟩
    show (if i = m then _ else (wrN c v m).bys i) = _
    by_cases e : i = m
    · subst e
      rw [if_pos rfl, if_pos ⟨by omega, h⟩]
    · rw [if_neg e, h4]
      by_cases h5 : i < m ∧ (c.bys i).on = true ∧ (c.bys i).wr = false
      · rw [if_pos h5, if_pos ⟨by omega, h5.2⟩]
      · rw [if_neg h5, if_neg (fun h6 => h5 ⟨by omega, h6.2⟩)]
  · rw [if_neg h]
    refine ⟨h1, h2, h3, fun i => ?_⟩
    rw [h4]
    by_cases e : i = m
    · subst e
      rw [if_neg (by omega), if_neg (fun h6 => h h6.2)]
    · by_cases h5 : i < m ∧ (c.bys i).on = true ∧ (c.bys i).wr = false
      · rw [if_pos h5, if_pos ⟨by omega, h5.2⟩]
      · rw [if_neg h5, if_neg (fun h6 => h5 ⟨by omega, h6.2⟩)]
theorem wrapI_le (d top : Int) (h : 0 ≤ top) : 0 ≤ wrapI d top ∧ wrapI d top ≤ top := by
 unfold wrapI
 obtain ⟨c, hc⟩ : ∃ c, clampI top 0 1099511627776 = c := ⟨_, rfl⟩
 have h2 : 0 ≤ c ∧ c ≤ top := by
  rw [← hc]; unfold clampI
  split
  · omega
  split <;> omega
 rw [hc]
 have e1 := Int.emod_nonneg d (show c + 1 ≠ 0 by omega)
 have e2 := Int.emod_lt_of_pos d (show 0 < c + 1 by omega)
 omega
def pendSet (pend : Nat → Option (Nat × AD)) (t : Nat) (x : Option (Nat × AD)) : Nat → Option (Nat × AD) := fun i => if i = t then x else pend i
section
variable {M : MD} {H : List Atom} {B : BS} {pend : Nat → Option (Nat × AD)}
theorem BankOK.lt (h : BankOK M H B pend) {t b : Nat} {a : AD} (ht : t < 8) (hp : pend t = some (b, a)) : b < H.length := by
 obtain ⟨⟨A, h1, _⟩, _⟩ := h.at' t b a ht hp
 exact (List.getElem?_eq_some_iff.1 h1).1
theorem BankOK.other (h : BankOK M H B pend) (A : Atom) (h1 : A.w.isFin = false) : BankOK M (H ++ [A]) B pend := by
 have hv : ∀ c, cellAt M (H ++ [A]) c (H ++ [A]).length = cellAt M H c H.length := fun c => by
  rw [show (H ++ [A]).length = H.length + 1 by simp, cellAt_snoc]
  unfold wr1
  split
  · rename_i e; rw [e] at h1; cases h1
  · rfl
 refine ⟨h.on, h.off, fun c => ?_, h.has, fun t b a ht hp => ?_⟩
 · have hc := h.cell c
   refine ⟨hc.kind, hc.top, hc.val.trans (hv c).symm, hc.off, fun t b a ht hp he => ?_⟩
   have hs := hc.slot t b a ht hp he
   have hb := h.lt ht hp
   refine ⟨hs.on, hs.wr, hs.val, fun q1 q2 => ?_, fun q1 q2 => ?_, fun q1 q2 => ?_⟩
   · rw [cellAt_append M H [A] c (Nat.le_of_lt hb)]; exact hs.quiet q1 q2
   · obtain ⟨v, hv⟩ := hs.over q1 q2
     exact ⟨v, hv.grow [A] (Nat.le_of_lt hb)⟩
   · refine ⟨(hs.may q1 q2).1, fun v hv => ?_⟩
     rw [cellAt_append M H [A] c (Nat.le_of_lt hb)]
     exact ((hs.may q1 q2).2 v hv).imp id (OverW.grow [A] (Nat.le_of_lt hb))
 · obtain ⟨⟨A', q1, q2⟩, q3, q4⟩ := h.at' t b a ht hp
   refine ⟨⟨A', getE_append q1, q2⟩, q3, fun p A2 hb hA e => ?_⟩
   rcases getE_one hA with hA | ⟨rfl, rfl⟩
   · exact q4 p A2 hb hA e
   · exact h1
theorem BankOK.begins (h : BankOK M H B pend) {t : Nat} (ht : t < 8) (hp : pend t = none) (k c v : Int) (now i : Nat) (h0 : (B.begin M.many 6 M.fresh t k c v).1 = 0) :
 BankOK M (H ++ [⟨now, t, i, .beg (k, c, v)⟩]) (B.begin M.many 6 M.fresh t k c v).2 (pendSet pend t (some (H.length, (k, c, v)))) := by
 obtain ⟨C, hC⟩ : ∃ C, cellB M B c = C := ⟨_, rfl⟩
 have hCo := h.cell c
 rw [hC] at hCo
 have hby := h.off t ht hp
 have hbusy : (B.busy t).2 = false := by
  unfold BS.busy
  rw [if_neg (by omega), Int.toNat_natCast, hby]
 have e1 : (getU B.u c).getD (M.fresh c) = C := hC
 have hoff : (C.bys t).on = false := hCo.off t ht fun b a e => by rw [hp] at e; cases e
 have hk : k = 1 ∨ k = 2 := by
  unfold BS.begin at h0
  split at h0
  · exact absurd h0 (by simp)
  split at h0
  · exact absurd h0 (by simp)
  split at h0
  · rename_i h1; exact absurd h0 h1
  · rename_i h1
    rw [e1] at h1
    unfold CS.begin at h1
    split at h1
    · exact absurd h1 (by simp)
    · rename_i h2; omega
 have hbeg : C.begin t k v = (0, if k = 1 then C.put t (readN C 8) else (wrN C (clampT v C.top) 8).put t ⟨true, true, clampT v C.top, false, []⟩) := by
  unfold CS.begin
  rw [if_neg (by omega), Int.toNat_natCast, if_neg (by rw [hoff]; simp)]
  split <;> rfl
 have hB : B.begin M.many 6 M.fresh t k c v = (0, { u := putU B.u c (if k = 1 then C.put t (readN C 8) else (wrN C (clampT v C.top) 8).put t ⟨true, true, clampT v C.top, false, []⟩), by' := fun i => if i = t then (true, c) else B.by' i }) := by
  unfold BS.begin at h0 ⊢
  split at h0
  · exact absurd h0 (by simp)
  rename_i g1
  rw [if_neg g1, if_neg (by rw [hbusy]; simp), e1, hbeg, if_neg (by simp), Int.toNat_natCast]
 rw [hB]
 clear h0 hB
 obtain ⟨C2, hC2⟩ : ∃ C2, (if k = 1 then C.put t (readN C 8) else (wrN C (clampT v C.top) 8).put t ⟨true, true, clampT v C.top, false, []⟩) = C2 := ⟨_, rfl⟩
 rw [hC2]
 obtain ⟨w1, w2, w3, w4⟩ := wrN_gen C (clampT v C.top) 8
 obtain ⟨r1, r2, r3, r4, r5⟩ := readN_gen C 8
 have hkk : C2.kind = C.kind ∧ C2.top = C.top ∧ C2.value = C.value := by
  rw [← hC2]; split
  · exact ⟨rfl, rfl, rfl⟩
  · exact ⟨w1, w2, w3⟩
 have hother : ∀ j, j ≠ t → C2.bys j = C.bys j ∨ k = 2 ∧ (C.bys j).wr = false ∧ (C.bys j).on = true ∧ C2.bys j = ovl C.kind (clampT v C.top) (C.bys j) := fun j hj => by
  rw [← hC2]
  rcases hk with rfl | rfl
  · left
    rw [if_pos rfl]
    show (if j = t then _ else C.bys j) = _
    rw [if_neg hj]
  · rw [if_neg (by decide)]
    show (if j = t then _ else (wrN C (clampT v C.top) 8).bys j) = _ ∨ _ ∧ _ ∧ _ ∧ (if j = t then _ else (wrN C (clampT v C.top) 8).bys j) = _
    rw [if_neg hj, w4]
    by_cases h5 : j < 8 ∧ (C.bys j).on = true ∧ (C.bys j).wr = false
    · rw [if_pos h5]; exact .inr ⟨rfl, h5.2.2, h5.2.1, rfl⟩
    · rw [if_neg h5]; exact .inl rfl
 have hmine : C2.bys t = if k = 1 then readN C 8 else ⟨true, true, clampT v C.top, false, []⟩ := by
  rw [← hC2]
  split
  · show (if t = t then _ else _) = _; rw [if_pos rfl]
  · show (if t = t then _ else _) = _; rw [if_pos rfl]
 have hstill : k = 2 ∨ k = 1 := hk.symm
 have hv : ∀ d, cellAt M (H ++ [⟨now, t, i, .beg (k, c, v)⟩]) d (H ++ [(⟨now, t, i, .beg (k, c, v)⟩ : Atom)]).length = cellAt M H d H.length := fun d => by
  rw [show (H ++ [(⟨now, t, i, .beg (k, c, v)⟩ : Atom)]).length = H.length + 1 by simp, cellAt_snoc]; rfl
 have hps : ∀ j b a, j ≠ t → pendSet pend t (some (H.length, (k, c, v))) j = some (b, a) → pend j = some (b, a) := fun j b a hj e => by
  unfold pendSet at e; rw [if_neg hj] at e; exact e
 have hpt : pendSet pend t (some (H.length, (k, c, v))) t = some (H.length, (k, c, v)) := by unfold pendSet; rw [if_pos rfl]
 have hcl : ∀ d, cellB M ⟨putU B.u c C2, fun i => if i = t then (true, c) else B.by' i⟩ d = if d = c then C2 else cellB M B d := fun d => by
  unfold cellB
  by_cases e : d = c
  · subst e; rw [if_pos rfl]; show (getU (putU B.u d C2) d).getD _ = _; rw [getU_same]; rfl
  · rw [if_neg e]; show (getU (putU B.u c C2) d).getD _ = _; rw [getU_other e]
 have hnew : k = 2 → ∀ b, b < H.length → OverW M (H ++ [⟨now, t, i, .beg (k, c, v)⟩]) c b (clampT v C.top) := fun e b hb => by
  subst e
  exact ⟨H.length, ⟨now, t, i, .beg (2, c, v)⟩, v, by simp, rfl, by rw [hCo.top], .inl hb⟩
 have hold : ∀ j, j < 8 → (C.bys j).on = true → (C.bys j).wr = true → OverW M (H ++ [⟨now, t, i, .beg (k, c, v)⟩]) c H.length (C.bys j).val := fun j hj hon hwr => by
  cases hpj : pend j with
  | none => rw [hCo.off j hj (fun b a e => by rw [hpj] at e; cases e)] at hon; cases hon
  | some q =>
   obtain ⟨b, a⟩ := q
   by_cases hac : a.2.1 = c
   · have hs := hCo.slot j b a hj hpj hac
     rw [hs.wr] at hwr
     have ha := of_decide_eq_true hwr
     obtain ⟨⟨A, q1, q2, q3⟩, _, q4⟩ := h.at' j b a hj hpj
     refine ⟨b, A, a.2.2, getE_append q1, ?_, (hs.val ha).symm, .inr ⟨h.lt hj hpj, fun p A' h5 h6 h7 h8 => q4 p A' h5 (getE_back h7 h6) (by rw [h8, q2])⟩⟩
     rw [q3]; obtain ⟨a1, a2, a3⟩ := a; dsimp only at ha hac; rw [ha, hac]
   · rw [hCo.off j hj (fun b' a' e => by rw [hpj] at e; cases e; exact hac)] at hon; cases hon
 refine ⟨fun j b a hj e => ?_, fun j hj e => ?_, fun d => ?_, fun j b a hj e => ?_, fun j b a hj e => ?_⟩
 · show (if j = t then (true, c) else B.by' j) = _
   by_cases ejt : j = t
   · subst ejt; rw [hpt] at e; cases e; rw [if_pos rfl]
   · rw [if_neg ejt]; exact h.on j b a hj (hps j b a ejt e)
 · show (if j = t then (true, c) else B.by' j) = _
   by_cases ejt : j = t
   · subst ejt; rw [hpt] at e; cases e
   · rw [if_neg ejt]
     unfold pendSet at e; rw [if_neg ejt] at e; exact h.off j hj e
 · rw [hcl d]
   by_cases edc : d = c
   · subst edc
     rw [if_pos rfl]
     refine ⟨hkk.1.trans hCo.kind, hkk.2.1.trans hCo.top, by rw [hv, hkk.2.2]; exact hCo.val, fun j hj hno => ?_, fun j b a hj e he => ?_⟩
     · by_cases ejt : j = t
       · subst ejt; exact absurd rfl (hno _ _ hpt)
       · have e0 : (C.bys j).on = false := hCo.off j hj fun b a e => hno b a (by unfold pendSet; rw [if_neg ejt]; exact e)
         rcases hother j ejt with e1 | ⟨_, _, e1, _⟩
         · rw [e1]; exact e0
         · rw [e0] at e1; cases e1
     · by_cases ejt : j = t
       · subst ejt
         rw [hpt] at e; cases e
         rw [hmine]
         rcases hk with rfl | rfl
         · rw [if_pos rfl]
           have hne : ∀ b' u j', j' < 8 → pend j' = some (b', (2, d, u)) → (C.bys j').on = true ∧ (C.bys j').wr = true := fun b' u j' hj' e' => by
            have := hCo.slot j' b' (2, d, u) hj' e' rfl
            exact ⟨this.on, by rw [this.wr]; rfl⟩
           refine ⟨r1, r2, fun e => (by cases e), fun _ q => ⟨?_, fun j' b' u hj' e' => ?_⟩, fun _ q => ?_, fun _ q => ?_⟩
           · rw [hkk.2.2, cellAt_append M H _ d (Nat.le_refl _)]; exact hCo.val
           · by_cases ej : j' = j
             · subst ej; rw [hpt] at e'; cases e'
             · obtain ⟨g1, g2⟩ := hne b' u j' hj' (hps j' _ _ ej e')
               rw [r4 q j' hj' g1] at g2; cases g2
           · obtain ⟨j', g1, g2, g3⟩ := r3 q
             exact ⟨_, hold j' g1 g2 g3⟩
           · rw [hkk.1] at q
             refine ⟨(r5 q).1, fun x hx => ?_⟩
             rcases (r5 q).2 x hx with g | ⟨j', g1, g2, g3, g4⟩
             · left; rw [g, cellAt_append M H _ d (Nat.le_refl _)]; exact hCo.val
             · right; rw [← g4]; exact hold j' g1 g2 g3
         · rw [if_neg (by decide)]
           exact ⟨rfl, rfl, fun _ => (by rw [← hCo.top]), fun e => absurd e (by simp), fun e => absurd e (by simp), fun e => absurd e (by simp)⟩
       · have e' := hps j b a ejt e
         have hs := hCo.slot j b a hj e' he
         have hb := h.lt hj e'
         rcases hother j ejt with e1 | ⟨hk2, hw0, _, e1⟩
         · rw [e1]
           refine ⟨hs.on, hs.wr, hs.val, fun q1 q2 => ?_, fun q1 q2 => ?_, fun q1 q2 => ?_⟩
           · rw [hkk.2.2, cellAt_append M H _ d (Nat.le_of_lt hb)]
             refine ⟨(hs.quiet q1 q2).1, fun j' b' u hj' e2 => ?_⟩
             by_cases ej : j' = t
             · subst ej; rw [hpt] at e2; cases e2
               have := hC2
               rw [if_neg (by decide)] at this
               have h9 : C2.bys j = ovl C.kind (clampT v C.top) (C.bys j) := by
                rw [← this]
                show (if j = j' then _ else (wrN C (clampT v C.top) 8).bys j) = _
                rw [if_neg ejt, w4, if_pos ⟨hj, hs.on, by rw [hs.wr]; exact decide_eq_false (by omega)⟩]
               rw [e1] at h9
               rw [h9] at q2
               cases q2
             · exact (hs.quiet q1 q2).2 j' b' u hj' (hps j' _ _ ej e2)
           · obtain ⟨x, hx⟩ := hs.over q1 q2
             exact ⟨x, hx.grow _ (Nat.le_of_lt hb)⟩
           · rw [hkk.1] at q2
             refine ⟨(hs.may q1 q2).1, fun x hx => ?_⟩
             rw [cellAt_append M H _ d (Nat.le_of_lt hb)]
             exact ((hs.may q1 q2).2 x hx).imp id (OverW.grow _ (Nat.le_of_lt hb))
         · rw [e1]
           refine ⟨hs.on, hs.wr, hs.val, fun q1 q2 => (by cases q2), fun q1 q2 => ⟨_, hnew hk2 b hb⟩, fun q1 q2 => ?_⟩
           rw [hkk.1] at q2
           show (if C.kind = 2 then _ else _) ≠ [] ∧ ∀ x, x ∈ (if C.kind = 2 then _ else _) → _
           rw [if_pos q2]
           refine ⟨by simp, fun x hx => ?_⟩
           rw [cellAt_append M H _ d (Nat.le_of_lt hb)]
           rcases List.mem_append.1 hx with hx | hx
           · exact ((hs.may q1 q2).2 x hx).imp id (OverW.grow _ (Nat.le_of_lt hb))
           · rw [List.mem_singleton] at hx
             rw [hx]; exact .inr (hnew hk2 b hb)
   · rw [if_neg edc]
     have hc := h.cell d
     refine ⟨hc.kind, hc.top, hc.val.trans (hv d).symm, fun j hj hno => ?_, fun j b a hj e he => ?_⟩
     · by_cases ejt : j = t
       · subst ejt; exact hc.off j hj fun b a e => by rw [hp] at e; cases e
       · exact hc.off j hj fun b a e => hno b a (by unfold pendSet; rw [if_neg ejt]; exact e)
     · by_cases ejt : j = t
       · subst ejt; rw [hpt] at e; cases e; exact absurd he.symm edc
       · have e' := hps j b a ejt e
         have hs := hc.slot j b a hj e' he
         have hb := h.lt hj e'
         refine ⟨hs.on, hs.wr, hs.val, fun q1 q2 => ?_, fun q1 q2 => ?_, fun q1 q2 => ?_⟩
         · rw [cellAt_append M H _ d (Nat.le_of_lt hb)]
           refine ⟨(hs.quiet q1 q2).1, fun j' b' u hj' e2 => ?_⟩
           by_cases ej : j' = t
           · subst ej; rw [hpt] at e2; cases e2; exact edc rfl
           · exact (hs.quiet q1 q2).2 j' b' u hj' (hps j' _ _ ej e2)
         · obtain ⟨x, hx⟩ := hs.over q1 q2
           exact ⟨x, hx.grow _ (Nat.le_of_lt hb)⟩
         · refine ⟨(hs.may q1 q2).1, fun x hx => ?_⟩
           rw [cellAt_append M H _ d (Nat.le_of_lt hb)]
           exact ((hs.may q1 q2).2 x hx).imp id (OverW.grow _ (Nat.le_of_lt hb))
 · by_cases ejt : j = t
   · subst ejt; rw [hpt] at e; cases e
     exact ⟨C2, getU_same c C2 B.u⟩
   · obtain ⟨D, hD⟩ := h.has j b a hj (hps j b a ejt e)
     by_cases e3 : a.2.1 = c
     · exact ⟨C2, by rw [e3]; exact getU_same c C2 B.u⟩
     · exact ⟨D, by rw [getU_other e3]; exact hD⟩
 · by_cases ejt : j = t
   · subst ejt; rw [hpt] at e; cases e
     refine ⟨⟨⟨now, j, i, .beg (k, c, v)⟩, by simp, rfl, rfl⟩, hk, fun p A hlt hA => ?_⟩
     have := (List.getElem?_eq_some_iff.1 hA).1
     simp at this; omega
   · obtain ⟨⟨A', q1, q2⟩, q3, q4⟩ := h.at' j b a hj (hps j b a ejt e)
     refine ⟨⟨A', getE_append q1, q2⟩, q3, fun p A2 hlt hA e => ?_⟩
     rcases getE_one hA with hA | ⟨rfl, rfl⟩
     · exact q4 p A2 hlt hA e
     · rfl
def Told0 (M : MD) (H : List Atom) (c : Int) (b : Nat) (x : Int) : Prop :=
 if (M.fresh c).kind = 1 then x = cellAt M H c b ∨ (∃ v, OverW M H c b v) ∧ ∃ d, x = wrapI d (M.fresh c).top
 else if (M.fresh c).kind = 2 then x = cellAt M H c b ∨ OverW M H c b x
 else x = cellAt M H c H.length
def Told (M : MD) (H : List Atom) (a : AD) (b e : Nat) (x : Int) : Prop := (a.1 = 1 → Told0 M (H.take e) a.2.1 b x) ∧ (a.1 = 2 → x = 0)
theorem BankOK.ends (h : BankOK M H B pend) {t : Nat} (ht : t < 8) {b : Nat} {a : AD} (hp : pend t = some (b, a)) (d : Int) (now i : Nat) :
 BankOK M (H ++ [⟨now, t, i, .fin a (B.endA M.fresh t d).1⟩]) (B.endA M.fresh t d).2.2 (pendSet pend t none) ∧ Told M H a b H.length (B.endA M.fresh t d).1 := by
 obtain ⟨k, c, v⟩ := a
 obtain ⟨C, hC⟩ := h.has t b _ ht hp
 have hCo := h.cell c
 have hcB : cellB M B c = C := by unfold cellB; rw [hC]; rfl
 rw [hcB] at hCo
 have hby := h.on t b _ ht hp
 have hbusy : B.busy t = (c, true) := by
  unfold BS.busy
  rw [if_neg (by omega), Int.toNat_natCast, hby]
 have hs := hCo.slot t b _ ht hp rfl
 have hk : k = 1 ∨ k = 2 := (h.at' t b _ ht hp).2.1
 have hb := h.lt ht hp
 have hE : C.endA t d = if k = 2 then (0, 0, { C.put t acc0 with value := clampT v (M.fresh c).top }) else (tellC C (C.bys t) d, 0, C.put t acc0) := by
  unfold CS.endA
  rw [if_neg (by omega), Int.toNat_natCast, if_neg (by rw [hs.on]; simp)]
  by_cases e : k = 2
  · rw [if_pos (by rw [hs.wr]; exact decide_eq_true e), if_pos e, hs.val e]
  · rw [if_neg (by rw [hs.wr]; simpa using e), if_neg e]
 have hB : B.endA M.fresh t d = ((C.endA t d).1, (C.endA t d).2.1, { u := putU B.u c (C.endA t d).2.2, by' := fun i => if i = t then (false, 0) else B.by' i }) := by
  unfold BS.endA
  rw [hbusy, if_neg (by simp), hC]
  rfl
 rw [hB]
 obtain ⟨x, hx⟩ : ∃ x, (C.endA t d).1 = x := ⟨_, rfl⟩
 obtain ⟨C2, hC2⟩ : ∃ C2, (C.endA t d).2.2 = C2 := ⟨_, rfl⟩
 dsimp only
 rw [hx, hC2]
 have hb2 : ∀ j, C2.bys j = if j = t then acc0 else C.bys j := fun j => by
  rw [← hC2, hE]; split <;> rfl
 have hk2 : C2.kind = C.kind ∧ C2.top = C.top := by
  rw [← hC2, hE]; split <;> exact ⟨rfl, rfl⟩
 have hval : C2.value = if k = 2 then clampT v (M.fresh c).top else C.value := by
  rw [← hC2, hE]; split <;> rfl
 have hv : ∀ g, cellAt M (H ++ [⟨now, t, i, .fin (k, c, v) x⟩]) g (H ++ [(⟨now, t, i, .fin (k, c, v) x⟩ : Atom)]).length = if k = 2 ∧ c = g then clampT v (M.fresh g).top else cellAt M H g H.length := fun g => by
  rw [show (H ++ [(⟨now, t, i, .fin (k, c, v) x⟩ : Atom)]).length = H.length + 1 by simp, cellAt_snoc]; rfl
 have hcl : ∀ g, cellB M ⟨putU B.u c C2, fun i => if i = t then (false, 0) else B.by' i⟩ g = if g = c then C2 else cellB M B g := fun g => by
  unfold cellB
  by_cases e : g = c
  · subst e; rw [if_pos rfl]; show (getU (putU B.u g C2) g).getD _ = _; rw [getU_same]; rfl
  · rw [if_neg e]; show (getU (putU B.u c C2) g).getD _ = _; rw [getU_other e]
 have hps : ∀ j b a, pendSet pend t none j = some (b, a) → j ≠ t ∧ pend j = some (b, a) := fun j b a e => by
  unfold pendSet at e
  by_cases ejt : j = t
  · rw [if_pos ejt] at e; cases e
  · rw [if_neg ejt] at e; exact ⟨ejt, e⟩
 refine ⟨⟨fun j b' a' hj e => ?_, fun j hj e => ?_, fun g => ?_, fun j b' a' hj e => ?_, fun j b' a' hj e => ?_⟩, fun hk1 => ?_, fun hk2 => ?_⟩
 · obtain ⟨e1, e2⟩ := hps j b' a' e
   show (if j = t then _ else B.by' j) = _
   rw [if_neg e1]; exact h.on j b' a' hj e2
 · show (if j = t then (false, 0) else B.by' j) = _
   by_cases ejt : j = t
   · rw [if_pos ejt]
   · rw [if_neg ejt]
     unfold pendSet at e; rw [if_neg ejt] at e; exact h.off j hj e
 · rw [hcl g]
   by_cases egc : g = c
   · subst egc
     rw [if_pos rfl]
     refine ⟨hk2.1.trans hCo.kind, hk2.2.trans hCo.top, ?_, fun j hj hno => ?_, fun j b' a' hj e he => ?_⟩
     · rw [hv, hval]
       by_cases e : k = 2
       · rw [if_pos e, if_pos ⟨e, rfl⟩]
       · rw [if_neg e, if_neg (fun q => e q.1)]; exact hCo.val
     · rw [hb2]
       by_cases ejt : j = t
       · rw [if_pos ejt]; rfl
       · rw [if_neg ejt]
         exact hCo.off j hj fun b' a' e => hno b' a' (by unfold pendSet; rw [if_neg ejt]; exact e)
     · obtain ⟨e1, e2⟩ := hps j b' a' e
       rw [hb2, if_neg e1]
       have hs2 := hCo.slot j b' a' hj e2 he
       have hb3 := h.lt hj e2
       refine ⟨hs2.on, hs2.wr, hs2.val, fun q1 q2 => ?_, fun q1 q2 => ?_, fun q1 q2 => ?_⟩
       · have hq := hs2.quiet q1 q2
         have hkn : k ≠ 2 := fun ek => hq.2 t b v ht (by rw [hp, ek])
         rw [hval, if_neg hkn, cellAt_append M H _ g (Nat.le_of_lt hb3)]
         exact ⟨hq.1, fun j' b2 u hj' e3 => hq.2 j' b2 u hj' (hps j' _ _ e3).2⟩
       · obtain ⟨y, hy⟩ := hs2.over q1 q2
         exact ⟨y, hy.grow _ (Nat.le_of_lt hb3)⟩
       · rw [hk2.1] at q2
         refine ⟨(hs2.may q1 q2).1, fun y hy => ?_⟩
         rw [cellAt_append M H _ g (Nat.le_of_lt hb3)]
         exact ((hs2.may q1 q2).2 y hy).imp id (OverW.grow _ (Nat.le_of_lt hb3))
   · rw [if_neg egc]
     have hc := h.cell g
     refine ⟨hc.kind, hc.top, ?_, fun j hj hno => ?_, fun j b' a' hj e he => ?_⟩
     · rw [hv, if_neg (fun q => egc q.2.symm)]; exact hc.val
     · by_cases ejt : j = t
       · subst ejt; exact hc.off j hj fun b' a' e => by rw [hp] at e; cases e; exact fun e9 => egc e9.symm
       · exact hc.off j hj fun b' a' e => hno b' a' (by unfold pendSet; rw [if_neg ejt]; exact e)
     · obtain ⟨e1, e2⟩ := hps j b' a' e
       have hs2 := hc.slot j b' a' hj e2 he
       have hb3 := h.lt hj e2
       refine ⟨hs2.on, hs2.wr, hs2.val, fun q1 q2 => ?_, fun q1 q2 => ?_, fun q1 q2 => ?_⟩
       · have hq := hs2.quiet q1 q2
         rw [cellAt_append M H _ g (Nat.le_of_lt hb3)]
         exact ⟨hq.1, fun j' b2 u hj' e3 => hq.2 j' b2 u hj' (hps j' _ _ e3).2⟩
       · obtain ⟨y, hy⟩ := hs2.over q1 q2
         exact ⟨y, hy.grow _ (Nat.le_of_lt hb3)⟩
       · refine ⟨(hs2.may q1 q2).1, fun y hy => ?_⟩
         rw [cellAt_append M H _ g (Nat.le_of_lt hb3)]
         exact ((hs2.may q1 q2).2 y hy).imp id (OverW.grow _ (Nat.le_of_lt hb3))
 · obtain ⟨e1, e2⟩ := hps j b' a' e
   obtain ⟨D, hD⟩ := h.has j b' a' hj e2
   by_cases e3 : a'.2.1 = c
   · exact ⟨C2, by rw [e3]; exact getU_same c C2 B.u⟩
   · exact ⟨D, by rw [getU_other e3]; exact hD⟩
 · obtain ⟨e1, e2⟩ := hps j b' a' e
   obtain ⟨⟨A', q1, q2⟩, q3, q4⟩ := h.at' j b' a' hj e2
   refine ⟨⟨A', getE_append q1, q2⟩, q3, fun p A2 hlt hA e => ?_⟩
   rcases getE_one hA with hA | ⟨rfl, rfl⟩
   · exact q4 p A2 hlt hA e
   · exact absurd e.symm e1
 · have hk1 : k = 1 := hk1
   subst hk1
   have hx2 : x = tellC C (C.bys t) d := by rw [← hx, hE, if_neg (by decide)]
   rw [List.take_length]
   show Told0 M H c b x
   unfold Told0
   rw [hx2, ← hCo.kind]
   unfold tellC
   by_cases g1 : C.kind = 1
   · rw [if_pos g1]
     by_cases g2 : (C.bys t).ov = true
     · rw [if_pos ⟨g1, g2⟩]
       exact .inr ⟨hs.over rfl g2, d, by rw [hCo.top]⟩
     · rw [if_neg (fun q => g2 q.2), if_neg (by omega)]
       exact .inl (hs.quiet rfl (by simpa using g2)).1
   · have hn : ¬ (C.kind = 1 ∧ (C.bys t).ov = true) := fun q => g1 q.1
     by_cases g2 : C.kind = 2
     · rw [if_neg g1, if_pos g2, if_neg hn, if_pos g2]
       obtain ⟨m1, m2⟩ := hs.may rfl g2
       refine m2 _ ?_
       rw [List.getD_eq_getElem?_getD]
       have hl : 0 < (C.bys t).may.length := List.length_pos_iff.2 m1
       have hw : (wrapI d (((C.bys t).may.length : Int) - 1)).toNat < (C.bys t).may.length := by
        have := wrapI_le d (((C.bys t).may.length : Int) - 1) (by omega)
        omega
       rw [List.getElem?_eq_getElem hw]
       exact List.getElem_mem hw
     · rw [if_neg g1, if_neg g2, if_neg hn, if_neg g2]; exact hCo.val
 · have hk2 : k = 2 := hk2
   rw [← hx, hE, if_pos hk2]
end
end Go.Proofs.YtpodgcpkccpnfaaGreat

namespace Go.Proofs.YtpodgcpkccpnfaaGreat
open Go.RowKit
structure GC where
 p0 : Nat
 loc : List Int
 items : List Item
 out : List Int
 res : Option (Nat × Int × Int)
def callAt (progs : List (List CD)) (t i : Nat) : CD := (progs.getD t []).getD i (0, 0, 0)
theorem OverW.same {M : MD} {H X : List Atom} {c : Int} {b : Nat} {v : Int} (h : OverW M H c b v) (hb : b ≤ H.length) : OverW M (H ++ X) c b v := h.grow X hb
theorem Told.grow {M : MD} {H : List Atom} (X : List Atom) {a : AD} {b e : Nat} {x : Int} (h : Told M H a b e x) (he : e ≤ H.length) : Told M (H ++ X) a b e x := by
 unfold Told at h ⊢
 rw [List.take_append_of_le_length he]; exact h
structure ItemsAt (M : MD) (H : List Atom) (t i : Nat) (L : List Item) : Prop where
 note : ∀ k p, Item.note k p ∈ L → ∃ now, H[p]? = some ⟨now, t, i, .note k⟩
 acc : ∀ a b e x, Item.acc a b e x ∈ L → (∃ now, H[b]? = some ⟨now, t, i, .beg a⟩) ∧ (∃ now, H[e]? = some ⟨now, t, i, .fin a x⟩) ∧ (a.1 = 1 ∨ a.1 = 2) ∧ Told M H a b e x
theorem ItemsAt.grow {M : MD} {H : List Atom} {t i : Nat} {L : List Item} (h : ItemsAt M H t i L) (X : List Atom) : ItemsAt M (H ++ X) t i L :=
 ⟨fun k p hm => (h.note k p hm).imp fun _ q => getE_append q, fun a b e x hm => by
  obtain ⟨⟨n1, h1⟩, ⟨n2, h2⟩, h3, h4⟩ := h.acc a b e x hm
  exact ⟨⟨n1, getE_append h1⟩, ⟨n2, getE_append h2⟩, h3, h4.grow X (Nat.le_of_lt (List.getElem?_eq_some_iff.1 h2).1)⟩⟩
theorem ItemsAt.append {M : MD} {H : List Atom} {t i : Nat} {L L2 : List Item} (h : ItemsAt M H t i L) (h2 : ItemsAt M H t i L2) : ItemsAt M H t i (L ++ L2) :=
 ⟨fun k p hm => (List.mem_append.1 hm).elim (h.note k p) (h2.note k p), fun a b e x hm => (List.mem_append.1 hm).elim (h.acc a b e x) (h2.acc a b e x)⟩
structure RunC (M : MD) (progs : List (List CD)) (H : List Atom) (t i : Nat) (c : GC) (o : Op RD) (l : List Int) : Prop where
 lt : i < (progs.getD t []).length
 path : Path (M.P t (callAt progs t i)) c.loc c.items o l
 seq : Seq c.p0 c.items
 last : lastP c.p0 c.items < H.length
 at0 : ∃ now, H[c.p0]? = some ⟨now, t, i, .call⟩
 its : ItemsAt M H t i c.items
 res : c.res = none
structure FinC (M : MD) (progs : List (List CD)) (H : List Atom) (t i : Nat) (c : GC) : Prop where
 lt : i < (progs.getD t []).length
 path : ∃ p e v l, Path (M.P t (callAt progs t i)) c.loc c.items (.ret (e, v)) l ∧ c.out = shortL l ∧ c.res = some (p, e, v) ∧ lastP c.p0 c.items < p ∧ ∃ now, H[p]? = some ⟨now, t, i, .ret e v⟩
 seq : Seq c.p0 c.items
 at0 : ∃ now, H[c.p0]? = some ⟨now, t, i, .call⟩
 its : ItemsAt M H t i c.items
theorem RunC.grow {M : MD} {progs : List (List CD)} {H : List Atom} {t i : Nat} {c : GC} {o : Op RD} {l : List Int} (h : RunC M progs H t i c o l) (X : List Atom) : RunC M progs (H ++ X) t i c o l :=
 ⟨h.lt, h.path, h.seq, by have := h.last; simp; omega, h.at0.imp fun _ q => getE_append q, h.its.grow X, h.res⟩
theorem FinC.grow {M : MD} {progs : List (List CD)} {H : List Atom} {t i : Nat} {c : GC} (h : FinC M progs H t i c) (X : List Atom) : FinC M progs (H ++ X) t i c := by
 obtain ⟨p, e, v, l, h1, h2, h3, h4, now, h5⟩ := h.path
 exact ⟨h.lt, ⟨p, e, v, l, h1, h2, h3, h4, now, getE_append h5⟩, h.seq, h.at0.imp fun _ q => getE_append q, h.its.grow X⟩
inductive Ph : Type where
 | idle | mid (o : Op RD) (l : List Int) | asked (a : AD) (k : Int → Op RD) (l : List Int) | begun (a : AD) (k : Int → Op RD) (l : List Int) (b : Nat)
def Ph.pend : Ph → Option (Nat × AD)
 | .begun a _ _ b => some (b, a)
 | _ => none
def outOf (cs : List GC) : Nat → List Int
 | 0 => []
 | i + 1 => match cs[i]? with
  | some c => c.out
  | none => []
def Behind (cs : List GC) (i p : Nat) : Prop := ∀ j c q e v, i = j + 1 → cs[j]? = some c → c.res = some (q, e, v) → q < p
def Cov (cs : List GC) (pend : Option (Nat × AD)) (n : Nat) (p : Nat) (A : Atom) : Prop := A.w = .halt ∨ ∃ c, cs[A.i]? = some c ∧ match A.w with
 | .call => p = c.p0
 | .note k => Item.note k p ∈ c.items
 | .ret e v => c.res = some (p, e, v)
 | .beg a => (∃ e x, Item.acc a p e x ∈ c.items) ∨ (pend = some (p, a) ∧ A.i = n)
 | .fin a x => ∃ b, Item.acc a b p x ∈ c.items
 | .halt => True
structure TInv (M : MD) (progs : List (List CD)) (H : List Atom) (t : Nat) (th : ThD) (cs : List GC) (cur : Option GC) (ph : Ph) : Prop where
 prog : th.prog = progs.getD t []
 next : th.next = cs.length
 fin : ∀ i c, cs[i]? = some c → FinC M progs H t i c ∧ c.loc = outOf cs i ∧ Behind cs i c.p0
 stat : match ph with
  | .idle => cur = none ∧ th.st = 0 ∧ th.ans = [] ∧ th.nts = 0 ∧ th.loc = outOf cs cs.length
  | .mid o l => ∃ c, cur = some c ∧ RunC M progs H t cs.length c o l ∧ c.loc = outOf cs cs.length ∧ Behind cs cs.length c.p0 ∧ th.loc = c.loc ∧ th.ans = told c.items ∧ th.nts = (kinds c.items).length
  | .asked a k l => th.st = 1 ∧ th.acc = a ∧ ∃ c, cur = some c ∧ RunC M progs H t cs.length c (.ask a k) l ∧ c.loc = outOf cs cs.length ∧ Behind cs cs.length c.p0 ∧ th.loc = c.loc ∧ th.ans = told c.items ∧ th.nts = (kinds c.items).length
  | .begun a k l b => th.st = 2 ∧ th.acc = a ∧ ∃ c, cur = some c ∧ RunC M progs H t cs.length c (.ask a k) l ∧ c.loc = outOf cs cs.length ∧ Behind cs cs.length c.p0 ∧ th.loc = c.loc ∧ th.ans = told c.items ∧ th.nts = (kinds c.items).length ∧ lastP c.p0 c.items < b ∧ b < H.length ∧ (a.1 = 1 ∨ a.1 = 2) ∧ ∃ now, H[b]? = some ⟨now, t, cs.length, .beg a⟩
 cov : ∀ p A, H[p]? = some A → A.t = t → Cov (cs ++ cur.toList) ph.pend cs.length p A
section
variable {M : MD} {progs : List (List CD)} {H : List Atom} {t : Nat} {th : ThD} {cs : List GC} {cur : Option GC} {ph : Ph}
theorem TInv.grow (h : TInv M progs H t th cs cur ph) (X : List Atom) (hX : ∀ A, A ∈ X → A.t ≠ t) : TInv M progs (H ++ X) t th cs cur ph := by
 refine ⟨h.prog, h.next, fun i c hc => ⟨(h.fin i c hc).1.grow X, (h.fin i c hc).2⟩, ?_, fun p A hA ht => ?_⟩
 · have := h.stat
   cases ph with
   | idle => exact this
   | mid o l => obtain ⟨c, h1, h2, h3⟩ := this; exact ⟨c, h1, h2.grow X, h3⟩
   | asked a k l => obtain ⟨g1, g2, c, h1, h2, h3⟩ := this; exact ⟨g1, g2, c, h1, h2.grow X, h3⟩
   | begun a k l b =>
    obtain ⟨g1, g2, c, h1, h2, h3, h4, h5, h6, h7, h8, h9, h10, now, h11⟩ := this
    exact ⟨g1, g2, c, h1, h2.grow X, h3, h4, h5, h6, h7, h8, by simp; omega, h10, now, getE_append h11⟩
 · rcases Nat.lt_or_ge p H.length with hp | hp
   · exact h.cov p A (getE_back hA hp) ht
   · rw [List.getElem?_append_right hp] at hA
     exact absurd ht (hX A (List.mem_of_getElem? hA))
theorem cov_one {cs : List GC} {pend : Option (Nat × AD)} {n : Nat} {H : List Atom} {A : Atom} {t : Nat} (h : ∀ p B, H[p]? = some B → B.t = t → Cov cs pend n p B) (hA : Cov cs pend n H.length A) : ∀ p B, (H ++ [A])[p]? = some B → B.t = t → Cov cs pend n p B := fun p B hB ht => by
 rcases getE_one hB with hB | ⟨rfl, rfl⟩
 · exact h p B hB ht
 · exact hA
theorem last_snoc (cs : List GC) (c : GC) : (cs ++ [c])[cs.length]? = some c := by simp
theorem Cov.more {cs : List GC} {pend : Option (Nat × AD)} {p : Nat} {A : Atom} {c c' : GC} (h : Cov (cs ++ [c]) pend cs.length p A) (h0 : c'.p0 = c.p0) (hi : ∀ x, x ∈ c.items → x ∈ c'.items) (hr : c.res = none) : Cov (cs ++ [c']) pend cs.length p A := by
 rcases h with h | ⟨d, h1, h2⟩
 · exact .inl h
 · right
   rcases Nat.lt_or_ge A.i cs.length with hlt | hge
   · refine ⟨d, ?_, h2⟩
     rw [List.getElem?_append_left hlt] at h1 ⊢; exact h1
   · have e : A.i = cs.length := by
      have := (List.getElem?_eq_some_iff.1 h1).1
      simp at this; omega
     rw [e, last_snoc] at h1
     cases h1
     refine ⟨c', by rw [e]; exact last_snoc _ _, ?_⟩
     cases hw : A.w with
     | call => rw [hw] at h2; exact h2.trans h0.symm
     | note k => rw [hw] at h2; exact hi _ h2
     | ret e v => rw [hw, hr] at h2; cases h2
     | beg a => rw [hw] at h2; exact h2.imp (fun ⟨e, x, h⟩ => ⟨e, x, hi _ h⟩) id
     | fin a x => rw [hw] at h2; exact h2.imp fun b h => hi _ h
     | halt => trivial
theorem TInv.call (h : TInv M progs H t th cs cur .idle) (hlt : th.next < th.prog.length) (now : Nat) :
 ∃ cur', TInv M progs (H ++ [⟨now, t, th.next, .call⟩]) t th cs cur' (.mid (M.P t th.call) th.loc) := by
 obtain ⟨h1, h2, h3, h4, h5⟩ := h.stat
 have hpl : ∀ (j : Nat) (c : GC) q e v, cs[j]? = some c → c.res = some (q, e, v) → q < H.length := fun j c q e v hc hr => by
  obtain ⟨p, e', v', l, g1, g2, g3, g4, now, g5⟩ := (h.fin j c hc).1.path
  rw [hr] at g3; cases g3
  exact (List.getElem?_eq_some_iff.1 g5).1
 have hcall : th.call = callAt progs t cs.length := by
  unfold ThD.call callAt; rw [h.prog, h.next]
 refine ⟨some ⟨H.length, th.loc, [], [], none⟩, h.prog, h.next, fun i c hc => ⟨(h.fin i c hc).1.grow _, (h.fin i c hc).2⟩, ⟨_, rfl, ?_, h5, fun j c q e v hj hc hr => hpl j c q e v hc hr, rfl, h3, h4⟩, ?_⟩
 · refine ⟨by rw [← h.next, ← h.prog]; exact hlt, by rw [hcall]; exact .nil _ _, trivial, by simp [lastP], ⟨now, by rw [h.next]; simp⟩, ⟨fun k p hm => (by cases hm), fun a b e x hm => (by cases hm)⟩, rfl⟩
 · refine cov_one (fun p B hB ht => ?_) ?_
   · have := h.cov p B hB ht
     rw [h1] at this
     rcases this with q | ⟨c, q1, q2⟩
     · exact .inl q
     · right
       simp only [Option.toList_none, List.append_nil] at q1
       refine ⟨c, by rw [List.getElem?_append_left (List.getElem?_eq_some_iff.1 q1).1]; exact q1, ?_⟩
       cases hw : B.w with
       | beg a =>
        rw [hw] at q2
        exact q2.imp id fun q3 => (by cases q3.1)
       | call => rw [hw] at q2; exact q2
       | note k => rw [hw] at q2; exact q2
       | ret e v => rw [hw] at q2; exact q2
       | fin a x => rw [hw] at q2; exact q2
       | halt => trivial
   · exact .inr ⟨_, by rw [h.next]; exact last_snoc _ _, rfl⟩
theorem notes_seq (p lo : Nat) (h : lo < p) : ∀ ks, Seq lo (notesAt p ks) ∧ lastP lo (notesAt p ks) < p + ks.length := fun ks => by
 induction ks generalizing p lo with
 | nil => exact ⟨trivial, h⟩
 | cons k ks ih =>
  have := ih (p + 1) p (by omega)
  exact ⟨⟨h, this.1⟩, by show lastP p _ < p + (ks.length + 1); omega⟩
theorem notes_mem (p : Nat) : ∀ (ks : List Int) (k : Int) (q : Nat), Item.note k q ∈ notesAt p ks → p ≤ q ∧ ks[q - p]? = some k := fun ks => by
 induction ks generalizing p with
 | nil => intro k q h; cases h
 | cons k' ks ih =>
  intro k q h
  rcases List.mem_cons.1 h with e | h
  · cases e; exact ⟨Nat.le_refl _, by rw [Nat.sub_self]; rfl⟩
  · obtain ⟨h1, h2⟩ := ih (p + 1) k q h
    refine ⟨by omega, ?_⟩
    rw [show q - p = q - (p + 1) + 1 by omega, List.getElem?_cons_succ]; exact h2
theorem notes_in (p : Nat) : ∀ (ks : List Int) (j : Nat) (k : Int), ks[j]? = some k → Item.note k (p + j) ∈ notesAt p ks := fun ks => by
 induction ks generalizing p with
 | nil => intro j k h; cases h
 | cons k' ks ih =>
  intro j k h
  cases j with
  | zero => rw [List.getElem?_cons_zero] at h; cases h; exact .head _
  | succ j =>
   rw [List.getElem?_cons_succ] at h
   refine .tail _ ?_
   have := ih (p + 1) j k h
   rwa [show p + 1 + j = p + (j + 1) by omega] at this
theorem notes_noacc (p : Nat) : ∀ (ks : List Int) (a : AD) (b e : Nat) (x : Int), Item.acc a b e x ∉ notesAt p ks := fun ks => by
 induction ks generalizing p with
 | nil => intro a b e x h; cases h
 | cons k' ks ih =>
  intro a b e x h
  rcases List.mem_cons.1 h with e' | h
  · cases e'
  · exact ih (p + 1) a b e x h
theorem TInv.notes {o : Op RD} {l : List Int} (h : TInv M progs H t th cs cur (.mid o l)) (now : Nat) :
 ∃ cur', TInv M progs (H ++ (o.head l).2.2.map fun k => ⟨now, t, th.next, .note k⟩) t { th with nts := th.nts + (o.head l).2.2.length } cs cur' (.mid (o.head l).1.op (o.head l).2.1) := by
 obtain ⟨c, h1, h2, h3, h4, h5, h6, h7⟩ := h.stat
 obtain ⟨ks, hks⟩ : ∃ ks, (o.head l).2.2 = ks := ⟨_, rfl⟩
 have hp := head_path o l H.length
 rw [hks] at hp ⊢
 have hat : ∀ j k, ks[j]? = some k → (H ++ ks.map fun k => (⟨now, t, th.next, .note k⟩ : Atom))[H.length + j]? = some ⟨now, t, th.next, .note k⟩ := fun j k hj => by
  rw [List.getElem?_append_right (Nat.le_add_right _ _), show H.length + j - H.length = j by omega, List.getElem?_map, hj]; rfl
 have hns := notes_seq H.length _ h2.last ks
 refine ⟨some { c with items := c.items ++ notesAt H.length ks }, h.prog, h.next, fun i c hc => ⟨(h.fin i c hc).1.grow _, (h.fin i c hc).2⟩, ⟨_, rfl, ⟨h2.lt, h2.path.trans hp, Seq.append.2 ⟨h2.seq, hns.1⟩, ?_, h2.at0.imp fun _ q => getE_append q, (h2.its.grow _).append ⟨fun k p hm => ?_, fun a b e x hm => absurd hm (notes_noacc _ _ _ _ _ _)⟩, h2.res⟩, h3, h4, h5, ?_, ?_⟩, fun p A hA ht => ?_⟩
 · rw [lastP_append]; simp; exact hns.2
 · obtain ⟨q1, q2⟩ := notes_mem _ _ _ _ hm
   have := hat _ _ q2
   rw [show H.length + (p - H.length) = p by omega] at this
   exact ⟨now, by rw [← h.next]; exact this⟩
 · rw [told_append, notesAt_told, List.append_nil]; exact h6
 · rw [kinds_append, notesAt_kinds, List.length_append, ← h7]
 · rcases Nat.lt_or_ge p H.length with hlt | hge
   · have := h.cov p A (getE_back hA hlt) ht
     rw [h1] at this
     exact this.more rfl (fun x hx => List.mem_append_left _ hx) h2.res
   · rw [List.getElem?_append_right hge, List.getElem?_map] at hA
     cases hk : ks[p - H.length]? with
     | none => rw [hk] at hA; cases hA
     | some k =>
      rw [hk] at hA; cases hA
      refine .inr ⟨_, by rw [h.next]; exact last_snoc _ _, List.mem_append_right _ ?_⟩
      have := notes_in H.length ks _ k hk
      rwa [show H.length + (p - H.length) = p by omega] at this
theorem outOf_append (cs : List GC) (c : GC) {i : Nat} (h : i ≤ cs.length) : outOf (cs ++ [c]) i = outOf cs i := by
 cases i with
 | zero => rfl
 | succ i =>
  show (match (cs ++ [c])[i]? with | some c => c.out | none => []) = (match cs[i]? with | some c => c.out | none => [])
  rw [List.getElem?_append_left (by omega)]
theorem outOf_last (cs : List GC) (c : GC) : outOf (cs ++ [c]) (cs.length + 1) = c.out := by
 show (match (cs ++ [c])[cs.length]? with | some c => c.out | none => []) = _
 rw [last_snoc]
theorem Behind.append {cs : List GC} {c : GC} {i p : Nat} (h : Behind cs i p) (hi : i ≤ cs.length) : Behind (cs ++ [c]) i p := fun j d q e v hj hd hr => by
 rw [List.getElem?_append_left (by omega)] at hd
 exact h j d q e v hj hd hr
theorem TInv.ret {v : RD} {l : List Int} (h : TInv M progs H t th cs cur (.mid (.ret v) l)) (now : Nat) :
 ∃ cs', TInv M progs (H ++ [⟨now, t, th.next, .ret v.1 v.2⟩]) t { th with loc := shortL l, ans := [], nts := 0, st := 0, next := th.next + 1 } cs' none .idle := by
 obtain ⟨c, h1, h2, h3, h4, h5, h6, h7⟩ := h.stat
 obtain ⟨c', hc'⟩ : ∃ c' : GC, c' = { c with out := shortL l, res := some (H.length, v.1, v.2) } := ⟨_, rfl⟩
 refine ⟨cs ++ [c'], h.prog, by simp [h.next], fun i d hd => ?_, ⟨rfl, rfl, rfl, rfl, by rw [List.length_append, List.length_singleton, outOf_last, hc']⟩, ?_⟩
 · rcases Nat.lt_or_ge i cs.length with hlt | hge
   · rw [List.getElem?_append_left hlt] at hd
     obtain ⟨q1, q2, q3⟩ := h.fin i d hd
     exact ⟨q1.grow _, by rw [outOf_append cs c' (Nat.le_of_lt hlt)]; exact q2, q3.append (Nat.le_of_lt hlt)⟩
   · have e : i = cs.length := by
      have := (List.getElem?_eq_some_iff.1 hd).1
      simp at this; omega
     subst e
     rw [last_snoc] at hd; cases hd
     subst hc'
     have g := h2.grow [⟨now, t, th.next, .ret v.1 v.2⟩]
     exact ⟨⟨h2.lt, ⟨H.length, v.1, v.2, l, h2.path, rfl, rfl, h2.last, now, by rw [h.next]; simp⟩, h2.seq, g.at0, g.its⟩, by rw [outOf_append cs _ (Nat.le_refl _)]; exact h3, h4.append (Nat.le_refl _)⟩
 · refine cov_one (fun p B hB ht => ?_) ?_
   · have := h.cov p B hB ht
     rw [h1] at this
     rcases this with q | ⟨d, q1, q2⟩
     · exact .inl q
     · right
       rw [Option.toList_none, List.append_nil]
       have hq1 : (cs ++ [c])[B.i]? = some d := q1
       rcases Nat.lt_or_ge B.i cs.length with hlt | hge
       · rw [List.getElem?_append_left hlt] at hq1
         refine ⟨d, by rw [List.getElem?_append_left hlt]; exact hq1, ?_⟩
         cases hw : B.w with
         | beg a => rw [hw] at q2; exact q2.imp id fun q3 => (by cases q3.1)
         | call => rw [hw] at q2; exact q2
         | note k => rw [hw] at q2; exact q2
         | ret e v => rw [hw] at q2; exact q2
         | fin a x => rw [hw] at q2; exact q2
         | halt => trivial
       · have e : B.i = cs.length := by
          have := (List.getElem?_eq_some_iff.1 hq1).1
          simp at this; omega
         rw [e, last_snoc] at hq1; cases hq1
         refine ⟨c', by rw [e]; exact last_snoc _ _, ?_⟩
         subst hc'
         cases hw : B.w with
         | beg a => rw [hw] at q2; exact q2.imp id fun q3 => (by cases q3.1)
         | call => rw [hw] at q2; exact q2
         | note k => rw [hw] at q2; exact q2
         | ret e v => rw [hw, h2.res] at q2; cases q2
         | fin a x => rw [hw] at q2; exact q2
         | halt => trivial
   · refine .inr ⟨c', by rw [Option.toList_none, List.append_nil, h.next]; exact last_snoc _ _, ?_⟩
     rw [hc']
theorem TInv.ask {a : AD} {k : Int → Op RD} {l : List Int} (h : TInv M progs H t th cs cur (.mid (.ask a k) l)) : TInv M progs H t { th with acc := a, st := 1 } cs cur (.asked a k l) := by
 obtain ⟨c, h1, h2⟩ := h.stat
 exact ⟨h.prog, h.next, h.fin, ⟨rfl, rfl, c, h1, h2⟩, h.cov⟩
theorem TInv.beg {a : AD} {k : Int → Op RD} {l : List Int} (h : TInv M progs H t th cs cur (.asked a k l)) (ha : a.1 = 1 ∨ a.1 = 2) (now : Nat) : TInv M progs (H ++ [⟨now, t, th.next, .beg a⟩]) t { th with st := 2 } cs cur (.begun a k l H.length) := by
 obtain ⟨g1, g2, c, h1, h2, h3, h4, h5, h6, h7⟩ := h.stat
 refine ⟨h.prog, h.next, fun i c hc => ⟨(h.fin i c hc).1.grow _, (h.fin i c hc).2⟩, ⟨rfl, g2, c, h1, h2.grow _, h3, h4, h5, h6, h7, h2.last, by simp, ha, now, by rw [h.next]; simp⟩, cov_one (fun p B hB ht => ?_) ?_⟩
 · have := h.cov p B hB ht
   rcases this with q | ⟨d, q1, q2⟩
   · exact .inl q
   · refine .inr ⟨d, q1, ?_⟩
     cases hw : B.w with
     | beg a => rw [hw] at q2; exact q2.imp id fun q3 => (by cases q3.1)
     | call => rw [hw] at q2; exact q2
     | note k => rw [hw] at q2; exact q2
     | ret e v => rw [hw] at q2; exact q2
     | fin a x => rw [hw] at q2; exact q2
     | halt => trivial
 · refine .inr ⟨c, by rw [h1, h.next]; exact last_snoc _ _, .inr ⟨rfl, h.next⟩⟩
theorem TInv.fins {a : AD} {k : Int → Op RD} {l : List Int} {b : Nat} (h : TInv M progs H t th cs cur (.begun a k l b)) (x : Int) (hx : Told M H a b H.length x) (now : Nat) :
 ∃ cur', TInv M progs (H ++ [⟨now, t, th.next, .fin a x⟩]) t { th with ans := th.ans ++ [x], accs := th.accs + 1 } cs cur' (.mid (k x) l) := by
 obtain ⟨g1, g2, c, h1, h2, h3, h4, h5, h6, h7, h8, h9, h10, n0, h11⟩ := h.stat
 refine ⟨some { c with items := c.items ++ [.acc a b H.length x] }, h.prog, h.next, fun i c hc => ⟨(h.fin i c hc).1.grow _, (h.fin i c hc).2⟩, ⟨_, rfl, ⟨h2.lt, h2.path.trans (.ask b H.length x (.nil _ _)), Seq.append.2 ⟨h2.seq, h8, h9, trivial⟩, ?_, h2.at0.imp fun _ q => getE_append q, (h2.its.grow _).append ⟨fun k p hm => by simp at hm, fun a' b' e' x' hm => ?_⟩, h2.res⟩, h3, h4, h5, ?_, ?_⟩, cov_one (fun p B hB ht => ?_) ?_⟩
 · rw [lastP_append]; simp [lastP]
 · rw [List.mem_singleton] at hm; cases hm
   exact ⟨⟨n0, getE_append h11⟩, ⟨now, by rw [h.next]; simp⟩, h10, hx.grow _ (Nat.le_refl _)⟩
 · rw [told_append]; show th.ans ++ [x] = told c.items ++ [x]; rw [h6]
 · rw [kinds_append]; show th.nts = (kinds c.items ++ []).length; rw [List.append_nil]; exact h7
 · have := h.cov p B hB ht
   rw [h1] at this
   have h9 := this.more (c' := { c with items := c.items ++ [.acc a b H.length x] }) rfl (fun y hy => List.mem_append_left _ hy) h2.res
   rcases h9 with q | ⟨d, q1, q2⟩
   · exact .inl q
   · refine .inr ⟨d, q1, ?_⟩
     cases hw : B.w with
     | beg a' =>
      rw [hw] at q2
      rcases q2 with q2 | ⟨q2, q3⟩
      · exact .inl q2
      · cases q2
        rw [q3, last_snoc] at q1; cases q1
        exact .inl ⟨H.length, x, List.mem_append_right _ (.head _)⟩
     | call => rw [hw] at q2; exact q2
     | note k => rw [hw] at q2; exact q2
     | ret e v => rw [hw] at q2; exact q2
     | fin a x => rw [hw] at q2; exact q2
     | halt => trivial
 · exact .inr ⟨_, by rw [h.next]; exact last_snoc _ _, b, List.mem_append_right _ (.head _)⟩
theorem TInv.halt (h : TInv M progs H t th cs cur ph) (now i : Nat) (hb : Bool) : TInv M progs (H ++ [⟨now, t, i, .halt⟩]) t { th with halted := hb } cs cur ph := by
 refine ⟨h.prog, h.next, fun i c hc => ⟨(h.fin i c hc).1.grow _, (h.fin i c hc).2⟩, ?_, cov_one h.cov (.inl rfl)⟩
 have := h.stat
 cases ph with
 | idle => exact this
 | mid o l => obtain ⟨c, h1, h2, h3⟩ := this; exact ⟨c, h1, h2.grow _, h3⟩
 | asked a k l => obtain ⟨g1, g2, c, h1, h2, h3⟩ := this; exact ⟨g1, g2, c, h1, h2.grow _, h3⟩
 | begun a k l b =>
  obtain ⟨g1, g2, c, h1, h2, h3, h4, h5, h6, h7, h8, h9, h10, now, h11⟩ := this
  exact ⟨g1, g2, c, h1, h2.grow _, h3, h4, h5, h6, h7, h8, by simp; omega, h10, now, getE_append h11⟩
def playA (M : MD) (t now : Nat) (th : ThD) : List Atom :=
 ((playO M t th).2.nts.drop th.nts).map (fun k => ⟨now, t, th.next, .note k.1⟩) ++ (match (playO M t th).1 with | none => [] | some v => [⟨now, t, th.next, .ret v.1 v.2⟩])
theorem TInv.plays {o : Op RD} {l : List Int} (h : TInv M progs H t th cs cur (.mid o l)) (now : Nat) :
 ∃ cs' cur' ph', TInv M progs (H ++ playA M t now th) t (playT M t th) cs' cur' ph' ∧ (ph' = .idle ∧ (playT M t th).st = 0 ∨ ∃ a k l', ph' = .asked a k l' ∧ (playT M t th).st = 1) := by
 obtain ⟨c, h1, h2, h3, h4, h5, h6, h7⟩ := h.stat
 have hcall : th.call = callAt progs t cs.length := by unfold ThD.call callAt; rw [h.prog, h.next]
 obtain ⟨N', e1, e2⟩ := h2.path.onT [] [] [] [] rfl
 simp only [List.nil_append, List.append_nil] at e1
 have hR : playO M t th = o.onT ⟨told c.items, l, asks c.items, N'⟩ := by
  unfold playO; rw [hcall, h6, h5]; exact e1
 have hlen : N'.length = th.nts := by rw [h7, ← e2, List.length_map]
 rw [onT_head] at hR
 have hnotes := h.notes now
 obtain ⟨⟨hd, l2, ks⟩, hh⟩ : ∃ q, o.head l = q := ⟨_, rfl⟩
 rw [show (⟨told c.items, l, asks c.items, N'⟩ : TS).loc = l from rfl, hh] at hR
 rw [hh] at hnotes
 obtain ⟨cur1, hT⟩ := hnotes
 have hdrop : ∀ z : Int, ((N' ++ ks.map fun k => (k, z)).drop th.nts).map (fun k => (⟨now, t, th.next, .note k.1⟩ : Atom)) = ks.map fun k => ⟨now, t, th.next, .note k⟩ := fun z => by
  rw [← hlen, List.drop_left, List.map_map]; rfl
 cases hd with
 | done v =>
  have hR2 : playO M t th = (some v, ⟨told c.items, l2, asks c.items, N' ++ ks.map fun k => (k, ((asks c.items).length : Int))⟩) := hR
  have eA : playA M t now th = (ks.map fun k => (⟨now, t, th.next, .note k⟩ : Atom)) ++ [⟨now, t, th.next, .ret v.1 v.2⟩] := by
   unfold playA; rw [hR2]; dsimp only; rw [hdrop]
  have eT : playT M t th = { th with loc := shortL l2, ans := [], nts := 0, st := 0, next := th.next + 1 } := by
   unfold playT; rw [hR2]
  obtain ⟨cs', hF⟩ := hT.ret now
  rw [eA, eT, ← List.append_assoc]
  exact ⟨cs', none, .idle, hF, .inl ⟨rfl, rfl⟩⟩
 | wait a k =>
  have hn : ¬ (asks c.items).length < (told c.items).length := by rw [asks_told]; omega
  have hR2 : playO M t th = (none, ⟨told c.items, l2, asks c.items ++ [a], N' ++ ks.map fun k => (k, ((asks c.items).length : Int))⟩) := by
   rw [hR]
   show (if (asks c.items).length < (told c.items).length then _ else _) = _
   rw [if_neg hn]; rfl
  have eA : playA M t now th = (ks.map fun k => (⟨now, t, th.next, .note k⟩ : Atom)) := by
   unfold playA; rw [hR2]; dsimp only; rw [hdrop]; exact List.append_nil _
  have eT : playT M t th = { th with nts := th.nts + ks.length, acc := a, st := 1 } := by
   unfold playT; rw [hR2]; dsimp only
   have e9 : (asks c.items ++ [a]).getD ((asks c.items ++ [a]).length - 1) (0, 0, 0) = a := by
    rw [List.length_append, List.length_singleton, Nat.add_sub_cancel, List.getD_eq_getElem?_getD, List.getElem?_append_right (Nat.le_refl _), Nat.sub_self]; rfl
   rw [e9]; simp only [List.length_append, List.length_map, hlen]
  rw [eA, eT]
  exact ⟨cs, cur1, .asked a k l2, hT.ask, .inr ⟨a, k, l2, rfl, rfl⟩⟩
end
end Go.Proofs.YtpodgcpkccpnfaaGreat

