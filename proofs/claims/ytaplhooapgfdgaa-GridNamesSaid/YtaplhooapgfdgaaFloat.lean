/-
  Plain facts on binary64 numbers: what comparisons, float64(n) and int(f) say of a whole number, by one scaled integer.
-/
import Derived.Laws.FloatArith
import Derived.Laws.ComplexArith
namespace Go.Proofs.Ytaplhooapgfdgaa
open Ieee

/-- The scale: every finite binary64 number is a whole multiple of one part in this many. -/
def scaleN (k : Nat) : Nat := 2 ^ k
def scale : Int := ((scaleN 1074 : Nat) : Int)
theorem scaleN_pos (k : Nat) : 0 < scaleN k := Nat.two_pow_pos k
theorem scale_pos : 0 < scale := Int.natCast_pos.2 (scaleN_pos 1074)
theorem scaleN_add (i j : Nat) : scaleN (i + j) = scaleN i * scaleN j := Nat.pow_add 2 i j
attribute [irreducible] scaleN

/-- What a datum is, in parts of the scale. -/
def dval : Datum → Option Int
  | .number s m p => some (signed s m (p + 1074).toNat)
  | _ => none

/-- What a word is, in parts of the scale. -/
def fval (b : Nat) : Option Int := dval (double.read b)

theorem signed_shift (s : Bool) (m i k : Nat) : signed s m (i + k) = signed s m i * (2 ^ k : Nat) := by
  unfold signed
  cases s <;> simp only [Nat.shiftLeft_eq, Nat.pow_add, if_true, Bool.false_eq_true, if_false] <;> rw [← Nat.mul_assoc, Int.natCast_mul (m * 2 ^ i)]
  rw [Int.neg_mul]

theorem compare_lt_ {a b : Int} (h : a < b) : compare a b = .lt := by
  show compareOfLessAndEq a b = _
  unfold compareOfLessAndEq
  rw [if_pos h]
theorem compare_eq_ {a b : Int} (h : a = b) : compare a b = .eq := by
  show compareOfLessAndEq a b = _
  unfold compareOfLessAndEq
  rw [if_neg (by omega), if_pos h]
theorem compare_gt_ {a b : Int} (h : b < a) : compare a b = .gt := by
  show compareOfLessAndEq a b = _
  unfold compareOfLessAndEq
  rw [if_neg (by omega), if_neg (by omega)]
theorem compare_mul (a b : Int) (k : Nat) (hk : 0 < k) : compare (a * k) (b * k) = compare a b := by
  have hk' : (0 : Int) < k := by omega
  rcases Int.lt_trichotomy a b with h | h | h
  · rw [compare_lt_ h, compare_lt_ (Int.mul_lt_mul_of_pos_right h hk')]
  · subst h; rw [compare_eq_ rfl, compare_eq_ rfl]
  · rw [compare_gt_ h, compare_gt_ (Int.mul_lt_mul_of_pos_right h hk')]

theorem order_numbers (s t : Bool) (m n : Nat) (i j : Int) (hi : -1074 ≤ i) (hj : -1074 ≤ j) :
    (Datum.number s m i).order (Datum.number t n j) = some (compare (signed s m (i + 1074).toNat) (signed t n (j + 1074).toNat)) := by
  unfold Datum.order
  simp only
  congr 1
  have e1 : (i + 1074).toNat = (i - min i j).toNat + (min i j + 1074).toNat := by omega
  have e2 : (j + 1074).toNat = (j - min i j).toNat + (min i j + 1074).toNat := by omega
  rw [e1, e2, signed_shift, signed_shift, compare_mul _ _ _ (Nat.two_pow_pos _)]

theorem read_place (b : Nat) (s : Bool) (m : Nat) (p : Int) (h : double.read b = .number s m p) : -1074 ≤ p := by
  have e : double.leastPlace = -1074 := by decide
  unfold Format.read at h
  simp only at h
  split at h
  · injection h with _ _ h; omega
  · split at h
    · injection h with _ _ h; omega
    · split at h <;> cases h

/-- Two words that are numbers stand as what they are does. -/
theorem order_val {a b : Nat} {x y : Int} (ha : fval a = some x) (hb : fval b = some y) : double.order a b = some (compare x y) := by
  unfold fval at ha hb
  unfold Format.order
  match hra : double.read a, hrb : double.read b with
  | .number s m i, .number t n j =>
    rw [hra] at ha; rw [hrb] at hb
    simp only [dval, Option.some.injEq] at ha hb
    subst ha; subst hb
    exact order_numbers s t m n i j (read_place a s m i hra) (read_place b t n j hrb)
  | .infinity _, _ => rw [hra] at ha; cases ha
  | .nan _ _, _ => rw [hra] at ha; cases ha
  | .number .., .infinity _ => rw [hrb] at hb; cases hb
  | .number .., .nan _ _ => rw [hrb] at hb; cases hb

theorem log2_lt53 (n : Nat) (h : n < 2 ^ 53) (h0 : n ≠ 0) : n.log2 ≤ 52 := by
  have := (Nat.log2_lt h0 (k := 53)).2 h
  omega

theorem cut_none (neg : Bool) (n : Nat) : Toward.even.cut neg n 0 = n := by
  unfold Toward.cut
  simp [Nat.shiftLeft_eq, Nat.mod_one, Nat.div_one]

/-- A word whose rung lies among the normal ones, read. -/
theorem read_normal (neg : Bool) (B kept e : Nat) (hB : double.binade = B) (sw : double.signWeight = 2048 * B) (ir : double.infRung = 2047 * B) (hB0 : 0 < B)
    (k1 : B ≤ kept) (k2 : kept < 2 * B) (he : e ≤ 2000) : double.read (double.word neg (e * B + kept)) = .number neg kept (double.leastPlace + (e : Nat)) := by
  obtain ⟨r, rfl⟩ : ∃ r, kept = B + r := ⟨kept - B, by omega⟩
  have hr : r < B := by omega
  have e0 : e * B + (B + r) = r + B * (e + 1) := by rw [Nat.mul_comm B, Nat.add_mul]; omega
  have hlt : r + B * (e + 1) < 2047 * B := by
    have : B * (e + 1) ≤ B * 2001 := Nat.mul_le_mul_left _ (by omega)
    omega
  have d : (r + B * (e + 1)) / B = e + 1 := by rw [Nat.add_mul_div_left _ _ hB0, Nat.div_eq_of_lt hr]; omega
  have m : (r + B * (e + 1)) % B = r := by rw [Nat.add_mul_mod_self_left, Nat.mod_eq_of_lt hr]
  have hge : B ≤ r + B * (e + 1) := by rw [Nat.mul_succ]; omega
  have core : ∀ (word : Nat), word % (2048 * B) = r + B * (e + 1) → (word / (2048 * B) % 2 == 1) = neg → double.read word = .number neg (B + r) (double.leastPlace + (e : Nat)) := by
    intro word hw hn
    unfold Format.read
    simp only [sw, hB, ir]
    rw [hw, hn, if_neg (by omega), if_pos hlt, d, m]
    rfl
  have hsm : r + B * (e + 1) < 2048 * B := by omega
  rw [e0]
  unfold Format.word
  rw [sw]
  cases neg
  · exact core _ (Nat.mod_eq_of_lt hsm) (by rw [if_neg (by decide), Nat.div_eq_of_lt hsm]; rfl)
  · refine core _ ?_ ?_
    · rw [if_pos rfl, Nat.add_mod_left, Nat.mod_eq_of_lt hsm]
    · rw [if_pos rfl, Nat.add_div_left _ (by omega), Nat.div_eq_of_lt hsm]; rfl

theorem word_of_nat (mag : Nat) (neg : Bool) (h0 : mag ≠ 0) (h : mag < scaleN 53) :
    ∃ (kept e : Nat), double.nearest neg mag 0 = double.word neg (e * double.binade + kept) ∧ double.binade ≤ kept ∧ kept < 2 * double.binade ∧ e ≤ 2000 ∧ 52 ≤ e ∧ kept * scaleN e = mag * scaleN 1074 := by
  have lp : double.leastPlace = -1074 := by decide
  have bi : double.binade = scaleN 52 := by unfold scaleN; rfl
  have ir : double.infRung = 2047 * scaleN 52 := by unfold scaleN; decide
  have hl : mag.log2 ≤ 52 := log2_lt53 _ (by unfold scaleN at h; exact h) h0
  have lo : scaleN mag.log2 ≤ mag := by unfold scaleN; exact Nat.log2_self_le h0
  have hi : mag < scaleN (mag.log2 + 1) := by unfold scaleN; exact Nat.lt_log2_self
  unfold Format.nearest
  rw [if_neg h0, lp]
  show ∃ kept e, _
  have hlast : max (0 + (mag.log2 : Int) - (double.fractionBits : Nat)) (-1074) = (mag.log2 : Int) - 52 := by
    show max (0 + (mag.log2 : Int) - ((52 : Nat) : Int)) (-1074) = _
    omega
  simp only
  rw [hlast]
  have e1 : (0 - ((mag.log2 : Int) - 52)).toNat = 52 - mag.log2 := by omega
  have e2 : ((mag.log2 : Int) - 52 - 0).toNat = 0 := by omega
  have e3 : ((mag.log2 : Int) - 52 - -1074).toNat = mag.log2 + 1022 := by omega
  rw [e1, e2, e3, cut_none, bi, ir]
  have hsh : mag <<< (52 - mag.log2) = mag * scaleN (52 - mag.log2) := by unfold scaleN; exact Nat.shiftLeft_eq _ _
  rw [hsh]
  generalize mag.log2 = L at *
  have p1 : scaleN L * scaleN (52 - L) = scaleN 52 := by rw [← scaleN_add]; rw [show L + (52 - L) = 52 from by omega]
  have p2 : scaleN (L + 1) * scaleN (52 - L) = 2 * scaleN 52 := by
    rw [← p1, scaleN_add, show scaleN 1 = 2 from by unfold scaleN; rfl]
    rw [Nat.mul_right_comm, Nat.mul_comm _ 2]
  have k1 : scaleN 52 ≤ mag * scaleN (52 - L) := by rw [← p1]; exact Nat.mul_le_mul_right _ lo
  have k2 : mag * scaleN (52 - L) < 2 * scaleN 52 := by rw [← p2]; exact Nat.mul_lt_mul_of_pos_right hi (scaleN_pos _)
  have big : mag * scaleN (52 - L) * scaleN (L + 1022) = mag * scaleN 1074 := by
    rw [Nat.mul_assoc, ← scaleN_add, show 52 - L + (L + 1022) = 1074 from by omega]
  generalize scaleN 52 = B at *
  generalize mag * scaleN (52 - L) = kept at *
  refine ⟨kept, L + 1022, ?_, k1, k2, by omega, by omega, big⟩
  congr 1
  have : (L + 1022) * B ≤ 1074 * B := Nat.mul_le_mul_right _ (by omega)
  omega

/-- float64(n) is n, where n has at most 53 digits. -/
theorem fval_ofInt (n : Int) (h : n.natAbs < scaleN 53) : fval (floatOfInt .f64 n) = some (n * scale) := by
  by_cases h0 : n.natAbs = 0
  · have : n = 0 := by omega
    subst this
    rw [Int.zero_mul]
    decide
  obtain ⟨kept, e, hw, k1, k2, he, he2, hbig⟩ := word_of_nat n.natAbs (decide (n < 0)) h0 h
  unfold fval floatOfInt FloatKind.nearest FloatKind.encode
  show dval (double.read (double.nearest (decide (n < 0)) n.natAbs 0)) = _
  rw [hw, read_normal _ double.binade kept e rfl (by decide) (by decide) (by decide) k1 k2 he]
  have lp : double.leastPlace = -1074 := by decide
  simp only [dval, Option.some.injEq, lp]
  have e4 : (-1074 + (e : Int) + 1074).toNat = e := by omega
  rw [e4]
  unfold signed scale
  have hsh : kept <<< e = kept * scaleN e := by unfold scaleN; exact Nat.shiftLeft_eq _ _
  rw [hsh, hbig, Int.natCast_mul]
  generalize ((scaleN 1074 : Nat) : Int) = z
  by_cases hn : n < 0
  · have : ((n.natAbs : Nat) : Int) = -n := by omega
    rw [this, decide_eq_true hn, if_pos rfl, Int.neg_mul, Int.neg_neg]
  · have : ((n.natAbs : Nat) : Int) = n := by omega
    rw [this, decide_eq_false hn]
    rfl

/-- Cut towards zero. -/
theorem toInt_val {b : Nat} {V : Int} (h : fval b = some V) : (double.read b).toInt .zero = some (V.tdiv scale) := by
  unfold fval at h
  match hr : double.read b with
  | .infinity _ => rw [hr] at h; cases h
  | .nan _ _ => rw [hr] at h; cases h
  | .number s m p =>
    rw [hr] at h
    simp only [dval, Option.some.injEq] at h
    have hp := read_place b s m p hr
    unfold Datum.toInt Datum.integral
    simp only [Option.some.injEq]
    subst h
    have key : Toward.zero.cut s (m <<< p.toNat) (-p).toNat = (m * scaleN (p + 1074).toNat) / scaleN 1074 := by
      unfold Toward.cut
      simp only [Bool.toNat_false, Nat.add_zero]
      by_cases h0 : 0 ≤ p
      · have e1 : (-p).toNat = 0 := by omega
        have e2 : (p + 1074).toNat = p.toNat + 1074 := by omega
        rw [e1, e2, scaleN_add, ← Nat.mul_assoc, Nat.mul_div_cancel _ (scaleN_pos _)]
        simp only [Nat.zero_min]
        show m <<< p.toNat / 1 = _
        rw [Nat.div_one]
        unfold scaleN
        exact Nat.shiftLeft_eq _ _
      · have e1 : p.toNat = 0 := by omega
        rw [e1]
        have e3 : scaleN 1074 = scaleN (-p).toNat * scaleN (p + 1074).toNat := by rw [← scaleN_add, show (-p).toNat + (p + 1074).toNat = 1074 from by omega]
        rw [e3, Nat.mul_div_mul_right _ _ (scaleN_pos _)]
        have e4 : ∀ k : Nat, 1 <<< k = scaleN k := fun k => by unfold scaleN; rw [Nat.shiftLeft_eq, Nat.one_mul]
        rw [e4]
        have e5 : m <<< 0 = m := rfl
        rw [e5]
        by_cases hk : (-p).toNat ≤ m.log2 + 2
        · rw [Nat.min_eq_left hk]
        · rw [Nat.min_eq_right (by omega)]
          have hm1 : m < scaleN (m.log2 + 2) := by
            have h1 : m < 2 ^ (m.log2 + 1) := Nat.lt_log2_self
            have h2 : (2 : Nat) ^ (m.log2 + 1) ≤ 2 ^ (m.log2 + 2) := Nat.pow_le_pow_right (by decide) (by omega)
            unfold scaleN; omega
          have hm2 : m < scaleN (-p).toNat := by
            have h2 : (2 : Nat) ^ (m.log2 + 2) ≤ 2 ^ (-p).toNat := Nat.pow_le_pow_right (by decide) (by omega)
            have h3 : scaleN (m.log2 + 2) ≤ scaleN (-p).toNat := by unfold scaleN; exact h2
            omega
          rw [Nat.div_eq_of_lt hm1, Nat.div_eq_of_lt hm2]
    rw [key]
    have e6 : ∀ n k : Nat, n <<< k = n * scaleN k := fun n k => by unfold scaleN; exact Nat.shiftLeft_eq _ _
    unfold signed scale
    cases s
    · simp only [Bool.false_eq_true, if_false]
      show ((_ <<< 0 : Nat) : Int) = _
      rw [e6 m]
      rfl
    · simp only [if_true]
      rw [e6 m, Int.neg_tdiv]
      rfl

theorem not_number {b : Nat} (h : fval b = none) : (∃ s t, double.read b = .nan s t) ∨ (∃ s, double.read b = .infinity s) := by
  unfold fval at h
  match hr : double.read b with
  | .infinity s => exact .inr ⟨s, rfl⟩
  | .nan s t => exact .inl ⟨s, t, rfl⟩
  | .number .. => rw [hr] at h; cases h

theorem order_nan {a b : Nat} {s : Bool} {t : Nat} (h : double.read a = .nan s t) : double.order a b = none := by
  unfold Format.order
  rw [h]
  cases double.read b <;> rfl
theorem order_inf {a b : Nat} {s : Bool} {y : Int} (h : double.read a = .infinity s) (hb : fval b = some y) : double.order a b = some (if s then .lt else .gt) := by
  unfold Format.order
  rw [h]
  unfold fval at hb
  match hr : double.read b with
  | .infinity _ => rw [hr] at hb; cases hb
  | .nan _ _ => rw [hr] at hb; cases hb
  | .number .. => rfl

def far : Int := 1048576
def hiW : Nat := 4697254411347427328
def loW : Nat := 13920626448202203136
theorem fval_hi : fval hiW = some (1048576 * scale) := by
  rw [← fval_ofInt 1048576 (by unfold scaleN; decide)]
  rfl
theorem fval_lo : fval loW = some (-1048576 * scale) := by
  rw [← fval_ofInt (-1048576) (by unfold scaleN; decide)]
  rfl

/-- Is it one of the whole numbers from -2^20 to 2^20, and which? -/
def wh (b : Nat) : Option Int :=
  match fval b with
  | some V => if V % scale = 0 ∧ -1048576 * scale ≤ V ∧ V ≤ 1048576 * scale then some (V / scale) else none
  | none => none

theorem wh_some {b : Nat} {n : Int} (h : wh b = some n) : fval b = some (n * scale) ∧ -1048576 ≤ n ∧ n ≤ 1048576 := by
  unfold wh at h
  match hv : fval b with
  | none => rw [hv] at h; cases h
  | some V =>
    rw [hv] at h
    simp only at h
    split at h
    · rename_i hc
      injection h with h
      subst h
      have hs := scale_pos
      have hV : V / scale * scale = V := Int.ediv_mul_cancel (Int.dvd_of_emod_eq_zero hc.1)
      refine ⟨by rw [hV], ?_, ?_⟩
      · rw [Int.le_ediv_iff_mul_le hs]; exact hc.2.1
      · have : V / scale ≤ 1048576 * scale / scale := Int.ediv_le_ediv hs hc.2.2
        rwa [Int.mul_ediv_cancel _ (by omega)] at this
    · cases h

theorem wh_of {b : Nat} {n : Int} (h : fval b = some (n * scale)) (h1 : -1048576 ≤ n) (h2 : n ≤ 1048576) : wh b = some n := by
  unfold wh
  rw [h]
  simp only
  have hs := scale_pos
  rw [if_pos ⟨Int.mul_emod_left _ _, Int.mul_le_mul_of_nonneg_right h1 (by omega), Int.mul_le_mul_of_nonneg_right h2 (by omega)⟩, Int.mul_ediv_cancel _ (by omega)]

theorem wh_ofInt (n : Int) (h1 : -1048576 ≤ n) (h2 : n ≤ 1048576) : wh (floatOfInt .f64 n) = some n :=
  wh_of (fval_ofInt n (by unfold scaleN; omega)) h1 h2

/-- Not such a number: out of range, or no number, or not whole. -/
theorem wh_none {b : Nat} (h : wh b = none) : (fval b = none ∨ ∃ V, fval b = some V ∧ (V < -1048576 * scale ∨ 1048576 * scale < V)) ∨
    ∃ V, fval b = some V ∧ -1048576 * scale ≤ V ∧ V ≤ 1048576 * scale ∧ ∀ n : Int, n * scale ≠ V := by
  unfold wh at h
  match hv : fval b with
  | none => exact .inl (.inl rfl)
  | some V =>
    rw [hv] at h
    simp only at h
    split at h
    · cases h
    · rename_i hc
      by_cases h1 : -1048576 * scale ≤ V
      · by_cases h2 : V ≤ 1048576 * scale
        · refine .inr ⟨V, rfl, h1, h2, fun n hn => hc ⟨?_, h1, h2⟩⟩
          rw [← hn]; exact Int.mul_emod_left _ _
        · exact .inl (.inr ⟨V, rfl, .inr (by omega)⟩)
      · exact .inl (.inr ⟨V, rfl, .inl (by omega)⟩)

/-- The tests of 'whole' and 'part', as the walk spells them. -/
def out (b : Nat) : Prop := fval b = none ∨ ∃ V, fval b = some V ∧ (V < -1048576 * scale ∨ 1048576 * scale < V)
def inn (b : Nat) (V : Int) : Prop := fval b = some V ∧ -1048576 * scale ≤ V ∧ V ≤ 1048576 * scale

theorem geq_in {b : Nat} {V : Int} (h : inn b V) : (double.order b loW == some .gt || double.order b loW == some .eq) = true := by
  rw [order_val h.1 fval_lo]
  have := h.2.1
  rcases Int.lt_or_eq_of_le this with g | g
  · rw [compare_gt_ g]; rfl
  · rw [compare_eq_ g.symm]; rfl
theorem leq_in {b : Nat} {V : Int} (h : inn b V) : (double.order b hiW == some .lt || double.order b hiW == some .eq) = true := by
  rw [order_val h.1 fval_hi]
  rcases Int.lt_or_eq_of_le h.2.2 with g | g
  · rw [compare_lt_ g]; rfl
  · rw [compare_eq_ g]; rfl
theorem out_in {b : Nat} (h : out b) : (double.order b loW == some .gt || double.order b loW == some .eq) = false ∨
    ((double.order b loW == some .gt || double.order b loW == some .eq) = true ∧ (double.order b hiW == some .lt || double.order b hiW == some .eq) = false) := by
  have hs := scale_pos
  rcases h with h | ⟨V, h, h1 | h1⟩
  · rcases not_number h with ⟨s, t, e⟩ | ⟨s, e⟩
    · left; rw [order_nan e]; rfl
    · cases s
      · right; rw [order_inf e fval_lo, order_inf e fval_hi]; exact ⟨rfl, rfl⟩
      · left; rw [order_inf e fval_lo]; rfl
  · left; rw [order_val h fval_lo, compare_lt_ h1]; rfl
  · right
    rw [order_val h fval_lo, order_val h fval_hi, compare_gt_ h1, compare_gt_ (show -1048576 * scale < V by omega)]
    exact ⟨rfl, rfl⟩

/-- 'f != f', 'f < -2^20', 'f > 2^20'. -/
theorem self_in {b : Nat} {V : Int} (h : inn b V) : (double.order b b != some .eq) = false := by rw [order_val h.1 h.1, compare_eq_ rfl]; rfl
theorem lss_in {b : Nat} {V : Int} (h : inn b V) : (double.order b loW == some .lt) = false := by
  rw [order_val h.1 fval_lo]
  rcases Int.lt_or_eq_of_le h.2.1 with g | g
  · rw [compare_gt_ g]; rfl
  · rw [compare_eq_ g.symm]; rfl
theorem gtr_in {b : Nat} {V : Int} (h : inn b V) : (double.order b hiW == some .gt) = false := by
  rw [order_val h.1 fval_hi]
  rcases Int.lt_or_eq_of_le h.2.2 with g | g
  · rw [compare_lt_ g]; rfl
  · rw [compare_eq_ g]; rfl
theorem out_part {b : Nat} (h : out b) : (double.order b b != some .eq) = true ∨ ((double.order b b != some .eq) = false ∧ (double.order b loW == some .lt) = true) ∨
    ((double.order b b != some .eq) = false ∧ (double.order b loW == some .lt) = false ∧ (double.order b hiW == some .gt) = true) := by
  have hs := scale_pos
  rcases h with h | ⟨V, h, h1 | h1⟩
  · rcases not_number h with ⟨s, t, e⟩ | ⟨s, e⟩
    · left; rw [order_nan e]; rfl
    · have hself : double.order b b = some .eq := by
        unfold Format.order
        rw [e]
        cases s <;> rfl
      rw [hself]
      cases s
      · right; right; rw [order_inf e fval_lo, order_inf e fval_hi]; exact ⟨rfl, rfl, rfl⟩
      · right; left; rw [order_inf e fval_lo]; exact ⟨rfl, rfl⟩
  · right; left; rw [order_val h fval_lo, order_val h h, compare_lt_ h1, compare_eq_ rfl]; exact ⟨rfl, rfl⟩
  · right; right
    rw [order_val h fval_lo, order_val h fval_hi, order_val h h, compare_gt_ h1, compare_gt_ (show -1048576 * scale < V by omega), compare_eq_ (rfl : V = V)]
    exact ⟨rfl, rfl, rfl⟩

/-- 'float64(n) == f' and 'float64(n) <= f'. -/
theorem eql_in {b : Nat} {V n : Int} (h : fval b = some V) (hn : n.natAbs < scaleN 53) : (double.order (floatOfInt .f64 n) b == some .eq) = decide (n * scale = V) := by
  rw [order_val (fval_ofInt n hn) h]
  rcases Int.lt_trichotomy (n * scale) V with g | g | g
  · rw [compare_lt_ g, decide_eq_false (by omega)]; rfl
  · rw [compare_eq_ g, decide_eq_true g]; rfl
  · rw [compare_gt_ g, decide_eq_false (by omega)]; rfl
theorem leq_val {b : Nat} {V n : Int} (h : fval b = some V) (hn : n.natAbs < scaleN 53) :
    (double.order (floatOfInt .f64 n) b == some .lt || double.order (floatOfInt .f64 n) b == some .eq) = decide (n * scale ≤ V) := by
  rw [order_val (fval_ofInt n hn) h]
  rcases Int.lt_trichotomy (n * scale) V with g | g | g
  · rw [compare_lt_ g, decide_eq_true (by omega)]; rfl
  · rw [compare_eq_ g, decide_eq_true (by omega)]; rfl
  · rw [compare_gt_ g, decide_eq_false (by omega)]; rfl

/-- 'int(f)' within the range. -/
theorem toInt_in {b : Nat} {V : Int} (h : inn b V) : floatToIntVal .f64 b .i64 = some (V.tdiv scale) ∧ -1048576 ≤ V.tdiv scale ∧ V.tdiv scale ≤ 1048576 := by
  have hs := scale_pos
  obtain ⟨h0, h1, h2⟩ := h
  have hb : -1048576 ≤ V.tdiv scale ∧ V.tdiv scale ≤ 1048576 := by
    have g1 : (-1048576 * scale).tdiv scale ≤ V.tdiv scale := Int.tdiv_le_tdiv hs h1
    have g2 : V.tdiv scale ≤ (1048576 * scale).tdiv scale := Int.tdiv_le_tdiv hs h2
    rw [Int.mul_tdiv_cancel _ (by omega)] at g1 g2
    exact ⟨g1, g2⟩
  refine ⟨?_, hb⟩
  unfold floatToIntVal FloatKind.decode
  have : (FloatKind.f64.format.read b).toInt .zero = some (V.tdiv scale) := toInt_val h0
  rw [this]
  simp only
  rw [if_pos]
  have a1 : IntKind.i64.min = -9223372036854775808 := rfl
  have a2 : IntKind.i64.max = 9223372036854775807 := rfl
  omega

end Go.Proofs.Ytaplhooapgfdgaa
