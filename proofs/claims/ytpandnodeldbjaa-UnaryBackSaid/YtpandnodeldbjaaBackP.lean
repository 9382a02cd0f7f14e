/-
  What was written is read: plainly.
-/
import Derived.Test.YtpandnodeldbjaaUnaryP
import Derived.Test.YtpandnodeldbjaaRefE
set_option linter.unusedVariables false
set_option linter.unusedSimpArgs false
namespace Go.Proofs.Ytpandnodeldbjaa
open Go.RowKit

theorem upB_put (i : Int) (up : Bool) : upB i (putV i up) = up := by
  unfold upB putV
  cases h : (i == 0) <;> cases up <;> simp
theorem putV_bit (i : Int) (up : Bool) : bitI (putV i up) = putV i up := by
  unfold bitI putV
  split <;> simp

/-- The cells, behind accesses. -/
def applyC (c : List Int) (l : List (Int × Int × Int)) : List Int := l.foldl (fun c a => c.set a.2.1.toNat a.2.2) c
theorem applyC_one (c : List Int) (l : List (Int × Int × Int)) (a : Int × Int × Int) : applyC c (l ++ [a]) = (applyC c l).set a.2.1.toNat a.2.2 := by
  unfold applyC; rw [List.foldl_append]; rfl
theorem applyC_len (c : List Int) : ∀ l, (applyC c l).length = c.length
  | [] => rfl
  | a :: l => by
    show (applyC (c.set a.2.1.toNat a.2.2) l).length = _
    rw [applyC_len, List.length_set]
theorem applyC_take (c : List Int) (l : List (Int × Int × Int)) (k : Nat) (hk : k < l.length) : applyC c (l.take (k + 1)) = (applyC c (l.take k)).set (l.getD k (0, 0, 0)).2.1.toNat (l.getD k (0, 0, 0)).2.2 := by
  rw [List.take_succ_eq_append_getElem hk, applyC_one]
  have : l.getD k (0, 0, 0) = l[k] := by rw [List.getD_eq_getElem?_getD, List.getElem?_eq_getElem hk]; rfl
  rw [this]

/-- Cells and locals agree. -/
structure Agree (c0 : List Int) (s : TS) (top : Nat) : Prop where
  eq : ∀ k : Nat, k < 256 → (applyC c0 s.acc).getD k 0 = s.get k
  acc : ∀ a ∈ s.acc, a.1 = 2 ∧ ∃ c : Nat, a.2.1 = c ∧ c ≤ top
  loc : s.loc.length ≤ 256

theorem set_ll (s : TS) (i : Nat) (v : Int) (hi : i < 256) (h : s.loc.length ≤ 256) : (s.set i v).loc.length ≤ 256 := by
  unfold TS.set
  split
  · exact h
  · split
    · split
      · exact h
      · simp; omega
    · simp; exact h
theorem put_agree (c0 : List Int) (hc : c0.length = 256) (top i : Nat) (up : Bool) (hi : i ≤ top) (ht : top ≤ 255) (s : TS) (h : Agree c0 s top) (hlt : s.acc.length < s.ans.length) :
    ∃ s1, (putO 0 0 i up).onT s = (some (), s1) ∧ s1.ans = s.ans ∧ s1.acc.length ≤ s.acc.length + 1 ∧ Agree c0 s1 top ∧ (∀ k : Nat, s1.get k = if k = i then putV i up else s.get k) := by
  unfold putO stWO
  simp only [Op.onT, Int.zero_add, putV_bit]
  by_cases hg : s.get i = putV i up
  · rw [if_pos hg]
    refine ⟨s, rfl, rfl, Nat.le_succ _, h, fun k => ?_⟩
    by_cases hk : k = i
    · rw [if_pos hk, hk, hg]
    · rw [if_neg hk]
  · rw [if_neg hg]
    simp only [Op.onT]
    rw [if_pos hlt]
    have hacc : ((s.asked (2, (i : Int), putV i up)).set i (putV i up)).acc = s.acc ++ [(2, (i : Int), putV i up)] := by rw [set_acc]; rfl
    have hget : ∀ k : Nat, ((s.asked (2, (i : Int), putV i up)).set i (putV i up)).get k = if k = i then putV i up else s.get k := by
      intro k
      rw [get_eq, if_neg (by omega), Int.toNat_natCast, set_loc _ i _ (by omega) k]
      split
      · rfl
      · rw [get_eq, if_neg (by omega), Int.toNat_natCast]; rfl
    refine ⟨_, rfl, by rw [set_ans]; rfl, by rw [hacc]; simp, ⟨fun k hk => ?_, fun a ha => ?_, set_ll _ _ _ (by omega) h.loc⟩, hget⟩
    · rw [hacc, applyC_one, hget k]
      simp only [Int.toNat_natCast]
      rw [getD_set _ _ _ _ (by rw [applyC_len, hc]; omega)]
      split
      · rfl
      · exact h.eq k hk
    · rw [hacc, List.mem_append] at ha
      rcases ha with ha | ha
      · exact h.acc a ha
      · simp only [List.mem_singleton] at ha
        subst ha
        exact ⟨rfl, i, rfl, hi⟩
theorem down_agree (c0 : List Int) (hc : c0.length = 256) (top : Nat) (ht : top ≤ 255) : ∀ (n : Nat) (s : TS), n ≤ top + 1 → Agree c0 s top → s.acc.length + n ≤ s.ans.length →
    ∃ s1, (downO 0 0 n).onT s = (some (), s1) ∧ s1.ans = s.ans ∧ s1.acc.length ≤ s.acc.length + n ∧ Agree c0 s1 top ∧ (∀ k : Nat, s1.get k = if k < n then putV k false else s.get k)
  | 0, s, hn, h, hl => ⟨s, rfl, rfl, Nat.le_refl _, h, fun k => by rw [if_neg (by omega)]⟩
  | n + 1, s, hn, h, hl => by
    obtain ⟨s1, e1, a1, l1, g1, k1⟩ := put_agree c0 hc top n false (by omega) ht s h (by omega)
    obtain ⟨s2, e2, a2, l2, g2, k2⟩ := down_agree c0 hc top ht n s1 (by omega) g1 (by rw [a1]; omega)
    refine ⟨s2, ?_, a2.trans a1, by omega, g2, fun k => ?_⟩
    · show ((putO 0 0 n false).bind fun _ => downO 0 0 n).onT s = _
      rw [onT_bind, e1]
      exact e2
    · rw [k2, k1]
      by_cases hk : k < n
      · rw [if_pos hk, if_pos (by omega)]
      · rw [if_neg hk]
        by_cases hk2 : k = n
        · rw [if_pos hk2, if_pos (by omega), hk2]
        · rw [if_neg hk2, if_neg (by omega)]
theorem look_agree (top v : Nat) (hv : v ≤ top) (ht : top ≤ 255) : ∀ (n i : Nat) (s : TS), i + n = top + 1 → i ≤ v → s.acc.length = i → s.ans.length = 256 → (∀ k : Nat, k < v → s.ans.getD k 0 = putV k false) → s.ans.getD v 0 = putV v true →
    ∃ s1, (lookO 0 top n i).onT s = (some (v : Int), s1) ∧ s1.acc.length ≤ v + 1
  | 0, i, s, hn, hi, ha, hl, h0, h1 => by omega
  | n + 1, i, s, hn, hi, ha, hl, h0, h1 => by
    have e : (lookO 0 top (n + 1) i).onT s = ((if upB i s.told = true then Op.ret (i : Int) else lookO 0 top n ((i : Int) + 1)) : Op Int).onT (s.asked (1, (i : Int), 0)) := by
      show ((stRO (0 + (i : Int))).bind fun x => _).onT s = _
      rw [Int.zero_add]
      exact if_pos (by omega)
    have ht2 : s.told = s.ans.getD i 0 := by unfold TS.told; rw [ha]
    rw [e, ht2]
    by_cases hiv : i = v
    · subst hiv
      rw [h1, upB_put, if_pos rfl]
      exact ⟨_, rfl, by simp [TS.asked]; omega⟩
    · rw [h0 i (by omega), upB_put, if_neg (by simp)]
      exact look_agree top v hv ht n (i + 1) (s.asked (1, (i : Int), 0)) (by omega) (by omega) (by simp [TS.asked]; omega) hl h0 h1

theorem shortLen_zero (l : List Int) : ∀ n k, shortLen l n ≤ k → k < n → l.getD k 0 = 0
  | 0, k, h, hk => by omega
  | n + 1, k, h, hk => by
    by_cases h0 : l.getD n 0 = 0
    · rw [shortLen_succ0 l n h0] at h
      by_cases hn : k = n
      · rw [hn]; exact h0
      · exact shortLen_zero l n k h (by omega)
    · rw [shortLen_succ1 l n h0] at h
      omega
theorem shortL_getD (l : List Int) (k : Nat) : (shortL l).getD k 0 = l.getD k 0 := by
  unfold shortL
  by_cases h : k < shortLen l l.length
  · rw [List.getD_eq_getElem?_getD, List.getD_eq_getElem?_getD, List.getElem?_take_of_lt h]
  · rw [getD_ge _ _ (by rw [List.length_take]; omega)]
    by_cases hk : k < l.length
    · exact (shortLen_zero l l.length k (by omega) hk).symm
    · exact (getD_ge l k (by omega)).symm
/-- A round of the law. -/
theorem back_round (top : Nat) (ht : top ≤ 255) (x : Int) (loc cells : List Int) (hc : cells.length = 256) (hl : loc.length ≤ 256) (heq : ∀ k : Nat, k < 256 → cells.getD k 0 = loc.getD k 0) :
    ∃ s' s2 v, clampI x 0 (clampI top 0 1099511627776) = (v : Nat) ∧ v ≤ top ∧ ((unW 0 0 top x).bind fun _ => Op.ret (0 : Int)).onT ⟨List.replicate 256 0, loc, [], []⟩ = (some 0, s') ∧ s'.acc.length ≤ v + 1 ∧
      (∀ j, j < s'.acc.length → ∃ (c : Nat) (u : Int), s'.acc.getD j (0, 0, 0) = (2, (c : Int), u) ∧ c ≤ top) ∧ (shortL s'.loc).length ≤ 256 ∧ (∀ k : Nat, k < 256 → (applyC cells s'.acc).getD k 0 = (shortL s'.loc).getD k 0) ∧
      (unR 0 top).onT ⟨applyC cells s'.acc, [], [], []⟩ = (some (v : Int), s2) ∧ s2.acc.length ≤ top + 1 := by
  have hm : mostI (top : Int) = top := by
    unfold mostI clampI
    rw [if_neg (by omega), if_neg (by omega)]
  have hm2 : clampI (top : Int) 0 1099511627776 = top := by
    unfold clampI
    rw [if_neg (by omega), if_neg (by omega)]
  have hu := unV_le top x
  rw [hm] at hu
  obtain ⟨v, hv⟩ : ∃ v : Nat, unV top x = v := ⟨(unV top x).toNat, by omega⟩
  have hv2 : clampI x 0 (top : Int) = v := by rw [← hv]; unfold unV; rw [hm]
  have hvt : v ≤ top := by omega
  have h0 : Agree cells ⟨List.replicate 256 0, loc, [], []⟩ top := ⟨fun k hk => by
    rw [get_eq, if_neg (by omega), Int.toNat_natCast]; exact heq k hk, by simp, hl⟩
  obtain ⟨s1, e1, a1, l1, g1, k1⟩ := put_agree cells hc top v true hvt ht _ h0 (by show 0 < (List.replicate 256 (0 : Int)).length; rw [List.length_replicate]; decide)
  obtain ⟨s2, e2, a2, l2, g2, k2⟩ := down_agree cells hc top ht v s1 (by omega) g1 (by rw [a1]; show _ ≤ (List.replicate 256 (0 : Int)).length; rw [List.length_replicate]; have : s1.acc.length ≤ 0 + 1 := l1; omega)
  have hcell : ∀ k : Nat, k < 256 → (applyC cells s2.acc).getD k 0 = if k < v then putV k false else if k = v then putV v true else loc.getD k 0 := by
    intro k hk
    rw [g2.eq k hk, k2, k1]
    split
    · rfl
    · split
      · rfl
      · rw [get_eq, if_neg (by omega), Int.toNat_natCast]
  obtain ⟨s3, e3, l3⟩ := look_agree top v hvt ht (top + 1) 0 ⟨applyC cells s2.acc, [], [], []⟩ (by omega) (by omega) rfl (by simp only; rw [applyC_len, hc]) (fun k hk => by rw [hcell k (by omega), if_pos hk]) (by rw [hcell v (by omega), if_neg (by omega), if_pos rfl])
  refine ⟨s2, s3, v, by rw [hm2, hv2], hvt, ?_, by have : s1.acc.length ≤ 0 + 1 := l1; omega, fun j hj => ?_, ?_, fun k hk => ?_, ?_, by omega⟩
  · rw [onT_bind]
    unfold unW
    rw [hv, Int.toNat_natCast, onT_bind, e1]
    show andT ((downO 0 0 v).onT s1) _ = _
    rw [e2]
    rfl
  · have e : s2.acc.getD j (0, 0, 0) = s2.acc[j] := by rw [List.getD_eq_getElem?_getD, List.getElem?_eq_getElem hj]; rfl
    rw [e]
    obtain ⟨h1, c, h2, h3⟩ := g2.acc _ (List.getElem_mem hj)
    refine ⟨c, s2.acc[j].2.2, ?_, h3⟩
    rw [← h1, ← h2]
  · have h4 := shortLen_le s2.loc s2.loc.length
    rw [← shortL_length] at h4
    have := g2.loc
    omega
  · rw [g2.eq k hk, get_eq, if_neg (by omega), Int.toNat_natCast, shortL_getD]
  · unfold unR
    rw [hm, Int.toNat_natCast]
    exact e3

end Go.Proofs.Ytpandnodeldbjaa
