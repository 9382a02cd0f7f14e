/-
  LinMany.
-/
import Derived.Test.YtpefcbmmbpcalaaDoorAlive21
set_option linter.unusedVariables false
set_option linter.unusedSimpArgs false
namespace Go.Proofs.YtpefcbmmbpcalaaDoor
open Go.RowKit

theorem infoOpL : (Tryd.prog.info? 28).map (fun i => (i.zero, i.size, i.bytes)) = some (some (.agg #[.int .i64 0, .int .i64 0, .bool false, .int .i64 0, .int .i64 0]), 5, 40) := by kernel_rfl
theorem opartsL {P : Program} {e : TypeId} {z : Value} {s b : Nat} (h : (P.info? e).map (fun i => (i.zero, i.size, i.bytes)) = some (some z, s, b)) : ∃ i, P.info? e = some i ∧ i.zero = some z ∧ i.size = s ∧ i.bytes = b := by
  cases hi : P.info? e with
  | none => rw [hi] at h; cases h
  | some i =>
    rw [hi] at h
    simp only [Option.map_some, Option.some.injEq, Prod.mk.injEq] at h
    exact ⟨i, rfl, h.1, h.2.1, h.2.2⟩
def onlyL (l : List OpD) (b : Bool) : List OpD := l.filter fun o => o.wr == b
theorem onlyL_take (l : List OpD) (b : Bool) (j : Nat) (h : j < l.length) : onlyL (l.take (j + 1)) b = if (l.getD j op0).wr == b then onlyL (l.take j) b ++ [l.getD j op0] else onlyL (l.take j) b := by
  unfold onlyL
  rw [List.take_succ_eq_append_getElem h, List.filter_append, List.getD_eq_getElem?_getD, List.getElem?_eq_getElem h]
  by_cases hx : l[j].wr == b
  · simp [hx]
  · simp [hx]
theorem onlyL_len (l : List OpD) (b : Bool) (j : Nat) : (onlyL (l.take j) b).length ≤ j := Nat.le_trans (List.length_filter_le _ _) (List.length_take_le _ _)
theorem own_less {w : World} {B B' e size n : Nat} {v : Value} {xs : List Value} (h : w.ownsRow B e size v n xs) (hB : B' ≤ B) : w.ownsRow B' e size v n xs :=
  ⟨h.1, h.2.imp id fun ⟨g, cap, cur, a1, a2, a3⟩ => ⟨g, cap, cur, a1, Nat.le_trans hB a2, a3⟩⟩
/-- The first k of all, as a set. -/
def maskN : Nat → Nat
  | 0 => 0
  | k + 1 => withN (maskN k) k
theorem maskN_has (q : Nat) : ∀ k, hasB (maskN k) q = decide (q < k)
  | 0 => by unfold maskN; rw [hasB_zero', decide_eq_false (Nat.not_lt_zero q)]
  | k + 1 => by
    unfold maskN
    rw [hasB_with, maskN_has q k]
    by_cases h : q = k
    · subst h; simp
    · rw [beq_eq_false_iff_ne.2 h, Bool.false_or]
      by_cases h2 : q < k
      · rw [decide_eq_true h2, decide_eq_true (by omega)]
      · rw [decide_eq_false h2, decide_eq_false (by omega)]
/-- The order of the beginnings, where each tells what is there. -/
theorem comp_order {l : List OpD} (hf : fineP l = true) (V : Nat → Int) (ht : ∀ i, i < l.length → tellsB (l.getD i op0) (V i) = true) (hV : ∀ i, i < l.length → afterV (l.getD i op0) (V i) = V (i + 1)) : Comp l 0 (V 0) := by
  have gen : ∀ n k, k + n = l.length → Comp l (maskN k) (V k) := by
    intro n
    induction n with
    | zero =>
      intro k hk
      refine .all _ _ (left_iff.2 fun i hi => .inr ?_)
      rw [maskN_has, decide_eq_true (by omega)]
    | succ n ih =>
      intro k hk
      have hkl : k < l.length := by omega
      refine .pick _ _ k (mayB_iff.2 ⟨hkl, ?_, fun q hq => ?_⟩) (ht k hkl) ?_
      · rw [maskN_has, decide_eq_false (Nat.lt_irrefl k)]
      · by_cases h : q < k
        · left; rw [maskN_has, decide_eq_true h]
        · exact .inr (late_not hf (by omega) hq)
      · rw [hV k hkl]
        exact ih (k + 1) (by omega)
  exact gen l.length 0 (by omega)
def manyO (i : Nat) : OpD := ⟨2 * (i : Int), 2 * (i : Int) + 1, true, 0, 0⟩
def manyL (n : Nat) : List OpD := (List.range n).map manyO
theorem manyL_len (n : Nat) : (manyL n).length = n := by simp [manyL]
theorem manyL_at {n i : Nat} (h : i < n) : (manyL n).getD i op0 = manyO i := by
  unfold manyL
  rw [List.getD_eq_getElem?_getD, List.getElem?_map, List.getElem?_range h]; rfl
theorem manyL_succ (n : Nat) : manyL (n + 1) = manyL n ++ [manyO n] := by unfold manyL; rw [List.range_succ, List.map_append]; rfl
theorem manyL_fine (n : Nat) : fineP (manyL n) = true := by
  refine fineP_all (fun i hi => ?_)
  rw [manyL_len] at hi
  unfold okOp
  rw [manyL_at hi]
  have h1 : fromJ (manyL n) i ≤ 2 * (i : Int) := by
    unfold fromJ
    split
    · omega
    · rw [manyL_at (by omega)]
      show 2 * ((i - 1 : Nat) : Int) ≤ _
      omega
  have h2 : okLast (lastOf (manyL n) (manyO i).thr i) (manyO i) = true := by
    cases i with
    | zero => rfl
    | succ j =>
      unfold lastOf
      rw [manyL_at (by omega), if_pos (show (manyO j).thr = (manyO (j + 1)).thr from rfl)]
      refine ahead_iff.2 ⟨?_, ?_⟩
      · show 2 * (j : Int) + 1 ≠ -1; omega
      · show 2 * (j : Int) + 1 < 2 * ((j + 1 : Nat) : Int); omega
  have e1 : decide ((manyO i).frm < fromJ (manyL n) i) = false := decide_eq_false (by show ¬ (2 * (i : Int) < _); omega)
  have e2 : decide ((manyO i).to < (manyO i).frm) = false := decide_eq_false (by show ¬ (2 * (i : Int) + 1 < 2 * (i : Int)); omega)
  rw [h2, e1, e2, Bool.and_false]; rfl
theorem manyL_comp (n : Nat) : Comp (manyL n) 0 0 :=
  comp_order (manyL_fine n) (fun _ => 0) (fun i hi => by rw [manyL_len] at hi; rw [manyL_at hi]; rfl) (fun i hi => by rw [manyL_len] at hi; rw [manyL_at hi]; rfl)
theorem manyL_vals (n : Nat) : ValsOk (manyL n) 0 := fun v hv => by
  rcases List.mem_cons.1 hv with e | e
  · rw [e]; decide
  · obtain ⟨o, ho, rfl⟩ := List.mem_map.1 e
    obtain ⟨i, _, rfl⟩ := List.mem_map.1 ho
    show (Lit.int .i64 0).wf = true
    decide
theorem manyL_less {w : World} {A : Option Addr} {n m : Nat} (h : OpRow w A (manyL n)) (hm : m ≤ n) : OpRow w A (manyL m) := fun k hk => by
  rw [manyL_len] at hk
  obtain ⟨b, off, e, r⟩ := h k (by rw [manyL_len]; omega)
  rw [manyL_at (by omega)] at r
  exact ⟨b, off, e, by rw [manyL_at hk]; exact r⟩
theorem own_lies {w : World} {B : Nat} {v : Value} {l : List OpD} (h : OwnO w B v l) (hl : 0 < l.length) : ∃ g cap, v = .slice (some ⟨g, 0, none⟩) l.length cap ∧ l.length ≤ cap ∧ cap ≤ 9223372036854775807 ∧ OpRow w (some ⟨g, 0, none⟩) l := by
  obtain ⟨A, cc, e, hr⟩ := OwnO.row h
  rcases h.2 with ⟨_, a2⟩ | ⟨g, cap, cur, a1, _, _, h1, h2, _⟩
  · omega
  · rw [e] at a1
    injection a1 with e1 e2 e3
    subst e1; subst e3
    exact ⟨g, cc, e, h1, h2, hr⟩

set_option maxRecDepth 10000 in
set_option maxHeartbeats 4000000 in
theorem linMany_any (n : Nat) (w : World) (hn : n ≤ 255) (hT0 : TabT w) :
    Calls Tryd.prog 6 #[.int .u8 (n : Int)] w fun e w' => e = .returned (.bool true) ∧ Up w w' := by
  have HAL := Lib.hid (fun W (u : Up w W) => alive21_any W (hT0.up u))
  obtain ⟨m, hm⟩ : ∃ m, m = n % 40 := ⟨_, rfl⟩
  have htm : Int.tmod (n : Int) 40 = (m : Int) := by rw [hm]; rfl
  have hm40 : m < 40 := by rw [hm]; exact Nat.mod_lt _ (by decide)
  have hmi : (m : Int) < 40 := by omega
  have hm0 : (0 : Int) ≤ (m : Int) := by omega
  obtain ⟨N, hN⟩ : ∃ N, N = 25 + m := ⟨_, rfl⟩
  have hNi : (25 : Int) + (m : Int) = (N : Int) := by omega
  have hN64 : N < 65 := by omega
  have hN25 : 25 ≤ N := by omega
  have hNj : (N : Int) < 65 := by omega
  have hn0 : (0 : Int) ≤ (n : Int) := by omega
  have hn1 : (n : Int) ≤ 255 := by omega
  obtain ⟨i0, hi, hz0, hz1, hz2⟩ := opartsL infoOpL
  have HI := Lib.hid hi
  have HZ0 := Lib.hid hz0
  have HZ1 := Lib.hid hz1
  have HZ2 := Lib.hid hz2
  have HT := Lib.hid hT0
  have HO0 : Hid (OwnO w w.heap.size (.slice none 0 0) (manyL 0)) := Lib.hid (World.ownsRow_nil _ _ _ _)
  have HN25 := Lib.hid hN25
  have HN64 := Lib.hid hN64
  clear hi hz0 hz1 hz2 hT0 hm hm40 hN hn hN25 hN64
  go_enter Tryd.func6, Tryd.ntmps6
  go_wp2_with fail
  go_loopw [3, 4] (fun v x wr => ∃ i : Nat, i ≤ N ∧ x = .int .i64 i ∧ Hid (OwnO wr w.heap.size v (manyL i)) ∧ Hid (Up w wr)) (fun _ x _ => N - (intOf x).toNat)
  case atStart => exact ⟨0, by omega, rfl, HO0, Lib.hid (Up.refl _)⟩
  case round =>
    obtain ⟨i, hik, rfl, HO, HV⟩ := hrel
    by_cases hlt : i < N
    · have hii : (i : Int) < (N : Int) := by omega
      have hi0 : (0 : Int) ≤ (i : Int) := by omega
      have HLT := Lib.hid hlt
      have HO1 := Lib.hid (show wr.ownsRow w.heap.size 28 5 _ i (ocells (manyL i)) from by have := HO.out; unfold OwnO at this; rw [manyL_len] at this; exact this)
      have HSZ := Lib.hid HV.out.size
      have HLB : Hid ((i + 1) * 40 ≤ 140737488355328) := Lib.hid (by have := HN64.out; omega)
      clear hlt hik
      go_wp2_with (at_builtin; refine wpList_push (news := [.int .i64 (2 * (i : Int)), .int .i64 (2 * (i : Int) + 1), .bool true, .int .i64 0, .int .i64 0]) rfl (.tmp 19) (.tmp 26) 22 rfl w.heap.size i0 (.agg #[.int .i64 0, .int .i64 0, .bool false, .int .i64 0, .int .i64 0]) 5 40 Tryd.underlying22 HI.out HZ0.out HZ1.out HZ2.out rfl (by decide) _ i (ocells (manyL i)) rfl HO1.out rfl rfl (by simp [Value.oneCell']) (by decide) HLB.out HSZ.out ?_; intro v2 w2 hown2 _ hbl2)
      have HO2 : Hid (OwnO w2 w.heap.size v2 (manyL (i + 1))) := Lib.hid (by
        unfold OwnO
        rw [manyL_len, manyL_succ, ocells_append]
        exact hown2)
      have HU2 := Lib.hid (Below.trans HV.out hbl2)
      clear hown2 hbl2
      go_wp2_with fail
      go_roundw
      case rel => exact ⟨i + 1, HLT.out, by go_num, HO2, HU2⟩
      case measure => simp [intOf]; omega
    · obtain rfl : i = N := by omega
      obtain ⟨g, cap, rfl, hcap, hcm, hrow⟩ := own_lies HO.out (by rw [manyL_len]; have := HN25.out; omega)
      have hck : checkP (manyL i) = 5 := by unfold checkP; rw [manyL_fine, if_pos rfl, manyL_len, if_pos (by have := HN25.out; omega)]
      have hck2 : checkP (manyL 24) = 0 := by unfold checkP; rw [manyL_fine, if_pos rfl, manyL_len, if_neg (by omega)]
      have HRW := Lib.hid hrow
      have HH := Lib.hid (lhas_any (manyL i) (some ⟨g, 0, none⟩) cap 0 wr (by rw [manyL_len]; omega) (HT.out.up HV.out) hrow (manyL_vals i))
      have HFD := Lib.hid (fun W (u : Up wr W) => lfind_any (manyL i) (some ⟨g, 0, none⟩) cap 0 W (by rw [manyL_len]; omega) ((HT.out.up HV.out).up u) (hrow.up u) (manyL_vals i))
      have HH2 := Lib.hid (fun W (u : Up wr W) => lhas_any (manyL 24) (some ⟨g, 0, none⟩) cap 0 W (by rw [manyL_len]; omega) ((HT.out.up HV.out).up u) ((manyL_less hrow (by have := HN25.out; omega)).up u) (manyL_vals 24))
      have HRI := Lib.hid (fun A2 c2 W (u : Up wr W) h1 h2 h3 h4 => right_any (manyL i) [] (some ⟨g, 0, none⟩) A2 cap c2 0 W (by rw [manyL_len]; omega) h1 h2 (hrow.up u) h3 h4)
      rw [hck, manyL_len] at HH HFD HRI
      rw [hck2, manyL_len] at HH2
      have HRI' : Hid (∀ A2 c2 W, Up wr W → 0 ≤ c2 → c2 ≤ 9223372036854775807 → Row W A2 0 (IVal []) → (A2 = none → c2 = 0) → Calls Tryd.prog 22 #[.slice (some ⟨g, 0, none⟩) i cap, .int .i64 0, .slice A2 0 c2] W fun e w' => e = .returned (.bool false) ∧ Up W w') := Lib.hid HRI.out
      rw [manyL_len] at hcap ⊢
      have hc24 : (24 : Int) ≤ (cap : Int) := by have := HN25.out; omega
      have hcm2 : (cap : Int) ≤ 9223372036854775807 := by omega
      have hi25 : (25 : Int) ≤ (i : Int) := by have := HN25.out; omega
      clear hlt hik hrow hck hck2 HRI hcap
      go_wp2_with fail
      refine HH.out.mono ?_
      rintro e w2 ⟨ok, rfl, hk, _, hu2⟩
      obtain rfl : ok = false := hk (by first | decide | trivial)
      have HS2 := Lib.hid hu2
      clear hk hu2 HH
      go_wp2_with fail
      refine (HFD.out _ HS2.out).mono ?_
      rintro e w3 ⟨vf, F, er, rfl, ho3, hu3, hk, _⟩
      obtain ⟨rfl, rfl⟩ := hk (by first | decide | trivial)
      obtain ⟨A3, c3, rfl, hr3, hc3, hm3, hn3⟩ := n_row2 ho3
      rw [show iL [] = [] from rfl] at hr3 hc3 ⊢
      have HR3 := Lib.hid hr3
      have HC3 := Lib.hid hc3
      have HM3 := Lib.hid hm3
      have HN3 := Lib.hid hn3
      have HS3 := Lib.hid (HS2.out.trans hu3)
      rw [show ([] : List Int).length = 0 from rfl]
      clear hk hu3 ho3 HFD hr3 hc3 hm3 hn3
      go_wp2_with fail
      refine (HH2.out _ HS3.out).mono ?_
      rintro e w4 ⟨ok, rfl, _, hk, hu4⟩
      obtain rfl : ok = true := (hk (by first | rfl | trivial)).2 (manyL_comp 24)
      have HS4 := Lib.hid (HS3.out.trans hu4)
      have HR4 := Lib.hid (HR3.out.up hu4)
      clear hk hu4 HH2
      go_wp2_with fail
      refine (HRI'.out A3 c3 _ HS4.out HC3.out HM3.out HR4.out HN3.out).mono ?_
      rintro e w5 ⟨rfl, hu5⟩
      have HU5 := Lib.hid (HV.out.trans (HS4.out.trans hu5))
      clear hu5
      go_wp2_with fail
      refine (HAL.out _ HU5.out).mono ?_
      rintro e w6 ⟨rfl, hu6⟩
      have HU6 := Lib.hid (HU5.out.trans hu6)
      clear hu6
      go_wp2_with fail
      go_ret
      exact ⟨rfl, HU6.out⟩

end Go.Proofs.YtpefcbmmbpcalaaDoor
