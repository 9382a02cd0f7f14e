/-
  The program's new stamp: the closure that calls itself.
-/
import Derived.Test.YtlclijnoablejaaDoorStaF
set_option linter.unusedVariables false
set_option linter.unusedSimpArgs false
namespace Go.Proofs.YtlclijnoablejaaDoor
open Go.RowKit

theorem gr_mem : ∀ (L : List (List Int)) (t : List Int), gr L t ∈ t :: L
  | [], t => by simp [gr]
  | r :: L, t => by
    have h := gr_mem L (if domI r t then r else t)
    have e : gr (r :: L) t = gr L (if domI r t then r else t) := rfl
    rw [e]
    rcases List.mem_cons.1 h with h | h
    · rw [h]
      split
      · simp
      · simp
    · simp [h]
theorem gr_rowK {k : Nat} {L : List (List Int)} (h : ∀ r ∈ L, RowK k r) (h0 : 0 < L.length) : RowK k (gr L (L.headD [])) := by
  have hm := gr_mem L (L.headD [])
  cases L with
  | nil => cases h0
  | cons a L =>
    rcases List.mem_cons.1 hm with e | e
    · rw [e]; exact h a (by simp)
    · exact h _ e
theorem getD_mem {L : List (List Int)} {j : Nat} (h : j < L.length) : L.getD j [] ∈ L := by
  rw [List.getD_eq_getElem?_getD, List.getElem?_eq_getElem h]; exact List.getElem_mem _
def nearJ (L : List (List Int)) (d : Int) (j : Nat) : List (List Int) := nearL (L.take j) d
theorem nearJ_succ (L : List (List Int)) (d : Int) (j : Nat) (h : j < L.length) : nearJ L d (j + 1) = if hdR (L.getD j []) == d then nearJ L d j ++ [(L.getD j []).tail] else nearJ L d j := by
  unfold nearJ nearL
  rw [List.take_succ_eq_append_getElem h, List.filter_append, List.map_append, List.getD_eq_getElem?_getD, List.getElem?_eq_getElem h]
  by_cases hx : hdR L[j] == d
  · simp [hx]
  · simp [hx]
theorem nearJ_all (L : List (List Int)) (d : Int) : nearJ L d L.length = nearL L d := by unfold nearJ; rw [List.take_length]
theorem nearJ_len (L : List (List Int)) (d : Int) (j : Nat) : (nearJ L d j).length ≤ j := by
  unfold nearJ nearL
  rw [List.length_map]
  exact Nat.le_trans (List.length_filter_le _ _) (List.length_take_le _ _)
theorem nearL_rowK {k : Nat} {L : List (List Int)} {d : Int} (h : ∀ r ∈ L, RowK (k + 1) r) : ∀ r ∈ nearL L d, RowK k r := by
  intro r hr
  unfold nearL at hr
  obtain ⟨q, hq, rfl⟩ := List.mem_map.1 hr
  exact (h q (List.mem_filter.1 hq).1).tail.1
theorem nearL_len (L : List (List Int)) (d : Int) : (nearL L d).length ≤ L.length := by have := nearJ_len L d L.length; rw [nearJ_all] at this; exact this

/-- What a maker of a stamp leaves. -/
def OverPost (k : Nat) (r : List Int) (w : World) (e : Ending) (w' : World) : Prop := ∃ v, e = .returned v ∧ Fresh w.heap.size w' v r ∧ r.length = k ∧ Up w w'
/-- A row of one int, of the call's own. -/
theorem own_one (w : World) (x : Int) : (w.alloc (.cells #[.int .i64 x] 3)).ownsRow w.heap.size 3 1 (.slice (some ⟨w.heap.size, 0, none⟩) 1 1) 1 (icells [x]) :=
  ⟨rfl, .inr ⟨w.heap.size, 1, #[.int .i64 x], rfl, Nat.le_refl _, heap_alloc_new w _, Nat.le_refl _, by unfold maxLen; decide, rfl, rfl⟩⟩
theorem zeros_post (k : Nat) (hk : k ≤ 8) (w : World) : Calls Tryd.prog 23 #[.int .i64 k] w fun e w' => ∃ A c, e = .returned (.slice A k c) ∧ RowC w' A c (List.replicate k 0) ∧ (∀ b off sp, A = some ⟨b, off, sp⟩ → w.heap.size ≤ b ∧ b < w'.heap.size) ∧ Up w w' :=
  (zeros_any k w).mono fun e w' ⟨A, c, he, hA, hc, hlt, hr, hb⟩ => by
    have hz : zeroN k = k := by unfold zeroN; omega
    rw [hz] at he hr hc
    rw [List.length_replicate] at he hr hc
    refine ⟨A, c, he, ⟨by rw [List.length_replicate]; exact hr, by rw [List.length_replicate]; omega, by omega, fun h => by rw [hA] at h; cases h⟩, fun b off sp h => ?_, hb⟩
    rw [hA] at h
    injection h with h; injection h with h
    omega
theorem rowC_one {w : World} {k : Nat} {A : Option Addr} {c : Nat} {r : List Int} (h : RowC w A c r) (hk : r.length = k) : Row w A k (IVal r) ∧ (A = none → c = 0) ∧ ∀ u ∈ (List.range k).map (IVal r), u.oneCell' = true :=
  ⟨by rw [← hk]; exact h.row, h.nil, by rw [← hk, range_ival]; exact icells_one r⟩

theorem own_less {w : World} {B B' e size n : Nat} {v : Value} {xs : List Value} (h : w.ownsRow B e size v n xs) (hB : B' ≤ B) : w.ownsRow B' e size v n xs :=
  ⟨h.1, h.2.imp id fun ⟨g, cap, cur, a1, a2, a3⟩ => ⟨g, cap, cur, a1, Nat.le_trans hB a2, a3⟩⟩
theorem fresh_cons {w : World} {B k : Nat} {v : Value} {x : Int} {r : List Int} (hr : r.length = k) (h : w.ownsRow B 3 1 v (1 + k) (icells [x] ++ (List.range k).map (IVal r))) : Fresh B w v (x :: r) := by
  refine own_fresh ?_
  rw [show (x :: r).length = 1 + k by rw [List.length_cons, hr, Nat.add_comm], show icells (x :: r) = icells [x] ++ icells r from rfl, ← range_ival r, hr]
  exact h

set_option maxRecDepth 10000 in
set_option maxHeartbeats 1000000 in
theorem over_cl : ∀ (k : Nat) (L : List (List Int)) (A : Option Addr) (c p : Nat) (w : World), k ≤ 8 → L.length ≤ 1000000 → Ring w → BRow w A L → (∀ r ∈ L, RowK k r) →
    w.cell? ⟨p, 0, none⟩ = some (.func (.func 28) #[] #[.pointer (some ⟨p, 0, none⟩)]) →
    Calls Tryd.prog 28 #[.slice A L.length c, .int .i64 k, .pointer (some ⟨p, 0, none⟩)] w (OverPost k (overP k L) w) := by
  intro k
  induction k with
  | zero =>
    intro L A c p w hk hL hring hb hr hp
    have hz := Lib.hid (zeros_post 0 (by decide) w)
    have hl2 : (L.length : Int) ≤ 1000000 := by omega
    have he : overP 0 L = [] := rfl
    rw [he]
    clear hb hr hp hring hL he
    go_enter Tryd.func28, Tryd.ntmps28
    by_cases h0 : (L.length : Int) = 0
    · have h0b : ((L.length : Int) == 0) = true := by simpa using h0
      clear h0
      generalize L.length = n at *
      go_wp2_with fail
      refine hz.out.mono ?_
      rintro e w2 ⟨A2, c2, rfl, hr2, hb2, hu2⟩
      have HF := Lib.hid (show Fresh w.heap.size w2 (.slice A2 0 c2) [] from ⟨A2, c2, rfl, hr2, hb2⟩)
      have HU := Lib.hid hu2
      clear hr2 hb2 hu2
      go_wp2_with fail
      go_ret
      exact ⟨_, rfl, HF.out, rfl, HU.out⟩
    · have h0b : ((L.length : Int) == 0) = false := by simpa using h0
      clear h0
      generalize L.length = n at *
      go_wp2_with fail
      refine hz.out.mono ?_
      rintro e w2 ⟨A2, c2, rfl, hr2, hb2, hu2⟩
      have HF := Lib.hid (show Fresh w.heap.size w2 (.slice A2 0 c2) [] from ⟨A2, c2, rfl, hr2, hb2⟩)
      have HU := Lib.hid hu2
      clear hr2 hb2 hu2
      go_wp2_with fail
      go_ret
      exact ⟨_, rfl, HF.out, rfl, HU.out⟩
  | succ k ih =>
    intro L A c p w hk hL hring hb hr hp
    by_cases h0 : L = []
    · subst h0
      have hz := Lib.hid (zeros_post (k + 1) hk w)
      have he : overP (k + 1) [] = List.replicate (k + 1) 0 := by unfold overP; rfl
      rw [he]
      simp only [List.length_nil]
      clear hb hr hp hring hL he ih
      go_enter Tryd.func28, Tryd.ntmps28
      go_wp2_with fail
      refine hz.out.mono ?_
      rintro e w2 ⟨A2, c2, rfl, hr2, hb2, hu2⟩
      have HF := Lib.hid (show Fresh w.heap.size w2 (.slice A2 (k + 1) c2) (List.replicate (k + 1) 0) from ⟨A2, c2, by rw [List.length_replicate], hr2, hb2⟩)
      have HU := Lib.hid hu2
      clear hr2 hb2 hu2
      go_wp2_with fail
      go_ret
      exact ⟨_, rfl, HF.out, by rw [List.length_replicate], HU.out⟩
    · have hn0 : 0 < L.length := List.length_pos_iff.2 h0
      have HGR := Lib.hid (greatest_any L A c w hring (by omega) hn0 hb)
      have hgk := gr_rowK hr hn0
      have HTD : Hid (topD L = (gr L (L.headD [])).getD 0 0) := Lib.hid (by unfold topD hdR; cases gr L (L.headD []) <;> rfl)
      have HTL : Hid ((gr L (L.headD [])).length = k + 1) := Lib.hid hgk.1
      have HDD : Hid (digB (topD L) = true) := Lib.hid hgk.tail.2.2
      have HOV : Hid (overP (k + 1) L = if (nearL L (topD L)).length < k + 1 then topD L :: overP k (nearL L (topD L)) else nextI (topD L) :: List.replicate k 0) := Lib.hid (by rw [overP, if_neg h0])
      have HIH := Lib.hid (fun W A' c' (hu : Up w W) (hb' : BRow W A' (nearL L (topD L))) => ih (nearL L (topD L)) A' c' p W (by omega) (by have := nearL_len L (topD L); omega) (hring.up hu) hb' (nearL_rowK hr) ((hu.cell (cell_lt hp)).trans hp))
      have HZ := Lib.hid (fun W => zeros_post k (by omega) W)
      have HNX := Lib.hid (fun W (hu : Up w W) => next_any (topD L) W (hring.up hu))
      have HB := Lib.hid hb
      have HR := Lib.hid hr
      have HP := Lib.hid hp
      have HNL : Hid (∀ j, (nearJ L (topD L) j).length ≤ j) := Lib.hid (nearJ_len L (topD L))
      have HNA := Lib.hid (nearJ_all L (topD L))
      have HL := Lib.hid hL
      obtain ⟨i0, hi, hz0, hz1, hz2⟩ := iparts infoRow
      have HI := Lib.hid hi
      have HZ0 := Lib.hid hz0
      have HZ1 := Lib.hid hz1
      have HZ2 := Lib.hid hz2
      obtain ⟨i1, hi1, hy0, hy1, hy2⟩ := iparts infoInt
      have HI1 := Lib.hid hi1
      have HY0 := Lib.hid hy0
      have HY1 := Lib.hid hy1
      have HY2 := Lib.hid hy2
      obtain ⟨K, hK⟩ : ∃ K : Int, ((k + 1 : Nat) : Int) = K := ⟨_, rfl⟩
      rw [hK]
      have HK := Lib.hid hK
      have hK1 : 1 ≤ K := by omega
      have hK8 : K ≤ 8 := by omega
      have HKE : Hid (K - 1 = (k : Int)) := Lib.hid (by omega)
      have hKb : (K == 0) = false := by rw [beq_eq_false_iff_ne]; omega
      have hlb : ((L.length : Int) == 0) = false := by rw [beq_eq_false_iff_ne]; omega
      have hl2 : (L.length : Int) ≤ 1000000 := by omega
      rw [HTL.out] at HGR
      clear hi hz0 hz1 hz2 hi1 hy0 hy1 hy2 hgk hring hb hr hp hL ih h0 hn0 hK
      go_enter Tryd.func28, Tryd.ntmps28
      go_wp2_with fail
      refine HGR.out.mono ?_
      rintro e w2 ⟨A2, c2, rfl, hr2, hu2⟩
      obtain ⟨b2, off2, rfl, hc0⟩ := (hr2.up hu2).row 0 (by rw [HTL.out]; omega)
      have hcd : w2.cell? ⟨b2, off2, none⟩ = some (.int .i64 (topD L)) := by rw [HTD.out]; exact hc0
      have HU2 := Lib.hid hu2
      clear hr2 hu2 hc0 HTD HTL HGR
      generalize topD L = d at *
      go_wp2_with fail
      go_loopw [7, 25] (fun u x wr => ∃ j : Nat, j ≤ L.length ∧ x = .int .i64 j ∧ Hid (OwnS w wr w.heap.size u (nearJ L d j)) ∧ Hid (Up w wr)) (fun _ x _ => L.length - (intOf x).toNat)
      case atStart => exact ⟨0, by omega, rfl, Lib.hid (OwnS.nil _ _ _), HU2⟩
      case round =>
        obtain ⟨j, hj, rfl, HO, HV⟩ := hrel
        by_cases hlt : j < L.length
        · have hji : (j : Int) < L.length := by omega
          have hj0 : (0 : Int) ≤ j := by omega
          obtain ⟨b, off, A', c', rfl, hc, hrc⟩ := HB.out j hlt
          obtain ⟨hrt, hre, hrd⟩ := (HR.out _ (getD_mem hlt)).tail
          have hrl := (HR.out _ (getD_mem hlt)).1
          have HS := Lib.hid (nearJ_succ L d j hlt)
          generalize L.getD j [] = r at *
          obtain ⟨b3, off3, rfl, hc3⟩ := hrc.row 0 (by rw [hrl]; omega)
          have hc4 : wr.cell? ⟨b3, off3, none⟩ = some (.int .i64 (hdR r)) := by
            have h := (HV.out.cell (cell_lt hc3)).trans hc3
            rw [hre] at h
            exact h
          have hc5 := (HV.out.cell (cell_lt hc)).trans hc
          rw [hrl] at hc5
          have hle := hrc.le
          rw [hrl] at hle
          have HCC := Lib.hid hrc.cap
          have HRT := Lib.hid (fun A'' hA hA0 => hrc.tail (by rw [hrl]; omega) A'' hA hA0)
          have HRL : Hid (r.tail.length = k) := Lib.hid hrt.1
          clear hrc hrt hre hrd hrl hc hc3
          by_cases hx : hdR r = d
          · have HS2 : Hid (nearJ L d (j + 1) = nearJ L d j ++ [r.tail]) := Lib.hid (by rw [HS.out, beq_iff_eq.2 hx]; rfl)
            rw [hx] at hc4
            clear HS hx
            obtain ⟨xs, ho, hso⟩ := HO.out
            have HOX := Lib.hid ho
            have HSO := Lib.hid hso
            have HLB : Hid ((nearJ L d j).length + 1 ≤ maxLen ∧ ((nearJ L d j).length + 1) * 24 ≤ 140737488355328) := Lib.hid (by have := HNL.out j; have := HL.out; unfold maxLen; omega)
            have HSZ := Lib.hid HV.out.size
            clear ho hso
            by_cases hc1 : c' = 1
            · subst hc1
              go_wp2_with (at_builtin; refine wpList_push (news := [.slice (some ⟨b3, off3, none⟩) 0 0]) rfl (.tmp 34) (.tmp 37) 22 rfl w.heap.size i0 (.slice none 0 0) 1 24 Tryd.underlying22 HI.out HZ0.out HZ1.out HZ2.out rfl (by decide) _ (nearJ L d j).length xs rfl HOX.out rfl rfl (by simp [Value.oneCell']) (by decide) HLB.out.2 HSZ.out ?_; intro v' w6 hown6 hg hbl)
              have HO6 : Hid (OwnS w w6 w.heap.size v' (nearJ L d (j + 1))) := Lib.hid (by
                rw [HS2.out]
                refine ⟨xs ++ [.slice (some ⟨b3, off3, none⟩) 0 0], by rw [List.length_append]; exact hown6, ?_⟩
                have h := HSO.out.push (HRT.out (some ⟨b3, off3, none⟩) (fun h => absurd h (by decide)) (fun _ h => by cases h))
                rw [HRL.out, show k = 0 by omega] at h
                exact h)
              have HU6 := Lib.hid (show Up w w6 from Below.trans HV.out hbl)
              clear hown6 hg hbl
              go_wp2_with fail
              go_roundw
              case rel => exact ⟨j + 1, by omega, by go_num, HO6, HU6⟩
              case measure => simp [intOf]; omega
            · go_wp2_with (at_builtin; refine wpList_push (news := [.slice (some ⟨b3, off3 + 1, none⟩) k (c' - 1)]) rfl (.tmp 34) (.tmp 37) 22 rfl w.heap.size i0 (.slice none 0 0) 1 24 Tryd.underlying22 HI.out HZ0.out HZ1.out HZ2.out rfl (by decide) _ (nearJ L d j).length xs rfl HOX.out rfl rfl (by simp [Value.oneCell']) (by decide) HLB.out.2 HSZ.out ?_; intro v' w6 hown6 hg hbl)
              have HO6 : Hid (OwnS w w6 w.heap.size v' (nearJ L d (j + 1))) := Lib.hid (by
                rw [HS2.out]
                refine ⟨xs ++ [.slice (some ⟨b3, off3 + 1, none⟩) k (c' - 1)], by rw [List.length_append]; exact hown6, ?_⟩
                have h := HSO.out.push (HRT.out (some ⟨b3, off3 + 1, none⟩) (fun _ => rfl) (fun h => absurd h hc1))
                rw [HRL.out] at h
                exact h)
              have HU6 := Lib.hid (show Up w w6 from Below.trans HV.out hbl)
              clear hown6 hg hbl
              go_wp2_with fail
              go_roundw
              case rel => exact ⟨j + 1, by omega, by go_num, HO6, HU6⟩
              case measure => simp [intOf]; omega
          · have HS2 : Hid (nearJ L d (j + 1) = nearJ L d j) := Lib.hid (by rw [HS.out, beq_eq_false_iff_ne.2 hx]; rfl)
            have hxb : (hdR r == d) = false := beq_eq_false_iff_ne.2 hx
            clear HS hx
            generalize hdR r = x at *
            go_wp2_with fail
            go_roundw
            case rel => exact ⟨j + 1, by omega, by go_num, by rw [HS2.out]; exact HO, HV⟩
            case measure => simp [intOf]; omega
        · obtain rfl : j = L.length := by omega
          clear hlt
          rw [HNA.out] at HO
          have hnl := nearL_len L d
          obtain ⟨A5, c5, hu5, hb5, hl5⟩ := HO.out.brow HV.out
          subst hu5
          have HB5 := Lib.hid hb5
          have hmi : ((nearL L d).length : Int) ≤ 1000000 := by omega
          clear hnl
          by_cases hlk : (nearL L d).length < k + 1
          · have hlki : ((nearL L d).length : Int) < K := by have := HK.out; omega
            have HE : Hid (overP (k + 1) L = d :: overP k (nearL L d)) := Lib.hid (by rw [HOV.out, if_pos hlk])
            have HII := Lib.hid (fun W A' c' hu hb' => HIH.out W A' c' hu hb')
            have hpl := Nat.lt_of_lt_of_le (cell_lt HP.out) HV.out.size
            have hpc := (HV.out.cell (cell_lt HP.out)).trans HP.out
            clear hb5 hl5 hlk HOV HIH
            generalize (nearL L d).length = m at *
            go_wp2_with fail
            rw [HKE.out]
            refine (HII.out _ A5 c5 (HV.out.alloc _) (HB5.out.up ((Up.refl wr).alloc _))).mono ?_
            rintro e w3 ⟨v3, rfl, ⟨A3, c3, rfl, hr3, hb3⟩, hl3, hu3⟩
            have HR3 := Lib.hid (rowC_one hr3 hl3)
            have HL3 := Lib.hid hl3
            have HOO := Lib.hid (own_less (own_up3 (own_one wr d) hu3) HV.out.size)
            have HU3 := Lib.hid (show Up w w3 from (HV.out.alloc _).trans hu3)
            have HSZ3 := Lib.hid HU3.out.size
            have HBB : Hid ((1 + k) * 8 ≤ 140737488355328) := Lib.hid (by omega)
            rw [hl3]
            clear hr3 hb3 hl3 hu3
            generalize overP k (nearL L d) = r3 at *
            go_wp2_with (at_builtin; refine wpList_appendRow rfl (.tmp 45) (.tmp 50) 31 rfl w.heap.size 3 i1 (.int .i64 0) 8 Tryd.underlying31 HI1.out HY0.out HY1.out HY2.out rfl _ 1 (icells [d]) rfl HOO.out A3 k c3 (IVal r3) rfl HR3.out.2.1 HR3.out.1 HR3.out.2.2 (by decide) HBB.out HSZ3.out ?_; intro v6 w6 hown6 hg hbl)
            have HF6 := Lib.hid (fresh_cons HL3.out hown6)
            have HU6 := Lib.hid (show Up w w6 from Below.trans HU3.out hbl)
            clear hown6 hg hbl
            go_wp2_with fail
            go_ret
            exact ⟨_, rfl, by rw [HE.out]; exact HF6.out, by rw [HE.out, List.length_cons, HL3.out], HU6.out⟩
          · have hlki : K ≤ ((nearL L d).length : Int) := by have := HK.out; omega
            have HE : Hid (overP (k + 1) L = nextI d :: List.replicate k 0) := Lib.hid (by rw [HOV.out, if_neg hlk])
            clear hb5 hl5 hlk HOV HIH
            generalize (nearL L d).length = m at *
            go_wp2_with fail
            refine (HNX.out wr HV.out).mono ?_
            rintro e w3 ⟨rfl, rfl⟩
            go_wp2_with fail
            rw [HKE.out]
            refine (HZ.out _).mono ?_
            rintro e w3 ⟨A3, c3, rfl, hr3, hb3, hu3⟩
            have HR3 := Lib.hid (rowC_one hr3 (List.length_replicate ..))
            have HOO := Lib.hid (own_less (own_up3 (own_one wr (nextI d)) hu3) HV.out.size)
            have HU3 := Lib.hid (show Up w w3 from (HV.out.alloc _).trans hu3)
            have HSZ3 := Lib.hid HU3.out.size
            have HBB : Hid ((1 + k) * 8 ≤ 140737488355328) := Lib.hid (by omega)
            clear hr3 hb3 hu3
            go_wp2_with (at_builtin; refine wpList_appendRow rfl (.tmp 54) (.tmp 57) 31 rfl w.heap.size 3 i1 (.int .i64 0) 8 Tryd.underlying31 HI1.out HY0.out HY1.out HY2.out rfl _ 1 (icells [nextI d]) rfl HOO.out A3 k c3 (IVal (List.replicate k 0)) rfl HR3.out.2.1 HR3.out.1 HR3.out.2.2 (by decide) HBB.out HSZ3.out ?_; intro v6 w6 hown6 hg hbl)
            have HF6 := Lib.hid (fresh_cons (List.length_replicate ..) hown6)
            have HU6 := Lib.hid (show Up w w6 from Below.trans HU3.out hbl)
            clear hown6 hg hbl
            go_wp2_with fail
            go_ret
            exact ⟨_, rfl, by rw [HE.out]; exact HF6.out, by rw [HE.out, List.length_cons, List.length_replicate], HU6.out⟩

end Go.Proofs.YtlclijnoablejaaDoor
