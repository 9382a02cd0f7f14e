/-
  The document's Take.
-/
import Derived.Test.YtlclijnoablejaaDoorStaK
set_option linter.unusedVariables false
set_option linter.unusedSimpArgs false
namespace Go.Proofs.YtlclijnoablejaaDoor
open Go.RowKit

/-- A slice that reads as a row and does not lie in the block o. -/
def RowX (w : World) (v : Value) (r : List Int) (o : Option Nat) : Prop := ∃ A c, v = .slice A r.length c ∧ RowC w A c r ∧ (0 < r.length → ∀ b off sp, A = some ⟨b, off, sp⟩ → b < w.heap.size ∧ o ≠ some b)
theorem RowX.up {w w' : World} {v : Value} {r : List Int} {o : Option Nat} (h : RowX w v r o) (u : Up w w') : RowX w' v r o := by
  obtain ⟨A, c, e, hr, hb⟩ := h
  exact ⟨A, c, e, hr.up u, fun h0 b off sp ea => ⟨Nat.lt_of_lt_of_le (hb h0 b off sp ea).1 u.size, (hb h0 b off sp ea).2⟩⟩
theorem RowX.grown {w w' : World} {v : Value} {r : List Int} {o : Option Nat} {g : Nat} (h : RowX w v r o) (hg : w.grownBy w' o) (hor : o = some g ∨ w.heap.size ≤ g) : RowX w' v r (some g) := by
  obtain ⟨A, c, e, hr, hb⟩ := h
  refine ⟨A, c, e, ⟨fun k hk => ?_, hr.le, hr.cap, hr.nil⟩, fun h0 b off sp ea => ?_⟩
  · obtain ⟨b, off, ea, hc⟩ := hr.row k hk
    refine ⟨b, off, ea, ?_⟩
    rw [← hc]
    exact World.cell?_of_block (hg.block b (cell_lt hc) (fun e2 => (hb (by omega) b off none ea).2 e2.symm))
  · obtain ⟨h1, h2⟩ := hb h0 b off sp ea
    refine ⟨Nat.lt_of_lt_of_le h1 hg.size, fun e2 => ?_⟩
    injection e2 with e2
    subst e2
    rcases hor with h3 | h3
    · exact h2 h3
    · omega
theorem rowX_old {w0 w : World} {A : Option Addr} {c : Nat} {r : List Int} {o : Option Nat} (h : RowC w0 A c r) (u : Up w0 w) (ho : ∀ k, o = some k → w0.heap.size ≤ k) : RowX w (.slice A r.length c) r o := by
  refine ⟨A, c, rfl, h.up u, fun h0 b off sp ea => ?_⟩
  obtain ⟨b', off', ea', hc⟩ := h.row 0 h0
  rw [ea] at ea'
  injection ea' with ea'
  injection ea' with e1 e2 e3
  subst e1
  exact ⟨Nat.lt_of_lt_of_le (cell_lt hc) u.size, fun e => by have h2 := ho _ e; have h3 : b < w0.heap.size := cell_lt hc; omega⟩
theorem rowX_new {w w' : World} {v : Value} {r : List Int} {o : Option Nat} (h : Fresh w.heap.size w' v r) (ho : ∀ k, o = some k → k < w.heap.size) : RowX w' v r o := by
  obtain ⟨A, c, e, hr, hb⟩ := h
  exact ⟨A, c, e, hr, fun _ b off sp ea => ⟨(hb b off sp ea).2, fun e2 => by have := ho _ e2; have := (hb b off sp ea).1; omega⟩⟩
/-- A row of slices of the call's own, whose rows do not lie in it. -/
def OwnT (w : World) (B : Nat) (v : Value) (L : List (List Int)) : Prop := ∃ xs, w.ownsRow B 31 1 v L.length xs ∧ xs.length = L.length ∧ ∀ k, k < L.length → RowX w (xs.getD k (.int .i64 0)) (L.getD k []) v.ownBlock
theorem OwnT.nil (w : World) (B : Nat) : OwnT w B (.slice none 0 0) [] := ⟨[], own_nil w B _ 1, rfl, fun k hk => absurd hk (Nat.not_lt_zero k)⟩
theorem OwnT.up {w w' : World} {B : Nat} {v : Value} {L : List (List Int)} (h : OwnT w B v L) (u : Up w w') : OwnT w' B v L := by
  obtain ⟨xs, ho, hl, hx⟩ := h
  exact ⟨xs, own_up3 ho u, hl, fun k hk => (hx k hk).up u⟩
theorem OwnT.brow {w : World} {B : Nat} {v : Value} {L : List (List Int)} (h : OwnT w B v L) : ∃ A c, v = .slice A L.length c ∧ BRow w A L := by
  obtain ⟨xs, ho, hl, hx⟩ := h
  obtain ⟨A, c, e, hr, hc⟩ := own_row ho (f := fun k => xs.getD k (.int .i64 0)) (fun k hk => by rw [List.getD_eq_getElem?_getD, List.getElem?_eq_getElem (by rw [hl]; exact hk)]; rfl)
  refine ⟨A, c, e, fun k hk => ?_⟩
  obtain ⟨b, off, ea, hcell⟩ := hr k hk
  obtain ⟨A', c', h1, h2, -⟩ := hx k hk
  refine ⟨b, off, A', c', ea, ?_, h2⟩
  rw [hcell]
  show some (xs.getD k (.int .i64 0)) = _
  rw [h1]
theorem OwnT.push {w w' : World} {B g cap : Nat} {v x : Value} {L : List (List Int)} {r : List Int} {xs : List Value} (hl : xs.length = L.length) (hx : ∀ k, k < L.length → RowX w (xs.getD k (.int .i64 0)) (L.getD k []) v.ownBlock) (hr : RowX w x r v.ownBlock)
    (hg : w.grownBy w' v.ownBlock) (hor : v.ownBlock = some g ∨ w.heap.size ≤ g) (ho : w'.ownsRow B 31 1 (.slice (some ⟨g, 0, none⟩) (L.length + 1) cap) (L.length + 1) (xs ++ [x])) : OwnT w' B (.slice (some ⟨g, 0, none⟩) (L.length + 1) cap) (L ++ [r]) := by
  refine ⟨xs ++ [x], by rw [List.length_append]; exact ho, by simp [hl], fun k hk => ?_⟩
  by_cases hk2 : k < L.length
  · have e1 : (L ++ [r]).getD k [] = L.getD k [] := by rw [List.getD_eq_getElem?_getD, List.getD_eq_getElem?_getD, List.getElem?_append_left hk2]
    have e2 : (xs ++ [x]).getD k (.int .i64 0) = xs.getD k (.int .i64 0) := by rw [List.getD_eq_getElem?_getD, List.getD_eq_getElem?_getD, List.getElem?_append_left (by rw [hl]; exact hk2)]
    rw [e1, e2]
    exact (hx k hk2).grown hg hor
  · have hk3 : k = L.length := by simp at hk; omega
    subst hk3
    have e1 : (L ++ [r]).getD L.length [] = r := by simp
    have e2 : (xs ++ [x]).getD L.length (.int .i64 0) = x := by rw [← hl]; simp
    rw [e1, e2]
    exact hr.grown hg hor
theorem take_succ_getD (L : List (List Int)) (j : Nat) (h : j < L.length) : L.take (j + 1) = L.take j ++ [L.getD j []] := by
  rw [List.take_succ_eq_append_getElem h, List.getD_eq_getElem?_getD, List.getElem?_eq_getElem h]; rfl

set_option maxRecDepth 10000 in
set_option maxHeartbeats 2000000 in
theorem rtake_any (L : List (List Int)) (A : Option Addr) (c me : Nat) (w : World) (hb : BRow w A L) (hf : fineBd L = true) (hme : me < L.length) :
    Calls Tryd.prog 21 #[.slice A L.length c, .int .i64 me] w fun e w' => ∃ A2 c2, e = .returned (.slice A2 L.length c2) ∧ BRow w' A2 (takeP L me) ∧ Up w w' := by
  obtain ⟨hf1, hf2, hf3⟩ := fineBd_ok hf
  have HB := Lib.hid hb
  have HOL := Lib.hid (othersJ_len L me L.length)
  rw [if_pos hme] at HOL
  have HOV := Lib.hid (fun A' c' W (hb' : BRow W A' (othersJ L me L.length)) => rover_any (L.length - 1) (othersJ L me L.length) A' c' W (by omega) (by rw [HOL.out]; omega) hb' (othersJ_rowK (rowsB_rowK hf3) (Nat.le_refl _)))
  rw [HOL.out] at HOV
  have HOS := Lib.hid (fun j => othersJ_succ L me j)
  have HOLE := Lib.hid (fun j => othersJ_len L me j)
  have HTS := Lib.hid (takeP_same hme)
  have HTL0 : Hid ((takeP L me).length = L.length) := Lib.hid (by unfold takeP; rw [List.length_set])
  obtain ⟨i0, hi, hz0, hz1, hz2⟩ := iparts infoRow
  have HI := Lib.hid hi
  have HZ0 := Lib.hid hz0
  have HZ1 := Lib.hid hz1
  have HZ2 := Lib.hid hz2
  obtain ⟨n, hn⟩ : ∃ n, L.length = n := ⟨_, rfl⟩
  have HN := Lib.hid hn
  have HKE : Hid ((n : Int) - 1 = ((n - 1 : Nat) : Int)) := Lib.hid (by omega)
  rw [hn] at HOL HOV hme HTS HTL0 ⊢
  have hn8 : (n : Int) ≤ 8 := by omega
  have hn1 : (1 : Int) ≤ n := by omega
  have hmei : (me : Int) < n := by omega
  have hme0 : (0 : Int) ≤ me := by omega
  have HM := Lib.hid hme
  clear hi hz0 hz1 hz2 hb hf hf1 hf2 hf3 hn hme
  go_enter Tryd.func21, Tryd.ntmps21
  go_wp2_with fail
  go_loopw [5, 7] (fun u x wr => ∃ (j : Nat), j ≤ n ∧ x = .int .i64 j ∧ Hid (OwnS w wr w.heap.size u (othersJ L me j)) ∧ Hid (Up w wr)) (fun _ x _ => n - (intOf x).toNat)
  case atStart => exact ⟨0, by omega, rfl, Lib.hid (OwnS.nil _ _ _), Lib.hid (Up.refl _)⟩
  case round =>
    obtain ⟨j, hj, rfl, HO, HV⟩ := hrel
    by_cases hlt : j < n
    · have hji : (j : Int) < n := by omega
      have hj0 : (0 : Int) ≤ j := by omega
      obtain ⟨b, off, A', c', rfl, hc, hrc⟩ := HB.out j (by rw [HN.out]; exact hlt)
      have hcr := (HV.out.cell (cell_lt hc)).trans hc
      have HRC := Lib.hid hrc
      clear hc hrc
      by_cases hjm : j = me
      · have hjmb : ((j : Int) != (me : Int)) = false := by rw [hjm]; simp
        have HOS2 : Hid (othersJ L me (j + 1) = othersJ L me j) := Lib.hid (by rw [HOS.out, if_pos hjm])
        clear hjm
        generalize (L.getD j []).length = m at *
        go_wp2_with fail
        go_roundw
        case rel => exact ⟨j + 1, by omega, by go_num, by rw [HOS2.out]; exact HO, HV⟩
        case measure => simp [intOf]; omega
      · have hjmb : ((j : Int) != (me : Int)) = true := by rw [bne_iff_ne]; omega
        have HOS2 : Hid (othersJ L me (j + 1) = othersJ L me j ++ [L.getD j []]) := Lib.hid (by rw [HOS.out, if_neg hjm])
        have HOJ : Hid ((othersJ L me j).length ≤ 8) := Lib.hid (by rw [HOLE.out]; split <;> omega)
        obtain ⟨xs, ho, hso⟩ := HO.out
        have HOX := Lib.hid ho
        have HSO := Lib.hid hso
        have HLB : Hid (((othersJ L me j).length + 1) * 24 ≤ 140737488355328) := Lib.hid (by have := HOJ.out; omega)
        have HSZ := Lib.hid HV.out.size
        have HPU := Lib.hid (HSO.out.push HRC.out)
        clear ho hso hjm
        generalize hm : (L.getD j []).length = m at hcr HPU
        clear hm
        go_wp2_with (at_builtin; refine wpList_push3 (news := [.slice A' m c']) rfl (.tmp 18) (.tmp 23) 22 rfl w.heap.size i0 (.slice none 0 0) 1 24 Tryd.underlying22 HI.out HZ0.out HZ1.out HZ2.out rfl (by decide) _ (othersJ L me j).length xs rfl HOX.out rfl rfl (by simp [Value.oneCell']) (by decide) HLB.out HSZ.out ?_; intro g6 cap6 w6 hown6 hg hor hlt6 hbl)
        have HO6 : Hid (OwnS w w6 w.heap.size (.slice (some ⟨g6, 0, none⟩) ((othersJ L me j).length + 1) cap6) (othersJ L me (j + 1))) := Lib.hid (by
          rw [HOS2.out]
          exact ⟨xs ++ [.slice A' m c'], by rw [List.length_append]; exact hown6, HPU.out⟩)
        have HV6 : Hid (Up w w6) := Lib.hid (Below.trans HV.out hbl)
        clear hown6 hg hor hlt6 hbl
        go_wp2_with fail
        go_roundw
        case rel => exact ⟨j + 1, by omega, by go_num, HO6, HV6⟩
        case measure => simp [intOf]; omega
    · obtain rfl : j = n := by omega
      clear hlt
      obtain ⟨A5, c5, hu5, hb5, hl5⟩ := HO.out.brow HV.out
      rw [HOL.out] at hu5
      subst hu5
      have HB5 := Lib.hid hb5
      have HBW : Hid (BRow wr A L) := Lib.hid (HB.out.up HV.out)
      clear hb5 hl5 HO HB
      generalize hW5 : wr = W5 at *
      clear hW5
      have HTK := Lib.hid (fun i (h : i < j) => take_succ_getD (takeP L me) i (by rw [HTL0.out]; exact h))
      go_wp2_with fail
      go_loopw [6, 8] (fun u x wi => ∃ (i : Nat), i ≤ j ∧ x = .int .i64 i ∧ Hid (OwnT wi W5.heap.size u ((takeP L me).take i)) ∧ Hid (Up W5 wi)) (fun _ x _ => j - (intOf x).toNat)
      case atStart => exact ⟨0, by omega, rfl, Lib.hid (OwnT.nil _ _), Lib.hid (Up.refl _)⟩
      case round =>
        obtain ⟨i, hi, rfl, HO, HW⟩ := hrel
        by_cases hlt : i < j
        · have hii : (i : Int) < j := by omega
          have hi0 : (0 : Int) ≤ i := by omega
          have HK2 := Lib.hid (HTK.out i hlt)
          have hlen : ((takeP L me).take i).length = i := by rw [List.length_take, HTL0.out]; omega
          have HLN := Lib.hid hlen
          obtain ⟨xs, ho, hxl, hxx⟩ := HO.out
          rw [hlen] at ho
          have HOX := Lib.hid ho
          have HXL := Lib.hid hxl
          have HXX := Lib.hid hxx
          have HOB : Hid (∀ k, u6.ownBlock = some k → k < wr.heap.size ∧ W5.heap.size ≤ k) := Lib.hid (fun k hk => ⟨(ho.lt k hk).2, own_ge ho k hk⟩)
          have HLB : Hid ((i + 1) * 24 ≤ 140737488355328) := Lib.hid (by omega)
          have HSZ := Lib.hid HW.out.size
          clear ho hxl hxx hlen
          by_cases him : i = me
          · have himb : ((i : Int) == (me : Int)) = true := by rw [him]; simp
            have HTI : Hid ((takeP L me).getD i [] = overP (j - 1) (othersJ L me j)) := Lib.hid (by rw [him, HTS.out])
            clear him
            go_wp2_with fail
            rw [HKE.out]
            refine (HOV.out A5 c5 wr (HB5.out.up HW.out)).mono ?_
            rintro e w3 ⟨v3, rfl, hf3, hl3, hu3⟩
            have HX3 : Hid (RowX w3 v3 ((takeP L me).getD i []) u6.ownBlock) := Lib.hid (by
              rw [HTI.out]
              exact rowX_new hf3 (fun k hk => (HOB.out k hk).1))
            have HO3 := Lib.hid (own_up3 HOX.out hu3)
            have HXU : Hid (∀ k, k < i → RowX w3 (xs.getD k (.int .i64 0)) (((takeP L me).take i).getD k []) u6.ownBlock) := Lib.hid (fun k hk => (HXX.out k (by rw [HLN.out]; exact hk)).up hu3)
            have HW3 := Lib.hid (HW.out.trans hu3)
            obtain ⟨A3, c3, rfl, -⟩ := hf3
            clear hl3 hu3
            generalize (overP (j - 1) (othersJ L me j)).length = m at *
            have HSZ3 := Lib.hid HW3.out.size
            go_wp2_with (at_builtin; refine wpList_push3 (news := [.slice A3 m c3]) rfl (.tmp 34) (.tmp 40) 22 rfl W5.heap.size i0 (.slice none 0 0) 1 24 Tryd.underlying22 HI.out HZ0.out HZ1.out HZ2.out rfl (by decide) _ i xs rfl HO3.out rfl rfl (by simp [Value.oneCell']) (by decide) HLB.out HSZ3.out ?_; intro g6 cap6 w6 hown6 hg hor hlt6 hbl)
            have HO6 : Hid (OwnT w6 W5.heap.size (.slice (some ⟨g6, 0, none⟩) (i + 1) cap6) ((takeP L me).take (i + 1))) := Lib.hid (by
              rw [HK2.out]
              have h := OwnT.push (B := W5.heap.size) (cap := cap6) (L := (takeP L me).take i) HXL.out (by rw [HLN.out]; exact HXU.out) HX3.out hg hor (by rw [HLN.out]; exact hown6)
              rw [HLN.out] at h
              exact h)
            have HV6 : Hid (Up W5 w6) := Lib.hid (Below.trans HW3.out hbl)
            clear hown6 hg hor hlt6 hbl
            go_wp2_with fail
            go_roundw
            case rel => exact ⟨i + 1, by omega, by go_num, HO6, HV6⟩
            case measure => simp [intOf]; omega
          · have himb : ((i : Int) == (me : Int)) = false := by rw [beq_eq_false_iff_ne]; omega
            obtain ⟨b, off, A', c', rfl, hc, hrc⟩ := HBW.out i (by rw [HN.out]; exact hlt)
            have hcr := (HW.out.cell (cell_lt hc)).trans hc
            have HX3 : Hid (RowX wr (.slice A' (L.getD i []).length c') ((takeP L me).getD i []) u6.ownBlock) := Lib.hid (by
              rw [takeP_ne him]
              exact rowX_old hrc HW.out (fun k hk => (HOB.out k hk).2))
            clear him hc hrc
            generalize (L.getD i []).length = m at *
            go_wp2_with (at_builtin; refine wpList_push3 (news := [.slice A' m c']) rfl (.tmp 42) (.tmp 47) 22 rfl W5.heap.size i0 (.slice none 0 0) 1 24 Tryd.underlying22 HI.out HZ0.out HZ1.out HZ2.out rfl (by decide) _ i xs rfl HOX.out rfl rfl (by simp [Value.oneCell']) (by decide) HLB.out HSZ.out ?_; intro g6 cap6 w6 hown6 hg hor hlt6 hbl)
            have HO6 : Hid (OwnT w6 W5.heap.size (.slice (some ⟨g6, 0, none⟩) (i + 1) cap6) ((takeP L me).take (i + 1))) := Lib.hid (by
              rw [HK2.out]
              have h := OwnT.push (B := W5.heap.size) (cap := cap6) (L := (takeP L me).take i) HXL.out (fun k hk => HXX.out k hk) HX3.out hg hor (by rw [HLN.out]; exact hown6)
              rw [HLN.out] at h
              exact h)
            have HV6 : Hid (Up W5 w6) := Lib.hid (Below.trans HW.out hbl)
            clear hown6 hg hor hlt6 hbl
            go_wp2_with fail
            go_roundw
            case rel => exact ⟨i + 1, by omega, by go_num, HO6, HV6⟩
            case measure => simp [intOf]; omega
        · obtain rfl : i = j := by omega
          clear hlt
          obtain ⟨A6, c6, hu6, hb6⟩ := HO.out.brow
          have htk : (takeP L me).take i = takeP L me := by rw [← HTL0.out, List.take_length]
          rw [htk] at hb6
          rw [htk, HTL0.out] at hu6
          subst hu6
          have HB6 := Lib.hid hb6
          clear hb6 htk
          go_wp2_with fail
          go_ret
          exact ⟨_, _, rfl, HB6.out, HV.out.trans HW.out⟩

end Go.Proofs.YtlclijnoablejaaDoor
