/-
  The program's Take.
-/
import Derived.Test.YtlclijnoablejaaDoorStaI
set_option linter.unusedVariables false
set_option linter.unusedSimpArgs false
namespace Go.Proofs.YtlclijnoablejaaDoor
open Go.RowKit

def othersJ (L : List (List Int)) (me j : Nat) : List (List Int) := ((List.range j).filter (· != me)).map fun t => L.getD t []
theorem othersJ_succ (L : List (List Int)) (me j : Nat) : othersJ L me (j + 1) = if j = me then othersJ L me j else othersJ L me j ++ [L.getD j []] := by
  unfold othersJ
  rw [List.range_succ, List.filter_append, List.map_append]
  by_cases h : j = me
  · subst h; simp
  · rw [if_neg h]
    simp [h]
theorem othersJ_len (L : List (List Int)) (me : Nat) : ∀ j, (othersJ L me j).length = if me < j then j - 1 else j
  | 0 => by simp [othersJ]
  | j + 1 => by
    have ih := othersJ_len L me j
    rw [othersJ_succ]
    by_cases h : j = me
    · rw [if_pos h, ih, if_neg (by omega), if_pos (by omega)]; omega
    · rw [if_neg h, List.length_append, ih]
      by_cases h2 : me < j
      · rw [if_pos h2, if_pos (by omega)]; simp; omega
      · rw [if_neg h2, if_neg (by omega)]; simp
theorem othersJ_rowK {L : List (List Int)} {k me j : Nat} (h : ∀ r ∈ L, RowK k r) (hj : j ≤ L.length) : ∀ r ∈ othersJ L me j, RowK k r := by
  intro r hr
  unfold othersJ at hr
  obtain ⟨t, ht, rfl⟩ := List.mem_map.1 hr
  have := List.mem_range.1 (List.mem_filter.1 ht).1
  exact h _ (getD_mem (by omega))
def takeP (L : List (List Int)) (me : Nat) : List (List Int) := L.set me (overP (L.length - 1) (othersJ L me L.length))
theorem takeP_same {L : List (List Int)} {me : Nat} (h : me < L.length) : (takeP L me).getD me [] = overP (L.length - 1) (othersJ L me L.length) := by
  unfold takeP
  rw [List.getD_eq_getElem?_getD, List.getElem?_set_self h]; rfl
theorem takeP_ne {L : List (List Int)} {me k : Nat} (h : k ≠ me) : (takeP L me).getD k [] = L.getD k [] := by
  unfold takeP
  rw [List.getD_eq_getElem?_getD, List.getElem?_set_ne (fun e => h e.symm), ← List.getD_eq_getElem?_getD]
theorem fineBd_ok {L : List (List Int)} (h : fineBd L = true) : 0 < L.length ∧ L.length < 9 ∧ rowsB L ((L.length - 1 : Nat) : Int) = true := by
  unfold fineBd at h
  rw [Bool.and_eq_true, Bool.and_eq_true, decide_eq_true_eq, decide_eq_true_eq] at h
  refine ⟨h.1.1, h.1.2, ?_⟩
  rw [show ((L.length - 1 : Nat) : Int) = (L.length : Int) - 1 by omega]
  exact h.2

set_option maxRecDepth 10000 in
set_option maxHeartbeats 2000000 in
theorem take_full (L : List (List Int)) (A : Option Addr) (c me : Nat) (w : World) (hring : Ring w) (hb : BRow w A L) (hf : fineBd L = true) (hme : me < L.length) :
    Calls Tryd.prog 12 #[.slice A L.length c, .int .i64 me] w fun e w' => ∃ A2 c2, e = .returned (.tuple #[.slice A2 L.length c2, .int .i64 0]) ∧ BRow w' A2 (takeP L me) ∧ Up w w' ∧ ∀ (a : Addr) (u : Value), a.block < w.heap.size → BRow (w'.setCell a u) A2 (takeP L me) := by
  obtain ⟨hf1, hf2, hf3⟩ := fineBd_ok hf
  have HFI := Lib.hid (sfine_any L A c w (by omega) hb)
  rw [hf] at HFI
  have HTH := Lib.hid (thread_any L.length A c me w (by omega))
  rw [show threadB L.length me = true from by unfold threadB; rw [decide_eq_true (by omega), decide_eq_true (by omega)]; rfl] at HTH
  have HB := Lib.hid hb
  have HRK := Lib.hid (rowsB_rowK hf3)
  have HCL := Lib.hid (fun l A' c' W (h : RowC W A' c' l) (hl : l.length ≤ 1000000) => clone_any l A' c' W h hl)
  have HOL := Lib.hid (othersJ_len L me L.length)
  rw [if_pos hme] at HOL
  have HOV := Lib.hid (fun A' c' W (hu : Up w W) (hb' : BRow W A' (othersJ L me L.length)) => over_yes (othersJ L me L.length) A' c' (L.length - 1) W (by omega) (by rw [HOL.out]; omega) (hring.up hu) hb' (rowK_rowsB (by omega) (othersJ_rowK (rowsB_rowK hf3) (Nat.le_refl _))))
  rw [HOL.out] at HOV
  have HOS := Lib.hid (fun j => othersJ_succ L me j)
  have HOLE := Lib.hid (fun j => othersJ_len L me j)
  obtain ⟨i0, hi, hz0, hz1, hz2⟩ := iparts infoRow
  have HI := Lib.hid hi
  have HZ0 := Lib.hid hz0
  have HZ1 := Lib.hid hz1
  have HZ2 := Lib.hid hz2
  obtain ⟨n, hn⟩ : ∃ n, L.length = n := ⟨_, rfl⟩
  have HN := Lib.hid hn
  have HKE : Hid ((n : Int) - 1 = ((n - 1 : Nat) : Int)) := Lib.hid (by omega)
  rw [hn] at HFI HTH HOL HOV hme ⊢
  have hn8 : (n : Int) ≤ 8 := by omega
  have hn1 : (1 : Int) ≤ n := by omega
  have hmei : (me : Int) < n := by omega
  have hme0 : (0 : Int) ≤ me := by omega
  have HM := Lib.hid hme
  have hmk : ∀ W : World, (Instr.makeSlice 22 (.int .i64 n) (.int .i64 n)).run Tryd.prog W = .ok (.slice (some ⟨W.heap.size, 0, none⟩) n n) (W.alloc (.cells (madeCells #[.slice none 0 0] n) 31)) := fun W =>
    run_make_row' 22 31 (.slice none 0 0) 24 Tryd.underlying22 infoRow rfl .i64 .i64 n (by omega) (by omega) W
  have HU0 : Hid (Under w.heap.size (w.alloc (.cells (madeCells #[.slice none 0 0] n) 31)) (List.replicate n (.slice none 0 0)) L (fun k => k < 0 ∧ k ≠ me)) := Lib.hid ⟨by rw [← made_nils]; exact heap_alloc_new w _, by simp [HN.out], fun k _ h => absurd h.1 (Nat.not_lt_zero k)⟩
  have HUP := Lib.hid ((Up.refl w).alloc (.cells (madeCells #[.slice none 0 0] n) 31))
  clear hi hz0 hz1 hz2 hring hb hf hf1 hf2 hf3 hn hme
  go_enter Tryd.func12, Tryd.ntmps12
  go_wp2_with fail
  refine HFI.out.mono ?_
  rintro e w2 ⟨rfl, rfl⟩
  go_wp2_with fail
  refine HTH.out.mono ?_
  rintro e w2 ⟨rfl, rfl⟩
  go_wp2_with fail
  go_loopw [6, 22] (fun u x wr => ∃ (j : Nat) (ys : List Value), j ≤ n ∧ x = .int .i64 j ∧ Hid (Under w.heap.size wr ys L (fun k => k < j ∧ k ≠ me)) ∧ Hid (OwnS w wr (w.heap.size + 1) u (othersJ L me j)) ∧ Hid (ApB wr ys u.ownBlock) ∧ Hid (Up w wr)) (fun _ x _ => n - (intOf x).toNat)
  case atStart => exact ⟨0, _, by omega, rfl, HU0, Lib.hid (OwnS.nil _ _ _), Lib.hid (ApB.nils _ _ _), HUP⟩
  case round =>
    obtain ⟨j, ys, hj, rfl, HY, HO, HAP, HV⟩ := hrel
    by_cases hlt : j < n
    · have hji : (j : Int) < n := by omega
      have hj0 : (0 : Int) ≤ j := by omega
      obtain ⟨b, off, A', c', rfl, hc, hrc⟩ := HB.out j (by rw [HN.out]; exact hlt)
      have hcr := (HV.out.cell (cell_lt hc)).trans hc
      have hrl := (HRK.out _ (getD_mem (by rw [HN.out]; exact hlt))).1
      have HRC := Lib.hid hrc
      have HRL : Hid ((L.getD j []).length ≤ 1000000) := Lib.hid (by rw [hrl, HN.out]; omega)
      have HCJ := Lib.hid (fun W (hu : Up w W) => HCL.out (L.getD j []) A' c' W (hrc.up hu) HRL.out)
      clear hc hrc hrl
      by_cases hjm : j = me
      · have hjmb : ((j : Int) != (me : Int)) = false := by rw [hjm]; simp
        have HOS2 : Hid (othersJ L me (j + 1) = othersJ L me j) := Lib.hid (by rw [HOS.out, if_pos hjm])
        have HY2 := Lib.hid (HY.out.congr (done' := fun k => k < j + 1 ∧ k ≠ me) (fun k hk => by omega))
        clear hjm
        generalize (L.getD j []).length = m at *
        go_wp2_with fail
        go_roundw
        case rel => exact ⟨j + 1, ys, by omega, by go_num, HY2, by rw [HOS2.out]; exact HO, HAP, HV⟩
        case measure => simp [intOf]; omega
      · have hjmb : ((j : Int) != (me : Int)) = true := by rw [bne_iff_ne]; omega
        have HOS2 : Hid (othersJ L me (j + 1) = othersJ L me j ++ [L.getD j []]) := Lib.hid (by rw [HOS.out, if_neg hjm])
        have HOJ : Hid ((othersJ L me j).length ≤ 8) := Lib.hid (by rw [HOLE.out]; split <;> omega)
        have HJM := Lib.hid hjm
        obtain ⟨xs, ho, hso⟩ := HO.out
        have HOX := Lib.hid ho
        have HSO := Lib.hid hso
        have HLB : Hid (((othersJ L me j).length + 1) * 24 ≤ 140737488355328) := Lib.hid (by have := HOJ.out; omega)
        have HSZ : Hid (w.heap.size + 1 ≤ wr.heap.size) := Lib.hid (Array.getElem?_eq_some_iff.1 HY.out.1).1
        have HPU := Lib.hid (HSO.out.push HRC.out)
        clear ho hso hjm
        generalize hm : (L.getD j []).length = m at hcr HCJ HPU
        clear hm
        go_wp2_with (at_builtin; refine wpList_push3 (news := [.slice A' m c']) rfl (.tmp 30) (.tmp 32) 22 rfl (w.heap.size + 1) i0 (.slice none 0 0) 1 24 Tryd.underlying22 HI.out HZ0.out HZ1.out HZ2.out rfl (by decide) _ (othersJ L me j).length xs rfl HOX.out rfl rfl (by simp [Value.oneCell']) (by decide) HLB.out HSZ.out ?_; intro g6 cap6 w6 hown6 hg hor hlt6 hbl)
        have HO6 : Hid (OwnS w w6 (w.heap.size + 1) (.slice (some ⟨g6, 0, none⟩) ((othersJ L me j).length + 1) cap6) (othersJ L me (j + 1))) := Lib.hid (by
          rw [HOS2.out]
          exact ⟨xs ++ [.slice A' m c'], by rw [List.length_append]; exact hown6, HPU.out⟩)
        have HY6 : Hid (Under w.heap.size w6 ys L (fun k => k < j ∧ k ≠ me)) := Lib.hid (HY.out.grown HAP.out hg (fun e => by have := own_ge HOX.out _ e; omega))
        have HAP6 : Hid (ApB w6 ys (some g6)) := Lib.hid (HAP.out.grown hg.size hor)
        have HV6 : Hid (Up w w6) := Lib.hid (Below.trans HV.out (Below.mono hbl (Nat.le_succ _)))
        have HLT6 := Lib.hid hlt6
        clear hown6 hg hor hlt6 hbl
        go_wp2_with fail
        refine (HCJ.out w6 HV6.out).mono ?_
        rintro e w7 ⟨v7, rfl, hf7, hu7⟩
        have HY7 : Hid (Under w.heap.size w7 ys L (fun k => k < j ∧ k ≠ me)) := Lib.hid (HY6.out.up hu7)
        have HF7 : Hid (Fresh (w.heap.size + 1) w7 v7 (L.getD j [])) := Lib.hid (hf7.less (by have := HSZ.out; have := (Array.getElem?_eq_some_iff.1 HY6.out.1).1; omega))
        have HAP7 : Hid (ApB w7 (ys.set j v7) (some g6)) := Lib.hid (HAP6.out.set hu7.size hf7 HLT6.out)
        have HO7 := Lib.hid (HO6.out.up hu7)
        have HV7 := Lib.hid (HV6.out.trans hu7)
        obtain ⟨⟨d, hd⟩, hfz⟩ := HY7.out.store (j := j) (by rw [HN.out]; exact hlt)
        obtain ⟨A7, c7, rfl, -⟩ := hf7
        clear hu7
        go_wp2_with fail
        go_roundw
        case rel => exact ⟨j + 1, _, by omega, by go_num, Lib.hid (HY7.out.set (by rw [HN.out]; exact hlt) HF7.out (fun k hk => by omega)), Lib.hid (by
          obtain ⟨ys8, h8, h9⟩ := HO7.out
          exact ⟨ys8, ownsRow_setCell_below h8 (Nat.lt_succ_self _) _, h9⟩), Lib.hid (fun k b off sp n c e => by
          have := HAP7.out k b off sp n c e
          rw [size_setCell]; exact this), Lib.hid (Below.setCell HV7.out (Nat.le_refl _) _)⟩
        case measure => simp [intOf]; omega
    · obtain rfl : j = n := by omega
      clear hlt
      obtain ⟨A5, c5, hu5, hb5, hl5⟩ := HO.out.brow HV.out
      rw [HOL.out] at hu5
      subst hu5
      have HB5 := Lib.hid hb5
      have hltm := HM.out
      clear hb5 hl5
      go_wp2_with fail
      rw [HKE.out]
      refine (HOV.out A5 c5 _ HV.out HB5.out).mono ?_
      rintro e w7 ⟨v7, rfl, hf7, hl7, hu7⟩
      have HTL : Hid ((takeP L me).length = j) := Lib.hid (by unfold takeP; rw [List.length_set]; exact HN.out)
      have HY7 : Hid (Under w.heap.size w7 ys (takeP L me) (fun k => k < j ∧ k ≠ me)) := Lib.hid ((HY.out.up hu7).swap (by rw [HTL.out, HN.out]) (fun k hk => takeP_ne hk.2))
      have HF7 : Hid (Fresh (w.heap.size + 1) w7 v7 ((takeP L me).getD me [])) := Lib.hid (by
        rw [takeP_same (by rw [HN.out]; exact HM.out), HN.out]
        exact hf7.less (Array.getElem?_eq_some_iff.1 HY.out.1).1)
      have HV7 := Lib.hid (HV.out.trans hu7)
      obtain ⟨⟨d, hd⟩, hfz⟩ := HY7.out.store (j := me) (by rw [HTL.out]; exact HM.out)
      obtain ⟨A7, c7, rfl, -⟩ := hf7
      clear hu7 hl7
      go_wp2_with fail
      go_ret2
      have HUN := HY7.out.set (by rw [HTL.out]; exact HM.out) HF7.out (done' := fun k => k < j) (fun k hk => by omega)
      exact ⟨_, _, rfl, HUN.brow (fun k hk => by rw [HTL.out] at hk; exact hk), Below.setCell HV7.out (Nat.le_refl _) _, fun a u ha => (HUN.setLow ha u).brow (fun k hk => by rw [HTL.out] at hk; exact hk)⟩
theorem take_yes (L : List (List Int)) (A : Option Addr) (c me : Nat) (w : World) (hring : Ring w) (hb : BRow w A L) (hf : fineBd L = true) (hme : me < L.length) :
    Calls Tryd.prog 12 #[.slice A L.length c, .int .i64 me] w fun e w' => ∃ A2 c2, e = .returned (.tuple #[.slice A2 L.length c2, .int .i64 0]) ∧ BRow w' A2 (takeP L me) ∧ Up w w' :=
  (take_full L A c me w hring hb hf hme).mono fun e w' ⟨A2, c2, h1, h2, h3, _⟩ => ⟨A2, c2, h1, h2, h3⟩
theorem take_no (L : List (List Int)) (A : Option Addr) (c : Nat) (me : Int) (w : World) (hL : L.length ≤ 9223372036854775807) (hb : BRow w A L) (hf : fineBd L = false ∨ threadB L.length me = false) :
    Calls Tryd.prog 12 #[.slice A L.length c, .int .i64 me] w fun e w' => e = .returned (.tuple #[.slice none 0 0, .int .i64 (if fineBd L then 6 else 1)]) ∧ w = w' := by
  have HFI := Lib.hid (sfine_any L A c w hL hb)
  have HTH := Lib.hid (thread_any L.length A c me w hL)
  clear hb
  cases hff : fineBd L
  · rw [hff] at HFI
    clear hff hf HTH
    generalize L.length = n at *
    go_enter Tryd.func12, Tryd.ntmps12
    go_wp2_with fail
    refine HFI.out.mono ?_
    rintro e w2 ⟨rfl, rfl⟩
    go_wp2_with fail
    go_ret2
    exact ⟨rfl, rfl⟩
  · rw [hff] at HFI hf
    have ht := hf.resolve_left (by decide)
    rw [ht] at HTH
    clear hff hf ht
    generalize L.length = n at *
    go_enter Tryd.func12, Tryd.ntmps12
    go_wp2_with fail
    refine HFI.out.mono ?_
    rintro e w2 ⟨rfl, rfl⟩
    go_wp2_with fail
    refine HTH.out.mono ?_
    rintro e w2 ⟨rfl, rfl⟩
    go_wp2_with fail
    go_ret2
    exact ⟨rfl, rfl⟩

end Go.Proofs.YtlclijnoablejaaDoor
