/-
  The one-bit lock: the walk of Acquire.
-/
import Derived.Test.YtleebaebihbcdaaOneP
import Derived.Test.YtleebaebihbcdaaBakW
set_option linter.unusedVariables false
set_option linter.unusedSimpArgs false
namespace Go.Proofs.Ytleebaebihbcdaa
open Go.RowKit

set_option maxRecDepth 10000 in
set_option maxHeartbeats 4000000 in
theorem oacquire_any (ans : List Int) (many t : Nat) (g B : Nat) (W : World) (hm : 1 ≤ many ∧ many ≤ 8) (ht : t < many) (h : Tape1 W g B ⟨ans, [], [], []⟩) :
    Calls Try.prog 56 #[.pointer (some ⟨g, 0, none⟩), .agg #[.int .i64 2, .int .i64 many, .int .i64 0, .int .i64 0, .int .i64 0, .int .i64 0], .int .i64 t] W fun e w' => ∃ r, OneR ans many t r ∧ TPost encI g B W r e w' := by
  have hb := heap_alloc_new W (.cells #[.int .i64 2, .int .i64 many, .int .i64 0, .int .i64 0, .int .i64 0, .int .i64 0] 68)
  have hu : Up W (W.alloc (.cells #[.int .i64 2, .int .i64 many, .int .i64 0, .int .i64 0, .int .i64 0, .int .i64 0] 68)) := (Up.refl W).alloc _
  have c0 := cell_of_row _ _ 0 _ _ _ hb
  have c1 := cell_of_row _ _ 1 _ _ _ hb
  have c2 := cell_of_row _ _ 2 _ _ _ hb
  have c3 := cell_of_row _ _ 3 _ _ _ hb
  have c4 := cell_of_row _ _ 4 _ _ _ hb
  have c5 := cell_of_row _ _ 5 _ _ _ hb
  simp only [List.getElem?_toArray, List.getElem?_cons_zero, List.getElem?_cons_succ] at c0 c1 c2 c3 c4 c5
  have HK1 := Lib.hid (show LkAt W g B #[.int .i64 2, .int .i64 many, .int .i64 0, .int .i64 0, .int .i64 0, .int .i64 0] _ _ from ⟨h.up hu, TK.ofUp (g := g) (B := B) hu, hb, by have := h.1.gs; omega⟩)
  have HSZ := Lib.hid (fun W' => othreads_any many 2 0 0 0 0 W' (by omega))
  clear hb hu h
  go_enter Try.func56, Try.ntmps56
  go_wp2_with fail
  refine wp_scope_frameF [7, 8, 9, 10, 11, 12, 13, 14, 15, 16, 17, 18, 19, 20, 21, 22, 23, 24, 25, 26, 27, 28, 29, 30, 31, 32, 33, 34, 35, 36, 37, 38, 39, 40, 41, 42, 43, 44, 45, 46, 47, 48, 49, 50, 51, 52, 53, 54, 55, 56, 57, 58, 59, 60, 61, 62, 63, 64, 65, 66, 67] (fun l f w' => l = 0 ∧ f 7 = .int .i64 many ∧ ∃ s, Hid (LkAt W g B #[.int .i64 2, .int .i64 many, .int .i64 0, .int .i64 0, .int .i64 0, .int .i64 0] w' s ∧ OAg ans many t s)) (fun w' => ans.length + 1 - askedN g w') ?first ?pass
  case first =>
    intro J hJ
    go_wp2_with fail
    refine (HSZ.out _).mono ?_
    rintro e w2 ⟨rfl, hu2⟩
    have HK3 := Lib.hid (HK1.out.up hu2)
    clear c0 c1 c2 c3 c4 c5 hu2 HK1
    go_wp2_with fail
    refine (note_any g B 1 ⟨ans, [], [], []⟩ _ HK3.out.tape (show 0 < 1000000 by decide)).mono ?_
    rintro e w3 ⟨rfl, h3, k3⟩
    obtain ⟨s, hs3⟩ : ∃ s, (⟨ans, [], [], []⟩ : TS).noted 1 = s := ⟨_, rfl⟩
    rw [hs3] at h3
    have HS := Lib.hid (show LkAt W g B #[.int .i64 2, .int .i64 many, .int .i64 0, .int .i64 0, .int .i64 0, .int .i64 0] w3 s ∧ OAg ans many t s from ⟨HK3.out.next h3 k3, by subst hs3; exact ⟨rfl, rfl, fun _ => rfl, fun _ => .inl rfl⟩⟩)
    clear h3 k3 hs3 HK3
    go_wp2_with fail
    refine wp_label ?_
    have c3 := cell_of_row _ _ 3 _ _ _ HS.out.1.box
    simp only [List.getElem?_toArray, List.getElem?_cons_zero, List.getElem?_cons_succ] at c3
    go_wp2_with fail
    refine (write_z g B _ _ s _ HS.out.1.tape).mono ?_
    rintro e w5 (⟨rfl, hl, ht2, hk⟩ | ⟨rfl, hl, ht2, hk⟩)
    · have HF := Lib.hid (show ∃ r, OneR ans many t r ∧ TPost encI g B W r (.panicked (stopC g)) _ from ⟨(none, s.asked (2, (t : Int), 1)), OneR.stop _ HS.out.2.an hl.out (fun z => by have h1 := HS.out.2.z z; have h2 := hl.out; rw [HS.out.2.an] at h2; have h3 := z.2; omega), TPost.none rfl ⟨rfl, ht2.out, HS.out.1.tk.trans hk.out⟩⟩)
      go_wp2_with fail
      try dsimp only [jumpsTo]
      exact ⟨rfl, HF.out⟩
    have HS5 := Lib.hid (And.intro (HS.out.1.next ht2.out hk.out) (And.intro HS.out.2.enter (show s.acc.length < (s.asked (2, (t : Int), 1)).acc.length from by rw [TS.len_asked]; omega)))
    generalize s.asked (2, (t : Int), 1) = s5 at *
    clear c3 hl ht2 hk
    go_wp2_with fail
    go_loopw [23] (fun v wr => ∃ (j : Nat) (s1 : TS), j ≤ t ∧ v = .int .i64 j ∧ Hid (LkAt W g B #[.int .i64 2, .int .i64 many, .int .i64 0, .int .i64 0, .int .i64 0, .int .i64 0] wr s1 ∧ OL1 ans many t j s1 ∧ s.acc.length < s1.acc.length)) (fun v _ => t - (intOf v).toNat)
    case atStart => exact ⟨0, s5, by omega, rfl, HS5⟩
    case round =>
      obtain ⟨j, s1, hj, rfl, H1⟩ := hrel
      have c3 := cell_of_row _ _ 3 _ _ _ H1.out.1.box
      simp only [List.getElem?_toArray, List.getElem?_cons_zero, List.getElem?_cons_succ] at c3
      by_cases hjl : j < t
      · have hji : (j : Int) < t := by omega
        go_wp2_with fail
        refine (read_z g B _ s1 _ H1.out.1.tape).mono ?_
        rintro e w6 (⟨rfl, hl, ht2, hk⟩ | ⟨rfl, hl, ht2, hk⟩)
        · have HF := Lib.hid (show ∃ r, OneR ans many t r ∧ TPost encI g B W r (.panicked (stopC g)) _ from ⟨(none, s1.asked (1, (j : Int), 0)), OneR.stop _ H1.out.2.1.an hl.out (fun z => by have h1 := H1.out.2.1.z z; have h2 := hl.out; rw [H1.out.2.1.an] at h2; have h3 := z.2; omega), TPost.none rfl ⟨rfl, ht2.out, H1.out.1.tk.trans hk.out⟩⟩)
          go_wp2_with fail
          try dsimp only [jumpsTo]
          exact ⟨rfl, HF.out⟩
        have H6 := Lib.hid (And.intro (H1.out.1.next ht2.out hk.out) (show s.acc.length < (s1.asked (1, (j : Int), 0)).acc.length from by rw [TS.len_asked]; have := H1.out.2.2; omega))
        have HA := Lib.hid (fun h0 => H1.out.2.1.next hjl ht hl.out h0)
        have HB := Lib.hid (fun h0 => H1.out.2.1.back hl.out h0)
        have c3' := cell_of_row _ _ 3 _ _ _ H6.out.1.box
        simp only [List.getElem?_toArray, List.getElem?_cons_zero, List.getElem?_cons_succ] at c3'
        clear ht2 hk hl c3
        generalize s1.told = x at *
        generalize s1.asked (1, (j : Int), 0) = s6 at *
        by_cases hx : x = 0
        · have e0 : (x == 0) = true := by rw [beq_iff_eq]; exact hx
          go_wp2_with fail
          go_roundw
          case rel => exact ⟨j + 1, s6, by omega, by go_num, Lib.hid ⟨H6.out.1, HA.out hx, H6.out.2⟩⟩
          case measure => simp [intOf]; omega
        · have e0 : (x == 0) = false := by rw [beq_eq_false_iff_ne]; exact hx
          go_wp2_with fail
          refine (write_z g B _ _ s6 _ H6.out.1.tape).mono ?_
          rintro e w7 (⟨rfl, hl, ht2, hk⟩ | ⟨rfl, hl, ht2, hk⟩)
          · have HF := Lib.hid (show ∃ r, OneR ans many t r ∧ TPost encI g B W r (.panicked (stopC g)) _ from ⟨(none, s6.asked (2, (t : Int), 0)), OneR.stop _ (HB.out hx).an hl.out (HB.out hx).z, TPost.none rfl ⟨rfl, ht2.out, H6.out.1.tk.trans hk.out⟩⟩)
            go_wp2_with fail
            try dsimp only [jumpsTo]
            exact ⟨rfl, HF.out⟩
          have H7 := Lib.hid (And.intro (H6.out.1.next ht2.out hk.out) (And.intro (HB.out hx) (show s.acc.length < (s6.asked (2, (t : Int), 0)).acc.length from by rw [TS.len_asked]; have := H6.out.2; omega)))
          clear ht2 hk hl HA HB c3' H6
          generalize s6.asked (2, (t : Int), 0) = s7 at *
          go_wp2_with fail
          go_loopw [45] (fun v wr => ∃ (s8 : TS), Hid (LkAt W g B #[.int .i64 2, .int .i64 many, .int .i64 0, .int .i64 0, .int .i64 0, .int .i64 0] wr s8 ∧ OSp ans many t s8 ∧ s.acc.length < s8.acc.length)) (fun _ wr => ans.length + 1 - askedN g wr)
          case atStart => exact ⟨s7, H7⟩
          case round =>
            obtain ⟨s8, H8⟩ := hrel
            have c3 := cell_of_row _ _ 3 _ _ _ H8.out.1.box
            simp only [List.getElem?_toArray, List.getElem?_cons_zero, List.getElem?_cons_succ] at c3
            go_wp2_with fail
            refine (read_z g B _ s8 _ H8.out.1.tape).mono ?_
            rintro e w9 (⟨rfl, hl, ht2, hk⟩ | ⟨rfl, hl, ht2, hk⟩)
            · have HF := Lib.hid (show ∃ r, OneR ans many t r ∧ TPost encI g B W r (.panicked (stopC g)) _ from ⟨(none, s8.asked (1, (j : Int), 0)), OneR.stop _ H8.out.2.1.an hl.out H8.out.2.1.z, TPost.none rfl ⟨rfl, ht2.out, H8.out.1.tk.trans hk.out⟩⟩)
              go_wp2_with fail
              try dsimp only [jumpsTo]
              exact ⟨rfl, HF.out⟩
            have H9 := Lib.hid (And.intro (H8.out.1.next ht2.out hk.out) (show s.acc.length < (s8.asked (1, (j : Int), 0)).acc.length from by rw [TS.len_asked]; have := H8.out.2.2; omega))
            have HA := Lib.hid (fun h0 => H8.out.2.1.again (j := j) h0)
            have HB := Lib.hid (H8.out.2.1.over (j := j))
            have HM9 := Lib.hid (show ans.length + 1 - askedN g w9 < ans.length + 1 - askedN g wr from by
              rw [askedN_eq ht2.out, askedN_eq H8.out.1.tape, TS.len_asked]
              have h1 := hl.out
              rw [H8.out.2.1.an] at h1
              omega)
            clear ht2 hk hl c3
            generalize s8.told = y at *
            generalize s8.asked (1, (j : Int), 0) = s9 at *
            by_cases hy : y = 0
            · have e1 : (y != 0) = false := by rw [bne_eq_false_iff_eq]; exact hy
              go_wp2_with fail
              refine wp_goto ?_
              try dsimp only [Exit.then, jumpsTo]
              exact hJ.out 0 _ _ (by unfold Only; kernel_rfl) ⟨rfl, rfl, s9, Lib.hid ⟨H9.out.1, HB.out⟩⟩
            · have e1 : (y != 0) = true := by rw [bne_iff_ne]; exact hy
              go_wp2_with fail
              go_roundw
              case rel => exact ⟨s9, Lib.hid ⟨H9.out.1, HA.out hy, H9.out.2⟩⟩
              case measure => exact HM9.out
      · obtain rfl : j = t := by omega
        clear hjl c3
        go_wp2_with fail
        refine (note_any g B 2 s1 _ H1.out.1.tape (by rw [H1.out.2.1.nts]; decide)).mono ?_
        rintro e w6 ⟨rfl, h6, k6⟩
        have H6 := Lib.hid (And.intro (H1.out.1.next h6 k6) (H1.out.2.1.over ht))
        clear h6 k6
        generalize s1.noted 2 = s6 at *
        go_wp2_with fail
        go_loopw [9] (fun v wr => ∃ (i : Nat) (s2 : TS), j + 1 ≤ i ∧ i ≤ many ∧ v = .int .i64 i ∧ Hid (LkAt W g B #[.int .i64 2, .int .i64 many, .int .i64 0, .int .i64 0, .int .i64 0, .int .i64 0] wr s2 ∧ OL2 ans many j i s2)) (fun v _ => many - (intOf v).toNat)
        case atStart => exact ⟨j + 1, s6, by omega, by omega, by go_num, H6⟩
        case round =>
          obtain ⟨i, s2, hi1, hi, rfl, H2⟩ := hrel
          by_cases hil : i < many
          · have hii : (i : Int) < many := by omega
            go_wp2_with fail
            go_loopw [65] (fun v wr => ∃ (s8 : TS), Hid (LkAt W g B #[.int .i64 2, .int .i64 many, .int .i64 0, .int .i64 0, .int .i64 0, .int .i64 0] wr s8 ∧ OL2 ans many j i s8)) (fun _ wr => ans.length + 1 - askedN g wr)
            case atStart => exact ⟨s2, H2⟩
            case round =>
              obtain ⟨s8, H8⟩ := hrel
              have c3 := cell_of_row _ _ 3 _ _ _ H8.out.1.box
              simp only [List.getElem?_toArray, List.getElem?_cons_zero, List.getElem?_cons_succ] at c3
              go_wp2_with fail
              refine (read_z g B _ s8 _ H8.out.1.tape).mono ?_
              rintro e w9 (⟨rfl, hl, ht2, hk⟩ | ⟨rfl, hl, ht2, hk⟩)
              · have HF := Lib.hid (show ∃ r, OneR ans many j r ∧ TPost encI g B W r (.panicked (stopC g)) _ from ⟨(none, s8.asked (1, (i : Int), 0)), OneR.stop _ H8.out.2.an hl.out (fun z => by have h1 := (H8.out.2.z z).1; have h2 := hl.out; rw [H8.out.2.an] at h2; have h3 := z.2; omega), TPost.none rfl ⟨rfl, ht2.out, H8.out.1.tk.trans hk.out⟩⟩)
                go_wp2_with fail
                try dsimp only [jumpsTo]
                exact ⟨rfl, HF.out⟩
              · have H9 := Lib.hid (H8.out.1.next ht2.out hk.out)
                have HA := Lib.hid (fun h0 => H8.out.2.again h0)
                have HB := Lib.hid (fun h0 => H8.out.2.next hil h0)
                have HM9 := Lib.hid (show ans.length + 1 - askedN g w9 < ans.length + 1 - askedN g wr from by
                  rw [askedN_eq ht2.out, askedN_eq H8.out.1.tape, TS.len_asked]
                  have h1 := hl.out
                  rw [H8.out.2.an] at h1
                  omega)
                clear ht2 hk hl c3
                generalize s8.told = y at *
                generalize s8.asked (1, (i : Int), 0) = s9 at *
                by_cases hy : y = 0
                · have e1 : (y != 0) = false := by rw [bne_eq_false_iff_eq]; exact hy
                  go_wp2_with fail
                  go_roundw
                  case rel => exact ⟨i + 1, s9, by omega, by omega, by go_num, Lib.hid ⟨H9.out, HB.out hy⟩⟩
                  case measure => simp [intOf]; omega
                · have e1 : (y != 0) = true := by rw [bne_iff_ne]; exact hy
                  go_wp2_with fail
                  go_roundw
                  case rel => exact ⟨s9, Lib.hid ⟨H9.out, HA.out hy⟩⟩
                  case measure => exact HM9.out
          · obtain rfl : i = many := by omega
            clear hil
            go_wp2_with fail
            refine (note_any g B 3 s2 _ H2.out.1.tape (by have := H2.out.2.nts; omega)).mono ?_
            rintro e w10 ⟨rfl, h10, k10⟩
            have HK10 := Lib.hid (H2.out.1.next h10 k10)
            have HR := Lib.hid (show OneR ans i j (some 0, s2.noted 3) from ⟨H2.out.2.an, fun e => absurd e (by simp), fun _ => ⟨rfl, by have h1 := H2.out.1.tape.2; rw [H2.out.2.an] at h1; exact h1, H2.out.2.dn, H2.out.2.z, H2.out.2.x⟩⟩)
            clear h10 k10
            go_wp2_with fail
            try dsimp only [jumpsTo]
            go_ret
            exact ⟨(some 0, s2.noted 3), HR.out, TPost.some rfl ⟨rfl, HK10.out.tape, HK10.out.tk⟩⟩
  case pass =>
    clear HK1 c0 c1 c2 c3 c4 c5
    rintro l f w' ⟨rfl, hf7, s, HS⟩
    refine ⟨_, rfl, fun J hJ => ?_⟩
    simp only [puts, List.map_cons, List.map_nil, Act.put, List.setIfInBounds_toArray, List.set_cons_zero, List.set_cons_succ]
    rw [hf7]
    have c3 := cell_of_row _ _ 3 _ _ _ HS.out.1.box
    simp only [List.getElem?_toArray, List.getElem?_cons_zero, List.getElem?_cons_succ] at c3
    go_wp2_with fail
    refine (write_z g B _ _ s _ HS.out.1.tape).mono ?_
    rintro e w5 (⟨rfl, hl, ht2, hk⟩ | ⟨rfl, hl, ht2, hk⟩)
    · have HF := Lib.hid (show ∃ r, OneR ans many t r ∧ TPost encI g B W r (.panicked (stopC g)) _ from ⟨(none, s.asked (2, (t : Int), 1)), OneR.stop _ HS.out.2.an hl.out (fun z => by have h1 := HS.out.2.z z; have h2 := hl.out; rw [HS.out.2.an] at h2; have h3 := z.2; omega), TPost.none rfl ⟨rfl, ht2.out, HS.out.1.tk.trans hk.out⟩⟩)
      go_wp2_with fail
      try dsimp only [jumpsTo]
      exact ⟨rfl, HF.out⟩
    have HS5 := Lib.hid (And.intro (HS.out.1.next ht2.out hk.out) (And.intro HS.out.2.enter (show s.acc.length < (s.asked (2, (t : Int), 1)).acc.length from by rw [TS.len_asked]; omega)))
    generalize s.asked (2, (t : Int), 1) = s5 at *
    clear c3 hl ht2 hk
    go_wp2_with fail
    go_loopw [23] (fun v wr => ∃ (j : Nat) (s1 : TS), j ≤ t ∧ v = .int .i64 j ∧ Hid (LkAt W g B #[.int .i64 2, .int .i64 many, .int .i64 0, .int .i64 0, .int .i64 0, .int .i64 0] wr s1 ∧ OL1 ans many t j s1 ∧ s.acc.length < s1.acc.length)) (fun v _ => t - (intOf v).toNat)
    case atStart => exact ⟨0, s5, by omega, rfl, HS5⟩
    case round =>
      obtain ⟨j, s1, hj, rfl, H1⟩ := hrel
      have c3 := cell_of_row _ _ 3 _ _ _ H1.out.1.box
      simp only [List.getElem?_toArray, List.getElem?_cons_zero, List.getElem?_cons_succ] at c3
      by_cases hjl : j < t
      · have hji : (j : Int) < t := by omega
        go_wp2_with fail
        refine (read_z g B _ s1 _ H1.out.1.tape).mono ?_
        rintro e w6 (⟨rfl, hl, ht2, hk⟩ | ⟨rfl, hl, ht2, hk⟩)
        · have HF := Lib.hid (show ∃ r, OneR ans many t r ∧ TPost encI g B W r (.panicked (stopC g)) _ from ⟨(none, s1.asked (1, (j : Int), 0)), OneR.stop _ H1.out.2.1.an hl.out (fun z => by have h1 := H1.out.2.1.z z; have h2 := hl.out; rw [H1.out.2.1.an] at h2; have h3 := z.2; omega), TPost.none rfl ⟨rfl, ht2.out, H1.out.1.tk.trans hk.out⟩⟩)
          go_wp2_with fail
          try dsimp only [jumpsTo]
          exact ⟨rfl, HF.out⟩
        have H6 := Lib.hid (And.intro (H1.out.1.next ht2.out hk.out) (show s.acc.length < (s1.asked (1, (j : Int), 0)).acc.length from by rw [TS.len_asked]; have := H1.out.2.2; omega))
        have HA := Lib.hid (fun h0 => H1.out.2.1.next hjl ht hl.out h0)
        have HB := Lib.hid (fun h0 => H1.out.2.1.back hl.out h0)
        have c3' := cell_of_row _ _ 3 _ _ _ H6.out.1.box
        simp only [List.getElem?_toArray, List.getElem?_cons_zero, List.getElem?_cons_succ] at c3'
        clear ht2 hk hl c3
        generalize s1.told = x at *
        generalize s1.asked (1, (j : Int), 0) = s6 at *
        by_cases hx : x = 0
        · have e0 : (x == 0) = true := by rw [beq_iff_eq]; exact hx
          go_wp2_with fail
          go_roundw
          case rel => exact ⟨j + 1, s6, by omega, by go_num, Lib.hid ⟨H6.out.1, HA.out hx, H6.out.2⟩⟩
          case measure => simp [intOf]; omega
        · have e0 : (x == 0) = false := by rw [beq_eq_false_iff_ne]; exact hx
          go_wp2_with fail
          refine (write_z g B _ _ s6 _ H6.out.1.tape).mono ?_
          rintro e w7 (⟨rfl, hl, ht2, hk⟩ | ⟨rfl, hl, ht2, hk⟩)
          · have HF := Lib.hid (show ∃ r, OneR ans many t r ∧ TPost encI g B W r (.panicked (stopC g)) _ from ⟨(none, s6.asked (2, (t : Int), 0)), OneR.stop _ (HB.out hx).an hl.out (HB.out hx).z, TPost.none rfl ⟨rfl, ht2.out, H6.out.1.tk.trans hk.out⟩⟩)
            go_wp2_with fail
            try dsimp only [jumpsTo]
            exact ⟨rfl, HF.out⟩
          have H7 := Lib.hid (And.intro (H6.out.1.next ht2.out hk.out) (And.intro (HB.out hx) (show s.acc.length < (s6.asked (2, (t : Int), 0)).acc.length from by rw [TS.len_asked]; have := H6.out.2; omega)))
          clear ht2 hk hl HA HB c3' H6
          generalize s6.asked (2, (t : Int), 0) = s7 at *
          go_wp2_with fail
          go_loopw [45] (fun v wr => ∃ (s8 : TS), Hid (LkAt W g B #[.int .i64 2, .int .i64 many, .int .i64 0, .int .i64 0, .int .i64 0, .int .i64 0] wr s8 ∧ OSp ans many t s8 ∧ s.acc.length < s8.acc.length)) (fun _ wr => ans.length + 1 - askedN g wr)
          case atStart => exact ⟨s7, H7⟩
          case round =>
            obtain ⟨s8, H8⟩ := hrel
            have c3 := cell_of_row _ _ 3 _ _ _ H8.out.1.box
            simp only [List.getElem?_toArray, List.getElem?_cons_zero, List.getElem?_cons_succ] at c3
            go_wp2_with fail
            refine (read_z g B _ s8 _ H8.out.1.tape).mono ?_
            rintro e w9 (⟨rfl, hl, ht2, hk⟩ | ⟨rfl, hl, ht2, hk⟩)
            · have HF := Lib.hid (show ∃ r, OneR ans many t r ∧ TPost encI g B W r (.panicked (stopC g)) _ from ⟨(none, s8.asked (1, (j : Int), 0)), OneR.stop _ H8.out.2.1.an hl.out H8.out.2.1.z, TPost.none rfl ⟨rfl, ht2.out, H8.out.1.tk.trans hk.out⟩⟩)
              go_wp2_with fail
              try dsimp only [jumpsTo]
              exact ⟨rfl, HF.out⟩
            have H9 := Lib.hid (And.intro (H8.out.1.next ht2.out hk.out) (show s.acc.length < (s8.asked (1, (j : Int), 0)).acc.length from by rw [TS.len_asked]; have := H8.out.2.2; omega))
            have HA := Lib.hid (fun h0 => H8.out.2.1.again (j := j) h0)
            have HB := Lib.hid (H8.out.2.1.over (j := j))
            have HM9 := Lib.hid (show ans.length + 1 - askedN g w9 < ans.length + 1 - askedN g wr from by
              rw [askedN_eq ht2.out, askedN_eq H8.out.1.tape, TS.len_asked]
              have h1 := hl.out
              rw [H8.out.2.1.an] at h1
              omega)
            clear ht2 hk hl c3
            generalize s8.told = y at *
            generalize s8.asked (1, (j : Int), 0) = s9 at *
            by_cases hy : y = 0
            · have e1 : (y != 0) = false := by rw [bne_eq_false_iff_eq]; exact hy
              go_wp2_with fail
              refine wp_goto ?_
              try dsimp only [Exit.then, jumpsTo]
              exact hJ.out 0 _ _ (by unfold Only; kernel_rfl) ⟨rfl, rfl, s9, Lib.hid ⟨H9.out.1, HB.out⟩⟩ (by show ans.length + 1 - askedN g w9 < ans.length + 1 - askedN g w'; rw [askedN_eq HS.out.1.tape, askedN_eq H9.out.1.tape]; have h1 := H9.out.2; have h2 := H9.out.1.tape.2; rw [HB.out.an] at h2; omega)
            · have e1 : (y != 0) = true := by rw [bne_iff_ne]; exact hy
              go_wp2_with fail
              go_roundw
              case rel => exact ⟨s9, Lib.hid ⟨H9.out.1, HA.out hy, H9.out.2⟩⟩
              case measure => exact HM9.out
      · obtain rfl : j = t := by omega
        clear hjl c3
        go_wp2_with fail
        refine (note_any g B 2 s1 _ H1.out.1.tape (by rw [H1.out.2.1.nts]; decide)).mono ?_
        rintro e w6 ⟨rfl, h6, k6⟩
        have H6 := Lib.hid (And.intro (H1.out.1.next h6 k6) (H1.out.2.1.over ht))
        clear h6 k6
        generalize s1.noted 2 = s6 at *
        go_wp2_with fail
        go_loopw [9] (fun v wr => ∃ (i : Nat) (s2 : TS), j + 1 ≤ i ∧ i ≤ many ∧ v = .int .i64 i ∧ Hid (LkAt W g B #[.int .i64 2, .int .i64 many, .int .i64 0, .int .i64 0, .int .i64 0, .int .i64 0] wr s2 ∧ OL2 ans many j i s2)) (fun v _ => many - (intOf v).toNat)
        case atStart => exact ⟨j + 1, s6, by omega, by omega, by go_num, H6⟩
        case round =>
          obtain ⟨i, s2, hi1, hi, rfl, H2⟩ := hrel
          by_cases hil : i < many
          · have hii : (i : Int) < many := by omega
            go_wp2_with fail
            go_loopw [65] (fun v wr => ∃ (s8 : TS), Hid (LkAt W g B #[.int .i64 2, .int .i64 many, .int .i64 0, .int .i64 0, .int .i64 0, .int .i64 0] wr s8 ∧ OL2 ans many j i s8)) (fun _ wr => ans.length + 1 - askedN g wr)
            case atStart => exact ⟨s2, H2⟩
            case round =>
              obtain ⟨s8, H8⟩ := hrel
              have c3 := cell_of_row _ _ 3 _ _ _ H8.out.1.box
              simp only [List.getElem?_toArray, List.getElem?_cons_zero, List.getElem?_cons_succ] at c3
              go_wp2_with fail
              refine (read_z g B _ s8 _ H8.out.1.tape).mono ?_
              rintro e w9 (⟨rfl, hl, ht2, hk⟩ | ⟨rfl, hl, ht2, hk⟩)
              · have HF := Lib.hid (show ∃ r, OneR ans many j r ∧ TPost encI g B W r (.panicked (stopC g)) _ from ⟨(none, s8.asked (1, (i : Int), 0)), OneR.stop _ H8.out.2.an hl.out (fun z => by have h1 := (H8.out.2.z z).1; have h2 := hl.out; rw [H8.out.2.an] at h2; have h3 := z.2; omega), TPost.none rfl ⟨rfl, ht2.out, H8.out.1.tk.trans hk.out⟩⟩)
                go_wp2_with fail
                try dsimp only [jumpsTo]
                exact ⟨rfl, HF.out⟩
              · have H9 := Lib.hid (H8.out.1.next ht2.out hk.out)
                have HA := Lib.hid (fun h0 => H8.out.2.again h0)
                have HB := Lib.hid (fun h0 => H8.out.2.next hil h0)
                have HM9 := Lib.hid (show ans.length + 1 - askedN g w9 < ans.length + 1 - askedN g wr from by
                  rw [askedN_eq ht2.out, askedN_eq H8.out.1.tape, TS.len_asked]
                  have h1 := hl.out
                  rw [H8.out.2.an] at h1
                  omega)
                clear ht2 hk hl c3
                generalize s8.told = y at *
                generalize s8.asked (1, (i : Int), 0) = s9 at *
                by_cases hy : y = 0
                · have e1 : (y != 0) = false := by rw [bne_eq_false_iff_eq]; exact hy
                  go_wp2_with fail
                  go_roundw
                  case rel => exact ⟨i + 1, s9, by omega, by omega, by go_num, Lib.hid ⟨H9.out, HB.out hy⟩⟩
                  case measure => simp [intOf]; omega
                · have e1 : (y != 0) = true := by rw [bne_iff_ne]; exact hy
                  go_wp2_with fail
                  go_roundw
                  case rel => exact ⟨s9, Lib.hid ⟨H9.out, HA.out hy⟩⟩
                  case measure => exact HM9.out
          · obtain rfl : i = many := by omega
            clear hil
            go_wp2_with fail
            refine (note_any g B 3 s2 _ H2.out.1.tape (by have := H2.out.2.nts; omega)).mono ?_
            rintro e w10 ⟨rfl, h10, k10⟩
            have HK10 := Lib.hid (H2.out.1.next h10 k10)
            have HR := Lib.hid (show OneR ans i j (some 0, s2.noted 3) from ⟨H2.out.2.an, fun e => absurd e (by simp), fun _ => ⟨rfl, by have h1 := H2.out.1.tape.2; rw [H2.out.2.an] at h1; exact h1, H2.out.2.dn, H2.out.2.z, H2.out.2.x⟩⟩)
            clear h10 k10
            go_wp2_with fail
            try dsimp only [jumpsTo]
            go_ret
            exact ⟨(some 0, s2.noted 3), HR.out, TPost.some rfl ⟨rfl, HK10.out.tape, HK10.out.tk⟩⟩

end Go.Proofs.Ytleebaebihbcdaa
