/-
  The walk of StampsLast.
-/
import Derived.Test.YtlclijnoablejaaDoorStaN
import Derived.Test.YtlclijnoablejaaDoorLawB
set_option linter.unusedVariables false
set_option linter.unusedSimpArgs false
namespace Go.Proofs.YtlclijnoablejaaDoor
open Go.RowKit

theorem icells_at {wh : List Int} {k : Nat} (h : k < wh.length) : (icells wh).toArray[k]? = some (.int .i64 (wh.getD k 0)) := by
  unfold icells
  rw [List.getElem?_toArray, List.getElem?_map, List.getElem?_eq_getElem h, List.getD_eq_getElem?_getD, List.getElem?_eq_getElem h]; rfl
theorem icells_set (l : List Int) (j : Nat) (v : Int) : (icells l).toArray.setIfInBounds j (.int .i64 v) = (icells (l.set j v)).toArray := by
  unfold icells
  simp [List.map_set]
theorem lt_or3 (a b : Int) : b < a ∨ a ≤ b := by omega

set_option maxRecDepth 10000 in
set_option maxHeartbeats 1000000 in
theorem stampsLast_any (m : Int) (T : List UInt8) (A : Option Addr) (c : Nat) (w : World) (hring : Ring w) (hm : 0 ≤ m ∧ m ≤ 255) (hl : T.length ≤ 9223372036854775807) (hr : Row w A T.length (BVal T)) :
    Calls Tryd.prog 4 #[.int .u8 m, .slice A T.length c] w fun e w' => e = .returned (.bool true) ∧ Up w w' := by
  have HG := Lib.hid hring
  have HAL := Lib.hid (fun W (u : Up w W) => alive07_any W (hring.up u))
  have HR := Lib.hid hr
  obtain ⟨n, hn, hn8⟩ : ∃ n : Nat, 1 + m % 8 = n ∧ (1 ≤ n ∧ n ≤ 8) := ⟨(1 + m % 8).toNat, by omega, by omega⟩
  have HN8 := Lib.hid hn8
  have hl2 : (T.length : Int) ≤ 9223372036854775807 := by omega
  by_cases h200 : T.length ≤ 200
  · have h2i : (T.length : Int) ≤ 200 := by omega
    have HNE := Lib.hid (fun W => new_yes n W hn8.1 hn8.2)
    clear hring hr hn8
    go_enter Tryd.func4, Tryd.ntmps4
    go_wp2_with fail
    refine (HNE.out _).mono ?_
    rintro e w1 ⟨A1, c1, rfl, hb1, hu1⟩
    clear hn hm
    go_wp2_with fail
    have HINV0 := Lib.hid (Inv.zero n HN8.out.1)
    have HB1 := Lib.hid hb1
    have HU1 := Lib.hid hu1
    have hh0 := heap_alloc_new w1 (.cells (icells [0, 0, 0, 0, 0, 0, 0, 0]).toArray 41)
    have HH0 := Lib.hid hh0
    have HU10 := Lib.hid (HU1.out.alloc (.cells (icells [0, 0, 0, 0, 0, 0, 0, 0]).toArray 41))
    have HB10 := Lib.hid (HB1.out.up ((Up.refl w1).alloc (.cells (icells [0, 0, 0, 0, 0, 0, 0, 0]).toArray 41)))
    have hn1 : (1 : Int) ≤ n := by have := HN8.out; omega
    have hn8 : (n : Int) ≤ 8 := by have := HN8.out; omega
    generalize hg : w1.heap.size = g at *
    have HGW : Hid (w.heap.size ≤ g) := Lib.hid (by rw [← hg]; exact HU1.out.size)
    clear hb1 hu1 hh0 hg
    go_loopw [6, 9] (fun u x wr => ∃ (j : Nat) (L : List (List Int)) (A2 : Option Addr) (c2 : Nat) (wh : List Int), j ≤ T.length ∧ x = .int .i64 j ∧ u = .slice A2 n c2 ∧ wr.heap[g]? = some (.cells (icells wh).toArray 41 (0, 0)) ∧ Hid (Inv n L wh j) ∧ Hid (BRow wr A2 L) ∧ Hid (Up w wr)) (fun _ x _ => T.length - (intOf x).toNat)
    case atStart => exact ⟨0, _, A1, c1, _, by omega, rfl, rfl, HH0.out, HINV0, HB10, HU10⟩
    case round =>
      obtain ⟨j, L, A2, c2, wh, hj, rfl, rfl, hh, HI, HB, HV⟩ := hrel
      by_cases hlt : j < T.length
      · have hji : (j : Int) < T.length := by omega
        have hj0 : (0 : Int) ≤ j := by omega
        obtain ⟨ba, offa, rfl, hca⟩ := HR.out.up HV.out j hlt
        unfold BVal at hca
        have hx255 : (T.getD j 0).toNat ≤ 255 := by have := (T.getD j 0).toNat_lt; omega
        generalize (T.getD j 0).toNat = x0 at *
        obtain ⟨me, hme, hmn⟩ : ∃ me : Nat, (x0 : Int) % (n : Int) = me ∧ me < n := ⟨x0 % n, by omega, Nat.mod_lt _ (by have := HN8.out; omega)⟩
        have hx255i : (x0 : Int) ≤ 255 := by omega
        have hx0i : (0 : Int) ≤ (x0 : Int) := by omega
        have HMN := Lib.hid hmn
        have HSZ := Lib.hid (Array.getElem?_eq_some_iff.1 hh).1
        have HH := Lib.hid hh
        have HT := take_full L A2 c2 me wr (HG.out.up HV.out) HB.out (HI.out.fine HN8.out.1 HN8.out.2) (by rw [HI.out.len]; exact hmn)
        rw [HI.out.len] at HT
        have HTK := Lib.hid HT
        have HNX := Lib.hid (HI.out.take HN8.out.1 HN8.out.2 hmn)
        clear HT hmn hh hx255
        go_wp2_with fail
        simp only [hme]
        refine HTK.out.mono ?_
        rintro e w2 ⟨A3, c3, rfl, hb2, hu2, hb3⟩
        have HB3Y := Lib.hid hb3
        have hf2 := sfine_any (takeP L me) A3 c3 w2 (by rw [HNX.out.1.len]; have := HN8.out; omega) hb2
        rw [HNX.out.1.len, HNX.out.1.fine HN8.out.1 HN8.out.2] at hf2
        have HF2 := Lib.hid hf2
        have HB2 := Lib.hid hb2
        have HV2 := Lib.hid (HV.out.trans hu2)
        have hh2 := (hu2.block g HSZ.out).trans HH.out
        have HH2 := Lib.hid hh2
        have hwl : me < wh.length := by rw [HI.out.wl]; have := HMN.out; have := HN8.out; omega
        have hc2 : w2.cell? ⟨g, me, none⟩ = some (.int .i64 (wh.getD me 0)) := (cell_of_row _ _ me _ _ _ hh2).trans (icells_at hwl)
        have hz2 : w2.frozen? ⟨g, me, none⟩ = false := by simp [World.frozen?, hh2]
        have hm8 : (me : Int) < 8 := by have := HMN.out; omega
        have hm0 : (0 : Int) ≤ me := by omega
        clear hf2 hb2 hu2 hh2 hwl hca hme hb3
        go_wp2_with fail
        refine HF2.out.mono ?_
        rintro e w3 ⟨rfl, rfl⟩
        go_wp2_with fail
        have HH3 : Hid ((w2.setCell ⟨g, me, none⟩ (.int .i64 ((j : Int) + 1))).heap[g]? = some (.cells (icells (wh.set me ((j : Int) + 1))).toArray 41 (0, 0))) := Lib.hid (by rw [heap_setCell_same _ _ me _ _ _ HH2.out, icells_set])
        have HV3 : Hid (Up w (w2.setCell ⟨g, me, none⟩ (.int .i64 ((j : Int) + 1)))) := Lib.hid (Below.setCell HV2.out HGW.out _)
        have HB3X : Hid (BRow (w2.setCell ⟨g, me, none⟩ (.int .i64 ((j : Int) + 1))) A3 (takeP L me)) := Lib.hid (HB3Y.out ⟨g, me, none⟩ _ HSZ.out)
        clear hc2 hz2 HB3Y
        have HB3 : Hid (BRow (w2.setCell ⟨g, me, none⟩ (.int .i64 ((j : Int) + 1))) A3 (takeP L me)) := HB3X
        generalize w2.setCell ⟨g, me, none⟩ (.int .i64 ((j : Int) + 1)) = W3 at *
        have HI3 := Lib.hid HNX.out.1
        have HLT : Hid ((takeP L me).length = n) := Lib.hid HI3.out.len
        have HLA := last_any (takeP L me) A3 c3
        have HLQ : Hid (∀ W, Up w W → BRow W A3 (takeP L me) → Calls Tryd.prog 17 #[.slice A3 n c3] W fun e w' => e = .returned (.int .i64 me) ∧ Dr W w') := Lib.hid (fun W hu hb => by
          have h := last_any (takeP L me) A3 c3 W (HG.out.up hu) (by rw [HLT.out]; have := HN8.out; omega) hb
          rw [HLT.out, HI3.out.last HN8.out.1 HN8.out.2 HMN.out HNX.out.2] at h
          exact h)
        have HBE : Hid (∀ (x y : Nat) W, Up w W → BRow W A3 (takeP L me) → Calls Tryd.prog 18 #[.slice A3 n c3, .int .i64 x, .int .i64 y] W fun e w' => e = .returned (.bool (behindB (takeP L me) x y)) ∧ Dr W w') := Lib.hid (fun x y W hu hb => by
          have h := behind_any (takeP L me) A3 c3 x y W (HG.out.up hu) (by rw [HLT.out]; have := HN8.out; omega) hb
          rw [HLT.out] at h
          exact h)
        have HBI := Lib.hid (fun x y hx hy => HI3.out.behind HN8.out.1 HN8.out.2 x y hx hy)
        have HWL : Hid ((wh.set me ((j : Int) + 1)).length = 8) := Lib.hid HI3.out.wl
        clear HLA
        generalize takeP L me = L3 at *
        generalize wh.set me ((j : Int) + 1) = wh3 at *
        clear hm8 hm0
        go_loopw [13] (fun x wx => ∃ a : Nat, a ≤ n ∧ x = .int .i64 a ∧ Hid (Dr W3 wx)) (fun x _ => n - (intOf x).toNat)
        case atStart => exact ⟨0, by omega, rfl, Lib.hid (Dr.refl _)⟩
        case round =>
          obtain ⟨a, ha, rfl, HDX⟩ := hrel
          by_cases hla : a < n
          · have hai : (a : Int) < n := by omega
            have ha0 : (0 : Int) ≤ a := by omega
            have ha8 : (a : Int) < 8 := by omega
            go_wp2_with fail
            go_loopw [14] (fun y wy => ∃ b : Nat, b ≤ n ∧ y = .int .i64 b ∧ Hid (Dr W3 wy)) (fun y _ => n - (intOf y).toNat)
            case atStart => exact ⟨0, by omega, rfl, HDX⟩
            case round =>
              obtain ⟨b, hb, rfl, HDY⟩ := hrel
              by_cases hlb : b < n
              · have hbi : (b : Int) < n := by omega
                have hb0 : (0 : Int) ≤ b := by omega
                have hb8 : (b : Int) < 8 := by omega
                have hhy : wr.heap[g]? = some (.cells (icells wh3).toArray 41 (0, 0)) := by
                  obtain ⟨q, hq⟩ := HDY.out
                  rw [hq]; exact HH3.out
                have hcx : wr.cell? ⟨g, a, none⟩ = some (.int .i64 (wh3.getD a 0)) := (cell_of_row _ _ a _ _ _ hhy).trans (icells_at (by rw [HWL.out]; omega))
                have hcy : wr.cell? ⟨g, b, none⟩ = some (.int .i64 (wh3.getD b 0)) := (cell_of_row _ _ b _ _ _ hhy).trans (icells_at (by rw [HWL.out]; omega))
                obtain ⟨hbt, hbf⟩ := HBI.out a b hla hlb
                have HBQ : Hid (∀ q, Calls Tryd.prog 18 #[.slice A3 n c3, .int .i64 a, .int .i64 b] (wr.drewN q) fun e w' => e = .returned (.bool (behindB L3 a b)) ∧ Dr (wr.drewN q) w') := Lib.hid (fun q => HBE.out a b _ (HV3.out.trans (HDY.out.drewN q).up) (HB3.out.up (HDY.out.drewN q).up))
                clear hhy
                generalize wh3.getD a 0 = p at *
                generalize wh3.getD b 0 = q at *
                generalize behindB L3 a b = v at *
                rcases lt_or3 p q with hgt | hle
                · have hv := hbt hgt
                  subst hv
                  have hd1 : decide (q < p) = true := decide_eq_true hgt
                  have hd2 : decide (p < q) = false := decide_eq_false (by omega)
                  clear hbt hbf
                  go_wp2_with fail
                  go_quiet ((go_at_call 18; exact Calls.quiet_of (HBQ.out _)))
                  go_wp2_with fail
                  go_roundw
                  case rel => exact ⟨b + 1, by omega, by go_num, Lib.hid (Dr.drewN HDY.out _)⟩
                  case measure => simp [intOf]; omega
                · have hd1 : decide (q < p) = false := decide_eq_false (by omega)
                  cases v
                  · clear hbt hbf
                    go_wp2_with fail
                    go_quiet ((go_at_call 18; exact Calls.quiet_of (HBQ.out _)))
                    go_wp2_with fail
                    go_roundw
                    case rel => exact ⟨b + 1, by omega, by go_num, Lib.hid (Dr.drewN HDY.out _)⟩
                    case measure => simp [intOf]; omega
                  · have hge : q ≤ p := by
                      rcases lt_or3 q p with h | h
                      · have := hbf h; cases this
                      · exact h
                    have hd2 : decide (p < q) = false := decide_eq_false (by omega)
                    clear hbt hbf
                    go_wp2_with fail
                    go_quiet ((go_at_call 18; exact Calls.quiet_of (HBQ.out _)))
                    go_wp2_with fail
                    go_roundw
                    case rel => exact ⟨b + 1, by omega, by go_num, Lib.hid (Dr.drewN HDY.out _)⟩
                    case measure => simp [intOf]; omega
              · obtain rfl : b = n := by omega
                clear hlb
                go_wp2_with fail
                go_roundw
                case rel => exact ⟨a + 1, by omega, by go_num, HDY⟩
                case measure => simp [intOf]; omega
          · obtain rfl : a = n := by omega
            clear hla
            go_wp2_with fail
            refine (HLQ.out _ (HV3.out.trans HDX.out.up) (HB3.out.up HDX.out.up)).mono ?_
            rintro e w5 ⟨rfl, hd5⟩
            have HD5 : Hid (Dr W3 w5) := Lib.hid (by
              obtain ⟨q1, e1⟩ := HDX.out
              obtain ⟨q2, e2⟩ := hd5
              exact ⟨q1 + q2, by rw [e2, e1, World.drewN_drewN]⟩)
            have hh5 : w5.heap[g]? = some (.cells (icells wh3).toArray 41 (0, 0)) := by
              obtain ⟨q, hq⟩ := HD5.out
              rw [hq]; exact HH3.out
            have HH5 := Lib.hid hh5
            clear hd5 hh5
            go_wp2_with fail
            go_roundw
            case rel => exact ⟨j + 1, L3, A3, c3, wh3, by omega, by go_num, rfl, HH5.out, HI3, Lib.hid (HB3.out.up HD5.out.up), Lib.hid (HV3.out.trans HD5.out.up)⟩
            case measure => simp [intOf]; omega
      · obtain rfl : j = T.length := by omega
        clear hlt
        go_wp2_with fail
        refine (HAL.out _ HV.out).mono ?_
        rintro e w2 ⟨rfl, hu2⟩
        have HU2 := Lib.hid (HV.out.trans hu2)
        clear hu2
        go_wp2_with fail
        go_ret
        exact ⟨rfl, HU2.out⟩
  · have h2i : (200 : Int) < T.length := by omega
    clear hring hr hn8
    go_enter Tryd.func4, Tryd.ntmps4
    go_wp2_with fail
    refine (HAL.out _ (Up.refl _)).mono ?_
    rintro e w2 ⟨rfl, hu2⟩
    go_wp2_with fail
    go_ret
    exact ⟨rfl, hu2⟩

end Go.Proofs.YtlclijnoablejaaDoor
