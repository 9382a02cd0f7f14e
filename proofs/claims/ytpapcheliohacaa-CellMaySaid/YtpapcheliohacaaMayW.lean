/-
  The walk of CellMay. UNDER WAY.
-/
import Derived.Test.YtpapcheliohacaaMayS
set_option linter.unusedVariables false
set_option linter.unusedSimpArgs false
namespace Go.Proofs.Ytpapcheliohacaa
open Go.RowKit

theorem begin_kind (c : CS) (t k v : Int) : (c.begin t k v).2.kind = c.kind := by
  unfold CS.begin
  split
  · rfl
  split
  · rfl
  split
  · rfl
  · exact (wrN_kind c _ 8).1
theorem endA_kind (c : CS) (t d : Int) : (c.endA t d).2.2.kind = c.kind := by
  unfold CS.endA
  split
  · rfl
  split
  · rfl
  split
  · rfl
  · rfl
theorem mayW_start {w w1 : World} {h : Nat} {c : CS} {top : Int} (L : Lives w w1 h c 0) :
    MayW w ((w1.alloc (.cells #[.int .i64 0] 3)).alloc (.cells #[.bool false, .bool false, .bool false, .bool false, .bool false, .bool false, .bool false, .bool false] 46)) h c 0 (.slice (some ⟨w1.heap.size, 0, none⟩) 1 1) [0] (w1.heap.size + 1) top (fun _ => False) := by
  have hu1 : Up w1 (w1.alloc (.cells #[.int .i64 0] 3)) := (Up.refl w1).alloc _
  have hu2 : Up (w1.alloc (.cells #[.int .i64 0] 3)) ((w1.alloc (.cells #[.int .i64 0] 3)).alloc (.cells #[.bool false, .bool false, .bool false, .bool false, .bool false, .bool false, .bool false, .bool false] 46)) := (Up.refl _).alloc _
  have hb1 := heap_alloc_new w1 (.cells #[.int .i64 0] 3)
  have hb2 := heap_alloc_new (w1.alloc (.cells #[.int .i64 0] 3)) (.cells #[.bool false, .bool false, .bool false, .bool false, .bool false, .bool false, .bool false, .bool false] 46)
  have hs1 : (w1.alloc (.cells #[.int .i64 0] 3)).heap.size = w1.heap.size + 1 := by simp
  have hs2 : ((w1.alloc (.cells #[.int .i64 0] 3)).alloc (.cells #[.bool false, .bool false, .bool false, .bool false, .bool false, .bool false, .bool false, .bool false] 46)).heap.size = w1.heap.size + 2 := by simp
  have hle : w.heap.size ≤ w1.heap.size := L.2.1.size
  rw [hs1] at hb2
  have hb3 := (hu2.block w1.heap.size (by rw [hs1]; omega)).trans hb1
  refine ⟨(L.held.grow (hu1.trans hu2)).less fun k hk => .inr (?_), ⟨rfl, .inr ⟨w1.heap.size, 1, #[.int .i64 0], rfl, hle, hb3, Nat.le_refl _, by decide, rfl, rfl⟩⟩, fun j hj => ?_, fun j => frozen_of_row _ _ j _ _ hb2, by omega, by simp [Value.ownBlock]⟩
  · rw [hs2]
    rcases hk with (rfl | hk) | hk
    · omega
    · simp only [Value.ownBlock, Option.some.injEq] at hk
      omega
    · exact hk.elim
  · have h8 : j = 0 ∨ j = 1 ∨ j = 2 ∨ j = 3 ∨ j = 4 ∨ j = 5 ∨ j = 6 ∨ j = 7 := by omega
    rcases h8 with rfl | rfl | rfl | rfl | rfl | rfl | rfl | rfl
    all_goals exact ⟨false, cell_of_row _ _ _ _ _ _ hb2⟩
theorem end_ok (c : CS) (t d : Int) (h : (c.endA t d).2.1 = 0) : 0 ≤ t ∧ t < 8 := by
  unfold CS.endA at h
  split at h
  · simp at h
  · omega
def memN (ws : List Int) (v : Int) (j : Nat) : Bool := decide (v ∈ ws.take j)
theorem memN_zero (ws : List Int) (v : Int) : memN ws v 0 = false := by simp [memN]
theorem memN_succ (ws : List Int) (v : Int) (j : Nat) (h : j < ws.length) : memN ws v (j + 1) = (memN ws v j || (ws.getD j 0 == v)) := by
  unfold memN
  have e : (v ∈ ws.take (j + 1)) = (v ∈ ws.take j ∨ ws[j] = v) := by
    rw [List.take_succ_eq_append_getElem h, List.mem_append, List.mem_singleton, eq_comm (a := v)]
  rw [getD_lt h, decide_eq_decide.2 (Iff.of_eq e), Bool.decide_or]
  rfl
theorem memN_all (ws : List Int) (v : Int) : memN ws v ws.length = decide (v ∈ ws) := by simp [memN]

set_option maxRecDepth 10000 in
set_option maxHeartbeats 4000000 in
theorem cellMay_any (n top : Int) (l : List A2) (A : Option Addr) (cc : Nat) (w : World) (hn : 0 ≤ n ∧ n ≤ 255) (ht : 0 ≤ top ∧ top ≤ 65535) (hl : l.length ≤ 9223372036854775807) (hr : A2Row w A l) :
    Calls Try.prog 5 #[.int .u8 n, .int .u16 top, .slice A l.length cc] w fun e w' => e = .returned (.bool true) ∧ Up w w' := by
  have HAL := Lib.hid (fun W : World => alive08_any W)
  by_cases hs : l.length ≤ 80
  · have HR := Lib.hid hr
    have z1 : ((80 : Int) < (l.length : Int)) = False := by simp; omega
    have HT := Lib.hid ht
    clear hr
    go_enter Try.func5, Try.ntmps5
    go_wp2_with fail
    refine (new_lives _ _ _).mono ?_
    rintro e w1 ⟨rfl, HL⟩
    have HM0 := Lib.hid (And.intro (mayW_start (top := top) HL) (MayInv.new (1 + n % 3) top ht))
    go_wp2_with fail
    have hkd : (CS.new (1 + n % 3) top).kind = 1 + n % 3 := rfl
    generalize CS.new (1 + n % 3) top = c0 at *
    have HKD := Lib.hid hkd
    clear hkd
    generalize hq : w.heap.size = h at *
    generalize (w1.alloc (.cells #[.int .i64 0] 3)).alloc (.cells #[.bool false, .bool false, .bool false, .bool false, .bool false, .bool false, .bool false, .bool false] 46) = w2 at *
    generalize hrb : w1.heap.size + 1 = rb at *
    generalize w1.heap.size = g0 at *
    go_loopw [9, 11] (fun u t wr => ∃ (k : Nat) (c : CS) (ws : List Int), k ≤ l.length ∧ ws.length ≤ 1 + k ∧ t = .int .i64 k ∧ Hid (MayW w wr h c (9 * k) u ws rb top (fun _ => False) ∧ MayInv c ws top ∧ c.kind = 1 + n % 3)) (fun _ t _ => l.length - (intOf t).toNat)
    case atStart => exact ⟨0, c0, [0], by omega, by simp, rfl, Lib.hid ⟨HM0.out.1, HM0.out.2, HKD.out⟩⟩
    case round =>
      obtain ⟨k, c, ws, hk, hws, rfl, HS⟩ := hrel
      by_cases hlt : k < l.length
      · have hU := HS.out.1.held.2.1
        obtain ⟨b, off, rfl, g0', g1, g2, g3, g4, g5⟩ := (HR.out.up hU) k hlt
        obtain ⟨⟨ae, at', an, ak, acl, av⟩, hxy⟩ : ∃ p, l.getD k a20 = p := ⟨_, rfl⟩
        rw [hxy] at g0' g1 g2 g3 g4 g5
        dsimp only at g0' g1 g2 g3 g4 g5
        have hki : (k : Int) < l.length := by omega
        have hk0 : (0 : Int) ≤ k := by omega
        clear hU hxy
        cases ae
        · have hu3 : Up wr (wr.alloc (.cells #[.bool false, .int .i64 at', .int .i64 an, .int .i64 ak, .int .i64 acl, .int .i64 av] 33)) := (Up.refl wr).alloc _
          have hbx := heap_alloc_new wr (.cells #[.bool false, .int .i64 at', .int .i64 an, .int .i64 ak, .int .i64 acl, .int .i64 av] 33)
          have hsz : (wr.alloc (.cells #[.bool false, .int .i64 at', .int .i64 an, .int .i64 ak, .int .i64 acl, .int .i64 av] 33)).heap.size = wr.heap.size + 1 := by simp
          have HW1 := Lib.hid ((HS.out.1.up hu3).less (T := fun k => k = wr.heap.size) (fun k e => .inr (by rw [hsz]; omega)))
          have HB := Lib.hid (begin_held h (9 * k) c at' ak acl av w _ _ HW1.out.held (by omega))
          have HBX := Lib.hid hbx
          clear hbx hsz hu3
          go_wp2_with fail
          refine HB.out.mono ?_
          rintro e w3 ⟨rfl, hh, hk3⟩
          have HH := Lib.hid hh
          have HK3 := Lib.hid hk3
          have hb3 := (hk3 wr.heap.size (.inr rfl)).trans HBX.out
          have d1 := cell_of_row _ _ 1 _ _ _ hb3
          have d3 := cell_of_row _ _ 3 _ _ _ hb3
          have d5 := cell_of_row _ _ 5 _ _ _ hb3
          simp only [List.getElem?_toArray, List.getElem?_cons_zero, List.getElem?_cons_succ] at d1 d3 d5
          have HIB := Lib.hid (HS.out.2.1.begin HT.out at' ak av)
          have HKB := Lib.hid ((begin_kind c at' ak av).trans HS.out.2.2)
          by_cases hz : (c.begin at' ak av).1 = 0
          rotate_left
          · have hne : ((c.begin at' ak av).1 == 0) = false := by rw [beq_eq_false_iff_ne]; exact hz
            have HI2 := Lib.hid (show MayInv (c.begin at' ak av).2 ws top from by have := HIB.out; rw [if_neg (fun e => hz e.1)] at this; exact this)
            generalize (c.begin at' ak av).1 = er at *
            have HM3 := Lib.hid ((HW1.out.step HH.out HK3.out).less (T := fun _ => False) (fun k e => e.elim))
            clear hh hk3 hb3 HIB d1 d3 d5
            go_wp2_with fail
            go_roundw
            case rel => exact ⟨k + 1, _, ws, by omega, by omega, by go_num, Lib.hid ⟨HM3.out, HI2.out, HKB.out⟩⟩
            case measure => simp [intOf]; omega
          · obtain ⟨⟨p1, p2⟩, pk⟩ := begin_ok c at' ak av hz
            obtain ⟨tn, rfl⟩ := Int.eq_ofNat_of_zero_le p1
            have htn : tn < 8 := by omega
            have hne : ((c.begin (tn : Int) ak av).1 == 0) = true := by rw [beq_iff_eq]; exact hz
            have HM3 := Lib.hid (HW1.out.step HH.out HK3.out)
            obtain ⟨b0, hrd⟩ := HM3.out.reads tn htn
            have hfz := HM3.out.fz tn
            have hwb : wr.heap.size ≠ rb := fun e => by
              obtain ⟨_, _, _, _, _, q⟩ := HS.out.1.held
              have := (q rb (.inl (.inl rfl))).1
              omega
            have he : ∀ (b : Bool) (j : Nat), (w3.setCell ⟨rb, tn, none⟩ (.bool b)).cell? ⟨wr.heap.size, j, none⟩ = w3.cell? ⟨wr.heap.size, j, none⟩ := fun b j => cellE (Below.heap_setCell w3 ⟨rb, tn, none⟩ _ _ hwb)
            have hs : ∀ (b : Bool), (w3.setCell ⟨rb, tn, none⟩ (.bool b)).cell? ⟨rb, tn, none⟩ = some (.bool b) := fun b => World.cell?_setCell_same _ _ _ hrd
            have HM4 := Lib.hid (fun b => HM3.out.store (fun k e => by have := HS.out.1.held.2.1.size; omega) tn b)
            have e1 := fun b => (he b 1).trans d1
            have e3 := fun b => (he b 3).trans d3
            have e5 := fun b => (he b 5).trans d5
            have hk8 : (tn : Int) < 8 := by omega
            rcases pk with rfl | rfl
            · have HI2 := Lib.hid (show MayInv (c.begin tn 1 av).2 ws top from by have := HIB.out; rw [if_neg (by simp)] at this; exact this)
              have HM5 := Lib.hid ((HM4.out true).less (T := fun _ => False) (fun k e => e.elim))
              generalize (c.begin (tn : Int) 1 av).1 = er at *
              generalize (c.begin (tn : Int) 1 av).2 = c' at *
              have hw4 := hs true
              replace e1 := e1 true
              replace e3 := e3 true
              replace e5 := e5 true
              clear hh hk3 hb3 HIB hs he hfz
              generalize hx4 : w3.setCell ⟨rb, tn, none⟩ (.bool true) = w4 at *
              have hfz := HM3.out.fz tn
              go_wp2_with fail
              go_roundw
              case rel => exact ⟨k + 1, _, ws, by omega, by omega, by go_num, Lib.hid ⟨HM5.out, HI2.out, HKB.out⟩⟩
              case measure => simp [intOf]; omega
            · have HI2 := Lib.hid (show MayInv (c.begin tn 2 av).2 (ws ++ [clampT av top]) top from by have := HIB.out; rw [if_pos ⟨hz, by decide⟩] at this; exact this)
              have HM5 := Lib.hid ((HM4.out false).less (T := fun _ => False) (fun k e => e.elim))
              generalize (c.begin (tn : Int) 2 av).1 = er at *
              generalize (c.begin (tn : Int) 2 av).2 = c' at *
              have hw4 := hs false
              replace e1 := e1 false
              replace e3 := e3 false
              replace e5 := e5 false
              have HE := Lib.hid (And.intro (he false) HBX.out)
              have hc5 := (he false 5)
              clear hh hk3 hb3 HIB hs he hfz
              generalize hx4 : w3.setCell ⟨rb, tn, none⟩ (.bool false) = w4 at *
              have hfz := HM3.out.fz tn
              obtain ⟨i0, hi, hz0, hz1, hz2⟩ := info_parts2
              have hu5 : Up w4 (w4.alloc (.cells #[.int .i64 (clampT av top)] 3)) := (Up.refl w4).alloc _
              have HU5 := Lib.hid hu5
              have HOW := Lib.hid (HM5.out.up hu5).row
              have HCN := Lib.hid (cells_new w4 [.int .i64 (clampT av top)] 3)
              have HSA := Lib.hid (show (w4.alloc (.cells #[.int .i64 (clampT av top)] 3)).heap.size = w4.heap.size + 1 by simp)
              have HSZ := Lib.hid (show w.heap.size ≤ (w4.alloc (.cells #[.int .i64 (clampT av top)] 3)).heap.size from Nat.le_trans HM5.out.held.2.1.size hu5.size)
              have H63 := Lib.hid (show ws.length + 1 ≤ maxLen ∧ (ws.length + 1) * 8 ≤ 140737488355328 by unfold maxLen; omega)
              have H1C := Lib.hid (show ∀ u ∈ [Value.int .i64 (clampT av top)], u.oneCell' = true by intro u hu; simp at hu; subst hu; rfl)
              have HI := Lib.hid hi
              have HZ0 := Lib.hid hz0
              have HZ1 := Lib.hid hz1
              have HZ2 := Lib.hid hz2
              clear hi hz0 hz1 hz2 hu5
              go_wp2_with fail
              refine (rclamp_any _ _ _).mono ?_
              rintro e w5 ⟨rfl, rfl⟩
              go_wp2_with (at_builtin; refine wpList_append_lies _ rfl (.tmp 64) (.tmp 71) 45 rfl w.heap.size 3 i0 (.int .i64 0) 1 8 Try.underlying45 HI.out HZ0.out HZ1.out HZ2.out rfl (by decide) _ ws.length (icells ws) rfl HOW.out ⟨w5.heap.size, 0, none⟩ 1 1 [.int .i64 (clampT av top)] rfl rfl HCN.out H1C.out (by decide) H63.out.1 H63.out.2 HSZ.out _ rfl ?_)
              intro g1 cap w6 hown1 hg hor hlt1
              rw [← hq] at hown1
              have HM7 := Lib.hid (HM5.out.append HU5.out hg (hor.imp id (fun e => by rw [e, HSA.out]; exact Nat.le_refl _)) hlt1 hown1)
              clear hown1 hg hor hlt1
              go_wp2_with fail
              go_roundw
              case rel => exact ⟨k + 1, _, _, by omega, by simp; omega, by go_num, Lib.hid ⟨HM7.out, HI2.out, HKB.out⟩⟩
              case measure => simp [intOf]; omega
        · have hu3 : Up wr (wr.alloc (.cells #[.bool true, .int .i64 at', .int .i64 an, .int .i64 ak, .int .i64 acl, .int .i64 av] 33)) := (Up.refl wr).alloc _
          have hbx := heap_alloc_new wr (.cells #[.bool true, .int .i64 at', .int .i64 an, .int .i64 ak, .int .i64 acl, .int .i64 av] 33)
          have hsz : (wr.alloc (.cells #[.bool true, .int .i64 at', .int .i64 an, .int .i64 ak, .int .i64 acl, .int .i64 av] 33)).heap.size = wr.heap.size + 1 := by simp
          have HW1 := Lib.hid ((HS.out.1.up hu3).less (T := fun k => k = wr.heap.size) (fun k e => .inr (by rw [hsz]; omega)))
          have HB := Lib.hid (end_held h (9 * k) c at' an w _ _ HW1.out.held (by omega))
          have HBX := Lib.hid hbx
          have HTL := Lib.hid (HS.out.2.1.told HS.out.1.held.2.2.1 (by omega) HT.out at' an)
          have HI2 := Lib.hid (HS.out.2.1.endA at' an)
          have HKC := Lib.hid HS.out.2.2
          have HKB := Lib.hid ((endA_kind c at' an).trans HS.out.2.2)
          have HOK := Lib.hid (end_ok c at' an)
          clear hbx hsz hu3
          go_wp2_with fail
          refine HB.out.mono ?_
          rintro e w3 ⟨rfl, hh, hk3⟩
          have hb3 := (hk3 wr.heap.size (.inr rfl)).trans HBX.out
          have d1 := cell_of_row _ _ 1 _ _ _ hb3
          simp only [List.getElem?_toArray, List.getElem?_cons_zero, List.getElem?_cons_succ] at d1
          have hh9 : Held w w3 h (c.endA at' an).2.2 (9 * (k + 1)) (fun k => (k = rb ∨ u9.ownBlock = some k) ∨ k = wr.heap.size) := by
            obtain ⟨y1, y2, y3, y4⟩ := hh
            exact ⟨y1, y2, y3.more (by omega), y4⟩
          have HM3 := Lib.hid ((HW1.out.step hh9 hk3).less (T := fun _ => False) (fun k e => e.elim))
          clear hh hk3 hb3 hh9
          generalize (c.endA at' an).1 = ev at *
          generalize (c.endA at' an).2.1 = er at *
          generalize (c.endA at' an).2.2 = c' at *
          by_cases hz : er = 0
          rotate_left
          · have hne : (er == 0) = false := by rw [beq_eq_false_iff_ne]; exact hz
            have hne2 : (er != 0) = true := by rw [bne_iff_ne]; exact hz
            go_wp2_with fail
            go_roundw
            case rel => exact ⟨k + 1, _, ws, by omega, by omega, by go_num, Lib.hid ⟨HM3.out, HI2.out, HKB.out⟩⟩
            case measure => simp [intOf]; omega
          · obtain ⟨p1, p2⟩ := HOK.out hz
            obtain ⟨tn, rfl⟩ := Int.eq_ofNat_of_zero_le p1
            have htn : tn < 8 := by omega
            obtain ⟨b0, hrd⟩ := HM3.out.reads tn htn
            subst hz
            cases b0
            · go_wp2_with fail
              go_roundw
              case rel => exact ⟨k + 1, _, ws, by omega, by omega, by go_num, Lib.hid ⟨HM3.out, HI2.out, HKB.out⟩⟩
              case measure => simp [intOf]; omega
            · obtain ⟨A1, c1, hv, hrow, -⟩ := own_row HM3.out.row (f := IVal ws) (fun j hj => iVal_map hj)
              subst hv
              have HRW := Lib.hid hrow
              clear hrow
              go_wp2_with fail
              go_loopw [15, 16] (fun u t wx => ∃ (j : Nat), j ≤ ws.length ∧ u = .bool (memN ws ev j) ∧ t = .int .i64 j ∧ wx = w3) (fun _ t _ => ws.length - (intOf t).toNat)
              case atStart => exact ⟨0, by omega, by rw [memN_zero], rfl, rfl⟩
              case round =>
                obtain ⟨j, hj, rfl, rfl, rfl⟩ := hrel
                by_cases hjl : j < ws.length
                · have hji : (j : Int) < ws.length := by omega
                  have hj0 : (0 : Int) ≤ j := by omega
                  have HMS := Lib.hid (memN_succ ws ev j hjl)
                  obtain ⟨b2, off2, rfl, hx⟩ := HRW.out j hjl
                  unfold IVal at hx
                  generalize ws.getD j 0 = wj at *
                  cases hmj : memN ws ev j
                  · rw [hmj, Bool.false_or] at HMS
                    go_wp2_with fail
                    go_roundw
                    case rel => exact ⟨j + 1, by omega, by rw [HMS.out], by go_num, trivial⟩
                    case measure => simp [intOf]; omega
                  · rw [hmj, Bool.true_or] at HMS
                    go_wp2_with fail
                    go_roundw
                    case rel => exact ⟨j + 1, by omega, by rw [HMS.out], by go_num, trivial⟩
                    case measure => simp [intOf]; omega
                · obtain rfl : j = ws.length := by omega
                  clear hjl
                  have HMA := Lib.hid (memN_all ws ev)
                  obtain ⟨⟨t1, t2⟩, t3⟩ := HTL.out
                  have hb1 : (decide (ev < 0)) = false := by simp; omega
                  have hb2 : (decide (top < ev)) = false := by simp; omega
                  have hw6 : wrap64 top = top := by unfold wrap64; have := HT.out; omega
                  by_cases hk1 : 1 + n % 3 = 1
                  · have hk2 : (1 + n % 3 != 1) = false := by rw [bne_eq_false_iff_eq]; exact hk1
                    go_wp2_with fail
                    go_roundw
                    case rel => exact ⟨k + 1, _, ws, by omega, by omega, by go_num, Lib.hid ⟨HM3.out, HI2.out, HKB.out⟩⟩
                    case measure => simp [intOf]; omega
                  · have hk2 : (1 + n % 3 != 1) = true := by rw [bne_iff_ne]; exact hk1
                    have hm2 : memN ws ev ws.length = true := by rw [HMA.out]; exact decide_eq_true (t3 (by rw [HKC.out]; exact hk1))
                    go_wp2_with fail
                    go_roundw
                    case rel => exact ⟨k + 1, _, ws, by omega, by omega, by go_num, Lib.hid ⟨HM3.out, HI2.out, HKB.out⟩⟩
                    case measure => simp [intOf]; omega
      · obtain rfl : k = l.length := by omega
        clear hlt
        go_wp2_with fail
        refine (HAL.out _).mono ?_
        rintro e w2 ⟨rfl, hU⟩
        go_wp2_with fail
        go_ret
        exact ⟨rfl, HS.out.1.held.2.1.trans hU⟩
  · have z1 : ((80 : Int) < (l.length : Int)) = True := by simp; omega
    clear hr
    go_enter Try.func5, Try.ntmps5
    go_wp2_with fail
    refine (HAL.out _).mono ?_
    rintro e w1 ⟨rfl, hU⟩
    go_wp2_with fail
    go_ret
    exact ⟨rfl, hU⟩

end Go.Proofs.Ytpapcheliohacaa
