/-
  The walk of CellPlays.
-/
import Derived.Test.YtpapcheliohacaaPlayP
import Derived.Deep.QuietTactic
import Derived.BigQuiet
set_option linter.unusedVariables false
set_option linter.unusedSimpArgs false
namespace Go.Proofs.Ytpapcheliohacaa
open Go.RowKit

/-- What a round of the law has in hand. -/
def PlayR (w0 w : World) (h : Nat) (c : CS) (r : Nat) (D : DS) (Lv : Value) (k : Nat) : Prop := PlayW w0 w h c (9 * k) r r D Lv (fun _ => False) ∧ CSim c D ∧ D.L.length ≤ k ∧ 0 ≤ D.now ∧ D.now ≤ k

set_option maxRecDepth 10000 in
set_option maxHeartbeats 4000000 in
theorem cellPlays_any (kind top : Int) (l : List A2) (A : Option Addr) (cc : Nat) (w : World) (hl : l.length ≤ 9223372036854775807) (hr : A2Row w A l) :
    Calls Try.prog 3 #[.int .i64 kind, .int .i64 top, .slice A l.length cc] w fun e w' => e = .returned (.bool true) ∧ Up w w' := by
  have HAL := Lib.hid (fun W : World => alive08_any W)
  by_cases hs : l.length ≤ 80
  · have HR := Lib.hid hr
    have z1 : ((80 : Int) < (l.length : Int)) = False := by simp; omega
    clear hr
    go_enter Try.func3, Try.ntmps3
    go_wp2_with fail
    refine (new_lives _ _ _).mono ?_
    rintro e w1 ⟨rfl, HL⟩
    have HM0 := Lib.hid (show PlayR w (w1.alloc (.cells #[.int .i64 kind, .int .i64 top, .int .i64 0, .int .i64 0, .slice none 0 0] 29)) w.heap.size (CS.new kind top) w1.heap.size ⟨kind, top, 0, 0, []⟩ (.slice none 0 0) 0 from ⟨playW_start HL, csim_new kind top, by simp, by simp, by simp⟩)
    clear HL
    go_wp2_with fail
    generalize CS.new kind top = c0 at *
    generalize hq : w.heap.size = h at *
    generalize w1.alloc (.cells #[.int .i64 kind, .int .i64 top, .int .i64 0, .int .i64 0, .slice none 0 0] 29) = w2 at *
    generalize w1.heap.size = r at *
    go_loopw [9] (fun t wr => ∃ (k : Nat) (c : CS) (D : DS) (Lv : Value), k ≤ l.length ∧ t = .int .i64 k ∧ Hid (PlayR w wr h c r D Lv k)) (fun t _ => l.length - (intOf t).toNat)
    case atStart => exact ⟨0, c0, _, _, by omega, rfl, HM0⟩
    case round =>
      obtain ⟨k, c, D, Lv, hk, rfl, HS⟩ := hrel
      by_cases hlt : k < l.length
      · have hU := HS.out.1.held.2.1
        obtain ⟨b, off, rfl, g0', g1, g2, g3, g4, g5⟩ := (HR.out.up hU) k hlt
        obtain ⟨⟨ae, at', an, ak, acl, av⟩, hxy⟩ : ∃ p, l.getD k a20 = p := ⟨_, rfl⟩
        rw [hxy] at g0' g1 g2 g3 g4 g5
        dsimp only at g0' g1 g2 g3 g4 g5
        have hki : (k : Int) < l.length := by omega
        have hk0 : (0 : Int) ≤ k := by omega
        clear hU hxy
        cases ae
        · have hu3 : Up wr (wr.alloc (.cells #[.bool false, .int .i64 at', .int .i64 an, .int .i64 ak, .int .i64 acl, .int .i64 av] 33)) := (Up.refl wr).alloc _
          have hbx := heap_alloc_new wr (.cells #[.bool false, .int .i64 at', .int .i64 an, .int .i64 ak, .int .i64 acl, .int .i64 av] 33)
          have hsz : (wr.alloc (.cells #[.bool false, .int .i64 at', .int .i64 an, .int .i64 ak, .int .i64 acl, .int .i64 av] 33)).heap.size = wr.heap.size + 1 := by simp
          have HW1 := Lib.hid ((HS.out.1.up hu3.drew).less (T := fun k => k = wr.heap.size) (fun k e => .inr (by show _ ∧ k < (wr.alloc _).heap.size; rw [hsz]; omega)))
          have HB := Lib.hid (begin_held h (9 * k) c at' ak acl av w _ _ HW1.out.held (by omega))
          obtain ⟨hs1, hs2⟩ := begin_sim HS.out.2.1 HS.out.2.2.2.1 at' ak acl av
          have HBX := Lib.hid hbx
          have HS1 := Lib.hid hs1
          have HS2 := Lib.hid hs2
          have HFW := Lib.hid (D.begin_few at' ak acl av)
          have HFW0 := Lib.hid HS.out.2.2
          clear hbx hsz hu3 hs1 hs2
          go_wp2_with fail
          obtain ⟨W, hW⟩ : ∃ x, wr.alloc (.cells #[.bool false, .int .i64 at', .int .i64 an, .int .i64 ak, .int .i64 acl, .int .i64 av] 33) = x := ⟨_, rfl⟩
          rw [hW] at HW1 HB HBX ⊢
          clear hW
          have hS0 : W.drew.cell? ⟨wr.heap.size, 1, none⟩ = some (.int .i64 at') ∧ W.drew.cell? ⟨wr.heap.size, 3, none⟩ = some (.int .i64 ak) ∧ W.drew.cell? ⟨wr.heap.size, 4, none⟩ = some (.int .i64 acl) ∧ W.drew.cell? ⟨wr.heap.size, 5, none⟩ = some (.int .i64 av) :=
            ⟨cell_of_row _ _ 1 _ _ _ HBX.out, cell_of_row _ _ 3 _ _ _ HBX.out, cell_of_row _ _ 4 _ _ _ HBX.out, cell_of_row _ _ 5 _ _ _ HBX.out⟩
          have HSS := Lib.hid hS0
          refine wp_region_held_drew (S := fun w' => w'.cell? ⟨wr.heap.size, 1, none⟩ = some (.int .i64 at') ∧ w'.cell? ⟨wr.heap.size, 3, none⟩ = some (.int .i64 ak) ∧ w'.cell? ⟨wr.heap.size, 4, none⟩ = some (.int .i64 acl) ∧ w'.cell? ⟨wr.heap.size, 5, none⟩ = some (.int .i64 av)) (by kernel_rfl) hS0 (fun hH0 => ?_)
          clear hS0 g0' g1 g2 g3 g4 g5
          refine wpAnyH_take (i := 0) (v := ?_) rfl (by kernel_rfl) (by kernel_rfl) (by kernel_rfl) (fun _ _ _ h => h) (Or.inl ⟨by kernel_rfl, ?_⟩) hH0 ?_
          rotate_left
          · intro w hSw
            try dsimp only at hSw
            go_simp
            try (with_reducible rfl)
          try simp only [Act.put, List.setIfInBounds_toArray, List.set_cons_zero, List.set_cons_succ]
          refine wpAnyH_take (i := 1) (v := ?_) rfl (by kernel_rfl) (by kernel_rfl) (by kernel_rfl) (fun _ _ _ h => h) (Or.inl ⟨by kernel_rfl, ?_⟩) hH0 ?_
          rotate_left
          · intro w hSw
            try dsimp only at hSw
            go_simp
            try (with_reducible rfl)
          try simp only [Act.put, List.setIfInBounds_toArray, List.set_cons_zero, List.set_cons_succ]
          refine wpAnyH_take (i := 2) (v := ?_) rfl (by kernel_rfl) (by kernel_rfl) (by kernel_rfl) (fun _ _ _ h => h) (Or.inl ⟨by kernel_rfl, ?_⟩) hH0 ?_
          rotate_left
          · intro w hSw
            try dsimp only at hSw
            go_simp
            try (with_reducible rfl)
          try simp only [Act.put, List.setIfInBounds_toArray, List.set_cons_zero, List.set_cons_succ]
          refine wpAnyH_take (i := 3) (v := ?_) rfl (by kernel_rfl) (by kernel_rfl) (by kernel_rfl) (fun _ _ _ h => h) (Or.inl ⟨by kernel_rfl, ?_⟩) hH0 ?_
          rotate_left
          · intro w hSw
            try dsimp only at hSw
            go_simp
            try (with_reducible rfl)
          try simp only [Act.put, List.setIfInBounds_toArray, List.set_cons_zero, List.set_cons_succ]
          refine wpAnyH_take (i := 4) (v := ?_) rfl (by kernel_rfl) (by kernel_rfl) (by kernel_rfl) (fun _ _ _ h => h) (Or.inl ⟨by kernel_rfl, ?_⟩) hH0 ?_
          rotate_left
          · intro w hSw
            try dsimp only at hSw
            go_simp
            try (with_reducible rfl)
          try simp only [Act.put, List.setIfInBounds_toArray, List.set_cons_zero, List.set_cons_succ]
          refine wpAnyH_take (i := 6) (v := ?_) rfl (by kernel_rfl) (by kernel_rfl) (by kernel_rfl) (fun _ _ _ h => h) (Or.inl ⟨by kernel_rfl, ?_⟩) hH0 ?_
          rotate_left
          · intro w hSw
            try dsimp only at hSw
            go_simp
            try (with_reducible rfl)
          try simp only [Act.put, List.setIfInBounds_toArray, List.set_cons_zero, List.set_cons_succ]
          refine wpAnyH_take (i := 7) (v := ?_) rfl (by kernel_rfl) (by kernel_rfl) (by kernel_rfl) (fun _ _ _ h => h) (Or.inl ⟨by kernel_rfl, ?_⟩) hH0 ?_
          rotate_left
          · intro w hSw
            try dsimp only at hSw
            go_simp
            try (with_reducible rfl)
          try simp only [Act.put, List.setIfInBounds_toArray, List.set_cons_zero, List.set_cons_succ]
          refine wpAnyH_take (i := 8) (v := ?_) rfl (by kernel_rfl) (by kernel_rfl) (by kernel_rfl) (fun _ _ _ h => h) (Or.inl ⟨by kernel_rfl, ?_⟩) hH0 ?_
          rotate_left
          · intro w hSw
            try dsimp only at hSw
            go_simp
            try (with_reducible rfl)
          try simp only [Act.put, List.setIfInBounds_toArray, List.set_cons_zero, List.set_cons_succ]
          refine wpAnyH_take (i := 9) (v := ?_) rfl (by kernel_rfl) (by kernel_rfl) (by kernel_rfl) (fun _ _ _ h => h) (Or.inl ⟨by kernel_rfl, ?_⟩) hH0 ?_
          rotate_left
          · intro w hSw
            try dsimp only at hSw
            go_simp
            try (with_reducible rfl)
          try simp only [Act.put, List.setIfInBounds_toArray, List.set_cons_zero, List.set_cons_succ]
          refine wpAnyH_take (i := 10) (v := ?_) rfl (by kernel_rfl) (by kernel_rfl) (by kernel_rfl) (fun _ _ _ h => h) (Or.inl ⟨by kernel_rfl, ?_⟩) hH0 ?_
          rotate_left
          · intro w hSw
            try dsimp only at hSw
            go_simp
            try (with_reducible rfl)
          try simp only [Act.put, List.setIfInBounds_toArray, List.set_cons_zero, List.set_cons_succ]
          refine wpAnyH_ready (rs := [5]) (by kernel_rfl) (by simp) ?_
          refine AllReadyH.cons rfl (fun K hK => ?_) AllReadyH.nil
          go_simp
          refine HB.out.mono ?_
          rintro e w3 ⟨rfl, hh, hk3⟩
          have HP3 := Lib.hid (HW1.out.prog hh hk3)
          have hb3 := hk3 wr.heap.size (.inr rfl)
          have hS3 : w3.cell? ⟨wr.heap.size, 1, none⟩ = some (.int .i64 at') ∧ w3.cell? ⟨wr.heap.size, 3, none⟩ = some (.int .i64 ak) ∧ w3.cell? ⟨wr.heap.size, 4, none⟩ = some (.int .i64 acl) ∧ w3.cell? ⟨wr.heap.size, 5, none⟩ = some (.int .i64 av) :=
            ⟨(cellE hb3).trans HSS.out.1, (cellE hb3).trans HSS.out.2.1, (cellE hb3).trans HSS.out.2.2.1, (cellE hb3).trans HSS.out.2.2.2⟩
          have HRB := Lib.hid (rbegin_any r r D Lv at' ak acl av w3 HP3.out.doc (by have := HFW0.out.1; omega) (by have := HFW0.out.2; omega))
          clear hh hk3 hb3
          refine hK.out _ _ hS3 (fun hH1 => ?_)
          clear hK K
          try simp only [Act.put, List.setIfInBounds_toArray, List.set_cons_zero, List.set_cons_succ]
          clear hS3
          refine wpAnyH_ready (rs := [11]) (by kernel_rfl) (by simp) ?_
          refine AllReadyH.cons rfl (fun K hK => ?_) AllReadyH.nil
          go_simp
          refine HRB.out.mono ?_
          rintro e w4 ⟨rfl, Lv', hd, hf⟩
          obtain ⟨hp4, hk4⟩ := HP3.out.call hd hf
          have HP4 := Lib.hid (hp4.less (T := fun _ => False) (fun k e => e.elim))
          have hb4 := hk4 wr.heap.size rfl
          have hS4 : w4.cell? ⟨wr.heap.size, 1, none⟩ = some (.int .i64 at') ∧ w4.cell? ⟨wr.heap.size, 3, none⟩ = some (.int .i64 ak) ∧ w4.cell? ⟨wr.heap.size, 4, none⟩ = some (.int .i64 acl) ∧ w4.cell? ⟨wr.heap.size, 5, none⟩ = some (.int .i64 av) :=
            ⟨(cellE hb4).trans hH1.1, (cellE hb4).trans hH1.2.1, (cellE hb4).trans hH1.2.2.1, (cellE hb4).trans hH1.2.2.2⟩
          clear hd hf hp4 hk4 hb4
          rw [← HS1.out]
          refine hK.out _ _ hS4 (fun hH2 => ?_)
          clear hK K
          try simp only [Act.put, List.setIfInBounds_toArray, List.set_cons_zero, List.set_cons_succ]
          refine wpAnyH_take (i := 12) (v := ?_) rfl (by kernel_rfl) (by kernel_rfl) (by kernel_rfl) (fun _ _ _ h => h) (Or.inl ⟨by kernel_rfl, ?_⟩) hH2 ?_
          rotate_left
          · intro w hSw
            try dsimp only at hSw
            go_simp
            try (with_reducible rfl)
          try simp only [Act.put, List.setIfInBounds_toArray, List.set_cons_zero, List.set_cons_succ]
          refine wpAnyH_done (by kernel_rfl) ?_ _
          try simp only [Act.put, List.setIfInBounds_toArray, List.set_cons_zero, List.set_cons_succ, List.getElem_toArray, List.getElem_cons_succ, List.getElem_cons_zero]
          clear hH0 hH1 hH2 hS4
          generalize (c.begin at' ak av).1 = er at *
          have HX4 := Lib.hid (show PlayR w w4 h (c.begin at' ak av).2 r (D.begin at' ak acl av).2 Lv' (k + 1) from ⟨HP4.out, HS2.out, by have h1 := HFW.out; have h2 := HFW0.out; omega, by have h1 := HFW.out; have h2 := HFW0.out; omega, by have h1 := HFW.out; have h2 := HFW0.out; omega⟩)
          generalize (c.begin at' ak av).2 = c' at *
          generalize (D.begin at' ak acl av).2 = D' at *
          have k2 := HX4.out.1.doc.k2
          have CV : Hid (∀ n, Calls Try.prog 14 #[.pointer (some ⟨h, 0, none⟩)] (w4.drewN n) fun e w' => e = .returned (.int .i64 D'.value) ∧ w' = w4.drewN n) := Lib.hid (fun n => by
            have := value_lives h (9 * (k + 1)) c' w (w4.drewN n) (HX4.out.1.held.lives.up ((Up.refl w4).drewN n))
            rw [HX4.out.2.1.value] at this
            exact this)
          have CB : Hid (∀ n, Calls Try.prog 15 #[.pointer (some ⟨h, 0, none⟩)] (w4.drewN n) fun e w' => e = .returned (.int .i64 (busyD D' 8)) ∧ w' = w4.drewN n) := Lib.hid (fun n => by
            have := busy_lives h (9 * (k + 1)) c' w (w4.drewN n) (HX4.out.1.held.lives.up ((Up.refl w4).drewN n))
            rw [HX4.out.2.1.busy 8 (Nat.le_refl _)] at this
            exact this)
          have CRB : Hid (∀ n, Calls Try.prog 16 #[.pointer (some ⟨r, 0, none⟩)] (w4.drewN n) fun e w' => e = .returned (.int .i64 (busyD D' 8)) ∧ w' = w4.drewN n) := Lib.hid (fun n =>
            rbusy_any r r D' Lv' (w4.drewN n) (HX4.out.1.doc.up ((Up.refl w4).drewN n)) (by have := HX4.out.2.2.1; omega))
          generalize busyD D' 8 = y at *
          generalize D'.value = x at *
          go_wp2_with fail
          clear HS2 HFW HFW0 HP4 HS
          go_quiet (first | (go_at_call 14; exact Calls.quiet_of_same (CV.out _)) | (go_at_call 15; exact Calls.quiet_of_same (CB.out _)) | (go_at_call 16; exact Calls.quiet_of_same (CRB.out _)))
          go_wp2_with fail
          go_roundw
          case rel => exact ⟨k + 1, c', D', Lv', by omega, by go_num, Lib.hid ⟨(HX4.out.1.up ((Up.refl w4).drewN _)).less (fun _ e => e.elim), HX4.out.2⟩⟩
          case measure => simp [intOf]; omega
        · have hu3 : Up wr (wr.alloc (.cells #[.bool true, .int .i64 at', .int .i64 an, .int .i64 ak, .int .i64 acl, .int .i64 av] 33)) := (Up.refl wr).alloc _
          have hbx := heap_alloc_new wr (.cells #[.bool true, .int .i64 at', .int .i64 an, .int .i64 ak, .int .i64 acl, .int .i64 av] 33)
          have hsz : (wr.alloc (.cells #[.bool true, .int .i64 at', .int .i64 an, .int .i64 ak, .int .i64 acl, .int .i64 av] 33)).heap.size = wr.heap.size + 1 := by simp
          have HW1 := Lib.hid ((HS.out.1.up hu3).less (T := fun k => k = wr.heap.size) (fun k e => .inr (by rw [hsz]; omega)))
          have HB := Lib.hid (end_held h (9 * k) c at' an w _ _ HW1.out.held (by omega))
          obtain ⟨hs1, hs2, hs3⟩ := end_sim HS.out.2.1 HS.out.2.2.2.1 at' an
          have HBX := Lib.hid hbx
          have HS1 := Lib.hid (And.intro hs1 hs2)
          have HS2 := Lib.hid hs3
          have HFW := Lib.hid (D.endA_few at' an)
          have HFW0 := Lib.hid HS.out.2.2
          clear hbx hsz hu3 hs1 hs2 hs3
          go_wp2_with fail
          refine HB.out.mono ?_
          rintro e w3 ⟨rfl, hh, hk3⟩
          have HP3 := Lib.hid (HW1.out.prog hh hk3)
          have hb3 := (hk3 wr.heap.size (.inr rfl)).trans HBX.out
          have d1 := cell_of_row _ _ 1 _ _ _ hb3
          have d2 := cell_of_row _ _ 2 _ _ _ hb3
          simp only [List.getElem?_toArray, List.getElem?_cons_zero, List.getElem?_cons_succ] at d1 d2
          have HRB := Lib.hid (rend_any r r D Lv at' an w3 HP3.out.doc (by have := HFW0.out.1; omega) (by have := HFW0.out.2; omega))
          clear hh hk3 hb3 g0' g1 g2 g3 g4 g5
          go_wp2_with fail
          refine HRB.out.mono ?_
          rintro e w4 ⟨rfl, Lv', hd, hf⟩
          obtain ⟨hp4, hk4⟩ := HP3.out.call hd hf
          have HP4 := Lib.hid (show PlayW w w4 h (c.endA at' an).2.2 (9 * k + 9) r r (D.endA at' an).2.2 Lv' (fun _ => False) from by
            obtain ⟨⟨y1, y2, y3, y4⟩, z1, z2, z3⟩ := hp4.less (T := fun _ => False) (fun k e => e.elim)
            exact ⟨⟨y1, y2, y3.more (by omega), y4⟩, z1, z2, z3⟩)
          clear hd hf hp4 hk4 d1 d2
          rw [← HS1.out.1, ← HS1.out.2]
          generalize (c.endA at' an).1 = ev at *
          generalize (c.endA at' an).2.1 = er at *
          have HX4 := Lib.hid (show PlayR w w4 h (c.endA at' an).2.2 r (D.endA at' an).2.2 Lv' (k + 1) from ⟨HP4.out, HS2.out, by have h1 := HFW.out; have h2 := HFW0.out; omega, by have h1 := HFW.out; have h2 := HFW0.out; omega, by have h1 := HFW.out; have h2 := HFW0.out; omega⟩)
          generalize (c.endA at' an).2.2 = c' at *
          generalize (D.endA at' an).2.2 = D' at *
          have k2 := HX4.out.1.doc.k2
          have CV : Hid (∀ n, Calls Try.prog 14 #[.pointer (some ⟨h, 0, none⟩)] (w4.drewN n) fun e w' => e = .returned (.int .i64 D'.value) ∧ w' = w4.drewN n) := Lib.hid (fun n => by
            have := value_lives h (9 * (k + 1)) c' w (w4.drewN n) (HX4.out.1.held.lives.up ((Up.refl w4).drewN n))
            rw [HX4.out.2.1.value] at this
            exact this)
          have CB : Hid (∀ n, Calls Try.prog 15 #[.pointer (some ⟨h, 0, none⟩)] (w4.drewN n) fun e w' => e = .returned (.int .i64 (busyD D' 8)) ∧ w' = w4.drewN n) := Lib.hid (fun n => by
            have := busy_lives h (9 * (k + 1)) c' w (w4.drewN n) (HX4.out.1.held.lives.up ((Up.refl w4).drewN n))
            rw [HX4.out.2.1.busy 8 (Nat.le_refl _)] at this
            exact this)
          have CRB : Hid (∀ n, Calls Try.prog 16 #[.pointer (some ⟨r, 0, none⟩)] (w4.drewN n) fun e w' => e = .returned (.int .i64 (busyD D' 8)) ∧ w' = w4.drewN n) := Lib.hid (fun n =>
            rbusy_any r r D' Lv' (w4.drewN n) (HX4.out.1.doc.up ((Up.refl w4).drewN n)) (by have := HX4.out.2.2.1; omega))
          generalize busyD D' 8 = y at *
          generalize D'.value = x at *
          go_wp2_with fail
          clear HS2 HFW HFW0 HP4 HS
          go_quiet (first | (go_at_call 14; exact Calls.quiet_of_same (CV.out _)) | (go_at_call 15; exact Calls.quiet_of_same (CB.out _)) | (go_at_call 16; exact Calls.quiet_of_same (CRB.out _)))
          go_wp2_with fail
          go_roundw
          case rel => exact ⟨k + 1, c', D', Lv', by omega, by go_num, Lib.hid ⟨(HX4.out.1.up ((Up.refl w4).drewN _)).less (fun _ e => e.elim), HX4.out.2⟩⟩
          case measure => simp [intOf]; omega
      · obtain rfl : k = l.length := by omega
        clear hlt
        go_wp2_with fail
        refine (HAL.out _).mono ?_
        rintro e w2 ⟨rfl, hU⟩
        go_wp2_with fail
        go_ret
        exact ⟨rfl, HS.out.1.held.2.1.trans hU⟩
  · have z1 : ((80 : Int) < (l.length : Int)) = True := by simp; omega
    clear hr
    go_enter Try.func3, Try.ntmps3
    go_wp2_with fail
    refine (HAL.out _).mono ?_
    rintro e w1 ⟨rfl, hU⟩
    go_wp2_with fail
    go_ret
    exact ⟨rfl, hU⟩

end Go.Proofs.Ytpapcheliohacaa
