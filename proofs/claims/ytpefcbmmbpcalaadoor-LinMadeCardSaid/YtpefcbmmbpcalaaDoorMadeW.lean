/-
  LinMade's walk.
-/
import Derived.Test.YtpefcbmmbpcalaaDoorMadeP
import Derived.Test.YtpefcbmmbpcalaaDoorRFin
set_option linter.unusedVariables false
set_option linter.unusedSimpArgs false
namespace Go.Proofs.YtpefcbmmbpcalaaDoor
open Go.RowKit

set_option maxRecDepth 10000 in
set_option maxHeartbeats 4000000 in
theorem linMade_any (l : List T3) (A : Option Addr) (c : Nat) (cut : Nat) (w : World) (hl : l.length ≤ 9223372036854775807) (hcut : cut ≤ 255) (hr : TRow w A l) (hv : ∀ o ∈ l, o.a ≤ 255 ∧ o.b ≤ 255 ∧ o.c ≤ 255) (hT0 : TabT w) :
    Calls Tryd.prog 7 #[.slice A l.length c, .int .u8 (cut : Int)] w fun e w' => e = .returned (.bool true) ∧ Up w w' := by
  have HAL := Lib.hid (fun W (u : Up w W) => alive21_any W (hT0.up u))
  by_cases h16 : l.length ≤ 16
  · have hl16 : (l.length : Int) ≤ 16 := by omega
    obtain ⟨q, hq⟩ : ∃ q, q = cut % 3 := ⟨_, rfl⟩
    have hqt : Int.tmod (cut : Int) 3 = (q : Int) := by rw [hq]; rfl
    have hq3 : q < 3 := by rw [hq]; exact Nat.mod_lt _ (by decide)
    have hq0 : (0 : Int) ≤ (q : Int) := by omega
    have hq3i : (q : Int) < 3 := by omega
    have hcut0 : (0 : Int) ≤ (cut : Int) := by omega
    have hcut1 : (cut : Int) ≤ 255 := by omega
    obtain ⟨i0, hi, hz0, hz1, hz2⟩ := opartsL infoOpL
    have HI := Lib.hid hi
    have HZ0 := Lib.hid hz0
    have HZ1 := Lib.hid hz1
    have HZ2 := Lib.hid hz2
    have HT := Lib.hid hT0
    have HR := Lib.hid hr
    have HVS := Lib.hid hv
    have HL16 := Lib.hid h16
    have HVL := Lib.hid (madeV_le hv)
    have HO0 : Hid (OwnO w w.heap.size (.slice none 0 0) (madeL l q 0)) := Lib.hid (World.ownsRow_nil _ _ _ _)
    have HV3 : Hid ((3 : Int) = (madeV l 0 : Nat)) := Lib.hid rfl
    clear hi hz0 hz1 hz2 hT0 hr hv hl h16 hq hq3 hcut
    go_enter Tryd.func7, Tryd.ntmps7
    go_wp2_with fail
    go_loopw [5, 6, 7] (fun v y x wr => ∃ i : Nat, i ≤ l.length ∧ x = .int .i64 i ∧ y = .int .i64 (madeV l i : Nat) ∧ Hid (OwnO wr w.heap.size v (madeL l q i)) ∧ Hid (Up w wr)) (fun _ _ x _ => l.length - (intOf x).toNat)
    case atStart => exact ⟨0, by omega, rfl, by rw [← HV3.out], HO0, Lib.hid (Up.refl _)⟩
    case round =>
      obtain ⟨i, hik, rfl, rfl, HO, HV⟩ := hrel
      by_cases hlt : i < l.length
      · have hii : (i : Int) < (l.length : Int) := by omega
        have hi0 : (0 : Int) ≤ (i : Int) := by omega
        have HLT := Lib.hid hlt
        obtain ⟨ba, bb, bc⟩ : (t3 l i).a ≤ 255 ∧ (t3 l i).b ≤ 255 ∧ (t3 l i).c ≤ 255 := HVS.out _ (by unfold t3; rw [List.getD_eq_getElem?_getD, List.getElem?_eq_getElem hlt]; exact List.getElem_mem hlt)
        obtain ⟨bk, off, rfl, x0, x1, x2⟩ := HR.out.up HV.out i hlt
        have HMO : Hid (madeO l q i = ⟨10 * ((i : Int) + 1) - ((t3 l i).a % 9 : Nat), if penB l.length q i then -1 else 10 * ((i : Int) + 1) + ((t3 l i).b % 9 : Nat), decide ((t3 l i).c % 2 = 0), if penB l.length q i && !decide ((t3 l i).c % 2 = 0) then 0 else (madeV l (i + 1) : Nat), ((i % 8 : Nat) : Int)⟩) := Lib.hid rfl
        have HMV : Hid (madeV l (i + 1) = if (t3 l i).c % 2 = 0 then (t3 l i).c / 2 else madeV l i) := Lib.hid rfl
        have hta : Int.tmod (((l.getD i t30).a : Nat) : Int) 9 = (((t3 l i).a % 9 : Nat) : Int) := rfl
        have htb : Int.tmod (((l.getD i t30).b : Nat) : Int) 9 = (((t3 l i).b % 9 : Nat) : Int) := rfl
        have htc : Int.tmod (((l.getD i t30).c : Nat) : Int) 2 = (((t3 l i).c % 2 : Nat) : Int) := rfl
        have hti : Int.tmod (i : Int) 8 = ((i % 8 : Nat) : Int) := rfl
        have htd : Int.tdiv (((l.getD i t30).c : Nat) : Int) 2 = (((t3 l i).c / 2 : Nat) : Int) := rfl
        have hvl := HVL.out i
        have hvl1 : ((madeV l i : Nat) : Int) ≤ 255 := by omega
        have hvl0 : (0 : Int) ≤ ((madeV l i : Nat) : Int) := by omega
        have a9 : (t3 l i).a % 9 < 9 := Nat.mod_lt _ (by decide)
        have b9 : (t3 l i).b % 9 < 9 := Nat.mod_lt _ (by decide)
        have e0 : l.getD i t30 = t3 l i := rfl
        rw [e0] at x0 x1 x2 hta htb htc htd
        generalize hA : (t3 l i).a % 9 = a' at *
        generalize hB : (t3 l i).b % 9 = b' at *
        generalize hC2 : (t3 l i).c % 2 = c2 at *
        generalize hCd : (t3 l i).c / 2 = cd at *
        have hcd : cd ≤ 127 := by omega
        have hc2 : c2 < 2 := by omega
        generalize t3 l i = tt at *
        obtain ⟨ta, tb, tc⟩ := tt
        dsimp only at x0 x1 x2 hta htb htc htd ba bb bc hA hB hC2 hCd
        have ba0 : (0 : Int) ≤ (ta : Int) := by omega
        have ba1 : (ta : Int) ≤ 255 := by omega
        have bb0 : (0 : Int) ≤ (tb : Int) := by omega
        have bb1 : (tb : Int) ≤ 255 := by omega
        have bc0 : (0 : Int) ≤ (tc : Int) := by omega
        have bc1 : (tc : Int) ≤ 255 := by omega
        have a90 : (0 : Int) ≤ (a' : Int) := by omega
        have a91 : (a' : Int) < 9 := by omega
        have b90 : (0 : Int) ≤ (b' : Int) := by omega
        have b91 : (b' : Int) < 9 := by omega
        have c20 : (0 : Int) ≤ (c2 : Int) := by omega
        have c21 : (c2 : Int) < 2 := by omega
        have hi16 : (i : Int) < 16 := by omega
        clear hA hB hC2 hCd e0 hvl hlt hik
        go_wp2_with fail
        have hSS : wr.cell? ⟨bk, off + i * 3, none⟩ = some (.int .u8 (ta : Int)) ∧ wr.cell? ⟨bk, off + i * 3 + 1, none⟩ = some (.int .u8 (tb : Int)) ∧ wr.cell? ⟨bk, off + i * 3 + 2, none⟩ = some (.int .u8 (tc : Int)) := ⟨x0, x1, x2⟩
        have HUS := Lib.hid (fun W (u : Up wr W) => (show W.cell? ⟨bk, off + i * 3, none⟩ = some (.int .u8 (ta : Int)) ∧ W.cell? ⟨bk, off + i * 3 + 1, none⟩ = some (.int .u8 (tb : Int)) ∧ W.cell? ⟨bk, off + i * 3 + 2, none⟩ = some (.int .u8 (tc : Int)) from ⟨(u.cell (cell_lt hSS.1)).trans hSS.1, (u.cell (cell_lt hSS.2.1)).trans hSS.2.1, (u.cell (cell_lt hSS.2.2)).trans hSS.2.2⟩))
        refine wp_region_held_drew (S := fun w' => w'.cell? ⟨bk, off + i * 3, none⟩ = some (.int .u8 (ta : Int)) ∧ w'.cell? ⟨bk, off + i * 3 + 1, none⟩ = some (.int .u8 (tb : Int)) ∧ w'.cell? ⟨bk, off + i * 3 + 2, none⟩ = some (.int .u8 (tc : Int))) (by kernel_rfl) hSS (fun hH0 => ?_)
        clear hSS x0 x1 x2
        refine wpAnyH_take (i := 0) (v := ?_) rfl (by kernel_rfl) (by kernel_rfl) (by kernel_rfl) (fun _ _ _ h => h) (Or.inl ⟨by kernel_rfl, ?_⟩) hH0 ?_
        rotate_left
        · intro w hSw
          try dsimp only at hSw
          go_simp
          try (with_reducible rfl)
        try simp only [Act.put, List.setIfInBounds_toArray, List.set_cons_zero, List.set_cons_succ]
        refine wpAnyH_take (i := 1) (v := ?_) rfl (by kernel_rfl) (by kernel_rfl) (by kernel_rfl) (fun _ _ _ h => h) (Or.inl ⟨by kernel_rfl, ?_⟩) hH0 ?_
        rotate_left
        · intro w hSw
          try dsimp only at hSw
          go_simp
          try (with_reducible rfl)
        try simp only [Act.put, List.setIfInBounds_toArray, List.set_cons_zero, List.set_cons_succ]
        refine wpAnyH_take (i := 2) (v := ?_) rfl (by kernel_rfl) (by kernel_rfl) (by kernel_rfl) (fun _ _ _ h => h) (Or.inl ⟨by kernel_rfl, ?_⟩) hH0 ?_
        rotate_left
        · intro w hSw
          try dsimp only at hSw
          go_simp
          try (with_reducible rfl)
        try simp only [Act.put, List.setIfInBounds_toArray, List.set_cons_zero, List.set_cons_succ]
        refine wpAnyH_take (i := 3) (v := ?_) rfl (by kernel_rfl) (by kernel_rfl) (by kernel_rfl) (fun _ _ _ h => h) (Or.inl ⟨by kernel_rfl, ?_⟩) hH0 ?_
        rotate_left
        · intro w hSw
          try dsimp only at hSw
          go_simp
          try (with_reducible rfl)
        try simp only [Act.put, List.setIfInBounds_toArray, List.set_cons_zero, List.set_cons_succ]
        refine wpAnyH_take (i := 4) (v := ?_) rfl (by kernel_rfl) (by kernel_rfl) (by kernel_rfl) (fun _ _ _ h => h) (Or.inl ⟨by kernel_rfl, ?_⟩) hH0 ?_
        rotate_left
        · intro w hSw
          try dsimp only at hSw
          go_simp
          try (with_reducible rfl)
        try simp only [Act.put, List.setIfInBounds_toArray, List.set_cons_zero, List.set_cons_succ]
        refine wpAnyH_take (i := 5) (v := ?_) rfl (by kernel_rfl) (by kernel_rfl) (by kernel_rfl) (fun _ _ _ h => h) (Or.inl ⟨by kernel_rfl, ?_⟩) hH0 ?_
        rotate_left
        · intro w hSw
          try dsimp only at hSw
          go_simp
          try (with_reducible rfl)
        try simp only [Act.put, List.setIfInBounds_toArray, List.set_cons_zero, List.set_cons_succ]
        refine wpAnyH_take (i := 6) (v := ?_) rfl (by kernel_rfl) (by kernel_rfl) (by kernel_rfl) (fun _ _ _ h => h) (Or.inl ⟨by kernel_rfl, ?_⟩) hH0 ?_
        rotate_left
        · intro w hSw
          try dsimp only at hSw
          go_simp
          try (with_reducible rfl)
        try simp only [Act.put, List.setIfInBounds_toArray, List.set_cons_zero, List.set_cons_succ]
        refine wpAnyH_take (i := 7) (v := ?_) rfl (by kernel_rfl) (by kernel_rfl) (by kernel_rfl) (fun _ _ _ h => h) (Or.inl ⟨by kernel_rfl, ?_⟩) hH0 ?_
        rotate_left
        · intro w hSw
          try dsimp only at hSw
          go_simp
          try (with_reducible rfl)
        try simp only [Act.put, List.setIfInBounds_toArray, List.set_cons_zero, List.set_cons_succ]
        refine wpAnyH_take (i := 8) (v := ?_) rfl (by kernel_rfl) (by kernel_rfl) (by kernel_rfl) (fun _ _ _ h => h) (Or.inl ⟨by kernel_rfl, ?_⟩) hH0 ?_
        rotate_left
        · intro w hSw
          try dsimp only at hSw
          go_simp
          try (with_reducible rfl)
        try simp only [Act.put, List.setIfInBounds_toArray, List.set_cons_zero, List.set_cons_succ]
        refine wpAnyH_take (i := 9) (v := ?_) rfl (by kernel_rfl) (by kernel_rfl) (by kernel_rfl) (fun _ _ _ h => h) (Or.inl ⟨by kernel_rfl, ?_⟩) hH0 ?_
        rotate_left
        · intro w hSw
          try dsimp only at hSw
          go_simp
          try (with_reducible rfl)
        try simp only [Act.put, List.setIfInBounds_toArray, List.set_cons_zero, List.set_cons_succ]
        refine wpAnyH_take (i := 10) (v := ?_) rfl (by kernel_rfl) (by kernel_rfl) (by kernel_rfl) (fun _ _ _ h => h) (Or.inl ⟨by kernel_rfl, ?_⟩) hH0 ?_
        rotate_left
        · intro w hSw
          try dsimp only at hSw
          go_simp
          try (with_reducible rfl)
        try simp only [Act.put, List.setIfInBounds_toArray, List.set_cons_zero, List.set_cons_succ]
        refine wpAnyH_take (i := 11) (v := ?_) rfl (by kernel_rfl) (by kernel_rfl) (by kernel_rfl) (fun _ _ _ h => h) (Or.inl ⟨by kernel_rfl, ?_⟩) hH0 ?_
        rotate_left
        · intro w hSw
          try dsimp only at hSw
          go_simp
          try (with_reducible rfl)
        try simp only [Act.put, List.setIfInBounds_toArray, List.set_cons_zero, List.set_cons_succ]
        refine wpAnyH_take (i := 12) (v := ?_) rfl (by kernel_rfl) (by kernel_rfl) (by kernel_rfl) (fun _ _ _ h => h) (Or.inl ⟨by kernel_rfl, ?_⟩) hH0 ?_
        rotate_left
        · intro w hSw
          try dsimp only at hSw
          go_simp
          try (with_reducible rfl)
        try simp only [Act.put, List.setIfInBounds_toArray, List.set_cons_zero, List.set_cons_succ]
        refine wpAnyH_take (i := 13) (v := ?_) rfl (by kernel_rfl) (by kernel_rfl) (by kernel_rfl) (fun _ _ _ h => h) (Or.inl ⟨by kernel_rfl, ?_⟩) hH0 ?_
        rotate_left
        · intro w hSw
          try dsimp only at hSw
          go_simp
          try (with_reducible rfl)
        try simp only [Act.put, List.setIfInBounds_toArray, List.set_cons_zero, List.set_cons_succ]
        refine wpAnyH_take (i := 14) (v := ?_) rfl (by kernel_rfl) (by kernel_rfl) (by kernel_rfl) (fun _ _ _ h => h) (Or.inl ⟨by kernel_rfl, ?_⟩) hH0 ?_
        rotate_left
        · intro w hSw
          try dsimp only at hSw
          go_simp
          try (with_reducible rfl)
        try simp only [Act.put, List.setIfInBounds_toArray, List.set_cons_zero, List.set_cons_succ]
        refine wpAnyH_take (i := 15) (v := ?_) rfl (by kernel_rfl) (by kernel_rfl) (by kernel_rfl) (fun _ _ _ h => h) (Or.inl ⟨by kernel_rfl, ?_⟩) hH0 ?_
        rotate_left
        · intro w hSw
          try dsimp only at hSw
          go_simp
          try (with_reducible rfl)
        try simp only [Act.put, List.setIfInBounds_toArray, List.set_cons_zero, List.set_cons_succ]
        refine wpAnyH_take (i := 16) (v := ?_) rfl (by kernel_rfl) (by kernel_rfl) (by kernel_rfl) (fun _ _ _ h => h) (Or.inl ⟨by kernel_rfl, ?_⟩) hH0 ?_
        rotate_left
        · intro w hSw
          try dsimp only at hSw
          go_simp
          try (with_reducible rfl)
        try simp only [Act.put, List.setIfInBounds_toArray, List.set_cons_zero, List.set_cons_succ]
        refine wpAnyH_take (i := 17) (v := ?_) rfl (by kernel_rfl) (by kernel_rfl) (by kernel_rfl) (fun _ _ _ h => h) (Or.inl ⟨by kernel_rfl, ?_⟩) hH0 ?_
        rotate_left
        · intro w hSw
          try dsimp only at hSw
          go_simp
          try (with_reducible rfl)
        try simp only [Act.put, List.setIfInBounds_toArray, List.set_cons_zero, List.set_cons_succ]
        refine wpAnyH_take (i := 18) (v := ?_) rfl (by kernel_rfl) (by kernel_rfl) (by kernel_rfl) (fun _ _ _ h => h) (Or.inl ⟨by kernel_rfl, ?_⟩) hH0 ?_
        rotate_left
        · intro w hSw
          try dsimp only at hSw
          go_simp
          try (with_reducible rfl)
        try simp only [Act.put, List.setIfInBounds_toArray, List.set_cons_zero, List.set_cons_succ]
        refine wpAnyH_take (i := 19) (v := ?_) rfl (by kernel_rfl) (by kernel_rfl) (by kernel_rfl) (fun _ _ _ h => h) (Or.inl ⟨by kernel_rfl, ?_⟩) hH0 ?_
        rotate_left
        · intro w hSw
          try dsimp only at hSw
          go_simp
          try (with_reducible rfl)
        try simp only [Act.put, List.setIfInBounds_toArray, List.set_cons_zero, List.set_cons_succ]
        refine wpAnyH_take (i := 20) (v := ?_) rfl (by kernel_rfl) (by kernel_rfl) (by kernel_rfl) (fun _ _ _ h => h) (Or.inl ⟨by kernel_rfl, ?_⟩) hH0 ?_
        rotate_left
        · intro w hSw
          try dsimp only at hSw
          go_simp
          try (with_reducible rfl)
        try simp only [Act.put, List.setIfInBounds_toArray, List.set_cons_zero, List.set_cons_succ]
        refine wpAnyH_take (i := 21) (v := ?_) rfl (by kernel_rfl) (by kernel_rfl) (by kernel_rfl) (fun _ _ _ h => h) (Or.inl ⟨by kernel_rfl, ?_⟩) hH0 ?_
        rotate_left
        · intro w hSw
          try dsimp only at hSw
          go_simp
          try (with_reducible rfl)
        try simp only [Act.put, List.setIfInBounds_toArray, List.set_cons_zero, List.set_cons_succ]
        refine wpAnyH_take (i := 22) (v := ?_) rfl (by kernel_rfl) (by kernel_rfl) (by kernel_rfl) (fun _ _ _ h => h) (Or.inl ⟨by kernel_rfl, ?_⟩) hH0 ?_
        rotate_left
        · intro w hSw
          try dsimp only at hSw
          go_simp
          try (with_reducible rfl)
        try simp only [Act.put, List.setIfInBounds_toArray, List.set_cons_zero, List.set_cons_succ]
        refine wpAnyH_take (i := 23) (v := ?_) rfl (by kernel_rfl) (by kernel_rfl) (by kernel_rfl) (fun _ _ _ h => h) (Or.inl ⟨by kernel_rfl, ?_⟩) hH0 ?_
        rotate_left
        · intro w hSw
          try dsimp only at hSw
          go_simp
          try (with_reducible rfl)
        try simp only [Act.put, List.setIfInBounds_toArray, List.set_cons_zero, List.set_cons_succ]
        refine wpAnyH_take (i := 24) (v := ?_) rfl (by kernel_rfl) (by kernel_rfl) (by kernel_rfl) (fun _ _ _ h => h) (Or.inl ⟨by kernel_rfl, ?_⟩) hH0 ?_
        rotate_left
        · intro w hSw
          try dsimp only at hSw
          go_simp
          try (with_reducible rfl)
        try simp only [Act.put, List.setIfInBounds_toArray, List.set_cons_zero, List.set_cons_succ]
        refine wpAnyH_take (i := 25) (v := ?_) rfl (by kernel_rfl) (by kernel_rfl) (by kernel_rfl) (fun _ _ _ h => h) (Or.inl ⟨by kernel_rfl, ?_⟩) hH0 ?_
        rotate_left
        · intro w hSw
          try dsimp only at hSw
          go_simp
          try (with_reducible rfl)
        try simp only [Act.put, List.setIfInBounds_toArray, List.set_cons_zero, List.set_cons_succ]
        refine wpAnyH_take (i := 26) (v := ?_) rfl (by kernel_rfl) (by kernel_rfl) (by kernel_rfl) (fun _ _ _ h => h) (Or.inl ⟨by kernel_rfl, ?_⟩) hH0 ?_
        rotate_left
        · intro w hSw
          try dsimp only at hSw
          go_simp
          try (with_reducible rfl)
        try simp only [Act.put, List.setIfInBounds_toArray, List.set_cons_zero, List.set_cons_succ]
        refine wpAnyH_take (i := 27) (v := ?_) rfl (by kernel_rfl) (by kernel_rfl) (by kernel_rfl) (fun _ _ _ h => h) (Or.inl ⟨by kernel_rfl, ?_⟩) hH0 ?_
        rotate_left
        · intro w hSw
          try dsimp only at hSw
          go_simp
          try (with_reducible rfl)
        try simp only [Act.put, List.setIfInBounds_toArray, List.set_cons_zero, List.set_cons_succ]
        refine wpAnyH_ready (rs := [28]) (by kernel_rfl) (by simp) ?_
        refine AllReadyH.cons rfl (fun K hK => ?_) AllReadyH.nil
        go_simp
        have HUA := Lib.hid ((Up.refl wr).drew.alloc (.cells #[.int .i64 0, .int .i64 0, .bool false, .int .i64 0, .int .i64 0] 28))
        refine hK.out _ _ (HUS.out _ HUA.out) (fun hH1 => ?_)
        clear hK K
        try simp only [Act.put, List.setIfInBounds_toArray, List.set_cons_zero, List.set_cons_succ]
        refine wpAnyH_ready (rs := [29]) (by kernel_rfl) (by simp) ?_
        refine AllReadyH.cons rfl (fun K hK => ?_) AllReadyH.nil
        go_simp
        have HUB := Lib.hid (fun cs => (Up.refl wr).drew.alloc (.cells cs 28))
        refine hK.out _ _ (HUS.out _ (HUB.out _)) (fun hH2 => ?_)
        clear hK K
        try simp only [Act.put, List.setIfInBounds_toArray, List.set_cons_zero, List.set_cons_succ]
        refine wpAnyH_done (by kernel_rfl) ?_ _
        try simp only [Act.put, List.setIfInBounds_toArray, List.set_cons_zero, List.set_cons_succ, List.getElem_toArray, List.getElem_cons_succ, List.getElem_cons_zero]
        clear hH0 hH1 hH2
        have e1 : IntKind.i64.wrap (a' : Int) = a' := IntWalk.i64_in _ (by omega)
        have e2 : IntKind.i64.wrap (b' : Int) = b' := IntWalk.i64_in _ (by omega)
        have e3 : IntKind.i64.wrap (10 * ((i : Int) + 1) - (a' : Int)) = 10 * ((i : Int) + 1) - (a' : Int) := IntWalk.i64_in _ (by omega)
        have e4 : IntKind.i64.wrap (10 * ((i : Int) + 1) + (b' : Int)) = 10 * ((i : Int) + 1) + (b' : Int) := IntWalk.i64_in _ (by omega)
        have e5 : (i : Int) % 8 = ((i % 8 : Nat) : Int) := by omega
        simp only [e1, e2, e3, e4, e5]
        obtain ⟨wb, hwb⟩ : ∃ wb, wb = ((c2 : Int) == 0) := ⟨_, rfl⟩
        have hwd : decide (c2 = 0) = wb := by
          rw [hwb]
          by_cases h : c2 = 0
          · rw [decide_eq_true h, h]; rfl
          · rw [decide_eq_false h]; exact (beq_eq_false_iff_ne.2 (by omega)).symm
        rw [← hwb]
        have P9 := Box5.start ⟨10 * ((i : Int) + 1) - (a' : Int), 10 * ((i : Int) + 1) + (b' : Int), wb, 0, ((i % 8 : Nat) : Int)⟩ HO.out HV.out
        have hx := HUS.out _ (((Up.refl wr).alloc (.cells #[.int .i64 (10 * ((i : Int) + 1) - (a' : Int)), .int .i64 (10 * ((i : Int) + 1) + (b' : Int)), .bool wb, .int .i64 0, .int .i64 ((i % 8 : Nat) : Int)] 28)).drew)
        dsimp only at P9
        generalize (wr.alloc (.cells #[.int .i64 (10 * ((i : Int) + 1) - (a' : Int)), .int .i64 (10 * ((i : Int) + 1) + (b' : Int)), .bool wb, .int .i64 0, .int .i64 ((i % 8 : Nat) : Int)] 28)).drew = W9 at *
        obtain ⟨gb, hgb⟩ : ∃ gb, wr.heap.size = gb := ⟨_, rfl⟩
        rw [hgb] at P9 ⊢
        have HP9 := Lib.hid P9
        have x2 := hx.2.2
        rw [hwd] at HMO
        have HMV2 : Hid (madeV l (i + 1) = if wb then cd else madeV l i) := Lib.hid (by rw [HMV.out, ← hwd]; simp)
        have hf1 : (10 : Int) * ((i : Int) + 1) ≤ 160 := by omega
        clear hgb hx P9 e1 e2 e3 e4 e5 hwb hwd HUA HUB HUS hta htb htc HMV
        generalize ((i % 8 : Nat) : Int) = th at *
        generalize hfr : 10 * ((i : Int) + 1) - (a' : Int) = fr at *
        generalize hto : 10 * ((i : Int) + 1) + (b' : Int) = tO at *
        clear hfr hto
        obtain ⟨y0, y1, y2, y3, y4⟩ := box_cells HP9.out.at0
        have f3 := HP9.out.frozen 3
        by_cases hpe : l.length ≤ i + q
        · have hpb : penB l.length q i = true := decide_eq_true hpe
          have hge : (l.length : Int) - (q : Int) ≤ (i : Int) := by omega
          have hgd : decide ((l.length : Int) - (q : Int) ≤ (i : Int)) = true := decide_eq_true hge
          rw [hpb] at HMO
          clear hpe hpb
          cases wb
          · have HP10 := Lib.hid (HP9.out.val ((madeV l i : Nat) : Int))
            obtain ⟨z0, z1, z2, z3, z4⟩ := box_cells HP10.out.at0
            have g1 := HP10.out.frozen 1
            have HP11 := Lib.hid (HP10.out.to (-1))
            obtain ⟨s0, s1, s2, s3, s4⟩ := box_cells HP11.out.at0
            have h3 := HP11.out.frozen 3
            have HP12 := Lib.hid (HP11.out.val 0)
            obtain ⟨r0, r1, r2, r3, r4⟩ := box_cells HP12.out.at0
            have HOX := Lib.hid (show World.ownsRow _ w.heap.size 28 5 _ i (ocells (madeL l q i)) from by have := HP12.out.own; unfold OwnO at this; rw [madeL_len] at this; exact this)
            have HSZ := Lib.hid HP12.out.up.size
            have HLB : Hid ((i + 1) * 40 ≤ 140737488355328) := Lib.hid (by have := HLT.out; have := HL16.out; omega)
            have HUX := Lib.hid HP12.out.up
            have HFO : Hid (madeO l q i = ⟨fr, (-1), false, 0, th⟩) := Lib.hid (by rw [HMO.out]; simp [HMV2.out])
            have HNV : Hid (((madeV l (i + 1) : Nat) : Int) = ((madeV l i : Nat) : Int)) := Lib.hid (by rw [HMV2.out]; rfl)
            clear HMO HMV2 HP9 HP10 HP11 HP12
            go_wp2_with (at_builtin; refine wpList_push (news := [.int .i64 fr, .int .i64 (-1), .bool false, .int .i64 0, .int .i64 th]) rfl (.tmp 79) (.tmp 81) 22 rfl w.heap.size i0 (.agg #[.int .i64 0, .int .i64 0, .bool false, .int .i64 0, .int .i64 0]) 5 40 Tryd.underlying22 HI.out HZ0.out HZ1.out HZ2.out rfl (by decide) _ i (ocells (madeL l q i)) rfl HOX.out (by show Value.slice (some ⟨W9.heap.size, 0, none⟩) 1 1 = _; simp) rfl (by simp [Value.oneCell']) (by decide) HLB.out HSZ.out ?_; intro v2 w2 hown2 _ hbl2)
            have HO2 : Hid (OwnO w2 w.heap.size v2 (madeL l q (i + 1))) := Lib.hid (by
              unfold OwnO
              rw [madeL_len, madeL_succ, ocells_append, HFO.out]
              exact hown2)
            have HU2 := Lib.hid (Below.trans HUX.out hbl2)
            clear hown2 hbl2
            go_wp2_with fail
            go_roundw
            case rel => exact ⟨i + 1, HLT.out, by go_num, by rw [HNV.out], HO2, HU2⟩
            case measure => simp [intOf]; omega
          · have HP10 := Lib.hid (HP9.out.val (cd : Int))
            obtain ⟨z0, z1, z2, z3, z4⟩ := box_cells HP10.out.at0
            have g1 := HP10.out.frozen 1
            have HP11 := Lib.hid (HP10.out.to (-1))
            obtain ⟨s0, s1, s2, s3, s4⟩ := box_cells HP11.out.at0
            have HOX := Lib.hid (show World.ownsRow _ w.heap.size 28 5 _ i (ocells (madeL l q i)) from by have := HP11.out.own; unfold OwnO at this; rw [madeL_len] at this; exact this)
            have HSZ := Lib.hid HP11.out.up.size
            have HLB : Hid ((i + 1) * 40 ≤ 140737488355328) := Lib.hid (by have := HLT.out; have := HL16.out; omega)
            have HUX := Lib.hid HP11.out.up
            have HFO : Hid (madeO l q i = ⟨fr, (-1), true, (cd : Int), th⟩) := Lib.hid (by rw [HMO.out]; simp [HMV2.out])
            have HNV : Hid (((madeV l (i + 1) : Nat) : Int) = (cd : Int)) := Lib.hid (by rw [HMV2.out]; rfl)
            clear HMO HMV2 HP9 HP10 HP11
            go_wp2_with (at_builtin; refine wpList_push (news := [.int .i64 fr, .int .i64 (-1), .bool true, .int .i64 (cd : Int), .int .i64 th]) rfl (.tmp 79) (.tmp 81) 22 rfl w.heap.size i0 (.agg #[.int .i64 0, .int .i64 0, .bool false, .int .i64 0, .int .i64 0]) 5 40 Tryd.underlying22 HI.out HZ0.out HZ1.out HZ2.out rfl (by decide) _ i (ocells (madeL l q i)) rfl HOX.out (by show Value.slice (some ⟨W9.heap.size, 0, none⟩) 1 1 = _; simp) rfl (by simp [Value.oneCell']) (by decide) HLB.out HSZ.out ?_; intro v2 w2 hown2 _ hbl2)
            have HO2 : Hid (OwnO w2 w.heap.size v2 (madeL l q (i + 1))) := Lib.hid (by
              unfold OwnO
              rw [madeL_len, madeL_succ, ocells_append, HFO.out]
              exact hown2)
            have HU2 := Lib.hid (Below.trans HUX.out hbl2)
            clear hown2 hbl2
            go_wp2_with fail
            go_roundw
            case rel => exact ⟨i + 1, HLT.out, by go_num, by rw [HNV.out], HO2, HU2⟩
            case measure => simp [intOf]; omega
        · have hpb : penB l.length q i = false := decide_eq_false hpe
          have hgn : (i : Int) < (l.length : Int) - (q : Int) := by omega
          have hgd : decide ((l.length : Int) - (q : Int) ≤ (i : Int)) = false := decide_eq_false (by omega)
          rw [hpb] at HMO
          clear hpe hpb
          cases wb
          · have HP10 := Lib.hid (HP9.out.val ((madeV l i : Nat) : Int))
            obtain ⟨z0, z1, z2, z3, z4⟩ := box_cells HP10.out.at0
            have HOX := Lib.hid (show World.ownsRow _ w.heap.size 28 5 _ i (ocells (madeL l q i)) from by have := HP10.out.own; unfold OwnO at this; rw [madeL_len] at this; exact this)
            have HSZ := Lib.hid HP10.out.up.size
            have HLB : Hid ((i + 1) * 40 ≤ 140737488355328) := Lib.hid (by have := HLT.out; have := HL16.out; omega)
            have HUX := Lib.hid HP10.out.up
            have HFO : Hid (madeO l q i = ⟨fr, tO, false, ((madeV l i : Nat) : Int), th⟩) := Lib.hid (by rw [HMO.out]; simp [HMV2.out])
            have HNV : Hid (((madeV l (i + 1) : Nat) : Int) = ((madeV l i : Nat) : Int)) := Lib.hid (by rw [HMV2.out]; rfl)
            clear HMO HMV2 HP9 HP10
            go_wp2_with (at_builtin; refine wpList_push (news := [.int .i64 fr, .int .i64 tO, .bool false, .int .i64 ((madeV l i : Nat) : Int), .int .i64 th]) rfl (.tmp 79) (.tmp 81) 22 rfl w.heap.size i0 (.agg #[.int .i64 0, .int .i64 0, .bool false, .int .i64 0, .int .i64 0]) 5 40 Tryd.underlying22 HI.out HZ0.out HZ1.out HZ2.out rfl (by decide) _ i (ocells (madeL l q i)) rfl HOX.out (by show Value.slice (some ⟨W9.heap.size, 0, none⟩) 1 1 = _; simp) rfl (by simp [Value.oneCell']) (by decide) HLB.out HSZ.out ?_; intro v2 w2 hown2 _ hbl2)
            have HO2 : Hid (OwnO w2 w.heap.size v2 (madeL l q (i + 1))) := Lib.hid (by
              unfold OwnO
              rw [madeL_len, madeL_succ, ocells_append, HFO.out]
              exact hown2)
            have HU2 := Lib.hid (Below.trans HUX.out hbl2)
            clear hown2 hbl2
            go_wp2_with fail
            go_roundw
            case rel => exact ⟨i + 1, HLT.out, by go_num, by rw [HNV.out], HO2, HU2⟩
            case measure => simp [intOf]; omega
          · have HP10 := Lib.hid (HP9.out.val (cd : Int))
            obtain ⟨z0, z1, z2, z3, z4⟩ := box_cells HP10.out.at0
            have HOX := Lib.hid (show World.ownsRow _ w.heap.size 28 5 _ i (ocells (madeL l q i)) from by have := HP10.out.own; unfold OwnO at this; rw [madeL_len] at this; exact this)
            have HSZ := Lib.hid HP10.out.up.size
            have HLB : Hid ((i + 1) * 40 ≤ 140737488355328) := Lib.hid (by have := HLT.out; have := HL16.out; omega)
            have HUX := Lib.hid HP10.out.up
            have HFO : Hid (madeO l q i = ⟨fr, tO, true, (cd : Int), th⟩) := Lib.hid (by rw [HMO.out]; simp [HMV2.out])
            have HNV : Hid (((madeV l (i + 1) : Nat) : Int) = (cd : Int)) := Lib.hid (by rw [HMV2.out]; rfl)
            clear HMO HMV2 HP9 HP10
            go_wp2_with (at_builtin; refine wpList_push (news := [.int .i64 fr, .int .i64 tO, .bool true, .int .i64 (cd : Int), .int .i64 th]) rfl (.tmp 79) (.tmp 81) 22 rfl w.heap.size i0 (.agg #[.int .i64 0, .int .i64 0, .bool false, .int .i64 0, .int .i64 0]) 5 40 Tryd.underlying22 HI.out HZ0.out HZ1.out HZ2.out rfl (by decide) _ i (ocells (madeL l q i)) rfl HOX.out (by show Value.slice (some ⟨W9.heap.size, 0, none⟩) 1 1 = _; simp) rfl (by simp [Value.oneCell']) (by decide) HLB.out HSZ.out ?_; intro v2 w2 hown2 _ hbl2)
            have HO2 : Hid (OwnO w2 w.heap.size v2 (madeL l q (i + 1))) := Lib.hid (by
              unfold OwnO
              rw [madeL_len, madeL_succ, ocells_append, HFO.out]
              exact hown2)
            have HU2 := Lib.hid (Below.trans HUX.out hbl2)
            clear hown2 hbl2
            go_wp2_with fail
            go_roundw
            case rel => exact ⟨i + 1, HLT.out, by go_num, by rw [HNV.out], HO2, HU2⟩
            case measure => simp [intOf]; omega
      · obtain rfl : i = l.length := by omega
        have hlen := HL16.out
        obtain ⟨A5, c5, rfl, hrow⟩ := OwnO.row HO.out
        have HRW := Lib.hid hrow
        have HUW := Lib.hid HV.out
        have HVA := Lib.hid (madeL_vals (q := q) (n := l.length) HVS.out)
        have HFI := Lib.hid (rfine_any (madeL l q l.length) A5 c5 wr (by rw [madeL_len]; omega) hrow)
        have HH := Lib.hid (fun W (u : Up wr W) => lhas_any (madeL l q l.length) A5 c5 3 W (by rw [madeL_len]; omega) (HT.out.up (HUW.out.trans u)) (hrow.up u) HVA.out)
        have HFD := Lib.hid (fun W (u : Up wr W) => lfind_any (madeL l q l.length) A5 c5 3 W (by rw [madeL_len]; omega) (HT.out.up (HUW.out.trans u)) (hrow.up u) HVA.out)
        cases hf : fineP (madeL l q l.length)
        · rw [hf] at HFI
          clear hf hrow hlt hik
          go_wp2_with fail
          refine HFI.out.mono ?_
          rintro e w1 ⟨rfl, hu1⟩
          have HU1 := Lib.hid (HUW.out.trans hu1)
          clear hu1
          go_wp2_with fail
          refine (HAL.out _ HU1.out).mono ?_
          rintro e w2 ⟨rfl, hu2⟩
          have HU2 := Lib.hid (HU1.out.trans hu2)
          clear hu2
          go_wp2_with fail
          go_ret
          exact ⟨rfl, HU2.out⟩
        · have hck : checkP (madeL l q l.length) = 0 := by unfold checkP; rw [hf, if_pos rfl, madeL_len, if_neg (by omega)]
          have HCO := Lib.hid (madeL_comp hf)
          have HCK := Lib.hid hck
          rw [hf] at HFI
          rw [hck] at HH HFD
          clear hf hlt hik hck
          go_wp2_with fail
          refine HFI.out.mono ?_
          rintro e w1 ⟨rfl, hu1⟩
          have HS1 := Lib.hid hu1
          clear hu1
          go_wp2_with fail
          refine (HH.out _ HS1.out).mono ?_
          rintro e w2 ⟨ok, rfl, _, hk, hu2⟩
          obtain rfl : ok = true := (hk (by first | rfl | trivial)).2 HCO.out
          have HS2 := Lib.hid (HS1.out.trans hu2)
          clear hu2 hk HH
          go_wp2_with fail
          refine (HFD.out _ HS2.out).mono ?_
          rintro e w3 ⟨vf, F, er, rfl, ho3, hu3, _, hk⟩
          obtain ⟨rfl, hri⟩ := (hk (by first | rfl | trivial)).1 HCO.out
          obtain ⟨A3, c3, rfl, hr3, hc3, hm3, hn3⟩ := n_row2 ho3
          have HS3 := Lib.hid (HS2.out.trans hu3)
          have HRI := Lib.hid (right_any (madeL l q l.length) (iL F) A5 A3 c5 c3 3 w3 (by rw [madeL_len]; omega) hc3 hm3 (HRW.out.up HS3.out) hr3 hn3)
          rw [HCK.out, hri] at HRI
          have HRI' : Hid (Calls Tryd.prog 22 #[.slice A5 (madeL l q l.length).length c5, .int .i64 3, .slice A3 (iL F).length c3] w3 fun e w' => e = .returned (.bool true) ∧ Up w3 w') := Lib.hid HRI.out
          clear hu3 hk HFD hri ho3 hr3 hc3 hm3 hn3 HRI hrow
          generalize (iL F).length = nf at *
          go_wp2_with fail
          refine HRI'.out.mono ?_
          rintro e w4 ⟨rfl, hu4⟩
          have HU4 := Lib.hid (HUW.out.trans (HS3.out.trans hu4))
          clear hu4
          go_wp2_with fail
          refine (HAL.out _ HU4.out).mono ?_
          rintro e w5 ⟨rfl, hu5⟩
          have HU5 := Lib.hid (HU4.out.trans hu5)
          clear hu5
          go_wp2_with fail
          go_ret
          exact ⟨rfl, HU5.out⟩
  · have hl16 : (16 : Int) < (l.length : Int) := by omega
    clear hr h16
    go_enter Tryd.func7, Tryd.ntmps7
    go_wp2_with fail
    refine (HAL.out _ (Up.refl _)).mono ?_
    rintro e w2 ⟨rfl, hu2⟩
    have HU2 := Lib.hid hu2
    clear hu2
    go_wp2_with fail
    go_ret
    exact ⟨rfl, HU2.out⟩

end Go.Proofs.YtpefcbmmbpcalaaDoor
