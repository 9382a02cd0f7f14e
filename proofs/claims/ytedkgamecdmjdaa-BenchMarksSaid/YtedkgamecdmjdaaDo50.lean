/-
  The law's acts on a tape of the program's: a contract (as at kevellaw10).
-/
import Derived.Test.YtedkgamecdmjdaaDoP
set_option linter.unusedVariables false
set_option linter.unusedSimpArgs false
namespace Go.Proofs.Ytedkgamecdmjdaa
open Go.RowKit

theorem TK.one {g B : Nat} {w w' : World} (h : TK g B w w') {k : Nat} {cs : Array Value} {t : TypeId} (hb : w.heap[k]? = some (.cells cs t (0, 0))) (hne : k ≠ g) (ht : k < B ∨ (t ≠ 3 ∧ t ≠ 55 ∧ t ≠ 79)) : w'.heap[k]? = some (.cells cs t (0, 0)) := by
  refine (h.block k (Array.getElem?_eq_some_iff.1 hb).1 hne ?_).trans hb
  rcases ht with ht | ht
  · exact Far.low ht
  · intro _ cs' e' hh
    rw [hb] at hh
    simp only [Option.some.injEq, Obj.cells.injEq] at hh
    rw [← hh.2.1]; exact ht

theorem set_nts (s : TS) (i x : Int) : (s.set i x).nts = s.nts := by
  unfold TS.set
  split
  · rfl
  · split
    · split <;> rfl
    · rfl
theorem set_acc (s : TS) (i x : Int) : (s.set i x).acc = s.acc := by
  unfold TS.set
  split
  · rfl
  · split
    · split <;> rfl
    · rfl
theorem set_ans (s : TS) (i x : Int) : (s.set i x).ans = s.ans := by
  unfold TS.set
  split
  · rfl
  · split
    · split <;> rfl
    · rfl

set_option maxRecDepth 10000 in
set_option maxHeartbeats 2000000 in
theorem do_any (l : List Act3) (A : Option Addr) (c : Nat) (g B : Nat) (s : TS) (w : World) (h : Tape1 w g B s) (hl : l.length ≤ 100) (hn : s.nts = []) (hr : ActRow w A l) (hlow : ∀ b off, A = some ⟨b, off, none⟩ → 0 < l.length → b < g)
    (hk : ∀ a ∈ l, 0 ≤ a.1 ∧ a.1 ≤ 255) :
    Calls Try.prog 14 #[.pointer (some ⟨g, 0, none⟩), .slice A l.length c] w (TPost encI g B w (doP l 0 s)) := by
  have HR := Lib.hid hr
  have HLOW := Lib.hid hlow
  have HK := Lib.hid hk
  have HT := Lib.hid h
  have HNT := Lib.hid (show s.nts.length ≤ 0 by rw [hn]; simp)
  have HDR := Lib.hid (fun k (hk : k < l.length) => doP_drop hk)
  obtain ⟨r, hr'⟩ : ∃ r, doP l 0 s = r := ⟨_, rfl⟩
  have HD0 := Lib.hid (show doP (l.drop 0) 0 s = r by rw [List.drop_zero]; exact hr')
  rw [hr']
  obtain ⟨n, hn'⟩ : ∃ n, l.length = n := ⟨_, rfl⟩
  have HEND := Lib.hid (show ∀ sum s', doP (l.drop n) sum s' = (some sum, s') from fun sum s' => by rw [List.drop_of_length_le (by omega)]; rfl)
  rw [hn'] at hl HLOW HDR ⊢
  have HN := Lib.hid hn'
  clear hr' hn' h hr hlow hk hn
  go_enter Try.func14, Try.ntmps14
  go_wp2_with fail
  go_loopw [5, 6] (fun u t wr => ∃ (k : Nat) (sum : Int) (s' : TS), k ≤ n ∧ u = .int .i64 sum ∧ t = .int .i64 k ∧ Hid (Tape1 wr g B s') ∧ Hid (TK g B w wr) ∧ Hid (doP (l.drop k) sum s' = r) ∧ Hid (s'.nts.length ≤ k)) (fun _ t _ => n - (intOf t).toNat)
  case atStart => exact ⟨0, 0, s, by omega, rfl, rfl, HT, Lib.hid (TK.refl _ _ _), HD0, HNT⟩
  case round =>
    obtain ⟨k, sum, s', hk, rfl, rfl, HTr, HKr, HDr, HNr⟩ := hrel
    by_cases hlt : k < n
    · obtain ⟨b, off, rfl, h1, h2, h3⟩ := HR.out k (by rw [HN.out]; exact hlt)
      have hb3 := HLOW.out b off rfl (by omega)
      have hsame := HKr.out.block b (cell_lt h1) (by omega) (Far.low (by have := HTr.out.1.gB; omega))
      have w1 := (tcell (o := off + k * 3) hsame).trans h1
      have w2 := (tcell (o := off + k * 3 + 1) hsame).trans h2
      have w3 := (tcell (o := off + k * 3 + 2) hsame).trans h3
      have HA := Lib.hid (HDr.out.symm.trans (HDR.out k hlt sum s'))
      obtain ⟨hq0, hq1⟩ := HK.out (l.getD k (0, 0, 0)) (by rw [List.getD_eq_getElem?_getD, List.getElem?_eq_getElem (by rw [HN.out]; exact hlt)]; exact List.getElem_mem _)
      have hgs := HTr.out.1.gs
      have hnts : s'.nts.length < 1000000 := by have := HNr.out; omega
      obtain ⟨⟨q, x, y⟩, hqxy⟩ : ∃ p, l.getD k (0, 0, 0) = p := ⟨_, rfl⟩
      rw [hqxy] at w1 w2 w3 HA hq0 hq1
      simp only at w1 w2 w3 hq0 hq1
      clear hqxy h1 h2 h3 hsame HR HLOW
      have hqm : q.tmod 6 = q % 6 := Int.tmod_eq_emod_of_nonneg hq0
      have hHN := Lib.hid hnts
      clear hnts
      by_cases h0 : q % 6 = 0
      · unfold actP at HA
        simp only [if_pos h0] at HA
        rw [h0] at hqm
        by_cases hst : s'.acc.length < s'.ans.length
        · rw [if_pos hst] at HA
          have HRD := Lib.hid (read_ok g B x s' _ (HTr.out.up ((Up.refl wr).alloc (.cells #[.int .u8 q, .int .i64 x, .int .i64 y] 36))) hst)
          go_wp2_with fail
          refine HRD.out.mono ?_
          rintro e w4 ⟨rfl, hT4, hK4⟩
          have HT4 := Lib.hid hT4
          have HK4 := Lib.hid (HKr.out.trans ((TK.ofUp ((Up.refl wr).alloc (.cells #[.int .u8 q, .int .i64 x, .int .i64 y] 36))).trans hK4))
          clear hT4 hK4
          go_wp2_with fail
          go_roundw
          case rel => exact ⟨k + 1, _, _, by omega, rfl, by go_num, HT4, HK4, Lib.hid HA.out.symm, Lib.hid (by have := HNr.out; simp [TS.asked]; omega)⟩
          case measure => simp [intOf]; omega
        · rw [if_neg hst] at HA
          have HRD := Lib.hid (read_stop g B x s' _ (HTr.out.up ((Up.refl wr).alloc (.cells #[.int .u8 q, .int .i64 x, .int .i64 y] 36))) hst)
          go_wp2_with fail
          refine HRD.out.mono ?_
          rintro e w4 ⟨rfl, hT4, hK4⟩
          have HT4 := Lib.hid hT4
          have HK4 := Lib.hid (HKr.out.trans ((TK.ofUp ((Up.refl wr).alloc (.cells #[.int .u8 q, .int .i64 x, .int .i64 y] 36))).trans hK4))
          clear hT4 hK4
          go_wp2_with fail
          exact ⟨rfl, TPost.none HA.out ⟨rfl, HT4.out, HK4.out⟩⟩
      · by_cases h1 : q % 6 = 1
        · unfold actP at HA
          simp only [if_neg h0, if_pos h1] at HA
          rw [h1] at hqm
          by_cases hst : s'.acc.length < s'.ans.length
          · rw [if_pos hst] at HA
            have HRD := Lib.hid (write_ok g B x y s' _ (HTr.out.up ((Up.refl wr).alloc (.cells #[.int .u8 q, .int .i64 x, .int .i64 y] 36))) hst)
            go_wp2_with fail
            refine HRD.out.mono ?_
            rintro e w4 ⟨rfl, hT4, hK4⟩
            have HT4 := Lib.hid hT4
            have HK4 := Lib.hid (HKr.out.trans ((TK.ofUp ((Up.refl wr).alloc (.cells #[.int .u8 q, .int .i64 x, .int .i64 y] 36))).trans hK4))
            clear hT4 hK4
            go_wp2_with fail
            go_roundw
            case rel => exact ⟨k + 1, _, _, by omega, rfl, by go_num, HT4, HK4, Lib.hid HA.out.symm, Lib.hid (by have := HNr.out; simp [TS.asked]; omega)⟩
            case measure => simp [intOf]; omega
          · rw [if_neg hst] at HA
            have HRD := Lib.hid (write_stop g B x y s' _ (HTr.out.up ((Up.refl wr).alloc (.cells #[.int .u8 q, .int .i64 x, .int .i64 y] 36))) hst)
            go_wp2_with fail
            refine HRD.out.mono ?_
            rintro e w4 ⟨rfl, hT4, hK4⟩
            have HT4 := Lib.hid hT4
            have HK4 := Lib.hid (HKr.out.trans ((TK.ofUp ((Up.refl wr).alloc (.cells #[.int .u8 q, .int .i64 x, .int .i64 y] 36))).trans hK4))
            clear hT4 hK4
            go_wp2_with fail
            exact ⟨rfl, TPost.none HA.out ⟨rfl, HT4.out, HK4.out⟩⟩
        · by_cases h2 : q % 6 = 2
          · unfold actP at HA
            simp only [if_neg h0, if_neg h1, if_pos h2] at HA
            rw [h2] at hqm
            have HRD := Lib.hid (set_any g B x y s' _ (HTr.out.up ((Up.refl wr).alloc (.cells #[.int .u8 q, .int .i64 x, .int .i64 y] 36))))
            go_wp2_with fail
            refine HRD.out.mono ?_
            rintro e w4 ⟨rfl, hT4, hK4⟩
            have HT4 := Lib.hid hT4
            have HK4 := Lib.hid (HKr.out.trans ((TK.ofUp ((Up.refl wr).alloc (.cells #[.int .u8 q, .int .i64 x, .int .i64 y] 36))).trans hK4))
            clear hT4 hK4
            go_wp2_with fail
            go_roundw
            case rel => exact ⟨k + 1, _, _, by omega, rfl, by go_num, HT4, HK4, Lib.hid HA.out.symm, Lib.hid (by have := HNr.out; rw [set_nts]; omega)⟩
            case measure => simp [intOf]; omega
          · by_cases h3 : q % 6 = 3
            · unfold actP at HA
              simp only [if_neg h0, if_neg h1, if_neg h2, if_pos h3] at HA
              rw [h3] at hqm
              have HRD := Lib.hid (note_any g B x s' _ (HTr.out.up ((Up.refl wr).alloc (.cells #[.int .u8 q, .int .i64 x, .int .i64 y] 36))) hHN.out)
              go_wp2_with fail
              refine HRD.out.mono ?_
              rintro e w4 ⟨rfl, hT4, hK4⟩
              have HT4 := Lib.hid hT4
              have HK4 := Lib.hid (HKr.out.trans ((TK.ofUp ((Up.refl wr).alloc (.cells #[.int .u8 q, .int .i64 x, .int .i64 y] 36))).trans hK4))
              clear hT4 hK4
              go_wp2_with fail
              go_roundw
              case rel => exact ⟨k + 1, _, _, by omega, rfl, by go_num, HT4, HK4, Lib.hid HA.out.symm, Lib.hid (by have := HNr.out; simp [TS.noted]; omega)⟩
              case measure => simp [intOf]; omega
            · by_cases h4 : q % 6 = 4
              · unfold actP at HA
                simp only [if_neg h0, if_neg h1, if_neg h2, if_neg h3, if_pos h4] at HA
                rw [h4] at hqm
                have HBX := Lib.hid (heap_alloc_new wr (.cells #[.int .u8 q, .int .i64 x, .int .i64 y] 36))
                have hS0 : (wr.alloc (.cells #[.int .u8 q, .int .i64 x, .int .i64 y] 36)).drew.cell? ⟨wr.heap.size, 1, none⟩ = some (.int .i64 x) ∧ (wr.alloc (.cells #[.int .u8 q, .int .i64 x, .int .i64 y] 36)).drew.cell? ⟨wr.heap.size, 2, none⟩ = some (.int .i64 y) := ⟨cell_of_row (wr.alloc (.cells #[.int .u8 q, .int .i64 x, .int .i64 y] 36)) _ 1 _ _ _ HBX.out, cell_of_row (wr.alloc (.cells #[.int .u8 q, .int .i64 x, .int .i64 y] 36)) _ 2 _ _ _ HBX.out⟩
                have HT0 := Lib.hid (HTr.out.up ((Up.refl wr).alloc (.cells #[.int .u8 q, .int .i64 x, .int .i64 y] 36)).drew)
                have HK0 := Lib.hid (HKr.out.trans (TK.ofUp ((Up.refl wr).alloc (.cells #[.int .u8 q, .int .i64 x, .int .i64 y] 36)).drew))
                have HGX := Lib.hid (show wr.heap.size ≠ g by omega)
                by_cases hst : s'.acc.length < s'.ans.length
                · rw [if_pos hst] at HA
                  have HG := Lib.hid (get_any g B x s' _ HT0.out)
                  have HWR := Lib.hid (write_ok g B y (s'.get x) s' _ HT0.out hst)
                  go_wp2_with fail
                  clear hgs hqm
                  refine wp_region_held_drew (S := (fun w => w.cell? ⟨wr.heap.size, 1, none⟩ = some (.int .i64 x) ∧ w.cell? ⟨wr.heap.size, 2, none⟩ = some (.int .i64 y))) (by kernel_rfl) hS0 (fun hH0 => ?_)
                  refine wpAnyH_take (i := 0) (v := ?_) rfl (by kernel_rfl) (by kernel_rfl) (by kernel_rfl) (fun _ _ _ h => h) (Or.inl ⟨by kernel_rfl, ?_⟩) hH0 ?_
                  rotate_left
                  · intro w hSw
                    try dsimp only at hSw
                    go_simp
                    try (with_reducible rfl)
                  try simp only [Act.put, List.setIfInBounds_toArray, List.set_cons_zero, List.set_cons_succ]
                  refine wpAnyH_take (i := 1) (v := ?_) rfl (by kernel_rfl) (by kernel_rfl) (by kernel_rfl) (fun _ _ _ h => h) (Or.inl ⟨by kernel_rfl, ?_⟩) hH0 ?_
                  rotate_left
                  · intro w hSw
                    try dsimp only at hSw
                    go_simp
                    try (with_reducible rfl)
                  try simp only [Act.put, List.setIfInBounds_toArray, List.set_cons_zero, List.set_cons_succ]
                  refine wpAnyH_take (i := 2) (v := ?_) rfl (by kernel_rfl) (by kernel_rfl) (by kernel_rfl) (fun _ _ _ h => h) (Or.inl ⟨by kernel_rfl, ?_⟩) hH0 ?_
                  rotate_left
                  · intro w hSw
                    try dsimp only at hSw
                    go_simp
                    try (with_reducible rfl)
                  try simp only [Act.put, List.setIfInBounds_toArray, List.set_cons_zero, List.set_cons_succ]
                  refine wpAnyH_take (i := 3) (v := ?_) rfl (by kernel_rfl) (by kernel_rfl) (by kernel_rfl) (fun _ _ _ h => h) (Or.inl ⟨by kernel_rfl, ?_⟩) hH0 ?_
                  rotate_left
                  · intro w hSw
                    try dsimp only at hSw
                    go_simp
                    try (with_reducible rfl)
                  try simp only [Act.put, List.setIfInBounds_toArray, List.set_cons_zero, List.set_cons_succ]
                  refine wpAnyH_take (i := 4) (v := ?_) rfl (by kernel_rfl) (by kernel_rfl) (by kernel_rfl) (fun _ _ _ h => h) (Or.inl ⟨by kernel_rfl, ?_⟩) hH0 ?_
                  rotate_left
                  · intro w hSw
                    try dsimp only at hSw
                    go_simp
                    try (with_reducible rfl)
                  try simp only [Act.put, List.setIfInBounds_toArray, List.set_cons_zero, List.set_cons_succ]
                  refine wpAnyH_take (i := 5) (v := ?_) rfl (by kernel_rfl) (by kernel_rfl) (by kernel_rfl) (fun _ _ _ h => h) (Or.inl ⟨by kernel_rfl, ?_⟩) hH0 ?_
                  rotate_left
                  · intro w hSw
                    try dsimp only at hSw
                    go_simp
                    try (with_reducible rfl)
                  try simp only [Act.put, List.setIfInBounds_toArray, List.set_cons_zero, List.set_cons_succ]
                  refine wpAnyH_ready (rs := [6]) (by kernel_rfl) (by simp) ?_
                  refine AllReadyH.cons rfl (fun K hK => ?_) AllReadyH.nil
                  go_simp
                  refine HG.out.mono ?_
                  rintro e w4 ⟨rfl, rfl⟩
                  refine hK.out _ _ hH0 (fun hH1 => ?_)
                  clear hK K
                  try simp only [Act.put, List.setIfInBounds_toArray, List.set_cons_zero, List.set_cons_succ]
                  refine wpAnyH_ready (rs := [7]) (by kernel_rfl) (by simp) ?_
                  refine AllReadyH.cons rfl (fun K hK => ?_) AllReadyH.nil
                  go_simp
                  refine HWR.out.mono ?_
                  rintro e w4 ⟨rfl, hT4, hK4⟩
                  have hb4 := hK4.one (k := wr.heap.size) HBX.out HGX.out (.inr (by decide))
                  have hS4 : w4.cell? ⟨wr.heap.size, 1, none⟩ = some (.int .i64 x) ∧ w4.cell? ⟨wr.heap.size, 2, none⟩ = some (.int .i64 y) := ⟨cell_of_row w4 _ 1 _ _ _ hb4, cell_of_row w4 _ 2 _ _ _ hb4⟩
                  have HT4 := Lib.hid hT4
                  have HK4 := Lib.hid (HK0.out.trans hK4)
                  clear hT4 hK4 hb4
                  refine hK.out _ _ hS4 (fun hH2 => ?_)
                  clear hK K
                  try simp only [Act.put, List.setIfInBounds_toArray, List.set_cons_zero, List.set_cons_succ]
                  refine wpAnyH_done (by kernel_rfl) ?_ _
                  go_wp2_with fail
                  go_roundw
                  case rel => exact ⟨k + 1, _, _, by omega, rfl, by go_num, HT4, HK4, Lib.hid HA.out.symm, Lib.hid (by have := HNr.out; simp [TS.asked]; omega)⟩
                  case measure => simp [intOf]; omega
                · rw [if_neg hst] at HA
                  have HG := Lib.hid (get_any g B x s' _ HT0.out)
                  have HWR := Lib.hid (write_stop g B y (s'.get x) s' _ HT0.out hst)
                  go_wp2_with fail
                  clear hgs hqm
                  refine wp_region_held_drew (S := (fun w => w.cell? ⟨wr.heap.size, 1, none⟩ = some (.int .i64 x) ∧ w.cell? ⟨wr.heap.size, 2, none⟩ = some (.int .i64 y))) (by kernel_rfl) hS0 (fun hH0 => ?_)
                  refine wpAnyH_take (i := 0) (v := ?_) rfl (by kernel_rfl) (by kernel_rfl) (by kernel_rfl) (fun _ _ _ h => h) (Or.inl ⟨by kernel_rfl, ?_⟩) hH0 ?_
                  rotate_left
                  · intro w hSw
                    try dsimp only at hSw
                    go_simp
                    try (with_reducible rfl)
                  try simp only [Act.put, List.setIfInBounds_toArray, List.set_cons_zero, List.set_cons_succ]
                  refine wpAnyH_take (i := 1) (v := ?_) rfl (by kernel_rfl) (by kernel_rfl) (by kernel_rfl) (fun _ _ _ h => h) (Or.inl ⟨by kernel_rfl, ?_⟩) hH0 ?_
                  rotate_left
                  · intro w hSw
                    try dsimp only at hSw
                    go_simp
                    try (with_reducible rfl)
                  try simp only [Act.put, List.setIfInBounds_toArray, List.set_cons_zero, List.set_cons_succ]
                  refine wpAnyH_take (i := 2) (v := ?_) rfl (by kernel_rfl) (by kernel_rfl) (by kernel_rfl) (fun _ _ _ h => h) (Or.inl ⟨by kernel_rfl, ?_⟩) hH0 ?_
                  rotate_left
                  · intro w hSw
                    try dsimp only at hSw
                    go_simp
                    try (with_reducible rfl)
                  try simp only [Act.put, List.setIfInBounds_toArray, List.set_cons_zero, List.set_cons_succ]
                  refine wpAnyH_take (i := 3) (v := ?_) rfl (by kernel_rfl) (by kernel_rfl) (by kernel_rfl) (fun _ _ _ h => h) (Or.inl ⟨by kernel_rfl, ?_⟩) hH0 ?_
                  rotate_left
                  · intro w hSw
                    try dsimp only at hSw
                    go_simp
                    try (with_reducible rfl)
                  try simp only [Act.put, List.setIfInBounds_toArray, List.set_cons_zero, List.set_cons_succ]
                  refine wpAnyH_take (i := 4) (v := ?_) rfl (by kernel_rfl) (by kernel_rfl) (by kernel_rfl) (fun _ _ _ h => h) (Or.inl ⟨by kernel_rfl, ?_⟩) hH0 ?_
                  rotate_left
                  · intro w hSw
                    try dsimp only at hSw
                    go_simp
                    try (with_reducible rfl)
                  try simp only [Act.put, List.setIfInBounds_toArray, List.set_cons_zero, List.set_cons_succ]
                  refine wpAnyH_take (i := 5) (v := ?_) rfl (by kernel_rfl) (by kernel_rfl) (by kernel_rfl) (fun _ _ _ h => h) (Or.inl ⟨by kernel_rfl, ?_⟩) hH0 ?_
                  rotate_left
                  · intro w hSw
                    try dsimp only at hSw
                    go_simp
                    try (with_reducible rfl)
                  try simp only [Act.put, List.setIfInBounds_toArray, List.set_cons_zero, List.set_cons_succ]
                  refine wpAnyH_ready (rs := [6]) (by kernel_rfl) (by simp) ?_
                  refine AllReadyH.cons rfl (fun K hK => ?_) AllReadyH.nil
                  go_simp
                  refine HG.out.mono ?_
                  rintro e w4 ⟨rfl, rfl⟩
                  refine hK.out _ _ hH0 (fun hH1 => ?_)
                  clear hK K
                  try simp only [Act.put, List.setIfInBounds_toArray, List.set_cons_zero, List.set_cons_succ]
                  refine wpAnyH_ready (rs := [7]) (by kernel_rfl) (by simp) ?_
                  refine AllReadyH.cons rfl (fun K hK => ?_) AllReadyH.nil
                  go_simp
                  refine HWR.out.mono ?_
                  rintro e w4 ⟨rfl, hT4, hK4⟩
                  have HT4 := Lib.hid hT4
                  have HK4 := Lib.hid (HK0.out.trans hK4)
                  clear hT4 hK4 hK
                  dsimp only
                  clear K
                  go_wp2_with fail
                  exact ⟨rfl, TPost.none HA.out ⟨rfl, HT4.out, HK4.out⟩⟩
              · have h5 : q % 6 = 5 := by omega
                unfold actP at HA
                simp only [if_neg h0, if_neg h1, if_neg h2, if_neg h3, if_neg h4] at HA
                rw [h5] at hqm
                have HBX := Lib.hid (heap_alloc_new wr (.cells #[.int .u8 q, .int .i64 x, .int .i64 y] 36))
                have hS0 : (wr.alloc (.cells #[.int .u8 q, .int .i64 x, .int .i64 y] 36)).drew.cell? ⟨wr.heap.size, 1, none⟩ = some (.int .i64 x) ∧ (wr.alloc (.cells #[.int .u8 q, .int .i64 x, .int .i64 y] 36)).drew.cell? ⟨wr.heap.size, 2, none⟩ = some (.int .i64 y) := ⟨cell_of_row (wr.alloc (.cells #[.int .u8 q, .int .i64 x, .int .i64 y] 36)) _ 1 _ _ _ HBX.out, cell_of_row (wr.alloc (.cells #[.int .u8 q, .int .i64 x, .int .i64 y] 36)) _ 2 _ _ _ HBX.out⟩
                have HT0 := Lib.hid (HTr.out.up ((Up.refl wr).alloc (.cells #[.int .u8 q, .int .i64 x, .int .i64 y] 36)).drew)
                have HK0 := Lib.hid (HKr.out.trans (TK.ofUp ((Up.refl wr).alloc (.cells #[.int .u8 q, .int .i64 x, .int .i64 y] 36)).drew))
                have HGX := Lib.hid (show wr.heap.size ≠ g by omega)
                by_cases hst : s'.acc.length < s'.ans.length
                · rw [if_pos hst] at HA
                  have HRD := Lib.hid (read_ok g B x s' _ HT0.out hst)
                  have HSE := Lib.hid (fun W => set_any g B y s'.told (s'.asked (1, x, 0)) W)
                  have HGE := Lib.hid (fun W => get_any g B y ((s'.asked (1, x, 0)).set y s'.told) W)
                  go_wp2_with fail
                  clear hgs hqm
                  refine wp_region_held_drew (S := (fun w => w.cell? ⟨wr.heap.size, 1, none⟩ = some (.int .i64 x) ∧ w.cell? ⟨wr.heap.size, 2, none⟩ = some (.int .i64 y))) (by kernel_rfl) hS0 (fun hH0 => ?_)
                  refine wpAnyH_take (i := 0) (v := ?_) rfl (by kernel_rfl) (by kernel_rfl) (by kernel_rfl) (fun _ _ _ h => h) (Or.inl ⟨by kernel_rfl, ?_⟩) hH0 ?_
                  rotate_left
                  · intro w hSw
                    try dsimp only at hSw
                    go_simp
                    try (with_reducible rfl)
                  try simp only [Act.put, List.setIfInBounds_toArray, List.set_cons_zero, List.set_cons_succ]
                  refine wpAnyH_take (i := 1) (v := ?_) rfl (by kernel_rfl) (by kernel_rfl) (by kernel_rfl) (fun _ _ _ h => h) (Or.inl ⟨by kernel_rfl, ?_⟩) hH0 ?_
                  rotate_left
                  · intro w hSw
                    try dsimp only at hSw
                    go_simp
                    try (with_reducible rfl)
                  try simp only [Act.put, List.setIfInBounds_toArray, List.set_cons_zero, List.set_cons_succ]
                  refine wpAnyH_take (i := 2) (v := ?_) rfl (by kernel_rfl) (by kernel_rfl) (by kernel_rfl) (fun _ _ _ h => h) (Or.inl ⟨by kernel_rfl, ?_⟩) hH0 ?_
                  rotate_left
                  · intro w hSw
                    try dsimp only at hSw
                    go_simp
                    try (with_reducible rfl)
                  try simp only [Act.put, List.setIfInBounds_toArray, List.set_cons_zero, List.set_cons_succ]
                  refine wpAnyH_take (i := 3) (v := ?_) rfl (by kernel_rfl) (by kernel_rfl) (by kernel_rfl) (fun _ _ _ h => h) (Or.inl ⟨by kernel_rfl, ?_⟩) hH0 ?_
                  rotate_left
                  · intro w hSw
                    try dsimp only at hSw
                    go_simp
                    try (with_reducible rfl)
                  try simp only [Act.put, List.setIfInBounds_toArray, List.set_cons_zero, List.set_cons_succ]
                  refine wpAnyH_take (i := 4) (v := ?_) rfl (by kernel_rfl) (by kernel_rfl) (by kernel_rfl) (fun _ _ _ h => h) (Or.inl ⟨by kernel_rfl, ?_⟩) hH0 ?_
                  rotate_left
                  · intro w hSw
                    try dsimp only at hSw
                    go_simp
                    try (with_reducible rfl)
                  try simp only [Act.put, List.setIfInBounds_toArray, List.set_cons_zero, List.set_cons_succ]
                  refine wpAnyH_take (i := 5) (v := ?_) rfl (by kernel_rfl) (by kernel_rfl) (by kernel_rfl) (fun _ _ _ h => h) (Or.inl ⟨by kernel_rfl, ?_⟩) hH0 ?_
                  rotate_left
                  · intro w hSw
                    try dsimp only at hSw
                    go_simp
                    try (with_reducible rfl)
                  try simp only [Act.put, List.setIfInBounds_toArray, List.set_cons_zero, List.set_cons_succ]
                  refine wpAnyH_ready (rs := [6]) (by kernel_rfl) (by simp) ?_
                  refine AllReadyH.cons rfl (fun K hK => ?_) AllReadyH.nil
                  go_simp
                  refine HRD.out.mono ?_
                  rintro e w4 ⟨rfl, hT4, hK4⟩
                  have HB4 := Lib.hid (hK4.one (k := wr.heap.size) HBX.out HGX.out (.inr (by decide)))
                  have hS4 : w4.cell? ⟨wr.heap.size, 1, none⟩ = some (.int .i64 x) ∧ w4.cell? ⟨wr.heap.size, 2, none⟩ = some (.int .i64 y) := ⟨cell_of_row w4 _ 1 _ _ _ HB4.out, cell_of_row w4 _ 2 _ _ _ HB4.out⟩
                  have HT4 := Lib.hid hT4
                  have HK4 := Lib.hid (HK0.out.trans hK4)
                  clear hT4 hK4
                  refine hK.out _ _ hS4 (fun hH1 => ?_)
                  clear hK K
                  try simp only [Act.put, List.setIfInBounds_toArray, List.set_cons_zero, List.set_cons_succ]
                  clear hS4
                  refine wpAnyH_ready (rs := [7]) (by kernel_rfl) (by simp) ?_
                  refine AllReadyH.cons rfl (fun K hK => ?_) AllReadyH.nil
                  go_simp
                  refine (HSE.out w4 HT4.out).mono ?_
                  rintro e w5 ⟨rfl, hT5, hK5⟩
                  have hb5 := hK5.one (k := wr.heap.size) HB4.out HGX.out (.inr (by decide))
                  have hS5 : w5.cell? ⟨wr.heap.size, 1, none⟩ = some (.int .i64 x) ∧ w5.cell? ⟨wr.heap.size, 2, none⟩ = some (.int .i64 y) := ⟨cell_of_row w5 _ 1 _ _ _ hb5, cell_of_row w5 _ 2 _ _ _ hb5⟩
                  have HT5 := Lib.hid hT5
                  have HK5 := Lib.hid (HK4.out.trans hK5)
                  clear hT5 hK5 hb5
                  refine hK.out _ _ hS5 (fun hH2 => ?_)
                  clear hK K
                  try simp only [Act.put, List.setIfInBounds_toArray, List.set_cons_zero, List.set_cons_succ]
                  refine wpAnyH_done (by kernel_rfl) ?_ _
                  have hS52 := hS5.2
                  clear hS5 hH2 hH1 hH0 hS0
                  go_wp2_with fail
                  refine (HGE.out w5 HT5.out).mono ?_
                  rintro e w6 ⟨rfl, rfl⟩
                  go_wp2_with fail
                  go_roundw
                  case rel => exact ⟨k + 1, _, _, by omega, rfl, by go_num, HT5, HK5, Lib.hid HA.out.symm, Lib.hid (by have := HNr.out; rw [set_nts]; simp [TS.asked]; omega)⟩
                  case measure => simp [intOf]; omega
                · rw [if_neg hst] at HA
                  have HRD := Lib.hid (read_stop g B x s' _ HT0.out hst)
                  go_wp2_with fail
                  clear hgs hqm
                  refine wp_region_held_drew (S := (fun w => w.cell? ⟨wr.heap.size, 1, none⟩ = some (.int .i64 x) ∧ w.cell? ⟨wr.heap.size, 2, none⟩ = some (.int .i64 y))) (by kernel_rfl) hS0 (fun hH0 => ?_)
                  refine wpAnyH_take (i := 0) (v := ?_) rfl (by kernel_rfl) (by kernel_rfl) (by kernel_rfl) (fun _ _ _ h => h) (Or.inl ⟨by kernel_rfl, ?_⟩) hH0 ?_
                  rotate_left
                  · intro w hSw
                    try dsimp only at hSw
                    go_simp
                    try (with_reducible rfl)
                  try simp only [Act.put, List.setIfInBounds_toArray, List.set_cons_zero, List.set_cons_succ]
                  refine wpAnyH_take (i := 1) (v := ?_) rfl (by kernel_rfl) (by kernel_rfl) (by kernel_rfl) (fun _ _ _ h => h) (Or.inl ⟨by kernel_rfl, ?_⟩) hH0 ?_
                  rotate_left
                  · intro w hSw
                    try dsimp only at hSw
                    go_simp
                    try (with_reducible rfl)
                  try simp only [Act.put, List.setIfInBounds_toArray, List.set_cons_zero, List.set_cons_succ]
                  refine wpAnyH_take (i := 2) (v := ?_) rfl (by kernel_rfl) (by kernel_rfl) (by kernel_rfl) (fun _ _ _ h => h) (Or.inl ⟨by kernel_rfl, ?_⟩) hH0 ?_
                  rotate_left
                  · intro w hSw
                    try dsimp only at hSw
                    go_simp
                    try (with_reducible rfl)
                  try simp only [Act.put, List.setIfInBounds_toArray, List.set_cons_zero, List.set_cons_succ]
                  refine wpAnyH_take (i := 3) (v := ?_) rfl (by kernel_rfl) (by kernel_rfl) (by kernel_rfl) (fun _ _ _ h => h) (Or.inl ⟨by kernel_rfl, ?_⟩) hH0 ?_
                  rotate_left
                  · intro w hSw
                    try dsimp only at hSw
                    go_simp
                    try (with_reducible rfl)
                  try simp only [Act.put, List.setIfInBounds_toArray, List.set_cons_zero, List.set_cons_succ]
                  refine wpAnyH_take (i := 4) (v := ?_) rfl (by kernel_rfl) (by kernel_rfl) (by kernel_rfl) (fun _ _ _ h => h) (Or.inl ⟨by kernel_rfl, ?_⟩) hH0 ?_
                  rotate_left
                  · intro w hSw
                    try dsimp only at hSw
                    go_simp
                    try (with_reducible rfl)
                  try simp only [Act.put, List.setIfInBounds_toArray, List.set_cons_zero, List.set_cons_succ]
                  refine wpAnyH_take (i := 5) (v := ?_) rfl (by kernel_rfl) (by kernel_rfl) (by kernel_rfl) (fun _ _ _ h => h) (Or.inl ⟨by kernel_rfl, ?_⟩) hH0 ?_
                  rotate_left
                  · intro w hSw
                    try dsimp only at hSw
                    go_simp
                    try (with_reducible rfl)
                  try simp only [Act.put, List.setIfInBounds_toArray, List.set_cons_zero, List.set_cons_succ]
                  refine wpAnyH_ready (rs := [6]) (by kernel_rfl) (by simp) ?_
                  refine AllReadyH.cons rfl (fun K hK => ?_) AllReadyH.nil
                  go_simp
                  refine HRD.out.mono ?_
                  rintro e w4 ⟨rfl, hT4, hK4⟩
                  have HT4 := Lib.hid hT4
                  have HK4 := Lib.hid (HK0.out.trans hK4)
                  clear hT4 hK4 hK
                  dsimp only
                  clear K
                  go_wp2_with fail
                  exact ⟨rfl, TPost.none HA.out ⟨rfl, HT4.out, HK4.out⟩⟩
    · obtain rfl : k = n := by omega
      go_wp2_with fail
      go_ret
      exact TPost.some ((HDr.out.symm).trans (HEND.out _ _)) ⟨rfl, HTr.out, HKr.out⟩

end Go.Proofs.Ytedkgamecdmjdaa
