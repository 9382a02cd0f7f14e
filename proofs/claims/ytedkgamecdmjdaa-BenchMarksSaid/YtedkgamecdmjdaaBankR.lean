/-
  bank.New.
-/
import Derived.Test.YtedkgamecdmjdaaBankO
import Derived.Deep.RegionLaw
import Derived.Deep.RegionHeld3
set_option linter.unusedVariables false
set_option linter.unusedSimpArgs false
namespace Go.Proofs.Ytedkgamecdmjdaa
open Go.RowKit

theorem news1b (w : World) (news : List Value) (e : TypeId) : ∀ j u, news[j]? = some u → (w.alloc (.cells news.toArray e)).drew.cell? ((⟨w.heap.size, 0, none⟩ : Addr).add j) = some u := fun j u h => cells_new w news e j u h
theorem infoRun : Try.prog.info? 95 = some Try.t95 := by kernel_rfl
theorem info_partsR : ∃ i, Try.prog.info? 95 = some i ∧ i.zero = some (.agg #[.int .i64 0, .int .i64 0, .int .i64 0, .int .i64 0]) ∧ i.size = 4 ∧ i.bytes = 32 := ⟨_, infoRun, by kernel_rfl, by kernel_rfl, by kernel_rfl⟩
/-- What New gives, where the strips are fine. -/
def NewPost (l : List SD) (w : World) (e : Ending) (w' : World) : Prop :=
  if (countP l).2 ≠ 0 then e = .returned (.tuple #[.pointer none, .int .i64 (countP l).2]) ∧ Up w w'
  else ∃ h m R, e = .returned (.tuple #[.pointer (some ⟨h, 0, none⟩), .int .i64 0]) ∧ BankO w' w.heap.size h m R (countP l).1 (runsK l l.length) (fun _ => (false, 0)) 0 (fun _ => none) ∧ Up w w'

theorem fine_le {s : SD} (h : fineS s = true) : 0 ≤ s.many := by
  unfold fineS at h
  rw [Bool.and_eq_true] at h
  exact of_decide_eq_true h.1
theorem allF_le {l : List SD} {k n : Nat} (hk : k ≤ n) (h : allF l n = true) : allF l k = true := by
  unfold allF at h ⊢
  rw [List.all_eq_true] at h ⊢
  intro x hx
  exact h x (List.mem_range.2 (by have := List.mem_range.1 hx; omega))
theorem cntK_mono {l : List SD} {n : Nat} (h : allF l n = true) (hc : cntK l n ≤ 32768) : ∀ k, k ≤ n → cntK l (n - k) ≤ 32768
  | 0, _ => hc
  | k + 1, hk => by
    have ih := cntK_mono h hc k (by omega)
    obtain ⟨j, hj⟩ : ∃ j, n - k = j + 1 := ⟨n - k - 1, by omega⟩
    rw [hj] at ih
    rw [show n - (k + 1) = j by omega]
    have h1 := allF_le (show j + 1 ≤ n by omega) h
    rw [allF_succ, Bool.and_eq_true] at h1
    have h2 := fine_le h1.2
    have h3 := cntK_in h1.1
    unfold cntK minI at ih
    split at ih <;> split at ih <;> omega
theorem end_step {l : List SD} (h : allF l l.length = true) (hc : cntK l l.length ≤ 32768) : ∀ k, k ≤ l.length → 0 ≤ endK l k ∧ endK l k ≤ 32768 := by
  intro k hk
  have h1 := allF_le hk h
  have h2 := cntK_mono h hc (l.length - k) (by omega)
  rw [show l.length - (l.length - k) = k by omega] at h2
  rw [cnt_end h1 h2]
  exact ⟨(cntK_in h1).1, h2⟩

set_option maxRecDepth 10000 in
set_option maxHeartbeats 4000000 in
theorem newB_any (l : List SD) (A : Option Addr) (c : Nat) (w : World) (hl : l.length ≤ 1000) (hr : StripRow w A l) :
    Calls Try.prog 25 #[.slice A l.length c] w (NewPost l w) := by
  have hmm := @run_makeMap Try.prog
  have HCO := Lib.hid (count_any l A c w (by omega) hr)
  have HR := Lib.hid hr
  have hli : (l.length : Int) ≤ 1000 := by omega
  by_cases he : (countP l).2 ≠ 0
  · have HN : Hid (∀ e w', (e = .returned (.tuple #[.pointer none, .int .i64 (countP l).2]) ∧ Up w w') → NewPost l w e w') := Lib.hid (fun e w' h => by unfold NewPost; rw [if_pos he]; exact h)
    have hb : ((countP l).2 != 0) = true := by rw [bne_iff_ne]; exact he
    generalize countP l = cp at *
    obtain ⟨c1, c2⟩ := cp
    dsimp only at *
    clear hr hl he
    go_enter Try.func25, Try.ntmps25
    go_wp2_with fail
    refine HCO.out.mono ?_
    rintro e w1 ⟨rfl, hu1⟩
    have HU1 := Lib.hid hu1
    clear hu1
    go_wp2_with fail
    go_ret2
    exact HN.out _ _ ⟨rfl, HU1.out⟩
  · have he0 : (countP l).2 = 0 := by omega
    have hcp : countP l = (cntK l l.length, 0) ∧ allF l l.length = true ∧ cntK l l.length ≤ 32768 := by
      unfold countP at he0 ⊢
      split at he0
      · rename_i ha
        split at he0
        · cases he0
        · rename_i hc
          rw [if_pos ha, if_neg hc]
          exact ⟨rfl, ha, by omega⟩
      · cases he0
    obtain ⟨e1, e2, e3⟩ := hcp
    have HES := Lib.hid (end_step e2 e3)
    have HN : Hid (∀ e w' h m R, e = .returned (.tuple #[.pointer (some ⟨h, 0, none⟩), .int .i64 0]) → BankO w' w.heap.size h m R (cntK l l.length) (runsK l l.length) (fun _ => (false, 0)) 0 (fun _ => none) → Up w w' → NewPost l w e w') := Lib.hid (fun e w' h m R h1 h2 h3 => by
      unfold NewPost; rw [if_neg he, e1]; exact ⟨h, m, R, h1, h2, h3⟩)
    rw [e1] at HCO
    dsimp only at HCO
    generalize cntK l l.length = many at *
    clear hr hl he he0 e1 e2 e3
    go_enter Try.func25, Try.ntmps25
    go_wp2_with fail
    refine HCO.out.mono ?_
    rintro e w1 ⟨rfl, hu1⟩
    have HU1 := Lib.hid hu1
    have HBN := Lib.hid (bankO_new w1 w.heap.size many 91 hu1.size)
    unfold bankC at HBN
    have HUB := Lib.hid (show Up w ((w1.alloc (.map #[] 0)).alloc (.cells #[.slice none 0 0, .int .i64 many, .map (some w1.heap.size), .bool false, .int .i64 0, .bool false, .int .i64 0, .bool false, .int .i64 0, .bool false, .int .i64 0, .bool false, .int .i64 0, .bool false, .int .i64 0, .bool false, .int .i64 0, .bool false, .int .i64 0] 91)) from (hu1.alloc _).alloc _)
    clear hu1
    go_wp2_with fail
    generalize hw2 : (w1.alloc (.map #[] 0)).alloc (.cells #[.slice none 0 0, .int .i64 many, .map (some w1.heap.size), .bool false, .int .i64 0, .bool false, .int .i64 0, .bool false, .int .i64 0, .bool false, .int .i64 0, .bool false, .int .i64 0, .bool false, .int .i64 0, .bool false, .int .i64 0, .bool false, .int .i64 0] 91) = w2 at *
    generalize w1.heap.size + 1 = h at *
    generalize w1.heap.size = m at *
    clear hw2
    obtain ⟨i0, hi, hz0, hz1, hz2⟩ := info_partsR
    have HI := Lib.hid hi
    have HZ0 := Lib.hid hz0
    have HZ1 := Lib.hid hz1
    have HZ2 := Lib.hid hz2
    clear hi hz0 hz1 hz2
    go_loopw [7, 24] (fun e x wr => ∃ (k : Nat) (R : Value), k ≤ l.length ∧ x = .int .i64 k ∧ e = .int .i64 (endK l k) ∧ Hid (BankO wr w.heap.size h m R many (runsK l k) (fun _ => (false, 0)) 0 (fun _ => none) ∧ Up w wr)) (fun _ x _ => l.length - (intOf x).toNat)
    case atStart => exact ⟨0, _, by omega, rfl, rfl, Lib.hid ⟨HBN.out, HUB.out⟩⟩
    case round =>
      obtain ⟨k, R, hk, rfl, rfl, HV⟩ := hrel
      by_cases hlt : k < l.length
      · have hki : (k : Int) < l.length := by omega
        have hk0 : (0 : Int) ≤ k := by omega
        have HLT := Lib.hid hlt
        obtain ⟨b, off, rfl, x0, x1, x2⟩ := HR.out.up HV.out.2 k hlt
        have HE0 := Lib.hid (HES.out k hk)
        have HE1 := Lib.hid (HES.out (k + 1) hlt)
        have HES1 : Hid (endK l (k + 1) = if 0 < (l.getD k sd0).many then endK l k + (l.getD k sd0).many else endK l k) := Lib.hid rfl
        have HRS1 : Hid (runsK l (k + 1) = if 0 < (l.getD k sd0).many then runsK l k ++ [(endK l (k + 1), l.getD k sd0)] else runsK l k) := Lib.hid rfl
        have HRL := Lib.hid (runsK_len l k)
        generalize hq1 : endK l (k + 1) = E1 at *
        generalize hq2 : runsK l (k + 1) = rs1 at *
        have HQ1 := Lib.hid hq1
        have HQ2 := Lib.hid hq2
        clear hq1 hq2
        generalize endK l k = E at *
        generalize runsK l k = rs at *
        generalize l.getD k sd0 = s at *
        obtain ⟨M, Kd, T⟩ := s
        dsimp only at x0 x1 x2 HES1 HRS1
        have HB := Lib.hid (heap_alloc_new wr (.cells #[.int .i64 M, .int .i64 Kd, .int .i64 T] 41))
        have HUA := Lib.hid ((Up.refl wr).alloc (.cells #[.int .i64 M, .int .i64 Kd, .int .i64 T] 41))
        have y0 : (wr.alloc (.cells #[.int .i64 M, .int .i64 Kd, .int .i64 T] 41)).cell? ⟨wr.heap.size, 0, none⟩ = some (.int .i64 M) := cell_of_row _ _ 0 _ _ _ HB.out
        by_cases hM : 0 < M
        · have he := HES1.out
          have hrs := HRS1.out
          rw [if_pos hM] at he hrs
          have hw1 : wrap64 (E + M) = E1 := by
            have h1 := HE0.out
            have h2 := HE1.out
            rw [he] at h2 ⊢
            exact IntWalk.wrap64_in _ (by omega)
          have HRSE := Lib.hid hrs
          clear he hrs HES1 HRS1 hk hlt
          go_wp2_with fail
          rw [hw1]
          have HBO := Lib.hid (HV.out.1.up HUA.out)
          have HU5 := Lib.hid (HV.out.2.trans HUA.out)
          have HHW := Lib.hid HV.out.1.blk.lt
          generalize hsz : wr.heap.size = z at *
          generalize hw5 : wr.alloc (.cells #[.int .i64 M, .int .i64 Kd, .int .i64 T] 41) = W5 at *
          have d0 := cell_of_row _ _ 0 _ _ _ HB.out
          have d1 := cell_of_row _ _ 1 _ _ _ HB.out
          have d2 := cell_of_row _ _ 2 _ _ _ HB.out
          simp only [List.getElem?_toArray, List.getElem?_cons_zero, List.getElem?_cons_succ] at d0 d1 d2
          have k0 := HBO.out.blk.k0
          have k0a : ∀ o, (W5.alloc o).cell? ⟨h, 0, none⟩ = some R := fun o => (HBO.out.up ((Up.refl W5).alloc o)).blk.k0
          have k0b := k0a (.cells #[.int .i64 E1, .int .i64 M, .int .i64 Kd, .int .i64 T] 95)
          have HOW := Lib.hid HBO.out.row
          have HSZ := Lib.hid (show w.heap.size ≤ W5.heap.size from HU5.out.size)
          have HU5D := Lib.hid (show w.heap.size ≤ ((W5.alloc (.cells #[.int .i64 E1, .int .i64 M, .int .i64 Kd, .int .i64 T] 95)).drew).heap.size from (HU5.out.trans ((Up.refl W5).alloc _).drew).size)
          have HG := Lib.hid (show w.heap.size ≤ h ∧ ∀ k, R.ownBlock = some k → w.heap.size ≤ k from ⟨HBO.out.geh, fun k e => (HBO.out.row.lt k e).1⟩)
          have HX := Lib.hid (fun (W7 w7 : World) (g1 cap : Nat) (hU : Up W5 W7) => bankO_append (W := W7) (w1 := w7) (g1 := g1) (cap := cap) (r := (E1, ⟨M, Kd, T⟩)) HBO.out hU)
          have HLB := Lib.hid (cell_lt d0)
          have HNH : Hid (z ≠ h) := Lib.hid (by have := HHW.out; omega)
          have HNB : Hid (R.ownBlock ≠ some z) := Lib.hid (fun e => by have := (HV.out.1.row.lt z e).2; omega)
          have hSS : W5.drew.cell? ⟨z, 0, none⟩ = some (.int .i64 M) ∧ W5.drew.cell? ⟨z, 1, none⟩ = some (.int .i64 Kd) ∧ W5.drew.cell? ⟨z, 2, none⟩ = some (.int .i64 T) := ⟨d0, d1, d2⟩
          have HSV := Lib.hid (fun (w' : World) (h1 : ∀ j, w'.cell? ⟨z, j, none⟩ = W5.cell? ⟨z, j, none⟩) => (show w'.cell? ⟨z, 0, none⟩ = some (.int .i64 M) ∧ w'.cell? ⟨z, 1, none⟩ = some (.int .i64 Kd) ∧ w'.cell? ⟨z, 2, none⟩ = some (.int .i64 T) from ⟨(h1 0).trans d0, (h1 1).trans d1, (h1 2).trans d2⟩))
          have hua : Up W5 (W5.alloc (.cells #[.int .i64 E1, .int .i64 M, .int .i64 Kd, .int .i64 T] 95)) := (Up.refl W5).alloc _
          have hrl : rs.length ≤ 1000 := by have := HRL.out; omega
          clear x0 x1 x2 y0 d0 d1 d2 hsz hw5 hM hw1
          refine wp_region_held_drew (S := fun w' => w'.cell? ⟨z, 0, none⟩ = some (.int .i64 M) ∧ w'.cell? ⟨z, 1, none⟩ = some (.int .i64 Kd) ∧ w'.cell? ⟨z, 2, none⟩ = some (.int .i64 T)) (by kernel_rfl) hSS (fun hS0 => ?_)
          clear hSS
          refine wpAnyH_take (i := 0) (v := ?_) rfl (by kernel_rfl) (by kernel_rfl) (by kernel_rfl) (fun _ _ _ h => h) (Or.inl ⟨by kernel_rfl, ?_⟩) hS0 ?_
          rotate_left
          · intro w hSw
            try dsimp only at hSw
            go_simp
            try (with_reducible rfl)
          try simp only [Act.put, List.setIfInBounds_toArray, List.set_cons_zero, List.set_cons_succ]
          refine wpAnyH_take (i := 1) (v := ?_) rfl (by kernel_rfl) (by kernel_rfl) (by kernel_rfl) (fun _ _ _ h => h) (Or.inl ⟨by kernel_rfl, ?_⟩) hS0 ?_
          rotate_left
          · intro w hSw
            try dsimp only at hSw
            go_simp
            try (with_reducible rfl)
          try simp only [Act.put, List.setIfInBounds_toArray, List.set_cons_zero, List.set_cons_succ]
          refine wpAnyH_take (i := 2) (v := ?_) rfl (by kernel_rfl) (by kernel_rfl) (by kernel_rfl) (fun _ _ _ h => h) (Or.inl ⟨by kernel_rfl, ?_⟩) hS0 ?_
          rotate_left
          · intro w hSw
            try dsimp only at hSw
            go_simp
            try (with_reducible rfl)
          try simp only [Act.put, List.setIfInBounds_toArray, List.set_cons_zero, List.set_cons_succ]
          refine wpAnyH_take (i := 3) (v := ?_) rfl (by kernel_rfl) (by kernel_rfl) (by kernel_rfl) (fun _ _ _ h => h) (Or.inl ⟨by kernel_rfl, ?_⟩) hS0 ?_
          rotate_left
          · intro w hSw
            try dsimp only at hSw
            go_simp
            try (with_reducible rfl)
          try simp only [Act.put, List.setIfInBounds_toArray, List.set_cons_zero, List.set_cons_succ]
          refine wpAnyH_take (i := 5) (v := ?_) rfl (by kernel_rfl) (by kernel_rfl) (by kernel_rfl) (fun _ _ _ h => h) (Or.inl ⟨by kernel_rfl, ?_⟩) hS0 ?_
          rotate_left
          · intro w hSw
            try dsimp only at hSw
            go_simp
            try (with_reducible rfl)
          try simp only [Act.put, List.setIfInBounds_toArray, List.set_cons_zero, List.set_cons_succ]
          refine wpAnyH_take (i := 6) (v := ?_) rfl (by kernel_rfl) (by kernel_rfl) (by kernel_rfl) (fun _ _ _ h => h) (Or.inl ⟨by kernel_rfl, ?_⟩) hS0 ?_
          rotate_left
          · intro w hSw
            try dsimp only at hSw
            go_simp
            try (with_reducible rfl)
          try simp only [Act.put, List.setIfInBounds_toArray, List.set_cons_zero, List.set_cons_succ]
          refine wpAnyH_take (i := 7) (v := ?_) rfl (by kernel_rfl) (by kernel_rfl) (by kernel_rfl) (fun _ _ _ h => h) (Or.inl ⟨by kernel_rfl, ?_⟩) hS0 ?_
          rotate_left
          · intro w hSw
            try dsimp only at hSw
            go_simp
            try (with_reducible rfl)
          try simp only [Act.put, List.setIfInBounds_toArray, List.set_cons_zero, List.set_cons_succ]
          refine wpAnyH_ready (rs := [4, 8]) (by kernel_rfl) (by simp) ?_
          refine AllReadyH.cons rfl (fun K hK => ?_) (AllReadyH.cons rfl (fun K hK => ?_) AllReadyH.nil)
          · go_simp
            refine hK.out _ _ hS0 (fun hS1 => ?_)
            clear hK K
            try simp only [Act.put, List.setIfInBounds_toArray, List.set_cons_zero, List.set_cons_succ]
            refine wpAnyH_ready (rs := [8]) (by kernel_rfl) (by simp) ?_
            refine AllReadyH.cons rfl (fun K hK => ?_) AllReadyH.nil
            go_simp
            refine hK.out _ _ (HSV.out _ (fun j => cellE (hua.block _ HLB.out))) (fun hS2 => ?_)
            clear hK K
            try simp only [Act.put, List.setIfInBounds_toArray, List.set_cons_zero, List.set_cons_succ]
            refine wpAnyH_ready (rs := [9]) (by kernel_rfl) (by simp) ?_
            refine AllReadyH.cons rfl (fun K hK => ?_) AllReadyH.nil
            refine step_append_lies _ rfl (.tmp 39) (.tmp 43) 85 rfl w.heap.size 95 i0 (.agg #[.int .i64 0, .int .i64 0, .int .i64 0, .int .i64 0]) 4 32 Try.underlying85 HI.out HZ0.out HZ1.out HZ2.out rfl (by decide) _ rs.length (rcells rs) rfl (own_same HOW.out fun k e => ((Up.refl W5).alloc _).drew.block k (HOW.out.lt k e).2) ⟨W5.heap.size, 0, none⟩ 1 1 [.int .i64 E1, .int .i64 M, .int .i64 Kd, .int .i64 T] rfl rfl (news1b W5 _ _) (by simp [Value.oneCell']) (by decide) (by unfold maxLen; omega) (by omega) (by have := HSZ.out; simp; omega) _ rfl ?_
            intro g1 cap w7 hown7 hg7 hat7 hlt7
            obtain ⟨⟨hc4, hf4⟩, HT0⟩ := HX.out _ _ _ _ ((Up.refl W5).alloc _).drew hown7 hg7 (hat7.imp id (fun e => by rw [e]; simp))
            have hk7 : ∀ k, k < W5.heap.size → R.ownBlock ≠ some k → w7.heap[k]? = W5.heap[k]? := fun k h1 h2 => (hg7.block k (Nat.lt_of_lt_of_le h1 ((Up.refl W5).alloc _).drew.size) (fun e => h2 e.symm)).trans (((Up.refl W5).alloc _).drew.block k h1)
            have HT := Lib.hid HT0
            have hb7 := hk7 _ HLB.out HNB.out
            have HUF := Lib.hid (show Up w (w7.setCell ⟨h, 0, none⟩ (.slice (some ⟨g1, 0, none⟩) (rs.length + 1) cap)) from by
              refine Below.setCell (p := ⟨h, 0, none⟩) ?_ HG.out.1 _
              exact (HU5.out.trans ((Up.refl W5).alloc _).drew).grown hg7 HU5D.out (fun k e => HG.out.2 k e))
            clear HT0 hown7 hg7 hat7 hlt7 hk7
            refine hK.out _ _ (HSV.out _ (fun j => cellE hb7)) (fun hS3 => ?_)
            clear hK K
            try simp only [Act.put, List.setIfInBounds_toArray, List.set_cons_zero, List.set_cons_succ]
            refine wpAnyH_take (i := 10) (v := ?_) rfl (by kernel_rfl) (by kernel_rfl) (by kernel_rfl) (fun _ _ _ h => h) (Or.inl ⟨by kernel_rfl, ?_⟩) hS3 ?_
            rotate_left
            · intro w hSw
              try dsimp only at hSw
              go_simp
              try (with_reducible rfl)
            try simp only [Act.put, List.setIfInBounds_toArray, List.set_cons_zero, List.set_cons_succ]
            refine wpAnyH_take (i := 11) (v := ?_) rfl (by kernel_rfl) (by kernel_rfl) (by kernel_rfl) (fun _ _ _ h => h) (Or.inl ⟨by kernel_rfl, ?_⟩) hS3 ?_
            rotate_left
            · intro w hSw
              try dsimp only at hSw
              go_simp
              try (with_reducible rfl)
            try simp only [Act.put, List.setIfInBounds_toArray, List.set_cons_zero, List.set_cons_succ]
            refine wpAnyH_ready (rs := [12]) (by kernel_rfl) (by simp) ?_
            refine AllReadyH.cons rfl (fun K hK => ?_) AllReadyH.nil
            go_simp
            refine hK.out _ _ (HSV.out _ (fun j => cellE ((Below.heap_setCell w7 ⟨h, 0, none⟩ _ _ HNH.out).trans hb7))) (fun hS4 => ?_)
            clear hK K
            try simp only [Act.put, List.setIfInBounds_toArray, List.set_cons_zero, List.set_cons_succ]
            refine wpAnyH_done (by kernel_rfl) ?_ _
            try simp only [Act.put, List.setIfInBounds_toArray, List.set_cons_zero, List.set_cons_succ, List.getElem_toArray, List.getElem_cons_succ, List.getElem_cons_zero]
            clear hS0 hS1 hS2 hS3 hS4 hb7 hc4 hf4
            go_wp2_with fail
            go_roundw
            case rel => exact ⟨k + 1, _, HLT.out, by go_num, by rw [HQ1.out], Lib.hid (by rw [HQ2.out, HRSE.out]; exact ⟨HT.out, HUF.out⟩)⟩
            case measure => simp [intOf]; omega
          · go_simp
            refine hK.out _ _ (HSV.out _ (fun j => cellE (hua.block _ HLB.out))) (fun hS1 => ?_)
            clear hK K
            try simp only [Act.put, List.setIfInBounds_toArray, List.set_cons_zero, List.set_cons_succ]
            refine wpAnyH_ready (rs := [4]) (by kernel_rfl) (by simp) ?_
            refine AllReadyH.cons rfl (fun K hK => ?_) AllReadyH.nil
            go_simp
            refine hK.out _ _ hS1 (fun hS2 => ?_)
            clear hK K
            try simp only [Act.put, List.setIfInBounds_toArray, List.set_cons_zero, List.set_cons_succ]
            refine wpAnyH_ready (rs := [9]) (by kernel_rfl) (by simp) ?_
            refine AllReadyH.cons rfl (fun K hK => ?_) AllReadyH.nil
            refine step_append_lies _ rfl (.tmp 39) (.tmp 43) 85 rfl w.heap.size 95 i0 (.agg #[.int .i64 0, .int .i64 0, .int .i64 0, .int .i64 0]) 4 32 Try.underlying85 HI.out HZ0.out HZ1.out HZ2.out rfl (by decide) _ rs.length (rcells rs) rfl (own_same HOW.out fun k e => ((Up.refl W5).alloc _).drew.block k (HOW.out.lt k e).2) ⟨W5.heap.size, 0, none⟩ 1 1 [.int .i64 E1, .int .i64 M, .int .i64 Kd, .int .i64 T] rfl rfl (news1b W5 _ _) (by simp [Value.oneCell']) (by decide) (by unfold maxLen; omega) (by omega) (by have := HSZ.out; simp; omega) _ rfl ?_
            intro g1 cap w7 hown7 hg7 hat7 hlt7
            obtain ⟨⟨hc4, hf4⟩, HT0⟩ := HX.out _ _ _ _ ((Up.refl W5).alloc _).drew hown7 hg7 (hat7.imp id (fun e => by rw [e]; simp))
            have hk7 : ∀ k, k < W5.heap.size → R.ownBlock ≠ some k → w7.heap[k]? = W5.heap[k]? := fun k h1 h2 => (hg7.block k (Nat.lt_of_lt_of_le h1 ((Up.refl W5).alloc _).drew.size) (fun e => h2 e.symm)).trans (((Up.refl W5).alloc _).drew.block k h1)
            have HT := Lib.hid HT0
            have hb7 := hk7 _ HLB.out HNB.out
            have HUF := Lib.hid (show Up w (w7.setCell ⟨h, 0, none⟩ (.slice (some ⟨g1, 0, none⟩) (rs.length + 1) cap)) from by
              refine Below.setCell (p := ⟨h, 0, none⟩) ?_ HG.out.1 _
              exact (HU5.out.trans ((Up.refl W5).alloc _).drew).grown hg7 HU5D.out (fun k e => HG.out.2 k e))
            clear HT0 hown7 hg7 hat7 hlt7 hk7
            refine hK.out _ _ (HSV.out _ (fun j => cellE hb7)) (fun hS3 => ?_)
            clear hK K
            try simp only [Act.put, List.setIfInBounds_toArray, List.set_cons_zero, List.set_cons_succ]
            refine wpAnyH_take (i := 10) (v := ?_) rfl (by kernel_rfl) (by kernel_rfl) (by kernel_rfl) (fun _ _ _ h => h) (Or.inl ⟨by kernel_rfl, ?_⟩) hS3 ?_
            rotate_left
            · intro w hSw
              try dsimp only at hSw
              go_simp
              try (with_reducible rfl)
            try simp only [Act.put, List.setIfInBounds_toArray, List.set_cons_zero, List.set_cons_succ]
            refine wpAnyH_take (i := 11) (v := ?_) rfl (by kernel_rfl) (by kernel_rfl) (by kernel_rfl) (fun _ _ _ h => h) (Or.inl ⟨by kernel_rfl, ?_⟩) hS3 ?_
            rotate_left
            · intro w hSw
              try dsimp only at hSw
              go_simp
              try (with_reducible rfl)
            try simp only [Act.put, List.setIfInBounds_toArray, List.set_cons_zero, List.set_cons_succ]
            refine wpAnyH_ready (rs := [12]) (by kernel_rfl) (by simp) ?_
            refine AllReadyH.cons rfl (fun K hK => ?_) AllReadyH.nil
            go_simp
            refine hK.out _ _ (HSV.out _ (fun j => cellE ((Below.heap_setCell w7 ⟨h, 0, none⟩ _ _ HNH.out).trans hb7))) (fun hS4 => ?_)
            clear hK K
            try simp only [Act.put, List.setIfInBounds_toArray, List.set_cons_zero, List.set_cons_succ]
            refine wpAnyH_done (by kernel_rfl) ?_ _
            try simp only [Act.put, List.setIfInBounds_toArray, List.set_cons_zero, List.set_cons_succ, List.getElem_toArray, List.getElem_cons_succ, List.getElem_cons_zero]
            clear hS0 hS1 hS2 hS3 hS4 hb7 hc4 hf4
            go_wp2_with fail
            go_roundw
            case rel => exact ⟨k + 1, _, HLT.out, by go_num, by rw [HQ1.out], Lib.hid (by rw [HQ2.out, HRSE.out]; exact ⟨HT.out, HUF.out⟩)⟩
            case measure => simp [intOf]; omega
        · have he := HES1.out
          have hrs := HRS1.out
          rw [if_neg hM] at he hrs
          have hd : decide (0 < M) = false := decide_eq_false hM
          have HEE := Lib.hid he
          have HRSE := Lib.hid hrs
          clear he hrs HES1 HRS1 hk hlt
          go_wp2_with fail
          go_roundw
          case rel => exact ⟨k + 1, R, HLT.out, by go_num, by rw [HQ1.out, HEE.out], Lib.hid (by rw [HQ2.out, HRSE.out]; exact ⟨HV.out.1.up HUA.out, HV.out.2.trans HUA.out⟩)⟩
          case measure => simp [intOf]; omega
      · obtain rfl : k = l.length := by omega
        clear hlt hk
        go_wp2_with fail
        go_ret2
        exact HN.out _ _ h m R rfl HV.out.1 HV.out.2

end Go.Proofs.Ytedkgamecdmjdaa
