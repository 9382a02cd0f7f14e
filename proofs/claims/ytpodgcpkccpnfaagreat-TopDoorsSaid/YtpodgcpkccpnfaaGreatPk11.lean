/-
  Parts of a proof, packed: BankR, Lay, BankS, BankF
-/
import Derived.Deep.RegionLaw
import Derived.Deep.RegionHeld3
import Derived.Shelf.SlSorted.Search
import Derived.Test.YtpodgcpkccpnfaaGreatChecked
import Derived.RegionTactic
import Derived.Test.YtpodgcpkccpnfaaGreatPk01
import Derived.Test.YtpodgcpkccpnfaaGreatPk02
import Derived.Test.YtpodgcpkccpnfaaGreatPk08
import Derived.Test.YtpodgcpkccpnfaaGreatPk09
import Derived.Test.YtpodgcpkccpnfaaGreatPk10
set_option linter.unusedVariables false
set_option linter.unusedSimpArgs false
set_option maxRecDepth 20000
set_option maxHeartbeats 16000000
namespace Go.Proofs.YtpodgcpkccpnfaaGreat
open Go.RowKit
theorem news1b (w : World) (news : List Value) (e : TypeId) : ∀ j u, news[j]? = some u → (w.alloc (.cells news.toArray e)).drew.cell? ((⟨w.heap.size, 0, none⟩ : Addr).add j) = some u := fun j u h => cells_new w news e j u h
theorem infoRun : Tryz.prog.info? 154 = some Tryz.t154 := by kernel_rfl
theorem info_partsR : ∃ i, Tryz.prog.info? 154 = some i ∧ i.zero = some (.agg #[.int .i64 0, .int .i64 0, .int .i64 0, .int .i64 0]) ∧ i.size = 4 ∧ i.bytes = 32 := ⟨_, infoRun, by kernel_rfl, by kernel_rfl, by kernel_rfl⟩
def NewPost (l : List SD) (w : World) (e : Ending) (w' : World) : Prop :=
 if (countP l).2 ≠ 0 then e = .returned (.tuple #[.pointer none, .int .i64 (countP l).2]) ∧ Up w w'
 else ∃ h m R, e = .returned (.tuple #[.pointer (some ⟨h, 0, none⟩), .int .i64 0]) ∧ BankO w' w.heap.size h m R (countP l).1 (runsK l l.length) (fun _ => (false, 0)) 0 (fun _ => none) ∧ Up w w'
theorem fine_le {s : SD} (h : fineS s = true) : 0 ≤ s.many := by
 unfold fineS at h
 rw [Bool.and_eq_true] at h
 exact of_decide_eq_true h.1
theorem allF_le {l : List SD} {k n : Nat} (hk : k ≤ n) (h : allF l n = true) : allF l k = true := by
 unfold allF at h ⊢
 rw [List.all_eq_true] at h ⊢
 intro x hx
 exact h x (List.mem_range.2 (by have := List.mem_range.1 hx; omega))
theorem cntK_mono {l : List SD} {n : Nat} (h : allF l n = true) (hc : cntK l n ≤ 32768) : ∀ k, k ≤ n → cntK l (n - k) ≤ 32768
 | 0, _ => hc
 | k + 1, hk => by
  have ih := cntK_mono h hc k (by omega)
  obtain ⟨j, hj⟩ : ∃ j, n - k = j + 1 := ⟨n - k - 1, by omega⟩
  rw [hj] at ih
  rw [show n - (k + 1) = j by omega]
  have h1 := allF_le (show j + 1 ≤ n by omega) h
  rw [allF_succ, Bool.and_eq_true] at h1
  have h2 := fine_le h1.2
  have h3 := cntK_in h1.1
  unfold cntK minI at ih
  split at ih <;> split at ih <;> omega
theorem end_step {l : List SD} (h : allF l l.length = true) (hc : cntK l l.length ≤ 32768) : ∀ k, k ≤ l.length → 0 ≤ endK l k ∧ endK l k ≤ 32768 := by
 intro k hk
 have h1 := allF_le hk h
 have h2 := cntK_mono h hc (l.length - k) (by omega)
 rw [show l.length - (l.length - k) = k by omega] at h2
 rw [cnt_end h1 h2]
 exact ⟨(cntK_in h1).1, h2⟩
theorem newB_any (l : List SD) (A : Option Addr) (c : Nat) (w : World) (hl : l.length ≤ 100000) (hr : StripRow w A l) :
 Calls Tryz.prog 50 #[.slice A l.length c] w (NewPost l w) := by
 have hmm := @run_makeMap Tryz.prog
 have HCO := hQ' (count_any l A c w (by omega) hr)
 have HR := hQ' hr
 have hli : (l.length : Int) ≤ 100000 := by omega
 by_cases he : (countP l).2 ≠ 0
 · have HN : Hid (∀ e w', (e = .returned (.tuple #[.pointer none, .int .i64 (countP l).2]) ∧ Up w w') → NewPost l w e w') := hQ' (fun e w' h => by unfold NewPost; rw [if_pos he]; exact h)
   have hb : ((countP l).2 != 0) = true := by rw [bne_iff_ne]; exact he
   generalize countP l = cp at *
   obtain ⟨c1, c2⟩ := cp
   dsimp only at *
   clear hr hl he
   go_enter Tryz.func50, Tryz.ntmps50
   go_wp2_with fail
   refine HCO.out.mono ?_
   rintro e w1 ⟨rfl, hu1⟩
   have HU1 := hQ' hu1
   clear hu1
   go_wp2_with fail
   go_ret2
   exact HN.out _ _ ⟨rfl, HU1.out⟩
 · have he0 : (countP l).2 = 0 := by omega
   have hcp : countP l = (cntK l l.length, 0) ∧ allF l l.length = true ∧ cntK l l.length ≤ 32768 := by
    unfold countP at he0 ⊢
    split at he0
    · rename_i ha
      split at he0
      · cases he0
      · rename_i hc
        rw [if_pos ha, if_neg hc]
        exact ⟨rfl, ha, by omega⟩
    · cases he0
   obtain ⟨e1, e2, e3⟩ := hcp
   have HES := hQ' (end_step e2 e3)
   have HN : Hid (∀ e w' h m R, e = .returned (.tuple #[.pointer (some ⟨h, 0, none⟩), .int .i64 0]) → BankO w' w.heap.size h m R (cntK l l.length) (runsK l l.length) (fun _ => (false, 0)) 0 (fun _ => none) → Up w w' → NewPost l w e w') := hQ' (fun e w' h m R h1 h2 h3 => by
    unfold NewPost; rw [if_neg he, e1]; exact ⟨h, m, R, h1, h2, h3⟩)
   rw [e1] at HCO
   dsimp only at HCO
   generalize cntK l l.length = many at *
   clear hr hl he he0 e1 e2 e3
   go_enter Tryz.func50, Tryz.ntmps50
   go_wp2_with fail
   refine HCO.out.mono ?_
   rintro e w1 ⟨rfl, hu1⟩
   have HU1 := hQ' hu1
   have HBN := hQ' (bankO_new w1 w.heap.size many 150 hu1.size)
   unfold bankC at HBN
   have HUB := hQ' (show Up w ((w1.alloc (.map #[] 0)).alloc (.cells #[.slice none 0 0, .int .i64 many, .map (some w1.heap.size), .bool false, .int .i64 0, .bool false, .int .i64 0, .bool false, .int .i64 0, .bool false, .int .i64 0, .bool false, .int .i64 0, .bool false, .int .i64 0, .bool false, .int .i64 0, .bool false, .int .i64 0] 150)) from (hu1.alloc _).alloc _)
   clear hu1
   go_wp2_with fail
   generalize hw2 : (w1.alloc (.map #[] 0)).alloc (.cells #[.slice none 0 0, .int .i64 many, .map (some w1.heap.size), .bool false, .int .i64 0, .bool false, .int .i64 0, .bool false, .int .i64 0, .bool false, .int .i64 0, .bool false, .int .i64 0, .bool false, .int .i64 0, .bool false, .int .i64 0, .bool false, .int .i64 0] 150) = w2 at *
   generalize w1.heap.size + 1 = h at *
   generalize w1.heap.size = m at *
   clear hw2
   obtain ⟨i0, hi, hz0, hz1, hz2⟩ := info_partsR
   have HI := hQ' hi
   have HZ0 := hQ' hz0
   have HZ1 := hQ' hz1
   have HZ2 := hQ' hz2
   clear hi hz0 hz1 hz2
   go_loopw [7, 24] (fun e x wr => ∃ (k : Nat) (R : Value), k ≤ l.length ∧ x = .int .i64 k ∧ e = .int .i64 (endK l k) ∧ Hid (BankO wr w.heap.size h m R many (runsK l k) (fun _ => (false, 0)) 0 (fun _ => none) ∧ Up w wr)) (fun _ x _ => l.length - (intOf x).toNat)
   case atStart => exact ⟨0, _, by omega, rfl, rfl, hQ' ⟨HBN.out, HUB.out⟩⟩
   case round =>
    obtain ⟨k, R, hk, rfl, rfl, HV⟩ := hrel
    by_cases hlt : k < l.length
    · have hki : (k : Int) < l.length := by omega
      have hk0 : (0 : Int) ≤ k := by omega
      have HLT := hQ' hlt
      obtain ⟨b, off, rfl, x0, x1, x2⟩ := HR.out.up HV.out.2 k hlt
      have HE0 := hQ' (HES.out k hk)
      have HE1 := hQ' (HES.out (k + 1) hlt)
      have HES1 : Hid (endK l (k + 1) = if 0 < (l.getD k sd0).many then endK l k + (l.getD k sd0).many else endK l k) := hQ' rfl
      have HRS1 : Hid (runsK l (k + 1) = if 0 < (l.getD k sd0).many then runsK l k ++ [(endK l (k + 1), l.getD k sd0)] else runsK l k) := hQ' rfl
      have HRL := hQ' (runsK_len l k)
      generalize hq1 : endK l (k + 1) = E1 at *
      generalize hq2 : runsK l (k + 1) = rs1 at *
      have HQ1 := hQ' hq1
      have HQ2 := hQ' hq2
      clear hq1 hq2
      generalize endK l k = E at *
      generalize runsK l k = rs at *
      generalize l.getD k sd0 = s at *
      obtain ⟨M, Kd, T⟩ := s
      dsimp only at x0 x1 x2 HES1 HRS1
      have HB := hQ' (heap_alloc_new wr (.cells #[.int .i64 M, .int .i64 Kd, .int .i64 T] 152))
      have HUA := hQ' ((Up.refl wr).alloc (.cells #[.int .i64 M, .int .i64 Kd, .int .i64 T] 152))
      have y0 : (wr.alloc (.cells #[.int .i64 M, .int .i64 Kd, .int .i64 T] 152)).cell? ⟨wr.heap.size, 0, none⟩ = some (.int .i64 M) := cell_of_row _ _ 0 _ _ _ HB.out
      by_cases hM : 0 < M
      · have he := HES1.out
        have hrs := HRS1.out
        rw [if_pos hM] at he hrs
        have hw1 : wrap64 (E + M) = E1 := by
         have h1 := HE0.out
         have h2 := HE1.out
         rw [he] at h2 ⊢
         exact IntWalk.wrap64_in _ (by omega)
        have HRSE := hQ' hrs
        clear he hrs HES1 HRS1 hk hlt
        go_wp2_with fail
        rw [hw1]
        have HBO := hQ' (HV.out.1.up HUA.out)
        have HU5 := hQ' (HV.out.2.trans HUA.out)
        have HHW := hQ' HV.out.1.blk.lt
        generalize hsz : wr.heap.size = z at *
        generalize hw5 : wr.alloc (.cells #[.int .i64 M, .int .i64 Kd, .int .i64 T] 152) = W5 at *
        have d0 := cell_of_row _ _ 0 _ _ _ HB.out
        have d1 := cell_of_row _ _ 1 _ _ _ HB.out
        have d2 := cell_of_row _ _ 2 _ _ _ HB.out
        simp only [gA_T, gA_0, gA_S] at d0 d1 d2
        have k0 := HBO.out.blk.k0
        have k0a : ∀ o, (W5.alloc o).cell? ⟨h, 0, none⟩ = some R := fun o => (HBO.out.up ((Up.refl W5).alloc o)).blk.k0
        have k0b := k0a (.cells #[.int .i64 E1, .int .i64 M, .int .i64 Kd, .int .i64 T] 154)
        have HOW := hQ' HBO.out.row
        have HSZ := hQ' (show w.heap.size ≤ W5.heap.size from HU5.out.size)
        have HU5D := hQ' (show w.heap.size ≤ ((W5.alloc (.cells #[.int .i64 E1, .int .i64 M, .int .i64 Kd, .int .i64 T] 154)).drew).heap.size from (HU5.out.trans ((Up.refl W5).alloc _).drew).size)
        have HG := hQ' (show w.heap.size ≤ h ∧ ∀ k, R.ownBlock = some k → w.heap.size ≤ k from ⟨HBO.out.geh, fun k e => (HBO.out.row.lt k e).1⟩)
        have HX := hQ' (fun (W7 w7 : World) (g1 cap : Nat) (hU : Up W5 W7) => bankO_append (W := W7) (w1 := w7) (g1 := g1) (cap := cap) (r := (E1, ⟨M, Kd, T⟩)) HBO.out hU)
        have HLB := hQ' (cell_lt d0)
        have HNH : Hid (z ≠ h) := hQ' (by have := HHW.out; omega)
        have HNB : Hid (R.ownBlock ≠ some z) := hQ' (fun e => by have := (HV.out.1.row.lt z e).2; omega)
        have hSS : W5.drew.cell? ⟨z, 0, none⟩ = some (.int .i64 M) ∧ W5.drew.cell? ⟨z, 1, none⟩ = some (.int .i64 Kd) ∧ W5.drew.cell? ⟨z, 2, none⟩ = some (.int .i64 T) := ⟨d0, d1, d2⟩
        have HSV := hQ' (fun (w' : World) (h1 : ∀ j, w'.cell? ⟨z, j, none⟩ = W5.cell? ⟨z, j, none⟩) => (show w'.cell? ⟨z, 0, none⟩ = some (.int .i64 M) ∧ w'.cell? ⟨z, 1, none⟩ = some (.int .i64 Kd) ∧ w'.cell? ⟨z, 2, none⟩ = some (.int .i64 T) from ⟨(h1 0).trans d0, (h1 1).trans d1, (h1 2).trans d2⟩))
        have hua : Up W5 (W5.alloc (.cells #[.int .i64 E1, .int .i64 M, .int .i64 Kd, .int .i64 T] 154)) := (Up.refl W5).alloc _
        have hrl : rs.length ≤ 100000 := by have := HRL.out; omega
        clear x0 x1 x2 y0 d0 d1 d2 hsz hw5 hM hw1
        refine wp_region_held_drew (S := fun w' => w'.cell? ⟨z, 0, none⟩ = some (.int .i64 M) ∧ w'.cell? ⟨z, 1, none⟩ = some (.int .i64 Kd) ∧ w'.cell? ⟨z, 2, none⟩ = some (.int .i64 T)) (by kernel_rfl) hSS (fun hS0 => ?_)
        clear hSS
        refine tkE 0 ?_ rfl (by kernel_rfl) (fun _ _ _ h => h) hS0 ?_ ?_
        rotate_left
        · intro w hSw
          try dsimp only at hSw
          go_simp
          try (with_reducible rfl)
        try simp only [Act.put, sC_I, sC_0, sC_1]
        refine tkE 1 ?_ rfl (by kernel_rfl) (fun _ _ _ h => h) hS0 ?_ ?_
        rotate_left
        · intro w hSw
          try dsimp only at hSw
          go_simp
          try (with_reducible rfl)
        try simp only [Act.put, sC_I, sC_0, sC_1]
        refine tkE 2 ?_ rfl (by kernel_rfl) (fun _ _ _ h => h) hS0 ?_ ?_
        rotate_left
        · intro w hSw
          try dsimp only at hSw
          go_simp
          try (with_reducible rfl)
        try simp only [Act.put, sC_I, sC_0, sC_1]
        refine tkE 3 ?_ rfl (by kernel_rfl) (fun _ _ _ h => h) hS0 ?_ ?_
        rotate_left
        · intro w hSw
          try dsimp only at hSw
          go_simp
          try (with_reducible rfl)
        try simp only [Act.put, sC_I, sC_0, sC_1]
        refine tkE 5 ?_ rfl (by kernel_rfl) (fun _ _ _ h => h) hS0 ?_ ?_
        rotate_left
        · intro w hSw
          try dsimp only at hSw
          go_simp
          try (with_reducible rfl)
        try simp only [Act.put, sC_I, sC_0, sC_1]
        refine tkE 6 ?_ rfl (by kernel_rfl) (fun _ _ _ h => h) hS0 ?_ ?_
        rotate_left
        · intro w hSw
          try dsimp only at hSw
          go_simp
          try (with_reducible rfl)
        try simp only [Act.put, sC_I, sC_0, sC_1]
        refine tkE 7 ?_ rfl (by kernel_rfl) (fun _ _ _ h => h) hS0 ?_ ?_
        rotate_left
        · intro w hSw
          try dsimp only at hSw
          go_simp
          try (with_reducible rfl)
        try simp only [Act.put, sC_I, sC_0, sC_1]
        refine wpAnyH_ready (rs := [4, 8]) (by kernel_rfl) (by simp) ?_
        refine AllReadyH.cons rfl (fun K hK => ?_) (AllReadyH.cons rfl (fun K hK => ?_) AllReadyH.nil)
        · go_simp
          refine hK.out _ _ hS0 (fun hS1 => ?_)
          clear hK K
          try simp only [Act.put, sC_I, sC_0, sC_1]
          refine rdE 8 (by kernel_rfl) rfl fun K hK => ?_
          go_simp
          refine hK.out _ _ (HSV.out _ (fun j => cellE (hua.block _ HLB.out))) (fun hS2 => ?_)
          clear hK K
          try simp only [Act.put, sC_I, sC_0, sC_1]
          refine rdE 9 (by kernel_rfl) rfl fun K hK => ?_
          refine step_append_lies _ rfl (.tmp 39) (.tmp 43) 145 rfl w.heap.size 154 i0 (.agg #[.int .i64 0, .int .i64 0, .int .i64 0, .int .i64 0]) 4 32 Tryz.underlying145 HI.out HZ0.out HZ1.out HZ2.out rfl (by decide) _ rs.length (rcells rs) rfl (own_same HOW.out fun k e => ((Up.refl W5).alloc _).drew.block k (HOW.out.lt k e).2) ⟨W5.heap.size, 0, none⟩ 1 1 [.int .i64 E1, .int .i64 M, .int .i64 Kd, .int .i64 T] rfl rfl (news1b W5 _ _) (by simp [Value.oneCell']) (by decide) (by unfold maxLen; omega) (by omega) (by have := HSZ.out; simp; omega) _ rfl ?_
          intro g1 cap w7 hown7 hg7 hat7 hlt7
          obtain ⟨⟨hc4, hf4⟩, HT0⟩ := HX.out _ _ _ _ ((Up.refl W5).alloc _).drew hown7 hg7 (hat7.imp id (fun e => by rw [e]; simp))
          have hk7 : ∀ k, k < W5.heap.size → R.ownBlock ≠ some k → w7.heap[k]? = W5.heap[k]? := fun k h1 h2 => (hg7.block k (Nat.lt_of_lt_of_le h1 ((Up.refl W5).alloc _).drew.size) (fun e => h2 e.symm)).trans (((Up.refl W5).alloc _).drew.block k h1)
          have HT := hQ' HT0
          have hb7 := hk7 _ HLB.out HNB.out
          have HUF := hQ' (show Up w (w7.setCell ⟨h, 0, none⟩ (.slice (some ⟨g1, 0, none⟩) (rs.length + 1) cap)) from by
           refine Below.setCell (p := ⟨h, 0, none⟩) ?_ HG.out.1 _
           exact (HU5.out.trans ((Up.refl W5).alloc _).drew).grown hg7 HU5D.out (fun k e => HG.out.2 k e))
          clear HT0 hown7 hg7 hat7 hlt7 hk7
          refine hK.out _ _ (HSV.out _ (fun j => cellE hb7)) (fun hS3 => ?_)
          clear hK K
          try simp only [Act.put, sC_I, sC_0, sC_1]
          refine tkE 10 ?_ rfl (by kernel_rfl) (fun _ _ _ h => h) hS3 ?_ ?_
          rotate_left
          · intro w hSw
            try dsimp only at hSw
            go_simp
            try (with_reducible rfl)
          try simp only [Act.put, sC_I, sC_0, sC_1]
          refine tkE 11 ?_ rfl (by kernel_rfl) (fun _ _ _ h => h) hS3 ?_ ?_
          rotate_left
          · intro w hSw
            try dsimp only at hSw
            go_simp
            try (with_reducible rfl)
          try simp only [Act.put, sC_I, sC_0, sC_1]
          refine rdE 12 (by kernel_rfl) rfl fun K hK => ?_
          go_simp
          refine hK.out _ _ (HSV.out _ (fun j => cellE ((Below.heap_setCell w7 ⟨h, 0, none⟩ _ _ HNH.out).trans hb7))) (fun hS4 => ?_)
          clear hK K
          try simp only [Act.put, sC_I, sC_0, sC_1]
          refine wpAnyH_done (by kernel_rfl) ?_ _
          try simp only [Act.put, sC_I, sC_0, sC_1, List.getElem_toArray, List.getElem_cons_succ, List.getElem_cons_zero]
          clear hS0 hS1 hS2 hS3 hS4 hb7 hc4 hf4
          go_wp2_with fail
          go_roundw
          case rel => exact ⟨k + 1, _, HLT.out, by go_num, by rw [HQ1.out], hQ' (by rw [HQ2.out, HRSE.out]; exact ⟨HT.out, HUF.out⟩)⟩
          case measure => simp [intOf]; omega
        · go_simp
          refine hK.out _ _ (HSV.out _ (fun j => cellE (hua.block _ HLB.out))) (fun hS1 => ?_)
          clear hK K
          try simp only [Act.put, sC_I, sC_0, sC_1]
          refine rdE 4 (by kernel_rfl) rfl fun K hK => ?_
          go_simp
          refine hK.out _ _ hS1 (fun hS2 => ?_)
          clear hK K
          try simp only [Act.put, sC_I, sC_0, sC_1]
          refine rdE 9 (by kernel_rfl) rfl fun K hK => ?_
          refine step_append_lies _ rfl (.tmp 39) (.tmp 43) 145 rfl w.heap.size 154 i0 (.agg #[.int .i64 0, .int .i64 0, .int .i64 0, .int .i64 0]) 4 32 Tryz.underlying145 HI.out HZ0.out HZ1.out HZ2.out rfl (by decide) _ rs.length (rcells rs) rfl (own_same HOW.out fun k e => ((Up.refl W5).alloc _).drew.block k (HOW.out.lt k e).2) ⟨W5.heap.size, 0, none⟩ 1 1 [.int .i64 E1, .int .i64 M, .int .i64 Kd, .int .i64 T] rfl rfl (news1b W5 _ _) (by simp [Value.oneCell']) (by decide) (by unfold maxLen; omega) (by omega) (by have := HSZ.out; simp; omega) _ rfl ?_
          intro g1 cap w7 hown7 hg7 hat7 hlt7
          obtain ⟨⟨hc4, hf4⟩, HT0⟩ := HX.out _ _ _ _ ((Up.refl W5).alloc _).drew hown7 hg7 (hat7.imp id (fun e => by rw [e]; simp))
          have hk7 : ∀ k, k < W5.heap.size → R.ownBlock ≠ some k → w7.heap[k]? = W5.heap[k]? := fun k h1 h2 => (hg7.block k (Nat.lt_of_lt_of_le h1 ((Up.refl W5).alloc _).drew.size) (fun e => h2 e.symm)).trans (((Up.refl W5).alloc _).drew.block k h1)
          have HT := hQ' HT0
          have hb7 := hk7 _ HLB.out HNB.out
          have HUF := hQ' (show Up w (w7.setCell ⟨h, 0, none⟩ (.slice (some ⟨g1, 0, none⟩) (rs.length + 1) cap)) from by
           refine Below.setCell (p := ⟨h, 0, none⟩) ?_ HG.out.1 _
           exact (HU5.out.trans ((Up.refl W5).alloc _).drew).grown hg7 HU5D.out (fun k e => HG.out.2 k e))
          clear HT0 hown7 hg7 hat7 hlt7 hk7
          refine hK.out _ _ (HSV.out _ (fun j => cellE hb7)) (fun hS3 => ?_)
          clear hK K
          try simp only [Act.put, sC_I, sC_0, sC_1]
          refine tkE 10 ?_ rfl (by kernel_rfl) (fun _ _ _ h => h) hS3 ?_ ?_
          rotate_left
          · intro w hSw
            try dsimp only at hSw
            go_simp
            try (with_reducible rfl)
          try simp only [Act.put, sC_I, sC_0, sC_1]
          refine tkE 11 ?_ rfl (by kernel_rfl) (fun _ _ _ h => h) hS3 ?_ ?_
          rotate_left
          · intro w hSw
            try dsimp only at hSw
            go_simp
            try (with_reducible rfl)
          try simp only [Act.put, sC_I, sC_0, sC_1]
          refine rdE 12 (by kernel_rfl) rfl fun K hK => ?_
          go_simp
          refine hK.out _ _ (HSV.out _ (fun j => cellE ((Below.heap_setCell w7 ⟨h, 0, none⟩ _ _ HNH.out).trans hb7))) (fun hS4 => ?_)
          clear hK K
          try simp only [Act.put, sC_I, sC_0, sC_1]
          refine wpAnyH_done (by kernel_rfl) ?_ _
          try simp only [Act.put, sC_I, sC_0, sC_1, List.getElem_toArray, List.getElem_cons_succ, List.getElem_cons_zero]
          clear hS0 hS1 hS2 hS3 hS4 hb7 hc4 hf4
          go_wp2_with fail
          go_roundw
          case rel => exact ⟨k + 1, _, HLT.out, by go_num, by rw [HQ1.out], hQ' (by rw [HQ2.out, HRSE.out]; exact ⟨HT.out, HUF.out⟩)⟩
          case measure => simp [intOf]; omega
      · have he := HES1.out
        have hrs := HRS1.out
        rw [if_neg hM] at he hrs
        have hd : decide (0 < M) = false := decide_eq_false hM
        have HEE := hQ' he
        have HRSE := hQ' hrs
        clear he hrs HES1 HRS1 hk hlt
        go_wp2_with fail
        go_roundw
        case rel => exact ⟨k + 1, R, HLT.out, by go_num, by rw [HQ1.out, HEE.out], hQ' (by rw [HQ2.out, HRSE.out]; exact ⟨HV.out.1.up HUA.out, HV.out.2.trans HUA.out⟩)⟩
        case measure => simp [intOf]; omega
    · obtain rfl : k = l.length := by omega
      clear hlt hk
      go_wp2_with fail
      go_ret2
      exact HN.out _ _ h m R rfl HV.out.1 HV.out.2
end Go.Proofs.YtpodgcpkccpnfaaGreat

namespace Go.Proofs.YtpodgcpkccpnfaaGreat
open Go.Shelf
def Tryz.search_ren : Go.Shelf.Ren := ⟨fun | 16 => 170 | n => n, fun | 3 => 3 | 35 => 181 | 4 => 4 | 38 => 261 | n => n, fun | n => n⟩
theorem Tryz.search : Go.Proofs.SlLaysO.n16 Tryz.prog Tryz.search_ren := {
 mixed := by kernel_rfl
 f16 := Tryz.func170.trans (congrArg some (by kernel_rfl))
 t3 := Tryz.underlying3
 a3 := Tryz.isAgg3
 z3 := Tryz.sizeOf3
 v3 := Tryz.zeroValue3
 t4 := Tryz.underlying4
 a4 := Tryz.isAgg4
 z4 := Tryz.sizeOf4
 v4 := Tryz.zeroValue4
 t35 := Tryz.underlying181
 a35 := Tryz.isAgg181
 z35 := Tryz.sizeOf181
 v35 := Tryz.zeroValue181
 t38 := Tryz.underlying261
 a38 := Tryz.isAgg261
 z38 := Tryz.sizeOf261
 v38 := Tryz.zeroValue261 }
end Go.Proofs.YtpodgcpkccpnfaaGreat

namespace Go.Proofs.YtpodgcpkccpnfaaGreat
open Go.RowKit Go.Shelf Go.Lib Go.Sort
theorem runs_row {w : World} {B : Nat} {R : Value} {rs : List (Int × SD)} (h : w.ownsRow B 154 4 R rs.length (rcells rs)) :
 ∃ A c, R = .slice A rs.length c ∧ ∀ k r, rs[k]? = some r → ∃ g, A = some ⟨g, 0, none⟩ ∧ w.cell? ⟨g, k * 4, none⟩ = some (.int .i64 r.1) ∧ w.cell? ⟨g, k * 4 + 1, none⟩ = some (.int .i64 r.2.many) ∧ w.cell? ⟨g, k * 4 + 2, none⟩ = some (.int .i64 r.2.kind) ∧ w.cell? ⟨g, k * 4 + 3, none⟩ = some (.int .i64 r.2.top) := by
 rcases h.2 with ⟨hv, hn⟩ | ⟨g, cap, cur, hv, _⟩
 · refine ⟨none, 0, by rw [hv, hn], fun k r hk => ?_⟩
   have := (List.getElem?_eq_some_iff.1 hk).1
   omega
 · refine ⟨_, cap, hv, fun k r hk => ⟨g, rfl, ?_⟩⟩
   have hlt := (List.getElem?_eq_some_iff.1 hk).1
   rw [hv] at h
   have c : ∀ j, j < 4 → w.cell? ⟨g, k * 4 + j, none⟩ = (rcell r)[j]? := fun j hj => (h.cellAt (k * 4 + j) (by omega)).trans (rcells_at rs k r hk j hj)
   exact ⟨c 0 (by decide), c 1 (by decide), c 2 (by decide), c 3 (by decide)⟩
theorem closure_any (bb bn h g len cap i : Nat) (x n : Int) (W : World) (hi : i < len)
 (hb : W.cell? ⟨bb, 0, none⟩ = some (.pointer (some ⟨h, 0, none⟩))) (hn : W.cell? ⟨bn, 0, none⟩ = some (.int .i64 n)) (hr : W.cell? ⟨h, 0, none⟩ = some (.slice (some ⟨g, 0, none⟩) len cap)) (hc : W.cell? ⟨g, i * 4, none⟩ = some (.int .i64 x)) :
 Calls Tryz.prog 171 (#[.int .i64 i] ++ #[.pointer (some ⟨bb, 0, none⟩), .pointer (some ⟨bn, 0, none⟩)]) W fun e w' => e = .returned (.bool (decide (n < x))) ∧ ∃ q, w' = W.drewN q := by
 have hiz : (i : Int) < (len : Int) := by omega
 have hi0 : (0 : Int) ≤ (i : Int) := by omega
 clear hi
 go_enter Tryz.func171, Tryz.ntmps171
 go_wp2_with fail
 go_quiet (fail)
 go_wp2_with fail
 go_ret
 exact ⟨rfl, _, rfl⟩
theorem fresh_any (l : List SD) (B h m : Nat) (R : Value) (many : Int) (by' : Nat → Bool × Int) (sz : Nat) (F : Int → Option Nat) (n : Int) (w : World) (hl : l.length ≤ 100000) (H : BankO w B h m R many (runsK l l.length) by' sz F) (h0 : 0 ≤ n) (h1 : n < endK l l.length) :
 Calls Tryz.prog 114 #[.pointer (some ⟨h, 0, none⟩), .int .i64 n] w fun e w' => ∃ g, e = .returned (.pointer (some ⟨g, 0, none⟩)) ∧ w.heap.size ≤ g ∧ CellIs w' g g (mkP l n) (fun _ => .slice none 0 0) ∧ Up w w' := by
 obtain ⟨r, s, hr, hs, hrs⟩ := runs_at l n h0 l.length h1
 have hlen : (runsK l l.length).length < 4611686018427387904 := by have := runsK_len l l.length; omega
 have hmk : mkP l n = CS.new s.kind s.top := by unfold mkP; rw [hs]
 have hends := (runs_ends l l.length).2
 obtain ⟨A, c, rfl, hrow⟩ := runs_row H.row
 generalize runsK l l.length = rs at *
 obtain ⟨W0, hW0⟩ : ∃ W0, W0 = (w.alloc (.cells #[.pointer (some ⟨h, 0, none⟩)] 100)).alloc (.cells #[.int .i64 n] 3) := ⟨_, rfl⟩
 have hU0 : Up w W0 := by rw [hW0]; exact ((Up.refl w).alloc _).alloc _
 have hsize : W0.heap.size = w.heap.size + 1 + 1 := by rw [hW0]; simp
 have ca : W0.cell? ⟨w.heap.size, 0, none⟩ = some (.pointer (some ⟨h, 0, none⟩)) := by rw [hW0]; exact cell_alloc_sl _ (cell_new_sl w _ _)
 have cx : W0.cell? ⟨w.heap.size + 1, 0, none⟩ = some (.int .i64 n) := by rw [hW0]; have := cell_new_sl (w.alloc (.cells #[.pointer (some ⟨h, 0, none⟩)] 100)) (.int .i64 n) 3; rwa [World.size_alloc] at this
 obtain ⟨g, hg, _⟩ := hrow _ _ hr
 subst hg
 have k0 := (hU0.cell (p := ⟨h, 0, none⟩) H.blk.lt).trans H.blk.k0
 have hgl : g < w.heap.size := (H.row.lt g rfl).2
 have hhl := H.blk.lt
 have cc : ∀ k r, rs[k]? = some r → W0.cell? ⟨g, k * 4, none⟩ = some (.int .i64 r.1) ∧ W0.cell? ⟨g, k * 4 + 2, none⟩ = some (.int .i64 r.2.kind) ∧ W0.cell? ⟨g, k * 4 + 3, none⟩ = some (.int .i64 r.2.top) := fun k r hk => by
  obtain ⟨g', e, q0, _, q2, q3⟩ := hrow k r hk
  injection e with e
  injection e with e
  subst e
  exact ⟨(hU0.cell (cell_lt q0)).trans q0, (hU0.cell (cell_lt q2)).trans q2, (hU0.cell (cell_lt q3)).trans q3⟩
 have eg : ∀ args w, (callFunc 171 args).run Tryz.prog w = .ok (.enter 171 args) w := enters_of Tryz.func171 (by kernel_rfl) rfl
 have hS := Any.sort_Search Tryz.search 171 #[.pointer (some ⟨w.heap.size, 0, none⟩), .pointer (some ⟨w.heap.size + 1, 0, none⟩)] rs.length (fun i => decide (n < (rs.getD i (0, sd0)).1)) W0 eg hlen
  (fun m os i hi => (closure_any w.heap.size (w.heap.size + 1) h g rs.length c i ((rs.getD i (0, sd0)).1) n _ hi (cell_grown (by simp [hsize]; omega) ca m os) (cell_grown (by simp [hsize]) cx m os) (cell_grown (by simp [hsize]; omega) k0 m os)
   (cell_grown (by simp [hsize]; omega) (cc i _ (by rw [List.getD_eq_getElem?_getD, List.getElem?_eq_getElem hi]; rfl)).1 m os)).mono
   fun _ _ ⟨he, q, hq⟩ => ⟨he, q, #[], by rw [hq, grow_empty]⟩)
  (fun a b hab hb hp => by
   have hp := of_decide_eq_true hp
   refine decide_eq_true ?_
   rcases Nat.lt_or_ge a b with h | h
   · have := List.pairwise_iff_getElem.1 hends a b (by omega) hb h
     rw [List.getD_eq_getElem?_getD, List.getElem?_eq_getElem (by omega)] at hp
     rw [List.getD_eq_getElem?_getD, List.getElem?_eq_getElem hb]
     simp only [Option.getD_some] at hp ⊢
     omega
   · obtain rfl : a = b := by omega
     exact hp)
 have hcnt : (List.range rs.length).countP (fun i => !decide (n < (rs.getD i (0, sd0)).1)) = rs.countP (fun r => !decide (n < r.1)) := by
  have e : rs = (List.range rs.length).map (fun i => rs.getD i (0, sd0)) := by
   apply List.ext_getElem
   · simp
   · intro i h1 h2
     simp only [List.getElem_map, List.getElem_range]
     rw [List.getD_eq_getElem?_getD, List.getElem?_eq_getElem h1]; rfl
  conv => rhs; rw [e, List.countP_map]
  rfl
 rw [hcnt] at hS
 change Calls Tryz.prog 170 _ _ _ at hS
 obtain ⟨_, q2, q3⟩ := cc _ _ hr
 have hat : rs.countP (fun r => !decide (n < r.1)) < rs.length := (List.getElem?_eq_some_iff.1 hr).1
 generalize rs.countP (fun r => !decide (n < r.1)) = at' at *
 generalize rs.length = len at *
 obtain ⟨r1, r2, rk, rt⟩ := r
 dsimp only at q2 q3 hrs
 subst hrs
 rw [hmk]
 have HS := hQ' hS
 have HW0 := hQ' hW0
 have HU0 := hQ' hU0
 have ha1 : (at' : Int) < len := by omega
 have ha0 : (0 : Int) ≤ at' := by omega
 have HC := hQ' (fun W => new_any rk rt W)
 have HSZ := hQ' hsize
 have kk0 := H.blk.k0
 clear cc hrow hcnt hS hends hr hs hmk hlen H h1 hW0 hU0 eg hat hsize
 go_enter Tryz.func114, Tryz.ntmps114
 go_wp2_with fail
 rw [← HW0.out]
 refine HS.out.mono ?_
 rintro e w1 ⟨rfl, q, os, hw1⟩
 have hu1 : Up W0 w1 := by rw [hw1]; exact below_grown_sl _ _ _ _ (Nat.le_refl _)
 have HU1 := hQ' (HU0.out.trans hu1)
 have ca := (hu1.cell (cell_lt ca)).trans ca
 have k0 := (hu1.cell (cell_lt k0)).trans k0
 have q2 := (hu1.cell (cell_lt q2)).trans q2
 have q3 := (hu1.cell (cell_lt q3)).trans q3
 have hSS : w1.drew.cell? ⟨w.heap.size, 0, none⟩ = some (.pointer (some ⟨h, 0, none⟩)) ∧ w1.drew.cell? ⟨h, 0, none⟩ = some (.slice (some ⟨g, 0, none⟩) len c) ∧ w1.drew.cell? ⟨g, at' * 4 + 2, none⟩ = some (.int .i64 rk) ∧ w1.drew.cell? ⟨g, at' * 4 + 3, none⟩ = some (.int .i64 rt) := ⟨ca, k0, q2, q3⟩
 have HSS := hQ' hSS
 clear hw1 hu1 ca k0 q2 q3 cx HS HU0 HW0
 go_wp2_with fail
 refine wp_region_held_drew (S := fun w' => w'.cell? ⟨w.heap.size, 0, none⟩ = some (.pointer (some ⟨h, 0, none⟩)) ∧ w'.cell? ⟨h, 0, none⟩ = some (.slice (some ⟨g, 0, none⟩) len c) ∧ w'.cell? ⟨g, at' * 4 + 2, none⟩ = some (.int .i64 rk) ∧ w'.cell? ⟨g, at' * 4 + 3, none⟩ = some (.int .i64 rt)) (by kernel_rfl) hSS (fun hS0 => ?_)
 clear hSS
 refine tkE 0 ?_ rfl (by kernel_rfl) (fun _ _ _ h => h) hS0 ?_ ?_
 rotate_left
 · intro w hSw
   try dsimp only at hSw
   go_simp
   try (with_reducible rfl)
 try simp only [Act.put, sC_I, sC_0, sC_1]
 refine tkE 1 ?_ rfl (by kernel_rfl) (fun _ _ _ h => h) hS0 ?_ ?_
 rotate_left
 · intro w hSw
   try dsimp only at hSw
   go_simp
   try (with_reducible rfl)
 try simp only [Act.put, sC_I, sC_0, sC_1]
 refine tkE 2 ?_ rfl (by kernel_rfl) (fun _ _ _ h => h) hS0 ?_ ?_
 rotate_left
 · intro w hSw
   try dsimp only at hSw
   go_simp
   try (with_reducible rfl)
 try simp only [Act.put, sC_I, sC_0, sC_1]
 refine tkE 3 ?_ rfl (by kernel_rfl) (fun _ _ _ h => h) hS0 ?_ ?_
 rotate_left
 · intro w hSw
   try dsimp only at hSw
   go_simp
   try (with_reducible rfl)
 try simp only [Act.put, sC_I, sC_0, sC_1]
 refine tkE 4 ?_ rfl (by kernel_rfl) (fun _ _ _ h => h) hS0 ?_ ?_
 rotate_left
 · intro w hSw
   try dsimp only at hSw
   go_simp
   try (with_reducible rfl)
 try simp only [Act.put, sC_I, sC_0, sC_1]
 refine tkE 5 ?_ rfl (by kernel_rfl) (fun _ _ _ h => h) hS0 ?_ ?_
 rotate_left
 · intro w hSw
   try dsimp only at hSw
   go_simp
   try (with_reducible rfl)
 try simp only [Act.put, sC_I, sC_0, sC_1]
 refine tkE 6 ?_ rfl (by kernel_rfl) (fun _ _ _ h => h) hS0 ?_ ?_
 rotate_left
 · intro w hSw
   try dsimp only at hSw
   go_simp
   try (with_reducible rfl)
 try simp only [Act.put, sC_I, sC_0, sC_1]
 refine tkE 7 ?_ rfl (by kernel_rfl) (fun _ _ _ h => h) hS0 ?_ ?_
 rotate_left
 · intro w hSw
   try dsimp only at hSw
   go_simp
   try (with_reducible rfl)
 try simp only [Act.put, sC_I, sC_0, sC_1]
 refine tkE 8 ?_ rfl (by kernel_rfl) (fun _ _ _ h => h) hS0 ?_ ?_
 rotate_left
 · intro w hSw
   try dsimp only at hSw
   go_simp
   try (with_reducible rfl)
 try simp only [Act.put, sC_I, sC_0, sC_1]
 refine tkE 9 ?_ rfl (by kernel_rfl) (fun _ _ _ h => h) hS0 ?_ ?_
 rotate_left
 · intro w hSw
   try dsimp only at hSw
   go_simp
   try (with_reducible rfl)
 try simp only [Act.put, sC_I, sC_0, sC_1]
 refine tkE 10 ?_ rfl (by kernel_rfl) (fun _ _ _ h => h) hS0 ?_ ?_
 rotate_left
 · intro w hSw
   try dsimp only at hSw
   go_simp
   try (with_reducible rfl)
 try simp only [Act.put, sC_I, sC_0, sC_1]
 refine tkE 11 ?_ rfl (by kernel_rfl) (fun _ _ _ h => h) hS0 ?_ ?_
 rotate_left
 · intro w hSw
   try dsimp only at hSw
   go_simp
   try (with_reducible rfl)
 try simp only [Act.put, sC_I, sC_0, sC_1]
 refine tkE 12 ?_ rfl (by kernel_rfl) (fun _ _ _ h => h) hS0 ?_ ?_
 rotate_left
 · intro w hSw
   try dsimp only at hSw
   go_simp
   try (with_reducible rfl)
 try simp only [Act.put, sC_I, sC_0, sC_1]
 refine tkE 13 ?_ rfl (by kernel_rfl) (fun _ _ _ h => h) hS0 ?_ ?_
 rotate_left
 · intro w hSw
   try dsimp only at hSw
   go_simp
   try (with_reducible rfl)
 try simp only [Act.put, sC_I, sC_0, sC_1]
 refine tkE 14 ?_ rfl (by kernel_rfl) (fun _ _ _ h => h) hS0 ?_ ?_
 rotate_left
 · intro w hSw
   try dsimp only at hSw
   go_simp
   try (with_reducible rfl)
 try simp only [Act.put, sC_I, sC_0, sC_1]
 refine tkE 15 ?_ rfl (by kernel_rfl) (fun _ _ _ h => h) hS0 ?_ ?_
 rotate_left
 · intro w hSw
   try dsimp only at hSw
   go_simp
   try (with_reducible rfl)
 try simp only [Act.put, sC_I, sC_0, sC_1]
 refine tkE 16 ?_ rfl (by kernel_rfl) (fun _ _ _ h => h) hS0 ?_ ?_
 rotate_left
 · intro w hSw
   try dsimp only at hSw
   go_simp
   try (with_reducible rfl)
 try simp only [Act.put, sC_I, sC_0, sC_1]
 refine tkE 17 ?_ rfl (by kernel_rfl) (fun _ _ _ h => h) hS0 ?_ ?_
 rotate_left
 · intro w hSw
   try dsimp only at hSw
   go_simp
   try (with_reducible rfl)
 try simp only [Act.put, sC_I, sC_0, sC_1]
 refine rdE 18 (by kernel_rfl) rfl fun K hK => ?_
 go_simp
 refine (HC.out _).mono ?_
 rintro e w2 ⟨rfl, hc2, hu2⟩
 have HC2 := hQ' hc2
 have HU2 := hQ' (((Up.refl w1).drew).trans hu2)
 obtain ⟨s1, s2, s3, s4⟩ := HSS.out
 have hS2 := And.intro ((hu2.cell (cell_lt s1)).trans s1) (And.intro ((hu2.cell (cell_lt s2)).trans s2) (And.intro ((hu2.cell (cell_lt s3)).trans s3) ((hu2.cell (cell_lt s4)).trans s4)))
 clear s1 s2 s3 s4 hc2 hu2
 refine hK.out _ _ hS2 (fun hS1 => ?_)
 clear hK K
 try simp only [Act.put, sC_I, sC_0, sC_1]
 refine tkE 19 ?_ rfl (by kernel_rfl) (fun _ _ _ h => h) hS1 ?_ ?_
 rotate_left
 · intro w hSw
   try dsimp only at hSw
   go_simp
   try (with_reducible rfl)
 try simp only [Act.put, sC_I, sC_0, sC_1]
 refine wpAnyH_done (by kernel_rfl) ?_ _
 try simp only [Act.put, sC_I, sC_0, sC_1, List.getElem_toArray, List.getElem_cons_succ, List.getElem_cons_zero]
 go_wp2_with fail
 go_ret
 exact ⟨_, rfl, HU1.out.size, HC2.out, HU1.out.trans HU2.out⟩
end Go.Proofs.YtpodgcpkccpnfaaGreat

namespace Go.Proofs.YtpodgcpkccpnfaaGreat
open Go.RowKit
def Ft (g : Nat) (ms : Nat → Value) (k : Nat) : Prop := k = g ∨ ∃ i, i < 8 ∧ (ms i).ownBlock = some k
theorem CellIs.ft_lt {w : World} {g : Nat} {c : CS} {ms : Nat → Value} (H : CellIs w g g c ms) {k : Nat} (h : Ft g ms k) : g ≤ k ∧ k < w.heap.size := by
 rcases h with rfl | ⟨i, hi, e⟩
 · exact ⟨Nat.le_refl _, H.lt⟩
 · exact (H.own i hi).ge k e
structure Cells (w : World) (u : List (Int × CS)) (N B h m : Nat) (R : Value) (F : Int → Option Nat) (MS : Int → Nat → Value) (X : Nat → Prop) : Prop where
 dom : ∀ q, (F q).isSome = (getU u q).isSome
 cell : ∀ q g c, F q = some g → getU u q = some c → CellIs w g g c (MS q) ∧ CGood c N
 ft : ∀ q g, F q = some g → ∀ k, Ft g (MS q) k → X k ∧ k ≠ h ∧ k ≠ m ∧ R.ownBlock ≠ some k
 two : ∀ q q' g g', q ≠ q' → F q = some g → F q' = some g' → ∀ k, Ft g (MS q) k → ¬ Ft g' (MS q') k
 rng : ∀ q g, F q = some g → Wf q
theorem Cells.get {w : World} {u : List (Int × CS)} {N B h m : Nat} {R : Value} {F : Int → Option Nat} {MS : Int → Nat → Value} {X : Nat → Prop} (H : Cells w u N B h m R F MS X) {q : Int} {g : Nat} (hq : F q = some g) : ∃ c, getU u q = some c := by
 have := H.dom q
 rw [hq] at this
 cases hc : getU u q with
 | none => rw [hc] at this; cases this
 | some c => exact ⟨c, rfl⟩
theorem Cells.congr {w : World} {u u' : List (Int × CS)} {N B h m : Nat} {R : Value} {F F' : Int → Option Nat} {MS : Int → Nat → Value} {X : Nat → Prop} (H : Cells w u N B h m R F MS X) (hu : ∀ q, getU u' q = getU u q) (hF : ∀ q, F' q = F q) : Cells w u' N B h m R F' MS X :=
 ⟨fun q => by rw [hu, hF]; exact H.dom q, fun q g c h1 h2 => H.cell q g c (by rw [← hF]; exact h1) (by rw [← hu]; exact h2), fun q g h1 => H.ft q g (by rw [← hF]; exact h1), fun q q' g g' hne h1 h2 => H.two q q' g g' hne (by rw [← hF]; exact h1) (by rw [← hF]; exact h2), fun q g h1 => H.rng q g (by rw [← hF]; exact h1)⟩
theorem Cells.more {w : World} {u : List (Int × CS)} {N N' B h m : Nat} {R : Value} {F : Int → Option Nat} {MS : Int → Nat → Value} {X X' : Nat → Prop} (H : Cells w u N B h m R F MS X) (hN : N ≤ N') (hX : ∀ k, X k → X' k) : Cells w u N' B h m R F MS X' :=
 ⟨H.dom, fun q g c h1 h2 => ⟨(H.cell q g c h1 h2).1, (H.cell q g c h1 h2).2.more hN⟩, fun q g h1 k hk => ⟨hX k (H.ft q g h1 k hk).1, (H.ft q g h1 k hk).2⟩, H.two, H.rng⟩
theorem Cells.keep {w w' : World} {u : List (Int × CS)} {N B h m : Nat} {R : Value} {F : Int → Option Nat} {MS : Int → Nat → Value} {X : Nat → Prop} (H : Cells w u N B h m R F MS X) (hs : w.heap.size ≤ w'.heap.size)
 (hk : ∀ q g, F q = some g → ∀ k, Ft g (MS q) k → w'.heap[k]? = w.heap[k]?) : Cells w' u N B h m R F MS X :=
 ⟨H.dom, fun q g c h1 h2 => ⟨(H.cell q g c h1 h2).1.keep hs (hk q g h1 g (.inl rfl)) (fun i hi k e => hk q g h1 k (.inr ⟨i, hi, e⟩)), (H.cell q g c h1 h2).2⟩, H.ft, H.two, H.rng⟩
theorem Cells.lt {w : World} {u : List (Int × CS)} {N B h m : Nat} {R : Value} {F : Int → Option Nat} {MS : Int → Nat → Value} {X : Nat → Prop} (H : Cells w u N B h m R F MS X) {q : Int} {g : Nat} (hq : F q = some g) {k : Nat} (hk : Ft g (MS q) k) : k < w.heap.size := by
 obtain ⟨c, hc⟩ := H.get hq
 exact ((H.cell q g c hq hc).1.ft_lt hk).2
theorem Cells.up {w w' : World} {u : List (Int × CS)} {N B h m : Nat} {R : Value} {F : Int → Option Nat} {MS : Int → Nat → Value} {X : Nat → Prop} (H : Cells w u N B h m R F MS X) (up : Up w w') : Cells w' u N B h m R F MS X :=
 H.keep up.size fun q g hq k hk => up.block k (H.lt hq hk)
def setMS (MS : Int → Nat → Value) (q : Int) (ms : Nat → Value) : Int → Nat → Value := fun x => if x = q then ms else MS x
def XG (X : Nat → Prop) (w w' : World) : Nat → Prop := fun k => X k ∨ (w.heap.size ≤ k ∧ k < w'.heap.size)
theorem Cells.step {w w' : World} {u : List (Int × CS)} {N N' B h m g : Nat} {R : Value} {F : Int → Option Nat} {MS : Int → Nat → Value} {X : Nat → Prop} {q : Int} {c' : CS} {ms' : Nat → Value} (H : Cells w u N B h m R F MS X) (hN : N ≤ N')
 (hh : h < w.heap.size) (hm : m < w.heap.size) (hR : ∀ k, R.ownBlock = some k → k < w.heap.size)
 (hq : F q = some g) (hc : CellIs w' g g c' ms') (hg : CGood c' N') (hf : CFrame w w' g (MS q) ms') : Cells w' (putU u q c') N' B h m R F (setMS MS q ms') (XG X w w') := by
 refine ⟨fun x => ?_, fun x gx cx h1 h2 => ?_, fun x gx h1 k hk => ?_, fun x x' gx gx' hne h1 h2 k hk hk' => ?_, H.rng⟩
 · by_cases e : x = q
   · rw [e, getU_same, hq]; rfl
   · rw [getU_other e]; exact H.dom x
 · unfold setMS
   by_cases e : x = q
   · subst e
     rw [getU_same, Option.some.injEq] at h2
     subst h2
     rw [hq, Option.some.injEq] at h1
     subst h1
     rw [if_pos rfl]
     exact ⟨hc, hg⟩
   · rw [if_neg e]
     rw [getU_other e] at h2
     obtain ⟨p1, p2⟩ := H.cell x gx cx h1 h2
     have hb : ∀ k, Ft gx (MS x) k → w'.heap[k]? = w.heap[k]? := fun k hk => by
      have hn := H.two x q gx g e h1 hq k hk
      exact hf.block k (H.lt h1 hk) (fun e2 => hn (.inl e2)) (fun i hi e2 => hn (.inr ⟨i, hi, e2⟩))
     exact ⟨p1.keep hf.size (hb gx (.inl rfl)) (fun i hi k e2 => hb k (.inr ⟨i, hi, e2⟩)), p2.more hN⟩
 · unfold setMS at hk
   by_cases e : x = q
   · subst e
     rw [if_pos rfl] at hk
     rw [hq, Option.some.injEq] at h1
     subst h1
     have hlt := (hc.ft_lt hk).2
     have hold : ∀ k, Ft g (MS x) k → XG X w w' k ∧ k ≠ h ∧ k ≠ m ∧ R.ownBlock ≠ some k := fun k h => ⟨.inl (H.ft x g hq k h).1, (H.ft x g hq k h).2⟩
     rcases hk with rfl | ⟨i, hi, e2⟩
     · exact hold k (.inl rfl)
     · rcases hf.new i hi k e2 with ⟨j, hj, e3⟩ | hge
       · exact hold k (.inr ⟨j, hj, e3⟩)
       · exact ⟨.inr ⟨hge, hlt⟩, by omega, by omega, fun e3 => by have := hR k e3; omega⟩
   · rw [if_neg e] at hk
     exact ⟨.inl (H.ft x gx h1 k hk).1, (H.ft x gx h1 k hk).2⟩
 · have key : ∀ y gy, y ≠ q → F y = some gy → Ft gy (MS y) k → ¬ Ft g ms' k := fun y gy e hy hky hk' => by
    have hn := H.two y q gy g e hy hq k hky
    rcases hk' with rfl | ⟨i, hi, e2⟩
    · exact hn (.inl rfl)
    · rcases hf.new i hi k e2 with ⟨j, hj, e3⟩ | hge
      · exact hn (.inr ⟨j, hj, e3⟩)
      · have := H.lt hy hky; omega
   unfold setMS at hk hk'
   by_cases e : x = q
   · have e' : x' ≠ q := fun h => hne (by rw [e, h])
     subst e
     rw [if_pos rfl] at hk
     rw [if_neg e'] at hk'
     rw [hq, Option.some.injEq] at h1
     subst h1
     exact key x' gx' e' h2 hk' hk
   · rw [if_neg e] at hk
     by_cases e' : x' = q
     · subst e'
       rw [if_pos rfl] at hk'
       rw [hq, Option.some.injEq] at h2
       subst h2
       exact key x gx e h1 hk hk'
     · rw [if_neg e'] at hk'
       exact H.two x x' gx gx' hne h1 h2 k hk hk'
theorem Cells.add {w w' : World} {u : List (Int × CS)} {N B h m g : Nat} {R : Value} {F : Int → Option Nat} {MS : Int → Nat → Value} {X : Nat → Prop} {q : Int} {c' : CS} (H : Cells w u N B h m R F MS X)
 (hh : h < w.heap.size) (hm : m < w.heap.size) (hR : ∀ k, R.ownBlock = some k → k < w.heap.size)
 (up : Up w w') (hge : w.heap.size ≤ g) (hc : CellIs w' g g c' (fun _ => .slice none 0 0)) (hg : CGood c' N) (hw : Wf q) : Cells w' (putU u q c') N B h m R (fun x => if x = q then some g else F x) (setMS MS q (fun _ => .slice none 0 0)) (XG X w w') := by
 have hft : ∀ k, Ft g (fun _ => Value.slice none 0 0) k → k = g := fun k hk => by
  rcases hk with e | ⟨i, hi, e⟩
  · exact e
  · simp [Value.ownBlock] at e
 have H' := H.up up
 refine ⟨fun x => ?_, fun x gx cx h1 h2 => ?_, fun x gx h1 k hk => ?_, fun x x' gx gx' hne h1 h2 k hk hk' => ?_, fun x gx h1 => ?_⟩
 rotate_right
 · by_cases e : x = q
   · rw [e]; exact hw
   · rw [if_neg e] at h1; exact H.rng x gx h1
 · by_cases e : x = q
   · rw [e, getU_same, if_pos rfl]; rfl
   · rw [getU_other e, if_neg e]; exact H.dom x
 · unfold setMS
   by_cases e : x = q
   · subst e
     rw [getU_same, Option.some.injEq] at h2
     subst h2
     rw [if_pos rfl, Option.some.injEq] at h1
     subst h1
     rw [if_pos rfl]
     exact ⟨hc, hg⟩
   · rw [if_neg e]
     rw [getU_other e] at h2
     rw [if_neg e] at h1
     exact H'.cell x gx cx h1 h2
 · unfold setMS at hk
   by_cases e : x = q
   · subst e
     rw [if_pos rfl] at hk
     rw [if_pos rfl, Option.some.injEq] at h1
     subst h1
     have := hft k hk
     subst this
     exact ⟨.inr ⟨hge, hc.lt⟩, by omega, by omega, fun e3 => by have := hR k e3; omega⟩
   · rw [if_neg e] at hk h1
     exact ⟨.inl (H.ft x gx h1 k hk).1, (H.ft x gx h1 k hk).2⟩
 · unfold setMS at hk hk'
   by_cases e : x = q
   · have e' : x' ≠ q := fun h => hne (by rw [e, h])
     subst e
     rw [if_pos rfl] at hk h1
     rw [if_neg e'] at hk' h2
     rw [Option.some.injEq] at h1
     subst h1
     have := hft k hk
     have := H.lt h2 hk'
     omega
   · rw [if_neg e] at hk h1
     by_cases e' : x' = q
     · subst e'
       rw [if_pos rfl] at hk' h2
       rw [Option.some.injEq] at h2
       subst h2
       have := hft k hk'
       have := H.lt h1 hk
       omega
     · rw [if_neg e'] at hk' h2
       exact H.two x x' gx gx' hne h1 h2 k hk hk'
structure Fit (l : List SD) : Prop where
 all : allF l l.length = true
 few : cntK l l.length ≤ 32768
 len : l.length ≤ 100000
def BankM (w : World) (B h : Nat) (l : List SD) (s : BS) (N : Nat) (X : Nat → Prop) : Prop :=
 ∃ m R sz F MS, BankO w B h m R (cntK l l.length) (runsK l l.length) s.by' sz F ∧ Cells w s.u N B h m R F MS X ∧ (X h ∧ X m ∧ ∀ k, R.ownBlock = some k → X k) ∧ (∀ k, X k → B ≤ k ∧ k < w.heap.size) ∧ sz ≤ N ∧ s.Good
theorem BankM.keep {w w' : World} {B h : Nat} {l : List SD} {s : BS} {N : Nat} {X : Nat → Prop} (H : BankM w B h l s N X) (hs : w.heap.size ≤ w'.heap.size) (hk : ∀ k, X k → w'.heap[k]? = w.heap[k]?) : BankM w' B h l s N X := by
 obtain ⟨m, R, sz, F, MS, h1, h2, h3, h4, h5, h6⟩ := H
 exact ⟨m, R, sz, F, MS, h1.keep (hk _ h3.1) (hk _ h3.2.1) (fun k e => hk k (h3.2.2 k e)), h2.keep hs (fun q g hq k hk' => hk k (h2.ft q g hq k hk').1), h3, fun k hk' => ⟨(h4 k hk').1, Nat.lt_of_lt_of_le (h4 k hk').2 hs⟩, h5, h6⟩
theorem BankM.up {w w' : World} {B h : Nat} {l : List SD} {s : BS} {N : Nat} {X : Nat → Prop} (H : BankM w B h l s N X) (u : Up w w') : BankM w' B h l s N X :=
 H.keep u.size fun k hk => by
  obtain ⟨m, R, sz, F, MS, h1, h2, h3, h4, h5, h6⟩ := H
  exact u.block k (h4 k hk).2
theorem BankM.lt {w : World} {B h : Nat} {l : List SD} {s : BS} {N : Nat} {X : Nat → Prop} (H : BankM w B h l s N X) : ∀ k, X k → B ≤ k ∧ k < w.heap.size := by
 obtain ⟨m, R, sz, F, MS, h1, h2, h3, h4, h5, h6⟩ := H
 exact h4
theorem BankM.more {w : World} {B h : Nat} {l : List SD} {s : BS} {N N' : Nat} {X X' : Nat → Prop} (H : BankM w B h l s N X) (hN : N ≤ N') (hX : ∀ k, X k → X' k) (hX' : ∀ k, X' k → B ≤ k ∧ k < w.heap.size) : BankM w B h l s N' X' := by
 obtain ⟨m, R, sz, F, MS, h1, h2, h3, h4, h5, h6⟩ := H
 exact ⟨m, R, sz, F, MS, h1, h2.more hN hX, ⟨hX _ h3.1, hX _ h3.2.1, fun k e => hX _ (h3.2.2 k e)⟩, hX', Nat.le_trans h5 hN, h6⟩
structure Fr (w w' : World) (X : Nat → Prop) : Prop where
 os : w'.os = w.os
 tape : w'.tape = w.tape
 output : w'.output = w.output
 size : w.heap.size ≤ w'.heap.size
 block : ∀ k, k < w.heap.size → ¬ X k → w'.heap[k]? = w.heap[k]?
theorem Fr.ofUp {w w' : World} {X : Nat → Prop} (u : Up w w') : Fr w w' X := ⟨u.os, u.tape, u.output, u.size, fun k hk _ => u.block k hk⟩
theorem Fr.trans {w w1 w2 : World} {X X1 : Nat → Prop} (f : Fr w w1 X) (f2 : Fr w1 w2 X1) (hX : ∀ k, k < w.heap.size → X1 k → X k) : Fr w w2 X :=
 ⟨f2.os.trans f.os, f2.tape.trans f.tape, f2.output.trans f.output, Nat.le_trans f.size f2.size, fun k hk hn => (f2.block k (Nat.lt_of_lt_of_le hk f.size) (fun h => hn (hX k hk h))).trans (f.block k hk hn)⟩
theorem Fr.same {w w1 w2 : World} {X : Nat → Prop} (f : Fr w w1 X) (f2 : Fr w1 w2 X) : Fr w w2 X := f.trans f2 fun k _ h => h
theorem XG.ge {X : Nat → Prop} {w w' : World} {B : Nat} (h : ∀ k, X k → B ≤ k ∧ k < w.heap.size) (hs : w.heap.size ≤ w'.heap.size) (hB : B ≤ w.heap.size) : ∀ k, XG X w w' k → B ≤ k ∧ k < w'.heap.size := fun k hk => by
 rcases hk with hk | hk
 · exact ⟨(h k hk).1, Nat.lt_of_lt_of_le (h k hk).2 hs⟩
 · exact ⟨by omega, hk.2⟩
end Go.Proofs.YtpodgcpkccpnfaaGreat
namespace Go.Proofs.YtpodgcpkccpnfaaGreat
open Go.RowKit
def st2 (w : World) (h o : Nat) (a b : Value) : World := (w.setCell ⟨h, o, none⟩ a).setCell ⟨h, o + 1, none⟩ b
theorem st2_other (w : World) (h o : Nat) (a b : Value) : ∀ k, k ≠ h → (st2 w h o a b).heap[k]? = w.heap[k]? := fun k hk =>
 (Below.heap_setCell (w.setCell ⟨h, o, none⟩ a) ⟨h, o + 1, none⟩ b k hk).trans (Below.heap_setCell w ⟨h, o, none⟩ a k hk)
theorem st2_size (w : World) (h o : Nat) (a b : Value) : (st2 w h o a b).heap.size = w.heap.size := by unfold st2; simp
theorem st2_fr (w : World) (h o : Nat) (a b : Value) (X : Nat → Prop) (hX : X h) : Fr w (st2 w h o a b) X := ⟨rfl, rfl, rfl, by rw [st2_size]; exact Nat.le_refl _, fun k _ hn => st2_other w h o a b k (fun e => hn (by rw [e]; exact hX))⟩
theorem BankB.setBy {w : World} {h : Nat} {R : Value} {many : Int} {m : Nat} {by' : Nat → Bool × Int} (H : BankB w h R many m by') (t : Nat) (ht : t < 8) (p : Bool × Int) :
 BankB (st2 w h (3 + t * 2) (.bool p.1) (.int .i64 p.2)) h R many m (fun i => if i = t then p else by' i) := by
 unfold st2
 have ho : ∀ j, j ≠ 3 + t * 2 → j ≠ 3 + t * 2 + 1 → ((w.setCell ⟨h, 3 + t * 2, none⟩ (.bool p.1)).setCell ⟨h, 3 + t * 2 + 1, none⟩ (.int .i64 p.2)).cell? ⟨h, j, none⟩ = w.cell? ⟨h, j, none⟩ := fun j h1 h2 =>
  (World.cell?_setCell_other _ _ _ _ (by simp <;> omega)).trans (World.cell?_setCell_other _ _ _ _ (by simp <;> omega))
 refine ⟨(ho 0 (by omega) (by omega)).trans H.k0, (ho 1 (by omega) (by omega)).trans H.k1, (ho 2 (by omega) (by omega)).trans H.k2, fun i hi => ?_, fun i hi => ?_, fun j => by simpa [go_sem] using H.fz j⟩
 · by_cases e : i = t
   · subst e
     rw [if_pos rfl]
     exact (World.cell?_setCell_other _ _ _ _ (by simp <;> omega)).trans (World.cell?_setCell_same _ _ _ (H.on i hi))
   · rw [if_neg e]
     exact (ho _ (by omega) (by omega)).trans (H.on i hi)
 · by_cases e : i = t
   · subst e
     rw [if_pos rfl]
     exact World.cell?_setCell_same _ _ _ ((World.cell?_setCell_other _ _ _ _ (by simp <;> omega)).trans (H.at' i hi))
   · rw [if_neg e]
     exact (ho _ (by omega) (by omega)).trans (H.at' i hi)
theorem BankO.setBy {w : World} {B h m : Nat} {R : Value} {many : Int} {rs : List (Int × SD)} {by' : Nat → Bool × Int} {sz : Nat} {F : Int → Option Nat} (H : BankO w B h m R many rs by' sz F) (t : Nat) (ht : t < 8) (p : Bool × Int) :
 BankO (st2 w h (3 + t * 2) (.bool p.1) (.int .i64 p.2)) B h m R many rs (fun i => if i = t then p else by' i) sz F :=
 ⟨H.blk.setBy t ht p, own_same H.row fun k e => st2_other _ _ _ _ _ k (fun e2 => H.rh (by rw [e, e2])), H.map.up (st2_other _ _ _ _ _ m (fun e => H.hm e.symm)), H.hm, H.rh, H.rm, H.geh, H.gem⟩
theorem Cells.st2 {w : World} {u : List (Int × CS)} {N B h m : Nat} {R : Value} {F : Int → Option Nat} {MS : Int → Nat → Value} {X : Nat → Prop} (H : Cells w u N B h m R F MS X) (o : Nat) (a b : Value) : Cells (st2 w h o a b) u N B h m R F MS X :=
 H.keep (by rw [st2_size]; exact Nat.le_refl _) fun q g hq k hk => st2_other _ _ _ _ _ k (H.ft q g hq k hk).2.1
theorem BankO.store {w : World} {B h m : Nat} {R : Value} {many : Int} {rs : List (Int × SD)} {by' : Nat → Bool × Int} {sz : Nat} {F : Int → Option Nat} (H : BankO w B h m R many rs by' sz F) (hn : sz < maxLen) {q : Int} (hq : Wf q) (g : Nat) :
 ∃ W', (Instr.mapUpdate 144 (.map (some m)) (.int .i64 q) (.pointer (some ⟨g, 0, none⟩))).run Tryz.prog w = .ok () W' ∧ BankO W' B h m R many rs by' (sz + 1) (fun x => if x = q then some g else F x) ∧ w.grownBy W' (some m) := by
 obtain ⟨W', h1, h2, h3⟩ := H.map.store hn hq g
 have hk : ∀ k, k < w.heap.size → k ≠ m → W'.heap[k]? = w.heap[k]? := fun k hk hne => h3.block k hk (fun e => hne (by injection e))
 exact ⟨W', h1, ⟨H.blk.same (hk h H.blk.lt H.hm), own_same H.row (fun k e => hk k (H.row.lt k e).2 (fun e2 => H.rm (by rw [e, e2]))), h2, H.hm, H.rh, H.rm, H.geh, H.gem⟩, h3⟩
theorem grown_fr {w w' : World} {m : Nat} {X : Nat → Prop} (h : w.grownBy w' (some m)) (hX : X m) : Fr w w' X := ⟨h.os, h.tape, h.output, h.size, fun k hk hn => h.block k hk (fun e => hn (by injection e with e; rw [e]; exact hX))⟩
theorem Cells.grown {w w' : World} {u : List (Int × CS)} {N B h m : Nat} {R : Value} {F : Int → Option Nat} {MS : Int → Nat → Value} {X : Nat → Prop} (H : Cells w u N B h m R F MS X) (hg : w.grownBy w' (some m)) : Cells w' u N B h m R F MS X :=
 H.keep hg.size fun q g hq k hk => hg.block k (H.lt hq hk) (fun e => by injection e with e; exact (H.ft q g hq k hk).2.2.1 e)
def NewM (l : List SD) (w : World) (e : Ending) (w' : World) : Prop :=
 if (countP l).2 ≠ 0 then e = .returned (.tuple #[.pointer none, .int .i64 (countP l).2]) ∧ Up w w'
 else ∃ h X, e = .returned (.tuple #[.pointer (some ⟨h, 0, none⟩), .int .i64 0]) ∧ BankM w' w.heap.size h l bs0 0 X ∧ Up w w'
theorem fit_of {l : List SD} (hl : l.length ≤ 100000) (h : (countP l).2 = 0) : Fit l ∧ (countP l).1 = cntK l l.length := by
 unfold countP at h ⊢
 split at h
 · rename_i ha
   split at h
   · cases h
   · rename_i hc
     rw [if_pos ha, if_neg hc]
     exact ⟨⟨ha, by omega, hl⟩, rfl⟩
 · cases h
theorem newM_any (l : List SD) (A : Option Addr) (c : Nat) (w : World) (hl : l.length ≤ 100000) (hr : StripRow w A l) :
 Calls Tryz.prog 50 #[.slice A l.length c] w (NewM l w) := by
 refine (newB_any l A c w hl hr).mono fun e w' hp => ?_
 unfold NewPost at hp
 unfold NewM
 by_cases h0 : (countP l).2 ≠ 0
 · rw [if_pos h0] at hp ⊢
   exact hp
 · rw [if_neg h0] at hp ⊢
   obtain ⟨hf, h1⟩ := fit_of hl (by omega)
   obtain ⟨h, m, R, he, hb, hu⟩ := hp
   rw [h1] at hb
   refine ⟨h, fun k => k = h ∨ k = m ∨ R.ownBlock = some k, he, ⟨m, R, 0, fun _ => none, fun _ _ => .slice none 0 0, hb, ⟨fun q => rfl, fun q g c hq => (by cases hq), fun q g hq => (by cases hq), fun q q' g g' _ hq => (by cases hq), fun q g hq => (by cases hq)⟩, ⟨.inl rfl, .inr (.inl rfl), fun k e => .inr (.inr e)⟩, fun k hk => ?_, Nat.le_refl _, bs0_good⟩, hu⟩
   rcases hk with rfl | rfl | e
   · exact ⟨hb.geh, hb.blk.lt⟩
   · exact ⟨hb.gem, hb.map.isLt⟩
   · exact hb.row.lt k e
theorem busyM_any (l : List SD) (B h N : Nat) (s : BS) (X : Nat → Prop) (t : Int) (w : World) (ht0 : -9223372036854775808 ≤ t) (ht1 : t ≤ 9223372036854775807) (H : BankM w B h l s N X) :
 Calls Tryz.prog 80 #[.pointer (some ⟨h, 0, none⟩), .int .i64 t] w fun e w' => e = .returned (.tuple #[.int .i64 (s.busy t).1, .bool (s.busy t).2]) ∧ Up w w' := by
 obtain ⟨m, R, sz, F, MS, h1, h2, h3, h4, h5, h6⟩ := H
 exact bbusy_any h R _ m s t w ht0 ht1 h1.blk
end Go.Proofs.YtpodgcpkccpnfaaGreat

