/-
  Parts of a proof, packed: BakW
-/
import Derived.BigQuiet
import Derived.Test.YtpodgcpkccpnfaaGreatPk01
import Derived.Test.YtpodgcpkccpnfaaGreatPk05
set_option linter.unusedVariables false
set_option linter.unusedSimpArgs false
set_option maxRecDepth 20000
set_option maxHeartbeats 16000000
namespace Go.Proofs.YtpodgcpkccpnfaaGreat
open Go.RowKit
theorem bsizes_any (many room : Int) (x0 x2 x3 x4 : Int) (w : World) (hm : 1 ≤ many ∧ many ≤ 8) (hr : 1 ≤ room ∧ room ≤ 1048576) :
 Calls Tryz.prog 333 #[.agg #[.int .i64 x0, .int .i64 many, .int .i64 x2, .int .i64 x3, .int .i64 x4, .int .i64 room]] w fun e w' => e = .returned (.tuple #[.int .i64 many, .int .i64 room]) ∧ Up w w' := by
 have hb := heap_alloc_new w (.cells #[.int .i64 x0, .int .i64 many, .int .i64 x2, .int .i64 x3, .int .i64 x4, .int .i64 room] 128)
 have c1 := cell_of_row _ _ 1 _ _ _ hb
 have c5 := cell_of_row _ _ 5 _ _ _ hb
 simp only [gA_T, gA_0, gA_S] at c1 c5
 have e1 : min (max many 1) 8 = many := by omega
 have e2 : min (max room 1) 1048576 = room := by omega
 have HU := hQ' (show Up w (w.alloc (.cells #[.int .i64 x0, .int .i64 many, .int .i64 x2, .int .i64 x3, .int .i64 x4, .int .i64 room] 128)) from (Up.refl w).alloc _)
 clear hb hm hr
 go_enter Tryz.func333, Tryz.ntmps333
 go_wp2_with fail
 generalize w.alloc (.cells #[.int .i64 x0, .int .i64 many, .int .i64 x2, .int .i64 x3, .int .i64 x4, .int .i64 room] 128) = W at *
 go_region
 all_goals
  go_wp2_with fail
  go_ret2
  exact ⟨rfl, HU.out.drew⟩
theorem wait_cases (c1 c2 c3 c4 : Bool) : c1 = false ∨ (c1 = true ∧ c2 = false) ∨ (c1 = true ∧ c2 = true ∧ c3 = false ∧ c4 = false) ∨ (c1 = true ∧ c2 = true ∧ c3 = true) ∨ (c1 = true ∧ c2 = true ∧ c3 = false ∧ c4 = true) := by
 cases c1 <;> cases c2 <;> cases c3 <;> cases c4 <;> simp
structure Box6 (w : World) (b : Nat) (cs : Array Value) : Prop where
 hb : w.heap[b]? = some (.cells cs 128 (0, 0))
theorem range_drop {n j : Nat} (h : j < n) : (List.range n).drop j = j :: (List.range n).drop (j + 1) := by
 rw [List.drop_eq_getElem_cons (by simpa using h), List.getElem_range]
theorem range_drop_end (n : Nat) : (List.range n).drop n = [] := List.drop_eq_nil_of_le (by simp)
theorem bakAcq_any (n me : Nat) (alg mode base loc room : Int) (F : Nat) (g B : Nat) (s0 : TS) (W : World) (hn : 1 ≤ n ∧ n ≤ 8) (hme : me < n) (hr : 1 ≤ room ∧ room ≤ 1048576) (hb0 : 0 ≤ base ∧ base ≤ 40000) (hF : s0.ans.length < F) (hA : TameA s0.ans) (hN : s0.nts.length ≤ 500000) (h : Tape1 W g B s0) :
 Calls Tryz.prog 328 #[.pointer (some ⟨g, 0, none⟩), .agg #[.int .i64 alg, .int .i64 n, .int .i64 mode, .int .i64 base, .int .i64 loc, .int .i64 room], .int .i64 me] W (TPost encI g B W ((bakAcq n room base loc me F).onT s0)) := by
 obtain ⟨R, hE⟩ : ∃ R, (bakAcq n room base loc me F).onT s0 = R := ⟨_, rfl⟩
 rw [hE]
 have hb := heap_alloc_new W (.cells #[.int .i64 alg, .int .i64 n, .int .i64 mode, .int .i64 base, .int .i64 loc, .int .i64 room] 128)
 have hu : Up W (W.alloc (.cells #[.int .i64 alg, .int .i64 n, .int .i64 mode, .int .i64 base, .int .i64 loc, .int .i64 room] 128)) := (Up.refl W).alloc _
 have hg : W.heap.size ≠ g := by have := h.1.gs; omega
 have HK := hQ' (show TWk (W.alloc (.cells #[.int .i64 alg, .int .i64 n, .int .i64 mode, .int .i64 base, .int .i64 loc, .int .i64 room] 128)) g B s0.ans 500000 _ s0 from (TWk.start (h.up hu)).more hN)
 have HU := hQ' hu
 have HBX := hQ' (fun (wr : World) (s : TS) (m : Nat) (hk : TWk (W.alloc (.cells #[.int .i64 alg, .int .i64 n, .int .i64 mode, .int .i64 base, .int .i64 loc, .int .i64 room] 128)) g B s0.ans m wr s) => hk.block hb hg (by decide))
 have c0 := cell_of_row _ _ 0 _ _ _ hb
 have c1 := cell_of_row _ _ 1 _ _ _ hb
 have c2 := cell_of_row _ _ 2 _ _ _ hb
 have c3 := cell_of_row _ _ 3 _ _ _ hb
 have c4 := cell_of_row _ _ 4 _ _ _ hb
 have c5 := cell_of_row _ _ 5 _ _ _ hb
 simp only [gA_T, gA_0, gA_S] at c0 c1 c2 c3 c4 c5
 have HSZ := hQ' (fun W' => bsizes_any n room alg mode base loc W' (by omega) (by omega))
 have HE0 := hQ' hE
 have HA := hQ' hA
 have HF := hQ' hF
 clear hb hu h hE hA hF hN
 obtain ⟨A, hAns⟩ : ∃ A, s0.ans = A := ⟨_, rfl⟩
 rw [hAns] at HK HBX HA HF
 clear hAns
 go_enter Tryz.func328, Tryz.ntmps328
 go_wp2_with fail
 generalize W.alloc (.cells #[.int .i64 alg, .int .i64 n, .int .i64 mode, .int .i64 base, .int .i64 loc, .int .i64 room] 128) = W1 at *
 refine (HSZ.out _).mono ?_
 rintro e w2 ⟨rfl, hu2⟩
 have HK2 := hQ' (HK.out.up hu2)
 clear c0 c1 c2 c3 c4 c5 HK hu2 HSZ
 have c3 := cell_of_row _ _ 3 _ _ _ (HBX.out _ _ _ HK2.out)
 simp only [gA_T, gA_0, gA_S] at c3
 go_wp2_with fail
 go_quiet (fail)
 rename_i nq
 have HK3 := hQ' (HK2.out.up ((Up.refl w2).drewN nq))
 clear c3 HK2
 generalize w2.drewN nq = w2' at *
 have hw1 : wrap64 (base + (n : Int)) = base + (n : Int) := IntWalk.wrap64_in _ (by omega)
 have hw2 : wrap64 (base + (me : Int)) = base + (me : Int) := IntWalk.wrap64_in _ (by omega)
 have hw3 : wrap64 (base + (n : Int) + (me : Int)) = base + (n : Int) + (me : Int) := IntWalk.wrap64_in _ (by omega)
 go_wp2_with fail
 refine (note_ask HK3.out (by decide) HE0.out).mono ?_
 rintro e w3 ⟨rfl, HE1, HK4⟩
 clear HK3 HE0
 generalize s0.noted 1 = s1 at *
 go_wp2_with fail
 refine (write_ask HK4.out HE1.out).mono ?_
 rintro e w4 (⟨rfl, hR, hT, hK⟩ | ⟨rfl, HE2, HK5, -⟩)
 · go_wp2_with fail
   exact ⟨rfl, TPost.none hR.out ⟨rfl, hT.out, (TK.ofUp HU.out).trans hK.out⟩⟩
 clear HK4 HE1
 generalize s1.told = x1 at *
 generalize s1.asked (2, base + (me : Int), 1) = s2 at *
 dsimp only at HE2
 go_wp2_with fail
 go_loopw [11, 34] (fun u v wr => ∃ (j : Nat) (t : Int) (s : TS), j ≤ n ∧ 0 ≤ t ∧ t ≤ 1099511627776 ∧ u = .int .i64 t ∧ v = .int .i64 j ∧ Hid (TWk W1 g B A (500000 + 1) wr s) ∧ Hid (((readMax (base + (n : Int)) me ((List.range n).drop j) t).bind fun t => bakTicket n room base loc me F (t + 1)).onT s = R)) (fun _ v _ => n - (intOf v).toNat)
 case atStart => exact ⟨0, 0, s2, by omega, by omega, by omega, rfl, rfl, HK5, HE2⟩
 case round =>
  obtain ⟨j, t, s, hj, ht0, ht1, rfl, rfl, HK, HE⟩ := hrel
  by_cases hjl : j < n
  · have hji : (j : Int) < n := by omega
    have hj0 : (0 : Int) ≤ j := by omega
    have HE := hQ' (show ((readMax (base + (n : Int)) me (j :: (List.range n).drop (j + 1)) t).bind fun t => bakTicket n room base loc me F (t + 1)).onT s = R by rw [← range_drop hjl]; exact HE.out)
    unfold readMax at HE
    by_cases he : j = me
    · subst he
      rw [if_pos rfl] at HE
      have hne : ((j : Int) != (j : Int)) = false := by simp
      go_wp2_with fail
      go_roundw
      case rel => exact ⟨j + 1, t, s, by omega, ht0, ht1, rfl, by go_num, HK, HE⟩
      case measure => simp [intOf]; omega
    · rw [if_neg he] at HE
      have hne : ((j : Int) != (me : Int)) = true := by rw [bne_iff_ne]; omega
      have hw4 : wrap64 (base + (n : Int) + (j : Int)) = base + (n : Int) + (j : Int) := IntWalk.wrap64_in _ (by omega)
      go_wp2_with fail
      refine (read_ask HK.out HE.out).mono ?_
      rintro e w6 (⟨rfl, hR, hT, hK⟩ | ⟨rfl, HE6, HK6, -⟩)
      · go_wp2_with fail
        exact ⟨rfl, TPost.none hR.out ⟨rfl, hT.out, (TK.ofUp HU.out).trans hK.out⟩⟩
      have hx := HK.out.told_in HA.out
      clear HK HE
      generalize s.told = x at *
      generalize s.asked (1, base + (n : Int) + (j : Int), 0) = s6 at *
      dsimp only at HE6
      go_wp2_with fail
      go_roundw
      case rel => exact ⟨j + 1, max t x, s6, by omega, by omega, by omega, by exact congrArg (Value.int .i64) (by rw [Int.max_def]; split <;> split <;> omega), by go_num, HK6, HE6⟩
      case measure => simp [intOf]; omega
  · obtain rfl : j = n := by omega
    clear hjl
    rw [range_drop_end] at HE
    have HE := hQ' (show (bakTicket j room base loc me F (t + 1)).onT s = R from HE.out)
    have hw : wrap64 (t + 1) = t + 1 := IntWalk.wrap64_in _ (by omega)
    unfold bakTicket at HE
    by_cases hroom : room < t + 1
    · rw [if_pos hroom] at HE
      go_wp2_with fail
      refine (write_ask HK.out HE.out).mono ?_
      rintro e w6 (⟨rfl, hR, hT, hK⟩ | ⟨rfl, HE6, HK6, -⟩)
      · go_wp2_with fail
        exact ⟨rfl, TPost.none hR.out ⟨rfl, hT.out, (TK.ofUp HU.out).trans hK.out⟩⟩
      clear HK HE
      generalize s.asked (2, base + (me : Int), 0) = s6 at *
      dsimp only at HE6
      go_wp2_with fail
      refine (note_ask HK6.out (by decide) HE6.out).mono ?_
      rintro e w7 ⟨rfl, HE7, HK7⟩
      go_wp2_with fail
      go_ret
      exact TPost.some HE7.out.symm ⟨rfl, HK7.out.tape, HK7.out.base HU.out⟩
    · rw [if_neg hroom] at HE
      go_wp2_with fail
      refine (write_ask HK.out HE.out).mono ?_
      rintro e w6 (⟨rfl, hR, hT, hK⟩ | ⟨rfl, HE6, HK6, -⟩)
      · go_wp2_with fail
        exact ⟨rfl, TPost.none hR.out ⟨rfl, hT.out, (TK.ofUp HU.out).trans hK.out⟩⟩
      clear HK HE
      generalize s.asked (2, base + (j : Int) + (me : Int), t + 1) = s6 at *
      dsimp only at HE6
      have c4 := cell_of_row _ _ 4 _ _ _ (HBX.out _ _ _ HK6.out)
      simp only [gA_T, gA_0, gA_S] at c4
      go_wp2_with fail
      refine (set_ask HK6.out HE6.out).mono ?_
      rintro e w7 ⟨rfl, HE7, HK7, -⟩
      clear c4 HK6 HE6
      generalize s6.set loc (t + 1) = s7 at *
      go_wp2_with fail
      refine (write_ask HK7.out HE7.out).mono ?_
      rintro e w8 (⟨rfl, hR, hT, hK⟩ | ⟨rfl, HE8, HK8, -⟩)
      · go_wp2_with fail
        exact ⟨rfl, TPost.none hR.out ⟨rfl, hT.out, (TK.ofUp HU.out).trans hK.out⟩⟩
      clear HK7 HE7
      generalize s7.asked (2, base + (me : Int), 0) = s8 at *
      dsimp only at HE8
      unfold bakBehind at HE8
      go_wp2_with fail
      refine (note_ask HK8.out (by decide) HE8.out).mono ?_
      rintro e w9 ⟨rfl, HE9, HK9⟩
      clear HK8 HE8
      generalize s8.noted 2 = s9 at *
      go_wp2_with fail
      go_loopw [79] (fun v wr => ∃ (i : Nat) (s : TS), i ≤ j ∧ v = .int .i64 i ∧ Hid (TWk W1 g B A (500000 + 1 + 1) wr s) ∧ Hid (((bakWait base (base + (j : Int)) me (t + 1) F ((List.range j).drop i)).bind fun _ => .note 3 (.ret 0)).onT s = R)) (fun v _ => j - (intOf v).toNat)
      case atStart => exact ⟨0, s9, by omega, rfl, HK9, HE9⟩
      case round =>
       obtain ⟨i, s, hi, rfl, HK, HE⟩ := hrel
       by_cases hil : i < j
       · have hii : (i : Int) < j := by omega
         have hi0 : (0 : Int) ≤ i := by omega
         have HE := hQ' (show ((bakWait base (base + (j : Int)) me (t + 1) F (i :: (List.range j).drop (i + 1))).bind fun _ => Op.note 3 (.ret 0)).onT s = R by rw [← range_drop hil]; exact HE.out)
         unfold bakWait at HE
         by_cases he : i = me
         · subst he
           rw [if_pos rfl] at HE
           have hne : ((i : Int) == (i : Int)) = true := by simp
           go_wp2_with fail
           refine wp_scope_frame [] (fun _ _ => False) (fun _ => 0) ?_ (fun l f w' h => h.elim)
           intro J hJ
           go_wp2_with fail
           try dsimp only [jumpsTo]
           go_wp2_with fail
           go_roundw
           case rel => exact ⟨i + 1, s, by omega, by go_num, HK, HE⟩
           case measure => simp [intOf]; omega
         · rw [if_neg he] at HE
           have hne : ((i : Int) == (me : Int)) = false := by rw [beq_eq_false_iff_ne]; omega
           have hw4 : wrap64 (base + (j : Int) + (i : Int)) = base + (j : Int) + (i : Int) := IntWalk.wrap64_in _ (by omega)
           have hw5 : wrap64 (base + (i : Int)) = base + (i : Int) := IntWalk.wrap64_in _ (by omega)
           obtain ⟨rest, hrest⟩ : ∃ rest : Op Int, (bakWait base (base + (j : Int)) me (t + 1) F ((List.range j).drop (i + 1))).bind (fun _ => Op.note 3 (.ret 0)) = rest := ⟨_, rfl⟩
           obtain ⟨k2, hk2⟩ : ∃ k2 : Nat → Op Int, ∀ f, k2 f = (spinP (base + (j : Int) + (i : Int)) (passB (t + 1) (decide (i < me))) f).bind fun _ => rest := ⟨_, fun _ => rfl⟩
           obtain ⟨k1, hk1⟩ : ∃ k1 : Nat → Op Int, ∀ f, k1 f = (spin0 (base + (i : Int)) f).bind fun _ => k2 F := ⟨_, fun _ => rfl⟩
           have bind_bind : ∀ {α β γ : Type} (o : Op α) (f : α → Op β) (h : β → Op γ), (o.bind f).bind h = o.bind fun x => (f x).bind h := fun o f h => by
            induction o with
            | ret v => rfl
            | ask a k ih => exact congrArg (Op.ask a) (funext ih)
            | get i k ih => exact congrArg (Op.get i) (funext ih)
            | set i v k ih => exact congrArg (Op.set i v) ih
            | note c k ih => exact congrArg (Op.note c) ih
            | live k ih => exact congrArg Op.live (funext ih)
           have HE := hQ' (show (k1 F).onT s = R by
            rw [hk1, ← HE.out, bind_bind]
            congr 2
            funext u
            rw [hk2, bind_bind]
            congr 1
            funext v
            exact hrest.symm)
           have HK1 := hQ' (fun (f : Nat) => show k1 (f + 1) = .ask (1, base + (i : Int), 0) fun x => if x = 0 then k2 F else k1 f by
            rw [hk1]
            show Op.ask _ _ = _
            congr 1
            funext x
            show Op.bind (if x = 0 then .ret () else spin0 (base + (i : Int)) f) _ = _
            by_cases hx : x = 0
            · rw [if_pos hx, if_pos hx]; rfl
            · rw [if_neg hx, if_neg hx, hk1])
           have HK2 := hQ' (fun (f : Nat) => show k2 (f + 1) = .ask (1, base + (j : Int) + (i : Int), 0) fun x => if passB (t + 1) (decide (i < me)) x = true then rest else k2 f by
            rw [hk2]
            show Op.ask _ _ = _
            congr 1
            funext x
            show Op.bind (if passB (t + 1) (decide (i < me)) x = true then .ret x else spinP (base + (j : Int) + (i : Int)) (passB (t + 1) (decide (i < me))) f) _ = _
            by_cases hx : passB (t + 1) (decide (i < me)) x = true
            · rw [if_pos hx, if_pos hx]; rfl
            · rw [if_neg hx, if_neg hx, hk2])
           have HREST := hQ' hrest
           clear hk1 hk2 hrest bind_bind
           go_wp2_with fail
           refine wp_scope_frame [14, 82, 83, 84, 85, 86, 87, 88, 89, 90, 91, 92, 93, 94, 95, 96, 97, 98, 99, 100, 101, 102, 103, 104, 105, 106, 107, 108, 109, 110, 111, 112] (fun l w' => ∃ (s : TS) (f : Nat), Hid (TWk W1 g B A (500000 + 1 + 1) w' s) ∧ Hid (A.length < f + s.acc.length) ∧ (l = 0 ∧ Hid ((k1 f).onT s = R) ∨ l = 1 ∧ Hid ((k2 f).onT s = R))) (fun w' => A.length + 1 - askedN' g w') ?_ ?_
           case _ =>
            intro J hJ
            have HFU := hQ' (show A.length < F + s.acc.length from by have := HF.out; omega)
            obtain ⟨f, hf⟩ : ∃ f, f = F := ⟨_, rfl⟩
            have HE := hQ' (show (k1 f).onT s = R by rw [hf]; exact HE.out)
            rw [← hf] at HFU
            clear hf
            go_wp2_with fail
            refine wp_label ?_
            go_wp2_with fail
            obtain ⟨f, rfl⟩ : ∃ f', f = f' + 1 := by
             have h1 := HK.out.tape.2
             rw [HK.out.ans] at h1
             have h2 := HFU.out
             exact ⟨f - 1, by omega⟩
            have HEy := hQ' ((congrArg (fun o => Op.onT o s) (HK1.out f)).symm.trans HE.out)
            refine (read_ask HK.out HEy.out).mono ?_
            rintro e w20 (⟨rfl, hR, hT, hK⟩ | ⟨rfl, HE20, HK20, HL20⟩)
            · go_wp2_with fail
              exact ⟨rfl, TPost.none hR.out ⟨rfl, hT.out, (TK.ofUp HU.out).trans hK.out⟩⟩
            have HF20 := hQ' (show A.length < f + (s.asked (1, base + (i : Int), 0)).acc.length from by rw [asked_acc]; have := HFU.out; omega)
            have HM20 := hQ' (show A.length + 1 - askedN' g w20 < A.length + 1 - s.acc.length from by rw [HK20.out.askedN, asked_acc]; have := HL20.out; omega)
            have HQ20 := hQ' (show (s.asked (1, base + (i : Int), 0)).acc.length = s.acc.length + 1 from asked_acc _ _)
            clear HE HEy HL20
            generalize s.told = y at *
            generalize s.asked (1, base + (i : Int), 0) = sx at *
            dsimp only at HE20
            cases e0 : (y != 0)
            rotate_left
            · have hy : ¬ y = 0 := by simpa using e0
              rw [if_neg hy] at HE20
              have HE22 := hQ' HE20.out
              go_wp2_with fail
              refine wp_goto ?_
              try dsimp only [Exit.then, jumpsTo]
              exact hJ.out 0 _ _ (by unfold Only; kernel_rfl) ⟨sx, f, HK20, HF20, .inl ⟨rfl, HE22⟩⟩
            · have hy : y = 0 := by simpa using e0
              rw [if_pos hy] at HE20
              have HEx := hQ' HE20.out
              have HFx := hQ' (show A.length < F + sx.acc.length from by have := HF.out; omega)
              have HKx := hQ' HK20.out
              clear HE20 HF20 HK20
              obtain ⟨f, hf⟩ : ∃ f, f = F := ⟨_, rfl⟩
              rw [← hf] at HEx HFx
              clear hf
              go_wp2_with fail
              refine wp_label ?_
              go_wp2_with fail
              obtain ⟨f, rfl⟩ : ∃ f', f = f' + 1 := by
               have h1 := HKx.out.tape.2
               rw [HKx.out.ans] at h1
               have h2 := HFx.out
               exact ⟨f - 1, by omega⟩
              have HEy := hQ' ((congrArg (fun o => Op.onT o sx) (HK2.out f)).symm.trans HEx.out)
              refine (read_ask HKx.out HEy.out).mono ?_
              rintro e w21 (⟨rfl, hR, hT, hK⟩ | ⟨rfl, HE21, HK21, HL21⟩)
              · go_wp2_with fail
                exact ⟨rfl, TPost.none hR.out ⟨rfl, hT.out, (TK.ofUp HU.out).trans hK.out⟩⟩
              have HF21 := hQ' (show A.length < f + (sx.asked (1, base + (j : Int) + (i : Int), 0)).acc.length from by rw [asked_acc]; have := HFx.out; omega)
              have HM21 := hQ' (show A.length + 1 - askedN' g w21 < A.length + 1 - sx.acc.length from by rw [HK21.out.askedN, asked_acc]; have := HL21.out; omega)
              clear HEx HEy HL21
              generalize sx.told = x at *
              generalize sx.asked (1, base + (j : Int) + (i : Int), 0) = s21 at *
              dsimp only at HE21
              rcases wait_cases (x != 0) (decide (x ≤ t + 1)) (x != t + 1) (decide (i < me)) with e1 | ⟨e1, e2⟩ | ⟨e1, e2, e3, e4⟩ | ⟨e1, e2, e3⟩ | ⟨e1, e2, e3, e4⟩
              · have hp : passB (t + 1) (decide (i < me)) x = true := by unfold passB; rw [e1]; rfl
                rw [if_pos hp, ← HREST.out] at HE21
                have HE22 := hQ' HE21.out
                go_wp2_with fail
                try dsimp only [jumpsTo]
                go_wp2_with fail
                go_roundw
                case rel => exact ⟨i + 1, s21, by omega, by go_num, HK21, HE22⟩
                case measure => simp [intOf]; omega
              · have hp : passB (t + 1) (decide (i < me)) x = true := by unfold passB; rw [e1, e2]; rfl
                rw [if_pos hp, ← HREST.out] at HE21
                have HE22 := hQ' HE21.out
                go_wp2_with fail
                try dsimp only [jumpsTo]
                go_wp2_with fail
                go_roundw
                case rel => exact ⟨i + 1, s21, by omega, by go_num, HK21, HE22⟩
                case measure => simp [intOf]; omega
              · have hp : passB (t + 1) (decide (i < me)) x = true := by unfold passB; rw [e1, e2, e3, e4]; rfl
                rw [if_pos hp, ← HREST.out] at HE21
                have HE22 := hQ' HE21.out
                have e5 : ¬ i < me := by simpa using e4
                go_wp2_with fail
                try dsimp only [jumpsTo]
                go_wp2_with fail
                go_roundw
                case rel => exact ⟨i + 1, s21, by omega, by go_num, HK21, HE22⟩
                case measure => simp [intOf]; omega
              · have hp : ¬ passB (t + 1) (decide (i < me)) x = true := by
                 unfold passB
                 rw [e1, e2, e3]; simp
                rw [if_neg hp] at HE21
                have HE22 := hQ' HE21.out
                go_wp2_with fail
                refine wp_goto ?_
                try dsimp only [Exit.then, jumpsTo]
                exact hJ.out 1 _ _ (by unfold Only; kernel_rfl) ⟨s21, f, HK21, HF21, .inr ⟨rfl, HE22⟩⟩
              · have hp : ¬ passB (t + 1) (decide (i < me)) x = true := by
                 unfold passB
                 have h0 : ¬ x = 0 := by simpa using e1
                 have h2 : x ≤ t + 1 := by simpa using e2
                 have h3 : x = t + 1 := by simpa using e3
                 have h4 : i < me := by simpa using e4
                 simp [h0, h2, h4]
                rw [if_neg hp] at HE21
                have HE22 := hQ' HE21.out
                have e5 : i < me := by simpa using e4
                go_wp2_with fail
                refine wp_goto ?_
                try dsimp only [Exit.then, jumpsTo]
                exact hJ.out 1 _ _ (by unfold Only; kernel_rfl) ⟨s21, f, HK21, HF21, .inr ⟨rfl, HE22⟩⟩
           case _ =>
            clear HE HK
            rintro l fr w' ⟨s, f, HK, HFU, hl⟩
            rcases hl with ⟨rfl, HE⟩ | ⟨rfl, HE⟩
            · refine ⟨_, rfl, fun J hJ => ?_⟩
              simp only [puts, List.map_cons, List.map_nil, Act.put, sC_I, sC_0, sC_1]
              go_wp2_with fail
              obtain ⟨f, rfl⟩ : ∃ f', f = f' + 1 := by
               have h1 := HK.out.tape.2
               rw [HK.out.ans] at h1
               have h2 := HFU.out
               exact ⟨f - 1, by omega⟩
              have HEy := hQ' ((congrArg (fun o => Op.onT o s) (HK1.out f)).symm.trans HE.out)
              refine (read_ask HK.out HEy.out).mono ?_
              rintro e w20 (⟨rfl, hR, hT, hK⟩ | ⟨rfl, HE20, HK20, HL20⟩)
              · go_wp2_with fail
                exact ⟨rfl, TPost.none hR.out ⟨rfl, hT.out, (TK.ofUp HU.out).trans hK.out⟩⟩
              have HF20 := hQ' (show A.length < f + (s.asked (1, base + (i : Int), 0)).acc.length from by rw [asked_acc]; have := HFU.out; omega)
              have HM20 := hQ' (show A.length + 1 - askedN' g w20 < A.length + 1 - s.acc.length from by rw [HK20.out.askedN, asked_acc]; have := HL20.out; omega)
              have HQ20 := hQ' (show (s.asked (1, base + (i : Int), 0)).acc.length = s.acc.length + 1 from asked_acc _ _)
              clear HE HEy HL20
              generalize s.told = y at *
              generalize s.asked (1, base + (i : Int), 0) = sx at *
              dsimp only at HE20
              cases e0 : (y != 0)
              rotate_left
              · have hy : ¬ y = 0 := by simpa using e0
                rw [if_neg hy] at HE20
                have HE22 := hQ' HE20.out
                go_wp2_with fail
                refine wp_goto ?_
                try dsimp only [Exit.then, jumpsTo]
                exact hJ.out 0 _ _ (by unfold Only; kernel_rfl) ⟨sx, f, HK20, HF20, .inl ⟨rfl, HE22⟩⟩ (by show A.length + 1 - askedN' g w20 < A.length + 1 - askedN' g w'; rw [HK.out.askedN]; exact HM20.out)
              · have hy : y = 0 := by simpa using e0
                rw [if_pos hy] at HE20
                have HEx := hQ' HE20.out
                have HFx := hQ' (show A.length < F + sx.acc.length from by have := HF.out; omega)
                have HKx := hQ' HK20.out
                clear HE20 HF20 HK20
                obtain ⟨f, hf⟩ : ∃ f, f = F := ⟨_, rfl⟩
                rw [← hf] at HEx HFx
                clear hf
                go_wp2_with fail
                refine wp_label ?_
                go_wp2_with fail
                obtain ⟨f, rfl⟩ : ∃ f', f = f' + 1 := by
                 have h1 := HKx.out.tape.2
                 rw [HKx.out.ans] at h1
                 have h2 := HFx.out
                 exact ⟨f - 1, by omega⟩
                have HEy := hQ' ((congrArg (fun o => Op.onT o sx) (HK2.out f)).symm.trans HEx.out)
                refine (read_ask HKx.out HEy.out).mono ?_
                rintro e w21 (⟨rfl, hR, hT, hK⟩ | ⟨rfl, HE21, HK21, HL21⟩)
                · go_wp2_with fail
                  exact ⟨rfl, TPost.none hR.out ⟨rfl, hT.out, (TK.ofUp HU.out).trans hK.out⟩⟩
                have HF21 := hQ' (show A.length < f + (sx.asked (1, base + (j : Int) + (i : Int), 0)).acc.length from by rw [asked_acc]; have := HFx.out; omega)
                have HM21 := hQ' (show A.length + 1 - askedN' g w21 < A.length + 1 - sx.acc.length from by rw [HK21.out.askedN, asked_acc]; have := HL21.out; omega)
                clear HEx HEy HL21
                generalize sx.told = x at *
                generalize sx.asked (1, base + (j : Int) + (i : Int), 0) = s21 at *
                dsimp only at HE21
                rcases wait_cases (x != 0) (decide (x ≤ t + 1)) (x != t + 1) (decide (i < me)) with e1 | ⟨e1, e2⟩ | ⟨e1, e2, e3, e4⟩ | ⟨e1, e2, e3⟩ | ⟨e1, e2, e3, e4⟩
                · have hp : passB (t + 1) (decide (i < me)) x = true := by unfold passB; rw [e1]; rfl
                  rw [if_pos hp, ← HREST.out] at HE21
                  have HE22 := hQ' HE21.out
                  go_wp2_with fail
                  try dsimp only [jumpsTo]
                  go_wp2_with fail
                  go_roundw
                  case rel => exact ⟨i + 1, s21, by omega, by go_num, HK21, HE22⟩
                  case measure => simp [intOf]; omega
                · have hp : passB (t + 1) (decide (i < me)) x = true := by unfold passB; rw [e1, e2]; rfl
                  rw [if_pos hp, ← HREST.out] at HE21
                  have HE22 := hQ' HE21.out
                  go_wp2_with fail
                  try dsimp only [jumpsTo]
                  go_wp2_with fail
                  go_roundw
                  case rel => exact ⟨i + 1, s21, by omega, by go_num, HK21, HE22⟩
                  case measure => simp [intOf]; omega
                · have hp : passB (t + 1) (decide (i < me)) x = true := by unfold passB; rw [e1, e2, e3, e4]; rfl
                  rw [if_pos hp, ← HREST.out] at HE21
                  have HE22 := hQ' HE21.out
                  have e5 : ¬ i < me := by simpa using e4
                  go_wp2_with fail
                  try dsimp only [jumpsTo]
                  go_wp2_with fail
                  go_roundw
                  case rel => exact ⟨i + 1, s21, by omega, by go_num, HK21, HE22⟩
                  case measure => simp [intOf]; omega
                · have hp : ¬ passB (t + 1) (decide (i < me)) x = true := by
                   unfold passB
                   rw [e1, e2, e3]; simp
                  rw [if_neg hp] at HE21
                  have HE22 := hQ' HE21.out
                  go_wp2_with fail
                  refine wp_goto ?_
                  try dsimp only [Exit.then, jumpsTo]
                  exact hJ.out 1 _ _ (by unfold Only; kernel_rfl) ⟨s21, f, HK21, HF21, .inr ⟨rfl, HE22⟩⟩ (by show A.length + 1 - askedN' g w21 < A.length + 1 - askedN' g w'; rw [HK.out.askedN]; have h1 := HM21.out; have h2 := HQ20.out; omega)
                · have hp : ¬ passB (t + 1) (decide (i < me)) x = true := by
                   unfold passB
                   have h0 : ¬ x = 0 := by simpa using e1
                   have h2 : x ≤ t + 1 := by simpa using e2
                   have h3 : x = t + 1 := by simpa using e3
                   have h4 : i < me := by simpa using e4
                   simp [h0, h2, h4]
                  rw [if_neg hp] at HE21
                  have HE22 := hQ' HE21.out
                  have e5 : i < me := by simpa using e4
                  go_wp2_with fail
                  refine wp_goto ?_
                  try dsimp only [Exit.then, jumpsTo]
                  exact hJ.out 1 _ _ (by unfold Only; kernel_rfl) ⟨s21, f, HK21, HF21, .inr ⟨rfl, HE22⟩⟩ (by show A.length + 1 - askedN' g w21 < A.length + 1 - askedN' g w'; rw [HK.out.askedN]; have h1 := HM21.out; have h2 := HQ20.out; omega)
            · refine ⟨_, rfl, fun J hJ => ?_⟩
              simp only [puts, List.map_cons, List.map_nil, Act.put, sC_I, sC_0, sC_1]
              obtain ⟨sx, hsx⟩ : ∃ sx, sx = s := ⟨_, rfl⟩
              have HKx := hQ' (show TWk W1 g B A (500000 + 1 + 1) w' sx by rw [hsx]; exact HK.out)
              have HFx := hQ' (show A.length < f + sx.acc.length by rw [hsx]; exact HFU.out)
              have HEx := hQ' (show (k2 f).onT sx = R by rw [hsx]; exact HE.out)
              clear HK HFU HE hsx
              go_wp2_with fail
              obtain ⟨f, rfl⟩ : ∃ f', f = f' + 1 := by
               have h1 := HKx.out.tape.2
               rw [HKx.out.ans] at h1
               have h2 := HFx.out
               exact ⟨f - 1, by omega⟩
              have HEy := hQ' ((congrArg (fun o => Op.onT o sx) (HK2.out f)).symm.trans HEx.out)
              refine (read_ask HKx.out HEy.out).mono ?_
              rintro e w21 (⟨rfl, hR, hT, hK⟩ | ⟨rfl, HE21, HK21, HL21⟩)
              · go_wp2_with fail
                exact ⟨rfl, TPost.none hR.out ⟨rfl, hT.out, (TK.ofUp HU.out).trans hK.out⟩⟩
              have HF21 := hQ' (show A.length < f + (sx.asked (1, base + (j : Int) + (i : Int), 0)).acc.length from by rw [asked_acc]; have := HFx.out; omega)
              have HM21 := hQ' (show A.length + 1 - askedN' g w21 < A.length + 1 - sx.acc.length from by rw [HK21.out.askedN, asked_acc]; have := HL21.out; omega)
              clear HEx HEy HL21
              generalize sx.told = x at *
              generalize sx.asked (1, base + (j : Int) + (i : Int), 0) = s21 at *
              dsimp only at HE21
              rcases wait_cases (x != 0) (decide (x ≤ t + 1)) (x != t + 1) (decide (i < me)) with e1 | ⟨e1, e2⟩ | ⟨e1, e2, e3, e4⟩ | ⟨e1, e2, e3⟩ | ⟨e1, e2, e3, e4⟩
              · have hp : passB (t + 1) (decide (i < me)) x = true := by unfold passB; rw [e1]; rfl
                rw [if_pos hp, ← HREST.out] at HE21
                have HE22 := hQ' HE21.out
                go_wp2_with fail
                try dsimp only [jumpsTo]
                go_wp2_with fail
                go_roundw
                case rel => exact ⟨i + 1, s21, by omega, by go_num, HK21, HE22⟩
                case measure => simp [intOf]; omega
              · have hp : passB (t + 1) (decide (i < me)) x = true := by unfold passB; rw [e1, e2]; rfl
                rw [if_pos hp, ← HREST.out] at HE21
                have HE22 := hQ' HE21.out
                go_wp2_with fail
                try dsimp only [jumpsTo]
                go_wp2_with fail
                go_roundw
                case rel => exact ⟨i + 1, s21, by omega, by go_num, HK21, HE22⟩
                case measure => simp [intOf]; omega
              · have hp : passB (t + 1) (decide (i < me)) x = true := by unfold passB; rw [e1, e2, e3, e4]; rfl
                rw [if_pos hp, ← HREST.out] at HE21
                have HE22 := hQ' HE21.out
                have e5 : ¬ i < me := by simpa using e4
                go_wp2_with fail
                try dsimp only [jumpsTo]
                go_wp2_with fail
                go_roundw
                case rel => exact ⟨i + 1, s21, by omega, by go_num, HK21, HE22⟩
                case measure => simp [intOf]; omega
              · have hp : ¬ passB (t + 1) (decide (i < me)) x = true := by
                 unfold passB
                 rw [e1, e2, e3]; simp
                rw [if_neg hp] at HE21
                have HE22 := hQ' HE21.out
                go_wp2_with fail
                refine wp_goto ?_
                try dsimp only [Exit.then, jumpsTo]
                exact hJ.out 1 _ _ (by unfold Only; kernel_rfl) ⟨s21, f, HK21, HF21, .inr ⟨rfl, HE22⟩⟩ (by show A.length + 1 - askedN' g w21 < A.length + 1 - askedN' g w'; rw [HKx.out.askedN]; exact HM21.out)
              · have hp : ¬ passB (t + 1) (decide (i < me)) x = true := by
                 unfold passB
                 have h0 : ¬ x = 0 := by simpa using e1
                 have h2 : x ≤ t + 1 := by simpa using e2
                 have h3 : x = t + 1 := by simpa using e3
                 have h4 : i < me := by simpa using e4
                 simp [h0, h2, h4]
                rw [if_neg hp] at HE21
                have HE22 := hQ' HE21.out
                have e5 : i < me := by simpa using e4
                go_wp2_with fail
                refine wp_goto ?_
                try dsimp only [Exit.then, jumpsTo]
                exact hJ.out 1 _ _ (by unfold Only; kernel_rfl) ⟨s21, f, HK21, HF21, .inr ⟨rfl, HE22⟩⟩ (by show A.length + 1 - askedN' g w21 < A.length + 1 - askedN' g w'; rw [HKx.out.askedN]; exact HM21.out)
       · obtain rfl : i = j := by omega
         clear hil
         rw [range_drop_end] at HE
         have HE := hQ' (show (Op.note 3 (.ret 0)).onT s = R from HE.out)
         go_wp2_with fail
         refine (note_ask HK.out (by decide) HE.out).mono ?_
         rintro e w10 ⟨rfl, HE10, HK10⟩
         go_wp2_with fail
         go_ret
         exact TPost.some HE10.out.symm ⟨rfl, HK10.out.tape, HK10.out.base HU.out⟩
theorem bakRel_any (n me : Nat) (alg mode base loc room : Int) (g B : Nat) (s0 : TS) (W : World) (hn : 1 ≤ n ∧ n ≤ 8) (hme : me < n) (hr : 1 ≤ room ∧ room ≤ 1048576) (hb0 : 0 ≤ base ∧ base ≤ 40000) (hN : s0.nts.length ≤ 500000) (h : Tape1 W g B s0) :
 Calls Tryz.prog 329 #[.pointer (some ⟨g, 0, none⟩), .agg #[.int .i64 alg, .int .i64 n, .int .i64 mode, .int .i64 base, .int .i64 loc, .int .i64 room], .int .i64 me] W (TPost encU g B W ((bakRel n base loc me).onT s0)) := by
 obtain ⟨R, hE⟩ : ∃ R, (bakRel n base loc me).onT s0 = R := ⟨_, rfl⟩
 rw [hE]
 have hb := heap_alloc_new W (.cells #[.int .i64 alg, .int .i64 n, .int .i64 mode, .int .i64 base, .int .i64 loc, .int .i64 room] 128)
 have hu : Up W (W.alloc (.cells #[.int .i64 alg, .int .i64 n, .int .i64 mode, .int .i64 base, .int .i64 loc, .int .i64 room] 128)) := (Up.refl W).alloc _
 have hg : W.heap.size ≠ g := by have := h.1.gs; omega
 have HK := hQ' (show TWk (W.alloc (.cells #[.int .i64 alg, .int .i64 n, .int .i64 mode, .int .i64 base, .int .i64 loc, .int .i64 room] 128)) g B s0.ans 500000 _ s0 from (TWk.start (h.up hu)).more hN)
 have HU := hQ' hu
 have HBX := hQ' (fun (wr : World) (s : TS) (m : Nat) (hk : TWk (W.alloc (.cells #[.int .i64 alg, .int .i64 n, .int .i64 mode, .int .i64 base, .int .i64 loc, .int .i64 room] 128)) g B s0.ans m wr s) => hk.block hb hg (by decide))
 have c0 := cell_of_row _ _ 0 _ _ _ hb
 have c1 := cell_of_row _ _ 1 _ _ _ hb
 have c2 := cell_of_row _ _ 2 _ _ _ hb
 have c3 := cell_of_row _ _ 3 _ _ _ hb
 have c4 := cell_of_row _ _ 4 _ _ _ hb
 have c5 := cell_of_row _ _ 5 _ _ _ hb
 simp only [gA_T, gA_0, gA_S] at c0 c1 c2 c3 c4 c5
 have HSZ := hQ' (fun W' => bsizes_any n room alg mode base loc W' (by omega) (by omega))
 have HE0 := hQ' hE
 clear hb hu h hE hN
 obtain ⟨A, hAns⟩ : ∃ A, s0.ans = A := ⟨_, rfl⟩
 rw [hAns] at HK HBX
 clear hAns
 have hw1 : wrap64 (base + (n : Int)) = base + (n : Int) := IntWalk.wrap64_in _ (by omega)
 have hw3 : wrap64 (base + (n : Int) + (me : Int)) = base + (n : Int) + (me : Int) := IntWalk.wrap64_in _ (by omega)
 unfold bakRel at HE0
 go_enter Tryz.func329, Tryz.ntmps329
 go_wp2_with fail
 generalize W.alloc (.cells #[.int .i64 alg, .int .i64 n, .int .i64 mode, .int .i64 base, .int .i64 loc, .int .i64 room] 128) = W1 at *
 refine (HSZ.out _).mono ?_
 rintro e w2 ⟨rfl, hu2⟩
 have HK2 := hQ' (HK.out.up hu2)
 clear c0 c1 c2 c3 c4 c5 HK hu2 HSZ
 go_wp2_with fail
 refine (note_ask HK2.out (by decide) HE0.out).mono ?_
 rintro e w3 ⟨rfl, HE1, HK4⟩
 clear HK2 HE0
 generalize s0.noted 5 = s1 at *
 have c3 := cell_of_row _ _ 3 _ _ _ (HBX.out _ _ _ HK4.out)
 simp only [gA_T, gA_0, gA_S] at c3
 go_wp2_with fail
 refine (write_ask HK4.out HE1.out).mono ?_
 rintro e w4 (⟨rfl, hR, hT, hK⟩ | ⟨rfl, HE2, HK5, -⟩)
 · go_wp2_with fail
   exact ⟨rfl, TPost.none hR.out ⟨rfl, hT.out, (TK.ofUp HU.out).trans hK.out⟩⟩
 clear HK4 HE1 c3
 generalize s1.asked (2, base + (n : Int) + (me : Int), 0) = s2 at *
 dsimp only at HE2
 have c4 := cell_of_row _ _ 4 _ _ _ (HBX.out _ _ _ HK5.out)
 simp only [gA_T, gA_0, gA_S] at c4
 go_wp2_with fail
 refine (set_ask HK5.out HE2.out).mono ?_
 rintro e w7 ⟨rfl, HE7, HK7, -⟩
 clear c4 HK5 HE2
 go_wp2_with fail
 go_end0
 exact TPost.some HE7.out.symm ⟨rfl, HK7.out.tape, HK7.out.base HU.out⟩
end Go.Proofs.YtpodgcpkccpnfaaGreat

