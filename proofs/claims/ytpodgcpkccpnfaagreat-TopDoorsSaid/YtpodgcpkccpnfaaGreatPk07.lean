/-
  Parts of a proof, packed: OneW, LkA, Still, BankI, Nums
-/
import Derived.BigQuiet
import Derived.Test.YtpodgcpkccpnfaaGreatPk01
import Derived.Test.YtpodgcpkccpnfaaGreatPk02
import Derived.Test.YtpodgcpkccpnfaaGreatPk04
import Derived.Test.YtpodgcpkccpnfaaGreatPk06
set_option linter.unusedVariables false
set_option linter.unusedSimpArgs false
set_option maxRecDepth 20000
set_option maxHeartbeats 16000000
namespace Go.Proofs.YtpodgcpkccpnfaaGreat
open Go.RowKit
theorem othreads_any (many : Int) (x0 x2 x3 x4 x5 : Int) (w : World) (hm : 1 ≤ many ∧ many ≤ 8) :
 Calls Tryz.prog 341 #[.agg #[.int .i64 x0, .int .i64 many, .int .i64 x2, .int .i64 x3, .int .i64 x4, .int .i64 x5]] w fun e w' => e = .returned (.int .i64 many) ∧ Up w w' := by
 have hb := heap_alloc_new w (.cells #[.int .i64 x0, .int .i64 many, .int .i64 x2, .int .i64 x3, .int .i64 x4, .int .i64 x5] 128)
 have c1 := cell_of_row _ _ 1 _ _ _ hb
 simp only [gA_T, gA_0, gA_S] at c1
 have e1 : min (max many 1) 8 = many := by omega
 have HU := hQ' (show Up w (w.alloc (.cells #[.int .i64 x0, .int .i64 many, .int .i64 x2, .int .i64 x3, .int .i64 x4, .int .i64 x5] 128)) from (Up.refl w).alloc _)
 have HM := hQ' hm
 clear hb
 go_enter Tryz.func341, Tryz.ntmps341
 go_wp2_with fail
 all_goals
  go_ret
  refine ⟨?_, HU.out⟩
  refine congrArg (fun z => Ending.returned (Value.int .i64 z)) ?_
  omega
theorem oneAcq_any (n me : Nat) (alg mode base loc room : Int) (F : Nat) (g B : Nat) (s0 : TS) (W : World) (hn : 1 ≤ n ∧ n ≤ 8) (hme : me < n) (hb0 : 0 ≤ base ∧ base ≤ 40000) (hF : s0.ans.length < F) (hN : s0.nts.length ≤ 500000) (h : Tape1 W g B s0) :
 Calls Tryz.prog 338 #[.pointer (some ⟨g, 0, none⟩), .agg #[.int .i64 alg, .int .i64 n, .int .i64 mode, .int .i64 base, .int .i64 loc, .int .i64 room], .int .i64 me] W (TPost encI g B W ((oneAcq n base me F).onT s0)) := by
 obtain ⟨R, hE⟩ : ∃ R, (oneAcq n base me F).onT s0 = R := ⟨_, rfl⟩
 rw [hE]
 have hb := heap_alloc_new W (.cells #[.int .i64 alg, .int .i64 n, .int .i64 mode, .int .i64 base, .int .i64 loc, .int .i64 room] 128)
 have hu : Up W (W.alloc (.cells #[.int .i64 alg, .int .i64 n, .int .i64 mode, .int .i64 base, .int .i64 loc, .int .i64 room] 128)) := (Up.refl W).alloc _
 have hg : W.heap.size ≠ g := by have := h.1.gs; omega
 have HK := hQ' (show TWk (W.alloc (.cells #[.int .i64 alg, .int .i64 n, .int .i64 mode, .int .i64 base, .int .i64 loc, .int .i64 room] 128)) g B s0.ans 500000 _ s0 from (TWk.start (h.up hu)).more hN)
 have HU := hQ' hu
 have HBX := hQ' (fun (wr : World) (s : TS) (m : Nat) (hk : TWk (W.alloc (.cells #[.int .i64 alg, .int .i64 n, .int .i64 mode, .int .i64 base, .int .i64 loc, .int .i64 room] 128)) g B s0.ans m wr s) => hk.block hb hg (by decide))
 have c0 := cell_of_row _ _ 0 _ _ _ hb
 have c1 := cell_of_row _ _ 1 _ _ _ hb
 have c2 := cell_of_row _ _ 2 _ _ _ hb
 have c3 := cell_of_row _ _ 3 _ _ _ hb
 have c4 := cell_of_row _ _ 4 _ _ _ hb
 have c5 := cell_of_row _ _ 5 _ _ _ hb
 simp only [gA_T, gA_0, gA_S] at c0 c1 c2 c3 c4 c5
 have HSZ := hQ' (fun W' => othreads_any n alg mode base loc room W' (by omega))
 have HE0 := hQ' hE
 have hw2 : wrap64 (base + (me : Int)) = base + (me : Int) := IntWalk.wrap64_in _ (by omega)
 have HF := hQ' hF
 clear hb hu h hE hF hN
 obtain ⟨A, hAns⟩ : ∃ A, s0.ans = A := ⟨_, rfl⟩
 rw [hAns] at HK HBX HF
 clear hAns
 unfold oneAcq at HE0
 obtain ⟨K2, hK2⟩ : ∃ K2 : Unit → Op Int, (fun _ => Op.note 2 ((oneLate base F ((List.range n).drop (me + 1))).bind fun _ => .note 3 (.ret 0))) = K2 := ⟨_, rfl⟩
 obtain ⟨T, hT⟩ : ∃ T : Nat → Op Int, ∀ f, T f = (oneTry base me F f).bind K2 := ⟨_, fun _ => rfl⟩
 obtain ⟨Sc, hSc⟩ : ∃ Sc : Nat → List Nat → Op Int, ∀ f js, Sc f js = (oneScan base me F (oneTry base me F f) js).bind K2 := ⟨_, fun _ _ => rfl⟩
 obtain ⟨Sp, hSp⟩ : ∃ Sp : Nat → Nat → Nat → Op Int, ∀ j k f, Sp j k f = (spin0 (base + (j : Int)) k).bind fun _ => T f := ⟨_, fun _ _ _ => rfl⟩
 have HT := hQ' (fun f => show T (f + 1) = .ask (2, base + (me : Int), 1) fun _ => Sc f (List.range me) by rw [hT]; show Op.ask _ _ = _; congr 1; funext x; rw [hSc])
 have HSC := hQ' (fun (f j : Nat) (js : List Nat) => show Sc f (j :: js) = .ask (1, base + (j : Int), 0) fun x => if x = 0 then Sc f js else .ask (2, base + (me : Int), 0) fun _ => Sp j F f by
  rw [hSc]
  show Op.ask _ _ = _
  congr 1
  funext x
  show Op.bind (if x = 0 then oneScan base me F (oneTry base me F f) js else .ask (2, base + (me : Int), 0) fun _ => (spin0 (base + (j : Int)) F).bind fun _ => oneTry base me F f) K2 = _
  by_cases hx : x = 0
  · rw [if_pos hx, if_pos hx, hSc]
  · rw [if_neg hx, if_neg hx]
    show Op.ask _ _ = _
    congr 1
    funext y
    rw [hSp, hT]
    exact bind_bind _ _ _)
 have HSN := hQ' (fun f => show Sc f [] = .note 2 ((oneLate base F ((List.range n).drop (me + 1))).bind fun _ => .note 3 (.ret 0)) by rw [hSc, ← hK2]; rfl)
 have HSP := hQ' (fun j k f => show Sp j (k + 1) f = .ask (1, base + (j : Int), 0) fun x => if x = 0 then T f else Sp j k f by
  rw [hSp]
  show Op.ask _ _ = _
  congr 1
  funext x
  show Op.bind (if x = 0 then .ret () else spin0 (base + (j : Int)) k) _ = _
  by_cases hx : x = 0
  · rw [if_pos hx, if_pos hx]; rfl
  · rw [if_neg hx, if_neg hx, hSp])
 have HE0 := hQ' (show (Op.note 1 (T F)).onT s0 = R by rw [hT, ← hK2]; exact HE0.out)
 clear hT hSc hSp hK2
 go_enter Tryz.func338, Tryz.ntmps338
 go_wp2_with fail
 generalize W.alloc (.cells #[.int .i64 alg, .int .i64 n, .int .i64 mode, .int .i64 base, .int .i64 loc, .int .i64 room] 128) = W1 at *
 refine wp_scope_frameF [7, 8, 9, 10, 11, 12, 13, 14, 15, 16, 17, 18, 19, 20, 21, 22, 23, 24, 25, 26, 27, 28, 29, 30, 31, 32, 33, 34, 35, 36, 37, 38, 39, 40, 41, 42, 43, 44, 45, 46, 47, 48, 49, 50, 51, 52, 53, 54, 55, 56, 57, 58, 59, 60, 61, 62, 63, 64, 65, 66, 67] (fun l f7 w' => l = 0 ∧ f7 7 = .int .i64 n ∧ ∃ (s : TS) (f : Nat), Hid (TWk W1 g B A (500000 + 1) w' s) ∧ Hid ((T f).onT s = R) ∧ Hid (A.length < f + s.acc.length)) (fun w' => A.length + 1 - askedN' g w') ?first ?pass
 case first =>
  intro J hJ
  go_wp2_with fail
  refine (HSZ.out _).mono ?_
  rintro e w2 ⟨rfl, hu2⟩
  have HK3 := hQ' (HK.out.up hu2)
  clear c0 c1 c2 c3 c4 c5 hu2 HK
  go_wp2_with fail
  refine (note_ask HK3.out (by decide) HE0.out).mono ?_
  rintro e w3 ⟨rfl, HE, HS⟩
  clear HK3 HE0
  generalize s0.noted 1 = s at *
  obtain ⟨f, hf⟩ : ∃ f, f = F := ⟨_, rfl⟩
  have HE := hQ' (show (T f).onT s = R by rw [hf]; exact HE.out)
  have HFU := hQ' (show A.length < f + s.acc.length from by have := HF.out; omega)
  clear hf
  go_wp2_with fail
  refine wp_label ?_
  have c3 := cell_of_row _ _ 3 _ _ _ (HBX.out _ _ _ HS.out)
  simp only [gA_T, gA_0, gA_S] at c3
  obtain ⟨f, rfl⟩ : ∃ f', f = f' + 1 := by
   have h1 := HS.out.tape.2
   rw [HS.out.ans] at h1
   have h2 := HFU.out
   exact ⟨f - 1, by omega⟩
  have HEy := hQ' ((congrArg (fun o => Op.onT o s) (HT.out f)).symm.trans HE.out)
  go_wp2_with fail
  refine (write_ask HS.out HEy.out).mono ?_
  rintro e w5 (⟨rfl, hR, hT, hK⟩ | ⟨rfl, HE5, HK5, HL5⟩)
  · go_wp2_with fail
    try dsimp only [jumpsTo]
    exact ⟨rfl, TPost.none hR.out ⟨rfl, hT.out, (TK.ofUp HU.out).trans hK.out⟩⟩
  have HF5 := hQ' (show A.length < f + (s.asked (2, base + (me : Int), 1)).acc.length ∧ s.acc.length < (s.asked (2, base + (me : Int), 1)).acc.length from by rw [asked_acc]; have := HFU.out; omega)
  clear HEy HE HL5 c3 HFU
  generalize s.asked (2, base + (me : Int), 1) = s5 at *
  dsimp only at HE5
  go_wp2_with fail
  go_loopw [23] (fun v wr => ∃ (j : Nat) (s1 : TS), j ≤ me ∧ v = .int .i64 j ∧ Hid (TWk W1 g B A (500000 + 1) wr s1) ∧ Hid ((Sc f ((List.range me).drop j)).onT s1 = R) ∧ Hid (A.length < f + s1.acc.length ∧ s.acc.length < s1.acc.length)) (fun v _ => me - (intOf v).toNat)
  case atStart => exact ⟨0, s5, by omega, rfl, HK5, HE5, HF5⟩
  case round =>
   obtain ⟨j, s1, hj, rfl, HK1, HE1, HF1⟩ := hrel
   have c3 := cell_of_row _ _ 3 _ _ _ (HBX.out _ _ _ HK1.out)
   simp only [gA_T, gA_0, gA_S] at c3
   by_cases hjl : j < me
   · have hji : (j : Int) < me := by omega
     have hw5 : wrap64 (base + (j : Int)) = base + (j : Int) := IntWalk.wrap64_in _ (by omega)
     have HEy := hQ' (show (Op.ask (1, base + (j : Int), 0) fun x => if x = 0 then Sc f ((List.range me).drop (j + 1)) else .ask (2, base + (me : Int), 0) fun _ => Sp j F f).onT s1 = R by rw [← HSC.out f j, ← range_drop hjl]; exact HE1.out)
     go_wp2_with fail
     refine (read_ask HK1.out HEy.out).mono ?_
     rintro e w6 (⟨rfl, hR, hT, hK⟩ | ⟨rfl, HE6, HK6, HL6⟩)
     · go_wp2_with fail
       try dsimp only [jumpsTo]
       exact ⟨rfl, TPost.none hR.out ⟨rfl, hT.out, (TK.ofUp HU.out).trans hK.out⟩⟩
     have HF6 := hQ' (show A.length < f + (s1.asked (1, base + (j : Int), 0)).acc.length ∧ s.acc.length < (s1.asked (1, base + (j : Int), 0)).acc.length from by rw [asked_acc]; have := HF1.out; omega)
     have c3' := cell_of_row _ _ 3 _ _ _ (HBX.out _ _ _ HK6.out)
     simp only [gA_T, gA_0, gA_S] at c3'
     clear HEy HE1 HL6 c3 HF1 HK1
     generalize s1.told = x at *
     generalize s1.asked (1, base + (j : Int), 0) = s6 at *
     dsimp only at HE6
     by_cases hx : x = 0
     · have e0 : (x == 0) = true := by rw [beq_iff_eq]; exact hx
       rw [if_pos hx] at HE6
       have HE7 := hQ' HE6.out
       clear HE6
       go_wp2_with fail
       go_roundw
       case rel => exact ⟨j + 1, s6, by omega, by go_num, HK6, HE7, HF6⟩
       case measure => simp [intOf]; omega
     · have e0 : (x == 0) = false := by rw [beq_eq_false_iff_ne]; exact hx
       rw [if_neg hx] at HE6
       go_wp2_with fail
       refine (write_ask HK6.out HE6.out).mono ?_
       rintro e w7 (⟨rfl, hR, hT, hK⟩ | ⟨rfl, HE7, HK7, HL7⟩)
       · go_wp2_with fail
         try dsimp only [jumpsTo]
         exact ⟨rfl, TPost.none hR.out ⟨rfl, hT.out, (TK.ofUp HU.out).trans hK.out⟩⟩
       have HF7 := hQ' (show A.length < f + (s6.asked (2, base + (me : Int), 0)).acc.length ∧ s.acc.length < (s6.asked (2, base + (me : Int), 0)).acc.length from by rw [asked_acc]; have := HF6.out; omega)
       clear HE6 HL7 HF6 c3' HK6
       generalize s6.asked (2, base + (me : Int), 0) = s7 at *
       dsimp only at HE7
       go_wp2_with fail
       go_loopw [45] (fun v wr => ∃ (s8 : TS) (k : Nat), Hid (TWk W1 g B A (500000 + 1) wr s8) ∧ Hid ((Sp j k f).onT s8 = R) ∧ Hid (A.length < f + s8.acc.length ∧ s.acc.length < s8.acc.length) ∧ Hid (A.length < k + s8.acc.length)) (fun _ wr => A.length + 1 - askedN' g wr)
       case atStart => exact ⟨s7, F, HK7, HE7, HF7, hQ' (by have := HF.out; omega)⟩
       case round =>
        obtain ⟨s8, k, HK8, HE8, HF8, HG8⟩ := hrel
        have c3 := cell_of_row _ _ 3 _ _ _ (HBX.out _ _ _ HK8.out)
        simp only [gA_T, gA_0, gA_S] at c3
        obtain ⟨k, rfl⟩ : ∃ f', k = f' + 1 := by
         have h1 := HK8.out.tape.2
         rw [HK8.out.ans] at h1
         have h2 := HG8.out
         exact ⟨k - 1, by omega⟩
        have HEy := hQ' ((congrArg (fun o => Op.onT o s8) (HSP.out j k f)).symm.trans HE8.out)
        go_wp2_with fail
        refine (read_ask HK8.out HEy.out).mono ?_
        rintro e w9 (⟨rfl, hR, hT, hK⟩ | ⟨rfl, HE9, HK9, HL9⟩)
        · go_wp2_with fail
          try dsimp only [jumpsTo]
          exact ⟨rfl, TPost.none hR.out ⟨rfl, hT.out, (TK.ofUp HU.out).trans hK.out⟩⟩
        have HF9 := hQ' (show A.length < f + (s8.asked (1, base + (j : Int), 0)).acc.length ∧ s.acc.length < (s8.asked (1, base + (j : Int), 0)).acc.length from by rw [asked_acc]; have := HF8.out; omega)
        have HG9 := hQ' (show A.length < k + (s8.asked (1, base + (j : Int), 0)).acc.length from by rw [asked_acc]; have := HG8.out; omega)
        have HM9 := hQ' (show A.length + 1 - askedN' g w9 < A.length + 1 - askedN' g wr from by
         rw [HK9.out.askedN, HK8.out.askedN, asked_acc]
         have h1 := HL9.out
         omega)
        clear HEy HE8 HL9 HF8 HG8 c3
        generalize s8.told = y at *
        generalize s8.asked (1, base + (j : Int), 0) = s9 at *
        dsimp only at HE9
        by_cases hy : y = 0
        · have e1 : (y != 0) = false := by rw [bne_eq_false_iff_eq]; exact hy
          rw [if_pos hy] at HE9
          have HE10 := hQ' HE9.out
          go_wp2_with fail
          refine wp_goto ?_
          try dsimp only [Exit.then, jumpsTo]
          exact hJ.out 0 _ _ (by unfold Only; kernel_rfl) ⟨rfl, rfl, s9, f, HK9, HE10, hQ' HF9.out.1⟩
        · have e1 : (y != 0) = true := by rw [bne_iff_ne]; exact hy
          rw [if_neg hy] at HE9
          have HE10 := hQ' HE9.out
          go_wp2_with fail
          go_roundw
          case rel => exact ⟨s9, k, HK9, HE10, HF9, HG9⟩
          case measure => exact HM9.out
   · obtain rfl : j = me := by omega
     clear hjl c3
     rw [range_drop_end] at HE1
     have HE2 := hQ' ((congrArg (fun o => Op.onT o s1) (HSN.out f)).symm.trans HE1.out)
     clear HE1 HF1
     go_wp2_with fail
     refine (note_ask HK1.out (by decide) HE2.out).mono ?_
     rintro e w6 ⟨rfl, HE6, HK6⟩
     clear HE2 HK1
     generalize s1.noted 2 = s6 at *
     go_wp2_with fail
     go_loopw [9] (fun v wr => ∃ (i : Nat) (s2 : TS), j + 1 ≤ i ∧ i ≤ n ∧ v = .int .i64 i ∧ Hid (TWk W1 g B A (500000 + 1 + 1) wr s2) ∧ Hid (((oneLate base F ((List.range n).drop i)).bind fun _ => .note 3 (.ret 0)).onT s2 = R)) (fun v _ => n - (intOf v).toNat)
     case atStart => exact ⟨j + 1, s6, by omega, by omega, by go_num, HK6, HE6⟩
     case round =>
      obtain ⟨i, s2, hi1, hi, rfl, HK2, HE2⟩ := hrel
      by_cases hil : i < n
      · have hii : (i : Int) < n := by omega
        have hw5 : wrap64 (base + (i : Int)) = base + (i : Int) := IntWalk.wrap64_in _ (by omega)
        obtain ⟨rest, hrest⟩ : ∃ rest : Op Int, (oneLate base F ((List.range n).drop (i + 1))).bind (fun _ => Op.note 3 (.ret 0)) = rest := ⟨_, rfl⟩
        obtain ⟨k2, hk2⟩ : ∃ k2 : Nat → Op Int, ∀ f, k2 f = (spin0 (base + (i : Int)) f).bind fun _ => rest := ⟨_, fun _ => rfl⟩
        have HE3 := hQ' (show (k2 F).onT s2 = R by
         rw [hk2, ← HE2.out, range_drop hil]
         show _ = (((spin0 (base + (i : Int)) F).bind fun _ => oneLate base F ((List.range n).drop (i + 1))).bind _).onT s2
         rw [bind_bind, hrest])
        have HK22 := hQ' (fun (f : Nat) => show k2 (f + 1) = .ask (1, base + (i : Int), 0) fun x => if x = 0 then rest else k2 f by
         rw [hk2]
         show Op.ask _ _ = _
         congr 1
         funext x
         show Op.bind (if x = 0 then .ret () else spin0 (base + (i : Int)) f) _ = _
         by_cases hx : x = 0
         · rw [if_pos hx, if_pos hx]; rfl
         · rw [if_neg hx, if_neg hx, hk2])
        have HREST := hQ' hrest
        clear hk2 hrest HE2
        go_wp2_with fail
        go_loopw [65] (fun v wr => ∃ (s8 : TS) (k : Nat), Hid (TWk W1 g B A (500000 + 1 + 1) wr s8) ∧ Hid ((k2 k).onT s8 = R) ∧ Hid (A.length < k + s8.acc.length)) (fun _ wr => A.length + 1 - askedN' g wr)
        case atStart => exact ⟨s2, F, HK2, HE3, hQ' (by have := HF.out; omega)⟩
        case round =>
         obtain ⟨s8, k, HK8, HE8, HG8⟩ := hrel
         have c3 := cell_of_row _ _ 3 _ _ _ (HBX.out _ _ _ HK8.out)
         simp only [gA_T, gA_0, gA_S] at c3
         obtain ⟨k, rfl⟩ : ∃ f', k = f' + 1 := by
          have h1 := HK8.out.tape.2
          rw [HK8.out.ans] at h1
          have h2 := HG8.out
          exact ⟨k - 1, by omega⟩
         have HEy := hQ' ((congrArg (fun o => Op.onT o s8) (HK22.out k)).symm.trans HE8.out)
         go_wp2_with fail
         refine (read_ask HK8.out HEy.out).mono ?_
         rintro e w9 (⟨rfl, hR, hT, hK⟩ | ⟨rfl, HE9, HK9, HL9⟩)
         · go_wp2_with fail
           try dsimp only [jumpsTo]
           exact ⟨rfl, TPost.none hR.out ⟨rfl, hT.out, (TK.ofUp HU.out).trans hK.out⟩⟩
         have HG9 := hQ' (show A.length < k + (s8.asked (1, base + (i : Int), 0)).acc.length from by rw [asked_acc]; have := HG8.out; omega)
         have HM9 := hQ' (show A.length + 1 - askedN' g w9 < A.length + 1 - askedN' g wr from by
          rw [HK9.out.askedN, HK8.out.askedN, asked_acc]
          have h1 := HL9.out
          omega)
         clear HEy HE8 HL9 HG8 c3
         generalize s8.told = y at *
         generalize s8.asked (1, base + (i : Int), 0) = s9 at *
         dsimp only at HE9
         by_cases hy : y = 0
         · have e1 : (y != 0) = false := by rw [bne_eq_false_iff_eq]; exact hy
           rw [if_pos hy, ← HREST.out] at HE9
           have HE10 := hQ' HE9.out
           go_wp2_with fail
           go_roundw
           case rel => exact ⟨i + 1, s9, by omega, by omega, by go_num, HK9, HE10⟩
           case measure => simp [intOf]; omega
         · have e1 : (y != 0) = true := by rw [bne_iff_ne]; exact hy
           rw [if_neg hy] at HE9
           have HE10 := hQ' HE9.out
           go_wp2_with fail
           go_roundw
           case rel => exact ⟨s9, k, HK9, HE10, HG9⟩
           case measure => exact HM9.out
      · obtain rfl : i = n := by omega
        clear hil
        rw [range_drop_end] at HE2
        have HE3 := hQ' (show (Op.note 3 (.ret 0)).onT s2 = R from HE2.out)
        go_wp2_with fail
        refine (note_ask HK2.out (by decide) HE3.out).mono ?_
        rintro e w10 ⟨rfl, HE10, HK10⟩
        go_wp2_with fail
        try dsimp only [jumpsTo]
        go_ret
        exact TPost.some HE10.out.symm ⟨rfl, HK10.out.tape, HK10.out.base HU.out⟩
 case pass =>
  clear HK HE0 c0 c1 c2 c3 c4 c5
  rintro l f7 w' ⟨rfl, hf7, s, f, HS, HE, HFU⟩
  refine ⟨_, rfl, fun J hJ => ?_⟩
  simp only [puts, List.map_cons, List.map_nil, Act.put, sC_I, sC_0, sC_1]
  rw [hf7]
  have c3 := cell_of_row _ _ 3 _ _ _ (HBX.out _ _ _ HS.out)
  simp only [gA_T, gA_0, gA_S] at c3
  obtain ⟨f, rfl⟩ : ∃ f', f = f' + 1 := by
   have h1 := HS.out.tape.2
   rw [HS.out.ans] at h1
   have h2 := HFU.out
   exact ⟨f - 1, by omega⟩
  have HEy := hQ' ((congrArg (fun o => Op.onT o s) (HT.out f)).symm.trans HE.out)
  go_wp2_with fail
  refine (write_ask HS.out HEy.out).mono ?_
  rintro e w5 (⟨rfl, hR, hT, hK⟩ | ⟨rfl, HE5, HK5, HL5⟩)
  · go_wp2_with fail
    try dsimp only [jumpsTo]
    exact ⟨rfl, TPost.none hR.out ⟨rfl, hT.out, (TK.ofUp HU.out).trans hK.out⟩⟩
  have HF5 := hQ' (show A.length < f + (s.asked (2, base + (me : Int), 1)).acc.length ∧ s.acc.length < (s.asked (2, base + (me : Int), 1)).acc.length from by rw [asked_acc]; have := HFU.out; omega)
  clear HEy HE HL5 c3 HFU
  generalize s.asked (2, base + (me : Int), 1) = s5 at *
  dsimp only at HE5
  go_wp2_with fail
  go_loopw [23] (fun v wr => ∃ (j : Nat) (s1 : TS), j ≤ me ∧ v = .int .i64 j ∧ Hid (TWk W1 g B A (500000 + 1) wr s1) ∧ Hid ((Sc f ((List.range me).drop j)).onT s1 = R) ∧ Hid (A.length < f + s1.acc.length ∧ s.acc.length < s1.acc.length)) (fun v _ => me - (intOf v).toNat)
  case atStart => exact ⟨0, s5, by omega, rfl, HK5, HE5, HF5⟩
  case round =>
   obtain ⟨j, s1, hj, rfl, HK1, HE1, HF1⟩ := hrel
   have c3 := cell_of_row _ _ 3 _ _ _ (HBX.out _ _ _ HK1.out)
   simp only [gA_T, gA_0, gA_S] at c3
   by_cases hjl : j < me
   · have hji : (j : Int) < me := by omega
     have hw5 : wrap64 (base + (j : Int)) = base + (j : Int) := IntWalk.wrap64_in _ (by omega)
     have HEy := hQ' (show (Op.ask (1, base + (j : Int), 0) fun x => if x = 0 then Sc f ((List.range me).drop (j + 1)) else .ask (2, base + (me : Int), 0) fun _ => Sp j F f).onT s1 = R by rw [← HSC.out f j, ← range_drop hjl]; exact HE1.out)
     go_wp2_with fail
     refine (read_ask HK1.out HEy.out).mono ?_
     rintro e w6 (⟨rfl, hR, hT, hK⟩ | ⟨rfl, HE6, HK6, HL6⟩)
     · go_wp2_with fail
       try dsimp only [jumpsTo]
       exact ⟨rfl, TPost.none hR.out ⟨rfl, hT.out, (TK.ofUp HU.out).trans hK.out⟩⟩
     have HF6 := hQ' (show A.length < f + (s1.asked (1, base + (j : Int), 0)).acc.length ∧ s.acc.length < (s1.asked (1, base + (j : Int), 0)).acc.length from by rw [asked_acc]; have := HF1.out; omega)
     have c3' := cell_of_row _ _ 3 _ _ _ (HBX.out _ _ _ HK6.out)
     simp only [gA_T, gA_0, gA_S] at c3'
     clear HEy HE1 HL6 c3 HF1 HK1
     generalize s1.told = x at *
     generalize s1.asked (1, base + (j : Int), 0) = s6 at *
     dsimp only at HE6
     by_cases hx : x = 0
     · have e0 : (x == 0) = true := by rw [beq_iff_eq]; exact hx
       rw [if_pos hx] at HE6
       have HE7 := hQ' HE6.out
       clear HE6
       go_wp2_with fail
       go_roundw
       case rel => exact ⟨j + 1, s6, by omega, by go_num, HK6, HE7, HF6⟩
       case measure => simp [intOf]; omega
     · have e0 : (x == 0) = false := by rw [beq_eq_false_iff_ne]; exact hx
       rw [if_neg hx] at HE6
       go_wp2_with fail
       refine (write_ask HK6.out HE6.out).mono ?_
       rintro e w7 (⟨rfl, hR, hT, hK⟩ | ⟨rfl, HE7, HK7, HL7⟩)
       · go_wp2_with fail
         try dsimp only [jumpsTo]
         exact ⟨rfl, TPost.none hR.out ⟨rfl, hT.out, (TK.ofUp HU.out).trans hK.out⟩⟩
       have HF7 := hQ' (show A.length < f + (s6.asked (2, base + (me : Int), 0)).acc.length ∧ s.acc.length < (s6.asked (2, base + (me : Int), 0)).acc.length from by rw [asked_acc]; have := HF6.out; omega)
       clear HE6 HL7 HF6 c3' HK6
       generalize s6.asked (2, base + (me : Int), 0) = s7 at *
       dsimp only at HE7
       go_wp2_with fail
       go_loopw [45] (fun v wr => ∃ (s8 : TS) (k : Nat), Hid (TWk W1 g B A (500000 + 1) wr s8) ∧ Hid ((Sp j k f).onT s8 = R) ∧ Hid (A.length < f + s8.acc.length ∧ s.acc.length < s8.acc.length) ∧ Hid (A.length < k + s8.acc.length)) (fun _ wr => A.length + 1 - askedN' g wr)
       case atStart => exact ⟨s7, F, HK7, HE7, HF7, hQ' (by have := HF.out; omega)⟩
       case round =>
        obtain ⟨s8, k, HK8, HE8, HF8, HG8⟩ := hrel
        have c3 := cell_of_row _ _ 3 _ _ _ (HBX.out _ _ _ HK8.out)
        simp only [gA_T, gA_0, gA_S] at c3
        obtain ⟨k, rfl⟩ : ∃ f', k = f' + 1 := by
         have h1 := HK8.out.tape.2
         rw [HK8.out.ans] at h1
         have h2 := HG8.out
         exact ⟨k - 1, by omega⟩
        have HEy := hQ' ((congrArg (fun o => Op.onT o s8) (HSP.out j k f)).symm.trans HE8.out)
        go_wp2_with fail
        refine (read_ask HK8.out HEy.out).mono ?_
        rintro e w9 (⟨rfl, hR, hT, hK⟩ | ⟨rfl, HE9, HK9, HL9⟩)
        · go_wp2_with fail
          try dsimp only [jumpsTo]
          exact ⟨rfl, TPost.none hR.out ⟨rfl, hT.out, (TK.ofUp HU.out).trans hK.out⟩⟩
        have HF9 := hQ' (show A.length < f + (s8.asked (1, base + (j : Int), 0)).acc.length ∧ s.acc.length < (s8.asked (1, base + (j : Int), 0)).acc.length from by rw [asked_acc]; have := HF8.out; omega)
        have HG9 := hQ' (show A.length < k + (s8.asked (1, base + (j : Int), 0)).acc.length from by rw [asked_acc]; have := HG8.out; omega)
        have HM9 := hQ' (show A.length + 1 - askedN' g w9 < A.length + 1 - askedN' g wr from by
         rw [HK9.out.askedN, HK8.out.askedN, asked_acc]
         have h1 := HL9.out
         omega)
        clear HEy HE8 HL9 HF8 HG8 c3
        generalize s8.told = y at *
        generalize s8.asked (1, base + (j : Int), 0) = s9 at *
        dsimp only at HE9
        by_cases hy : y = 0
        · have e1 : (y != 0) = false := by rw [bne_eq_false_iff_eq]; exact hy
          rw [if_pos hy] at HE9
          have HE10 := hQ' HE9.out
          go_wp2_with fail
          refine wp_goto ?_
          try dsimp only [Exit.then, jumpsTo]
          exact hJ.out 0 _ _ (by unfold Only; kernel_rfl) ⟨rfl, rfl, s9, f, HK9, HE10, hQ' HF9.out.1⟩ (by show A.length + 1 - askedN' g w9 < A.length + 1 - askedN' g w'; rw [HK9.out.askedN, HS.out.askedN]; have h1 := HF9.out.2; have h2 := HK9.out.tape.2; rw [HK9.out.ans] at h2; omega)
        · have e1 : (y != 0) = true := by rw [bne_iff_ne]; exact hy
          rw [if_neg hy] at HE9
          have HE10 := hQ' HE9.out
          go_wp2_with fail
          go_roundw
          case rel => exact ⟨s9, k, HK9, HE10, HF9, HG9⟩
          case measure => exact HM9.out
   · obtain rfl : j = me := by omega
     clear hjl c3
     rw [range_drop_end] at HE1
     have HE2 := hQ' ((congrArg (fun o => Op.onT o s1) (HSN.out f)).symm.trans HE1.out)
     clear HE1 HF1
     go_wp2_with fail
     refine (note_ask HK1.out (by decide) HE2.out).mono ?_
     rintro e w6 ⟨rfl, HE6, HK6⟩
     clear HE2 HK1
     generalize s1.noted 2 = s6 at *
     go_wp2_with fail
     go_loopw [9] (fun v wr => ∃ (i : Nat) (s2 : TS), j + 1 ≤ i ∧ i ≤ n ∧ v = .int .i64 i ∧ Hid (TWk W1 g B A (500000 + 1 + 1) wr s2) ∧ Hid (((oneLate base F ((List.range n).drop i)).bind fun _ => .note 3 (.ret 0)).onT s2 = R)) (fun v _ => n - (intOf v).toNat)
     case atStart => exact ⟨j + 1, s6, by omega, by omega, by go_num, HK6, HE6⟩
     case round =>
      obtain ⟨i, s2, hi1, hi, rfl, HK2, HE2⟩ := hrel
      by_cases hil : i < n
      · have hii : (i : Int) < n := by omega
        have hw5 : wrap64 (base + (i : Int)) = base + (i : Int) := IntWalk.wrap64_in _ (by omega)
        obtain ⟨rest, hrest⟩ : ∃ rest : Op Int, (oneLate base F ((List.range n).drop (i + 1))).bind (fun _ => Op.note 3 (.ret 0)) = rest := ⟨_, rfl⟩
        obtain ⟨k2, hk2⟩ : ∃ k2 : Nat → Op Int, ∀ f, k2 f = (spin0 (base + (i : Int)) f).bind fun _ => rest := ⟨_, fun _ => rfl⟩
        have HE3 := hQ' (show (k2 F).onT s2 = R by
         rw [hk2, ← HE2.out, range_drop hil]
         show _ = (((spin0 (base + (i : Int)) F).bind fun _ => oneLate base F ((List.range n).drop (i + 1))).bind _).onT s2
         rw [bind_bind, hrest])
        have HK22 := hQ' (fun (f : Nat) => show k2 (f + 1) = .ask (1, base + (i : Int), 0) fun x => if x = 0 then rest else k2 f by
         rw [hk2]
         show Op.ask _ _ = _
         congr 1
         funext x
         show Op.bind (if x = 0 then .ret () else spin0 (base + (i : Int)) f) _ = _
         by_cases hx : x = 0
         · rw [if_pos hx, if_pos hx]; rfl
         · rw [if_neg hx, if_neg hx, hk2])
        have HREST := hQ' hrest
        clear hk2 hrest HE2
        go_wp2_with fail
        go_loopw [65] (fun v wr => ∃ (s8 : TS) (k : Nat), Hid (TWk W1 g B A (500000 + 1 + 1) wr s8) ∧ Hid ((k2 k).onT s8 = R) ∧ Hid (A.length < k + s8.acc.length)) (fun _ wr => A.length + 1 - askedN' g wr)
        case atStart => exact ⟨s2, F, HK2, HE3, hQ' (by have := HF.out; omega)⟩
        case round =>
         obtain ⟨s8, k, HK8, HE8, HG8⟩ := hrel
         have c3 := cell_of_row _ _ 3 _ _ _ (HBX.out _ _ _ HK8.out)
         simp only [gA_T, gA_0, gA_S] at c3
         obtain ⟨k, rfl⟩ : ∃ f', k = f' + 1 := by
          have h1 := HK8.out.tape.2
          rw [HK8.out.ans] at h1
          have h2 := HG8.out
          exact ⟨k - 1, by omega⟩
         have HEy := hQ' ((congrArg (fun o => Op.onT o s8) (HK22.out k)).symm.trans HE8.out)
         go_wp2_with fail
         refine (read_ask HK8.out HEy.out).mono ?_
         rintro e w9 (⟨rfl, hR, hT, hK⟩ | ⟨rfl, HE9, HK9, HL9⟩)
         · go_wp2_with fail
           try dsimp only [jumpsTo]
           exact ⟨rfl, TPost.none hR.out ⟨rfl, hT.out, (TK.ofUp HU.out).trans hK.out⟩⟩
         have HG9 := hQ' (show A.length < k + (s8.asked (1, base + (i : Int), 0)).acc.length from by rw [asked_acc]; have := HG8.out; omega)
         have HM9 := hQ' (show A.length + 1 - askedN' g w9 < A.length + 1 - askedN' g wr from by
          rw [HK9.out.askedN, HK8.out.askedN, asked_acc]
          have h1 := HL9.out
          omega)
         clear HEy HE8 HL9 HG8 c3
         generalize s8.told = y at *
         generalize s8.asked (1, base + (i : Int), 0) = s9 at *
         dsimp only at HE9
         by_cases hy : y = 0
         · have e1 : (y != 0) = false := by rw [bne_eq_false_iff_eq]; exact hy
           rw [if_pos hy, ← HREST.out] at HE9
           have HE10 := hQ' HE9.out
           go_wp2_with fail
           go_roundw
           case rel => exact ⟨i + 1, s9, by omega, by omega, by go_num, HK9, HE10⟩
           case measure => simp [intOf]; omega
         · have e1 : (y != 0) = true := by rw [bne_iff_ne]; exact hy
           rw [if_neg hy] at HE9
           have HE10 := hQ' HE9.out
           go_wp2_with fail
           go_roundw
           case rel => exact ⟨s9, k, HK9, HE10, HG9⟩
           case measure => exact HM9.out
      · obtain rfl : i = n := by omega
        clear hil
        rw [range_drop_end] at HE2
        have HE3 := hQ' (show (Op.note 3 (.ret 0)).onT s2 = R from HE2.out)
        go_wp2_with fail
        refine (note_ask HK2.out (by decide) HE3.out).mono ?_
        rintro e w10 ⟨rfl, HE10, HK10⟩
        go_wp2_with fail
        try dsimp only [jumpsTo]
        go_ret
        exact TPost.some HE10.out.symm ⟨rfl, HK10.out.tape, HK10.out.base HU.out⟩
theorem oneRel_any (n me : Nat) (alg mode base loc room : Int) (g B : Nat) (s0 : TS) (W : World) (hn : 1 ≤ n ∧ n ≤ 8) (hme : me < n) (hb0 : 0 ≤ base ∧ base ≤ 40000) (hN : s0.nts.length ≤ 500000) (h : Tape1 W g B s0) :
 Calls Tryz.prog 339 #[.pointer (some ⟨g, 0, none⟩), .agg #[.int .i64 alg, .int .i64 n, .int .i64 mode, .int .i64 base, .int .i64 loc, .int .i64 room], .int .i64 me] W (TPost encU g B W ((oneRel base me).onT s0)) := by
 obtain ⟨R, hE⟩ : ∃ R, (oneRel base me).onT s0 = R := ⟨_, rfl⟩
 rw [hE]
 have hb := heap_alloc_new W (.cells #[.int .i64 alg, .int .i64 n, .int .i64 mode, .int .i64 base, .int .i64 loc, .int .i64 room] 128)
 have hu : Up W (W.alloc (.cells #[.int .i64 alg, .int .i64 n, .int .i64 mode, .int .i64 base, .int .i64 loc, .int .i64 room] 128)) := (Up.refl W).alloc _
 have hg : W.heap.size ≠ g := by have := h.1.gs; omega
 have HK := hQ' (show TWk (W.alloc (.cells #[.int .i64 alg, .int .i64 n, .int .i64 mode, .int .i64 base, .int .i64 loc, .int .i64 room] 128)) g B s0.ans 500000 _ s0 from (TWk.start (h.up hu)).more hN)
 have HU := hQ' hu
 have HBX := hQ' (fun (wr : World) (s : TS) (m : Nat) (hk : TWk (W.alloc (.cells #[.int .i64 alg, .int .i64 n, .int .i64 mode, .int .i64 base, .int .i64 loc, .int .i64 room] 128)) g B s0.ans m wr s) => hk.block hb hg (by decide))
 have c0 := cell_of_row _ _ 0 _ _ _ hb
 have c1 := cell_of_row _ _ 1 _ _ _ hb
 have c2 := cell_of_row _ _ 2 _ _ _ hb
 have c3 := cell_of_row _ _ 3 _ _ _ hb
 have c4 := cell_of_row _ _ 4 _ _ _ hb
 have c5 := cell_of_row _ _ 5 _ _ _ hb
 simp only [gA_T, gA_0, gA_S] at c0 c1 c2 c3 c4 c5
 have HSZ := hQ' (fun W' => othreads_any n alg mode base loc room W' (by omega))
 have HE0 := hQ' hE
 have hw2 : wrap64 (base + (me : Int)) = base + (me : Int) := IntWalk.wrap64_in _ (by omega)
 clear hb hu h hE hN
 obtain ⟨A, hAns⟩ : ∃ A, s0.ans = A := ⟨_, rfl⟩
 rw [hAns] at HK HBX
 clear hAns
 unfold oneRel at HE0
 go_enter Tryz.func339, Tryz.ntmps339
 go_wp2_with fail
 generalize W.alloc (.cells #[.int .i64 alg, .int .i64 n, .int .i64 mode, .int .i64 base, .int .i64 loc, .int .i64 room] 128) = W1 at *
 refine (note_ask HK.out (by decide) HE0.out).mono ?_
 rintro e w3 ⟨rfl, HE1, HK4⟩
 clear HK HE0 c0 c1 c2 c3 c4 c5
 generalize s0.noted 5 = s1 at *
 have c3 := cell_of_row _ _ 3 _ _ _ (HBX.out _ _ _ HK4.out)
 simp only [gA_T, gA_0, gA_S] at c3
 go_wp2_with fail
 refine (write_ask HK4.out HE1.out).mono ?_
 rintro e w4 (⟨rfl, hR, hT, hK⟩ | ⟨rfl, HE2, HK5, -⟩)
 · go_wp2_with fail
   exact ⟨rfl, TPost.none hR.out ⟨rfl, hT.out, (TK.ofUp HU.out).trans hK.out⟩⟩
 go_wp2_with fail
 go_end0
 exact TPost.some HE2.out.symm ⟨rfl, HK5.out.tape, HK5.out.base HU.out⟩
end Go.Proofs.YtpodgcpkccpnfaaGreat

namespace Go.Proofs.YtpodgcpkccpnfaaGreat
open Go.RowKit
theorem of1_any (w : World) : Calls Tryz.prog 146 #[.int .i64 1] w fun e w' => e = .returned (.iface 241 (.agg #[])) ∧ Up w w' := by
 go_enter Tryz.func146, Tryz.ntmps146
 go_wp2_with fail
 go_ret
 exact ⟨rfl, (Up.refl _).alloc _⟩
theorem of2_any (w : World) : Calls Tryz.prog 146 #[.int .i64 2] w fun e w' => e = .returned (.iface 242 (.agg #[])) ∧ Up w w' := by
 go_enter Tryz.func146, Tryz.ntmps146
 go_wp2_with fail
 go_ret
 exact ⟨rfl, (Up.refl _).alloc _⟩
def lockAcq (alg : Int) (n : Nat) (room base loc : Int) (me F : Nat) : Op Int := if alg = 1 then bakAcq n room base loc me F else oneAcq n base me F
def lockRel (alg : Int) (n : Nat) (base loc : Int) (me : Nat) : Op Unit := if alg = 1 then bakRel n base loc me else oneRel base me
structure LkOK (alg : Int) (n : Nat) (base room : Int) : Prop where
 alg : alg = 1 ∨ alg = 2
 n : 1 ≤ n ∧ n ≤ 8
 room : 1 ≤ room ∧ room ≤ 1048576
 base : 0 ≤ base ∧ base ≤ 40000
theorem mAcq1 {n : Nat} {base room : Int} (me : Nat) (alg mode loc : Int) (F : Nat) (g B : Nat) (s0 : TS) (W : World) (hn : 1 ≤ n ∧ n ≤ 8) (hme : me < n) (hroom : 1 ≤ room ∧ room ≤ 1048576) (hb0 : 0 ≤ base ∧ base ≤ 40000) (hF : s0.ans.length < F) (hA : TameA s0.ans) (hN : s0.nts.length ≤ 500000) (h : Tape1 W g B s0) :
 Calls Tryz.prog 324 #[.agg #[], .pointer (some ⟨g, 0, none⟩), .agg #[.int .i64 alg, .int .i64 n, .int .i64 mode, .int .i64 base, .int .i64 loc, .int .i64 room], .int .i64 me] W (TPost encI g B W ((bakAcq n room base loc me F).onT s0)) := by
 have hb := heap_alloc_new (W.alloc (.cells #[] 241)) (.cells #[.int .i64 alg, .int .i64 n, .int .i64 mode, .int .i64 base, .int .i64 loc, .int .i64 room] 128)
 rw [World.size_alloc] at hb
 have HU := hQ' (show Up W ((W.alloc (.cells #[] 241)).alloc (.cells #[.int .i64 alg, .int .i64 n, .int .i64 mode, .int .i64 base, .int .i64 loc, .int .i64 room] 128)) from ((Up.refl W).alloc _).alloc _)
 have HX := hQ' (fun (W' : World) (ht : Tape1 W' g B s0) => bakAcq_any n me alg mode base loc room F g B s0 W' hn hme hroom hb0 hF hA hN ht)
 have HT := hQ' (h.up HU.out)
 have c0 := cell_of_row _ _ 0 _ _ _ hb
 have c1 := cell_of_row _ _ 1 _ _ _ hb
 have c2 := cell_of_row _ _ 2 _ _ _ hb
 have c3 := cell_of_row _ _ 3 _ _ _ hb
 have c4 := cell_of_row _ _ 4 _ _ _ hb
 have c5 := cell_of_row _ _ 5 _ _ _ hb
 simp only [gA_T, gA_0, gA_S] at c0 c1 c2 c3 c4 c5
 generalize (bakAcq n room base loc me F).onT s0 = R at *
 clear hb h
 go_enter Tryz.func324, Tryz.ntmps324
 go_wp2_with fail
 refine (HX.out _ HT.out).mono ?_
 intro e w2 hP
 obtain ⟨ro, s'⟩ := R
 cases ro with
 | none =>
  obtain ⟨rfl, hT1, hT2⟩ := TPost.of_none rfl hP
  have HF := hQ' (And.intro hT1 ((TK.ofUp HU.out).trans hT2))
  clear hP hT1 hT2 HX HU HT c0 c1 c2 c3 c4 c5
  go_wp2_with fail
  exact ⟨rfl, TPost.none rfl ⟨rfl, HF.out.1, HF.out.2⟩⟩
 | some v =>
  obtain ⟨rfl, hT1, hT2⟩ := TPost.of_some rfl hP
  have HF := hQ' (And.intro hT1 ((TK.ofUp HU.out).trans hT2))
  clear hP hT1 hT2 HX HU HT c0 c1 c2 c3 c4 c5
  go_wp2_with fail
  go_ret
  exact TPost.some rfl ⟨rfl, HF.out.1, HF.out.2⟩
theorem mRel1 {n : Nat} {base room : Int} (me : Nat) (alg mode loc : Int) (g B : Nat) (s0 : TS) (W : World) (hn : 1 ≤ n ∧ n ≤ 8) (hme : me < n) (hroom : 1 ≤ room ∧ room ≤ 1048576) (hb0 : 0 ≤ base ∧ base ≤ 40000) (hN : s0.nts.length ≤ 500000) (h : Tape1 W g B s0) :
 Calls Tryz.prog 325 #[.agg #[], .pointer (some ⟨g, 0, none⟩), .agg #[.int .i64 alg, .int .i64 n, .int .i64 mode, .int .i64 base, .int .i64 loc, .int .i64 room], .int .i64 me] W (TPost encU g B W ((bakRel n base loc me).onT s0)) := by
 have hb := heap_alloc_new (W.alloc (.cells #[] 241)) (.cells #[.int .i64 alg, .int .i64 n, .int .i64 mode, .int .i64 base, .int .i64 loc, .int .i64 room] 128)
 rw [World.size_alloc] at hb
 have HU := hQ' (show Up W ((W.alloc (.cells #[] 241)).alloc (.cells #[.int .i64 alg, .int .i64 n, .int .i64 mode, .int .i64 base, .int .i64 loc, .int .i64 room] 128)) from ((Up.refl W).alloc _).alloc _)
 have HX := hQ' (fun (W' : World) (ht : Tape1 W' g B s0) => bakRel_any n me alg mode base loc room g B s0 W' hn hme hroom hb0 hN ht)
 have HT := hQ' (h.up HU.out)
 have c0 := cell_of_row _ _ 0 _ _ _ hb
 have c1 := cell_of_row _ _ 1 _ _ _ hb
 have c2 := cell_of_row _ _ 2 _ _ _ hb
 have c3 := cell_of_row _ _ 3 _ _ _ hb
 have c4 := cell_of_row _ _ 4 _ _ _ hb
 have c5 := cell_of_row _ _ 5 _ _ _ hb
 simp only [gA_T, gA_0, gA_S] at c0 c1 c2 c3 c4 c5
 generalize (bakRel n base loc me).onT s0 = R at *
 clear hb h
 go_enter Tryz.func325, Tryz.ntmps325
 go_wp2_with fail
 refine (HX.out _ HT.out).mono ?_
 intro e w2 hP
 obtain ⟨ro, s'⟩ := R
 cases ro with
 | none =>
  obtain ⟨rfl, hT1, hT2⟩ := TPost.of_none rfl hP
  have HF := hQ' (And.intro hT1 ((TK.ofUp HU.out).trans hT2))
  clear hP hT1 hT2 HX HU HT c0 c1 c2 c3 c4 c5
  go_wp2_with fail
  exact ⟨rfl, TPost.none rfl ⟨rfl, HF.out.1, HF.out.2⟩⟩
 | some v =>
  obtain ⟨rfl, hT1, hT2⟩ := TPost.of_some rfl hP
  have HF := hQ' (And.intro hT1 ((TK.ofUp HU.out).trans hT2))
  clear hP hT1 hT2 HX HU HT c0 c1 c2 c3 c4 c5
  go_wp2_with fail
  go_end0
  exact TPost.some rfl ⟨rfl, HF.out.1, HF.out.2⟩
theorem mAcq2 {n : Nat} {base room : Int} (me : Nat) (alg mode loc : Int) (F : Nat) (g B : Nat) (s0 : TS) (W : World) (hn : 1 ≤ n ∧ n ≤ 8) (hme : me < n) (hb0 : 0 ≤ base ∧ base ≤ 40000) (hF : s0.ans.length < F) (hA : TameA s0.ans) (hN : s0.nts.length ≤ 500000) (h : Tape1 W g B s0) :
 Calls Tryz.prog 334 #[.agg #[], .pointer (some ⟨g, 0, none⟩), .agg #[.int .i64 alg, .int .i64 n, .int .i64 mode, .int .i64 base, .int .i64 loc, .int .i64 room], .int .i64 me] W (TPost encI g B W ((oneAcq n base me F).onT s0)) := by
 have hb := heap_alloc_new (W.alloc (.cells #[] 242)) (.cells #[.int .i64 alg, .int .i64 n, .int .i64 mode, .int .i64 base, .int .i64 loc, .int .i64 room] 128)
 rw [World.size_alloc] at hb
 have HU := hQ' (show Up W ((W.alloc (.cells #[] 242)).alloc (.cells #[.int .i64 alg, .int .i64 n, .int .i64 mode, .int .i64 base, .int .i64 loc, .int .i64 room] 128)) from ((Up.refl W).alloc _).alloc _)
 have HX := hQ' (fun (W' : World) (ht : Tape1 W' g B s0) => oneAcq_any n me alg mode base loc room F g B s0 W' hn hme hb0 hF hN ht)
 have HT := hQ' (h.up HU.out)
 have c0 := cell_of_row _ _ 0 _ _ _ hb
 have c1 := cell_of_row _ _ 1 _ _ _ hb
 have c2 := cell_of_row _ _ 2 _ _ _ hb
 have c3 := cell_of_row _ _ 3 _ _ _ hb
 have c4 := cell_of_row _ _ 4 _ _ _ hb
 have c5 := cell_of_row _ _ 5 _ _ _ hb
 simp only [gA_T, gA_0, gA_S] at c0 c1 c2 c3 c4 c5
 generalize (oneAcq n base me F).onT s0 = R at *
 clear hb h
 go_enter Tryz.func334, Tryz.ntmps334
 go_wp2_with fail
 refine (HX.out _ HT.out).mono ?_
 intro e w2 hP
 obtain ⟨ro, s'⟩ := R
 cases ro with
 | none =>
  obtain ⟨rfl, hT1, hT2⟩ := TPost.of_none rfl hP
  have HF := hQ' (And.intro hT1 ((TK.ofUp HU.out).trans hT2))
  clear hP hT1 hT2 HX HU HT c0 c1 c2 c3 c4 c5
  go_wp2_with fail
  exact ⟨rfl, TPost.none rfl ⟨rfl, HF.out.1, HF.out.2⟩⟩
 | some v =>
  obtain ⟨rfl, hT1, hT2⟩ := TPost.of_some rfl hP
  have HF := hQ' (And.intro hT1 ((TK.ofUp HU.out).trans hT2))
  clear hP hT1 hT2 HX HU HT c0 c1 c2 c3 c4 c5
  go_wp2_with fail
  go_ret
  exact TPost.some rfl ⟨rfl, HF.out.1, HF.out.2⟩
theorem mRel2 {n : Nat} {base room : Int} (me : Nat) (alg mode loc : Int) (g B : Nat) (s0 : TS) (W : World) (hn : 1 ≤ n ∧ n ≤ 8) (hme : me < n) (hb0 : 0 ≤ base ∧ base ≤ 40000) (hN : s0.nts.length ≤ 500000) (h : Tape1 W g B s0) :
 Calls Tryz.prog 335 #[.agg #[], .pointer (some ⟨g, 0, none⟩), .agg #[.int .i64 alg, .int .i64 n, .int .i64 mode, .int .i64 base, .int .i64 loc, .int .i64 room], .int .i64 me] W (TPost encU g B W ((oneRel base me).onT s0)) := by
 have hb := heap_alloc_new (W.alloc (.cells #[] 242)) (.cells #[.int .i64 alg, .int .i64 n, .int .i64 mode, .int .i64 base, .int .i64 loc, .int .i64 room] 128)
 rw [World.size_alloc] at hb
 have HU := hQ' (show Up W ((W.alloc (.cells #[] 242)).alloc (.cells #[.int .i64 alg, .int .i64 n, .int .i64 mode, .int .i64 base, .int .i64 loc, .int .i64 room] 128)) from ((Up.refl W).alloc _).alloc _)
 have HX := hQ' (fun (W' : World) (ht : Tape1 W' g B s0) => oneRel_any n me alg mode base loc room g B s0 W' hn hme hb0 hN ht)
 have HT := hQ' (h.up HU.out)
 have c0 := cell_of_row _ _ 0 _ _ _ hb
 have c1 := cell_of_row _ _ 1 _ _ _ hb
 have c2 := cell_of_row _ _ 2 _ _ _ hb
 have c3 := cell_of_row _ _ 3 _ _ _ hb
 have c4 := cell_of_row _ _ 4 _ _ _ hb
 have c5 := cell_of_row _ _ 5 _ _ _ hb
 simp only [gA_T, gA_0, gA_S] at c0 c1 c2 c3 c4 c5
 generalize (oneRel base me).onT s0 = R at *
 clear hb h
 go_enter Tryz.func335, Tryz.ntmps335
 go_wp2_with fail
 refine (HX.out _ HT.out).mono ?_
 intro e w2 hP
 obtain ⟨ro, s'⟩ := R
 cases ro with
 | none =>
  obtain ⟨rfl, hT1, hT2⟩ := TPost.of_none rfl hP
  have HF := hQ' (And.intro hT1 ((TK.ofUp HU.out).trans hT2))
  clear hP hT1 hT2 HX HU HT c0 c1 c2 c3 c4 c5
  go_wp2_with fail
  exact ⟨rfl, TPost.none rfl ⟨rfl, HF.out.1, HF.out.2⟩⟩
 | some v =>
  obtain ⟨rfl, hT1, hT2⟩ := TPost.of_some rfl hP
  have HF := hQ' (And.intro hT1 ((TK.ofUp HU.out).trans hT2))
  clear hP hT1 hT2 HX HU HT c0 c1 c2 c3 c4 c5
  go_wp2_with fail
  go_end0
  exact TPost.some rfl ⟨rfl, HF.out.1, HF.out.2⟩
theorem lockAcq_any {alg : Int} {n : Nat} {base room : Int} (hk : LkOK alg n base room) (me : Nat) (mode loc : Int) (F : Nat) (g B : Nat) (s0 : TS) (W : World) (hme : me < n) (hF : s0.ans.length < F) (hA : TameA s0.ans) (hN : s0.nts.length ≤ 500000) (h : Tape1 W g B s0) :
 Calls Tryz.prog 206 #[.pointer (some ⟨g, 0, none⟩), .agg #[.int .i64 alg, .int .i64 n, .int .i64 mode, .int .i64 base, .int .i64 loc, .int .i64 room], .int .i64 me] W (TPost encI g B W ((lockAcq alg n room base loc me F).onT s0)) := by
 have hb := heap_alloc_new W (.cells #[.int .i64 alg, .int .i64 n, .int .i64 mode, .int .i64 base, .int .i64 loc, .int .i64 room] 128)
 have hu : Up W (W.alloc (.cells #[.int .i64 alg, .int .i64 n, .int .i64 mode, .int .i64 base, .int .i64 loc, .int .i64 room] 128)) := (Up.refl W).alloc _
 have hlt := (Array.getElem?_eq_some_iff.1 hb).1
 have HKB := hQ' (fun (W' : World) (u : Up (W.alloc (.cells #[.int .i64 alg, .int .i64 n, .int .i64 mode, .int .i64 base, .int .i64 loc, .int .i64 room] 128)) W') => (u.block _ hlt).trans hb)
 have HT := hQ' (fun (W' : World) (u : Up (W.alloc (.cells #[.int .i64 alg, .int .i64 n, .int .i64 mode, .int .i64 base, .int .i64 loc, .int .i64 room] 128)) W') => And.intro (h.up (hu.trans u)) (TK.ofUp (g := g) (B := B) (hu.trans u)))
 have c0 := cell_of_row _ _ 0 _ _ _ hb
 simp only [gA_T, gA_0, gA_S] at c0
 obtain ⟨hn, hroom, hbase⟩ := And.intro hk.n (And.intro hk.room hk.base)
 clear hb hu hlt h
 rcases hk.alg with rfl | rfl
 · have HO := hQ' (fun W' => of1_any W')
   have HX := hQ' (fun (W' : World) (ht : Tape1 W' g B s0) => show Calls Tryz.prog 324 #[.agg #[], .pointer (some ⟨g, 0, none⟩), .agg #[.int .i64 1, .int .i64 n, .int .i64 mode, .int .i64 base, .int .i64 loc, .int .i64 room], .int .i64 me] W' (TPost encI g B W' ((lockAcq 1 n room base loc me F).onT s0)) from mAcq1 me 1 mode loc F g B s0 W' hn hme hroom hbase hF hA hN ht)
   have hm : ∀ W, (method 429 241 (.agg #[]) "kevel/lock.acquire").run Tryz.prog W = .ok (324, .agg #[]) W := fun _ => by kernel_rfl
   clear hk hn hroom hbase
   generalize (lockAcq _ n room base loc me F).onT s0 = R at *
   go_enter Tryz.func206, Tryz.ntmps206
   go_wp2_with fail
   refine (HO.out _).mono ?_
   rintro e w1 ⟨rfl, hu1⟩
   have hT := HT.out w1 hu1
   have hb := HKB.out w1 hu1
   have c0 := cell_of_row _ _ 0 _ _ _ hb
   have c1 := cell_of_row _ _ 1 _ _ _ hb
   have c2 := cell_of_row _ _ 2 _ _ _ hb
   have c3 := cell_of_row _ _ 3 _ _ _ hb
   have c4 := cell_of_row _ _ 4 _ _ _ hb
   have c5 := cell_of_row _ _ 5 _ _ _ hb
   simp only [gA_T, gA_0, gA_S] at c0 c1 c2 c3 c4 c5
   have HT1 := hQ' hT
   clear hT hb hu1 HT HKB
   go_wp2_with fail
   refine (HX.out _ HT1.out.1).mono ?_
   intro e w2 hP
   obtain ⟨ro, s'⟩ := R
   cases ro with
   | none =>
    obtain ⟨rfl, hT1, hT2⟩ := TPost.of_none rfl hP
    have HF := hQ' (And.intro hT1 (HT1.out.2.trans hT2))
    clear hP hT1 hT2 HX
    go_wp2_with fail
    exact ⟨rfl, TPost.none rfl ⟨rfl, HF.out.1, HF.out.2⟩⟩
   | some v =>
    obtain ⟨rfl, hT1, hT2⟩ := TPost.of_some rfl hP
    have HF := hQ' (And.intro hT1 (HT1.out.2.trans hT2))
    clear hP hT1 hT2 HX
    go_wp2_with fail
    go_ret
    exact TPost.some rfl ⟨rfl, HF.out.1, HF.out.2⟩
 · have HO := hQ' (fun W' => of2_any W')
   have HX := hQ' (fun (W' : World) (ht : Tape1 W' g B s0) => show Calls Tryz.prog 334 #[.agg #[], .pointer (some ⟨g, 0, none⟩), .agg #[.int .i64 2, .int .i64 n, .int .i64 mode, .int .i64 base, .int .i64 loc, .int .i64 room], .int .i64 me] W' (TPost encI g B W' ((lockAcq 2 n room base loc me F).onT s0)) from mAcq2 me 2 mode loc F g B s0 W' hn hme hbase hF hA hN ht)
   have hm : ∀ W, (method 429 242 (.agg #[]) "kevel/lock.acquire").run Tryz.prog W = .ok (334, .agg #[]) W := fun _ => by kernel_rfl
   clear hk hn hroom hbase
   generalize (lockAcq _ n room base loc me F).onT s0 = R at *
   go_enter Tryz.func206, Tryz.ntmps206
   go_wp2_with fail
   refine (HO.out _).mono ?_
   rintro e w1 ⟨rfl, hu1⟩
   have hT := HT.out w1 hu1
   have hb := HKB.out w1 hu1
   have c0 := cell_of_row _ _ 0 _ _ _ hb
   have c1 := cell_of_row _ _ 1 _ _ _ hb
   have c2 := cell_of_row _ _ 2 _ _ _ hb
   have c3 := cell_of_row _ _ 3 _ _ _ hb
   have c4 := cell_of_row _ _ 4 _ _ _ hb
   have c5 := cell_of_row _ _ 5 _ _ _ hb
   simp only [gA_T, gA_0, gA_S] at c0 c1 c2 c3 c4 c5
   have HT1 := hQ' hT
   clear hT hb hu1 HT HKB
   go_wp2_with fail
   refine (HX.out _ HT1.out.1).mono ?_
   intro e w2 hP
   obtain ⟨ro, s'⟩ := R
   cases ro with
   | none =>
    obtain ⟨rfl, hT1, hT2⟩ := TPost.of_none rfl hP
    have HF := hQ' (And.intro hT1 (HT1.out.2.trans hT2))
    clear hP hT1 hT2 HX
    go_wp2_with fail
    exact ⟨rfl, TPost.none rfl ⟨rfl, HF.out.1, HF.out.2⟩⟩
   | some v =>
    obtain ⟨rfl, hT1, hT2⟩ := TPost.of_some rfl hP
    have HF := hQ' (And.intro hT1 (HT1.out.2.trans hT2))
    clear hP hT1 hT2 HX
    go_wp2_with fail
    go_ret
    exact TPost.some rfl ⟨rfl, HF.out.1, HF.out.2⟩
theorem lockRel_any {alg : Int} {n : Nat} {base room : Int} (hk : LkOK alg n base room) (me : Nat) (mode loc : Int) (g B : Nat) (s0 : TS) (W : World) (hme : me < n) (hN : s0.nts.length ≤ 500000) (h : Tape1 W g B s0) :
 Calls Tryz.prog 208 #[.pointer (some ⟨g, 0, none⟩), .agg #[.int .i64 alg, .int .i64 n, .int .i64 mode, .int .i64 base, .int .i64 loc, .int .i64 room], .int .i64 me] W (TPost encU g B W ((lockRel alg n base loc me).onT s0)) := by
 have hb := heap_alloc_new W (.cells #[.int .i64 alg, .int .i64 n, .int .i64 mode, .int .i64 base, .int .i64 loc, .int .i64 room] 128)
 have hu : Up W (W.alloc (.cells #[.int .i64 alg, .int .i64 n, .int .i64 mode, .int .i64 base, .int .i64 loc, .int .i64 room] 128)) := (Up.refl W).alloc _
 have hlt := (Array.getElem?_eq_some_iff.1 hb).1
 have HKB := hQ' (fun (W' : World) (u : Up (W.alloc (.cells #[.int .i64 alg, .int .i64 n, .int .i64 mode, .int .i64 base, .int .i64 loc, .int .i64 room] 128)) W') => (u.block _ hlt).trans hb)
 have HT := hQ' (fun (W' : World) (u : Up (W.alloc (.cells #[.int .i64 alg, .int .i64 n, .int .i64 mode, .int .i64 base, .int .i64 loc, .int .i64 room] 128)) W') => And.intro (h.up (hu.trans u)) (TK.ofUp (g := g) (B := B) (hu.trans u)))
 have c0 := cell_of_row _ _ 0 _ _ _ hb
 simp only [gA_T, gA_0, gA_S] at c0
 obtain ⟨hn, hroom, hbase⟩ := And.intro hk.n (And.intro hk.room hk.base)
 clear hb hu hlt h
 rcases hk.alg with rfl | rfl
 · have HO := hQ' (fun W' => of1_any W')
   have HX := hQ' (fun (W' : World) (ht : Tape1 W' g B s0) => show Calls Tryz.prog 325 #[.agg #[], .pointer (some ⟨g, 0, none⟩), .agg #[.int .i64 1, .int .i64 n, .int .i64 mode, .int .i64 base, .int .i64 loc, .int .i64 room], .int .i64 me] W' (TPost encU g B W' ((lockRel 1 n base loc me).onT s0)) from mRel1 me 1 mode loc g B s0 W' hn hme hroom hbase hN ht)
   have hm : ∀ W, (method 429 241 (.agg #[]) "kevel/lock.release").run Tryz.prog W = .ok (325, .agg #[]) W := fun _ => by kernel_rfl
   clear hk hn hroom hbase
   generalize (lockRel _ n base loc me).onT s0 = R at *
   go_enter Tryz.func208, Tryz.ntmps208
   go_wp2_with fail
   refine (HO.out _).mono ?_
   rintro e w1 ⟨rfl, hu1⟩
   have hT := HT.out w1 hu1
   have hb := HKB.out w1 hu1
   have c0 := cell_of_row _ _ 0 _ _ _ hb
   have c1 := cell_of_row _ _ 1 _ _ _ hb
   have c2 := cell_of_row _ _ 2 _ _ _ hb
   have c3 := cell_of_row _ _ 3 _ _ _ hb
   have c4 := cell_of_row _ _ 4 _ _ _ hb
   have c5 := cell_of_row _ _ 5 _ _ _ hb
   simp only [gA_T, gA_0, gA_S] at c0 c1 c2 c3 c4 c5
   have HT1 := hQ' hT
   clear hT hb hu1 HT HKB
   go_wp2_with fail
   refine (HX.out _ HT1.out.1).mono ?_
   intro e w2 hP
   obtain ⟨ro, s'⟩ := R
   cases ro with
   | none =>
    obtain ⟨rfl, hT1, hT2⟩ := TPost.of_none rfl hP
    have HF := hQ' (And.intro hT1 (HT1.out.2.trans hT2))
    clear hP hT1 hT2 HX
    go_wp2_with fail
    exact ⟨rfl, TPost.none rfl ⟨rfl, HF.out.1, HF.out.2⟩⟩
   | some v =>
    obtain ⟨rfl, hT1, hT2⟩ := TPost.of_some rfl hP
    have HF := hQ' (And.intro hT1 (HT1.out.2.trans hT2))
    clear hP hT1 hT2 HX
    go_wp2_with fail
    go_end0
    exact TPost.some rfl ⟨rfl, HF.out.1, HF.out.2⟩
 · have HO := hQ' (fun W' => of2_any W')
   have HX := hQ' (fun (W' : World) (ht : Tape1 W' g B s0) => show Calls Tryz.prog 335 #[.agg #[], .pointer (some ⟨g, 0, none⟩), .agg #[.int .i64 2, .int .i64 n, .int .i64 mode, .int .i64 base, .int .i64 loc, .int .i64 room], .int .i64 me] W' (TPost encU g B W' ((lockRel 2 n base loc me).onT s0)) from mRel2 me 2 mode loc g B s0 W' hn hme hbase hN ht)
   have hm : ∀ W, (method 429 242 (.agg #[]) "kevel/lock.release").run Tryz.prog W = .ok (335, .agg #[]) W := fun _ => by kernel_rfl
   clear hk hn hroom hbase
   generalize (lockRel _ n base loc me).onT s0 = R at *
   go_enter Tryz.func208, Tryz.ntmps208
   go_wp2_with fail
   refine (HO.out _).mono ?_
   rintro e w1 ⟨rfl, hu1⟩
   have hT := HT.out w1 hu1
   have hb := HKB.out w1 hu1
   have c0 := cell_of_row _ _ 0 _ _ _ hb
   have c1 := cell_of_row _ _ 1 _ _ _ hb
   have c2 := cell_of_row _ _ 2 _ _ _ hb
   have c3 := cell_of_row _ _ 3 _ _ _ hb
   have c4 := cell_of_row _ _ 4 _ _ _ hb
   have c5 := cell_of_row _ _ 5 _ _ _ hb
   simp only [gA_T, gA_0, gA_S] at c0 c1 c2 c3 c4 c5
   have HT1 := hQ' hT
   clear hT hb hu1 HT HKB
   go_wp2_with fail
   refine (HX.out _ HT1.out.1).mono ?_
   intro e w2 hP
   obtain ⟨ro, s'⟩ := R
   cases ro with
   | none =>
    obtain ⟨rfl, hT1, hT2⟩ := TPost.of_none rfl hP
    have HF := hQ' (And.intro hT1 (HT1.out.2.trans hT2))
    clear hP hT1 hT2 HX
    go_wp2_with fail
    exact ⟨rfl, TPost.none rfl ⟨rfl, HF.out.1, HF.out.2⟩⟩
   | some v =>
    obtain ⟨rfl, hT1, hT2⟩ := TPost.of_some rfl hP
    have HF := hQ' (And.intro hT1 (HT1.out.2.trans hT2))
    clear hP hT1 hT2 HX
    go_wp2_with fail
    go_end0
    exact TPost.some rfl ⟨rfl, HF.out.1, HF.out.2⟩
end Go.Proofs.YtpodgcpkccpnfaaGreat

namespace Go.Proofs.YtpodgcpkccpnfaaGreat
open Go.RowKit
structure UpW (w0 : World) where
 w : World
 up : Up w0 w
instance (w0 : World) : Nonempty (UpW w0) := ⟨⟨w0, Up.refl w0⟩⟩
theorem upCell {w0 : World} {b o : Nat} {v : Value} (h : w0.cell? ⟨b, o, none⟩ = some v) : ∀ x : UpW w0, x.w.cell? ⟨b, o, none⟩ = some v := fun x => (x.up.cell (cell_lt h)).trans h
theorem wp_region_up {P : Program} {id : Nat} {Q : Exit → Act → World → Prop} {a : Act} {w w0 : World} {l : List Oper} (hm : P.follows .mixedOrders = true) (hB : Region.lexB .any l.toArray = true) (hu : Up w0 w)
 (h : wpQuiet P l.toArray (fun w' => ∃ x : UpW w0, w' = x.w) (fun a' => ∀ w', (∃ x : UpW w0, w' = x.w) → Q .normal a' w') l a) : (Code.region id l.toArray true).wp P Q a w :=
 wp_region_quiet (C := fun w' => ∃ x : UpW w0, w' = x.w) hm hB ⟨⟨_, hu.drew⟩, rfl⟩ (by simpa using h)
end Go.Proofs.YtpodgcpkccpnfaaGreat

namespace Go.Proofs.YtpodgcpkccpnfaaGreat
open Go.RowKit
structure BankB (W : World) (b : Nat) (R : Value) (many : Int) (m : Nat) (by' : Nat → Bool × Int) : Prop where
 k0 : W.cell? ⟨b, 0, none⟩ = some R
 k1 : W.cell? ⟨b, 1, none⟩ = some (.int .i64 many)
 k2 : W.cell? ⟨b, 2, none⟩ = some (.map (some m))
 on : ∀ t, t < 8 → W.cell? ⟨b, 3 + t * 2, none⟩ = some (.bool (by' t).1)
 at' : ∀ t, t < 8 → W.cell? ⟨b, 3 + t * 2 + 1, none⟩ = some (.int .i64 (by' t).2)
 fz : ∀ j, W.frozen? ⟨b, j, none⟩ = false
theorem BankB.lt {W : World} {b : Nat} {R : Value} {many : Int} {m : Nat} {by' : Nat → Bool × Int} (h : BankB W b R many m by') : b < W.heap.size := cell_lt h.k1
theorem BankB.same {W W' : World} {b : Nat} {R : Value} {many : Int} {m : Nat} {by' : Nat → Bool × Int} (h : BankB W b R many m by') (e : W'.heap[b]? = W.heap[b]?) : BankB W' b R many m by' :=
 ⟨(World.cell?_of_block (a := ⟨b, 0, none⟩) e).trans h.k0, (World.cell?_of_block (a := ⟨b, 1, none⟩) e).trans h.k1, (World.cell?_of_block (a := ⟨b, 2, none⟩) e).trans h.k2,
  fun t ht => (World.cell?_of_block (a := ⟨b, 3 + t * 2, none⟩) e).trans (h.on t ht), fun t ht => (World.cell?_of_block (a := ⟨b, 3 + t * 2 + 1, none⟩) e).trans (h.at' t ht), fun j => (World.frozen?_of_block (a := ⟨b, j, none⟩) e).trans (h.fz j)⟩
theorem BankB.up {W W' : World} {b : Nat} {R : Value} {many : Int} {m : Nat} {by' : Nat → Bool × Int} (h : BankB W b R many m by') (u : Up W W') : BankB W' b R many m by' := h.same (u.block b h.lt)
theorem bbusy_any (b : Nat) (R : Value) (many : Int) (m : Nat) (s : BS) (t : Int) (w : World) (ht0 : -9223372036854775808 ≤ t) (ht1 : t ≤ 9223372036854775807) (H : BankB w b R many m s.by') :
 Calls Tryz.prog 80 #[.pointer (some ⟨b, 0, none⟩), .int .i64 t] w fun e w' => e = .returned (.tuple #[.int .i64 (s.busy t).1, .bool (s.busy t).2]) ∧ Up w w' := by
 by_cases hin : t < 0 ∨ 8 ≤ t
 · have he : s.busy t = (0, false) := by unfold BS.busy; rw [if_pos hin]
   rw [he]
   by_cases h0 : t < 0
   · clear H hin
     go_enter Tryz.func80, Tryz.ntmps80
     go_wp2_with fail
     go_ret2
     exact ⟨rfl, Up.refl _⟩
   · have h8 : 8 ≤ t := by omega
     have h0b : decide (t < 0) = false := decide_eq_false h0
     clear H hin
     go_enter Tryz.func80, Tryz.ntmps80
     go_wp2_with fail
     go_ret2
     exact ⟨rfl, Up.refl _⟩
 · obtain ⟨i, rfl⟩ : ∃ i : Nat, t = (i : Int) := ⟨t.toNat, by omega⟩
   have hi8 : i < 8 := by omega
   have he : s.busy (i : Int) = ((s.by' i).2, (s.by' i).1) := by unfold BS.busy; rw [if_neg hin]; rfl
   rw [he]
   have x0 := upCell (H.on i hi8)
   have x1 := upCell (H.at' i hi8)
   have h8 : (i : Int) < 8 := by omega
   have h0 : (0 : Int) ≤ (i : Int) := by omega
   generalize s.by' i = p at *
   obtain ⟨po, pa⟩ := p
   dsimp only at x0 x1
   clear H hin he
   go_enter Tryz.func80, Tryz.ntmps80
   go_wp2_with fail
   refine wp_region_up (by kernel_rfl) (by kernel_rfl) (Up.refl _) ?_
   repeat (go_big_quiet_step ((fail)))
   refine wpQuiet_nil ?_
   rintro wz ⟨⟨wy, huy⟩, hwy⟩
   have huz : Up w wz := by rw [hwy]; exact huy
   clear hwy huy
   go_wp2_with fail
   go_ret2
   exact ⟨rfl, huz⟩
end Go.Proofs.YtpodgcpkccpnfaaGreat

namespace Go.Proofs.YtpodgcpkccpnfaaGreat
open Go.RowKit
theorem clampT_cases (n top : Int) : (n < 0 ∨ top < 0) ∧ clampT n top = 0 ∨ 0 ≤ n ∧ 0 ≤ top ∧ n ≤ top ∧ n ≤ 1099511627776 ∧ clampT n top = n ∨ 0 ≤ n ∧ 0 ≤ top ∧ top < n ∧ top ≤ 1099511627776 ∧ clampT n top = top ∨ 0 ≤ n ∧ 0 ≤ top ∧ 1099511627776 < n ∧ 1099511627776 < top ∧ clampT n top = 1099511627776 := by
 by_cases h1 : n < 0
 · exact .inl ⟨.inl h1, by unfold clampT clampI; rw [if_pos h1]⟩
 by_cases h2 : top < 0
 · refine .inl ⟨.inr h2, ?_⟩
   unfold clampT clampI
   rw [if_neg h1, if_pos h2]
   split <;> omega
 have e : clampI top 0 1099511627776 = if 1099511627776 < top then 1099511627776 else top := by unfold clampI; rw [if_neg h2]
 unfold clampT
 rw [e]
 unfold clampI
 rw [if_neg h1]
 by_cases h3 : 1099511627776 < top
 · rw [if_pos h3]
   by_cases h5 : 1099511627776 < n
   · rw [if_pos h5]; exact .inr (.inr (.inr ⟨by omega, by omega, h5, h3, rfl⟩))
   · rw [if_neg h5]; exact .inr (.inl ⟨by omega, by omega, by omega, by omega, rfl⟩)
 · rw [if_neg h3]
   by_cases h5 : top < n
   · rw [if_pos h5]; exact .inr (.inr (.inl ⟨by omega, by omega, h5, by omega, rfl⟩))
   · rw [if_neg h5]; exact .inr (.inl ⟨by omega, by omega, by omega, by omega, rfl⟩)
theorem nclamp_any (n top : Int) (w : World) : Calls Tryz.prog 129 #[.int .i64 n, .int .i64 top] w fun e w' => e = .returned (.int .i64 (clampT n top)) ∧ w' = w := by
 have hc := clampT_cases n top
 generalize clampT n top = r at *
 go_enter Tryz.func129, Tryz.ntmps129
 go_wp2_with fail
 all_goals
  go_ret
  refine ⟨?_, rfl⟩
  show Ending.returned (Value.int .i64 _) = Ending.returned (Value.int .i64 r)
  refine congrArg (fun z => Ending.returned (Value.int .i64 z)) ?_
  omega
theorem nwrap_any (n top : Int) (w : World) : Calls Tryz.prog 109 #[.int .i64 n, .int .i64 top] w fun e w' => e = .returned (.int .i64 (wrapI n top)) ∧ w' = w := by
 have HC := hQ' (nclamp_any top 1099511627776 w)
 have e0 : clampT top 1099511627776 = clampI top 0 1099511627776 := rfl
 rw [e0] at HC
 have hm := clampI_le top
 have HW := hQ' (show wrapI n top = n % (clampI top 0 1099511627776 + 1) from rfl)
 obtain ⟨r, hr⟩ : ∃ r, wrapI n top = r := ⟨_, rfl⟩
 rw [hr] at HW ⊢
 generalize clampI top 0 1099511627776 = m at *
 obtain ⟨h1, h2, h3⟩ := tmod_emod n (m + 1) (by omega)
 rw [← HW.out] at h3
 have x1 : wrap64 (m + 1) = m + 1 := IntWalk.wrap64_in _ (by omega)
 have x2 : ((m + 1) == 0) = false := by rw [beq_eq_false_iff_ne]; omega
 have x3 : wrap64 (n.tmod (m + 1)) = n.tmod (m + 1) := IntWalk.wrap64_in _ (by omega)
 have x4 : wrap64 (n.tmod (m + 1) + (m + 1)) = n.tmod (m + 1) + (m + 1) := IntWalk.wrap64_in _ (by omega)
 have x5 : ¬ (m + 1 = 0) := by omega
 have HM := hQ' hm
 have H3 := hQ' h3
 have H12 := hQ' (And.intro h1 h2)
 clear hr e0 h3 hm h1 h2
 go_enter Tryz.func109, Tryz.ntmps109
 go_wp2_with fail
 refine HC.out.mono ?_
 rintro e w1 ⟨rfl, rfl⟩
 have X4 := hQ' x4
 by_cases hr : n.tmod (m + 1) < 0
 · have HE2 := hQ' (H3.out.trans (if_pos hr))
   go_wp2_with fail
   go_ret
   refine ⟨?_, rfl⟩
   rw [HE2.out]
   exact congrArg (fun z => Ending.returned (Value.int .i64 z)) X4.out
 · have HE2 := hQ' (H3.out.trans (if_neg hr))
   go_wp2_with fail
   go_ret
   refine ⟨?_, rfl⟩
   rw [HE2.out]
   rfl
end Go.Proofs.YtpodgcpkccpnfaaGreat

