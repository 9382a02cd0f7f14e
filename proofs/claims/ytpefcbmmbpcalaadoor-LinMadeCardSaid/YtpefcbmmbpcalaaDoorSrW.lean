/-
  The search's closure.
-/
import Derived.Test.YtpefcbmmbpcalaaDoorSrI
import Derived.Test.YtpefcbmmbpcalaaDoorAft
import Derived.Test.YtpefcbmmbpcalaaDoorONext
set_option linter.unusedVariables false
set_option linter.unusedSimpArgs false
namespace Go.Proofs.YtpefcbmmbpcalaaDoor
open Go.RowKit

/-- What a call of the closure leaves. -/
def TryPost (l : List OpD) (A : Option Addr) (c : Nat) (first : Int) (w0 : World) (K : Nat) (T : List St) (F : List Nat) (d : Nat) (v : Int) (vf : Value) (W : World) (e : Ending) (W' : World) : Prop :=
  ∃ ok T' F' vf', e = .returned (.bool ok) ∧ SInv l A c w0 K T' F' vf' W' ∧ Tried l first T' ∧ KX (XK K vf) W W' ∧ Moved W vf.ownBlock vf'.ownBlock ∧ TryOut l first T F d v ok T' F'

theorem Moved.mono {w w' : World} {o o' : Option Nat} (h : Moved w' o o') (hs : w.heap.size ≤ w'.heap.size) : Moved w o o' := by
  rcases h with e | e | ⟨g, e, hg⟩
  · exact .inl e
  · exact .inr (.inl e)
  · exact .inr (.inr ⟨g, e, by omega⟩)
theorem push_own {w : World} {B : Nat} {v : Value} {F : List Nat} {i : Nat} (h : w.ownsRow B 3 1 v (F.length + 1) (ncells F ++ [.int .i64 (i : Int)])) : OwnN w B v (F ++ [i]) := by
  unfold OwnN
  rw [ncells_append, List.length_append]
  exact h

set_option maxRecDepth 10000 in
set_option maxHeartbeats 4000000 in
theorem try_any (l : List OpD) (A : Option Addr) (c : Nat) (first : Int) (w0 : World) (K : Nat) (hl : l.length ≤ 24) (hf : fineP l = true) (hT0 : TabT w0) (hr0 : OpRow w0 A l) (hv0 : ∀ v, ValIn l first v → (Lit.int .i64 v).wf = true) :
    ∀ (u : Nat) (T : List St) (F : List Nat) (d : Nat) (v : Int) (vf : Value) (W : World), und l d < u → SInv l A c w0 K T F vf W → Path l first F d v → ValIn l first v → Tried l first T →
      Calls Tryd.prog 42 #[.agg #[.int .u64 (d : Int), .int .i64 v], .pointer (some ⟨K, 0, none⟩), .pointer (some ⟨K + 2, 0, none⟩), .pointer (some ⟨w0.heap.size, 0, none⟩), .pointer (some ⟨K + 3, 0, none⟩), .pointer (some ⟨K + 4, 0, none⟩)] W (TryPost l A c first w0 K T F d v vf W) := by
  obtain ⟨i0, hi, hz0, hz1, hz2⟩ := iparts infoI
  have HI := Lib.hid hi
  have HZ0 := Lib.hid hz0
  have HZ1 := Lib.hid hz1
  have HZ2 := Lib.hid hz2
  clear hi hz0 hz1 hz2
  intro u
  induction u with
  | zero => intro T F d v vf W hu; omega
  | succ u ih =>
    intro T F d v vf W hu hS hp hvi htr
    have HS0 := Lib.hid hS
    have hS1 := hS.more ((Up.refl W).alloc (.cells #[.int .u64 (d : Int), .int .i64 v] 71))
    have hb := heap_alloc_new W (.cells #[.int .u64 (d : Int), .int .i64 v] 71)
    have y0 : (W.alloc (.cells #[.int .u64 (d : Int), .int .i64 v] 71)).cell? ⟨W.heap.size, 0, none⟩ = some (.int .u64 (d : Int)) := cell_of_row _ _ 0 _ _ _ hb
    have y1 : (W.alloc (.cells #[.int .u64 (d : Int), .int .i64 v] 71)).cell? ⟨W.heap.size, 1, none⟩ = some (.int .i64 v) := cell_of_row _ _ 1 _ _ _ hb
    have zO := hS1.O.cell
    have zM := hS1.MB.cell
    have zL := hS1.L.cell
    have hov : overL l < top64 := overK_lt l _ (by omega)
    have hand := bits_andNot (overL l) d hov hp.went.lt
    have hld := left_diff (l := l) (by omega) d
    have HS1 := Lib.hid hS1
    have HP := Lib.hid hp
    have HB := Lib.hid hb
    have hdb : (((diffN (overL l) d : Nat) : Int) == 0) = !leftB l d := by
      rw [← hld]
      cases h : (diffN (overL l) d == 0)
      · rw [beq_eq_false_iff_ne] at h ⊢; omega
      · rw [beq_iff_eq] at h ⊢; omega
    have HOK : Hid (StOk (d, v)) := Lib.hid ⟨by
      have := hp.went.lt
      rw [top64_is] at this
      simp [Lit.wf, IntKind.min, IntKind.max, IntKind.signed, IntKind.bits]; omega, hv0 v hvi⟩
    have hKl := hS1.M.lt
    have hKY := hS1.Y.lt
    have hKN := hS1.nK
    clear hS1 hb hld hov hS
    cases hlf : leftB l d
    · rw [hlf, Bool.not_false] at hdb
      have HO := Lib.hid (tryOut_all (T := T) hp hlf)
      have HTR := Lib.hid htr
      clear hlf hp htr hvi ih hu
      go_enter Tryd.func42, Tryd.ntmps42
      go_wp2_with fail
      go_ret
      exact ⟨true, T, F, vf, rfl, HS1.out, HTR.out, KX.up ((Up.refl W).alloc _), .inl rfl, HO.out⟩
    · rw [hlf, Bool.not_true] at hdb
      obtain ⟨D, hM, hD⟩ := HS1.out.M
      have hDs := hD (d, v) HOK.out
      by_cases hin : (d, v) ∈ T
      · have HO := Lib.hid (tryOut_again (l := l) (first := first) (F := F) hin)
        rw [decide_eq_true hin] at hDs
        have HTR := Lib.hid htr
        have HM := Lib.hid hM
        have HD := Lib.hid hDs
        clear hlf hp htr hvi ih hu hM hD hDs hin
        go_enter Tryd.func42, Tryd.ntmps42
        go_wp2_with (at_lookup; refine wpList_lookup_own_unit _ rfl _ _ 68 rfl 71 72 stLaw Tryd.underlying68 (unitZero _) (K + 1) T.length D rfl HM.out _ _ rfl (klS_is HOK.out) ?_; rw [HD.out])
        go_ret
        exact ⟨false, T, F, vf, rfl, HS1.out.more ((Up.refl _).alloc _), HTR.out, KX.up (((Up.refl W).alloc _).alloc _), .inl rfl, HO.out⟩
      · rw [decide_eq_false hin] at hDs
        have HTR := Lib.hid (htr.note hp.went.small hvi hin)
        have HTL : Hid (T.length < maxLen) := Lib.hid (by have := htr.few hl; unfold maxLen; omega)
        have HM := Lib.hid hM
        have HDD := Lib.hid hD
        have HD := Lib.hid hDs
        have HLF := Lib.hid hlf
        have HV := Lib.hid hvi
        have HF := Lib.hid hf
        have HT0 := Lib.hid hT0
        have HR0 := Lib.hid hr0
        have HV0 := Lib.hid hv0
        have HS2 := Lib.hid (HS1.out.more ((Up.refl _).alloc (.cells #[] 72)))
        have HB2 := Lib.hid (((Up.refl (W.alloc (.cells #[.int .u64 (d : Int), .int .i64 v] 71))).alloc (.cells #[] 72)).block W.heap.size (by simp) |>.trans HB.out)
        have HIH := Lib.hid (fun T1 F1 i x vf1 W1 (hi : i ∈ nextL l d) => ih T1 F1 (withN d i) x vf1 W1 (by have := und_child hi; omega))
        have HMS := Lib.hid (Mid.start l T d v)
        have HNE := Lib.hid (fun W1 => onext_any l A c d W1 hp.went.lt (by omega) hf)
        have HAF := Lib.hid (fun o W1 => after_any o v W1)
        have HWI := Lib.hid (fun i W1 (hi : i ∈ nextL l d) => mwith_any d i W1 hp.went.lt (by have := (next_mem hi).1; omega))
        have HNN := Lib.hid (nextK_len l d l.length)
        have hl24 : (l.length : Int) ≤ 24 := by omega
        have HL24 := Lib.hid hl
        have zM2 : ((W.alloc (.cells #[.int .u64 (d : Int), .int .i64 v] 71)).alloc (.cells #[] 72)).cell? ⟨K + 2, 0, none⟩ = some (.map (some (K + 1))) := HS2.out.MB.cell
        have y02 : ((W.alloc (.cells #[.int .u64 (d : Int), .int .i64 v] 71)).alloc (.cells #[] 72)).cell? ⟨W.heap.size, 0, none⟩ = some (.int .u64 (d : Int)) := cell_of_row _ _ 0 _ _ _ HB2.out
        have y12 : ((W.alloc (.cells #[.int .u64 (d : Int), .int .i64 v] 71)).alloc (.cells #[] 72)).cell? ⟨W.heap.size, 1, none⟩ = some (.int .i64 v) := cell_of_row _ _ 1 _ _ _ HB2.out
        clear hlf hp htr hvi ih hu hM hD hDs hin hf hT0 hr0 hv0 hl
        go_enter Tryd.func42, Tryd.ntmps42
        go_wp2_with (first
          | (at_lookup; refine wpList_lookup_own_unit _ rfl _ _ 68 rfl 71 72 stLaw Tryd.underlying68 (unitZero _) (K + 1) T.length D rfl HM.out _ _ rfl (klS_is HOK.out) ?_; rw [HD.out])
          | (at_mapUpdate; refine wpList_mapUpdate_own _ rfl _ _ _ 68 rfl 71 72 stLaw Tryd.underlying68 unitElem (K + 1) T.length D rfl (HM.out.alloc _) HTL.out _ _ (klS (d, v)) rfl rfl (klS_is HOK.out) (.agg []) [] unitElem_mk ?_
             intro w2 hown2 hg2
             obtain ⟨hS3, hk3⟩ := SInv.note HS2.out (mapT_note HOK.out HM.out HDD.out hown2) hg2
             have hb3 := hk3.box HB2.out (fun hx => by
               have h1 := HS0.out.Y.lt
               rcases hx with e | e | e
               · omega
               · omega
               · have := (World.ownsRow.lt HS0.out.own _ e).2; omega)
             have y03 : w2.cell? ⟨W.heap.size, 0, none⟩ = some (.int .u64 (d : Int)) := cell_of_row _ _ 0 _ _ _ hb3
             have zL3 := hS3.L.cell
             have HS3 := Lib.hid hS3
             have HK3 := Lib.hid (KX.trans (KX.up (((Up.refl W).alloc (.cells #[.int .u64 (d : Int), .int .i64 v] 71)).alloc (.cells #[] 72))) hk3 (.inl rfl))
             have HB3 := Lib.hid hb3
             have HG0 := Lib.hid (show K + 5 ≤ W.heap.size by have := HS0.out.Y.lt; omega)
             clear hS3 hk3 hb3 hown2 hg2 y0 y1 zO zM zL zM2 y02 y12 hdb hand hKl hKY))
        refine (HNE.out _ (HR0.out.up HS3.out.up) (HT0.out.up HS3.out.up)).mono ?_
        rintro e w3 ⟨vn, rfl, ho3, hu3⟩
        obtain ⟨A3, c3, rfl, _⟩ := n_row ho3
        have HS4 := Lib.hid (HS3.out.more hu3)
        have HK4 := Lib.hid (KX.trans HK3.out (KX.up hu3 : KX (XK K vf) _ _) (.inl rfl))
        have HLC := Lib.hid (show Loc K W.heap.size d v w2.heap.size (.slice A3 (iL (nextL l d)).length c3) (nextL l d) vf w3 from by
          have h1 := HS0.out.own
          have h2 := HG0.out
          have h3 := HK3.out.size
          refine ⟨(hu3.block _ (Array.getElem?_eq_some_iff.1 HB3.out).1).trans HB3.out, ho3, h2, by omega, fun e => ?_, fun k hk e => ?_⟩
          · have := (World.ownsRow.lt h1 _ e).2; omega
          · have a1 := (World.ownsRow.lt ho3 k hk).1
            have a2 := (World.ownsRow.lt h1 k e).2
            omega)
        have HLN := Lib.hid (iL_len (nextL l d))
        have hnl : ((iL (nextL l d)).length : Int) ≤ 24 := by
          rw [iL_len]
          have h1 := HNN.out
          unfold nextL
          omega
        clear ho3 hu3 y03 zL3 HS1 HS2 HB HB2 HB3 HM HD HDD HK3 HOK HS3
        obtain ⟨g0, hg0⟩ : ∃ g0, W.heap.size = g0 := ⟨_, rfl⟩
        obtain ⟨Bn, hBn⟩ : ∃ Bn, w2.heap.size = Bn := ⟨_, rfl⟩
        rw [hg0] at HLC HG0 ⊢
        rw [hBn] at HLC
        clear hg0 hBn
        go_wp2_with fail
        go_loopw [35] (fun x wr => ∃ (j : Nat) (T1 : List St) (vf1 : Value), j ≤ (iL (nextL l d)).length ∧ x = .int .i64 j ∧ Hid (SInv l A c w0 K T1 F vf1 wr) ∧ Hid (Mid l T d v j T1) ∧ Hid (Tried l first T1) ∧ Hid (KX (XK K vf) W wr) ∧ Hid (Moved W vf.ownBlock vf1.ownBlock) ∧ Hid (Loc K g0 d v Bn (.slice A3 (iL (nextL l d)).length c3) (nextL l d) vf1 wr)) (fun x _ => (iL (nextL l d)).length - (intOf x).toNat)
        case atStart => exact ⟨0, T ++ [(d, v)], vf, by omega, rfl, HS4, HMS, HTR, HK4, Lib.hid (.inl rfl), HLC⟩
        case round =>
          obtain ⟨j, T1, vf1, hj, rfl, HSI, HMI, HTI, HKI, HMV, HLI⟩ := hrel
          by_cases hlt : j < (iL (nextL l d)).length
          · have hji : (j : Int) < ((iL (nextL l d)).length : Int) := by omega
            have hj0 : (0 : Int) ≤ j := by omega
            have HJ : Hid (j < (nextL l d).length) := Lib.hid (by rw [← HLN.out]; exact hlt)
            have HJ2 := Lib.hid hlt
            have HMEM : Hid ((nextL l d).getD j 0 ∈ nextL l d) := Lib.hid (by
              have := HJ.out
              rw [List.getD_eq_getElem?_getD, List.getElem?_eq_getElem this]; exact List.getElem_mem this)
            obtain ⟨g3, rfl, y3⟩ := n_cell HLI.out.n HJ.out
            have hil := (next_mem HMEM.out).1
            obtain ⟨bi, offi, rfl, p0, p1, p2, p3, p4⟩ := HR0.out.up HSI.out.up ((nextL l d).getD j 0) hil
            have zL := HSI.out.L.cell
            have hii : ((((nextL l d).getD j 0 : Nat)) : Int) < l.length := by omega
            have hi0 : (0 : Int) ≤ (((nextL l d).getD j 0 : Nat) : Int) := by omega
            have HAF1 := Lib.hid (fun W1 => HAF.out (l.getD ((nextL l d).getD j 0) op0) W1)
            have HSK := Lib.hid (fun (h : goB (l.getD ((nextL l d).getD j 0) op0) v = false) => HMI.out.skip h)
            have HTD := Lib.hid (fun T2 E2 (h2 : T2 = T1 ++ E2) hc hm => Mid.tried (E2 := E2) HMI.out h2 hc hm)
            have HPP := Lib.hid (fun (ht : tellsB (l.getD ((nextL l d).getD j 0) op0) v = true) => HP.out.pick (by have := HL24.out; omega) HMEM.out ht)
            have HVA := Lib.hid (HV.out.after hil)
            have HOC := Lib.hid (fun T2 F2 (ht : tellsB (l.getD ((nextL l d).getD j 0) op0) v = true) h => tryOut_child (l := l) (first := first) (T := T) (T1 := T1) (T2 := T2) (F := F) (F1 := F ++ [(nextL l d).getD j 0]) (F2 := F2) HMEM.out ht h)
            have HFL := Lib.hid (fun T2 (h : Mid l T d v (j + 1) T2) (hw : (l.getD ((nextL l d).getD j 0) op0).wr = false) hm => Mid.fail (first := first) (F := F) h HLF.out (.inr ⟨(nextL l d).getD j 0, HMEM.out, hw, hm⟩))
            have HCH : Hid (child l d v ((nextL l d).getD j 0) = (withN d ((nextL l d).getD j 0), afterV (l.getD ((nextL l d).getD j 0) op0) v)) := Lib.hid rfl
            generalize (nextL l d).getD j 0 = i at *
            have HGO : Hid (goB (l.getD i op0) v = goB (l.getD i op0) v) := Lib.hid rfl
            generalize hgo : goB (l.getD i op0) v = go at *
            generalize hte : tellsB (l.getD i op0) v = tb at *
            generalize afterV (l.getD i op0) v = x at *
            generalize l.getD i op0 = o at *
            obtain ⟨PF, PT, PW, PV, PH⟩ := o
            have HGB := Lib.hid hgo
            have HTE := Lib.hid hte
            unfold oagg at HAF1
            dsimp only at p0 p1 p2 p3 p4 HAF1 HFL
            have hbo := heap_alloc_new wr (.cells #[.int .i64 PF, .int .i64 PT, .bool PW, .int .i64 PV, .int .i64 PH] 28)
            have k0 : (wr.alloc (.cells #[.int .i64 PF, .int .i64 PT, .bool PW, .int .i64 PV, .int .i64 PH] 28)).cell? ⟨wr.heap.size, 0, none⟩ = some (.int .i64 PF) := cell_of_row _ _ 0 _ _ _ hbo
            have k1 : (wr.alloc (.cells #[.int .i64 PF, .int .i64 PT, .bool PW, .int .i64 PV, .int .i64 PH] 28)).cell? ⟨wr.heap.size, 1, none⟩ = some (.int .i64 PT) := cell_of_row _ _ 1 _ _ _ hbo
            have k2 : (wr.alloc (.cells #[.int .i64 PF, .int .i64 PT, .bool PW, .int .i64 PV, .int .i64 PH] 28)).cell? ⟨wr.heap.size, 2, none⟩ = some (.bool PW) := cell_of_row _ _ 2 _ _ _ hbo
            have k3 : (wr.alloc (.cells #[.int .i64 PF, .int .i64 PT, .bool PW, .int .i64 PV, .int .i64 PH] 28)).cell? ⟨wr.heap.size, 3, none⟩ = some (.int .i64 PV) := cell_of_row _ _ 3 _ _ _ hbo
            have k4 : (wr.alloc (.cells #[.int .i64 PF, .int .i64 PT, .bool PW, .int .i64 PV, .int .i64 PH] 28)).cell? ⟨wr.heap.size, 4, none⟩ = some (.int .i64 PH) := cell_of_row _ _ 4 _ _ _ hbo
            have HUP := Lib.hid ((Up.refl wr).alloc (.cells #[.int .i64 PF, .int .i64 PT, .bool PW, .int .i64 PV, .int .i64 PH] 28))
            have k5 : (wr.alloc (.cells #[.int .i64 PF, .int .i64 PT, .bool PW, .int .i64 PV, .int .i64 PH] 28)).cell? ⟨g0, 1, none⟩ = some (.int .i64 v) := (HLI.out.more HUP.out).cells.2
            have HPR := Lib.hid (show Priv K wr.heap.size (.cells #[.int .i64 PF, .int .i64 PT, .bool PW, .int .i64 PV, .int .i64 PH] 28) vf1 (wr.alloc (.cells #[.int .i64 PF, .int .i64 PT, .bool PW, .int .i64 PV, .int .i64 PH] 28)) from ⟨hbo, by have := HSI.out.Y.lt; omega, fun e => by have := (World.ownsRow.lt HSI.out.own _ e).2; omega⟩)
            have hg0s : g0 < wr.heap.size := (Array.getElem?_eq_some_iff.1 HLI.out.at0).1
            clear hbo hlt hil hgo hte
            go_wp2_with fail
            refine (HAF1.out _).mono ?_
            rintro e w5 ⟨rfl, hu5⟩
            have HUQ := Lib.hid (HUP.out.trans hu5)
            have HS6 := Lib.hid (HSI.out.more HUQ.out)
            have HL6 := Lib.hid (HLI.out.more HUQ.out)
            have HP6 := Lib.hid (HPR.out.more hu5)
            have HK6 := Lib.hid (KX.trans HKI.out (KX.up HUQ.out : KX (XK K vf1) _ _) HMV.out)
            clear hu5 k0 k1 k2 k3 k4 k5 p0 p1 p2 p3 p4 y3 zL hg0s HPR HUP HUQ
            obtain ⟨gb, hgb⟩ : ∃ gb, wr.heap.size = gb := ⟨_, rfl⟩
            rw [hgb] at HP6 ⊢
            clear hgb
            have q1 := cell_of_row _ _ 1 _ _ _ HP6.out.at0
            have q2 := cell_of_row _ _ 2 _ _ _ HP6.out.at0
            have q1 : w5.cell? ⟨gb, 1, none⟩ = some (.int .i64 PT) := q1
            have q2 : w5.cell? ⟨gb, 2, none⟩ = some (.bool PW) := q2
            cases PW
            · by_cases hpt : PT = -1
              · have hptb : (PT == -1) = true := by rw [hpt]; rfl
                obtain rfl : tb = true := by rw [← HTE.out]; unfold tellsB; dsimp only; rw [hptb]; rfl
                obtain rfl : go = false := by rw [← HGB.out]; unfold goB; dsimp only; rw [hpt]; rfl
                clear hpt
                go_wp2_with fail
                go_roundw
                case rel => exact ⟨j + 1, T1, vf1, HJ2.out, by go_num, HS6, Lib.hid (HSK.out (by first | rfl | trivial)), HTI, HK6, HMV, HL6⟩
                case measure => simp [intOf]; omega
              · have hptb : (PT == -1) = false := beq_eq_false_iff_ne.2 hpt
                have hptn : (PT != -1) = true := by rw [bne_iff_ne]; exact hpt
                cases hpv : (PV == v)
                · obtain rfl : tb = false := by rw [← HTE.out]; unfold tellsB; dsimp only; rw [hptb, hpv]; rfl
                  obtain rfl : go = false := by rw [← HGB.out]; unfold goB; dsimp only; rw [hpv]; simp
                  clear hpt hpv hptn
                  go_wp2_with fail
                  go_roundw
                  case rel => exact ⟨j + 1, T1, vf1, HJ2.out, by go_num, HS6, Lib.hid (HSK.out (by first | rfl | trivial)), HTI, HK6, HMV, HL6⟩
                  case measure => simp [intOf]; omega
                · obtain rfl : tb = true := by rw [← HTE.out]; unfold tellsB; dsimp only; rw [hpv]; simp
                  clear hpt hpv hptn
                  have HLB : Hid ((F.length + 1) * 8 ≤ 140737488355328) := Lib.hid (by have h1 := HP.out.went.len; have h2 := HL24.out; omega)
                  have HSZ : Hid (K + 5 ≤ w5.heap.size) := Lib.hid HS6.out.Y.lt
                  have HO6 := Lib.hid HS6.out.own
                  have zB := HS6.out.B.cell
                  go_wp2_with (at_builtin; refine wpList_push5 (news := [.int .i64 (i : Int)]) rfl (.tmp 62) (.tmp 64) 24 rfl (K + 5) i0 (.int .i64 0) 1 8 Tryd.underlying24 HI.out HZ0.out HZ1.out HZ2.out rfl (by decide) _ F.length (ncells F) rfl HO6.out rfl rfl (by simp [Value.oneCell']) (by decide) HLB.out HSZ.out ?_
                               intro g6 cap6 w6 hown6 hg6 hm6
                               obtain ⟨hS7, hk7, hb6⟩ := SInv.push (F' := F ++ [i]) HS6.out (push_own hown6) hg6
                               have hc6 := hb6.cell
                               have hf6 := hb6.frozen
                               have HS7 := Lib.hid hS7
                               have HK7 := Lib.hid hk7
                               have HM7 : Hid (Moved w5 vf1.ownBlock (Value.slice (some ⟨g6, 0, none⟩) (F.length + 1) cap6).ownBlock) := Lib.hid hm6
                               clear hS7 hk7 hb6 hown6 hg6 hm6)
                  have HL7 := Lib.hid (HL6.out.go HK7.out HM7.out)
                  have HP7 := Lib.hid (HP6.out.go HK7.out HM7.out)
                  have HK8 := Lib.hid (KX.trans HK6.out HK7.out HMV.out)
                  have HMV7 := Lib.hid (Moved.trans HMV.out (Moved.mono HM7.out HK6.out.size) (Nat.le_refl _))
                  generalize w6.setCell ⟨K + 3, 0, none⟩ (.slice (some ⟨g6, 0, none⟩) (F.length + 1) cap6) = w7 at *
                  clear q1 q2 hc6 hf6 zB hptb
                  have HUXK := Lib.hid (fun (W1 W2 : World) (u : Up W1 W2) => (KX.up u : KX (XK K (.slice (some ⟨g6, 0, none⟩) (F.length + 1) cap6)) W1 W2))
                  have hSS : w7.cell? ⟨K + 4, 0, none⟩ = some (.func (.func 42) #[] #[.pointer (some ⟨K, 0, none⟩), .pointer (some ⟨K + 2, 0, none⟩), .pointer (some ⟨w0.heap.size, 0, none⟩), .pointer (some ⟨K + 3, 0, none⟩), .pointer (some ⟨K + 4, 0, none⟩)]) ∧ w7.cell? ⟨g0, 0, none⟩ = some (.int .u64 (d : Int)) := ⟨HS7.out.Y.cell, HL7.out.cells.1⟩
                  refine wp_region_held_drew (S := fun w' => w'.cell? ⟨K + 4, 0, none⟩ = some (.func (.func 42) #[] #[.pointer (some ⟨K, 0, none⟩), .pointer (some ⟨K + 2, 0, none⟩), .pointer (some ⟨w0.heap.size, 0, none⟩), .pointer (some ⟨K + 3, 0, none⟩), .pointer (some ⟨K + 4, 0, none⟩)]) ∧ w'.cell? ⟨g0, 0, none⟩ = some (.int .u64 (d : Int))) (by kernel_rfl) hSS (fun hH0 => ?_)
                  clear hSS
                  refine wpAnyH_take (i := 0) (v := ?_) rfl (by kernel_rfl) (by kernel_rfl) (by kernel_rfl) (fun _ _ _ h => h) (Or.inl ⟨by kernel_rfl, ?_⟩) hH0 ?_
                  rotate_left
                  · intro w hSw
                    try dsimp only at hSw
                    go_simp
                    try (with_reducible rfl)
                  try simp only [Act.put, List.setIfInBounds_toArray, List.set_cons_zero, List.set_cons_succ]
                  refine wpAnyH_take (i := 1) (v := ?_) rfl (by kernel_rfl) (by kernel_rfl) (by kernel_rfl) (fun _ _ _ h => h) (Or.inl ⟨by kernel_rfl, ?_⟩) hH0 ?_
                  rotate_left
                  · intro w hSw
                    try dsimp only at hSw
                    go_simp
                    try (with_reducible rfl)
                  try simp only [Act.put, List.setIfInBounds_toArray, List.set_cons_zero, List.set_cons_succ]
                  refine wpAnyH_take (i := 2) (v := ?_) rfl (by kernel_rfl) (by kernel_rfl) (by kernel_rfl) (fun _ _ _ h => h) (Or.inl ⟨by kernel_rfl, ?_⟩) hH0 ?_
                  rotate_left
                  · intro w hSw
                    try dsimp only at hSw
                    go_simp
                    try (with_reducible rfl)
                  try simp only [Act.put, List.setIfInBounds_toArray, List.set_cons_zero, List.set_cons_succ]
                  refine wpAnyH_take (i := 3) (v := ?_) rfl (by kernel_rfl) (by kernel_rfl) (by kernel_rfl) (fun _ _ _ h => h) (Or.inl ⟨by kernel_rfl, ?_⟩) hH0 ?_
                  rotate_left
                  · intro w hSw
                    try dsimp only at hSw
                    go_simp
                    try (with_reducible rfl)
                  try simp only [Act.put, List.setIfInBounds_toArray, List.set_cons_zero, List.set_cons_succ]
                  refine wpAnyH_take (i := 5) (v := ?_) rfl (by kernel_rfl) (by kernel_rfl) (by kernel_rfl) (fun _ _ _ h => h) (Or.inl ⟨by kernel_rfl, ?_⟩) hH0 ?_
                  rotate_left
                  · intro w hSw
                    try dsimp only at hSw
                    go_simp
                    try (with_reducible rfl)
                  try simp only [Act.put, List.setIfInBounds_toArray, List.set_cons_zero, List.set_cons_succ]
                  refine wpAnyH_ready (rs := [4]) (by kernel_rfl) (by simp) ?_
                  refine AllReadyH.cons rfl (fun K hK => ?_) AllReadyH.nil
                  go_simp
                  refine (HWI.out i _ HMEM.out).mono ?_
                  rintro e wq ⟨rfl, rfl⟩
                  refine hK.out _ _ hH0 (fun hH1 => ?_)
                  clear hK K
                  try simp only [Act.put, List.setIfInBounds_toArray, List.set_cons_zero, List.set_cons_succ]
                  refine wpAnyH_take (i := 6) (v := ?_) rfl (by kernel_rfl) (by kernel_rfl) (by kernel_rfl) (fun _ _ _ h => h) (Or.inl ⟨by kernel_rfl, ?_⟩) hH1 ?_
                  rotate_left
                  · intro w hSw
                    try dsimp only at hSw
                    go_simp
                    try (with_reducible rfl)
                  try simp only [Act.put, List.setIfInBounds_toArray, List.set_cons_zero, List.set_cons_succ]
                  refine wpAnyH_ready (rs := [7]) (by kernel_rfl) (by simp) ?_
                  refine AllReadyH.cons rfl (fun K hK => ?_) AllReadyH.nil
                  go_simp
                  refine (HIH.out T1 (F ++ [i]) i x (.slice (some ⟨g6, 0, none⟩) (F.length + 1) cap6) _ HMEM.out (HS7.out.more (Up.refl _).drew) (HPP.out (by first | rfl | trivial)) HVA.out HTI.out).mono ?_
                  rintro e w8 ⟨ok, T2, F2, vf3, rfl, hS8, ht8, hk8, hm8, ho8⟩
                  have HS8 := Lib.hid hS8
                  have HT8 := Lib.hid ht8
                  have HX8 := Lib.hid (KX.trans (HUXK.out _ _ ((Up.refl w7).drew)) hk8 (.inl rfl))
                  have HM8 : Hid (Moved w7 (Value.slice (some ⟨g6, 0, none⟩) (F.length + 1) cap6).ownBlock vf3.ownBlock) := Lib.hid hm8
                  have HO8 := Lib.hid ho8
                  have HL8 := Lib.hid (HL7.out.go HX8.out HM8.out)
                  have HP8 := Lib.hid (HP7.out.go HX8.out HM8.out)
                  have HK9 := Lib.hid (KX.trans HK8.out HX8.out HMV7.out)
                  have HMV8 := Lib.hid (Moved.trans HMV7.out (Moved.mono HM8.out HK8.out.size) (Nat.le_refl _))
                  clear hS8 ht8 hk8 hm8 ho8
                  refine hK.out _ _ ⟨HS8.out.Y.cell, HL8.out.cells.1⟩ (fun hH2 => ?_)
                  clear hK K
                  try simp only [Act.put, List.setIfInBounds_toArray, List.set_cons_zero, List.set_cons_succ]
                  refine wpAnyH_done (by kernel_rfl) ?_ _
                  try simp only [Act.put, List.setIfInBounds_toArray, List.set_cons_zero, List.set_cons_succ, List.getElem_toArray, List.getElem_cons_succ, List.getElem_cons_zero]
                  clear hH0 hH1 hH2
                  cases ok
                  · obtain ⟨rfl, hmem, E2, hE2, hcl⟩ := HO8.out.2 rfl
                    obtain ⟨g4, cap4, rfl, hcap, hS9, hk9⟩ := SInv.cut HS8.out
                    have zB8 := HS8.out.B.cell
                    have zF8 := HS8.out.B.frozen
                    have HMD := Lib.hid (HTD.out T2 E2 hE2 hcl (by rw [HCH.out]; exact hmem))
                    have HCM : Hid (child l d v i ∈ T2) := Lib.hid (by rw [HCH.out]; exact hmem)
                    have HS9 := Lib.hid hS9
                    have HL9 := Lib.hid (HL8.out.go hk9 (vf' := .slice (some ⟨g4, 0, none⟩) F.length cap4) (.inl rfl))
                    have HP9 := Lib.hid (HP8.out.go hk9 (vf' := .slice (some ⟨g4, 0, none⟩) F.length cap4) (.inl rfl))
                    have HKA := Lib.hid (KX.trans HK9.out hk9 HMV8.out)
                    have HMV9 : Hid (Moved W vf.ownBlock (Value.slice (some ⟨g4, 0, none⟩) F.length cap4).ownBlock) := Lib.hid HMV8.out
                    have q9 : (w8.setCell ⟨K + 3, 0, none⟩ (.slice (some ⟨g4, 0, none⟩) F.length cap4)).cell? ⟨gb, 2, none⟩ = some (.bool false) := cell_of_row _ _ 2 _ _ _ HP9.out.at0
                    have hfn : ((F.length + 1 : Nat) : Int) - 1 = (F.length : Int) := by omega
                    have hfc : (F.length : Int) ≤ (cap4 : Int) := by omega
                    have hf0 : (0 : Int) ≤ (F.length : Int) := by omega
                    have hf9 : (F.length : Int) ≤ 24 := by have h1 := HP.out.went.len; have h2 := HL24.out; omega
                    clear hmem hE2 hcl hS9 hk9 hcap
                    go_wp2_with fail
                    go_ret
                    exact ⟨false, T2, F, _, rfl, HS9.out, HT8.out, HKA.out, HMV9.out, HFL.out T2 HMD.out (by first | rfl | trivial) HCM.out⟩
                  · have HO9 := Lib.hid (HOC.out T2 F2 (by first | rfl | trivial) HO8.out)
                    go_wp2_with fail
                    go_ret
                    exact ⟨true, T2, F2, vf3, rfl, HS8.out, HT8.out, HK9.out, HMV8.out, HO9.out⟩
            · obtain rfl : tb = true := by rw [← HTE.out]; rfl
              have HLB : Hid ((F.length + 1) * 8 ≤ 140737488355328) := Lib.hid (by have h1 := HP.out.went.len; have h2 := HL24.out; omega)
              have HSZ : Hid (K + 5 ≤ w5.heap.size) := Lib.hid HS6.out.Y.lt
              have HO6 := Lib.hid HS6.out.own
              have zB := HS6.out.B.cell
              go_wp2_with (at_builtin; refine wpList_push5 (news := [.int .i64 (i : Int)]) rfl (.tmp 62) (.tmp 64) 24 rfl (K + 5) i0 (.int .i64 0) 1 8 Tryd.underlying24 HI.out HZ0.out HZ1.out HZ2.out rfl (by decide) _ F.length (ncells F) rfl HO6.out rfl rfl (by simp [Value.oneCell']) (by decide) HLB.out HSZ.out ?_
                           intro g6 cap6 w6 hown6 hg6 hm6
                           obtain ⟨hS7, hk7, hb6⟩ := SInv.push (F' := F ++ [i]) HS6.out (push_own hown6) hg6
                           have hc6 := hb6.cell
                           have hf6 := hb6.frozen
                           have HS7 := Lib.hid hS7
                           have HK7 := Lib.hid hk7
                           have HM7 : Hid (Moved w5 vf1.ownBlock (Value.slice (some ⟨g6, 0, none⟩) (F.length + 1) cap6).ownBlock) := Lib.hid hm6
                           clear hS7 hk7 hb6 hown6 hg6 hm6)
              have HL7 := Lib.hid (HL6.out.go HK7.out HM7.out)
              have HP7 := Lib.hid (HP6.out.go HK7.out HM7.out)
              have HK8 := Lib.hid (KX.trans HK6.out HK7.out HMV.out)
              have HMV7 := Lib.hid (Moved.trans HMV.out (Moved.mono HM7.out HK6.out.size) (Nat.le_refl _))
              generalize w6.setCell ⟨K + 3, 0, none⟩ (.slice (some ⟨g6, 0, none⟩) (F.length + 1) cap6) = w7 at *
              clear q1 q2 hc6 hf6 zB
              have HUXK := Lib.hid (fun (W1 W2 : World) (u : Up W1 W2) => (KX.up u : KX (XK K (.slice (some ⟨g6, 0, none⟩) (F.length + 1) cap6)) W1 W2))
              have hSS : w7.cell? ⟨K + 4, 0, none⟩ = some (.func (.func 42) #[] #[.pointer (some ⟨K, 0, none⟩), .pointer (some ⟨K + 2, 0, none⟩), .pointer (some ⟨w0.heap.size, 0, none⟩), .pointer (some ⟨K + 3, 0, none⟩), .pointer (some ⟨K + 4, 0, none⟩)]) ∧ w7.cell? ⟨g0, 0, none⟩ = some (.int .u64 (d : Int)) := ⟨HS7.out.Y.cell, HL7.out.cells.1⟩
              refine wp_region_held_drew (S := fun w' => w'.cell? ⟨K + 4, 0, none⟩ = some (.func (.func 42) #[] #[.pointer (some ⟨K, 0, none⟩), .pointer (some ⟨K + 2, 0, none⟩), .pointer (some ⟨w0.heap.size, 0, none⟩), .pointer (some ⟨K + 3, 0, none⟩), .pointer (some ⟨K + 4, 0, none⟩)]) ∧ w'.cell? ⟨g0, 0, none⟩ = some (.int .u64 (d : Int))) (by kernel_rfl) hSS (fun hH0 => ?_)
              clear hSS
              refine wpAnyH_take (i := 0) (v := ?_) rfl (by kernel_rfl) (by kernel_rfl) (by kernel_rfl) (fun _ _ _ h => h) (Or.inl ⟨by kernel_rfl, ?_⟩) hH0 ?_
              rotate_left
              · intro w hSw
                try dsimp only at hSw
                go_simp
                try (with_reducible rfl)
              try simp only [Act.put, List.setIfInBounds_toArray, List.set_cons_zero, List.set_cons_succ]
              refine wpAnyH_take (i := 1) (v := ?_) rfl (by kernel_rfl) (by kernel_rfl) (by kernel_rfl) (fun _ _ _ h => h) (Or.inl ⟨by kernel_rfl, ?_⟩) hH0 ?_
              rotate_left
              · intro w hSw
                try dsimp only at hSw
                go_simp
                try (with_reducible rfl)
              try simp only [Act.put, List.setIfInBounds_toArray, List.set_cons_zero, List.set_cons_succ]
              refine wpAnyH_take (i := 2) (v := ?_) rfl (by kernel_rfl) (by kernel_rfl) (by kernel_rfl) (fun _ _ _ h => h) (Or.inl ⟨by kernel_rfl, ?_⟩) hH0 ?_
              rotate_left
              · intro w hSw
                try dsimp only at hSw
                go_simp
                try (with_reducible rfl)
              try simp only [Act.put, List.setIfInBounds_toArray, List.set_cons_zero, List.set_cons_succ]
              refine wpAnyH_take (i := 3) (v := ?_) rfl (by kernel_rfl) (by kernel_rfl) (by kernel_rfl) (fun _ _ _ h => h) (Or.inl ⟨by kernel_rfl, ?_⟩) hH0 ?_
              rotate_left
              · intro w hSw
                try dsimp only at hSw
                go_simp
                try (with_reducible rfl)
              try simp only [Act.put, List.setIfInBounds_toArray, List.set_cons_zero, List.set_cons_succ]
              refine wpAnyH_take (i := 5) (v := ?_) rfl (by kernel_rfl) (by kernel_rfl) (by kernel_rfl) (fun _ _ _ h => h) (Or.inl ⟨by kernel_rfl, ?_⟩) hH0 ?_
              rotate_left
              · intro w hSw
                try dsimp only at hSw
                go_simp
                try (with_reducible rfl)
              try simp only [Act.put, List.setIfInBounds_toArray, List.set_cons_zero, List.set_cons_succ]
              refine wpAnyH_ready (rs := [4]) (by kernel_rfl) (by simp) ?_
              refine AllReadyH.cons rfl (fun K hK => ?_) AllReadyH.nil
              go_simp
              refine (HWI.out i _ HMEM.out).mono ?_
              rintro e wq ⟨rfl, rfl⟩
              refine hK.out _ _ hH0 (fun hH1 => ?_)
              clear hK K
              try simp only [Act.put, List.setIfInBounds_toArray, List.set_cons_zero, List.set_cons_succ]
              refine wpAnyH_take (i := 6) (v := ?_) rfl (by kernel_rfl) (by kernel_rfl) (by kernel_rfl) (fun _ _ _ h => h) (Or.inl ⟨by kernel_rfl, ?_⟩) hH1 ?_
              rotate_left
              · intro w hSw
                try dsimp only at hSw
                go_simp
                try (with_reducible rfl)
              try simp only [Act.put, List.setIfInBounds_toArray, List.set_cons_zero, List.set_cons_succ]
              refine wpAnyH_ready (rs := [7]) (by kernel_rfl) (by simp) ?_
              refine AllReadyH.cons rfl (fun K hK => ?_) AllReadyH.nil
              go_simp
              refine (HIH.out T1 (F ++ [i]) i x (.slice (some ⟨g6, 0, none⟩) (F.length + 1) cap6) _ HMEM.out (HS7.out.more (Up.refl _).drew) (HPP.out (by first | rfl | trivial)) HVA.out HTI.out).mono ?_
              rintro e w8 ⟨ok, T2, F2, vf3, rfl, hS8, ht8, hk8, hm8, ho8⟩
              have HS8 := Lib.hid hS8
              have HT8 := Lib.hid ht8
              have HX8 := Lib.hid (KX.trans (HUXK.out _ _ ((Up.refl w7).drew)) hk8 (.inl rfl))
              have HM8 : Hid (Moved w7 (Value.slice (some ⟨g6, 0, none⟩) (F.length + 1) cap6).ownBlock vf3.ownBlock) := Lib.hid hm8
              have HO8 := Lib.hid ho8
              have HL8 := Lib.hid (HL7.out.go HX8.out HM8.out)
              have HP8 := Lib.hid (HP7.out.go HX8.out HM8.out)
              have HK9 := Lib.hid (KX.trans HK8.out HX8.out HMV7.out)
              have HMV8 := Lib.hid (Moved.trans HMV7.out (Moved.mono HM8.out HK8.out.size) (Nat.le_refl _))
              clear hS8 ht8 hk8 hm8 ho8
              refine hK.out _ _ ⟨HS8.out.Y.cell, HL8.out.cells.1⟩ (fun hH2 => ?_)
              clear hK K
              try simp only [Act.put, List.setIfInBounds_toArray, List.set_cons_zero, List.set_cons_succ]
              refine wpAnyH_done (by kernel_rfl) ?_ _
              try simp only [Act.put, List.setIfInBounds_toArray, List.set_cons_zero, List.set_cons_succ, List.getElem_toArray, List.getElem_cons_succ, List.getElem_cons_zero]
              clear hH0 hH1 hH2
              cases ok
              · obtain ⟨rfl, hmem, E2, hE2, hcl⟩ := HO8.out.2 rfl
                obtain ⟨g4, cap4, rfl, hcap, hS9, hk9⟩ := SInv.cut HS8.out
                have zB8 := HS8.out.B.cell
                have zF8 := HS8.out.B.frozen
                have HMD := Lib.hid (HTD.out T2 E2 hE2 hcl (by rw [HCH.out]; exact hmem))
                have HCM : Hid (child l d v i ∈ T2) := Lib.hid (by rw [HCH.out]; exact hmem)
                have HS9 := Lib.hid hS9
                have HL9 := Lib.hid (HL8.out.go hk9 (vf' := .slice (some ⟨g4, 0, none⟩) F.length cap4) (.inl rfl))
                have HP9 := Lib.hid (HP8.out.go hk9 (vf' := .slice (some ⟨g4, 0, none⟩) F.length cap4) (.inl rfl))
                have HKA := Lib.hid (KX.trans HK9.out hk9 HMV8.out)
                have HMV9 : Hid (Moved W vf.ownBlock (Value.slice (some ⟨g4, 0, none⟩) F.length cap4).ownBlock) := Lib.hid HMV8.out
                have q9 : (w8.setCell ⟨K + 3, 0, none⟩ (.slice (some ⟨g4, 0, none⟩) F.length cap4)).cell? ⟨gb, 2, none⟩ = some (.bool true) := cell_of_row _ _ 2 _ _ _ HP9.out.at0
                have hfn : ((F.length + 1 : Nat) : Int) - 1 = (F.length : Int) := by omega
                have hfc : (F.length : Int) ≤ (cap4 : Int) := by omega
                have hf0 : (0 : Int) ≤ (F.length : Int) := by omega
                have hf9 : (F.length : Int) ≤ 24 := by have h1 := HP.out.went.len; have h2 := HL24.out; omega
                clear hmem hE2 hcl hS9 hk9 hcap
                go_wp2_with fail
                go_roundw
                case rel => exact ⟨j + 1, T2, _, HJ2.out, by go_num, HS9, HMD, HT8, HKA, HMV9, HL9⟩
                case measure => simp [intOf]; omega
              · have HO9 := Lib.hid (HOC.out T2 F2 (by first | rfl | trivial) HO8.out)
                go_wp2_with fail
                go_ret
                exact ⟨true, T2, F2, vf3, rfl, HS8.out, HT8.out, HK9.out, HMV8.out, HO9.out⟩
          · obtain rfl : j = (iL (nextL l d)).length := by omega
            have HO := Lib.hid (HMI.out.fail (first := first) (F := F) HLF.out (.inl (by rw [HLN.out]; exact Nat.le_refl _)))
            clear hlt hj
            go_wp2_with fail
            go_ret
            exact ⟨false, T1, F, vf1, rfl, HSI.out, HTI.out, HKI.out, HMV.out, HO.out⟩

end Go.Proofs.YtpefcbmmbpcalaaDoor
