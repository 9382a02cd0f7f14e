/-
  The document's has: a search that notes where it has been.
-/
import Derived.Test.YtpefcbmmbpcalaaDoorHasI
set_option linter.unusedVariables false
set_option linter.unusedSimpArgs false
namespace Go.Proofs.YtpefcbmmbpcalaaDoor
open Go.RowKit

theorem capS_le {i u : Nat} (h : i ≤ u) : 1 + i * capS (u - 1) ≤ capS u := by
  cases u with
  | zero => have : i = 0 := by omega
            subst this; simp [capS]
  | succ u =>
    show 1 + i * capS u ≤ 1 + (u + 1) * capS u
    exact Nat.add_le_add_left (Nat.mul_le_mul_right _ h) 1
theorem capS_step {i u : Nat} (h : i < u) : 1 + i * capS (u - 1) + capS (u - 1) ≤ capS u := by
  have := capS_le (show i + 1 ≤ u from h)
  rw [Nat.succ_mul] at this
  omega
theorem OpRow.base {w0 w : World} {A : Option Addr} {l : List OpD} {B : Nat} (h : OpRow w0 A l) (hB : w0.heap.size ≤ B) (u : Below B w0 w) : OpRow w A l := h.up (u.mono hB)

def HasPost (l : List OpD) (d : Nat) (v : Int) (T : List St) (B u : Nat) (w : World) (tv : Value) (e : Ending) (w' : World) : Prop :=
  ∃ ok tv' T', e = .returned (.tuple #[.bool ok, tv']) ∧ HasOut l d v T ok T' ∧ OwnSt w' B tv' T' ∧ w.grownBy w' tv.ownBlock ∧ Moved w tv.ownBlock tv'.ownBlock ∧ T'.length ≤ T.length + capS u
theorem hasPost {l : List OpD} {d : Nat} {v : Int} {T : List St} {B u : Nat} {w : World} {tv : Value} {e : Ending} {w' : World} (ok : Bool) (tv' : Value) (T' : List St) (h : e = .returned (.tuple #[.bool ok, tv']))
    (h1 : HasOut l d v T ok T' ∧ OwnSt w' B tv' T' ∧ w.grownBy w' tv.ownBlock ∧ Moved w tv.ownBlock tv'.ownBlock ∧ T'.length ≤ T.length + capS u) : HasPost l d v T B u w tv e w' := ⟨ok, tv', T', h, h1⟩

theorem HInv.after {l : List OpD} {d : Nat} {v : Int} {T T' : List St} {tv x vn : Value} {w wb w2 : World} {B i p : Nat} {e : Ending} (h : HInv l d v T tv w B vn i x T' wb) (hi : i < (nextL l d).length) (hp : (nextL l d).getD i 0 = p) {m : Nat} (hm : und l (withN d p) = m)
    (ht : tellsB (l.getD p op0) v = true) (post : HasPost l (withN d p) (afterV (l.getD p op0) v) T' B m wb x e w2) :
    ∃ ok x2 T2, e = .returned (.tuple #[.bool ok, x2]) ∧ (ok = true → HasOut l d v T true T2 ∧ OwnSt w2 B x2 T2 ∧ w.grownBy w2 tv.ownBlock ∧ Moved w tv.ownBlock x2.ownBlock ∧ T2.length ≤ T.length + capS (und l d)) ∧ (ok = false → HInv l d v T tv w B vn (i + 1) x2 T2 w2) := by
  obtain ⟨ok, x2, T2, he, hh, ho, hg, hmv, hl⟩ := post
  have hmem : p ∈ nextL l d := by rw [← hp, List.getD_eq_getElem?_getD, List.getElem?_eq_getElem hi]; exact List.getElem_mem hi
  have hu := und_child hmem
  have hm1 : m = und l d - 1 := by omega
  subst hm
  refine ⟨ok, x2, T2, he, fun hok => ?_, fun hok => ?_⟩
  · subst hok
    refine ⟨⟨fun _ => .pick d v p hmem ht (hh.1 rfl), fun e => by cases e⟩, ho, grown_trans h.gr hg h.blk, h.blk.trans hmv h.gr.size, ?_⟩
    have h1 := h.len
    have h2 := capS_step (Nat.lt_of_lt_of_le hi (next_und l d))
    rw [hm1] at hl
    omega
  · subst hok
    refine h.told ho hg hmv ?_ (by rw [← hm1]; exact hl)
    rw [hp]
    exact hh

set_option maxRecDepth 10000 in
set_option maxHeartbeats 4000000 in
theorem has_any (l : List OpD) (A : Option Addr) (c : Nat) (w0 : World) (B : Nat) (hB : w0.heap.size ≤ B) (hL : l.length ≤ 64) (hr : OpRow w0 A l) (u : Nat) :
    ∀ (d : Nat) (v : Int) (tv : Value) (T : List St) (w : World), und l d = u → d < top64 → Below B w0 w → B ≤ w.heap.size → OwnSt w B tv T → T.length + capS u ≤ 1000000000 →
      Calls Tryd.prog 37 #[.slice A l.length c, .int .u64 d, .int .i64 v, tv] w fun e w' => HasPost l d v T B u w tv e w' := by
  induction u using Nat.strongRecOn with
  | _ u ih =>
  intro d v tv T w hu hd hw hBw hT hcap
  obtain ⟨i0, hi, hz0, hz1, hz2⟩ := iparts infoSt
  have HI := Lib.hid hi
  have HZ0 := Lib.hid hz0
  have HZ1 := Lib.hid hz1
  have HZ2 := Lib.hid hz2
  have HIH := Lib.hid ih
  have HR := Lib.hid (fun W (b : Below B w0 W) => hr.base hB b)
  have HU0 := Lib.hid hu
  have HD := Lib.hid hd
  have HW := Lib.hid hw
  have HBW := Lib.hid hBw
  have HT := Lib.hid hT
  have HCAP := Lib.hid hcap
  have hl2 : (l.length : Int) ≤ 64 := by omega
  have HLS := Lib.hid (fun k => leftK_succ l d k)
  have HL64 := Lib.hid hL
  have HC := Lib.hid (fun i W (h : i < l.length) => rhas_any d i W hd (by omega))
  have HLB : Hid (leftB l d = leftK l d l.length) := Lib.hid rfl
  have HLO : Hid (leftB l d = false → HasOut l d v T true T) := Lib.hid (fun h => ⟨fun _ => .all d v h, fun e => by cases e⟩)
  have HGR := Lib.hid (World.grownBy.refl w tv.ownBlock)
  obtain ⟨TA, tcc, rfl, htc⟩ := st_cells hT
  have HTC := Lib.hid htc
  have htl : (T.length : Int) ≤ 1000000000 := by omega
  clear hi hz0 hz1 hz2 ih hr hu hd hw hT hcap hB hL hBw htc
  have HRW := Lib.hid (HR.out w HW.out)
  go_enter Tryd.func37, Tryd.ntmps37
  go_wp2_with fail
  go_loop [10, 11] (fun x y => ∃ k : Nat, k ≤ l.length ∧ y = .int .i64 k ∧ x = .bool (leftK l d k)) (fun _ y => l.length - (intOf y).toNat)
  case atStart => exact ⟨0, by omega, rfl, rfl⟩
  case round =>
    obtain ⟨k, hk, rfl, rfl⟩ := hrel
    by_cases hlk : k < l.length
    · have hki : (k : Int) < l.length := by omega
      have hk0 : (0 : Int) ≤ k := by omega
      have HS := Lib.hid (HLS.out k)
      have HC2 := Lib.hid (HC.out k w hlk)
      obtain ⟨bk, offk, rfl, k0, k1, k2, k3, k4⟩ := HRW.out k hlk
      generalize hm2 : leftK l d (k + 1) = m2 at *
      have HM2 := Lib.hid hm2
      clear hm2
      generalize leftK l d k = m at *
      generalize l.getD k op0 = q at *
      generalize hasB d k = hb at *
      obtain ⟨QF, QT, QW, QV, QH⟩ := q
      dsimp only at HS k0 k1 k2 k3 k4
      cases m
      · cases hqt : (QT != -1)
        · have HN : Hid (m2 = false) := Lib.hid (by rw [HS.out, hqt]; rfl)
          clear HS k0 k2 k3 k4
          go_wp2_with fail
          go_round
          case rel => exact ⟨k + 1, by omega, by go_num, by rw [HM2.out, HN.out]⟩
          case measure => simp [intOf]; omega
        · have HN : Hid (m2 = !hb) := Lib.hid (by rw [HS.out, hqt]; rfl)
          clear HS k0 k2 k3 k4
          go_wp2_with fail
          refine HC2.out.mono ?_
          rintro _ _ ⟨rfl, rfl⟩
          go_wp2_with fail
          go_round
          case rel => exact ⟨k + 1, by omega, by go_num, by rw [HM2.out, HN.out]⟩
          case measure => simp [intOf]; omega
      · have HN : Hid (m2 = true) := Lib.hid (by rw [HS.out]; rfl)
        clear HS k0 k1 k2 k3 k4
        go_wp2_with fail
        go_round
        case rel => exact ⟨k + 1, by omega, by go_num, by rw [HM2.out, HN.out]⟩
        case measure => simp [intOf]; omega
    · obtain rfl : k = l.length := by omega
      clear hlk
      rw [← HLB.out]
      cases hlb : leftB l d
      · have HO := Lib.hid (HLO.out hlb)
        clear hlb
        go_wp2_with fail
        go_ret2
        exact hasPost _ _ T rfl ⟨HO.out, HT.out, HGR.out, .inl rfl, Nat.le_add_right _ _⟩
      · have HLT := Lib.hid hlb
        clear hlb HLO HLS
        go_wp2_with fail
        go_loop [12] (fun y => ∃ j : Nat, j ≤ T.length ∧ y = .int .i64 j) (fun y => T.length - (intOf y).toNat)
        case atStart => exact ⟨0, by omega, rfl⟩
        case round =>
          obtain ⟨j, hj, rfl⟩ := hrel
          by_cases hlj : j < T.length
          · have hji : (j : Int) < T.length := by omega
            have hj0 : (0 : Int) ≤ j := by omega
            obtain ⟨g, rfl, t0, t1⟩ := HTC.out j hlj
            have HMEM : Hid (T.getD j st0 = (d, v) → (d, v) ∈ T) := Lib.hid (fun e => by rw [← e, List.getD_eq_getElem?_getD, List.getElem?_eq_getElem hlj]; exact List.getElem_mem hlj)
            generalize T.getD j st0 = s at *
            obtain ⟨sd, sv⟩ := s
            dsimp only at t0 t1
            by_cases h1 : sd = d
            · subst h1
              by_cases h2 : sv = v
              · subst h2
                have HM3 := Lib.hid (HMEM.out rfl)
                clear HMEM
                go_wp2_with fail
                go_ret2
                exact hasPost false _ T rfl ⟨⟨(fun e => by cases e), fun _ => ⟨HM3.out, [], by simp, fun s hs => by cases hs⟩⟩, HT.out, HGR.out, .inl rfl, Nat.le_add_right _ _⟩
              · have h2b : (sv == v) = false := beq_eq_false_iff_ne.2 h2
                clear h2 HMEM
                go_wp2_with fail
                go_round
                case rel => exact ⟨j + 1, by omega, by go_num⟩
                case measure => simp [intOf]; omega
            · have h1b : ((sd : Int) == (d : Int)) = false := beq_eq_false_iff_ne.2 (by omega)
              clear h1 HMEM
              go_wp2_with fail
              go_round
              case rel => exact ⟨j + 1, by omega, by go_num⟩
              case measure => simp [intOf]; omega
          · obtain rfl : j = T.length := by omega
            clear hlj
            have HLB2 : Hid ((T.length + 1) * 16 ≤ 140737488355328) := Lib.hid (by omega)
            go_wp2_with (at_builtin; refine wpList_push4 (news := [.int .u64 d, .int .i64 v]) rfl (.tmp 66) (.tmp 70) 62 rfl B i0 (.agg #[.int .u64 0, .int .i64 0]) 2 16 Tryd.underlying62 HI.out HZ0.out HZ1.out HZ2.out rfl (by decide) _ T.length (scells T) rfl HT.out rfl rfl (by simp [Value.oneCell']) (by decide) HLB2.out HBW.out ?_; intro x1 w1 hown1 hg1 hm1)
            have HO1 : Hid (OwnSt w1 B x1 (T ++ [(d, v)])) := Lib.hid (by
              unfold OwnSt
              rw [List.length_append, scells_append]
              exact hown1)
            have HG1 : Hid (w.grownBy w1 (Value.slice TA T.length tcc).ownBlock) := Lib.hid hg1
            have HM1 : Hid (Moved w (Value.slice TA T.length tcc).ownBlock x1.ownBlock) := Lib.hid hm1
            have HW1 := Lib.hid (HW.out.grown hg1 HBW.out (fun k hk => (HT.out.lt k hk).1))
            clear hown1 hg1 hm1
            have HNX := Lib.hid (next_any l A c d w1 HL64.out HD.out (HR.out w1 HW1.out))
            go_wp2_with fail
            refine HNX.out.mono ?_
            rintro _ w2 ⟨vn, rfl, hon, hu2⟩
            have HINV := Lib.hid (HInv.start (by simp) HO1.out HG1.out HM1.out hu2 hon)
            have HBW2 := Lib.hid (Nat.le_trans HBW.out (Nat.le_trans HG1.out.size hu2.size))
            clear hu2
            obtain ⟨NA, ncc, rfl, _⟩ := n_cells hon
            have HNL := Lib.hid (next_und l d)
            clear hon
            go_wp2_with fail
            go_loopw [3, 14] (fun x y wr => ∃ i : Nat, ∃ T' : List St, i ≤ (nextL l d).length ∧ y = .int .i64 i ∧ Hid (HInv l d v T (.slice TA T.length tcc) w B (.slice NA (nextL l d).length ncc) i x T' wr)) (fun _ y _ => (nextL l d).length - (intOf y).toNat)
            case atStart => exact ⟨0, _, by omega, rfl, HINV⟩
            case round =>
              obtain ⟨i, T', hi, rfl, HV⟩ := hrel
              by_cases hli : i < (nextL l d).length
              · have hii : (i : Int) < (nextL l d).length := by omega
                have hn64 : ((nextL l d).length : Int) ≤ 64 := by have h1 : (nextL l d).length ≤ l.length := nextK_len l d l.length; omega
                have hi0 : (0 : Int) ≤ i := by omega
                have HWR := Lib.hid (HW.out.grown HV.out.gr HBW.out (fun k hk => (HT.out.lt k hk).1))
                obtain ⟨NA', ncc', heq, hnc⟩ := n_cells HV.out.nx
                injection heq with hq1 hq2 hq3
                subst hq1 hq3
                obtain ⟨ng, rfl, hn0⟩ := hnc i hli
                have HMEM : Hid ((nextL l d).getD i 0 ∈ nextL l d) := Lib.hid (by rw [List.getD_eq_getElem?_getD, List.getElem?_eq_getElem hli]; exact List.getElem_mem hli)
                have hpl := (next_mem HMEM.out).1
                obtain ⟨bk, offk, rfl, k0, k1, k2, k3, k4⟩ := HR.out wr HWR.out _ hpl
                have HSK := Lib.hid (fun h => HV.out.skip h)
                generalize hp : (nextL l d).getD i 0 = p at *
                have HP := Lib.hid hp
                have hpi : (p : Int) < l.length := by omega
                have hp0 : (0 : Int) ≤ p := by omega
                clear hp hpl hnc hq2 HINV HNX HG1 HM1 HO1 HW1
                have HPO : Hid (∃ F T Wr V Th, l.getD p op0 = ⟨F, T, Wr, V, Th⟩) := Lib.hid ⟨_, _, _, _, _, rfl⟩
                obtain ⟨QF, QT, QW, QV, QH, hQ⟩ := HPO.out
                rw [hQ] at k0 k1 k2 k3 k4
                dsimp only at k0 k1 k2 k3 k4
                have HQ := Lib.hid hQ
                clear hQ HPO
                have HU1 := Lib.hid ((Up.refl wr).alloc (.cells #[.int .i64 QF, .int .i64 QT, .bool QW, .int .i64 QV, .int .i64 QH] 28))
                have HB1 := Lib.hid (heap_alloc_new wr (.cells #[.int .i64 QF, .int .i64 QT, .bool QW, .int .i64 QV, .int .i64 QH] 28))
                have HV1 := Lib.hid (HV.out.up HU1.out)
                have hng := cell_lt hn0
                have HWI := Lib.hid (rwith_any d p (wr.alloc (.cells #[.int .i64 QF, .int .i64 QT, .bool QW, .int .i64 QV, .int .i64 QH] 28)) HD.out (by omega))
                have HWL := Lib.hid (withN_lt HD.out (show p < 64 by omega))
                have HUC := Lib.hid (und_child HMEM.out)
                have HCALL := Lib.hid (fun a (_ : afterV (l.getD p op0) v = a) => HIH.out (und l (withN d p)) (by have := HUC.out; have := HU0.out; omega) (withN d p) a u3 T' (wr.alloc (.cells #[.int .i64 QF, .int .i64 QT, .bool QW, .int .i64 QV, .int .i64 QH] 28)) rfl HWL.out (HW.out.grown HV1.out.gr HBW.out (fun k hk => (HT.out.lt k hk).1)) (Nat.le_trans HBW.out HV1.out.gr.size) HV1.out.own (by
                  have h1 := HV1.out.len
                  have h2 := capS_step (Nat.lt_of_lt_of_le hli HNL.out)
                  have h3 := HUC.out
                  have h4 := HU0.out
                  have h5 := HCAP.out
                  have h6 : und l (withN d p) = und l d - 1 := by omega
                  rw [← h4] at h5
                  rw [h6]
                  omega))
                clear HIH
                cases QW
                · by_cases hqt : QT = -1
                  · subst hqt
                    have HTL : Hid (tellsB (l.getD p op0) v = true) := Lib.hid (by rw [HQ.out]; rfl)
                    have HAV : Hid (afterV (l.getD p op0) v = v) := Lib.hid (by rw [HQ.out]; rfl)
                    have HCL := Lib.hid (HCALL.out v HAV.out)
                    have HAF := Lib.hid (fun e w3 (hpost : HasPost l (withN d p) v T' B (und l (withN d p)) _ _ e w3) => HV1.out.after hli HP.out rfl HTL.out (by rw [HAV.out]; exact hpost))
                    clear HCALL
                    go_wp2_with fail
                    refine HWI.out.mono ?_
                    rintro _ wy ⟨rfl, hwy⟩
                    cases hwy
                    go_wp2_with fail
                    refine HCL.out.mono ?_
                    rintro _ w3 hpost
                    obtain ⟨ok, x2, T2, rfl, hyes, hno⟩ := HAF.out _ w3 hpost
                    clear hpost
                    have HYES := Lib.hid hyes
                    have HNO := Lib.hid hno
                    clear hyes hno hn0 hng k0 k1 k2 k3 k4
                    cases ok
                    · have HNO2 := Lib.hid (HNO.out rfl)
                      go_wp2_with fail
                      go_roundw
                      case rel => exact ⟨i + 1, T2, by omega, by go_num, HNO2⟩
                      case measure => simp [intOf]; omega
                    · have HY2 := Lib.hid (HYES.out rfl)
                      rw [HU0.out] at HY2
                      go_wp2_with fail
                      go_ret2
                      exact hasPost true _ T2 rfl HY2.out
                  · have hqb : (QT == -1) = false := beq_eq_false_iff_ne.2 hqt
                    by_cases hqv : QV = v
                    · subst hqv
                      clear hqt
                      have HTL : Hid (tellsB (l.getD p op0) QV = true) := Lib.hid (by rw [HQ.out]; simp [tellsB])
                      have HAV : Hid (afterV (l.getD p op0) QV = QV) := Lib.hid (by rw [HQ.out]; rfl)
                      have HCL := Lib.hid (HCALL.out QV HAV.out)
                      have HAF := Lib.hid (fun e w3 (hpost : HasPost l (withN d p) QV T' B (und l (withN d p)) _ _ e w3) => HV1.out.after hli HP.out rfl HTL.out (by rw [HAV.out]; exact hpost))
                      clear HCALL
                      go_wp2_with fail
                      refine HWI.out.mono ?_
                      rintro _ wy ⟨rfl, hwy⟩
                      cases hwy
                      go_wp2_with fail
                      refine HCL.out.mono ?_
                      rintro _ w3 hpost
                      obtain ⟨ok, x2, T2, rfl, hyes, hno⟩ := HAF.out _ w3 hpost
                      clear hpost
                      have HYES := Lib.hid hyes
                      have HNO := Lib.hid hno
                      clear hyes hno hn0 hng k0 k1 k2 k3 k4
                      cases ok
                      · have HNO2 := Lib.hid (HNO.out rfl)
                        go_wp2_with fail
                        go_roundw
                        case rel => exact ⟨i + 1, T2, by omega, by go_num, HNO2⟩
                        case measure => simp [intOf]; omega
                      · have HY2 := Lib.hid (HYES.out rfl)
                        rw [HU0.out] at HY2
                        go_wp2_with fail
                        go_ret2
                        exact hasPost true _ T2 rfl HY2.out
                    · have hvb : (QV == v) = false := beq_eq_false_iff_ne.2 hqv
                      have HSK2 := Lib.hid ((HSK.out (by rw [HQ.out]; unfold tellsB; dsimp only; rw [hqb, hvb]; rfl)).up HU1.out)
                      clear HSK HCALL hqt hqv
                      go_wp2_with fail
                      go_roundw
                      case rel => exact ⟨i + 1, T', by omega, by go_num, HSK2⟩
                      case measure => simp [intOf]; omega
                · have HTL : Hid (tellsB (l.getD p op0) v = true) := Lib.hid (by rw [HQ.out]; rfl)
                  have HAV : Hid (afterV (l.getD p op0) v = QV) := Lib.hid (by rw [HQ.out]; rfl)
                  have HCL := Lib.hid (HCALL.out QV HAV.out)
                  have HAF := Lib.hid (fun e w3 (hpost : HasPost l (withN d p) QV T' B (und l (withN d p)) _ _ e w3) => HV1.out.after hli HP.out rfl HTL.out (by rw [HAV.out]; exact hpost))
                  clear HCALL
                  go_wp2_with fail
                  refine HWI.out.mono ?_
                  rintro _ wy ⟨rfl, hwy⟩
                  cases hwy
                  go_wp2_with fail
                  refine HCL.out.mono ?_
                  rintro _ w3 hpost
                  obtain ⟨ok, x2, T2, rfl, hyes, hno⟩ := HAF.out _ w3 hpost
                  clear hpost
                  have HYES := Lib.hid hyes
                  have HNO := Lib.hid hno
                  clear hyes hno hn0 hng k0 k1 k2 k3 k4
                  cases ok
                  · have HNO2 := Lib.hid (HNO.out rfl)
                    go_wp2_with fail
                    go_roundw
                    case rel => exact ⟨i + 1, T2, by omega, by go_num, HNO2⟩
                    case measure => simp [intOf]; omega
                  · have HY2 := Lib.hid (HYES.out rfl)
                    rw [HU0.out] at HY2
                    go_wp2_with fail
                    go_ret2
                    exact hasPost true _ T2 rfl HY2.out
              · obtain rfl : i = (nextL l d).length := by omega
                clear hli
                have HFIN := Lib.hid (And.intro (HV.out.out HLT.out) (And.intro HV.out.own (And.intro HV.out.gr (And.intro HV.out.blk (show T'.length ≤ T.length + capS u from by
                  have h1 := HV.out.len
                  have h2 := capS_le HNL.out
                  have h3 := HU0.out
                  rw [h3] at h1 h2
                  omega)))))
                go_wp2_with fail
                go_ret2
                exact hasPost false _ T' rfl HFIN.out

end Go.Proofs.YtpefcbmmbpcalaaDoor
