/-
  The walk of TrompCosts.
-/
import Derived.Test.YtpandnodeldbjaaCostP
import Derived.Test.YtpandnodeldbjaaZeros2
import Derived.Test.YtpandnodeldbjaaAlive13
import Derived.Test.YtpandnodeldbjaaSteadyW
set_option linter.unusedVariables false
set_option linter.unusedSimpArgs false
namespace Go.Proofs.Ytpandnodeldbjaa
open Go.RowKit

set_option maxRecDepth 10000 in
theorem cost13w (b lo v : Int) (k n wr rd tp : Int) (W : World) (g B q p : Nat) (s : TS) (hb : W.heap[q]? = some (.cells (regC k b lo n wr rd tp) 50 (0, 0))) (hp : W.heap[p]? = some (.cells #[.int .i64 v] 3 (0, 0))) (h : Tape1 W g B s) (hb0 : -1099511627776 ≤ b) (hb1 : b ≤ 1099511627776) (hl0 : -1099511627776 ≤ lo) (hl1 : lo ≤ 1099511627776) :
    Calls Try.prog 51 #[.pointer (some ⟨g, 0, none⟩), .pointer (some ⟨q, 0, none⟩), .pointer (some ⟨p, 0, none⟩)] W (TPost encI g B W (((trW b lo v).bind fun _ => Op.ret 0).onT s)) := by
  obtain ⟨R, hR⟩ : ∃ R, ((trW b lo v).bind fun _ => Op.ret (0 : Int)).onT s = R := ⟨_, rfl⟩
  have HC := Lib.hid (call_step (trompW_any k b lo n wr rd tp v g B s W h hb0 hb1 hl0 hl1) hR)
  rw [hR]
  unfold regV at HC
  obtain ⟨a0, a1, a2, a3, a4, a5, a6⟩ := reg_load hb
  have a7 := cell_of_row _ _ 0 _ _ _ hp
  simp only [List.getElem?_toArray, List.getElem?_cons_zero] at a7
  clear hR h hb hp hb0 hb1 hl0 hl1
  go_enter Try.func51, Try.ntmps51
  go_wp2_with fail
  refine HC.out.mono ?_
  rintro e w1 (⟨s1, rfl, H1, K1, E1⟩ | ⟨_, s1, rfl, H1, K1, E1⟩)
  · clear a0 a1 a2 a3 a4 a5 a6 a7 HC
    go_wp2_with fail
    exact ⟨rfl, TPost.none E1.out ⟨rfl, H1.out, K1.out⟩⟩
  · clear a0 a1 a2 a3 a4 a5 a6 a7 HC
    unfold encU
    go_wp2_with fail
    go_ret
    exact TPost.some E1.out.symm ⟨rfl, H1.out, K1.out⟩

theorem three_alloc (w : World) (R V E : Array Value) (tr tv te : TypeId) : Up w (((w.alloc (.cells R tr)).alloc (.cells V tv)).alloc (.cells E te)) ∧ (((w.alloc (.cells R tr)).alloc (.cells V tv)).alloc (.cells E te)).heap[w.heap.size]? = some (.cells R tr (0, 0)) ∧
    (((w.alloc (.cells R tr)).alloc (.cells V tv)).alloc (.cells E te)).heap[w.heap.size + 1]? = some (.cells V tv (0, 0)) ∧ (((w.alloc (.cells R tr)).alloc (.cells V tv)).alloc (.cells E te)).heap.size = w.heap.size + 1 + 1 + 1 ∧
    (E = #[] → (((w.alloc (.cells R tr)).alloc (.cells V tv)).alloc (.cells E te)).ownsRow (w.heap.size + 1 + 1) te 1 (.slice (some ⟨w.heap.size + 1 + 1, 0, none⟩) 0 0) 0 []) := by
  have u1 : Up w (w.alloc (.cells R tr)) := (Up.refl w).alloc _
  have u2 : Up (w.alloc (.cells R tr)) ((w.alloc (.cells R tr)).alloc (.cells V tv)) := (Up.refl _).alloc _
  have u3 : Up ((w.alloc (.cells R tr)).alloc (.cells V tv)) (((w.alloc (.cells R tr)).alloc (.cells V tv)).alloc (.cells E te)) := (Up.refl _).alloc _
  have h1 := heap_alloc_new w (.cells R tr)
  have h2 := heap_alloc_new (w.alloc (.cells R tr)) (.cells V tv)
  have s1 : (w.alloc (.cells R tr)).heap.size = w.heap.size + 1 := by simp
  have s2 : ((w.alloc (.cells R tr)).alloc (.cells V tv)).heap.size = w.heap.size + 1 + 1 := by simp
  rw [s1] at h2
  refine ⟨(u1.trans u2).trans u3, ((u2.trans u3).block _ (by omega)).trans h1, (u3.block _ (by omega)).trans h2, by simp, fun e => ?_⟩
  subst e
  have := own_empty ((w.alloc (.cells R tr)).alloc (.cells V tv)) te
  rw [s2] at this
  exact this

/-- The two plays. -/
theorem play_costW (v : Int) (loc ans : List Int) (A0 A1 : Option Addr) (c0 c1 q p : Nat) (w : World) (hb : w.heap[q]? = some (.cells (regC 4 10 0 0 0 0 0) 50 (0, 0))) (hp : w.heap[p]? = some (.cells #[.int .i64 v] 3 (0, 0)))
    (hA0 : A0 = none → c0 = 0) (hl0 : loc.length ≤ 3000) (hl1 : ans.length ≤ 3000) (h8 : 8 ≤ ans.length) (hr0 : Row w A0 loc.length (IVal loc)) (hr1 : Row w A1 ans.length (IVal ans)) (hc0 : loc.length ≤ c0) :
    Calls Try.prog 15 #[.func (.func 51) #[] #[.pointer (some ⟨q, 0, none⟩), .pointer (some ⟨p, 0, none⟩)], .slice A0 loc.length c0, .slice A1 ans.length c1] w fun e w' =>
      ∃ ov s', e = .returned (.tuple #[.int .i64 0, ov]) ∧ OutIs w' ov true s' ∧ s'.acc.length ≤ 3 ∧ (∀ j, j < s'.acc.length → okW (s'.acc.getD j (0, 0, 0))) ∧ Up w w' := by
  obtain ⟨s', e1, h1, h2⟩ := trW_some v ⟨ans, loc, [], []⟩ rfl (by simp only; omega)
  have h0 := playI 51 #[.pointer (some ⟨q, 0, none⟩), .pointer (some ⟨p, 0, none⟩)] (fun s => ((trW 10 0 v).bind fun _ => Op.ret 0).onT s) loc ans A0 A1 c0 c1 w hA0 hl0 hl1 hr0 hr1 hc0 (fun args W => enters Try.func51 (by kernel_rfl) rfl args W)
    (fun W g B hU hg h => cost13w 10 0 v 4 0 0 0 0 W g B q p _ ((hU.block _ (Array.getElem?_eq_some_iff.1 hb).1).trans hb) ((hU.block _ (Array.getElem?_eq_some_iff.1 hp).1).trans hp) h (by decide) (by decide) (by decide) (by decide))
  rw [e1] at h0
  refine h0.mono ?_
  rintro e w' ⟨ov, rfl, ho, hU⟩
  exact ⟨ov, s', rfl, ho, h1, h2, hU⟩
theorem play_costR (loc ans : List Int) (A0 A1 : Option Addr) (c0 c1 q : Nat) (w : World) (hb : w.heap[q]? = some (.cells (regC 4 10 0 0 0 0 0) 50 (0, 0)))
    (hA0 : A0 = none → c0 = 0) (hl0 : loc.length ≤ 3000) (hl1 : ans.length ≤ 3000) (h8 : 8 ≤ ans.length) (hr0 : Row w A0 loc.length (IVal loc)) (hr1 : Row w A1 ans.length (IVal ans)) (hc0 : loc.length ≤ c0) :
    Calls Try.prog 15 #[.func (.func 52) #[] #[.pointer (some ⟨q, 0, none⟩)], .slice A0 loc.length c0, .slice A1 ans.length c1] w fun e w' =>
      ∃ v ov s', e = .returned (.tuple #[.int .i64 v, ov]) ∧ OutIs w' ov true s' ∧ s'.acc.length ≤ 7 ∧ 1 ≤ s'.acc.length ∧ (∀ j, j < s'.acc.length → okR (s'.acc.getD j (0, 0, 0))) ∧ Up w w' := by
  obtain ⟨v, s', e1, h1, h2, h3⟩ := trR_some ⟨ans, loc, [], []⟩ rfl (by simp only; omega)
  have h0 := playI 52 #[.pointer (some ⟨q, 0, none⟩)] (fun s => (trR 10 0).onT s) loc ans A0 A1 c0 c1 w hA0 hl0 hl1 hr0 hr1 hc0 (fun args W => enters Try.func52 (by kernel_rfl) rfl args W)
    (fun W g B hU hg h => cost13 10 0 4 0 0 0 0 W g B q _ ((hU.block _ (Array.getElem?_eq_some_iff.1 hb).1).trans hb) (by have := (Array.getElem?_eq_some_iff.1 hb).1; omega) h (by decide) (by decide) (by decide) (by decide))
  rw [e1] at h0
  refine h0.mono ?_
  rintro e w' ⟨ov, rfl, ho, hU⟩
  exact ⟨v, ov, s', rfl, ho, h1, h2, h3, hU⟩

set_option maxRecDepth 10000 in
set_option maxHeartbeats 2000000 in
theorem trompCosts_any (loc ans : List Int) (b : Bool) (A0 A1 : Option Addr) (c0 c1 : Nat) (w : World) (hB : loc.length ≤ 9223372036854775807) (hC : ans.length ≤ 9223372036854775807)
    (hr0 : Row w A0 loc.length (IVal loc)) (hr1 : Row w A1 ans.length (IVal ans)) :
    Calls Try.prog 10 #[.slice A0 loc.length c0, .slice A1 ans.length c1, .bool b] w fun e w' => e = .returned (.bool true) ∧ Up w w' := by
  have hmf : ∀ (fn : Fn) (first cap : Array Value) (w : World), (Instr.makeFunc fn first cap).run Try.prog w = .ok (.func fn first cap) w := fun _ _ _ _ => rfl
  have HAL := Lib.hid (fun W : World => alive13_any W)
  by_cases hs : loc.length ≤ 100 ∧ ans.length ≤ 100
  · obtain ⟨hs2, hs3⟩ := hs
    have HT0 := Lib.hid (fun (W : World) (hr : Row W A0 loc.length (IVal loc)) => tame_any loc A0 c0 2199023255552 W (by omega) hr)
    have HT1 := Lib.hid (fun (W : World) (hr : Row W A1 ans.length (IVal ans)) => tame_any ans A1 c1 2199023255552 W (by omega) hr)
    have HR0 := Lib.hid hr0
    have HR1 := Lib.hid hr1
    have z2 : ((100 : Int) < (loc.length : Int)) = False := by simp; omega
    have z3 : ((100 : Int) < (ans.length : Int)) = False := by simp; omega
    obtain ⟨i0, hi, hz0, hz1, hz2⟩ := info_parts infoInt
    have HI := Lib.hid hi
    have HZ0 := Lib.hid hz0
    have HZ1 := Lib.hid hz1
    have HZ2 := Lib.hid hz2
    clear hr0 hr1 hi hz0 hz1 hz2
    go_enter Try.func10, Try.ntmps10
    go_wp2_with fail
    refine (HT0.out _ HR0.out).mono ?_
    rintro e w1 ⟨B0, d0, rfl, r0, hd0, hn0, hU1⟩
    have HU1 := Lib.hid hU1
    obtain ⟨loc', hloc⟩ : ∃ x, tameL loc 2199023255552 = x := ⟨_, rfl⟩
    have hll : loc'.length = loc.length := by rw [← hloc, tameL_len]
    rw [hloc] at r0
    have HD0 := Lib.hid (show Row w1 B0 loc.length (IVal loc') ∧ loc.length ≤ d0 ∧ (B0 = none → d0 = 0) from ⟨r0, hd0, hn0⟩)
    clear hU1 r0 hd0 hn0 HT0 hloc z2 z3
    go_wp2_with fail
    refine (HT1.out _ (HR1.out.up HU1.out)).mono ?_
    rintro e w2 ⟨B1, d1, rfl, r1, hd1, hn1, hU2⟩
    obtain ⟨ans', hans⟩ : ∃ x, tameL ans 2199023255552 = x := ⟨_, rfl⟩
    have hla : ans'.length = ans.length := by rw [← hans, tameL_len]
    rw [hans] at r1
    have HD1 := Lib.hid (show Row w2 B0 loc.length (IVal loc') ∧ Row w2 B1 ans.length (IVal ans') from ⟨HD0.out.1.up hU2, r1⟩)
    have HDC := Lib.hid HD0.out.2
    have HN1 := Lib.hid hn1
    have HU3 := Lib.hid (HU1.out.trans hU2)
    have HRI := Lib.hid (range_ival ans')
    have H1 := Lib.hid (show ∀ u ∈ (List.range ans'.length).map (IVal ans'), u.oneCell' = true by rw [HRI.out]; exact icells_one ans')
    obtain ⟨m, hm⟩ : ∃ m, ans.length = m := ⟨_, rfl⟩
    obtain ⟨n, hn⟩ : ∃ n, loc.length = n := ⟨_, rfl⟩
    rw [hla] at HRI H1
    rw [hm] at HRI H1 HD1 hla hs3 ⊢
    rw [hn] at HD1 HDC hll hs2 ⊢
    have HLN := Lib.hid (show ans'.length = m ∧ loc'.length = n from ⟨hla, hll⟩)
    clear hU2 r1 hd1 hn1 HT1 hans HD0 HU1 HR0 HR1 hla hll hm hn hB hC
    have HB8 := Lib.hid hs3
    have HMF := Lib.hid hmf
    cases b
    · have HX := Lib.hid (three_alloc w2 #[.int .i64 4, .int .i64 10, .int .i64 0, .int .i64 0, .int .i64 0, .int .i64 0, .int .i64 0] #[.int .i64 0] #[] 50 3 3)
      go_wp2_with (at_builtin; refine wpList_appendRow rfl (.tmp 33) (.tmp 34) 23 rfl (w2.heap.size + 1 + 1) 3 i0 (.int .i64 0) 8 Try.underlying23 HI.out HZ0.out HZ1.out HZ2.out rfl _ 0 [] rfl ?_ B1 m d1 (IVal ans') rfl HN1.out ?_ H1.out (by decide) (by have := HB8.out; omega) ?_ ?_)
      case _ => exact HX.out.2.2.2.2 (by first | rfl | trivial)
      case _ => exact HD1.out.2.up HX.out.1
      case _ => rw [HX.out.2.2.2.1]; omega
      obtain ⟨hUx, hbr, hbv, hsz, -⟩ := HX.out
      generalize ((w2.alloc (.cells #[.int .i64 4, .int .i64 10, .int .i64 0, .int .i64 0, .int .i64 0, .int .i64 0, .int .i64 0] 50)).alloc (.cells #[.int .i64 0] 3)).alloc (.cells #[] 3) = W1 at *
      intro v1 w3 hown1 hg hbel
      have HBR := Lib.hid ((hbel.block _ (by omega)).trans hbr)
      have HBV := Lib.hid ((hbel.block _ (by omega)).trans hbv)
      have hs3 : w2.heap.size + 1 + 1 ≤ w3.heap.size := by have := hbel.size; omega
      have HU4 := Lib.hid (show Up w2 w3 from hUx.trans' (Below.mono hbel (by omega)))
      have HO1 := Lib.hid hown1
      have HS3 := Lib.hid hs3
      clear hown1 hg hbel hUx hbr hbv hsz HX hs3
      rw [HRI.out] at HO1
      go_wp2_with (at_builtin; refine wpList_append_zeros rfl (.tmp 35) (.const (.int .i64 8)) 23 3 rfl (w2.heap.size + 1 + 1) 3 i0 .i64 .i64 Try.underlying23 Try.underlying3 HI.out HZ0.out HZ1.out HZ2.out v1 m (icells ans') rfl HO1.out 8 rfl (by decide) (by have := HB8.out; omega) HS3.out ?_)
      intro v2 w4 hown2 hbel2
      have hb4 := (hbel2.block _ (by omega)).trans HBR.out
      have hv4 := (hbel2.block _ (by omega)).trans HBV.out
      obtain ⟨full, hfull⟩ : ∃ x, ans' ++ List.replicate 8 0 = x := ⟨_, rfl⟩
      have hfl : full.length = m + 8 := by rw [← hfull, List.length_append, HLN.out.1]; rfl
      replace hown2 : w4.ownsRow (w2.heap.size + 1 + 1) 3 1 v2 (m + 8) (icells full) := by
        have e : icells full = icells ans' ++ List.replicate 8 (Value.int .i64 0) := by rw [← hfull]; unfold icells; simp
        rw [e]; exact hown2
      obtain ⟨A4, c4, rfl, hr4, -⟩ := own_row (f := IVal full) hown2 (fun k hk => iVal_map (by rw [hfl]; exact hk))
      have hU5 : Up w2 w4 := HU4.out.trans' (Below.mono hbel2 (by omega))
      have hpw := play_costW 0 loc' full B0 A4 d0 c4 w2.heap.size (w2.heap.size + 1) w4 hb4 hv4 HDC.out.2 (by have := HLN.out.2; omega) (by have := HB8.out; omega) (by omega) (by rw [HLN.out.2]; exact HD1.out.1.up hU5) (by rw [hfl]; exact hr4) (by rw [HLN.out.2]; exact HDC.out.1)
      rw [HLN.out.2, hfl] at hpw
      have HPW := Lib.hid hpw
      have HPR := Lib.hid (fun (W : World) (hU : Up w4 W) => (show Calls Try.prog 15 #[.func (.func 52) #[] #[.pointer (some ⟨w2.heap.size, 0, none⟩)], .slice B0 n d0, .slice A4 (m + 8) c4] W _ from by
        have h := play_costR loc' full B0 A4 d0 c4 w2.heap.size W ((hU.block _ (Array.getElem?_eq_some_iff.1 hb4).1).trans hb4) HDC.out.2 (by have := HLN.out.2; omega) (by have := HB8.out; omega) (by omega) (by rw [HLN.out.2]; exact (HD1.out.1.up hU5).up hU) (by rw [hfl]; exact hr4.up hU) (by rw [HLN.out.2]; exact HDC.out.1)
        rw [HLN.out.2, hfl] at h
        exact h))
      have HU5 := Lib.hid (HU3.out.trans hU5)
      clear hb4 hv4 hfl hfull hown2 hbel2 hr4 hpw hU5 HBR HBV HO1 HS3 HU4 HDC HD1 HLN HB8 HRI H1 HN1 HI HZ0 HZ1 HZ2 hmf
      have hmf : ∀ (fn : Fn) (first cap : Array Value) (w : World), (Instr.makeFunc fn first cap).run Try.prog w = .ok (.func fn first cap) w := HMF.out
      go_wp2_with fail
      refine HPW.out.mono ?_
      rintro e w5 ⟨ov, s5, rfl, hO, hl5, hk5, hU⟩
      obtain ⟨X, cX, N, cN, L, cL, rfl, hx1, _⟩ := hO
      obtain ⟨pa, hpa⟩ : ∃ x, s5.acc.length = x := ⟨_, rfl⟩
      obtain ⟨pn, hpn⟩ : ∃ x, s5.nts.length = x := ⟨_, rfl⟩
      obtain ⟨pl, hpl⟩ : ∃ x, (shortL s5.loc).length = x := ⟨_, rfl⟩
      rw [hpa] at hl5 hk5 ⊢
      rw [hpn, hpl]
      have hUo : Up w5 (w5.alloc (.cells #[.bool true, .slice X pa cX, .slice N pn cN, .slice L pl cL] 29)) := (Up.refl w5).alloc _
      have hbo := heap_alloc_new w5 (.cells #[.bool true, .slice X pa cX, .slice N pn cN, .slice L pl cL] 29)
      have HA5 := Lib.hid (show AccRow (w5.alloc (.cells #[.bool true, .slice X pa cX, .slice N pn cN, .slice L pl cL] 29)) X s5.acc from hx1.up hUo)
      have HU6 := Lib.hid (hU.trans hUo)
      have HBO := Lib.hid hbo
      have HL5 := Lib.hid hl5
      have HK5 := Lib.hid hk5
      have HPA := Lib.hid hpa
      clear hUo hbo hx1 hU hl5 hk5 hpa hpn hpl HPW
      go_wp2_with fail
      obtain ⟨q5, hq5⟩ : ∃ q, w5.heap.size = q := ⟨_, rfl⟩
      rw [hq5] at HBO
      try rw [hq5]
      generalize w5.alloc (.cells #[.bool true, .slice X pa cX, .slice N pn cN, .slice L pl cL] 29) = w6 at *
      refine (HPR.out _ HU6.out).mono ?_
      rintro e w7 ⟨v7, ov, s7, rfl, hO, hl7, hl8, hk7, hU⟩
      obtain ⟨Y, cY, N2, cN2, L2, cL2, rfl, hy1, _⟩ := hO
      obtain ⟨ra, hra⟩ : ∃ x, s7.acc.length = x := ⟨_, rfl⟩
      obtain ⟨rn, hrn⟩ : ∃ x, s7.nts.length = x := ⟨_, rfl⟩
      obtain ⟨rl, hrl⟩ : ∃ x, (shortL s7.loc).length = x := ⟨_, rfl⟩
      rw [hra] at hl7 hl8 hk7 ⊢
      rw [hrn, hrl]
      have hUo : Up w7 (w7.alloc (.cells #[.bool true, .slice Y ra cY, .slice N2 rn cN2, .slice L2 rl cL2] 29)) := (Up.refl w7).alloc _
      have hbo := heap_alloc_new w7 (.cells #[.bool true, .slice Y ra cY, .slice N2 rn cN2, .slice L2 rl cL2] 29)
      have HA7 := Lib.hid (show AccRow (w7.alloc (.cells #[.bool true, .slice Y ra cY, .slice N2 rn cN2, .slice L2 rl cL2] 29)) Y s7.acc from hy1.up hUo)
      have HA6 := Lib.hid (HA5.out.up (hU.trans hUo))
      have HBO6 := Lib.hid (((hU.trans hUo).block _ (Array.getElem?_eq_some_iff.1 HBO.out).1).trans HBO.out)
      have HU7 := Lib.hid (HU5.out.trans (HU6.out.trans (hU.trans hUo)))
      have HBO7 := Lib.hid hbo
      have HL7 := Lib.hid hl7
      have HL8 := Lib.hid hl8
      have HK7 := Lib.hid hk7
      have HRA := Lib.hid hra
      have k0 := cell_of_row _ _ 0 _ _ _ HBO6.out
      have k1 := cell_of_row _ _ 1 _ _ _ HBO6.out
      have j0 := cell_of_row _ _ 0 _ _ _ HBO7.out
      have j1 := cell_of_row _ _ 1 _ _ _ HBO7.out
      simp only [List.getElem?_toArray, List.getElem?_cons_zero, List.getElem?_cons_succ] at k0 k1 j0 j1
      have z1 : ((3 : Int) < (pa : Int)) = False := by have := HL5.out; simp; omega
      have z2 : ((7 : Int) < (ra : Int)) = False := by simp; omega
      have z3 : ((ra : Int) < 1) = False := by simp; omega
      have z4 : (3 < pa) = False := by have := HL5.out; simp; omega
      have z5 : (7 < ra) = False := by simp; omega
      have z6 : (ra < 1) = False := by simp; omega
      clear hUo hbo hy1 hU hl7 hl8 hk7 hra hrn hrl HPR HA5 HBO HU6 HU5 HU3
      go_wp2_with fail
      obtain ⟨q7, hq7⟩ : ∃ q, w7.heap.size = q := ⟨_, rfl⟩
      rw [hq7] at HBO7
      try rw [hq7]
      generalize w7.alloc (.cells #[.bool true, .slice Y ra cY, .slice N2 rn cN2, .slice L2 rl cL2] 29) = W8 at *
      have HPB := Lib.hid (show pa ≤ 3 ∧ ra ≤ 7 from ⟨HL5.out, HL7.out⟩)
      clear k0 k1 j0 j1 z1 z2 z3 z4 z5 z6 hq5 hq7 hs3 hs2
      go_loopw [14] (fun t wr => ∃ j : Nat, j ≤ pa ∧ t = .int .i64 j ∧ Hid (Up W8 wr)) (fun t _ => pa - (intOf t).toNat)
      case atStart => exact ⟨0, by omega, rfl, Lib.hid (Up.refl _)⟩
      case round =>
        obtain ⟨j, hj, rfl, HUr⟩ := hrel
        have HB5r := Lib.hid ((HUr.out.block _ (Array.getElem?_eq_some_iff.1 HBO6.out).1).trans HBO6.out)
        have u1 := cell_of_row _ _ 1 _ _ _ HB5r.out
        simp only [List.getElem?_toArray, List.getElem?_cons_zero, List.getElem?_cons_succ] at u1
        have hpb := HPB.out.1
        by_cases hlt : j < pa
        · obtain ⟨ba, offa, rfl, e1, e2, e3⟩ := (HA6.out.up HUr.out) j (by rw [HPA.out]; exact hlt)
          have hok := HK5.out j hlt
          generalize s5.acc.getD j (0, 0, 0) = ac at *
          obtain ⟨a1, a2, a3⟩ := ac
          unfold okW at hok
          simp only at hok e1 e2 e3
          have hji : (j : Int) < pa := by omega
          have HUn := Lib.hid (fun (o : Obj) => HUr.out.alloc o)
          rcases hok with ⟨rfl, rfl⟩ | ⟨rfl, rfl⟩ | ⟨rfl, rfl⟩
          all_goals
            go_wp2_with fail
            go_roundw
            case rel => exact ⟨j + 1, by omega, by go_num, HUn.out _⟩
            case measure => simp [intOf]; omega
        · obtain rfl : j = pa := by omega
          clear hlt hpb
          go_wp2_with fail
          clear u1 HB5r
          generalize j = pa at *
          go_loopw [16] (fun t wr' => ∃ j : Nat, j ≤ ra ∧ t = .int .i64 j ∧ Hid (Up W8 wr')) (fun t _ => ra - (intOf t).toNat)
          case atStart => exact ⟨0, by omega, rfl, HUr⟩
          case round =>
            obtain ⟨j, hj, rfl, HUs⟩ := hrel
            have HB7r := Lib.hid ((HUs.out.block _ (Array.getElem?_eq_some_iff.1 HBO7.out).1).trans HBO7.out)
            have u1 := cell_of_row _ _ 1 _ _ _ HB7r.out
            simp only [List.getElem?_toArray, List.getElem?_cons_zero, List.getElem?_cons_succ] at u1
            have hpb := HPB.out.2
            by_cases hlt : j < ra
            · obtain ⟨ba, offa, rfl, e1, e2, e3⟩ := (HA7.out.up HUs.out) j (by rw [HRA.out]; exact hlt)
              have hok := HK7.out j hlt
              generalize s7.acc.getD j (0, 0, 0) = ac at *
              obtain ⟨a1, a2, a3⟩ := ac
              unfold okR at hok
              simp only at hok e1 e2 e3
              have hji : (j : Int) < ra := by omega
              have HUn := Lib.hid (fun (o : Obj) => HUs.out.alloc o)
              rcases hok with ⟨rfl, rfl⟩ | ⟨rfl, rfl⟩ | ⟨rfl, rfl⟩
              all_goals
                go_wp2_with fail
                go_roundw
                case rel => exact ⟨j + 1, by omega, by go_num, HUn.out _⟩
                case measure => simp [intOf]; omega
            · obtain rfl : j = ra := by omega
              clear hlt hpb
              go_wp2_with fail
              refine (HAL.out _).mono ?_
              rintro e w9 ⟨rfl, hU9⟩
              have HU9 := Lib.hid ((HU7.out.trans HUs.out).trans hU9)
              clear hU9 HAL
              go_wp2_with fail
              go_ret
              exact ⟨rfl, HU9.out⟩
    · have HX := Lib.hid (three_alloc w2 #[.int .i64 4, .int .i64 10, .int .i64 0, .int .i64 0, .int .i64 0, .int .i64 0, .int .i64 0] #[.int .i64 1] #[] 50 3 3)
      go_wp2_with (at_builtin; refine wpList_appendRow rfl (.tmp 33) (.tmp 34) 23 rfl (w2.heap.size + 1 + 1) 3 i0 (.int .i64 0) 8 Try.underlying23 HI.out HZ0.out HZ1.out HZ2.out rfl _ 0 [] rfl ?_ B1 m d1 (IVal ans') rfl HN1.out ?_ H1.out (by decide) (by have := HB8.out; omega) ?_ ?_)
      case _ => exact HX.out.2.2.2.2 (by first | rfl | trivial)
      case _ => exact HD1.out.2.up HX.out.1
      case _ => rw [HX.out.2.2.2.1]; omega
      obtain ⟨hUx, hbr, hbv, hsz, -⟩ := HX.out
      generalize ((w2.alloc (.cells #[.int .i64 4, .int .i64 10, .int .i64 0, .int .i64 0, .int .i64 0, .int .i64 0, .int .i64 0] 50)).alloc (.cells #[.int .i64 1] 3)).alloc (.cells #[] 3) = W1 at *
      intro v1 w3 hown1 hg hbel
      have HBR := Lib.hid ((hbel.block _ (by omega)).trans hbr)
      have HBV := Lib.hid ((hbel.block _ (by omega)).trans hbv)
      have hs3 : w2.heap.size + 1 + 1 ≤ w3.heap.size := by have := hbel.size; omega
      have HU4 := Lib.hid (show Up w2 w3 from hUx.trans' (Below.mono hbel (by omega)))
      have HO1 := Lib.hid hown1
      have HS3 := Lib.hid hs3
      clear hown1 hg hbel hUx hbr hbv hsz HX hs3
      rw [HRI.out] at HO1
      go_wp2_with (at_builtin; refine wpList_append_zeros rfl (.tmp 35) (.const (.int .i64 8)) 23 3 rfl (w2.heap.size + 1 + 1) 3 i0 .i64 .i64 Try.underlying23 Try.underlying3 HI.out HZ0.out HZ1.out HZ2.out v1 m (icells ans') rfl HO1.out 8 rfl (by decide) (by have := HB8.out; omega) HS3.out ?_)
      intro v2 w4 hown2 hbel2
      have hb4 := (hbel2.block _ (by omega)).trans HBR.out
      have hv4 := (hbel2.block _ (by omega)).trans HBV.out
      obtain ⟨full, hfull⟩ : ∃ x, ans' ++ List.replicate 8 0 = x := ⟨_, rfl⟩
      have hfl : full.length = m + 8 := by rw [← hfull, List.length_append, HLN.out.1]; rfl
      replace hown2 : w4.ownsRow (w2.heap.size + 1 + 1) 3 1 v2 (m + 8) (icells full) := by
        have e : icells full = icells ans' ++ List.replicate 8 (Value.int .i64 0) := by rw [← hfull]; unfold icells; simp
        rw [e]; exact hown2
      obtain ⟨A4, c4, rfl, hr4, -⟩ := own_row (f := IVal full) hown2 (fun k hk => iVal_map (by rw [hfl]; exact hk))
      have hU5 : Up w2 w4 := HU4.out.trans' (Below.mono hbel2 (by omega))
      have hpw := play_costW 1 loc' full B0 A4 d0 c4 w2.heap.size (w2.heap.size + 1) w4 hb4 hv4 HDC.out.2 (by have := HLN.out.2; omega) (by have := HB8.out; omega) (by omega) (by rw [HLN.out.2]; exact HD1.out.1.up hU5) (by rw [hfl]; exact hr4) (by rw [HLN.out.2]; exact HDC.out.1)
      rw [HLN.out.2, hfl] at hpw
      have HPW := Lib.hid hpw
      have HPR := Lib.hid (fun (W : World) (hU : Up w4 W) => (show Calls Try.prog 15 #[.func (.func 52) #[] #[.pointer (some ⟨w2.heap.size, 0, none⟩)], .slice B0 n d0, .slice A4 (m + 8) c4] W _ from by
        have h := play_costR loc' full B0 A4 d0 c4 w2.heap.size W ((hU.block _ (Array.getElem?_eq_some_iff.1 hb4).1).trans hb4) HDC.out.2 (by have := HLN.out.2; omega) (by have := HB8.out; omega) (by omega) (by rw [HLN.out.2]; exact (HD1.out.1.up hU5).up hU) (by rw [hfl]; exact hr4.up hU) (by rw [HLN.out.2]; exact HDC.out.1)
        rw [HLN.out.2, hfl] at h
        exact h))
      have HU5 := Lib.hid (HU3.out.trans hU5)
      clear hb4 hv4 hfl hfull hown2 hbel2 hr4 hpw hU5 HBR HBV HO1 HS3 HU4 HDC HD1 HLN HB8 HRI H1 HN1 HI HZ0 HZ1 HZ2 hmf
      have hmf : ∀ (fn : Fn) (first cap : Array Value) (w : World), (Instr.makeFunc fn first cap).run Try.prog w = .ok (.func fn first cap) w := HMF.out
      go_wp2_with fail
      refine HPW.out.mono ?_
      rintro e w5 ⟨ov, s5, rfl, hO, hl5, hk5, hU⟩
      obtain ⟨X, cX, N, cN, L, cL, rfl, hx1, _⟩ := hO
      obtain ⟨pa, hpa⟩ : ∃ x, s5.acc.length = x := ⟨_, rfl⟩
      obtain ⟨pn, hpn⟩ : ∃ x, s5.nts.length = x := ⟨_, rfl⟩
      obtain ⟨pl, hpl⟩ : ∃ x, (shortL s5.loc).length = x := ⟨_, rfl⟩
      rw [hpa] at hl5 hk5 ⊢
      rw [hpn, hpl]
      have hUo : Up w5 (w5.alloc (.cells #[.bool true, .slice X pa cX, .slice N pn cN, .slice L pl cL] 29)) := (Up.refl w5).alloc _
      have hbo := heap_alloc_new w5 (.cells #[.bool true, .slice X pa cX, .slice N pn cN, .slice L pl cL] 29)
      have HA5 := Lib.hid (show AccRow (w5.alloc (.cells #[.bool true, .slice X pa cX, .slice N pn cN, .slice L pl cL] 29)) X s5.acc from hx1.up hUo)
      have HU6 := Lib.hid (hU.trans hUo)
      have HBO := Lib.hid hbo
      have HL5 := Lib.hid hl5
      have HK5 := Lib.hid hk5
      have HPA := Lib.hid hpa
      clear hUo hbo hx1 hU hl5 hk5 hpa hpn hpl HPW
      go_wp2_with fail
      obtain ⟨q5, hq5⟩ : ∃ q, w5.heap.size = q := ⟨_, rfl⟩
      rw [hq5] at HBO
      try rw [hq5]
      generalize w5.alloc (.cells #[.bool true, .slice X pa cX, .slice N pn cN, .slice L pl cL] 29) = w6 at *
      refine (HPR.out _ HU6.out).mono ?_
      rintro e w7 ⟨v7, ov, s7, rfl, hO, hl7, hl8, hk7, hU⟩
      obtain ⟨Y, cY, N2, cN2, L2, cL2, rfl, hy1, _⟩ := hO
      obtain ⟨ra, hra⟩ : ∃ x, s7.acc.length = x := ⟨_, rfl⟩
      obtain ⟨rn, hrn⟩ : ∃ x, s7.nts.length = x := ⟨_, rfl⟩
      obtain ⟨rl, hrl⟩ : ∃ x, (shortL s7.loc).length = x := ⟨_, rfl⟩
      rw [hra] at hl7 hl8 hk7 ⊢
      rw [hrn, hrl]
      have hUo : Up w7 (w7.alloc (.cells #[.bool true, .slice Y ra cY, .slice N2 rn cN2, .slice L2 rl cL2] 29)) := (Up.refl w7).alloc _
      have hbo := heap_alloc_new w7 (.cells #[.bool true, .slice Y ra cY, .slice N2 rn cN2, .slice L2 rl cL2] 29)
      have HA7 := Lib.hid (show AccRow (w7.alloc (.cells #[.bool true, .slice Y ra cY, .slice N2 rn cN2, .slice L2 rl cL2] 29)) Y s7.acc from hy1.up hUo)
      have HA6 := Lib.hid (HA5.out.up (hU.trans hUo))
      have HBO6 := Lib.hid (((hU.trans hUo).block _ (Array.getElem?_eq_some_iff.1 HBO.out).1).trans HBO.out)
      have HU7 := Lib.hid (HU5.out.trans (HU6.out.trans (hU.trans hUo)))
      have HBO7 := Lib.hid hbo
      have HL7 := Lib.hid hl7
      have HL8 := Lib.hid hl8
      have HK7 := Lib.hid hk7
      have HRA := Lib.hid hra
      have k0 := cell_of_row _ _ 0 _ _ _ HBO6.out
      have k1 := cell_of_row _ _ 1 _ _ _ HBO6.out
      have j0 := cell_of_row _ _ 0 _ _ _ HBO7.out
      have j1 := cell_of_row _ _ 1 _ _ _ HBO7.out
      simp only [List.getElem?_toArray, List.getElem?_cons_zero, List.getElem?_cons_succ] at k0 k1 j0 j1
      have z1 : ((3 : Int) < (pa : Int)) = False := by have := HL5.out; simp; omega
      have z2 : ((7 : Int) < (ra : Int)) = False := by simp; omega
      have z3 : ((ra : Int) < 1) = False := by simp; omega
      have z4 : (3 < pa) = False := by have := HL5.out; simp; omega
      have z5 : (7 < ra) = False := by simp; omega
      have z6 : (ra < 1) = False := by simp; omega
      clear hUo hbo hy1 hU hl7 hl8 hk7 hra hrn hrl HPR HA5 HBO HU6 HU5 HU3
      go_wp2_with fail
      obtain ⟨q7, hq7⟩ : ∃ q, w7.heap.size = q := ⟨_, rfl⟩
      rw [hq7] at HBO7
      try rw [hq7]
      generalize w7.alloc (.cells #[.bool true, .slice Y ra cY, .slice N2 rn cN2, .slice L2 rl cL2] 29) = W8 at *
      have HPB := Lib.hid (show pa ≤ 3 ∧ ra ≤ 7 from ⟨HL5.out, HL7.out⟩)
      clear k0 k1 j0 j1 z1 z2 z3 z4 z5 z6 hq5 hq7 hs3 hs2
      go_loopw [14] (fun t wr => ∃ j : Nat, j ≤ pa ∧ t = .int .i64 j ∧ Hid (Up W8 wr)) (fun t _ => pa - (intOf t).toNat)
      case atStart => exact ⟨0, by omega, rfl, Lib.hid (Up.refl _)⟩
      case round =>
        obtain ⟨j, hj, rfl, HUr⟩ := hrel
        have HB5r := Lib.hid ((HUr.out.block _ (Array.getElem?_eq_some_iff.1 HBO6.out).1).trans HBO6.out)
        have u1 := cell_of_row _ _ 1 _ _ _ HB5r.out
        simp only [List.getElem?_toArray, List.getElem?_cons_zero, List.getElem?_cons_succ] at u1
        have hpb := HPB.out.1
        by_cases hlt : j < pa
        · obtain ⟨ba, offa, rfl, e1, e2, e3⟩ := (HA6.out.up HUr.out) j (by rw [HPA.out]; exact hlt)
          have hok := HK5.out j hlt
          generalize s5.acc.getD j (0, 0, 0) = ac at *
          obtain ⟨a1, a2, a3⟩ := ac
          unfold okW at hok
          simp only at hok e1 e2 e3
          have hji : (j : Int) < pa := by omega
          have HUn := Lib.hid (fun (o : Obj) => HUr.out.alloc o)
          rcases hok with ⟨rfl, rfl⟩ | ⟨rfl, rfl⟩ | ⟨rfl, rfl⟩
          all_goals
            go_wp2_with fail
            go_roundw
            case rel => exact ⟨j + 1, by omega, by go_num, HUn.out _⟩
            case measure => simp [intOf]; omega
        · obtain rfl : j = pa := by omega
          clear hlt hpb
          go_wp2_with fail
          clear u1 HB5r
          generalize j = pa at *
          go_loopw [16] (fun t wr' => ∃ j : Nat, j ≤ ra ∧ t = .int .i64 j ∧ Hid (Up W8 wr')) (fun t _ => ra - (intOf t).toNat)
          case atStart => exact ⟨0, by omega, rfl, HUr⟩
          case round =>
            obtain ⟨j, hj, rfl, HUs⟩ := hrel
            have HB7r := Lib.hid ((HUs.out.block _ (Array.getElem?_eq_some_iff.1 HBO7.out).1).trans HBO7.out)
            have u1 := cell_of_row _ _ 1 _ _ _ HB7r.out
            simp only [List.getElem?_toArray, List.getElem?_cons_zero, List.getElem?_cons_succ] at u1
            have hpb := HPB.out.2
            by_cases hlt : j < ra
            · obtain ⟨ba, offa, rfl, e1, e2, e3⟩ := (HA7.out.up HUs.out) j (by rw [HRA.out]; exact hlt)
              have hok := HK7.out j hlt
              generalize s7.acc.getD j (0, 0, 0) = ac at *
              obtain ⟨a1, a2, a3⟩ := ac
              unfold okR at hok
              simp only at hok e1 e2 e3
              have hji : (j : Int) < ra := by omega
              have HUn := Lib.hid (fun (o : Obj) => HUs.out.alloc o)
              rcases hok with ⟨rfl, rfl⟩ | ⟨rfl, rfl⟩ | ⟨rfl, rfl⟩
              all_goals
                go_wp2_with fail
                go_roundw
                case rel => exact ⟨j + 1, by omega, by go_num, HUn.out _⟩
                case measure => simp [intOf]; omega
            · obtain rfl : j = ra := by omega
              clear hlt hpb
              go_wp2_with fail
              refine (HAL.out _).mono ?_
              rintro e w9 ⟨rfl, hU9⟩
              have HU9 := Lib.hid ((HU7.out.trans HUs.out).trans hU9)
              clear hU9 HAL
              go_wp2_with fail
              go_ret
              exact ⟨rfl, HU9.out⟩
  · clear hr0 hr1
    go_enter Try.func10, Try.ntmps10
    go_wp2_with fail
    all_goals first
      | (refine (HAL.out _).mono ?_
         rintro e w1 ⟨rfl, hU1⟩
         have HU1 := Lib.hid hU1
         clear hU1 HAL
         go_wp2_with fail
         go_ret
         exact ⟨rfl, HU1.out⟩)
      | (exfalso; omega)

end Go.Proofs.Ytpandnodeldbjaa
