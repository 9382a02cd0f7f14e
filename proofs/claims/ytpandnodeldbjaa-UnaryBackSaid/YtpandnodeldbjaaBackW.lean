/-
  The walk of UnaryBack.
-/
import Derived.Test.YtpandnodeldbjaaBackC
import Derived.Test.YtpandnodeldbjaaAlive12
import Derived.Test.YtpandnodeldbjaaUnaryD
import Derived.Test.YtpandnodeldbjaaThree
set_option linter.unusedVariables false
set_option linter.unusedSimpArgs false
namespace Go.Proofs.Ytpandnodeldbjaa
open Go.RowKit

theorem made_zeros (n : Nat) : madeCells #[.int .i64 0] n = (icells (List.replicate n 0)).toArray := by
  unfold icells
  apply Array.ext'
  apply List.ext_getElem?
  intro j
  by_cases h : j < n
  · have := made_at (.int .i64 0) n j h
    rw [Array.getElem?_toList, this]
    simp [h]
  · have hs : (madeCells #[Value.int .i64 0] n).size = n := by simp [madeCells]
    rw [Array.getElem?_toList, Array.getElem?_eq_none (by omega)]
    simp; omega
theorem icells_set (l : List Int) (j : Nat) (v : Int) : (icells l).toArray.setIfInBounds j (.int .i64 v) = (icells (l.set j v)).toArray := by
  unfold icells
  simp [List.map_set]
theorem row_icells {w : World} {b : Nat} {l : List Int} {t : TypeId} (h : w.heap[b]? = some (.cells (icells l).toArray t (0, 0))) : Row w (some ⟨b, 0, none⟩) l.length (IVal l) := fun k hk => by
  refine ⟨b, 0, rfl, ?_⟩
  rw [Nat.zero_add, cell_of_row w b k _ _ _ h]
  unfold icells
  rw [List.getElem?_toArray]
  exact iVal_map hk

def addrOf : Value → Addr | .pointer (some a) => a | _ => ⟨0, 0, none⟩
/-- What the law's outer loop finds. -/
structure BackIs (w wr : World) (A : Option Addr) (n c top k p8 : Nat) (loc cells : List Int) (L : Option Addr) (cL : Nat) : Prop where
  up : Up w wr
  bl : wr.heap[w.heap.size]? = some (.cells #[.slice A n c] 23 (0, 0))
  br : wr.heap[w.heap.size + 1]? = some (.cells (regC 3 0 0 0 0 0 top) 50 (0, 0))
  bc : wr.heap[w.heap.size + 2]? = some (.cells (icells cells).toArray 3 (0, 0))
  bi : wr.heap[p8]? = some (.cells #[.int .i64 k] 3 (0, 0))
  gt : w.heap.size + 2 < p8
  cl : cells.length = 256
  ll : loc.length ≤ 256
  eq : ∀ j : Nat, j < 256 → cells.getD j 0 = loc.getD j 0
  row : Row wr L loc.length (IVal loc)
  nil : L = none → cL = 0
  cap : loc.length ≤ cL
  lb : ∀ b off, L = some ⟨b, off, none⟩ → w.heap.size + 2 < b
theorem BackIs.more {w wr wr' : World} {A : Option Addr} {n c top k p8 : Nat} {loc cells : List Int} {L : Option Addr} {cL : Nat} (h : BackIs w wr A n c top k p8 loc cells L cL) (u : Up wr wr') : BackIs w wr' A n c top k p8 loc cells L cL :=
  have lift : ∀ {b : Nat} {o : Obj}, wr.heap[b]? = some o → wr'.heap[b]? = some o := fun hb => (u.block _ (Array.getElem?_eq_some_iff.1 hb).1).trans hb
  ⟨h.up.trans u, lift h.bl, lift h.br, lift h.bc, lift h.bi, h.gt, h.cl, h.ll, h.eq, h.row.up u, h.nil, h.cap, h.lb⟩
theorem zeros_getD (n j : Nat) : (List.replicate n (0 : Int)).getD j 0 = 0 := by
  rw [List.getD_eq_getElem?_getD, List.getElem?_replicate]
  split <;> rfl
/-- Some cells are stored: all other blocks stay. -/
theorem row_tk {w4 wr : World} {cb : Nat} {A : Option Addr} {n : Nat} {f : Nat → Value} (h : Row w4 A n f) (k : TK cb w4.heap.size w4 wr) (hb : ∀ b off, A = some ⟨b, off, none⟩ → cb < b) : Row wr A n f := fun j hj => by
  obtain ⟨b, off, e, hc⟩ := h j hj
  exact ⟨b, off, e, (tcell (k.block b (cell_lt hc) (by have := hb b off e; omega) (Far.low (cell_lt hc)))).trans hc⟩
theorem acc_tk {w4 wr : World} {cb : Nat} {A : Option Addr} {l : List (Int × Int × Int)} (h : AccRow w4 A l) (k : TK cb w4.heap.size w4 wr) (hb : ∀ b off, A = some ⟨b, off, none⟩ → cb < b) : AccRow wr A l :=
  h.keep fun b hlt ⟨off, e⟩ => k.block b hlt (by have := hb b off e; omega) (Far.low hlt)

theorem convU8 (x : Nat) (h : x ≤ 255) : IntKind.i64.wrap (x : Int) = x ∧ wrap64 (x : Int) = x ∧ wrap64 ((x : Int) + 1) = (x : Int) + 1 ∧ IntKind.i64.wrap ((x : Int) + 1) = (x : Int) + 1 :=
  ⟨i64w _ (by omega) (by omega), IntWalk.wrap64_in _ (by omega), IntWalk.wrap64_in _ (by omega), i64w _ (by omega) (by omega)⟩

set_option maxRecDepth 10000 in
set_option maxHeartbeats 2000000 in
theorem unaryBack_any (top : Nat) (ht : top ≤ 255) (l : List Int) (A : Option Addr) (c : Nat) (w : World) (hA : l.length ≤ 9223372036854775807) (hr : Row w A l.length (IVal l)) :
    Calls Try.prog 8 #[.int .u8 top, .slice A l.length c] w fun e w' => e = .returned (.bool true) ∧ Up w w' := by
  have HMF := Lib.hid (show ∀ (fn : Fn) (first cap : Array Value) (w : World), (Instr.makeFunc fn first cap).run Try.prog w = .ok (.func fn first cap) w from fun _ _ _ _ => rfl)
  have HAL := Lib.hid (fun W : World => alive12_any W)
  obtain ⟨W0, hW0⟩ : ∃ x, w.alloc (.cells #[.slice A l.length c] 23) = x := ⟨_, rfl⟩
  have hb0 : W0.heap[w.heap.size]? = some (.cells #[.slice A l.length c] 23 (0, 0)) := by rw [← hW0]; exact heap_alloc_new w _
  have hs0 : W0.heap.size = w.heap.size + 1 := by rw [← hW0]; simp
  have hU0 : Up w W0 := by rw [← hW0]; exact (Up.refl w).alloc _
  have a7 := cell_of_row _ _ 0 _ _ _ hb0
  simp only [List.getElem?_toArray, List.getElem?_cons_zero] at a7
  by_cases hs : l.length ≤ 30
  · have z1 : ((30 : Int) < (l.length : Int)) = False := by simp; omega
    have HR := Lib.hid hr
    have hmk : ∀ W : World, (Instr.makeSlice 23 (.int .i64 256) (.int .i64 256)).run Try.prog W = .ok (.slice (some ⟨W.heap.size, 0, none⟩) 256 256) (W.alloc (.cells (madeCells #[.int .i64 0] 256) 3)) := fun W =>
      run_make_row' 23 3 (.int .i64 0) 8 Try.underlying23 infoInt rfl .i64 .i64 256 (by omega) (by omega) W
    have HMK := Lib.hid hmk
    obtain ⟨u1, u2, u3, u4⟩ := convU8 top ht
    have HB0 := Lib.hid hb0
    have HU0 := Lib.hid hU0
    have HS0 := Lib.hid hs0
    have HW0 := Lib.hid hW0
    clear hr hb0 hU0 hs0 hW0
    go_enter Try.func8, Try.ntmps8
    go_wp2_with fail
    rw [HW0.out]
    go_wp2_with fail
    have HX := Lib.hid (three_alloc W0 #[.int .i64 3, .int .i64 0, .int .i64 0, .int .i64 0, .int .i64 0, .int .i64 0, .int .i64 top] (madeCells #[.int .i64 0] 256) #[.int .i64 0] 50 3 3)
    have hbi0 := heap_alloc_new ((W0.alloc (.cells #[.int .i64 3, .int .i64 0, .int .i64 0, .int .i64 0, .int .i64 0, .int .i64 0, .int .i64 top] 50)).alloc (.cells (madeCells #[.int .i64 0] 256) 3)) (.cells #[.int .i64 0] 3)
    have hsz2 : ((W0.alloc (.cells #[.int .i64 3, .int .i64 0, .int .i64 0, .int .i64 0, .int .i64 0, .int .i64 0, .int .i64 top] 50)).alloc (.cells (madeCells #[.int .i64 0] 256) 3)).heap.size = W0.heap.size + 1 + 1 := by simp
    rw [hsz2] at hbi0
    have HBI0 := Lib.hid hbi0
    clear hbi0 hsz2 a7 hmk
    generalize ((W0.alloc (.cells #[.int .i64 3, .int .i64 0, .int .i64 0, .int .i64 0, .int .i64 0, .int .i64 0, .int .i64 top] 50)).alloc (.cells (madeCells #[.int .i64 0] 256) 3)).alloc (.cells #[.int .i64 0] 3) = W3 at *
    rw [HS0.out] at HX HBI0
    rw [made_zeros] at HX
    have HB3 := Lib.hid (show BackIs w W3 A l.length c top 0 (w.heap.size + 1 + 1 + 1) [] (List.replicate 256 0) none 0 from
      ⟨HU0.out.trans HX.out.1, (HX.out.1.block _ (Array.getElem?_eq_some_iff.1 HB0.out).1).trans HB0.out, HX.out.2.1, HX.out.2.2.1, HBI0.out, by omega, List.length_replicate, by decide, fun j hj => by rw [zeros_getD]; rfl, Row.nil _ _ _, fun _ => rfl, Nat.le_refl _, fun b off e => by simp at e⟩)
    obtain ⟨n, hn⟩ : ∃ n, l.length = n := ⟨_, rfl⟩
    rw [hn] at HB3 HR hs ⊢
    have HN := Lib.hid hn
    have HNB := Lib.hid hs
    have ht' : (top : Int) ≤ 255 := by omega
    have HTOP := Lib.hid ht
    clear HX HBI0 HB0 HU0 HS0 HW0 hn hA z1 hs u1 u2 u3 u4 ht' ht
    go_loopw [7, 8] (fun u t wr => ∃ (k p8 : Nat) (loc cells : List Int) (L : Option Addr) (cL : Nat), k ≤ n ∧ u = .slice L loc.length cL ∧ t = .pointer (some ⟨p8, 0, none⟩) ∧ Hid (wr.cell? ⟨p8, 0, none⟩ = some (.int .i64 k)) ∧ Hid (BackIs w wr A n c top k p8 loc cells L cL)) (fun _ t wr => n - (intOf ((wr.cell? (addrOf t)).getD (.int .i64 0))).toNat)
    case atStart => exact ⟨0, _, _, _, _, _, by omega, rfl, rfl, by have := cell_of_row _ _ 0 _ _ _ HB3.out.bi; exact this, HB3⟩
    case round =>
      obtain ⟨k, p8, loc, cells, L, cL, hk, rfl, rfl, HC8, HBr⟩ := hrel
      have hbl := cell_of_row _ _ 0 _ _ _ HBr.out.bl
      have hbi := HC8.out
      simp only [List.getElem?_toArray, List.getElem?_cons_zero] at hbl
      have hn30 := HNB.out
      by_cases hlt : k < n
      rotate_left
      · obtain rfl : k = n := by omega
        clear hlt
        go_wp2_with fail
        refine (HAL.out _).mono ?_
        rintro e w9 ⟨rfl, hU9⟩
        have HU9 := Lib.hid (HBr.out.up.trans hU9)
        clear hU9 HAL hbl hbi
        go_wp2_with fail
        go_ret
        exact ⟨rfl, HU9.out⟩
      obtain ⟨ba, off, rfl, h1⟩ := (HR.out.up HBr.out.up) k hlt
      obtain ⟨x, hx⟩ : ∃ x, l.getD k 0 = x := ⟨_, rfl⟩
      unfold IVal at h1
      rw [hx] at h1
      obtain ⟨s', s2, v, hcl, hvt, he1, hla, hacc, hsl, heq2, he2, hl2⟩ := back_round top HTOP.out x loc cells HBr.out.cl HBr.out.ll HBr.out.eq
      have HCL := Lib.hid (fun W => (show Calls Try.prog 41 #[.int .i64 x, .int .i64 top] W fun e w' => e = .returned (.int .i64 (v : Int)) ∧ w' = W by
        have := clamp_any x top W
        rw [hcl] at this
        exact this))
      have hki : (k : Int) < n := by omega
      have HSA := Lib.hid (show s'.acc.length ≤ v + 1 ∧ s2.acc.length ≤ top + 1 ∧ v ≤ top from ⟨hla, hl2, hvt⟩)
      have HACC := Lib.hid hacc
      have HSL := Lib.hid hsl
      have HEQ := Lib.hid heq2
      have HE2 := Lib.hid he2
      have HP1 := Lib.hid (fun (W : World) (hU : Up wr W) (A1 : Option Addr) (hz : Row W A1 256 (IVal (List.replicate 256 0))) =>
        play_back1 top n c k x ba off loc L A1 cL 256 (w.heap.size + 1) w.heap.size p8 s' W he1 (HBr.out.more hU).br (HBr.out.more hU).bl (HBr.out.more hU).bi ((hU.cell (p := ⟨ba, off + k, none⟩) (cell_lt h1)).trans h1) hlt (by omega) HBr.out.nil HBr.out.ll (HBr.out.more hU).row hz HBr.out.cap)
      obtain ⟨u1, u2, u3, u4⟩ := convU8 top HTOP.out
      have hmk := HMK.out
      have hmf := HMF.out
      clear hx hcl he1 hla hacc hsl heq2 he2 hl2 hvt
      go_wp2_with fail
      refine (HCL.out _).mono ?_
      rintro e w1 ⟨rfl, rfl⟩
      clear h1 hbl hbi
      go_wp2_with fail
      have hUz : Up w1 (w1.alloc (.cells (madeCells #[.int .i64 0] 256) 3)) := (Up.refl w1).alloc _
      have hrz : Row (w1.alloc (.cells (madeCells #[.int .i64 0] 256) 3)) (some ⟨w1.heap.size, 0, none⟩) 256 (IVal (List.replicate 256 0)) :=
        (made_row w1 (.int .i64 0) 256 _).congr fun k hk => by unfold IVal; rw [zeros_getD]
      have hsz : (w1.alloc (.cells (madeCells #[.int .i64 0] 256) 3)).heap.size = w1.heap.size + 1 := by simp
      have HB1 := Lib.hid (HBr.out.more hUz)
      have hgtz : w.heap.size + 2 < w1.heap.size := by have := (Array.getElem?_eq_some_iff.1 HBr.out.bi).1; have := HBr.out.gt; omega
      refine (HP1.out _ hUz _ hrz).mono ?_
      generalize w1.alloc (.cells (madeCells #[.int .i64 0] 256) 3) = W1 at *
      rintro e w2 ⟨ov, rfl, hO, hU2⟩
      obtain ⟨X, cX, N, cN, L', cL', rfl, hx1, -, hr1, hnil, hcap, hXb, hLb⟩ := hO
      obtain ⟨pa, hpa⟩ : ∃ x, s'.acc.length = x := ⟨_, rfl⟩
      obtain ⟨pn, hpn⟩ : ∃ x, s'.nts.length = x := ⟨_, rfl⟩
      obtain ⟨loc2, hl2⟩ : ∃ x, shortL s'.loc = x := ⟨_, rfl⟩
      rw [hl2] at hr1 hcap HSL HEQ
      obtain ⟨pl, hpl⟩ : ∃ x, loc2.length = x := ⟨_, rfl⟩
      rw [hpa] at HSA HACC ⊢
      rw [hpn, hl2, hpl]
      have hUo : Up w2 (w2.alloc (.cells #[.bool true, .slice X pa cX, .slice N pn cN, .slice L' pl cL'] 29)) := (Up.refl w2).alloc _
      have hbo := heap_alloc_new w2 (.cells #[.bool true, .slice X pa cX, .slice N pn cN, .slice L' pl cL'] 29)
      have HA3 := Lib.hid (show AccRow (w2.alloc (.cells #[.bool true, .slice X pa cX, .slice N pn cN, .slice L' pl cL'] 29)) X s'.acc from hx1.up hUo)
      have HL3 := Lib.hid (hr1.up hUo)
      have HB3' := Lib.hid ((HB1.out.more hU2).more hUo)
      have HBO := Lib.hid hbo
      have HLF := Lib.hid (show (L' = none → cL' = 0) ∧ loc2.length ≤ cL' ∧ (∀ b off, X = some ⟨b, off, none⟩ → w.heap.size + 2 < b) ∧ (∀ b off, L' = some ⟨b, off, none⟩ → w.heap.size + 2 < b) from
        ⟨hnil, hcap, fun b off e => by have := hXb b off e; omega, fun b off e => by have := hLb b off e; omega⟩)
      have HQ := Lib.hid (show w.heap.size + 2 < w2.heap.size by have := hU2.size; omega)
      have HPA := Lib.hid hpa
      have HPL := Lib.hid hpl
      have k0 := cell_of_row _ _ 0 _ _ _ hbo
      have k1 := cell_of_row _ _ 1 _ _ _ hbo
      have k3 := cell_of_row _ _ 3 _ _ _ hbo
      simp only [List.getElem?_toArray, List.getElem?_cons_zero, List.getElem?_cons_succ] at k0 k1 k3
      have hv1 : wrap64 ((v : Int) + 1) = (v : Int) + 1 := IntWalk.wrap64_in _ (by have := HSA.out; have := HTOP.out; omega)
      have z1 : ((v : Int) + 1 < (pa : Int)) = False := by have := HSA.out; simp; omega
      clear hUo hbo hx1 hr1 hnil hcap hXb hLb hU2 hpa hpn hpl hl2 hUz hrz hsz hgtz HB1 HP1 HCL HBr
      go_wp2_with fail
      obtain ⟨q3, hq3⟩ : ∃ q, w2.heap.size = q := ⟨_, rfl⟩
      rw [hq3] at HBO HQ
      try rw [hq3]
      generalize w2.alloc (.cells #[.bool true, .slice X pa cX, .slice N pn cN, .slice L' pl cL'] 29) = w4 at *
      have HC4 := Lib.hid HB3'.out.bc
      clear k0 k1 k3 z1 hq3 hv1
      go_loopw [12] (fun t wr => ∃ j : Nat, j ≤ pa ∧ t = .int .i64 j ∧ Hid (TK (w.heap.size + 2) w4.heap.size w4 wr) ∧ Hid (wr.heap[w.heap.size + 2]? = some (.cells (icells (applyC cells (s'.acc.take j))).toArray 3 (0, 0)))) (fun t _ => pa - (intOf t).toNat)
      case atStart => exact ⟨0, by omega, rfl, Lib.hid (TK.refl _ _ _), HC4⟩
      case round =>
        obtain ⟨j, hj, rfl, HK2, HCJ⟩ := hrel
        have HBO2 := Lib.hid ((HK2.out.block _ (Array.getElem?_eq_some_iff.1 HBO.out).1 (by have := HQ.out; omega) (Far.low (Array.getElem?_eq_some_iff.1 HBO.out).1)).trans HBO.out)
        have v1 := cell_of_row _ _ 1 _ _ _ HBO2.out
        simp only [List.getElem?_toArray, List.getElem?_cons_zero, List.getElem?_cons_succ] at v1
        have hpb : pa ≤ 300 := by have := HSA.out; have := HTOP.out; omega
        by_cases hjl : j < pa
        · obtain ⟨bx, ox, rfl, e1, e2, e3⟩ := (acc_tk HA3.out HK2.out HLF.out.2.2.1) j (by rw [HPA.out]; exact hjl)
          obtain ⟨cc, u, hcu, hct⟩ := HACC.out j hjl
          rw [hcu] at e1 e2 e3
          simp only at e1 e2 e3
          have hji : (j : Int) < pa := by omega
          have hcl : (applyC cells (s'.acc.take j)).length = 256 := by rw [applyC_len]; exact HB3'.out.cl
          have hlt3 := (Array.getElem?_eq_some_iff.1 HCJ.out).1
          have hfr : (wr.alloc (.cells #[.int .i64 2, .int .i64 (cc : Int), .int .i64 u] 45)).frozen? ⟨w.heap.size + 1 + 1, cc, none⟩ = false := frozen_of_row _ _ cc _ _ ((((Up.refl wr).alloc (.cells #[.int .i64 2, .int .i64 (cc : Int), .int .i64 u] 45)).block _ hlt3).trans HCJ.out)
          obtain ⟨old, hold⟩ : ∃ old : Int, (wr.alloc (.cells #[.int .i64 2, .int .i64 (cc : Int), .int .i64 u] 45)).cell? ⟨w.heap.size + 1 + 1, cc, none⟩ = some (.int .i64 old) := by
            refine ⟨(applyC cells (s'.acc.take j)).getD cc 0, ?_⟩
            have h5 := (((Up.refl wr).alloc (.cells #[.int .i64 2, .int .i64 (cc : Int), .int .i64 u] 45)).block _ hlt3).trans HCJ.out
            refine (cell_of_row _ _ cc _ _ _ h5).trans ?_
            unfold icells
            rw [List.getElem?_toArray]
            exact iVal_map (by rw [hcl]; have := HTOP.out; omega)
          have hcc0 : (0 : Int) ≤ (cc : Int) := by omega
          have hcc1 : (cc : Int) < 256 := by have := HTOP.out; omega
          have y1 : ((cc : Int) < 0) = False := by simp
          have y2 : ((top : Int) < (cc : Int)) = False := by simp; omega
          have y3 : (top < cc) = False := by simp; omega
          have HNX := Lib.hid (show ∀ wn, wn = (wr.setCell ⟨w.heap.size + 1 + 1, cc, none⟩ (.int .i64 u)).alloc (.cells #[.int .i64 2, .int .i64 (cc : Int), .int .i64 u] 45) → Hid (TK (w.heap.size + 2) w4.heap.size w4 wn) ∧ Hid (wn.heap[w.heap.size + 2]? = some (.cells (icells (applyC cells (s'.acc.take (j + 1)))).toArray 3 (0, 0))) from by
            rintro wn rfl
            have hn2 := heap_setCell_same _ _ cc _ _ (.int .i64 u) HCJ.out
            rw [icells_set] at hn2
            have hn1 := (((Up.refl (wr.setCell ⟨w.heap.size + 2, cc, none⟩ (.int .i64 u))).alloc (.cells #[.int .i64 2, .int .i64 (cc : Int), .int .i64 u] 45)).block _ (Array.getElem?_eq_some_iff.1 hn2).1).trans hn2
            refine ⟨Lib.hid ((HK2.out.setCell (j := cc) (.int .i64 u)).alloc _), Lib.hid ?_⟩
            rw [applyC_take cells s'.acc j (by rw [HPA.out]; exact hjl), hcu]
            simp only [Int.toNat_natCast]
            exact hn1)
          clear hcu hct hcl
          go_wp2_with fail
          go_roundw
          case rel => exact ⟨j + 1, by omega, by go_num, (HNX.out _ rfl).1, (HNX.out _ rfl).2⟩
          case measure => simp [intOf]; omega
        · obtain rfl : j = pa := by omega
          clear hjl
          have hcj := HCJ.out
          rw [List.take_of_length_le (by rw [HPA.out]; exact Nat.le_refl _)] at hcj
          obtain ⟨cells2, hc2⟩ : ∃ x, applyC cells s'.acc = x := ⟨_, rfl⟩
          have hcl2 : cells2.length = 256 := by rw [← hc2, applyC_len]; exact HB3'.out.cl
          rw [hc2] at hcj HEQ HE2
          have hk2 := HK2.out
          have hkeep : ∀ {b : Nat} {o : Obj}, b ≠ w.heap.size + 2 → w4.heap[b]? = some o → wr.heap[b]? = some o := fun hne hb => (hk2.block _ (Array.getElem?_eq_some_iff.1 hb).1 hne (Far.low (Array.getElem?_eq_some_iff.1 hb).1)).trans hb
          have hsz4 : w.heap.size + 2 < w4.heap.size := (Array.getElem?_eq_some_iff.1 HC4.out).1
          have HB5 := Lib.hid (show BackIs w wr (some ⟨ba, off, none⟩) n c top k p8 loc2 cells2 L' cL' from
            ⟨HB3'.out.up.trans' (hk2.below (by omega) (by omega) (by omega)), hkeep (by omega) HB3'.out.bl, hkeep (by omega) HB3'.out.br, hcj, hkeep (by have := HB3'.out.gt; omega) HB3'.out.bi, HB3'.out.gt, hcl2, HSL.out, HEQ.out, row_tk HL3.out hk2 HLF.out.2.2.2, HLF.out.1, HLF.out.2.1, HLF.out.2.2.2⟩)
          have hp2 := play_back2 top cells2 (some ⟨w.heap.size + 2, 0, none⟩) 256 (w.heap.size + 1) v s2 wr HE2.out hcl2 HB5.out.br (by have := row_icells hcj; rw [hcl2] at this; exact this)
          have HP2 := Lib.hid hp2
          obtain ⟨u1, u2, u3, u4⟩ := convU8 top HTOP.out
          have hmf := HMF.out
          have hk3 := v1
          clear hcj hc2 hcl2 hk2 hkeep hsz4 hp2 HCJ HK2 HBO2
          go_wp2_with fail
          refine HP2.out.mono ?_
          rintro e w5 ⟨ov, rfl, hO, hU5⟩
          obtain ⟨Y, cY, N2, cN2, L2, cL2, rfl, -⟩ := hO
          obtain ⟨ra, hra⟩ : ∃ x, s2.acc.length = x := ⟨_, rfl⟩
          obtain ⟨rn, hrn⟩ : ∃ x, s2.nts.length = x := ⟨_, rfl⟩
          obtain ⟨rl, hrl⟩ : ∃ x, (shortL s2.loc).length = x := ⟨_, rfl⟩
          rw [hra] at HSA ⊢
          rw [hrn, hrl]
          have hbo := heap_alloc_new w5 (.cells #[.bool true, .slice Y ra cY, .slice N2 rn cN2, .slice L2 rl cL2] 29)
          have hUo : Up w5 (w5.alloc (.cells #[.bool true, .slice Y ra cY, .slice N2 rn cN2, .slice L2 rl cL2] 29)) := (Up.refl w5).alloc _
          have HB6 := Lib.hid ((HB5.out.more hU5).more hUo)
          have m0 := cell_of_row _ _ 0 _ _ _ hbo
          have m1 := cell_of_row _ _ 1 _ _ _ hbo
          have m2 := cell_of_row _ _ 0 _ _ _ HB6.out.bi
          simp only [List.getElem?_toArray, List.getElem?_cons_zero, List.getElem?_cons_succ] at m0 m1 m2
          have z1 : ((top : Int) + 1 < (ra : Int)) = False := by have := HSA.out; simp; omega
          have hk31 : (k : Int) ≤ 30 := by omega
          have HK31 := Lib.hid hk31
          have HKN := Lib.hid hlt
          have hs6 : (w5.alloc (.cells #[.bool true, .slice Y ra cY, .slice N2 rn cN2, .slice L2 rl cL2] 29)).heap.size = w5.heap.size + 1 := by simp
          have hn7 := heap_alloc_new (w5.alloc (.cells #[.bool true, .slice Y ra cY, .slice N2 rn cN2, .slice L2 rl cL2] 29)) (.cells #[.int .i64 ((k : Int) + 1)] 3)
          rw [hs6] at hn7
          have HNC := Lib.hid (show ((w5.alloc (.cells #[.bool true, .slice Y ra cY, .slice N2 rn cN2, .slice L2 rl cL2] 29)).alloc (.cells #[.int .i64 ((k : Int) + 1)] 3)).cell? ⟨w5.heap.size + 1, 0, none⟩ = some (.int .i64 ((k : Int) + 1)) from by
            exact cell_of_row _ _ 0 _ _ _ hn7)
          have HEND := Lib.hid (show BackIs w ((w5.alloc (.cells #[.bool true, .slice Y ra cY, .slice N2 rn cN2, .slice L2 rl cL2] 29)).alloc (.cells #[.int .i64 ((k : Int) + 1)] 3)) (some ⟨ba, off, none⟩) n c top (k + 1) (w5.heap.size + 1) loc2 cells2 L' cL' from
            have h7 := HB6.out.more ((Up.refl (w5.alloc (.cells #[.bool true, .slice Y ra cY, .slice N2 rn cN2, .slice L2 rl cL2] 29))).alloc (.cells #[.int .i64 ((k : Int) + 1)] 3))
            ⟨h7.up, h7.bl, h7.br, h7.bc, hn7, by have := (Array.getElem?_eq_some_iff.1 HB5.out.bc).1; have := hU5.size; omega, h7.cl, h7.ll, h7.eq, h7.row, h7.nil, h7.cap, h7.lb⟩)
          clear hbo hUo hU5 hra hrn hrl HP2 v1 hk3 hs6 hn7
          go_wp2_with fail
          go_roundw
          case rel => exact ⟨k + 1, _, loc2, cells2, L', cL', by have := HKN.out; omega, by rw [HPL.out], rfl, HNC, HEND⟩
          case measure =>
            have e1 := HC8.out
            have e2 := HNC.out
            have e3 := HKN.out
            simp only [addrOf]
            rw [e1, e2]
            simp [intOf]
            omega
  · clear hr hs0
    have HU := Lib.hid hU0
    have hgt : (30 : Int) < (l.length : Int) := by omega
    clear hs hb0 hU0
    subst hW0
    go_enter Try.func8, Try.ntmps8
    go_wp2_with fail
    refine (HAL.out _).mono ?_
    rintro e w1 ⟨rfl, hU1⟩
    have HU1 := Lib.hid (HU.out.trans hU1)
    clear hU1 HU HAL a7
    go_wp2_with fail
    go_ret
    exact ⟨rfl, HU1.out⟩

end Go.Proofs.Ytpandnodeldbjaa
