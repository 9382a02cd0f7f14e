/-
  The document's bank in memory; place, Busy, Value.
-/
import Derived.Test.YtpapcheliohacaaDocQ
import Derived.Test.YtpapcheliohacaaDocE
import Derived.Test.YtpapcheliohacaaBankF
set_option linter.unusedVariables false
set_option linter.unusedSimpArgs false
namespace Go.Proofs.Ytpapcheliohacaa
open Go.RowKit

def g0 : Nat × Value := (0, .slice none 0 0)
def ptrOf (p : Nat × Value) : Value := .pointer (some ⟨p.1, 0, none⟩)
def numOf (p : Int × DS) : Value := .int .i64 p.1
structure DocO (w : World) (B r : Nat) (Ls Nv Cv : Value) (ds : BDl) (gl : List (Nat × Value)) : Prop where
  k0 : w.cell? ⟨r, 0, none⟩ = some Ls
  k1 : w.cell? ⟨r, 1, none⟩ = some Nv
  k2 : w.cell? ⟨r, 2, none⟩ = some Cv
  fz : ∀ j, w.frozen? ⟨r, j, none⟩ = false
  own1 : w.ownsRow B 3 1 Nv ds.length (ds.map numOf)
  own2 : w.ownsRow B 26 1 Cv gl.length (gl.map ptrOf)
  n1 : Nv.ownBlock ≠ some r
  n2 : Cv.ownBlock ≠ some r
  n12 : ∀ k, Nv.ownBlock = some k → Cv.ownBlock ≠ some k
  ge : B ≤ r
theorem DocO.lt {w : World} {B r : Nat} {Ls Nv Cv : Value} {ds : BDl} {gl : List (Nat × Value)} (H : DocO w B r Ls Nv Cv ds gl) : r < w.heap.size := cell_lt H.k0
theorem DocO.keep {w w' : World} {B r : Nat} {Ls Nv Cv : Value} {ds : BDl} {gl : List (Nat × Value)} (H : DocO w B r Ls Nv Cv ds gl) (er : w'.heap[r]? = w.heap[r]?) (e1 : ∀ k, Nv.ownBlock = some k → w'.heap[k]? = w.heap[k]?) (e2 : ∀ k, Cv.ownBlock = some k → w'.heap[k]? = w.heap[k]?) : DocO w' B r Ls Nv Cv ds gl :=
  ⟨(cellE er).trans H.k0, (cellE er).trans H.k1, (cellE er).trans H.k2, fun j => (frozenE er).trans (H.fz j), own_same H.own1 e1, own_same H.own2 e2, H.n1, H.n2, H.n12, H.ge⟩
/-- The blocks of a document's cell. -/
def FtD (p : Nat × Value) (k : Nat) : Prop := k = p.1 ∨ p.2.ownBlock = some k
structure DCells (w : World) (B r : Nat) (Nv Cv : Value) (ds : BDl) (gl : List (Nat × Value)) (X : Nat → Prop) : Prop where
  len : gl.length = ds.length
  cell : ∀ j, j < ds.length → DocIs w (gl.getD j g0).1 B (ds.getD j d0).2 (gl.getD j g0).2
  ft : ∀ j, j < ds.length → ∀ k, FtD (gl.getD j g0) k → X k ∧ k ≠ r ∧ Nv.ownBlock ≠ some k ∧ Cv.ownBlock ≠ some k
  two : ∀ i j, i < ds.length → j < ds.length → i ≠ j → ∀ k, FtD (gl.getD i g0) k → ¬ FtD (gl.getD j g0) k
theorem DocIs.ft_lt {w : World} {B : Nat} {p : Nat × Value} {D : DS} (H : DocIs w p.1 B D p.2) {k : Nat} (h : FtD p k) : B ≤ k ∧ k < w.heap.size := by
  rcases h with rfl | h
  · exact ⟨H.ge, H.lt⟩
  · exact H.own.lt k h
theorem DCells.keep {w w' : World} {B r : Nat} {Nv Cv : Value} {ds : BDl} {gl : List (Nat × Value)} {X : Nat → Prop} (H : DCells w B r Nv Cv ds gl X) (hk : ∀ j, j < ds.length → ∀ k, FtD (gl.getD j g0) k → w'.heap[k]? = w.heap[k]?) : DCells w' B r Nv Cv ds gl X :=
  ⟨H.len, fun j hj => (H.cell j hj).keep (hk j hj _ (.inl rfl)) (fun k e => hk j hj k (.inr e)), H.ft, H.two⟩
/-- What bounds the document's numbers. -/
def Few (ds : BDl) (K : Nat) : Prop := ds.length ≤ K ∧ ∀ p ∈ ds, p.2.L.length ≤ K ∧ 0 ≤ p.2.now ∧ p.2.now ≤ K
theorem Few.more {ds : BDl} {K K' : Nat} (h : Few ds K) (hK : K ≤ K') : Few ds K' := ⟨Nat.le_trans h.1 hK, fun p hp => by have := h.2 p hp; omega⟩
def DocM (w : World) (B r : Nat) (Ls : Value) (ds : BDl) (K : Nat) (X : Nat → Prop) : Prop :=
  ∃ Nv Cv gl, DocO w B r Ls Nv Cv ds gl ∧ DCells w B r Nv Cv ds gl X ∧ (X r ∧ (∀ k, Nv.ownBlock = some k → X k) ∧ ∀ k, Cv.ownBlock = some k → X k) ∧ (∀ k, X k → B ≤ k ∧ k < w.heap.size) ∧ Few ds K
theorem DocM.keep {w w' : World} {B r : Nat} {Ls : Value} {ds : BDl} {K : Nat} {X : Nat → Prop} (H : DocM w B r Ls ds K X) (hs : w.heap.size ≤ w'.heap.size) (hk : ∀ k, X k → w'.heap[k]? = w.heap[k]?) : DocM w' B r Ls ds K X := by
  obtain ⟨Nv, Cv, gl, h1, h2, h3, h4, h5⟩ := H
  exact ⟨Nv, Cv, gl, h1.keep (hk _ h3.1) (fun k e => hk k (h3.2.1 k e)) (fun k e => hk k (h3.2.2 k e)), h2.keep (fun j hj k h => hk k (h2.ft j hj k h).1), h3, fun k h => ⟨(h4 k h).1, Nat.lt_of_lt_of_le (h4 k h).2 hs⟩, h5⟩
theorem DocM.lt {w : World} {B r : Nat} {Ls : Value} {ds : BDl} {K : Nat} {X : Nat → Prop} (H : DocM w B r Ls ds K X) : ∀ k, X k → B ≤ k ∧ k < w.heap.size := by
  obtain ⟨Nv, Cv, gl, h1, h2, h3, h4, h5⟩ := H
  exact h4
theorem DocM.up {w w' : World} {B r : Nat} {Ls : Value} {ds : BDl} {K : Nat} {X : Nat → Prop} (H : DocM w B r Ls ds K X) (u : Up w w') : DocM w' B r Ls ds K X := H.keep u.size fun k h => u.block k (H.lt k h).2
theorem DocM.beside {w w' : World} {B r : Nat} {Ls : Value} {ds : BDl} {K : Nat} {X Y : Nat → Prop} (H : DocM w B r Ls ds K X) (f : Fr w w' Y) (hXY : ∀ k, X k → ¬ Y k) : DocM w' B r Ls ds K X :=
  H.keep f.size fun k hk => f.block k (H.lt k hk).2 (hXY k hk)
theorem DocM.more {w : World} {B r : Nat} {Ls : Value} {ds : BDl} {K K' : Nat} {X X' : Nat → Prop} (H : DocM w B r Ls ds K X) (hK : K ≤ K') (hX : ∀ k, X k → X' k) (hX' : ∀ k, X' k → B ≤ k ∧ k < w.heap.size) : DocM w B r Ls ds K' X' := by
  obtain ⟨Nv, Cv, gl, h1, h2, h3, h4, h5⟩ := H
  exact ⟨Nv, Cv, gl, h1, ⟨h2.len, h2.cell, fun j hj k h => ⟨hX k (h2.ft j hj k h).1, (h2.ft j hj k h).2⟩, h2.two⟩, ⟨hX _ h3.1, fun k e => hX k (h3.2.1 k e), fun k e => hX k (h3.2.2 k e)⟩, hX', h5.more hK⟩

theorem placeZ_drop (ds : BDl) (n : Int) (j : Nat) (h : j < ds.length) : placeZ (ds.drop j) n j = if (ds.getD j d0).1 = n then (j : Int) else placeZ (ds.drop (j + 1)) n (j + 1) := by
  rw [List.drop_eq_getElem_cons h, List.getD_eq_getElem?_getD, List.getElem?_eq_getElem h]
  rfl
theorem busyZ_drop (ds : BDl) (t : Int) (j : Nat) (h : j < ds.length) : busyZ (ds.drop j) t = if 0 ≤ findZ (ds.getD j d0).2.L t 0 then (ds.getD j d0).1 else busyZ (ds.drop (j + 1)) t := by
  rw [List.drop_eq_getElem_cons h, List.getD_eq_getElem?_getD, List.getElem?_eq_getElem h]
  rfl
theorem num_at {ds : BDl} {k : Nat} (h : k < ds.length) : (ds.map numOf)[k]? = some (.int .i64 (ds.getD k d0).1) := by
  rw [List.getElem?_map, List.getD_eq_getElem?_getD, List.getElem?_eq_getElem h]; rfl
theorem ptr_at {gl : List (Nat × Value)} {k : Nat} (h : k < gl.length) : (gl.map ptrOf)[k]? = some (.pointer (some ⟨(gl.getD k g0).1, 0, none⟩)) := by
  rw [List.getElem?_map, List.getD_eq_getElem?_getD, List.getElem?_eq_getElem h]; rfl

set_option maxRecDepth 10000 in
set_option maxHeartbeats 1000000 in
theorem place_any (B r : Nat) (Ls Nv Cv : Value) (ds : BDl) (gl : List (Nat × Value)) (n : Int) (w : World) (H : DocO w B r Ls Nv Cv ds gl) (hd : ds.length ≤ 1000) :
    Calls Try.prog 42 #[.pointer (some ⟨r, 0, none⟩), .int .i64 n] w fun e w' => e = .returned (.int .i64 (placeZ ds n 0)) ∧ w' = w := by
  obtain ⟨A, c, rfl, hrow, _⟩ := own_row (f := fun k => .int .i64 (ds.getD k d0).1) H.own1 (fun k hk => num_at hk)
  have k1 := H.k1
  have HR := Lib.hid hrow
  clear H hrow
  go_enter Try.func42, Try.ntmps42
  go_wp2_with fail
  go_loopw [5] (fun u wr => ∃ j : Nat, j ≤ ds.length ∧ u = .int .i64 j ∧ Hid (placeZ ds n 0 = placeZ (ds.drop j) n j) ∧ wr = w) (fun u _ => ds.length - (intOf u).toNat)
  case atStart => exact ⟨0, by omega, rfl, Lib.hid rfl, by first | rfl | trivial⟩
  case round =>
    obtain ⟨j, hj, rfl, HF, rfl⟩ := hrel
    by_cases hlt : j < ds.length
    · have hji : (j : Int) < ds.length := by omega
      have hj0 : (0 : Int) ≤ j := by omega
      obtain ⟨b, off, rfl, x0⟩ := HR.out j hlt
      dsimp only at x0
      have hdr := placeZ_drop ds n j hlt
      generalize (ds.getD j d0).1 = q at *
      by_cases hq : q = n
      · have HD := Lib.hid (HF.out.trans (hdr.trans (if_pos hq)))
        have hqq : (q == n) = true := by rw [beq_iff_eq]; exact hq
        subst hq
        clear hdr
        go_wp2_with fail
        go_ret
        exact ⟨by rw [HD.out]; rfl, rfl⟩
      · have HD := Lib.hid (HF.out.trans (hdr.trans (if_neg hq)))
        have hqq : (q == n) = false := by rw [beq_eq_false_iff_ne]; exact hq
        clear hdr
        go_wp2_with fail
        go_roundw
        case rel => exact ⟨j + 1, by omega, by go_num, Lib.hid HD.out, trivial⟩
        case measure => simp [intOf]; omega
    · obtain rfl : j = ds.length := by omega
      have HD := Lib.hid (HF.out.trans (by rw [List.drop_eq_nil_of_le (Nat.le_refl _)]; rfl : _ = (-1 : Int)))
      clear hlt
      go_wp2_with fail
      go_ret
      exact ⟨by rw [HD.out]; rfl, rfl⟩

set_option maxRecDepth 10000 in
set_option maxHeartbeats 1000000 in
theorem rbusyB_any (B r K : Nat) (Ls Nv Cv : Value) (ds : BDl) (gl : List (Nat × Value)) (X : Nat → Prop) (t : Int) (w : World) (H : DocO w B r Ls Nv Cv ds gl) (HC : DCells w B r Nv Cv ds gl X) (hf : Few ds K) (hK : K ≤ 1000) :
    Calls Try.prog 25 #[.pointer (some ⟨r, 0, none⟩), .int .i64 t] w fun e w' => e = .returned (.int .i64 (busyZ ds t)) ∧ w' = w := by
  obtain ⟨A, c, rfl, hrow, _⟩ := own_row (f := fun k => .int .i64 (ds.getD k d0).1) H.own1 (fun k hk => num_at hk)
  obtain ⟨A2, c2, rfl, hrow2, _⟩ := own_row (f := fun k => .pointer (some ⟨(gl.getD k g0).1, 0, none⟩)) H.own2 (fun k hk => ptr_at hk)
  have k1 := H.k1
  have k2 := H.k2
  rw [HC.len] at k2 hrow2
  have HR := Lib.hid hrow
  have HR2 := Lib.hid hrow2
  have HCC := Lib.hid HC
  have HFW := Lib.hid hf
  have hdl : (ds.length : Int) ≤ 1000 := by have := hf.1; omega
  clear H hrow hrow2 HC hf
  go_enter Try.func25, Try.ntmps25
  go_wp2_with fail
  go_loopw [5] (fun u wr => ∃ j : Nat, j ≤ ds.length ∧ u = .int .i64 j ∧ Hid (busyZ ds t = busyZ (ds.drop j) t) ∧ wr = w) (fun u _ => ds.length - (intOf u).toNat)
  case atStart => exact ⟨0, by omega, rfl, Lib.hid rfl, by first | rfl | trivial⟩
  case round =>
    obtain ⟨j, hj, rfl, HF, rfl⟩ := hrel
    by_cases hlt : j < ds.length
    · have hji : (j : Int) < ds.length := by omega
      have hj0 : (0 : Int) ≤ j := by omega
      obtain ⟨b, off, rfl, x0⟩ := HR.out j hlt
      dsimp only at x0
      obtain ⟨b2, off2, rfl, x2⟩ := HR2.out j hlt
      dsimp only at x2
      have hdr := busyZ_drop ds t j hlt
      have HFI := Lib.hid (find_any _ B (ds.getD j d0).2 _ t wr (HCC.out.cell j hlt) (by have := (HFW.out.2 _ (getD_mem hlt)).1; omega))
      generalize (ds.getD j d0).1 = q at *
      generalize findZ (ds.getD j d0).2.L t 0 = z at *
      generalize (gl.getD j g0).1 = g at *
      by_cases hz : 0 ≤ z
      · have HD := Lib.hid (HF.out.trans (hdr.trans (if_pos hz)))
        clear hdr
        go_wp2_with fail
        refine HFI.out.mono ?_
        rintro e w1 ⟨rfl, rfl⟩
        go_wp2_with fail
        go_ret
        exact ⟨by rw [HD.out]; rfl, rfl⟩
      · have HD := Lib.hid (HF.out.trans (hdr.trans (if_neg hz)))
        have hzz : decide (0 ≤ z) = false := decide_eq_false hz
        clear hdr
        go_wp2_with fail
        refine HFI.out.mono ?_
        rintro e w1 ⟨rfl, rfl⟩
        go_wp2_with fail
        go_roundw
        case rel => exact ⟨j + 1, by omega, by go_num, Lib.hid HD.out, trivial⟩
        case measure => simp [intOf]; omega
    · obtain rfl : j = ds.length := by omega
      have HD := Lib.hid (HF.out.trans (by rw [List.drop_eq_nil_of_le (Nat.le_refl _)]; rfl : _ = (-1 : Int)))
      clear hlt
      go_wp2_with fail
      go_ret
      exact ⟨by rw [HD.out]; rfl, rfl⟩

set_option maxRecDepth 10000 in
set_option maxHeartbeats 1000000 in
theorem rvalueB_any (B r K : Nat) (Ls : Value) (ds : BDl) (X : Nat → Prop) (n : Int) (w : World) (H : DocM w B r Ls ds K X) (hK : K ≤ 1000) :
    Calls Try.prog 27 #[.pointer (some ⟨r, 0, none⟩), .int .i64 n] w fun e w' => e = .returned (.int .i64 (docValue ds n)) ∧ w' = w := by
  obtain ⟨Nv, Cv, gl, h1, h2, h3, h4, h5⟩ := H
  have HP := Lib.hid (place_any B r Ls Nv Cv ds gl n w h1 (by have := h5.1; omega))
  obtain ⟨A2, c2, rfl, hrow2, _⟩ := own_row (f := fun k => .pointer (some ⟨(gl.getD k g0).1, 0, none⟩)) h1.own2 (fun k hk => ptr_at hk)
  have k2 := h1.k2
  rw [h2.len] at k2 hrow2
  have HV : Hid (docValue ds n = if placeZ ds n 0 < 0 then 0 else (ds.getD (placeZ ds n 0).toNat d0).2.value) := Lib.hid rfl
  rcases placeZ_cases n ds 0 with ⟨f1, f2⟩ | ⟨j, f1, f2, f3⟩
  · rw [f1] at HP HV
    have HV2 := Lib.hid (HV.out.trans (if_pos (by decide)))
    clear h1 h2 h3 h4 h5 f1 f2 hrow2 HV
    go_enter Try.func27, Try.ntmps27
    go_wp2_with fail
    refine HP.out.mono ?_
    rintro e w1 ⟨rfl, rfl⟩
    go_wp2_with fail
    go_ret
    exact ⟨by rw [HV2.out]; rfl, rfl⟩
  · rw [f2] at HP HV
    rw [Nat.zero_add] at HP HV
    have HV2 := Lib.hid (HV.out.trans (if_neg (by omega)))
    rw [Int.toNat_natCast] at HV2
    obtain ⟨b2, off2, rfl, x2⟩ := hrow2 j f1
    dsimp only at x2
    have v2 := (h2.cell j f1).k2
    have hji : (j : Int) < ds.length := by omega
    have hj0 : (0 : Int) ≤ j := by omega
    generalize (ds.getD j d0).2.value = v at *
    generalize (gl.getD j g0).1 = g at *
    clear h1 h2 h3 h4 h5 f1 f2 f3 hrow2 HV
    go_enter Try.func27, Try.ntmps27
    go_wp2_with fail
    refine HP.out.mono ?_
    rintro e w1 ⟨rfl, rfl⟩
    go_wp2_with fail
    go_ret
    exact ⟨by rw [HV2.out]; rfl, rfl⟩

end Go.Proofs.Ytpapcheliohacaa
