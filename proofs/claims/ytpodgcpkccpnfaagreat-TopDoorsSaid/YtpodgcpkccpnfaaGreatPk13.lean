/-
  Parts of a proof, packed: WldM, WldA, WldB, TapeG, TapeH, TapeF
-/
import Derived.Deep.RegionLaw
import Derived.Deep.RegionHeld3
import Derived.Deep.DeepCutAuto
import Derived.Recover
import Derived.Defers
import Derived.Lib.Builder
import Derived.Test.YtpodgcpkccpnfaaGreatPk01
import Derived.Test.YtpodgcpkccpnfaaGreatPk02
import Derived.Test.YtpodgcpkccpnfaaGreatPk04
import Derived.Test.YtpodgcpkccpnfaaGreatPk12
set_option linter.unusedVariables false
set_option linter.unusedSimpArgs false
set_option maxRecDepth 20000
set_option maxHeartbeats 16000000
namespace Go.Proofs.YtpodgcpkccpnfaaGreat
open Go.RowKit
structure WK where
 B : Nat
 w1 : World
 b : Nat
 g : Nat
 h : Nat
 n : Nat
 c1 : Nat
 l : List SD
 ov : Value
 dv : Value
 pv : Nat → Value
 M : MD
def wF (K : WK) (drawn now : Nat) : Nat → Value
 | 0 => K.ov
 | 1 => .pointer (some ⟨K.h, 0, none⟩)
 | 2 => .slice (some ⟨K.g, 0, none⟩) K.n K.c1
 | 3 => K.dv
 | 4 => .int .i64 drawn
 | _ => .int .i64 now
def thF (th : ThD) (pv va vl : Value) : Nat → Value
 | 0 => pv
 | 1 => .int .i64 th.next
 | 2 => vl
 | 3 => va
 | 4 => .int .i64 th.acc.1
 | 5 => .int .i64 th.acc.2.1
 | 6 => .int .i64 th.acc.2.2
 | 7 => .int .i64 th.st
 | 8 => .int .i64 th.nts
 | 9 => .int .i64 th.accs
 | _ => .bool th.halted
structure Th (W : World) (g t : Nat) (f : Nat → Value) : Prop where
 cell : ∀ j, j < 11 → W.cell? ⟨g, t * 11 + j, none⟩ = some (f j)
theorem Th.keep {w w' : World} {g t : Nat} {f : Nat → Value} (H : Th w g t f) (h : w'.heap[g]? = w.heap[g]?) : Th w' g t f := ⟨fun j hj => (tcell h).trans (H.cell j hj)⟩
theorem Th.set {w : World} {g t : Nat} {f f' : Nat → Value} (H : Th w g t f) {j : Nat} (hj : j < 11) (v : Value) (hf : ∀ i, i < 11 → f' i = if i = j then v else f i) : Th (w.setCell ⟨g, t * 11 + j, none⟩ v) g t f' := by
 refine ⟨fun i hi => ?_⟩
 rw [hf i hi]
 by_cases e : i = j
 · subst e
   rw [if_pos rfl]
   exact World.cell?_setCell_same _ _ _ (H.cell i hi)
 · rw [if_neg e]
   exact (World.cell?_setCell_other _ _ _ _ (by simp <;> omega)).trans (H.cell i hi)
theorem Th.other {w : World} {g t t' : Nat} {f : Nat → Value} (H : Th w g t f) (ht : t' ≠ t) {j : Nat} (hj : j < 11) (v : Value) : Th (w.setCell ⟨g, t' * 11 + j, none⟩ v) g t f :=
 ⟨fun i hi => (World.cell?_setCell_other _ _ _ _ (by simp only [ne_eq, Addr.mk.injEq, and_true, true_and, not_and]; omega)).trans (H.cell i hi)⟩
structure Wd (K : WK) (W : World) (S : WD) (N : Nat) (va vl : Nat → Value) (ow : Nat → Nat) : Prop where
 n : S.n = K.n
 up : Below K.B K.w1 W
 Bw : K.B ≤ K.w1.heap.size
 ro : ∀ k, k < K.w1.heap.size → ow k = 0 → W.heap[k]? = K.w1.heap[k]?
 own : ∀ k, ow k ≠ 0 → K.B ≤ k ∧ k < W.heap.size
 ob : ow K.b = 1
 og : ow K.g = 2
 cb : ∀ j, j < 6 → W.cell? ⟨K.b, j, none⟩ = some (wF K S.drawn S.now j)
 fb : ∀ j, W.frozen? ⟨K.b, j, none⟩ = false
 cg : ∀ t, t < K.n → Th W K.g t (thF (S.ths t) (K.pv t) (va t) (vl t))
 fg : ∀ j, W.frozen? ⟨K.g, j, none⟩ = false
 ra : ∀ t, t < K.n → W.ownsRow K.B 3 1 (va t) (S.ths t).ans.length (icells (S.ths t).ans)
 rl : ∀ t, t < K.n → W.ownsRow K.B 3 1 (vl t) (S.ths t).loc.length (icells (S.ths t).loc)
 oa : ∀ t k, t < K.n → (va t).ownBlock = some k → ow k = 4 + 2 * t
 ol : ∀ t k, t < K.n → (vl t).ownBlock = some k → ow k = 5 + 2 * t
 bk : BankM W K.B K.h K.l S.bank N (fun k => ow k = 3)
section
variable {K : WK} {W W' : World} {S S' : WD} {N N' : Nat} {va vl : Nat → Value} {ow : Nat → Nat}
theorem Wd.sz (H : Wd K W S N va vl ow) : K.B ≤ W.heap.size := Nat.le_trans H.Bw H.up.size
theorem Wd.bt (H : Wd K W S N va vl ow) : K.b < W.heap.size := (H.own _ (by rw [H.ob]; decide)).2
theorem Wd.gt (H : Wd K W S N va vl ow) : K.g < W.heap.size := (H.own _ (by rw [H.og]; decide)).2
theorem Wd.bg (H : Wd K W S N va vl ow) : K.b ≠ K.g := fun e => by have h1 := H.ob; rw [e, H.og] at h1; cases h1
theorem Wd.keep (H : Wd K W S N va vl ow) (U : Below K.B W W') (hk : ∀ k, k < W.heap.size → ow k ≠ 0 → W'.heap[k]? = W.heap[k]?) (hr : ∀ k, k < K.w1.heap.size → ow k = 0 → W'.heap[k]? = W.heap[k]?) : Wd K W' S N va vl ow where
 n := H.n
 up := H.up.trans U
 Bw := H.Bw
 ro := fun k h1 h2 => (hr k h1 h2).trans (H.ro k h1 h2)
 own := fun k h => ⟨(H.own k h).1, Nat.lt_of_lt_of_le (H.own k h).2 U.size⟩
 ob := H.ob
 og := H.og
 cb := fun j hj => (cellE (hk _ H.bt (by rw [H.ob]; decide))).trans (H.cb j hj)
 fb := fun j => (frozenE (hk _ H.bt (by rw [H.ob]; decide))).trans (H.fb j)
 cg := fun t ht => (H.cg t ht).keep (hk _ H.gt (by rw [H.og]; decide))
 fg := fun j => (frozenE (hk _ H.gt (by rw [H.og]; decide))).trans (H.fg j)
 ra := fun t ht => own_same (H.ra t ht) fun k e => hk k ((H.ra t ht).lt k e).2 (by rw [H.oa t k ht e]; omega)
 rl := fun t ht => own_same (H.rl t ht) fun k e => hk k ((H.rl t ht).lt k e).2 (by rw [H.ol t k ht e]; omega)
 oa := H.oa
 ol := H.ol
 bk := H.bk.keep U.size fun k hx => hk k (H.bk.lt k hx).2 (by rw [hx]; decide)
theorem Wd.grow (H : Wd K W S N va vl ow) (U : Up W W') : Wd K W' S N va vl ow :=
 H.keep (Below.mono U H.sz) (fun k hk _ => U.block k hk) (fun k hk _ => U.block k (Nat.lt_of_lt_of_le hk H.up.size))
theorem Wd.bank (H : Wd K W S N va vl ow) {B' : BS} (F : Fr W W' (fun k => ow k = 3)) (BM : BankM W' K.B K.h K.l B' N' (XG (fun k => ow k = 3) W W')) :
 Wd K W' { S with bank := B' } N' va vl (fun k => if W.heap.size ≤ k ∧ k < W'.heap.size then 3 else ow k) := by
 have hnew : ∀ k, k < W.heap.size → (if W.heap.size ≤ k ∧ k < W'.heap.size then 3 else ow k) = ow k := fun k hk => if_neg (by omega)
 have hX : (XG (fun k => ow k = 3) W W') = fun k => (if W.heap.size ≤ k ∧ k < W'.heap.size then 3 else ow k) = 3 := by
  funext k
  unfold XG
  by_cases e : W.heap.size ≤ k ∧ k < W'.heap.size
  · simp [e]
  · rw [if_neg e]
    simp [e]
 have hU : Below K.B W W' := ⟨F.os, F.tape, F.output, F.size, fun k hk => F.block k (Nat.lt_of_lt_of_le hk H.sz) (fun e => by have := (H.own k (by rw [e]; decide)).1; omega)⟩
 have hk : ∀ k, k < W.heap.size → ow k ≠ 3 → W'.heap[k]? = W.heap[k]? := fun k h1 h2 => F.block k h1 h2
 refine ⟨H.n, H.up.trans hU, H.Bw, fun k h1 h2 => ?_, fun k h => ?_, ?_, ?_, fun j hj => ?_, fun j => ?_, fun t ht => ?_, fun j => ?_, fun t ht => ?_, fun t ht => ?_, fun t k ht e => ?_, fun t k ht e => ?_, ?_⟩
 · have h3 : k < W.heap.size := Nat.lt_of_lt_of_le h1 H.up.size
   have h2 : (if W.heap.size ≤ k ∧ k < W'.heap.size then 3 else ow k) = 0 := h2
   rw [hnew k h3] at h2
   exact (hk k h3 (by rw [h2]; decide)).trans (H.ro k h1 h2)
 · have h : (if W.heap.size ≤ k ∧ k < W'.heap.size then 3 else ow k) ≠ 0 := h
   by_cases e : W.heap.size ≤ k ∧ k < W'.heap.size
   · exact ⟨Nat.le_trans H.sz e.1, e.2⟩
   · rw [if_neg e] at h
     exact ⟨(H.own k h).1, Nat.lt_of_lt_of_le (H.own k h).2 F.size⟩
 · exact (hnew _ H.bt).trans H.ob
 · exact (hnew _ H.gt).trans H.og
 · exact (cellE (hk _ H.bt (by rw [H.ob]; decide))).trans (H.cb j hj)
 · exact (frozenE (hk _ H.bt (by rw [H.ob]; decide))).trans (H.fb j)
 · exact (H.cg t ht).keep (hk _ H.gt (by rw [H.og]; decide))
 · exact (frozenE (hk _ H.gt (by rw [H.og]; decide))).trans (H.fg j)
 · exact own_same (H.ra t ht) fun k e => hk k ((H.ra t ht).lt k e).2 (by rw [H.oa t k ht e]; omega)
 · exact own_same (H.rl t ht) fun k e => hk k ((H.rl t ht).lt k e).2 (by rw [H.ol t k ht e]; omega)
 · exact (hnew k ((H.ra t ht).lt k e).2).trans (H.oa t k ht e)
 · exact (hnew k ((H.rl t ht).lt k e).2).trans (H.ol t k ht e)
 · rw [← hX]; exact BM
theorem Wd.setG (H : Wd K W S N va vl ow) {t j : Nat} (ht : t < K.n) (hj : j < 11) (v : Value) {th : ThD} (hf : ∀ i, i < 11 → thF th (K.pv t) (va t) (vl t) i = if i = j then v else thF (S.ths t) (K.pv t) (va t) (vl t) i) (e1 : th.ans = (S.ths t).ans) (e2 : th.loc = (S.ths t).loc) :
 Wd K (W.setCell ⟨K.g, t * 11 + j, none⟩ v) (S.put t th) N va vl ow := by
 have hk : ∀ k, k ≠ K.g → (W.setCell ⟨K.g, t * 11 + j, none⟩ v).heap[k]? = W.heap[k]? := fun k hne => Below.heap_setCell W ⟨K.g, t * 11 + j, none⟩ v k hne
 have hg := (H.own K.g (by rw [H.og]; decide)).1
 refine ⟨H.n, H.up.trans ((Below.refl K.B W).setCell (p := ⟨K.g, t * 11 + j, none⟩) hg v), H.Bw, fun k h1 h2 => (hk k (fun e => by rw [e, H.og] at h2; cases h2)).trans (H.ro k h1 h2), fun k h => by simpa using H.own k h, H.ob, H.og, fun i hi => (cellE (hk _ H.bg)).trans (H.cb i hi), fun i => (frozenE (hk _ H.bg)).trans (H.fb i), fun i hi => ?_, fun i => by simpa [go_sem] using H.fg i, fun i hi => ?_, fun i hi => ?_, H.oa, H.ol, H.bk.keep (by simp) fun k hx => hk k (fun e => by rw [e, H.og] at hx; cases hx)⟩
 · by_cases e : i = t
   · subst e
     rw [put_same]
     exact (H.cg i hi).set hj v hf
   · rw [put_other _ _ e]
     exact (H.cg i hi).other (Ne.symm e) hj v
 · have : ((S.put t th).ths i).ans = (S.ths i).ans := by
    by_cases e : i = t
    · subst e; rw [put_same, e1]
    · rw [put_other _ _ e]
   rw [this]
   exact own_same (H.ra i hi) fun k e => hk k (fun e2 => by have := H.oa i k hi e; rw [e2, H.og] at this; omega)
 · have : ((S.put t th).ths i).loc = (S.ths i).loc := by
    by_cases e : i = t
    · subst e; rw [put_same, e2]
    · rw [put_other _ _ e]
   rw [this]
   exact own_same (H.rl i hi) fun k e => hk k (fun e2 => by have := H.ol i k hi e; rw [e2, H.og] at this; omega)
theorem Wd.setB (H : Wd K W S N va vl ow) {j : Nat} (hj : j < 6) (v : Value) {dr nw : Nat} (hf : ∀ i, i < 6 → wF K dr nw i = if i = j then v else wF K S.drawn S.now i) :
 Wd K (W.setCell ⟨K.b, j, none⟩ v) { S with drawn := dr, now := nw } N va vl ow := by
 have hk : ∀ k, k ≠ K.b → (W.setCell ⟨K.b, j, none⟩ v).heap[k]? = W.heap[k]? := fun k hne => Below.heap_setCell W ⟨K.b, j, none⟩ v k hne
 have hb := (H.own K.b (by rw [H.ob]; decide)).1
 refine ⟨H.n, H.up.trans ((Below.refl K.B W).setCell (p := ⟨K.b, j, none⟩) hb v), H.Bw, fun k h1 h2 => (hk k (fun e => by rw [e, H.ob] at h2; cases h2)).trans (H.ro k h1 h2), fun k h => by simpa using H.own k h, H.ob, H.og, fun i hi => ?_, fun i => by simpa [go_sem] using H.fb i, fun i hi => (H.cg i hi).keep (hk _ H.bg.symm), fun i => (frozenE (hk _ H.bg.symm)).trans (H.fg i), fun i hi => ?_, fun i hi => ?_, H.oa, H.ol, H.bk.keep (by simp) fun k hx => hk k (fun e => by rw [e, H.ob] at hx; cases hx)⟩
 · show _ = some (wF K dr nw i)
   rw [hf i hi]
   by_cases e : i = j
   · subst e
     rw [if_pos rfl]
     exact World.cell?_setCell_same _ _ _ (H.cb i hi)
   · rw [if_neg e]
     exact (World.cell?_setCell_other _ _ _ _ (by simp <;> omega)).trans (H.cb i hi)
 · exact own_same (H.ra i hi) fun k e => hk k (fun e2 => by have := H.oa i k hi e; rw [e2, H.ob] at this; omega)
 · exact own_same (H.rl i hi) fun k e => hk k (fun e2 => by have := H.ol i k hi e; rw [e2, H.ob] at this; omega)
theorem Wd.setL (H : Wd K W S N va vl ow) {t : Nat} (ht : t < K.n) {v : Value} {l : List Int} (hv : W.ownsRow K.B 3 1 v l.length (icells l)) (hnew : ∀ k, v.ownBlock = some k → ow k = 0 ∧ K.w1.heap.size ≤ k) :
 Wd K (W.setCell ⟨K.g, t * 11 + 2, none⟩ v) (S.put t { S.ths t with loc := l }) N va (fun i => if i = t then v else vl i) (fun k => if v.ownBlock = some k then 5 + 2 * t else ow k) := by
 have hk : ∀ k, k ≠ K.g → (W.setCell ⟨K.g, t * 11 + 2, none⟩ v).heap[k]? = W.heap[k]? := fun k hne => Below.heap_setCell W ⟨K.g, t * 11 + 2, none⟩ v k hne
 have hg := (H.own K.g (by rw [H.og]; decide)).1
 have hold : ∀ k, ow k ≠ 0 → (if v.ownBlock = some k then 5 + 2 * t else ow k) = ow k := fun k h => if_neg (fun e => h (hnew k e).1)
 have hX : (fun k => ow k = 3) = fun k => (if v.ownBlock = some k then 5 + 2 * t else ow k) = 3 := by
  funext k
  by_cases e : v.ownBlock = some k
  · rw [if_pos e, (hnew k e).1]; simp; omega
  · rw [if_neg e]
 refine ⟨H.n, H.up.trans ((Below.refl K.B W).setCell (p := ⟨K.g, t * 11 + 2, none⟩) hg v), H.Bw, fun k h1 h2 => ?_, fun k h => ?_, (hold _ (by rw [H.ob]; decide)).trans H.ob, (hold _ (by rw [H.og]; decide)).trans H.og, fun i hi => (cellE (hk _ H.bg)).trans (H.cb i hi), fun i => (frozenE (hk _ H.bg)).trans (H.fb i), fun i hi => ?_, fun i => by simpa [go_sem] using H.fg i, fun i hi => ?_, fun i hi => ?_, fun i k hi e => (hold k (by rw [H.oa i k hi e]; omega)).trans (H.oa i k hi e), fun i k hi e => ?_, ?_⟩
 · have h2 : (if v.ownBlock = some k then 5 + 2 * t else ow k) = 0 := h2
   by_cases e : v.ownBlock = some k
   · have := (hnew k e).2; omega
   · rw [if_neg e] at h2
     exact (hk k (fun e => by rw [e, H.og] at h2; cases h2)).trans (H.ro k h1 h2)
 · have h : (if v.ownBlock = some k then 5 + 2 * t else ow k) ≠ 0 := h
   by_cases e : v.ownBlock = some k
   · simpa using hv.lt k e
   · rw [if_neg e] at h
     simpa using H.own k h
 · by_cases e : i = t
   · subst e
     rw [put_same]
     have := (H.cg i hi).set (f' := thF { S.ths i with loc := l } (K.pv i) (va i) v) (j := 2) (by decide) v (fun j hj => by match j, hj with | 0, _ | 1, _ | 2, _ | 3, _ | 4, _ | 5, _ | 6, _ | 7, _ | 8, _ | 9, _ | 10, _ => rfl)
     simp only [if_true]
     exact this
   · rw [put_other _ _ e]
     simp only [if_neg e]
     exact (H.cg i hi).other (Ne.symm e) (by decide) v
 · have : ((S.put t { S.ths t with loc := l }).ths i).ans = (S.ths i).ans := by
    by_cases e : i = t
    · subst e; rw [put_same]
    · rw [put_other _ _ e]
   rw [this]
   exact own_same (H.ra i hi) fun k e => hk k (fun e2 => by have := H.oa i k hi e; rw [e2, H.og] at this; omega)
 · by_cases e : i = t
   · subst e
     rw [put_same]
     simp only [if_true]
     exact own_same hv fun k e => hk k (fun e2 => by have := (hnew k e).1; rw [e2, H.og] at this; cases this)
   · rw [put_other _ _ e]
     simp only [if_neg e]
     exact own_same (H.rl i hi) fun k e => hk k (fun e2 => by have := H.ol i k hi e; rw [e2, H.og] at this; omega)
 · by_cases e2 : i = t
   · subst e2
     simp only [if_true] at e
     exact if_pos e
   · simp only [if_neg e2] at e
     exact (hold k (by rw [H.ol i k hi e]; omega)).trans (H.ol i k hi e)
 · rw [← hX]
   exact H.bk.keep (by simp) fun k hx => hk k (fun e => by rw [e, H.og] at hx; cases hx)
theorem Wd.setA0 (H : Wd K W S N va vl ow) {t : Nat} (ht : t < K.n) :
 Wd K (W.setCell ⟨K.g, t * 11 + 3, none⟩ (.slice none 0 0)) (S.put t { S.ths t with ans := [] }) N (fun i => if i = t then .slice none 0 0 else va i) vl ow := by
 have hk : ∀ k, k ≠ K.g → (W.setCell ⟨K.g, t * 11 + 3, none⟩ (.slice none 0 0)).heap[k]? = W.heap[k]? := fun k hne => Below.heap_setCell W ⟨K.g, t * 11 + 3, none⟩ _ k hne
 have hg := (H.own K.g (by rw [H.og]; decide)).1
 refine ⟨H.n, H.up.trans ((Below.refl K.B W).setCell (p := ⟨K.g, t * 11 + 3, none⟩) hg _), H.Bw, fun k h1 h2 => (hk k (fun e => by rw [e, H.og] at h2; cases h2)).trans (H.ro k h1 h2), fun k h => by simpa using H.own k h, H.ob, H.og, fun i hi => (cellE (hk _ H.bg)).trans (H.cb i hi), fun i => (frozenE (hk _ H.bg)).trans (H.fb i), fun i hi => ?_, fun i => by simpa [go_sem] using H.fg i, fun i hi => ?_, fun i hi => ?_, fun i k hi e => ?_, H.ol, H.bk.keep (by simp) fun k hx => hk k (fun e => by rw [e, H.og] at hx; cases hx)⟩
 · by_cases e : i = t
   · subst e
     rw [put_same]
     simp only [if_true]
     exact (H.cg i hi).set (f' := thF { S.ths i with ans := [] } (K.pv i) (.slice none 0 0) (vl i)) (j := 3) (by decide) _ (fun j hj => by match j, hj with | 0, _ | 1, _ | 2, _ | 3, _ | 4, _ | 5, _ | 6, _ | 7, _ | 8, _ | 9, _ | 10, _ => rfl)
   · rw [put_other _ _ e]
     simp only [if_neg e]
     exact (H.cg i hi).other (Ne.symm e) (by decide) _
 · by_cases e : i = t
   · subst e
     rw [put_same]
     simp only [if_true]
     exact World.ownsRow_nil _ _ _ _
   · rw [put_other _ _ e]
     simp only [if_neg e]
     exact own_same (H.ra i hi) fun k e => hk k (fun e2 => by have := H.oa i k hi e; rw [e2, H.og] at this; omega)
 · have : ((S.put t { S.ths t with ans := [] }).ths i).loc = (S.ths i).loc := by
    by_cases e : i = t
    · subst e; rw [put_same]
    · rw [put_other _ _ e]
   rw [this]
   exact own_same (H.rl i hi) fun k e => hk k (fun e2 => by have := H.ol i k hi e; rw [e2, H.og] at this; omega)
 · by_cases e2 : i = t
   · subst e2
     simp only [if_true] at e
     cases e
   · simp only [if_neg e2] at e
     exact H.oa i k hi e
theorem Wd.growA {W1 : World} (H : Wd K W S N va vl ow) {t : Nat} (ht : t < K.n) {g1 cap : Nat} {x : Int} (G : W.grownBy W1 (va t).ownBlock) (O : W1.ownsRow K.B 3 1 (.slice (some ⟨g1, 0, none⟩) ((S.ths t).ans.length + 1) cap) ((S.ths t).ans.length + 1) (icells (S.ths t).ans ++ [.int .i64 x])) (hat : (va t).ownBlock = some g1 ∨ W.heap.size ≤ g1) :
 W1.cell? ⟨K.g, t * 11 + 3, none⟩ = some (va t) ∧ W1.frozen? ⟨K.g, t * 11 + 3, none⟩ = false ∧
 Wd K (W1.setCell ⟨K.g, t * 11 + 3, none⟩ (.slice (some ⟨g1, 0, none⟩) ((S.ths t).ans.length + 1) cap)) (S.put t { S.ths t with ans := (S.ths t).ans ++ [x] }) N (fun i => if i = t then .slice (some ⟨g1, 0, none⟩) ((S.ths t).ans.length + 1) cap else va i) vl (fun k => if k = g1 then 4 + 2 * t else ow k) := by
 have hg := (H.own K.g (by rw [H.og]; decide)).1
 have hk1 : ∀ k, k < W.heap.size → ow k ≠ 4 + 2 * t → W1.heap[k]? = W.heap[k]? := fun k hk hne => G.block k hk (fun e => hne (H.oa t k ht e.symm))
 have hk1r : ∀ k, k < W.heap.size → ow k = 0 → W1.heap[k]? = W.heap[k]? := fun k hk h0 => hk1 k hk (by rw [h0]; omega)
 have hkk : ∀ k, k ≠ K.g → (W1.setCell ⟨K.g, t * 11 + 3, none⟩ (.slice (some ⟨g1, 0, none⟩) ((S.ths t).ans.length + 1) cap)).heap[k]? = W1.heap[k]? := fun k hne => Below.heap_setCell W1 ⟨K.g, t * 11 + 3, none⟩ _ k hne
 have hgg := hk1 K.g H.gt (by rw [H.og]; omega)
 have hg1 : ∀ k, k = g1 → ow k = 4 + 2 * t ∨ W.heap.size ≤ k := fun k e => by
  subst e
  exact hat.imp (H.oa t k ht) id
 have hold : ∀ k, ow k ≠ 0 → (if k = g1 then 4 + 2 * t else ow k) = ow k := fun k h => by
  by_cases e : k = g1
  · rw [if_pos e]
    rcases hg1 k e with q | q
    · exact q.symm
    · have := (H.own k h).2; omega
  · exact if_neg e
 have hX : (fun k => ow k = 3) = fun k => (if k = g1 then 4 + 2 * t else ow k) = 3 := by
  funext k
  by_cases e : k = g1
  · rw [if_pos e]
    rcases hg1 k e with q | q
    · rw [q]
    · have h0 : ow k = 0 := by
       rcases Nat.eq_zero_or_pos (ow k) with h | h
       · exact h
       · have := (H.own k (by omega)).2; omega
      rw [h0]; simp; omega
  · rw [if_neg e]
 have hB : Below K.B W W1 := grownBy_below G H.sz (own_ge (H.ra t ht))
 have hsz : (W1.setCell ⟨K.g, t * 11 + 3, none⟩ (.slice (some ⟨g1, 0, none⟩) ((S.ths t).ans.length + 1) cap)).heap.size = W1.heap.size := by simp
 refine ⟨(cellE hgg).trans ((H.cg t ht).cell 3 (by decide)), (frozenE hgg).trans (H.fg _), H.n, (H.up.trans hB).setCell (p := ⟨K.g, t * 11 + 3, none⟩) hg _, H.Bw, fun k h1 h2 => ?_, fun k h => ?_, (hold _ (by rw [H.ob]; decide)).trans H.ob, (hold _ (by rw [H.og]; decide)).trans H.og, fun i hi => ?_, fun i => ?_, fun i hi => ?_, fun i => ?_, fun i hi => ?_, fun i hi => ?_, fun i k hi e => ?_, fun i k hi e => (hold k (by rw [H.ol i k hi e]; omega)).trans (H.ol i k hi e), ?_⟩
 · have h2 : (if k = g1 then 4 + 2 * t else ow k) = 0 := h2
   by_cases e : k = g1
   · rw [if_pos e] at h2; omega
   · rw [if_neg e] at h2
     exact (hkk k (fun e => by rw [e, H.og] at h2; cases h2)).trans ((hk1r k (Nat.lt_of_lt_of_le h1 H.up.size) h2).trans (H.ro k h1 h2))
 · have h : (if k = g1 then 4 + 2 * t else ow k) ≠ 0 := h
   rw [hsz]
   by_cases e : k = g1
   · have := O.lt k (by rw [e]; rfl)
     exact this
   · rw [if_neg e] at h
     exact ⟨(H.own k h).1, Nat.lt_of_lt_of_le (H.own k h).2 G.size⟩
 · exact (cellE ((hkk _ H.bg).trans (hk1 _ H.bt (by rw [H.ob]; omega)))).trans (H.cb i hi)
 · exact (frozenE ((hkk _ H.bg).trans (hk1 _ H.bt (by rw [H.ob]; omega)))).trans (H.fb i)
 · by_cases e : i = t
   · subst e
     rw [put_same]
     simp only [if_true]
     exact ((H.cg i hi).keep hgg).set (f' := thF { S.ths i with ans := (S.ths i).ans ++ [x] } (K.pv i) (.slice (some ⟨g1, 0, none⟩) ((S.ths i).ans.length + 1) cap) (vl i)) (j := 3) (by decide) _ (fun j hj => by match j, hj with | 0, _ | 1, _ | 2, _ | 3, _ | 4, _ | 5, _ | 6, _ | 7, _ | 8, _ | 9, _ | 10, _ => rfl)
   · rw [put_other _ _ e]
     simp only [if_neg e]
     exact ((H.cg i hi).keep hgg).other (Ne.symm e) (by decide) _
 · have := (frozenE (o := i) hgg).trans (H.fg i)
   simpa [go_sem] using this
 · by_cases e : i = t
   · subst e
     rw [put_same]
     simp only [if_true]
     have e1 : ((S.ths i).ans ++ [x]).length = (S.ths i).ans.length + 1 := by simp
     have e2 : icells ((S.ths i).ans ++ [x]) = icells (S.ths i).ans ++ [.int .i64 x] := by unfold icells; simp
     show World.ownsRow _ _ _ _ _ ((S.ths i).ans ++ [x]).length (icells ((S.ths i).ans ++ [x]))
     rw [e1, e2]
     refine own_same O fun k e => hkk k (fun e2 => ?_)
     have e3 : k = g1 := by cases e; rfl
     rcases hg1 k e3 with q | q
     · rw [e2, H.og] at q; omega
     · have := H.gt; omega
   · rw [put_other _ _ e]
     simp only [if_neg e]
     exact own_same (H.ra i hi) fun k e3 => (hkk k (fun e2 => by have := H.oa i k hi e3; rw [e2, H.og] at this; omega)).trans (hk1 k ((H.ra i hi).lt k e3).2 (by rw [H.oa i k hi e3]; omega))
 · have : ((S.put t { S.ths t with ans := (S.ths t).ans ++ [x] }).ths i).loc = (S.ths i).loc := by
    by_cases e : i = t
    · subst e; rw [put_same]
    · rw [put_other _ _ e]
   rw [this]
   exact own_same (H.rl i hi) fun k e3 => (hkk k (fun e2 => by have := H.ol i k hi e3; rw [e2, H.og] at this; omega)).trans (hk1 k ((H.rl i hi).lt k e3).2 (by rw [H.ol i k hi e3]; omega))
 · by_cases e2 : i = t
   · subst e2
     simp only [if_true] at e
     have e3 : k = g1 := by cases e; rfl
     exact if_pos e3
   · simp only [if_neg e2] at e
     exact (hold k (by rw [H.oa i k hi e]; omega)).trans (H.oa i k hi e)
 · rw [← hX]
   exact H.bk.keep (by rw [hsz]; exact G.size) fun k hx => (hkk k (fun e => by rw [e, H.og] at hx; cases hx)).trans (hk1 k (H.bk.lt k hx).2 (by rw [hx]; omega))
end
end Go.Proofs.YtpodgcpkccpnfaaGreat

namespace Go.Proofs.YtpodgcpkccpnfaaGreat
open Go.RowKit
theorem wat_any (b g n c1 t : Nat) (w : World) (h2 : w.cell? ⟨b, 2, none⟩ = some (.slice (some ⟨g, 0, none⟩) n c1)) (ht : t < n) (hn : n ≤ 8) (hc : n ≤ c1 ∧ c1 ≤ 9223372036854775807) : Calls Tryz.prog 54 #[.pointer (some ⟨b, 0, none⟩), .int .i64 t] w fun e w' => e = .returned (.pointer (some ⟨g, t * 11, none⟩)) ∧ w' = w := by
 have h0 : (0 : Int) ≤ (t : Int) := by omega
 have h1 : (t : Int) < (n : Int) := by omega
 go_enter Tryz.func54, Tryz.ntmps54
 go_wp2_with fail
 go_ret
 exact ⟨rfl, rfl⟩
theorem mod_wrap (d nd : Nat) (h : d < nd) (hn : nd ≤ 64) : IntKind.i64.wrap ((d : Int) + 1) = ((d + 1 : Nat) : Int) ∧ ((d + 1 : Nat) : Int).tmod (nd : Int) = (((d + 1) % nd : Nat) : Int) ∧ (nd = 0) = False := by
 have e : (((d + 1) % nd : Nat) : Int) = ((d + 1 : Nat) : Int).tmod (nd : Int) := by simp [Int.tmod]
 refine ⟨?_, e.symm, by simp; omega⟩
 rw [i64w _ (by omega) (by omega)]; omega
structure DrawsAt (K : WK) (W : World) : Prop where
 few : K.M.draws.length ≤ 64
 row : ∃ A c, K.dv = .slice A K.M.draws.length c ∧ Row W A K.M.draws.length (IVal K.M.draws) ∧ (A = none → c = 0) ∧ K.M.draws.length ≤ c ∧ c ≤ 9223372036854775807
theorem Fr.set1 {w w1 : World} {b j : Nat} (u : Up w w1) (v : Value) (X : Nat → Prop) (hX : X b := by rfl) : Fr w (w1.setCell ⟨b, j, none⟩ v) X :=
 ⟨u.os, u.tape, u.output, by simpa using u.size, fun k hk hn => (Below.heap_setCell w1 ⟨b, j, none⟩ v k (fun e => hn (by rw [show k = b from e]; exact hX))).trans (u.block k hk)⟩
theorem wdraw_any {Z : WK} {W : World} {S : WD} {N : Nat} {va vl : Nat → Value} {ow : Nat → Nat} (H : Wd Z W S N va vl ow) (hD : DrawsAt Z W) (t : Nat) (hdr : Z.M.draws.length = 0 ∨ S.drawn < Z.M.draws.length) :
 Calls Tryz.prog 56 #[.pointer (some ⟨Z.b, 0, none⟩), .agg #[.int .i64 (S.ths t).acc.1, .int .i64 (S.ths t).acc.2.1, .int .i64 (S.ths t).acc.2.2]] W fun e w' => e = .returned (.int .i64 (drawV Z.M t S)) ∧ Wd Z w' { S with drawn := drawN' Z.M t S } N va vl ow ∧ Fr W w' (fun k => k = Z.b) := by
 obtain ⟨A, c, hdv, hrow, hnil, hle, hle2⟩ := hD.row
 have hfew := hD.few
 have b3 : W.cell? ⟨Z.b, 3, none⟩ = some (.slice A Z.M.draws.length c) := by rw [← hdv]; exact H.cb 3 (by decide)
 have b4 : W.cell? ⟨Z.b, 4, none⟩ = some (.int .i64 S.drawn) := H.cb 4 (by decide)
 have f4 := H.fb 4
 have hbl := cell_lt b3
 obtain ⟨k0, hk0⟩ : ∃ k, (S.ths t).acc.1 = k := ⟨_, rfl⟩
 obtain ⟨k1, hk1⟩ : ∃ k, (S.ths t).acc.2.1 = k := ⟨_, rfl⟩
 obtain ⟨k2, hk2⟩ : ∃ k, (S.ths t).acc.2.2 = k := ⟨_, rfl⟩
 have hu : Up W (W.alloc (.cells #[.int .i64 k0, .int .i64 k1, .int .i64 k2] 111)) := (Up.refl W).alloc _
 have HH := hQ' (H.grow hu)
 have HU := hQ' hu
 rw [hk0, hk1, hk2]
 by_cases hq : k0 ≠ 1 ∨ Z.M.draws.length = 0
 · have e1 : drawV Z.M t S = 0 := by unfold drawV; rw [hk0, if_pos hq]
   have e2 : drawN' Z.M t S = S.drawn := by unfold drawN'; rw [hk0, if_pos hq]
   rw [e1, e2]
   by_cases hk : k0 = 1
   · subst hk
     have hl0 : Z.M.draws.length = 0 := by omega
     rw [hl0] at b3
     clear hdr hrow hdv hle hfew e1 e2 hq hk0 hk1 hk2 hD H hu
     go_enter Tryz.func56, Tryz.ntmps56
     go_wp2_with fail
     go_ret
     exact ⟨rfl, HH.out, Fr.ofUp HU.out⟩
   · have e0 : (k0 != 1) = true := by rw [bne_iff_ne]; exact hk
     clear hdr hrow hdv hle hfew e1 e2 hq hk0 hk1 hk2 hD H hu
     go_enter Tryz.func56, Tryz.ntmps56
     go_wp2_with fail
     go_ret
     exact ⟨rfl, HH.out, Fr.ofUp HU.out⟩
 · have hk : k0 = 1 := by omega
   have hl : S.drawn < Z.M.draws.length := by omega
   subst hk
   have e1 : drawV Z.M t S = Z.M.draws.getD S.drawn 0 := by unfold drawV; rw [hk0, if_neg hq]
   have e2 : drawN' Z.M t S = (S.drawn + 1) % Z.M.draws.length := by unfold drawN'; rw [hk0, if_neg hq]
   rw [e1, e2]
   obtain ⟨bb, off, hA, hcell⟩ := hrow S.drawn hl
   subst hA
   obtain ⟨nd, hnd⟩ : ∃ n, Z.M.draws.length = n := ⟨_, rfl⟩
   obtain ⟨d, hd⟩ : ∃ d, S.drawn = d := ⟨_, rfl⟩
   obtain ⟨dv, hdvv⟩ : ∃ v, Z.M.draws.getD d 0 = v := ⟨_, rfl⟩
   have hcell : W.cell? ⟨bb, off + d, none⟩ = some (.int .i64 dv) := by
    rw [← hdvv, ← hd]
    exact hcell
   rw [hnd, hd] at hl
   rw [hd] at b4
   rw [hnd] at b3 hfew hle ⊢
   rw [hd, hdvv]
   have hb4 := hQ' (And.intro b4 f4)
   have hS : (W.alloc (.cells #[.int .i64 1, .int .i64 k1, .int .i64 k2] 111)).cell? ⟨Z.b, 3, none⟩ = some (.slice (some ⟨bb, off, none⟩) nd c) ∧ (W.alloc (.cells #[.int .i64 1, .int .i64 k1, .int .i64 k2] 111)).cell? ⟨Z.b, 4, none⟩ = some (.int .i64 d) ∧ (W.alloc (.cells #[.int .i64 1, .int .i64 k1, .int .i64 k2] 111)).cell? ⟨bb, off + d, none⟩ = some (.int .i64 dv) :=
    ⟨(hu.cell (p := ⟨Z.b, 3, none⟩) hbl).trans b3, (hu.cell (p := ⟨Z.b, 4, none⟩) hbl).trans b4, (hu.cell (p := ⟨bb, off + d, none⟩) (cell_lt hcell)).trans hcell⟩
   have HS := hQ' hS
   have hi0 : (0 : Int) ≤ (d : Int) := by omega
   have hi1 : (d : Int) < (nd : Int) := by omega
   have hn0 : ((nd : Int) == 0) = false := by rw [beq_eq_false_iff_ne]; omega
   have hwm := mod_wrap d nd hl hfew
   obtain ⟨hw1, hmod, hnz⟩ := hwm
   have HZ := hQ' (fun (W' : World) (u : Up (W.alloc (.cells #[.int .i64 1, .int .i64 k1, .int .i64 k2] 111)) W') => (H.grow (hu.trans u)).setB (j := 4) (by decide) (.int .i64 ((d + 1) % nd : Nat)) (dr := (d + 1) % nd) (nw := S.now) (fun i hi => by match i, hi with | 0, _ | 1, _ | 2, _ | 3, _ | 4, _ | 5, _ => rfl))
   have HFz := hQ' (fun j => H.fb j)
   clear hdr hrow hdv hnil hle2 e1 e2 hq hk0 hk1 hk2 hD hu hnd hd hdvv hcell hS H f4 hfew b3 b4 HH hle
   generalize (d + 1) % nd = d' at *
   have hbb := hQ' hbl
   obtain ⟨d1, hd1⟩ : ∃ x, ((d + 1 : Nat) : Int) = x := ⟨_, rfl⟩
   rw [hd1] at hw1 hmod
   clear hd1
   go_enter Tryz.func56, Tryz.ntmps56
   go_upto_region 1 with fail
   have hb1 := heap_alloc_new W (.cells #[.int .i64 1, .int .i64 k1, .int .i64 k2] 111)
   have c0 := cell_of_row _ _ 0 _ _ _ hb1
   simp only [gA_T, gA_0, gA_S] at c0
   have hf4 := ((Up.refl W).alloc (.cells #[.int .i64 1, .int .i64 k1, .int .i64 k2] 111)).frozen (p := ⟨Z.b, 4, none⟩) hbb.out
   have HF4 := hQ' (hf4.trans (HFz.out 4))
   clear hb1 hf4
   generalize (W.alloc (.cells #[.int .i64 1, .int .i64 k1, .int .i64 k2] 111)) = W1 at *
   obtain ⟨s3, s4, sd⟩ := HS.out
   go_upto_region 3 with fail
   go_quiet (fail)
   rename_i nq
   go_upto_region 4 with fail
   have hS4 : (W1.drewN nq).drew.cell? ⟨Z.b, 3, none⟩ = some (.slice (some ⟨bb, off, none⟩) nd c) ∧ (W1.drewN nq).drew.cell? ⟨Z.b, 4, none⟩ = some (.int .i64 d) := ⟨s3, s4⟩
   have HF5 := hQ' (show (W1.drewN nq).drew.frozen? ⟨Z.b, 4, none⟩ = false from HF4.out)
   have HU5 := hQ' (show Up W1 (W1.drewN nq).drew from ((Up.refl W1).drewN nq).drew)
   generalize W1.drewN nq = W2 at *
   clear s3 s4 sd HF4 c0
   obtain ⟨g3, g4⟩ := hS4
   have g5 := HF5.out
   clear HF5
   have HU6 := hQ' (HU.out.trans HU5.out)
   go_region_law (fail)
   all_goals
    clear g3 g4 g5
    go_wp2_with fail
    go_ret
    exact ⟨rfl, HZ.out _ HU5.out, Fr.set1 HU6.out _ _⟩
end Go.Proofs.YtpodgcpkccpnfaaGreat

namespace Go.Proofs.YtpodgcpkccpnfaaGreat
open Go.RowKit
structure ZOK (Z : WK) : Prop where
 n8 : Z.n ≤ 8
 cap : Z.n ≤ Z.c1 ∧ Z.c1 ≤ 9223372036854775807
 fit : Fit Z.l
 many : Z.M.many = cntK Z.l Z.l.length
 fresh : Z.M.fresh = mkP Z.l
theorem begin_same {many er : Int} {mk : Int → CS} {s : BS} {t k cl v : Int} (h : (s.begin many er mk t k cl v).1 ≠ 0) : (s.begin many er mk t k cl v).2 = s := by
 unfold BS.begin at h ⊢
 split
 · rfl
 split
 · rfl
 split
 · rfl
 · rename_i h1 h2 h3
   rw [if_neg h1, if_neg h2, if_neg h3] at h
   exact absurd rfl h
theorem wbegin_any {Z : WK} {W : World} {S : WD} {N : Nat} {va vl : Nat → Value} {ow : Nat → Nat} (H : Wd Z W S N va vl ow) (hZ : ZOK Z) {t : Nat} (ht : t < Z.n) (hN : N ≤ 90000) :
 Calls Tryz.prog 58 #[.pointer (some ⟨Z.b, 0, none⟩), .int .i64 t] W fun e w' => e = .returned (.tuple #[]) ∧ ∃ ow', Wd Z w' (beginS Z.M t S) (N + 9) va vl ow' ∧ (∀ k, k < W.heap.size → ow' k = ow k) ∧ ∀ k, k < W.heap.size → ow k ≠ 3 → k ≠ Z.g → w'.heap[k]? = W.heap[k]? := by
 have HH := hQ' (H.grow (Up.refl W).drew)
 have HB := hQ' (beginM_any Z.l Z.B Z.h N S.bank (fun k => ow k = 3) t (S.ths t).acc.1 (S.ths t).acc.2.1 (S.ths t).acc.2.2 W.drew hZ.fit (by omega) (by have := hZ.n8; omega) HH.out.bk hN)
 have hbank : bankB Z.M t S = S.bank.begin (cntK Z.l Z.l.length) 6 (mkP Z.l) t (S.ths t).acc.1 (S.ths t).acc.2.1 (S.ths t).acc.2.2 := by unfold bankB; rw [hZ.many, hZ.fresh]
 have hsame := hQ' (@begin_same (cntK Z.l Z.l.length) 6 (mkP Z.l) S.bank t (S.ths t).acc.1 (S.ths t).acc.2.1 (S.ths t).acc.2.2)
 have hBS := hQ' (show beginS Z.M t S = _ from by unfold beginS; rw [hbank])
 generalize S.bank.begin (cntK Z.l Z.l.length) 6 (mkP Z.l) t (S.ths t).acc.1 (S.ths t).acc.2.1 (S.ths t).acc.2.2 = u at *
 obtain ⟨er, u'⟩ := u
 dsimp only at HB hsame hBS
 have b2 : W.cell? ⟨Z.b, 2, none⟩ = some (.slice (some ⟨Z.g, 0, none⟩) Z.n Z.c1) := H.cb 2 (by decide)
 have hS : W.drew.cell? ⟨Z.b, 1, none⟩ = some (.pointer (some ⟨Z.h, 0, none⟩)) ∧ W.drew.cell? ⟨Z.g, t * 11 + 4, none⟩ = some (.int .i64 (S.ths t).acc.1) ∧ W.drew.cell? ⟨Z.g, t * 11 + 5, none⟩ = some (.int .i64 (S.ths t).acc.2.1) ∧ W.drew.cell? ⟨Z.g, t * 11 + 6, none⟩ = some (.int .i64 (S.ths t).acc.2.2) :=
  ⟨HH.out.cb 1 (by decide), (HH.out.cg t ht).cell 4 (by decide), (HH.out.cg t ht).cell 5 (by decide), (HH.out.cg t ht).cell 6 (by decide)⟩
 have h0 : (0 : Int) ≤ (t : Int) := by omega
 have h1 : (t : Int) < (Z.n : Int) := by omega
 have hcap := hZ.cap
 have HT := hQ' ht
 clear H hN hbank hZ ht
 go_enter Tryz.func58, Tryz.ntmps58
 go_wp2_with fail
 clear b2
 refine wp_region_held_drew (S := fun w' => w'.cell? ⟨Z.b, 1, none⟩ = some (.pointer (some ⟨Z.h, 0, none⟩)) ∧ w'.cell? ⟨Z.g, t * 11 + 4, none⟩ = some (.int .i64 (S.ths t).acc.1) ∧ w'.cell? ⟨Z.g, t * 11 + 5, none⟩ = some (.int .i64 (S.ths t).acc.2.1) ∧ w'.cell? ⟨Z.g, t * 11 + 6, none⟩ = some (.int .i64 (S.ths t).acc.2.2)) (by kernel_rfl) hS (fun hS0 => ?_)
 clear hS
 refine tkE 0 ?_ rfl (by kernel_rfl) (fun _ _ _ h => h) hS0 ?_ ?_
 rotate_left
 · intro w hSw
   try dsimp only at hSw
   go_simp
   try (with_reducible rfl)
 try simp only [Act.put, sC_I, sC_0, sC_1]
 refine tkE 1 ?_ rfl (by kernel_rfl) (fun _ _ _ h => h) hS0 ?_ ?_
 rotate_left
 · intro w hSw
   try dsimp only at hSw
   go_simp
   try (with_reducible rfl)
 try simp only [Act.put, sC_I, sC_0, sC_1]
 refine tkE 2 ?_ rfl (by kernel_rfl) (fun _ _ _ h => h) hS0 ?_ ?_
 rotate_left
 · intro w hSw
   try dsimp only at hSw
   go_simp
   try (with_reducible rfl)
 try simp only [Act.put, sC_I, sC_0, sC_1]
 refine tkE 3 ?_ rfl (by kernel_rfl) (fun _ _ _ h => h) hS0 ?_ ?_
 rotate_left
 · intro w hSw
   try dsimp only at hSw
   go_simp
   try (with_reducible rfl)
 try simp only [Act.put, sC_I, sC_0, sC_1]
 refine tkE 4 ?_ rfl (by kernel_rfl) (fun _ _ _ h => h) hS0 ?_ ?_
 rotate_left
 · intro w hSw
   try dsimp only at hSw
   go_simp
   try (with_reducible rfl)
 try simp only [Act.put, sC_I, sC_0, sC_1]
 refine tkE 5 ?_ rfl (by kernel_rfl) (fun _ _ _ h => h) hS0 ?_ ?_
 rotate_left
 · intro w hSw
   try dsimp only at hSw
   go_simp
   try (with_reducible rfl)
 try simp only [Act.put, sC_I, sC_0, sC_1]
 refine tkE 6 ?_ rfl (by kernel_rfl) (fun _ _ _ h => h) hS0 ?_ ?_
 rotate_left
 · intro w hSw
   try dsimp only at hSw
   go_simp
   try (with_reducible rfl)
 try simp only [Act.put, sC_I, sC_0, sC_1]
 refine tkE 7 ?_ rfl (by kernel_rfl) (fun _ _ _ h => h) hS0 ?_ ?_
 rotate_left
 · intro w hSw
   try dsimp only at hSw
   go_simp
   try (with_reducible rfl)
 try simp only [Act.put, sC_I, sC_0, sC_1]
 refine tkE 8 ?_ rfl (by kernel_rfl) (fun _ _ _ h => h) hS0 ?_ ?_
 rotate_left
 · intro w hSw
   try dsimp only at hSw
   go_simp
   try (with_reducible rfl)
 try simp only [Act.put, sC_I, sC_0, sC_1]
 refine rdE 9 (by kernel_rfl) rfl fun K hK => ?_
 go_simp
 refine HB.out.mono ?_
 rintro e w2 ⟨rfl, hB2, hF2⟩
 have H2 := hQ' (HH.out.bank hF2 hB2)
 have hS2 : w2.cell? ⟨Z.b, 1, none⟩ = some (.pointer (some ⟨Z.h, 0, none⟩)) ∧ w2.cell? ⟨Z.g, t * 11 + 4, none⟩ = some (.int .i64 (S.ths t).acc.1) ∧ w2.cell? ⟨Z.g, t * 11 + 5, none⟩ = some (.int .i64 (S.ths t).acc.2.1) ∧ w2.cell? ⟨Z.g, t * 11 + 6, none⟩ = some (.int .i64 (S.ths t).acc.2.2) :=
  ⟨H2.out.cb 1 (by decide), (H2.out.cg t HT.out).cell 4 (by decide), (H2.out.cg t HT.out).cell 5 (by decide), (H2.out.cg t HT.out).cell 6 (by decide)⟩
 have HOW := hQ' (fun (k : Nat) (hk : k < W.heap.size) => show (if W.drew.heap.size ≤ k ∧ k < w2.heap.size then 3 else ow k) = ow k from if_neg (by show ¬(W.heap.size ≤ k ∧ _); omega))
 have HFR := hQ' (fun (k : Nat) (hk : k < W.heap.size) (h3 : ow k ≠ 3) => show w2.heap[k]? = W.heap[k]? from hF2.block k hk h3)
 clear hB2 hF2 HB HH
 refine hK.out _ _ hS2 (fun hS3 => ?_)
 clear hK K
 try simp only [Act.put, sC_I, sC_0, sC_1]
 refine tkE 10 ?_ rfl (by kernel_rfl) (fun _ _ _ h => h) hS3 ?_ ?_
 rotate_left
 · intro w hSw
   try dsimp only at hSw
   go_simp
   try (with_reducible rfl)
 try simp only [Act.put, sC_I, sC_0, sC_1]
 refine wpAnyH_done (by kernel_rfl) ?_ _
 try simp only [Act.put, sC_I, sC_0, sC_1, List.getElem_toArray, List.getElem_cons_succ, List.getElem_cons_zero]
 by_cases her : er = 0
 · have g7 : w2.cell? ⟨Z.g, t * 11 + 7, none⟩ = some (.int .i64 (S.ths t).st) := (H2.out.cg t HT.out).cell 7 (by decide)
   have f7 := H2.out.fg (t * 11 + 7)
   have e0 : (er == 0) = true := by rw [beq_iff_eq]; exact her
   clear hS0 hS2 hS3
   have HF := hQ' (H2.out.setG (t := t) (j := 7) HT.out (by decide) (.int .i64 2) (th := { S.ths t with st := 2 }) (fun i hi => by match i, hi with | 0, _ | 1, _ | 2, _ | 3, _ | 4, _ | 5, _ | 6, _ | 7, _ | 8, _ | 9, _ | 10, _ => rfl) rfl rfl)
   have HE := hQ' (hBS.out.trans (if_pos her))
   clear H2 her hsame hBS
   go_wp2_with fail
   go_end0
   exact ⟨rfl, _, by rw [HE.out]; exact HF.out, HOW.out, fun k hk h3 hg => (Below.heap_setCell w2 ⟨Z.g, t * 11 + 7, none⟩ _ k hg).trans (HFR.out k hk h3)⟩
 · have e0 : (er == 0) = false := by rw [beq_eq_false_iff_ne]; exact her
   have HE := hQ' (hBS.out.trans (if_neg her))
   have HU := hQ' (hsame.out her)
   clear hS0 hS2 hS3 hsame hBS her
   go_wp2_with fail
   go_end0
   have h9 := H2.out
   rw [HU.out] at h9
   exact ⟨rfl, _, by rw [HE.out]; exact h9, HOW.out, fun k hk h3 _ => HFR.out k hk h3⟩
end Go.Proofs.YtpodgcpkccpnfaaGreat

namespace Go.Proofs.YtpodgcpkccpnfaaGreat
open Go.RowKit
def AccRow (w : World) (A : Option Addr) (l : List (Int × Int × Int)) : Prop := ∀ k, k < l.length → ∃ b off, A = some ⟨b, off, none⟩ ∧
 w.cell? ⟨b, off + k * 3, none⟩ = some (.int .i64 (l.getD k (0, 0, 0)).1) ∧ w.cell? ⟨b, off + k * 3 + 1, none⟩ = some (.int .i64 (l.getD k (0, 0, 0)).2.1) ∧ w.cell? ⟨b, off + k * 3 + 2, none⟩ = some (.int .i64 (l.getD k (0, 0, 0)).2.2)
def NoteRow (w : World) (A : Option Addr) (l : List (Int × Int)) : Prop := ∀ k, k < l.length → ∃ b off, A = some ⟨b, off, none⟩ ∧
 w.cell? ⟨b, off + k * 2, none⟩ = some (.int .i64 (l.getD k (0, 0)).1) ∧ w.cell? ⟨b, off + k * 2 + 1, none⟩ = some (.int .i64 (l.getD k (0, 0)).2)
def DoorS (N g : Nat) (A : Option Addr) (m c : Nat) (A' : Option Addr) (m' c' : Nat) (A'' : Option Addr) (m'' c'' : Nat) (w : World) : Prop :=
 w.cell? ⟨N + 1 + 1 + 1, 0, none⟩ = some (.pointer (some ⟨g, 0, none⟩)) ∧ w.cell? ⟨g, 3, none⟩ = some (.slice A m c) ∧ w.cell? ⟨g, 4, none⟩ = some (.slice A' m' c') ∧ w.cell? ⟨g, 2, none⟩ = some (.slice A'' m'' c'')
theorem DoorS.up {N g : Nat} {A : Option Addr} {m c : Nat} {A' : Option Addr} {m' c' : Nat} {A'' : Option Addr} {m'' c'' : Nat} {w w' : World} (h : DoorS N g A m c A' m' c' A'' m'' c'' w) (hU : Up w w') : DoorS N g A m c A' m' c' A'' m'' c'' w' :=
 ⟨(hU.cell (p := ⟨N + 1 + 1 + 1, 0, none⟩) (cell_lt h.1)).trans h.1, (hU.cell (p := ⟨g, 3, none⟩) (cell_lt h.2.1)).trans h.2.1, (hU.cell (p := ⟨g, 4, none⟩) (cell_lt h.2.2.1)).trans h.2.2.1, (hU.cell (p := ⟨g, 2, none⟩) (cell_lt h.2.2.2)).trans h.2.2.2⟩
theorem acells_get : ∀ (l : List (Int × Int × Int)) (k : Nat), k < l.length → (acells l)[k * 3]? = some (.int .i64 (l.getD k (0, 0, 0)).1) ∧ (acells l)[k * 3 + 1]? = some (.int .i64 (l.getD k (0, 0, 0)).2.1) ∧ (acells l)[k * 3 + 2]? = some (.int .i64 (l.getD k (0, 0, 0)).2.2)
 | [], k, h => by simp at h
 | a :: l, 0, h => by simp [acells]
 | a :: l, k + 1, h => by
  have := acells_get l k (by simpa using h)
  have e : acells (a :: l) = .int .i64 a.1 :: .int .i64 a.2.1 :: .int .i64 a.2.2 :: acells l := rfl
  rw [e, Nat.succ_mul]
  simpa using this
theorem ncells_get : ∀ (l : List (Int × Int)) (k : Nat), k < l.length → (ncells l)[k * 2]? = some (.int .i64 (l.getD k (0, 0)).1) ∧ (ncells l)[k * 2 + 1]? = some (.int .i64 (l.getD k (0, 0)).2)
 | [], k, h => by simp at h
 | a :: l, 0, h => by simp [ncells]
 | a :: l, k + 1, h => by
  have := ncells_get l k (by simpa using h)
  have e : ncells (a :: l) = .int .i64 a.1 :: .int .i64 a.2 :: ncells l := rfl
  rw [e, Nat.succ_mul]
  simpa using this
theorem acc_row {w : World} {B e : Nat} {A : Option Addr} {c : Nat} {l : List (Int × Int × Int)} (h : w.ownsRow B e 3 (.slice A l.length c) l.length (acells l)) : AccRow w A l := fun k hk => by
 obtain ⟨h1, h2, h3⟩ := acells_get l k hk
 rcases h.2 with ⟨_, h0⟩ | ⟨g, cap, cur, hv, _⟩
 · omega
 · simp only [Value.slice.injEq] at hv
   obtain ⟨rfl, _, rfl⟩ := hv
   refine ⟨g, 0, rfl, ?_, ?_, ?_⟩
   · rw [Nat.zero_add, h.cellAt _ (by omega)]; exact h1
   · rw [Nat.zero_add, h.cellAt _ (by omega)]; exact h2
   · rw [Nat.zero_add, h.cellAt _ (by omega)]; exact h3
theorem note_row {w : World} {B e : Nat} {A : Option Addr} {c : Nat} {l : List (Int × Int)} (h : w.ownsRow B e 2 (.slice A l.length c) l.length (ncells l)) : NoteRow w A l := fun k hk => by
 obtain ⟨h1, h2⟩ := ncells_get l k hk
 rcases h.2 with ⟨_, h0⟩ | ⟨g, cap, cur, hv, _⟩
 · omega
 · simp only [Value.slice.injEq] at hv
   obtain ⟨rfl, _, rfl⟩ := hv
   refine ⟨g, 0, rfl, ?_, ?_⟩
   · rw [Nat.zero_add, h.cellAt _ (by omega)]; exact h1
   · rw [Nat.zero_add, h.cellAt _ (by omega)]; exact h2
theorem AccRow.keep {w w' : World} {A : Option Addr} {l : List (Int × Int × Int)} (h : AccRow w A l) (hk : ∀ b, b < w.heap.size → (∃ off, A = some ⟨b, off, none⟩) → w'.heap[b]? = w.heap[b]?) : AccRow w' A l := fun k hlt => by
 obtain ⟨b, off, e, h1, h2, h3⟩ := h k hlt
 have := hk b (cell_lt h1) ⟨off, e⟩
 exact ⟨b, off, e, (tcell this).trans h1, (tcell this).trans h2, (tcell this).trans h3⟩
theorem NoteRow.keep {w w' : World} {A : Option Addr} {l : List (Int × Int)} (h : NoteRow w A l) (hk : ∀ b, b < w.heap.size → (∃ off, A = some ⟨b, off, none⟩) → w'.heap[b]? = w.heap[b]?) : NoteRow w' A l := fun k hlt => by
 obtain ⟨b, off, e, h1, h2⟩ := h k hlt
 have := hk b (cell_lt h1) ⟨off, e⟩
 exact ⟨b, off, e, (tcell this).trans h1, (tcell this).trans h2⟩
theorem AccRow.up {w w' : World} {A : Option Addr} {l : List (Int × Int × Int)} (h : AccRow w A l) (hU : Up w w') : AccRow w' A l := h.keep fun b hb _ => hU.block b hb
theorem NoteRow.up {w w' : World} {A : Option Addr} {l : List (Int × Int)} (h : NoteRow w A l) (hU : Up w w') : NoteRow w' A l := h.keep fun b hb _ => hU.block b hb
theorem own_block {w : World} {B e size n c : Nat} {A : Option Addr} {xs : List Value} (h : w.ownsRow B e size (.slice A n c) n xs) : ∀ b off, A = some ⟨b, off, none⟩ → B ≤ b := fun b off hA => by
 rcases h.2 with ⟨hv, _⟩ | ⟨g, cap, cur, hv, hb, _⟩
 · simp only [Value.slice.injEq] at hv
   rw [hv.1] at hA; cases hA
 · simp only [Value.slice.injEq] at hv
   rw [hv.1] at hA; cases hA; exact hb
theorem own_nil0 {w : World} {B e size n c : Nat} {A : Option Addr} {xs : List Value} (h : w.ownsRow B e size (.slice A n c) n xs) : A = none → c = 0 := fun hA => by
 rcases h.2 with ⟨hv, _⟩ | ⟨g, cap, cur, hv, hb, _⟩
 · simp only [Value.slice.injEq] at hv; exact hv.2.2
 · simp only [Value.slice.injEq] at hv
   rw [hv.1] at hA; cases hA
def put4 (w : World) (b : Nat) (v0 v1 v2 v3 : Value) : World := (((w.setCell ⟨b, 0, none⟩ v0).setCell ⟨b, 1, none⟩ v1).setCell ⟨b, 2, none⟩ v2).setCell ⟨b, 3, none⟩ v3
theorem put4_same {w : World} {b : Nat} {t : TypeId} {x0 x1 x2 x3 : Value} (v0 v1 v2 v3 : Value) (h : w.heap[b]? = some (.cells #[x0, x1, x2, x3] t (0, 0))) : (put4 w b v0 v1 v2 v3).heap[b]? = some (.cells #[v0, v1, v2, v3] t (0, 0)) := by
 unfold put4
 rw [heap_setCell_same _ _ _ _ _ _ (heap_setCell_same _ _ _ _ _ _ (heap_setCell_same _ _ _ _ _ _ (heap_setCell_same _ _ _ _ _ _ h)))]
 rfl
theorem put4_other (w : World) (b k : Nat) (v0 v1 v2 v3 : Value) (h : k ≠ b) : (put4 w b v0 v1 v2 v3).heap[k]? = w.heap[k]? := by
 unfold put4
 rw [Below.heap_setCell _ _ _ _ h, Below.heap_setCell _ _ _ _ h, Below.heap_setCell _ _ _ _ h, Below.heap_setCell _ _ _ _ h]
theorem put4_below (w : World) (b N : Nat) (v0 v1 v2 v3 : Value) (h : N ≤ b) : Below N w (put4 w b v0 v1 v2 v3) :=
 ((((Below.refl N w).setCell (p := ⟨b, 0, none⟩) h _).setCell (p := ⟨b, 1, none⟩) h _).setCell (p := ⟨b, 2, none⟩) h _).setCell (p := ⟨b, 3, none⟩) h _
end Go.Proofs.YtpodgcpkccpnfaaGreat

namespace Go.Proofs.YtpodgcpkccpnfaaGreat
open Go.RowKit
theorem infoMem : Tryz.prog.info? 196 = some Tryz.t196 := by kernel_rfl
end Go.Proofs.YtpodgcpkccpnfaaGreat

namespace Go.Proofs.YtpodgcpkccpnfaaGreat
open Go.RowKit
theorem TapeIs.low {w w' : World} {g B b : Nat} {st : Int} {s : TS} (h : TapeIs w g B st s) (hb : b < g) (hb2 : g ≤ b + 2) (hs : w.heap.size ≤ w'.heap.size) (hk : ∀ k, k < w.heap.size → k ≠ b → w'.heap[k]? = w.heap[k]?) : TapeIs w' g B st s := by
 have hgB := h.gB
 have hg := hk g h.gs (by omega)
 have hrow : ∀ e k cs, B ≤ k → w.heap[k]? = some (.cells cs e (0, 0)) → w'.heap[k]? = w.heap[k]? := fun e k cs hB hh => hk k (Array.getElem?_eq_some_iff.1 hh).1 (by omega)
 refine ⟨h.gB, Nat.le_trans h.sz hs, (tcell hg).trans h.c0, fun j => (tfrozen hg).trans (h.fz j), ?_, ?_, ?_, ?_, h.la, h.lb, h.ll⟩
 · obtain ⟨A, c, h1, h2, h3⟩ := h.ans
   refine ⟨A, c, (tcell hg).trans h1, fun k hlt => ?_, h3⟩
   obtain ⟨b', off, e, hc⟩ := h2 k hlt
   exact ⟨b', off, e, (tcell (hk b' (cell_lt hc) (by have := h3 b' off e (by omega); omega))).trans hc⟩
 · obtain ⟨v, h1, h2⟩ := h.loc
   exact ⟨v, (tcell hg).trans h1, own_keep h2 (hrow _)⟩
 · obtain ⟨v, h1, h2⟩ := h.acc
   exact ⟨v, (tcell hg).trans h1, own_keep h2 (hrow _)⟩
 · obtain ⟨v, h1, h2⟩ := h.nts
   exact ⟨v, (tcell hg).trans h1, own_keep h2 (hrow _)⟩
structure Begun (w W : World) (z : Value) (tz : TypeId) (A1 : Option Addr) (n c : Nat) : Prop where
 up : Up w W
 sz : W.heap.size = w.heap.size + 4
 b0 : W.heap[w.heap.size]? = some (.cells #[z] tz (0, 0))
 b1 : W.heap[w.heap.size + 1]? = some (.cells #[.bool false, .slice none 0 0, .slice none 0 0, .slice none 0 0] 161 (0, 0))
 b2 : W.heap[w.heap.size + 1 + 1]? = some (.cells #[.int .i64 1, .slice A1 n c, .slice none 0 0, .slice none 0 0, .slice none 0 0] 196 (0, 0))
 b3 : W.heap[w.heap.size + 1 + 1 + 1]? = some (.cells #[.pointer (some ⟨w.heap.size + 1 + 1, 0, none⟩)] 164 (0, 0))
theorem begun (w : World) (z : Value) (tz : TypeId) (A1 : Option Addr) (n c : Nat) :
 Begun w ((((w.alloc (.cells #[z] tz)).alloc (.cells #[.bool false, .slice none 0 0, .slice none 0 0, .slice none 0 0] 161)).alloc
  (.cells #[.int .i64 1, .slice A1 n c, .slice none 0 0, .slice none 0 0, .slice none 0 0] 196)).alloc (.cells #[.pointer (some ⟨w.heap.size + 1 + 1, 0, none⟩)] 164)) z tz A1 n c where
 up := ((((Up.refl w).alloc _).alloc _).alloc _).alloc _
 sz := by simp
 b0 := by
  rw [Below.heap_alloc _ _ _ (by simp; omega), Below.heap_alloc _ _ _ (by simp; omega), Below.heap_alloc _ _ _ (by simp)]
  exact heap_alloc_new w _
 b1 := by
  rw [Below.heap_alloc _ _ _ (by simp), Below.heap_alloc _ _ _ (by simp)]
  have := heap_alloc_new (w.alloc (.cells #[z] tz)) (.cells #[.bool false, .slice none 0 0, .slice none 0 0, .slice none 0 0] 161)
  rw [World.size_alloc] at this
  exact this
 b2 := by
  rw [Below.heap_alloc _ _ _ (by simp)]
  have := heap_alloc_new ((w.alloc (.cells #[z] tz)).alloc (.cells #[.bool false, .slice none 0 0, .slice none 0 0, .slice none 0 0] 161)) (.cells #[.int .i64 1, .slice A1 n c, .slice none 0 0, .slice none 0 0, .slice none 0 0] 196)
  rw [World.size_alloc, World.size_alloc] at this
  exact this
 b3 := by
  have := heap_alloc_new (((w.alloc (.cells #[z] tz)).alloc (.cells #[.bool false, .slice none 0 0, .slice none 0 0, .slice none 0 0] 161)).alloc (.cells #[.int .i64 1, .slice A1 n c, .slice none 0 0, .slice none 0 0, .slice none 0 0] 196)) (.cells #[.pointer (some ⟨w.heap.size + 1 + 1, 0, none⟩)] 164)
  rw [World.size_alloc, World.size_alloc, World.size_alloc] at this
  exact this
structure Ended (w W5 : World) (v : Value) (t : TypeId) (s' : TS) : Prop where
 tp : Tape1 W5 (w.heap.size + 1 + 1) (w.heap.size + 4) s'
 go : W5.heap[w.heap.size]? = some (.cells #[v] t (0, 0))
 ou : W5.heap[w.heap.size + 1]? = some (.cells #[.bool false, .slice none 0 0, .slice none 0 0, .slice none 0 0] 161 (0, 0))
 pt : W5.cell? ⟨w.heap.size + 1 + 1 + 1, 0, none⟩ = some (.pointer (some ⟨w.heap.size + 1 + 1, 0, none⟩))
 be : Below w.heap.size w W5
 sz : w.heap.size + 3 < W5.heap.size
end Go.Proofs.YtpodgcpkccpnfaaGreat

