/-
  The search's memory.
-/
import Derived.Test.YtpefcbmmbpcalaaDoorSrP
import Derived.Test.YtpefcbmmbpcalaaDoorFree
import Derived.Maps.OwnSet
import Derived.Maps.OwnOps
import Derived.DeepKeys4
set_option linter.unusedVariables false
set_option linter.unusedSimpArgs false
namespace Go.Proofs.YtpefcbmmbpcalaaDoor
open Go.RowKit

theorem stRow : (71 : TypeId) < Tryd.prog.types.size := of_decide_eq_true (by kernel_rfl)
theorem stWide : (match Tryd.prog.underlying 71 with | some (.array _ _) | some (.struct _) => true | _ => false) = true := by rw [Tryd.underlying71]
theorem laidOutS : laidOutB Tryd.prog = true := by kernel_rfl
theorem stLaw : Maps.Keyed Tryd.prog 71 := Maps.Keyed.of_law (deep_law_laid laidOutS (m := 2) (by omega) stRow (by kernel_rfl) stWide)
def stv (s : St) : Value := .agg #[.int .u64 (s.1 : Int), .int .i64 s.2]
def klS (s : St) : Lit := .string (keyBytes [.int .u64 (s.1 : Int), .int .i64 s.2])
def StOk (s : St) : Prop := (Lit.int .u64 (s.1 : Int)).wf = true ∧ (Lit.int .i64 s.2).wf = true
theorem klS_is {s : St} (h : StOk s) : keyOf Tryd.prog 71 (stv s) = some (klS s) := by
  obtain ⟨d, v⟩ := s
  obtain ⟨h1, h2⟩ := h
  simp only at h1 h2
  obtain ⟨n, hn⟩ : ∃ n, Tryd.prog.types.size = n + 2 := ⟨Tryd.prog.types.size - 2, by have : (71 : Nat) < Tryd.prog.types.size := stRow; omega⟩
  have hk : Tryd.prog.keyType 71 = true := by kernel_rfl
  have hf : (Value.agg #[.int .u64 (d : Int), .int .i64 v]).formed Tryd.prog 71 = true := by kernel_rfl
  have hc : Tryd.prog.cellsOf 71 = 2 := by kernel_rfl
  have hc1 : Tryd.prog.cellsOf 23 = 1 := by kernel_rfl
  have hc2 : Tryd.prog.cellsOf 3 = 1 := by kernel_rfl
  have hl : Tryd.prog.keyLits (Tryd.prog.types.size + 1) 71 [.int .u64 (d : Int), .int .i64 v] = some [.int .u64 (d : Int), .int .i64 v] := by
    rw [hn]
    simp [Program.keyLits, Tryd.underlying71, Tryd.underlying23, Tryd.underlying3, hc, hc1, hc2, h1, h2]
  unfold stv klS keyOf
  rw [Tryd.underlying71]
  simp only [hk, hf, Bool.and_self, if_true]
  show Option.map _ (Tryd.prog.keyLits (Tryd.prog.types.size + 1) 71 [.int .u64 (d : Int), .int .i64 v]) = _
  rw [hl]; rfl
theorem unitZero (w : World) : (zeroValue 72).run Tryd.prog w = .ok (.agg #[]) w := by kernel_rfl

theorem stv_inj {s t : St} (h : stv s = stv t) : s = t := by
  obtain ⟨a, b⟩ := s
  obtain ⟨c, d⟩ := t
  simp only [stv, Value.agg.injEq, Array.mk.injEq, List.cons.injEq, Value.int.injEq, and_true, true_and] at h
  obtain ⟨h1, h2⟩ := h
  rw [h2, Int.ofNat.inj h1]
/-- The map of those that were tried. -/
def MapT (W : World) (b : Nat) (T : List St) : Prop := ∃ D : DataW Unit, W.ownsMap Tryd.prog 71 unitElem b T.length D ∧ ∀ s, StOk s → Maps.has D (klS s) = decide (s ∈ T)
theorem MapT.start {W : World} {b : Nat} (h : W.ownsMap Tryd.prog 71 (unitElem (H := Unit)) b 0 (.map [])) : MapT W b [] := ⟨_, h, fun s _ => by simp [Maps.has]⟩
theorem MapT.up {W W' : World} {b : Nat} {T : List St} (h : MapT W b T) (u : W'.heap[b]? = W.heap[b]?) : MapT W' b T := by
  obtain ⟨D, ⟨es, ck, hh, r⟩, hd⟩ := h
  exact ⟨D, ⟨es, ck, u.trans hh, r⟩, hd⟩
theorem MapT.lt {W : World} {b : Nat} {T : List St} (h : MapT W b T) : b < W.heap.size := by
  obtain ⟨D, ⟨es, ck, hh, r⟩, hd⟩ := h
  exact (Array.getElem?_eq_some_iff.1 hh).1
theorem mapT_note {W w' : World} {b : Nat} {T : List St} {D : DataW Unit} {s : St} (hs : StOk s) (h0 : W.ownsMap Tryd.prog 71 unitElem b T.length D) (hd : ∀ s, StOk s → Maps.has D (klS s) = decide (s ∈ T))
    (h : w'.ownsMap Tryd.prog 71 unitElem b (T.length + 1) (D.put (klS s) (.agg []))) : MapT w' b (T ++ [s]) := by
  refine ⟨D.put (klS s) (.agg []), by rw [List.length_append]; exact h, fun t ht => ?_⟩
  by_cases e : t = s
  · subst e
    rw [Maps.has_put_same h0.isMap (stLaw.key (klS_is hs))]
    simp
  · have hne : klS t ≠ klS s := fun ek => e (stv_inj (stLaw.inj (klS_is ht) (by rw [ek]; exact klS_is hs)))
    rw [Maps.has_put_other hne, hd t ht]
    simp [e]

/-- What a call may turn: the map, the box of what was found, its row. -/
def XK (K : Nat) (v : Value) (k : Nat) : Prop := k = K + 1 ∨ k = K + 3 ∨ v.ownBlock = some k
structure KX (X : Nat → Prop) (w w' : World) : Prop where
  os : w'.os = w.os
  tape : w'.tape = w.tape
  output : w'.output = w.output
  size : w.heap.size ≤ w'.heap.size
  block : ∀ k, k < w.heap.size → ¬ X k → w'.heap[k]? = w.heap[k]?
theorem KX.refl (X : Nat → Prop) (w : World) : KX X w w := ⟨rfl, rfl, rfl, Nat.le_refl _, fun _ _ _ => rfl⟩
theorem KX.up {X : Nat → Prop} {w w' : World} (u : Up w w') : KX X w w' := ⟨u.os, u.tape, u.output, u.size, fun k hk _ => u.block k hk⟩
theorem KX.box {X : Nat → Prop} {w w' : World} {b : Nat} {o : Obj} (h : KX X w w') (hb : w.heap[b]? = some o) (hx : ¬ X b) : w'.heap[b]? = some o := (h.block b (Array.getElem?_eq_some_iff.1 hb).1 hx).trans hb
theorem KX.of_grown {K : Nat} {v : Value} {w w' : World} (h : w.grownBy w' v.ownBlock) : KX (XK K v) w w' := ⟨h.os, h.tape, h.output, h.size, fun k hk hx => h.block k hk (fun e => hx (.inr (.inr e.symm)))⟩
theorem KX.trans {K : Nat} {v v1 : Value} {a b c : World} (h : KX (XK K v) a b) (k : KX (XK K v1) b c) (hm : Moved a v.ownBlock v1.ownBlock) : KX (XK K v) a c :=
  ⟨k.os.trans h.os, k.tape.trans h.tape, k.output.trans h.output, Nat.le_trans h.size k.size, fun q hq hx => by
    refine (k.block q (Nat.lt_of_lt_of_le hq h.size) (fun hx1 => ?_)).trans (h.block q hq hx)
    rcases hx1 with e | e | e
    · exact hx (.inl e)
    · exact hx (.inr (.inl e))
    · rcases hm with m | m | ⟨g, m, hg⟩
      · exact hx (.inr (.inr (m.symm.trans e)))
      · rw [m] at e; cases e
      · rw [m] at e; injection e with e; omega⟩
theorem KX.grown {K : Nat} {v : Value} {a b : World} {g : Nat} (hg : a.grownBy b (some g)) (h : g = K + 1 ∨ g = K + 3) : KX (XK K v) a b :=
  ⟨hg.os, hg.tape, hg.output, hg.size, fun k hk hx => hg.block k hk (fun e => by
    injection e with e
    rcases h with h | h
    · exact hx (.inl (e.trans h))
    · exact hx (.inr (.inl (e.trans h))))⟩

/-- The search in memory. -/
structure SInv (l : List OpD) (A : Option Addr) (c : Nat) (w0 : World) (K : Nat) (T : List St) (F : List Nat) (vf : Value) (W : World) : Prop where
  up : Up w0 W
  nK : w0.heap.size < K
  L : Boxed W w0.heap.size 22 (.slice A l.length c)
  O : Boxed W K 23 (.int .u64 (overL l : Nat))
  M : MapT W (K + 1) T
  MB : Boxed W (K + 2) 68 (.map (some (K + 1)))
  B : Boxed W (K + 3) 24 vf
  Y : Boxed W (K + 4) 69 (.func (.func 42) #[] #[.pointer (some ⟨K, 0, none⟩), .pointer (some ⟨K + 2, 0, none⟩), .pointer (some ⟨w0.heap.size, 0, none⟩), .pointer (some ⟨K + 3, 0, none⟩), .pointer (some ⟨K + 4, 0, none⟩)])
  own : OwnN W (K + 5) vf F
theorem own_far {w : World} {B e size n : Nat} {v : Value} {xs : List Value} (h : w.ownsRow B e size v n xs) {k : Nat} (hk : k < B) : v.ownBlock ≠ some k := fun e => by have := (h.lt k e).1; omega
theorem SInv.more {l : List OpD} {A : Option Addr} {c : Nat} {w0 : World} {K : Nat} {T : List St} {F : List Nat} {vf : Value} {W W' : World} (h : SInv l A c w0 K T F vf W) (u : Up W W') : SInv l A c w0 K T F vf W' :=
  ⟨h.up.trans u, h.nK, boxed_up h.L u, boxed_up h.O u, h.M.up (u.block _ h.M.lt), boxed_up h.MB u, boxed_up h.B u, boxed_up h.Y u, own_up4 h.own u⟩
/-- The search where all but the found row and its box stays. -/
theorem SInv.keep {l : List OpD} {A : Option Addr} {c : Nat} {w0 : World} {K : Nat} {T : List St} {F F' : List Nat} {vf vf' : Value} {W W' : World} (h : SInv l A c w0 K T F vf W)
    (hos : W'.os = W.os) (htp : W'.tape = W.tape) (hou : W'.output = W.output) (hsz : W.heap.size ≤ W'.heap.size) (hb : ∀ k, k < W.heap.size → k ≠ K + 3 → vf.ownBlock ≠ some k → W'.heap[k]? = W.heap[k]?)
    (hB : Boxed W' (K + 3) 24 vf') (ho : OwnN W' (K + 5) vf' F') : SInv l A c w0 K T F' vf' W' ∧ KX (XK K vf) W W' := by
  have nK := h.nK
  have far : ∀ k, k < K + 5 → vf.ownBlock ≠ some k := fun k hk => own_far h.own hk
  refine ⟨⟨⟨hos.trans h.up.os, htp.trans h.up.tape, hou.trans h.up.output, Nat.le_trans h.up.size hsz, fun k hk => (hb k (Nat.lt_of_lt_of_le hk h.up.size) (by omega) (far k (by omega))).trans (h.up.block k hk)⟩, h.nK, ?_, ?_, ?_, ?_, hB, ?_, ho⟩, hos, htp, hou, hsz, fun k hk hx => hb k hk (fun e => hx (.inr (.inl e))) (fun e => hx (.inr (.inr e)))⟩
  · exact (hb _ h.L.lt (by omega) (far _ (by omega))).trans h.L
  · exact (hb _ h.O.lt (by omega) (far _ (by omega))).trans h.O
  · exact h.M.up (hb _ h.M.lt (by omega) (far _ (by omega)))
  · exact (hb _ h.MB.lt (by omega) (far _ (by omega))).trans h.MB
  · exact (hb _ h.Y.lt (by omega) (far _ (by omega))).trans h.Y
theorem SInv.push {l : List OpD} {A : Option Addr} {c : Nat} {w0 : World} {K : Nat} {T : List St} {F F' : List Nat} {vf vf' : Value} {W w1 : World} (h : SInv l A c w0 K T F vf W) (ho : OwnN w1 (K + 5) vf' F') (hg : W.grownBy w1 vf.ownBlock) :
    SInv l A c w0 K T F' vf' (w1.setCell ⟨K + 3, 0, none⟩ vf') ∧ KX (XK K vf) W (w1.setCell ⟨K + 3, 0, none⟩ vf') ∧ Boxed w1 (K + 3) 24 vf := by
  have hsz : (w1.setCell ⟨K + 3, 0, none⟩ vf').heap.size = w1.heap.size := by simp [World.setCell]
  have hb1 : Boxed w1 (K + 3) 24 vf := (hg.block _ h.B.lt (fun e => own_far h.own (show K + 3 < K + 5 by omega) e.symm)).trans h.B
  obtain ⟨a, b⟩ := h.keep (W' := w1.setCell ⟨K + 3, 0, none⟩ vf') (vf' := vf') (F' := F') hg.os hg.tape hg.output (by rw [hsz]; exact hg.size) (fun k hk h1 h2 => (heap_setCell_other _ _ _ _ h1).trans (hg.block k hk (fun e => h2 e.symm))) (hb1.set vf') (World.ownsRow.kept ho (grownBy_setCell' w1 (K + 3) vf') (.inr (own_far ho (by omega))))
  exact ⟨a, b, hb1⟩
theorem SInv.cut {l : List OpD} {A : Option Addr} {c : Nat} {w0 : World} {K : Nat} {T : List St} {F : List Nat} {i : Nat} {vf : Value} {W : World} (h : SInv l A c w0 K T (F ++ [i]) vf W) :
    ∃ g cap, vf = .slice (some ⟨g, 0, none⟩) (F.length + 1) cap ∧ F.length + 1 ≤ cap ∧ SInv l A c w0 K T F (.slice (some ⟨g, 0, none⟩) F.length cap) (W.setCell ⟨K + 3, 0, none⟩ (.slice (some ⟨g, 0, none⟩) F.length cap)) ∧ KX (XK K vf) W (W.setCell ⟨K + 3, 0, none⟩ (.slice (some ⟨g, 0, none⟩) F.length cap)) := by
  rcases h.own.2 with ⟨_, hn⟩ | ⟨g, cap, cur, hv, hg, hh, h1, h2, h3, h4⟩
  · rw [List.length_append] at hn; exact absurd hn (Nat.succ_ne_zero _)
  · rw [List.length_append] at hv h1 h4
    have h1' : F.length + 1 ≤ cap := h1
    have ho : OwnN W (K + 5) (.slice (some ⟨g, 0, none⟩) F.length cap) F := by
      refine ⟨by rw [ncells_len, Nat.mul_one], .inr ⟨g, cap, cur, rfl, hg, hh, by omega, h2, h3, ?_⟩⟩
      rw [Nat.mul_one] at h4 ⊢
      rw [ncells_append] at h4
      have := congrArg (List.take F.length) h4
      rw [List.take_take, show min F.length (F.length + [i].length) = F.length from Nat.min_eq_left (Nat.le_add_right _ _), List.take_left' (ncells_len F)] at this
      exact this
    have hsz : (W.setCell ⟨K + 3, 0, none⟩ (.slice (some ⟨g, 0, none⟩) F.length cap)).heap.size = W.heap.size := by simp [World.setCell]
    obtain ⟨a, b⟩ := h.keep (W' := W.setCell ⟨K + 3, 0, none⟩ (.slice (some ⟨g, 0, none⟩) F.length cap)) (F' := F) (vf' := .slice (some ⟨g, 0, none⟩) F.length cap) rfl rfl rfl (by rw [hsz]; omega) (fun k hk h1 h2 => heap_setCell_other _ _ _ _ h1) (h.B.set _) (World.ownsRow.kept ho (grownBy_setCell' W (K + 3) _) (.inr (own_far ho (by omega))))
    exact ⟨g, cap, hv, h1', a, b⟩
theorem SInv.note {l : List OpD} {A : Option Addr} {c : Nat} {w0 : World} {K : Nat} {T T' : List St} {F : List Nat} {vf : Value} {W w' : World} (h : SInv l A c w0 K T F vf W) (hm : MapT w' (K + 1) T') (hg : W.grownBy w' (some (K + 1))) :
    SInv l A c w0 K T' F vf w' ∧ KX (XK K vf) W w' := by
  have nK := h.nK
  have hb : ∀ k, k < W.heap.size → k ≠ K + 1 → w'.heap[k]? = W.heap[k]? := fun k hk hne => hg.block k hk (fun e => hne (by injection e))
  refine ⟨⟨⟨hg.os.trans h.up.os, hg.tape.trans h.up.tape, hg.output.trans h.up.output, Nat.le_trans h.up.size hg.size, fun k hk => (hb k (Nat.lt_of_lt_of_le hk h.up.size) (by omega)).trans (h.up.block k hk)⟩, h.nK, ?_, ?_, hm, ?_, ?_, ?_, ?_⟩, KX.grown hg (.inl rfl)⟩
  · exact (hb _ h.L.lt (by omega)).trans h.L
  · exact (hb _ h.O.lt (by omega)).trans h.O
  · exact (hb _ h.MB.lt (by omega)).trans h.MB
  · exact (hb _ h.B.lt (by omega)).trans h.B
  · exact (hb _ h.Y.lt (by omega)).trans h.Y
  · exact World.ownsRow.kept h.own hg (.inr (own_far h.own (by omega)))

/-- What is a call's own: its state, its next ones. -/
structure Loc (K g0 : Nat) (d : Nat) (v : Int) (B : Nat) (vn : Value) (nx : List Nat) (vf : Value) (W : World) : Prop where
  at0 : W.heap[g0]? = some (.cells #[.int .u64 (d : Int), .int .i64 v] 71 (0, 0))
  n : OwnN W B vn nx
  gK : K + 5 ≤ g0
  gB : K + 5 ≤ B
  na : vf.ownBlock ≠ some g0
  nb : ∀ k, vn.ownBlock = some k → vf.ownBlock ≠ some k
theorem Loc.go {K g0 d B : Nat} {v : Int} {vn : Value} {nx : List Nat} {vf vf' : Value} {W W' : World} (h : Loc K g0 d v B vn nx vf W) (k : KX (XK K vf) W W') (hm : Moved W vf.ownBlock vf'.ownBlock) : Loc K g0 d v B vn nx vf' W' := by
  have gK := h.gK
  have gB := h.gB
  have hlt := (Array.getElem?_eq_some_iff.1 h.at0).1
  have mv : ∀ q, q < W.heap.size → vf.ownBlock ≠ some q → vf'.ownBlock ≠ some q := fun q hq hne e => by
    rcases hm with m | m | ⟨g, m, hg⟩
    · exact hne (m.symm.trans e)
    · rw [m] at e; cases e
    · rw [m] at e; injection e with e; omega
  refine ⟨k.box h.at0 (fun hx => ?_), ?_, gK, gB, mv _ hlt h.na, fun q hq => mv q (World.ownsRow.lt h.n q hq).2 (h.nb q hq)⟩
  · rcases hx with e | e | e
    · omega
    · omega
    · exact h.na e
  · rcases h.n.2 with hn | ⟨g, cap, cur, hv, hg, hh, r⟩
    · exact ⟨h.n.1, .inl hn⟩
    · refine ⟨h.n.1, .inr ⟨g, cap, cur, hv, hg, k.box hh (fun hx => ?_), r⟩⟩
      rcases hx with e | e | e
      · omega
      · omega
      · exact h.nb g (by rw [hv]; rfl) e
theorem Loc.more {K g0 d B : Nat} {v : Int} {vn : Value} {nx : List Nat} {vf : Value} {W W' : World} (h : Loc K g0 d v B vn nx vf W) (u : Up W W') : Loc K g0 d v B vn nx vf W' := h.go (KX.up u) (.inl rfl)
theorem Loc.cells {K g0 d B : Nat} {v : Int} {vn : Value} {nx : List Nat} {vf : Value} {W : World} (h : Loc K g0 d v B vn nx vf W) : W.cell? ⟨g0, 0, none⟩ = some (.int .u64 (d : Int)) ∧ W.cell? ⟨g0, 1, none⟩ = some (.int .i64 v) :=
  ⟨cell_of_row _ _ 0 _ _ _ h.at0, cell_of_row _ _ 1 _ _ _ h.at0⟩

/-- wpList_push, the new value's shape written out, and which block the row lies in. -/
theorem wpList_push5 {P : Program} {ops : Array Oper} {rest : List Oper} {o : Oper} {a : Act} {Q : Exit → Act → World → Prop} {w : World} {e : TypeId} {news : List Value} (hgd : o.guard = none) (s x : Operand) (t : TypeId)
    (ho : o.op = .call { callee := .builtin .append, args := #[s, x], argTypes := #[t, t] })
    (B : Nat) (i : TypeInfo) (z : Value) (size bytes : Nat) (ht : P.underlying t = some (.slice e)) (hi : P.info? e = some i) (hz : i.zero = some z)
    (hsize : i.size = size) (hby : i.bytes = bytes) (hzs : z.cells.size = size) (hsz : 0 < size)
    (v : Value) (n : Nat) (xs : List Value) (hs : a.eval s = v) (hown : w.ownsRow B e size v n xs)
    (hx : a.eval x = .slice (some ⟨w.heap.size, 0, none⟩) 1 1) (hl : news.length = size) (h1 : ∀ u ∈ news, u.oneCell' = true)
    (hb1 : 0 < bytes) (hbytes : (n + 1) * bytes ≤ 140737488355328) (hB : B ≤ w.heap.size)
    (h : ∀ g cap w', w'.ownsRow B e size (.slice (some ⟨g, 0, none⟩) (n + 1) cap) (n + 1) (xs ++ news) → w.grownBy w' v.ownBlock → Moved w v.ownBlock (some g) → wpList P ops Q rest (a.put o.dst (.slice (some ⟨g, 0, none⟩) (n + 1) cap)) w') :
    wpList P ops Q (o :: rest) a (w.alloc (.cells news.toArray e)) := by
  have h63 : n + 1 ≤ maxLen := by
    have : n + 1 ≤ (n + 1) * bytes := Nat.le_mul_of_pos_right _ hb1
    unfold maxLen; omega
  refine wpList_append_lies (w.alloc (.cells news.toArray e)) hgd s x t ho B e i z size bytes ht hi hz hsize hby hzs hsz v n xs hs (hown.alloc _) ⟨w.heap.size, 0, none⟩ 1 1 news hx (by omega) (fun j u hu => cells_new w news e j u hu) h1 (by decide) h63 hbytes (by simp; omega) _ rfl ?_
  intro g cap w' hown' hg hor hlt
  have hg' : w.grownBy w' v.ownBlock := ⟨hg.os, hg.tape, hg.output, Nat.le_trans (by simp) hg.size, fun k hk hne => (hg.block k (by simp; omega) hne).trans (Below.heap_alloc w _ k hk)⟩
  refine h _ _ w' hown' hg' ?_
  rcases hor with h1 | h1
  · exact .inl h1.symm
  · refine .inr (.inr ⟨g, rfl, ?_⟩)
    rw [h1]; simp

/-- A box of a call's own. -/
structure Priv (K gb : Nat) (o : Obj) (vf : Value) (W : World) : Prop where
  at0 : W.heap[gb]? = some o
  gK : K + 5 ≤ gb
  na : vf.ownBlock ≠ some gb
theorem Priv.go {K gb : Nat} {o : Obj} {vf vf' : Value} {W W' : World} (h : Priv K gb o vf W) (k : KX (XK K vf) W W') (hm : Moved W vf.ownBlock vf'.ownBlock) : Priv K gb o vf' W' := by
  have gK := h.gK
  have hlt := (Array.getElem?_eq_some_iff.1 h.at0).1
  refine ⟨k.box h.at0 (fun hx => ?_), gK, fun e => ?_⟩
  · rcases hx with e | e | e
    · omega
    · omega
    · exact h.na e
  · rcases hm with m | m | ⟨g, m, hg⟩
    · exact h.na (m.symm.trans e)
    · rw [m] at e; cases e
    · rw [m] at e; injection e with e; omega
theorem Priv.more {K gb : Nat} {o : Obj} {vf : Value} {W W' : World} (h : Priv K gb o vf W) (u : Up W W') : Priv K gb o vf W' := h.go (KX.up u) (.inl rfl)

end Go.Proofs.YtpefcbmmbpcalaaDoor
