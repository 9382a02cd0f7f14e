/-
  A made history: the plain law; a slice of three bytes each that came in.
-/
import Derived.Test.YtpefcbmmbpcalaaDoorLManW
set_option linter.unusedVariables false
set_option linter.unusedSimpArgs false
namespace Go.Proofs.YtpefcbmmbpcalaaDoor
open Go.ChangeShapes Go.WideShapes Go.ChangeAt Go.RowKit Go.Deep Go.ChangeMaps

structure T3 where
  a : Nat
  b : Nat
  c : Nat
def t30 : T3 := ⟨0, 0, 0⟩
def TRow (w : World) (A : Option Addr) (l : List T3) : Prop := ∀ k, k < l.length → ∃ b off, A = some ⟨b, off, none⟩ ∧
  w.cell? ⟨b, off + k * 3, none⟩ = some (.int .u8 ((l.getD k t30).a : Int)) ∧ w.cell? ⟨b, off + k * 3 + 1, none⟩ = some (.int .u8 ((l.getD k t30).b : Int)) ∧ w.cell? ⟨b, off + k * 3 + 2, none⟩ = some (.int .u8 ((l.getD k t30).c : Int))
theorem TRow.up {w w' : World} {A : Option Addr} {l : List T3} (h : TRow w A l) (u : Up w w') : TRow w' A l := fun k hk => by
  obtain ⟨b, off, e, h0, h1, h2⟩ := h k hk
  exact ⟨b, off, e, (u.cell (cell_lt h0)).trans h0, (u.cell (cell_lt h1)).trans h1, (u.cell (cell_lt h2)).trans h2⟩

section
variable {H : Type} {enc : TypeId × Value → H} {P : Program} {w : World}
theorem open_threes {t e b : TypeId} {v : Value} {d : DataW H} {ps : List MemPlace} {base : Nat} (ht : P.underlying t = some (.slice e)) (he : P.underlying e = some (.array 3 b)) (hC : P.cellsOf e = 3) (hb : P.underlying b = some (.int .u8)) (hc1 : P.cellsOf b = 1)
    (hval : Value.okWide P w .any base t v) (h : DataW.Trod enc P w 0 (fun _ => true) true t v d ps) :
    ∃ (A : Option Addr) (l : List T3) (c : Nat), v = .slice A l.length c ∧ TRow w A l ∧ l.length ≤ c ∧ c ≤ 9223372036854775807 ∧ ∀ o ∈ l, o.a ≤ 255 ∧ o.b ≤ 255 ∧ o.c ≤ 255 := by
  obtain ⟨A, len, cap, rfl⟩ := okWide_slice ht hval
  obtain ⟨fuel, hf⟩ := h
  rcases open_slice ht hf with ⟨hcs, _⟩ | ⟨a, len', cap', m, n0, D, Pl, hcs, _, hl, hm, hmm, hx, hi⟩
  · simp [Value.cells] at hcs
    obtain ⟨rfl, rfl, rfl⟩ := hcs
    exact ⟨none, [], 0, rfl, fun k hk => absurd hk (Nat.not_lt_zero k), Nat.le_refl _, by omega, fun o ho => by cases ho⟩
  · simp [Value.cells] at hcs
    obtain ⟨rfl, rfl, rfl⟩ := hcs
    simp only [if_true] at hmm
    subst hmm
    have hcell : ∀ i, i < m → ∃ p : T3, w.cell? (a.add (i * 3)) = some (.int .u8 (p.a : Int)) ∧ w.cell? (a.add (i * 3 + 1)) = some (.int .u8 (p.b : Int)) ∧ w.cell? (a.add (i * 3 + 2)) = some (.int .u8 (p.c : Int)) ∧ p.a ≤ 255 ∧ p.b ≤ 255 ∧ p.c ≤ 255 := by
      intro i him
      obtain ⟨cs', hc, ht'⟩ := hi i him
      rw [hC] at hc
      obtain ⟨xs, n, _, _, _, hxl, hfs⟩ := DataW.trod_array he ht'
      obtain ⟨_, hcl, hat⟩ := World.cells?_some hc
      match cs', hcl, xs, hxl with
      | [q0, q1, q2], _, [y0, y1, y2], _ =>
      have ht0 := hfs 0 (by decide)
      have ht1 := hfs 1 (by decide)
      have ht2 := hfs 2 (by decide)
      rw [hc1] at ht0 ht1 ht2
      simp only [Nat.zero_mul, Nat.one_mul, Nat.mul_one, List.drop_zero, List.drop_succ_cons, List.take_succ_cons, List.take_zero, List.getElem?_cons_zero, List.getElem?_cons_succ] at ht0 ht1 ht2
      obtain ⟨x0, e0, _, hw0⟩ := DataW.trod_int hb ht0
      obtain ⟨x1, e1, _, hw1⟩ := DataW.trod_int hb ht1
      obtain ⟨x2, e2, _, hw2⟩ := DataW.trod_int hb ht2
      simp only [List.cons.injEq, and_true] at e0 e1 e2
      subst e0 e1 e2
      have hq0 := hat 0 (by decide)
      have hq1 := hat 1 (by decide)
      have hq2 := hat 2 (by decide)
      rw [add_add] at hq0 hq1 hq2
      have u0 := u8_wf hw0
      have u1 := u8_wf hw1
      have u2 := u8_wf hw2
      refine ⟨⟨x0.toNat, x1.toNat, x2.toNat⟩, ?_, ?_, ?_, by show x0.toNat ≤ 255; omega, by show x1.toNat ≤ 255; omega, by show x2.toNat ≤ 255; omega⟩
      · show _ = some (Value.int .u8 (x0.toNat : Int)); rw [Int.toNat_of_nonneg u0.1]; exact hq0
      · show _ = some (Value.int .u8 (x1.toNat : Int)); rw [Int.toNat_of_nonneg u1.1]; exact hq1
      · show _ = some (Value.int .u8 (x2.toNat : Int)); rw [Int.toNat_of_nonneg u2.1]; exact hq2
    obtain ⟨p, hp⟩ : ∃ p : Nat → T3, ∀ i, i < m → w.cell? (a.add (i * 3)) = some (.int .u8 ((p i).a : Int)) ∧ w.cell? (a.add (i * 3 + 1)) = some (.int .u8 ((p i).b : Int)) ∧ w.cell? (a.add (i * 3 + 2)) = some (.int .u8 ((p i).c : Int)) ∧ (p i).a ≤ 255 ∧ (p i).b ≤ 255 ∧ (p i).c ≤ 255 :=
      ⟨fun i => if h : i < m then (hcell i h).choose else t30, fun i him => by simpa only [dif_pos him] using (hcell i him).choose_spec⟩
    unfold maxLen at hm
    have hlen : ((List.range len).map p).length = len := by simp
    refine ⟨some a, (List.range len).map p, m, by rw [hlen], ?_, by omega, by omega, ?_⟩
    · rw [TRow, hlen]
      intro k hk
      obtain ⟨h0, h1, h2, _⟩ := hp k (by omega)
      obtain ⟨b, off, spot⟩ := a
      have hspot : spot = none := by simpa [Addr.add] using World.cell?_spot (hp 0 (by omega)).1
      subst hspot
      have e : ((List.range len).map p).getD k t30 = p k := by rw [List.getD_eq_getElem?_getD, List.getElem?_map, List.getElem?_range hk]; rfl
      rw [e]
      exact ⟨b, off, rfl, by rw [← Go.WideShapes.add_plain]; exact h0, by rw [Nat.add_assoc, ← Go.WideShapes.add_plain]; exact h1, by rw [Nat.add_assoc, ← Go.WideShapes.add_plain]; exact h2⟩
    · intro x hx
      obtain ⟨i, hi', rfl⟩ := List.mem_map.1 hx
      obtain ⟨_, _, _, h5⟩ := hp i (by have := List.mem_range.1 hi'; omega)
      exact h5
end

def t3 (l : List T3) (i : Nat) : T3 := l.getD i t30
def madeV (l : List T3) : Nat → Nat
  | 0 => 3
  | i + 1 => if (t3 l i).c % 2 = 0 then (t3 l i).c / 2 else madeV l i
/-- Is the i-th one pending? -/
def penB (n q i : Nat) : Bool := decide (n ≤ i + q)
def madeO (l : List T3) (q i : Nat) : OpD :=
  ⟨10 * ((i : Int) + 1) - ((t3 l i).a % 9 : Nat), if penB l.length q i then -1 else 10 * ((i : Int) + 1) + ((t3 l i).b % 9 : Nat), decide ((t3 l i).c % 2 = 0), if penB l.length q i && !decide ((t3 l i).c % 2 = 0) then 0 else (madeV l (i + 1) : Nat), ((i % 8 : Nat) : Int)⟩
def madeL (l : List T3) (q n : Nat) : List OpD := (List.range n).map (madeO l q)
theorem madeL_len (l : List T3) (q n : Nat) : (madeL l q n).length = n := by simp [madeL]
theorem madeL_at {l : List T3} {q n i : Nat} (h : i < n) : (madeL l q n).getD i op0 = madeO l q i := by
  unfold madeL
  rw [List.getD_eq_getElem?_getD, List.getElem?_map, List.getElem?_range h]; rfl
theorem madeL_succ (l : List T3) (q n : Nat) : madeL l q (n + 1) = madeL l q n ++ [madeO l q n] := by unfold madeL; rw [List.range_succ, List.map_append]; rfl
theorem madeL_comp {l : List T3} {q : Nat} (hf : fineP (madeL l q l.length) = true) : Comp (madeL l q l.length) 0 3 := by
  refine comp_order hf (fun i => (madeV l i : Nat)) (fun i hi => ?_) (fun i hi => ?_)
  · rw [madeL_len] at hi
    rw [madeL_at hi]
    unfold tellsB madeO
    simp only
    by_cases hw : (t3 l i).c % 2 = 0
    · rw [decide_eq_true hw]; rfl
    · rw [decide_eq_false hw]
      cases hp : penB l.length q i
      · have e : madeV l (i + 1) = madeV l i := by show (if _ then _ else _) = _; rw [if_neg hw]
        rw [e]; simp
      · simp
  · rw [madeL_len] at hi
    rw [madeL_at hi]
    unfold afterV madeO
    simp only
    by_cases hw : (t3 l i).c % 2 = 0
    · rw [decide_eq_true hw]; simp
    · rw [decide_eq_false hw]
      have e : madeV l (i + 1) = madeV l i := by show (if _ then _ else _) = _; rw [if_neg hw]
      rw [e]; simp
theorem madeV_le {l : List T3} (h : ∀ o ∈ l, o.a ≤ 255 ∧ o.b ≤ 255 ∧ o.c ≤ 255) : ∀ i, madeV l i ≤ 255
  | 0 => by unfold madeV; decide
  | i + 1 => by
    unfold madeV
    split
    · have : (t3 l i).c ≤ 255 := by
        unfold t3
        rw [List.getD_eq_getElem?_getD]
        by_cases hi : i < l.length
        · rw [List.getElem?_eq_getElem hi]; exact (h _ (List.getElem_mem hi)).2.2
        · rw [List.getElem?_eq_none (by omega)]; decide
      omega
    · exact madeV_le h i
theorem madeL_vals {l : List T3} {q n : Nat} (h : ∀ o ∈ l, o.a ≤ 255 ∧ o.b ≤ 255 ∧ o.c ≤ 255) : ValsOk (madeL l q n) 3 := fun v hv => by
  rcases List.mem_cons.1 hv with e | e
  · rw [e]; decide
  · obtain ⟨o, ho, rfl⟩ := List.mem_map.1 e
    obtain ⟨i, _, rfl⟩ := List.mem_map.1 ho
    have := madeV_le h (i + 1)
    unfold madeO
    simp only
    split
    · decide
    · simp [Lit.wf, IntKind.min, IntKind.max, IntKind.signed, IntKind.bits]; omega

/-- The operation's box, beside the row that grows. -/
structure Box5 (w : World) (gb : Nat) (v : Value) (L : List OpD) (o : OpD) (W : World) : Prop where
  at0 : W.heap[gb]? = some (.cells #[.int .i64 o.frm, .int .i64 o.to, .bool o.wr, .int .i64 o.val, .int .i64 o.thr] 28 (0, 0))
  own : OwnO W w.heap.size v L
  na : v.ownBlock ≠ some gb
  up : Up w W
  ge : w.heap.size ≤ gb
theorem grown_set (W : World) (b j : Nat) (x : Value) : W.grownBy (W.setCell ⟨b, j, none⟩ x) (some b) :=
  ⟨rfl, rfl, rfl, by simp [World.setCell], fun k hk hne => heap_setCell_other _ _ _ _ (fun e => hne (by rw [e]))⟩
theorem Box5.val {w : World} {gb : Nat} {v : Value} {L : List OpD} {F T V Th : Int} {Wr : Bool} {W : World} (h : Box5 w gb v L ⟨F, T, Wr, V, Th⟩ W) (x : Int) : Box5 w gb v L ⟨F, T, Wr, x, Th⟩ (W.setCell ⟨gb, 3, none⟩ (.int .i64 x)) :=
  ⟨by rw [heap_setCell_same _ _ 3 _ _ _ h.at0]; rfl, World.ownsRow.kept h.own (grown_set W gb 3 _) (.inr h.na), h.na, Below.setCell h.up h.ge _, h.ge⟩
theorem Box5.to {w : World} {gb : Nat} {v : Value} {L : List OpD} {F T V Th : Int} {Wr : Bool} {W : World} (h : Box5 w gb v L ⟨F, T, Wr, V, Th⟩ W) (x : Int) : Box5 w gb v L ⟨F, x, Wr, V, Th⟩ (W.setCell ⟨gb, 1, none⟩ (.int .i64 x)) :=
  ⟨by rw [heap_setCell_same _ _ 1 _ _ _ h.at0]; rfl, World.ownsRow.kept h.own (grown_set W gb 1 _) (.inr h.na), h.na, Below.setCell h.up h.ge _, h.ge⟩
theorem Box5.frozen {w : World} {gb : Nat} {v : Value} {L : List OpD} {o : OpD} {W : World} (h : Box5 w gb v L o W) (k : Nat) : W.frozen? ⟨gb, k, none⟩ = false := by simp [World.frozen?, h.at0]
theorem own_upO {w w' : World} {B : Nat} {v : Value} {L : List OpD} (h : OwnO w B v L) (u : Up w w') : OwnO w' B v L := by
  rcases h.2 with ⟨hv, hn⟩ | ⟨g, cap, cur, hv, hg, hh, hr⟩
  · exact ⟨h.1, .inl ⟨hv, hn⟩⟩
  · exact ⟨h.1, .inr ⟨g, cap, cur, hv, hg, (u.block g (Array.getElem?_eq_some_iff.1 hh).1).trans hh, hr⟩⟩
theorem Box5.start {w wr : World} {v : Value} {L : List OpD} (o : OpD) (ho : OwnO wr w.heap.size v L) (hu : Up w wr) : Box5 w wr.heap.size v L o (wr.alloc (.cells #[.int .i64 o.frm, .int .i64 o.to, .bool o.wr, .int .i64 o.val, .int .i64 o.thr] 28)).drew :=
  ⟨heap_alloc_new wr _, own_upO ho ((Up.refl wr).alloc _).drew, fun e => by have := (World.ownsRow.lt ho _ e).2; omega, (hu.alloc _).drew, hu.size⟩

end Go.Proofs.YtpefcbmmbpcalaaDoor
