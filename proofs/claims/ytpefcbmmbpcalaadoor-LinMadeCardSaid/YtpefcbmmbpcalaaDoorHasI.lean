/-
  The search's memory and its invariant.
-/
import Derived.Test.YtpefcbmmbpcalaaDoorHasP
set_option linter.unusedVariables false
set_option linter.unusedSimpArgs false
namespace Go.Proofs.YtpefcbmmbpcalaaDoor
open Go.RowKit

def OwnSt (w : World) (B : Nat) (v : Value) (l : List St) : Prop := w.ownsRow B 75 2 v l.length (scells l)
theorem infoSt : (Tryd.prog.info? 75).map (fun i => (i.zero, i.size, i.bytes)) = some (some (.agg #[.int .u64 0, .int .i64 0]), 2, 16) := by kernel_rfl
/-- Which block a row may lie in behind some steps that began at w: the one it lay in, or a new one. -/
def Moved (w : World) (o o' : Option Nat) : Prop := o' = o ∨ o' = none ∨ ∃ g, o' = some g ∧ w.heap.size ≤ g
theorem Moved.trans {w w1 : World} {o o1 o2 : Option Nat} (h : Moved w o o1) (k : Moved w1 o1 o2) (hs : w.heap.size ≤ w1.heap.size) : Moved w o o2 := by
  rcases k with rfl | rfl | ⟨g, rfl, hg⟩
  · exact h
  · exact .inr (.inl rfl)
  · exact .inr (.inr ⟨g, rfl, Nat.le_trans hs hg⟩)
theorem grown_trans {w w1 w2 : World} {o o1 : Option Nat} (h : w.grownBy w1 o) (k : w1.grownBy w2 o1) (ho : Moved w o o1) : w.grownBy w2 o :=
  ⟨k.os.trans h.os, k.tape.trans h.tape, k.output.trans h.output, Nat.le_trans h.size k.size, fun b hb hne => by
    refine (k.block b (Nat.lt_of_lt_of_le hb h.size) ?_).trans (h.block b hb hne)
    rcases ho with rfl | rfl | ⟨g, rfl, hg⟩
    · exact hne
    · simp
    · intro e
      injection e with e
      omega⟩
theorem grown_up {w w' : World} (o : Option Nat) (h : Up w w') : w.grownBy w' o := ⟨h.os, h.tape, h.output, h.size, fun k hk _ => h.block k hk⟩
theorem st_cells {w : World} {B : Nat} {v : Value} {T : List St} (h : OwnSt w B v T) : ∃ A cc, v = .slice A T.length cc ∧ ∀ j, j < T.length → ∃ g, A = some ⟨g, 0, none⟩ ∧ w.cell? ⟨g, j * 2, none⟩ = some (.int .u64 ((T.getD j st0).1 : Int)) ∧ w.cell? ⟨g, j * 2 + 1, none⟩ = some (.int .i64 (T.getD j st0).2) := by
  rcases h.2 with ⟨a1, a2⟩ | ⟨g, cap, cur, a1, _⟩
  · exact ⟨none, 0, by rw [a1, a2], fun j hj => by omega⟩
  · refine ⟨_, cap, a1, fun j hj => ⟨g, rfl, ?_⟩⟩
    have ho' := h
    unfold OwnSt at ho'
    rw [a1] at ho'
    have c : ∀ q, q < 2 → w.cell? ⟨g, j * 2 + q, none⟩ = (scell (T.getD j st0))[q]? := fun q hq =>
      (ho'.cellAt (j * 2 + q) (by omega)).trans (scells_at T j hj q hq)
    exact ⟨c 0 (by decide), c 1 (by decide)⟩
theorem n_cells {w : World} {B : Nat} {v : Value} {L : List Nat} (h : OwnN w B v L) : ∃ A cc, v = .slice A L.length cc ∧ ∀ j, j < L.length → ∃ g, A = some ⟨g, 0, none⟩ ∧ w.cell? ⟨g, j, none⟩ = some (.int .i64 ((L.getD j 0 : Nat) : Int)) := by
  rcases h.2 with ⟨a1, a2⟩ | ⟨g, cap, cur, a1, _⟩
  · exact ⟨none, 0, by rw [a1, a2], fun j hj => by omega⟩
  · refine ⟨_, cap, a1, fun j hj => ⟨g, rfl, ?_⟩⟩
    have ho' := h
    unfold OwnN at ho'
    rw [a1] at ho'
    refine (ho'.cellAt j (by omega)).trans ?_
    unfold ncells
    rw [List.getElem?_map, List.getElem?_eq_getElem hj, List.getD_eq_getElem?_getD, List.getElem?_eq_getElem hj]; rfl
/-- wpList_push, and which block the row lies in. -/
theorem wpList_push4 {P : Program} {ops : Array Oper} {rest : List Oper} {o : Oper} {a : Act} {Q : Exit → Act → World → Prop} {w : World} {e : TypeId} {news : List Value} (hgd : o.guard = none) (s x : Operand) (t : TypeId)
    (ho : o.op = .call { callee := .builtin .append, args := #[s, x], argTypes := #[t, t] })
    (B : Nat) (i : TypeInfo) (z : Value) (size bytes : Nat) (ht : P.underlying t = some (.slice e)) (hi : P.info? e = some i) (hz : i.zero = some z)
    (hsize : i.size = size) (hby : i.bytes = bytes) (hzs : z.cells.size = size) (hsz : 0 < size)
    (v : Value) (n : Nat) (xs : List Value) (hs : a.eval s = v) (hown : w.ownsRow B e size v n xs)
    (hx : a.eval x = .slice (some ⟨w.heap.size, 0, none⟩) 1 1) (hl : news.length = size) (h1 : ∀ u ∈ news, u.oneCell' = true)
    (hb1 : 0 < bytes) (hbytes : (n + 1) * bytes ≤ 140737488355328) (hB : B ≤ w.heap.size)
    (h : ∀ v' w', w'.ownsRow B e size v' (n + 1) (xs ++ news) → w.grownBy w' v.ownBlock → Moved w v.ownBlock v'.ownBlock → wpList P ops Q rest (a.put o.dst v') w') :
    wpList P ops Q (o :: rest) a (w.alloc (.cells news.toArray e)) := by
  have h63 : n + 1 ≤ maxLen := by
    have : n + 1 ≤ (n + 1) * bytes := Nat.le_mul_of_pos_right _ hb1
    unfold maxLen; omega
  refine wpList_append_lies (w.alloc (.cells news.toArray e)) hgd s x t ho B e i z size bytes ht hi hz hsize hby hzs hsz v n xs hs (hown.alloc _) ⟨w.heap.size, 0, none⟩ 1 1 news hx (by omega) (fun j u hu => cells_new w news e j u hu) h1 (by decide) h63 hbytes (by simp; omega) _ rfl ?_
  intro g cap w' hown' hg hor hlt
  have hg' : w.grownBy w' v.ownBlock := ⟨hg.os, hg.tape, hg.output, Nat.le_trans (by simp) hg.size, fun k hk hne => (hg.block k (by simp; omega) hne).trans (Below.heap_alloc w _ k hk)⟩
  refine h _ w' hown' hg' ?_
  rcases hor with h1 | h1
  · exact .inl h1.symm
  · refine .inr (.inr ⟨g, rfl, ?_⟩)
    rw [h1]; simp

/-- The search in the midst of its loop over the next ones. -/
structure HInv (l : List OpD) (d : Nat) (v : Int) (T : List St) (tv : Value) (w : World) (B : Nat) (vn : Value) (i : Nat) (x : Value) (T' : List St) (wr : World) : Prop where
  own : OwnSt wr B x T'
  blk : Moved w tv.ownBlock x.ownBlock
  gr : w.grownBy wr tv.ownBlock
  nx : OwnN wr w.heap.size vn (nextL l d)
  ap : vn.ownBlock = none ∨ vn.ownBlock ≠ x.ownBlock
  ext : ∃ E, T' = T ++ (d, v) :: E ∧ ∀ s ∈ E, Closed l T' s
  ch : ∀ q, q < i → tellsB (l.getD ((nextL l d).getD q 0) op0) v = true → child l d v ((nextL l d).getD q 0) ∈ T'
  len : T'.length ≤ T.length + 1 + i * capS (und l d - 1)
section
variable {l : List OpD} {d : Nat} {v : Int} {T T' : List St} {tv x vn : Value} {w wr : World} {B i : Nat}
theorem HInv.up (h : HInv l d v T tv w B vn i x T' wr) {wb : World} (u : Up wr wb) : HInv l d v T tv w B vn i x T' wb :=
  ⟨own_up4 h.own u, h.blk, grown_trans h.gr (grown_up x.ownBlock u) h.blk, own_up4 h.nx u, h.ap, h.ext, h.ch, h.len⟩
theorem HInv.skip (h : HInv l d v T tv w B vn i x T' wr) (hi : tellsB (l.getD ((nextL l d).getD i 0) op0) v = false) : HInv l d v T tv w B vn (i + 1) x T' wr :=
  ⟨h.own, h.blk, h.gr, h.nx, h.ap, h.ext, (fun q hq ht => by
    by_cases hqi : q < i
    · exact h.ch q hqi ht
    · obtain rfl : q = i := by omega
      rw [hi] at ht; cases ht), Nat.le_trans h.len (Nat.add_le_add_left (Nat.mul_le_mul_right _ (Nat.le_succ i)) _)⟩
theorem HInv.told (h : HInv l d v T tv w B vn i x T' wr) {x2 : Value} {T2 : List St} {w2 : World} (ho : OwnSt w2 B x2 T2) (hg : wr.grownBy w2 x.ownBlock) (hm : Moved wr x.ownBlock x2.ownBlock)
    (hh : HasOut l (child l d v ((nextL l d).getD i 0)).1 (child l d v ((nextL l d).getD i 0)).2 T' false T2) (hl : T2.length ≤ T'.length + capS (und l d - 1)) : HInv l d v T tv w B vn (i + 1) x2 T2 w2 := by
  obtain ⟨hmem, E2, rfl, hc2⟩ := hh.2 rfl
  obtain ⟨E, hE, hc⟩ := h.ext
  refine ⟨ho, h.blk.trans hm h.gr.size, grown_trans h.gr hg h.blk, h.nx.kept hg h.ap, ?_, ⟨E ++ E2, by rw [hE]; simp, fun s hs => ?_⟩, fun q hq ht => ?_, ?_⟩
  · rcases hm with hm | hm | ⟨g, hm, hgg⟩
    · rw [hm]; exact h.ap
    · rw [hm]
      cases hv : vn.ownBlock with
      | none => exact .inl rfl
      | some b => exact .inr (by simp)
    · rw [hm]
      cases hv : vn.ownBlock with
      | none => exact .inl rfl
      | some b =>
        refine .inr (fun e => ?_)
        injection e with e
        have := (h.nx.lt b hv).2
        omega
  · rcases List.mem_append.1 hs with hs | hs
    · exact (hc s hs).more E2
    · exact hc2 s hs
  · by_cases hqi : q < i
    · exact List.mem_append_left _ (h.ch q hqi ht)
    · obtain rfl : q = i := by omega
      exact hmem
  · have := h.len
    rw [Nat.succ_mul]
    omega
theorem HInv.out (h : HInv l d v T tv w B vn (nextL l d).length x T' wr) (hl : leftB l d = true) : HasOut l d v T false T' := by
  refine ⟨(fun e => by cases e), fun _ => ?_⟩
  obtain ⟨E, hE, hc⟩ := h.ext
  refine ⟨by rw [hE]; simp, (d, v) :: E, hE, fun s hs => ?_⟩
  rcases List.mem_cons.1 hs with rfl | hs
  · refine ⟨hl, fun i hi ht => ?_⟩
    obtain ⟨q, hq, rfl⟩ := List.getElem_of_mem hi
    have e : (nextL l d).getD q 0 = (nextL l d)[q] := by rw [List.getD_eq_getElem?_getD, List.getElem?_eq_getElem hq]; rfl
    have := h.ch q hq
    rw [e] at this
    exact this ht
  · exact hc s hs
theorem HInv.start {x w1 w2 : _} (hT : T.length + 1 = (T ++ [(d, v)]).length) (ho : OwnSt w1 B x (T ++ [(d, v)])) (hg : w.grownBy w1 tv.ownBlock) (hm : Moved w tv.ownBlock x.ownBlock) (u : Up w1 w2) (hn : OwnN w2 w1.heap.size vn (nextL l d)) : HInv l d v T tv w B vn 0 x (T ++ [(d, v)]) w2 := by
  refine ⟨own_up4 ho u, hm, grown_trans hg (grown_up x.ownBlock u) hm, ⟨hn.1, hn.2.imp id fun ⟨g, cap, cur, a1, a2, a3⟩ => ⟨g, cap, cur, a1, Nat.le_trans hg.size a2, a3⟩⟩, ?_, ⟨[], rfl, fun s hs => by cases hs⟩, fun q hq => absurd hq (Nat.not_lt_zero q), by omega⟩
  cases hv : vn.ownBlock with
  | none => exact .inl rfl
  | some b =>
    refine .inr (fun e => ?_)
    have h1 := (hn.lt b hv).1
    have h2 := (ho.lt b e.symm).2
    omega
end

end Go.Proofs.YtpefcbmmbpcalaaDoor
