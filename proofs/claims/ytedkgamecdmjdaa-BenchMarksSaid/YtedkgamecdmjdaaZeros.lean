/-
  'append(x, make([]int, k)...)' onto a row of the call's own.
-/
import Derived.Test.YtedkgamecdmjdaaRow
import Derived.Lib.AppendZerosOnto
import Derived.Laws.OwnMore
set_option linter.unusedVariables false
set_option linter.unusedSimpArgs false
namespace Go.Proofs.Ytedkgamecdmjdaa
open Go.RowKit

theorem zeroCells_one (z : Value) (hz : z.cells = #[z]) (k : Nat) : Builtin.zeroCells z.cells k = (List.replicate k z).toArray := by
  unfold Builtin.zeroCells
  rw [hz]
  apply Array.ext
  · simp
  · intro i h1 h2
    simp [Nat.mod_one]

/-- append-of-make: k zeros. -/
theorem run_append_zeros_own {P : Program} (w : World) (B : Nat) (t tn ty e : TypeId) (i : TypeInfo) (kq kn : IntKind) (ht : P.underlying t = some (.slice e)) (htn : P.underlying tn = some (.int kn)) (hi : P.info? e = some i) (hz : i.zero = some (.int .i64 0))
    (hsize : i.size = 1) (hby : i.bytes = 8) (v : Value) (n : Nat) (xs : List Value) (hown : w.ownsRow B e 1 v n xs) (k : Nat) (h0 : 0 < k) (hb : n + k ≤ 1000000) (hB : B ≤ w.heap.size) :
    ∃ v' w', (Builtin.append_ #[t, tn] ty #[v, .int kq k]).run P w = .ok v' w' ∧ w'.ownsRow B e 1 v' (n + k) (xs ++ List.replicate k (.int .i64 0)) ∧ w.grownBy w' v.ownBlock := by
  have hzc : (Value.int .i64 0).cells = #[.int .i64 0] := rfl
  have hlen : (xs ++ List.replicate k (Value.int .i64 0)).length = (n + k) * 1 := by rw [List.length_append, hown.1, List.length_replicate]; omega
  have hxn : xs.length = n := by have := hown.1; omega
  have grow : ∀ (base : Option Addr) (cap : Nat), cap < n + k → (Builtin.firstCells i.size n (.slice base n cap)).run P w.drew = .ok xs.toArray w.drew →
      ∃ v' w', (Builtin.append_ #[t, tn] ty #[.slice base n cap, .int kq k]).run P w = .ok v' w' ∧ w'.ownsRow B e 1 v' (n + k) (xs ++ List.replicate k (.int .i64 0)) ∧ ∀ row, w.grownBy w' row := by
    intro base cap hg hold
    refine ⟨_, _, Lib.run_append_grow_zeros w t tn ty e i _ kq kn ht htn hi hz base n cap xs hold k h0 (by omega) hg (by omega) (by rw [hby]; omega) (by rw [hby]; exact growslice_fits hg (by omega)), ?_, ?_⟩
    · have hge := grownCap_ge w (n + k) cap e
      have hcm : grownCap w (n + k) cap e ≤ maxLen := grownCap_le_maxLen w (n + k) cap e (by unfold maxLen; omega)
      refine ⟨hlen, .inr ⟨w.heap.size, _, _, rfl, hB, heap_alloc_new w.drew _, hge, hcm, ?_, ?_⟩⟩
      · rw [zeroCells_one _ hzc, zeroCells_one _ hzc]
        simp [hxn]
        omega
      · rw [zeroCells_one _ hzc, zeroCells_one _ hzc]
        simp only [Array.toList_append, ← hlen]
        exact List.take_left
    · intro row
      exact ⟨rfl, rfl, rfl, by simp, fun j hj _ => Below.heap_alloc w.drew _ j hj⟩
  rcases hown.2 with ⟨rfl, rfl⟩ | ⟨g, cap, cur, rfl, hbg, hg, hnc, hcm, hcs, htake⟩
  · have hx : xs = [] := List.eq_nil_of_length_eq_zero (by omega)
    subst hx
    obtain ⟨v', w', h1, h2, h3⟩ := grow none 0 (by omega) (by simp [Builtin.firstCells])
    exact ⟨v', w', h1, h2, h3 _⟩
  · by_cases hroom : n + k ≤ cap
    · have hw : IntKind.i64.wrap (k : Int) = k := by rw [IntKind.wrap_i64]; omega
      have hneg : ¬ ((k : Int) < 0) := by omega
      have hk : k ≠ 0 := by omega
      have h48i : ¬ (281474976710656 < (k : Int) * (i.bytes : Int)) := by rw [hby]; omega
      have hst := run_storeCells_at P g n e (List.replicate k (.int .i64 0)) 0 cur w hg (by rw [List.length_replicate, hcs]; omega) (by intro u hu; rw [List.mem_replicate] at hu; rw [hu.2]; rfl)
      simp only [Nat.add_zero] at hst
      have hzr : Builtin.zeroCells #[Value.int .i64 0] k = (List.replicate k (Value.int .i64 0)).toArray := zeroCells_one _ hzc k
      refine ⟨.slice (some ⟨g, 0, none⟩) (n + k) cap, w.setRow g (cur.toList.take n ++ List.replicate k (Value.int .i64 0) ++ cur.toList.drop (n + k)).toArray, ?_, ⟨hlen, .inr ⟨g, cap, _, rfl, hbg, setRow_heap w g cur _ e _ hg, hroom, hcm, ?_, ?_⟩⟩, ⟨rfl, rfl, rfl, by simp, fun k _ hk => setRow_other w g k _ (fun e => hk (by simp [Value.ownBlock, e]))⟩⟩
      · simp [Builtin.append_, run_underlying ht, run_underlying htn, sizeOf, typeInfo, zeroValue, hi, hz, hsize, asInt, asIntOf, hw, hneg, hk, h48i, hroom, hzc, hzr, Addr.add_lit, hst]
      · simp only [List.size_toArray, List.length_append, List.length_take, List.length_drop, Array.length_toList, List.length_replicate]
        omega
      · rw [Nat.mul_one] at htake
        have : (cur.toList.take n ++ List.replicate k (Value.int .i64 0) ++ cur.toList.drop (n + k)).toArray.toList = (xs ++ List.replicate k (Value.int .i64 0)) ++ cur.toList.drop (n + k) := by rw [← htake]
        rw [this, ← hlen]
        exact List.take_left
    · obtain ⟨v', w', h1, h2, h3⟩ := grow (some ⟨g, 0, none⟩) cap (by omega) (run_firstCells_some (P := P) w.drew i.size n ⟨g, 0, none⟩ n cap xs (by rw [hsize, hxn]; omega) (by
        intro j u hu
        have hj := (List.getElem?_eq_some_iff.1 hu).1
        exact hown.cells (g := g) rfl j u hu))
      exact ⟨v', w', h1, h2, h3 _⟩

/-- The same, at a step of a region that draws its order. -/
theorem step_append_zeros {P : Program} {ops : Array Oper} {o : Oper} {a : Act} {w : World} {K : Act → World → Prop} {Q : Exit → Act → World → Prop} {E : Prop} (hgd : o.guard = none) (s x : Operand) (t tn : TypeId)
    (ho : o.op = .call { callee := .builtin .append, args := #[s, x], argTypes := #[t, tn] })
    (B : Nat) (e : TypeId) (i : TypeInfo) (kq kn : IntKind) (ht : P.underlying t = some (.slice e)) (htn : P.underlying tn = some (.int kn)) (hi : P.info? e = some i) (hz : i.zero = some (.int .i64 0))
    (hsize : i.size = 1) (hby : i.bytes = 8) (v : Value) (n : Nat) (xs : List Value) (hs : a.eval s = v) (hown : w.ownsRow B e 1 v n xs) (k : Nat) (hx : a.eval x = .int kq k) (h0 : 0 < k) (hb : n + k ≤ 1000000) (hB : B ≤ w.heap.size)
    (h : ∀ v' w', w'.ownsRow B e 1 v' (n + k) (xs ++ List.replicate k (.int .i64 0)) → w.grownBy w' v.ownBlock → K (a.put o.dst v') w') :
    if Region.wanted o (yielded ops a.tmps) = true then Oper.wp P o a w K Q else E := by
  have hw : Region.wanted o (yielded ops a.tmps) = true := by simp [Region.wanted, hgd]
  rw [if_pos hw]
  obtain ⟨v', w', hr, h2, h3⟩ := run_append_zeros_own (P := P) w B t tn o.type e i kq kn ht htn hi hz hsize hby v n xs hown k h0 hb hB
  exact Lib.wp_append_run w s x t tn ho v (.int kq k) hs hx v' w' hr (h v' w' h2 h3)

end Go.Proofs.Ytedkgamecdmjdaa
