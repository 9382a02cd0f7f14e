/-
  Rows that are made: copies, and rows of rows.
-/
import Derived.Test.YtlclijnoablejaaDoorStaE
set_option linter.unusedVariables false
set_option linter.unusedSimpArgs false
namespace Go.Proofs.YtlclijnoablejaaDoor
open Go.RowKit

def icells (l : List Int) : List Value := l.map (Value.int .i64)
theorem range_ival (l : List Int) : (List.range l.length).map (IVal l) = icells l := by
  apply List.ext_getElem
  · simp [icells]
  · intro i h1 h2
    simp at h1
    simp only [List.getElem_map, List.getElem_range]
    have := iVal_map h1
    unfold icells at h2 ⊢
    rw [List.getElem?_eq_getElem h2] at this
    exact (Option.some.inj this).symm
theorem icells_one (l : List Int) : ∀ u ∈ icells l, u.oneCell' = true := by
  intro u hu
  unfold icells at hu
  obtain ⟨c, _, rfl⟩ := List.mem_map.1 hu
  rfl
theorem icells_append (l m : List Int) : icells (l ++ m) = icells l ++ icells m := by unfold icells; rw [List.map_append]
theorem row_none {w : World} {n : Nat} {f : Nat → Value} (h : Row w none n f) : n = 0 := by
  rcases Nat.eq_zero_or_pos n with h0 | h0
  · exact h0
  · obtain ⟨b, off, e, _⟩ := h 0 h0
    cases e
theorem infoInt : (Tryd.prog.info? 3).map (fun i => (i.zero, i.size, i.bytes)) = some (some (.int .i64 0), 1, 8) := by kernel_rfl
theorem infoRow : (Tryd.prog.info? 31).map (fun i => (i.zero, i.size, i.bytes)) = some (some (.slice none 0 0), 1, 24) := by kernel_rfl
theorem iparts {P : Program} {e : TypeId} {z : Value} {s b : Nat} (h : (P.info? e).map (fun i => (i.zero, i.size, i.bytes)) = some (some z, s, b)) : ∃ i, P.info? e = some i ∧ i.zero = some z ∧ i.size = s ∧ i.bytes = b := by
  cases hi : P.info? e with
  | none => rw [hi] at h; cases h
  | some i =>
    rw [hi] at h
    simp only [Option.map_some, Option.some.injEq, Prod.mk.injEq] at h
    exact ⟨i, rfl, h.1, h.2.1, h.2.2⟩
/-- A slice of ints that is not older than B. -/
def Fresh (B : Nat) (w : World) (v : Value) (r : List Int) : Prop := ∃ A c, v = .slice A r.length c ∧ RowC w A c r ∧ ∀ b off sp, A = some ⟨b, off, sp⟩ → B ≤ b ∧ b < w.heap.size
theorem Fresh.up {B : Nat} {w w' : World} {v : Value} {r : List Int} (h : Fresh B w v r) (u : Up w w') : Fresh B w' v r := by
  obtain ⟨A, c, e, hr, hb⟩ := h
  exact ⟨A, c, e, hr.up u, fun b off sp h => ⟨(hb b off sp h).1, Nat.lt_of_lt_of_le (hb b off sp h).2 u.size⟩⟩
theorem Fresh.less {B B' : Nat} {w : World} {v : Value} {r : List Int} (h : Fresh B w v r) (hB : B' ≤ B) : Fresh B' w v r := by
  obtain ⟨A, c, e, hr, hb⟩ := h
  exact ⟨A, c, e, hr, fun b off sp h => ⟨Nat.le_trans hB (hb b off sp h).1, (hb b off sp h).2⟩⟩
theorem own_fresh {w : World} {B : Nat} {v : Value} {r : List Int} (h : w.ownsRow B 3 1 v r.length (icells r)) : Fresh B w v r := by
  have h2 := h.2
  rcases h2 with ⟨hv, hn⟩ | ⟨g, cap, cur, hv, hg, hh, hc, hm, hs, ht⟩
  · have : r = [] := List.eq_nil_of_length_eq_zero hn
    subst this
    exact ⟨none, 0, hv, ⟨Row.nil _ _ _, Nat.le_refl _, by omega, fun _ => rfl⟩, fun b off sp e => by cases e⟩
  · obtain ⟨A, c, e, hr, hle⟩ := own_row h (f := IVal r) (fun k hk => iVal_map hk)
    rw [hv] at e
    injection e with e1 e2 e3
    subst e1 e3
    exact ⟨_, _, hv, ⟨hr, hle, by unfold maxLen at hm; omega, fun e => by cases e⟩, fun b off sp e => by
      injection e with e; injection e with e; rw [← e]; exact ⟨hg, (Array.getElem?_eq_some_iff.1 hh).1⟩⟩

set_option maxRecDepth 10000 in
set_option maxHeartbeats 1000000 in
theorem clone_any (l : List Int) (A : Option Addr) (c : Nat) (w : World) (hr : RowC w A c l) (hb : l.length ≤ 1000000) :
    Calls Tryd.prog 27 #[.slice A l.length c] w fun e w' => ∃ v, e = .returned v ∧ Fresh w.heap.size w' v l ∧ Up w w' := by
  have hnil := fun W : World => Lib.run_eql_slice_nil (P := Tryd.prog) W 31 3 A l.length c 0 0 Tryd.underlying31
  cases A with
  | none =>
    obtain rfl := List.eq_nil_of_length_eq_zero (row_none hr.row)
    have hc := hr.nil rfl
    subst hc
    clear hr hb
    show Calls Tryd.prog 27 #[.slice none 0 0] w fun e w' => ∃ v, e = .returned v ∧ Fresh w.heap.size w' v [] ∧ Up w w'
    simp only [List.length_nil] at hnil
    go_enter Tryd.func27, Tryd.ntmps27
    go_wp2_with fail
    go_ret
    exact ⟨_, rfl, ⟨none, 0, rfl, ⟨Row.nil _ _ _, Nat.le_refl _, by omega, fun _ => rfl⟩, fun b off sp e => by cases e⟩, Up.refl _⟩
  | some ad =>
    obtain ⟨i0, hi, hz0, hz1, hz2⟩ := iparts infoInt
    have HI := Lib.hid hi
    have HZ0 := Lib.hid hz0
    have HZ1 := Lib.hid hz1
    have HZ2 := Lib.hid hz2
    have HR := Lib.hid hr.row
    have HB := Lib.hid hb
    have HRI := Lib.hid (range_ival l)
    have H1 := Lib.hid (show ∀ u ∈ (List.range l.length).map (IVal l), u.oneCell' = true by rw [HRI.out]; exact icells_one l)
    obtain ⟨n, hn⟩ : ∃ n, l.length = n := ⟨_, rfl⟩
    have HN := Lib.hid hn
    rw [hn] at HR HB HRI H1 hnil ⊢
    clear hi hz0 hz1 hz2 hr hb hn
    go_enter Tryd.func27, Tryd.ntmps27
    go_wp2_with (at_builtin; refine wpList_appendRow rfl (.tmp 5) (.tmp 6) 31 rfl w.heap.size 3 i0 (.int .i64 0) 8 Tryd.underlying31 HI.out HZ0.out HZ1.out HZ2.out rfl _ 0 [] rfl ?_ (some ad) n c (IVal l) rfl (fun h => by cases h) ?_ H1.out (by decide) (by have := HB.out; omega) ?_ ?_)
    case _ => exact own_empty w 3
    case _ => exact HR.out.up ((Up.refl w).alloc _)
    case _ => simp
    · intro v1 w1 hown1 hg hbel
      rw [HRI.out, ← HN.out] at hown1
      have HO := Lib.hid (own_fresh hown1)
      have HU := Lib.hid (show Up w w1 from Below.trans ((Up.refl w).alloc _) hbel)
      clear hown1 hg hbel
      go_wp2_with fail
      go_ret
      exact ⟨_, rfl, HO.out, HU.out⟩

/-- Values that are slices of rows of the world w0. -/
def SlicesOf (w0 : World) (xs : List Value) (L : List (List Int)) : Prop := xs.length = L.length ∧ ∀ k, k < L.length → ∃ A' c', xs[k]? = some (.slice A' (L.getD k []).length c') ∧ RowC w0 A' c' (L.getD k [])
theorem SlicesOf.nil (w0 : World) : SlicesOf w0 [] [] := ⟨rfl, fun k hk => absurd hk (Nat.not_lt_zero k)⟩
theorem SlicesOf.push {w0 : World} {xs : List Value} {L : List (List Int)} {A : Option Addr} {c : Nat} {r : List Int} (h : SlicesOf w0 xs L) (hr : RowC w0 A c r) : SlicesOf w0 (xs ++ [.slice A r.length c]) (L ++ [r]) := by
  refine ⟨by simp [h.1], fun k hk => ?_⟩
  by_cases hk2 : k < L.length
  · obtain ⟨A', c', h1, h2⟩ := h.2 k hk2
    have e : (L ++ [r]).getD k [] = L.getD k [] := by rw [List.getD_eq_getElem?_getD, List.getD_eq_getElem?_getD, List.getElem?_append_left hk2]
    rw [e]
    exact ⟨A', c', by rw [List.getElem?_append_left (by rw [h.1]; exact hk2)]; exact h1, h2⟩
  · have hk3 : k = L.length := by simp at hk; omega
    subst hk3
    have e : (L ++ [r]).getD L.length [] = r := by simp
    rw [e]
    exact ⟨A, c, by rw [List.getElem?_append_right (by rw [h.1]; exact Nat.le_refl _), h.1]; simp, hr⟩
theorem SlicesOf.up {w w' : World} {xs : List Value} {L : List (List Int)} (h : SlicesOf w xs L) (u : Up w w') : SlicesOf w' xs L := ⟨h.1, fun k hk => by
  obtain ⟨A', c', h1, h2⟩ := h.2 k hk
  exact ⟨A', c', h1, h2.up u⟩⟩
/-- A row of slices of the call's own. -/
def OwnS (w0 w : World) (B : Nat) (v : Value) (L : List (List Int)) : Prop := ∃ xs, w.ownsRow B 31 1 v L.length xs ∧ SlicesOf w0 xs L
theorem OwnS.nil (w0 w : World) (B : Nat) : OwnS w0 w B (.slice none 0 0) [] := ⟨[], own_nil w B _ 1, SlicesOf.nil w0⟩
theorem OwnS.brow {w0 w : World} {B : Nat} {v : Value} {L : List (List Int)} (h : OwnS w0 w B v L) (u : Up w0 w) : ∃ A c, v = .slice A L.length c ∧ BRow w A L ∧ L.length ≤ c := by
  obtain ⟨xs, ho, hs⟩ := h
  obtain ⟨A, c, e, hr, hc⟩ := own_row ho (f := fun k => xs.getD k (.int .i64 0)) (fun k hk => by rw [List.getD_eq_getElem?_getD, List.getElem?_eq_getElem (by rw [hs.1]; exact hk)]; rfl)
  refine ⟨A, c, e, fun k hk => ?_, hc⟩
  obtain ⟨b, off, ea, hcell⟩ := hr k hk
  obtain ⟨A', c', h1, h2⟩ := hs.2 k hk
  refine ⟨b, off, A', c', ea, ?_, h2.up u⟩
  rw [hcell]
  show some (xs.getD k (.int .i64 0)) = _
  rw [List.getD_eq_getElem?_getD (l := xs), h1]; rfl
theorem own_up3 {w w' : World} {B e size n : Nat} {v : Value} {xs : List Value} (h : w.ownsRow B e size v n xs) (u : Up w w') : w'.ownsRow B e size v n xs := by
  rcases h.2 with ⟨hv, hn⟩ | ⟨g, cap, cur, hv, hg, hh, hr⟩
  · exact ⟨h.1, .inl ⟨hv, hn⟩⟩
  · exact ⟨h.1, .inr ⟨g, cap, cur, hv, hg, (u.block g (Array.getElem?_eq_some_iff.1 hh).1).trans hh, hr⟩⟩
theorem OwnS.up {w0 w w' : World} {B : Nat} {v : Value} {L : List (List Int)} (h : OwnS w0 w B v L) (u : Up w w') : OwnS w0 w' B v L := by
  obtain ⟨xs, ho, hs⟩ := h
  exact ⟨xs, own_up3 ho u, hs⟩

/-- A row's tail: what 'r[1:]' is. -/
theorem RowC.tail {w : World} {b off c : Nat} {r : List Int} (h : RowC w (some ⟨b, off, none⟩) c r) (hr : 0 < r.length) (A' : Option Addr) (hA : 1 < c → A' = some ⟨b, off + 1, none⟩) (hA0 : c = 1 → A' ≠ none) : RowC w A' (c - 1) r.tail := by
  cases r with
  | nil => cases hr
  | cons x r =>
    have hl : (x :: r).length = r.length + 1 := rfl
    have hle := h.le
    rw [hl] at hle
    refine ⟨?_, ?_, by have := h.cap; omega, fun e => ?_⟩
    · have hh := h.row
      rw [hl] at hh
      exact row_tail hh A' (fun h0 => hA (by omega))
    · show r.length ≤ c - 1; omega
    · by_cases h1 : c = 1
      · exact absurd e (hA0 h1)
      · rw [hA (by omega)] at e; cases e

/-- wpList_push, and which block the row lies in. -/
theorem wpList_push3 {P : Program} {ops : Array Oper} {rest : List Oper} {o : Oper} {a : Act} {Q : Exit → Act → World → Prop} {w : World} {e : TypeId} {news : List Value} (hgd : o.guard = none) (s x : Operand) (t : TypeId)
    (ho : o.op = .call { callee := .builtin .append, args := #[s, x], argTypes := #[t, t] })
    (B : Nat) (i : TypeInfo) (z : Value) (size bytes : Nat) (ht : P.underlying t = some (.slice e)) (hi : P.info? e = some i) (hz : i.zero = some z)
    (hsize : i.size = size) (hby : i.bytes = bytes) (hzs : z.cells.size = size) (hsz : 0 < size)
    (v : Value) (n : Nat) (xs : List Value) (hs : a.eval s = v) (hown : w.ownsRow B e size v n xs)
    (hx : a.eval x = .slice (some ⟨w.heap.size, 0, none⟩) 1 1) (hl : news.length = size) (h1 : ∀ u ∈ news, u.oneCell' = true)
    (hb1 : 0 < bytes) (hbytes : (n + 1) * bytes ≤ 140737488355328) (hB : B ≤ w.heap.size)
    (h : ∀ g cap w', w'.ownsRow B e size (.slice (some ⟨g, 0, none⟩) (n + 1) cap) (n + 1) (xs ++ news) → w.grownBy w' v.ownBlock → (v.ownBlock = some g ∨ w.heap.size ≤ g) → g < w'.heap.size → Below B w w' → wpList P ops Q rest (a.put o.dst (.slice (some ⟨g, 0, none⟩) (n + 1) cap)) w') :
    wpList P ops Q (o :: rest) a (w.alloc (.cells news.toArray e)) := by
  have h63 : n + 1 ≤ maxLen := by
    have : n + 1 ≤ (n + 1) * bytes := Nat.le_mul_of_pos_right _ hb1
    unfold maxLen; omega
  refine wpList_append_lies (w.alloc (.cells news.toArray e)) hgd s x t ho B e i z size bytes ht hi hz hsize hby hzs hsz v n xs hs (hown.alloc _) ⟨w.heap.size, 0, none⟩ 1 1 news hx (by omega) (fun j u hu => cells_new w news e j u hu) h1 (by decide) h63 hbytes (by simp; omega) _ rfl ?_
  intro g cap w' hown' hg hor hlt
  have hg' : w.grownBy w' v.ownBlock := ⟨hg.os, hg.tape, hg.output, Nat.le_trans (by simp) hg.size, fun k hk hne => (hg.block k (by simp; omega) hne).trans (Below.heap_alloc w _ k hk)⟩
  exact h g cap w' hown' hg' (hor.imp id (fun e => by rw [e]; simp)) hlt (grownBy_below hg' hB (own_ge hown))

end Go.Proofs.YtlclijnoablejaaDoor
