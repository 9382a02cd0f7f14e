/-
  Package tape: Note and Set.
-/
import Derived.Test.YtedkgamecdmjdaaTapeC
set_option linter.unusedVariables false
set_option linter.unusedSimpArgs false
namespace Go.Proofs.Ytedkgamecdmjdaa
open Go.RowKit

theorem note_one (a : Int × Int) (l : List (Int × Int)) : ncells (l ++ [a]) = ncells l ++ [.int .i64 a.1, .int .i64 a.2] := by rw [ncells_append]; rfl

/-- What the append of a note leaves, in its region. -/
theorem note_append {w0 W w1 : World} {g B : Nat} {s : TS} {va : Value} {k0 : Int} {g1 cap : Nat} (hU : Up w0 W) (h : Tape1 w0 g B s) (hca : w0.cell? ⟨g, 4, none⟩ = some va) (hown : w0.ownsRow B 79 2 va s.nts.length (ncells s.nts))
    (hown1 : w1.ownsRow B 79 2 (.slice (some ⟨g1, 0, none⟩) (s.nts.length + 1) cap) (s.nts.length + 1) (ncells s.nts ++ [.int .i64 k0, .int .i64 (s.acc.length : Int)])) (hg : W.grownBy w1 va.ownBlock) :
    w1.cell? ⟨g, 4, none⟩ = some va ∧ w1.frozen? ⟨g, 4, none⟩ = false ∧ Tape1 (w1.setCell ⟨g, 4, none⟩ (.slice (some ⟨g1, 0, none⟩) (s.nts.length + 1) cap)) g B (s.noted k0) ∧ TK g B w0 (w1.setCell ⟨g, 4, none⟩ (.slice (some ⟨g1, 0, none⟩) (s.nts.length + 1) cap)) := by
  have h2 := h.up hU
  have hown2 := own_up hown hU
  have hlow : W.heap[g]? = w1.heap[g]? := (hg.block g h2.1.gs (fun e => by have := own_ge hown2 g e.symm; have := h.1.gB; omega)).symm
  have hca2 : W.cell? ⟨g, 4, none⟩ = some va := (hU.cell (p := ⟨g, 4, none⟩) h.1.gs).trans hca
  refine ⟨(tcell hlow.symm).trans hca2, (tfrozen hlow.symm).trans (h2.1.fz 4), ⟨h2.1.pushN k0 hca2 hown2 hg (by rw [note_one]; exact hown1), h.2⟩, ?_⟩
  exact ((TK.ofUp hU).grown hown2 (.inr (.inr rfl)) hg).setCell _

theorem news1 (w : World) (news : List Value) (e : TypeId) : ∀ j u, news[j]? = some u → (w.alloc (.cells news.toArray e)).drew.cell? ((⟨w.heap.size, 0, none⟩ : Addr).add j) = some u := fun j u h => cells_new w news e j u h

set_option maxRecDepth 10000 in
set_option maxHeartbeats 1000000 in
theorem note_any (g B : Nat) (k0 : Int) (s : TS) (w : World) (h : Tape1 w g B s) (hb : s.nts.length < 1000000) :
    Calls Try.prog 29 #[.pointer (some ⟨g, 0, none⟩), .int .i64 k0] w fun e w' => e = .returned (.tuple #[]) ∧ Tape1 w' g B (s.noted k0) ∧ TK g B w w' := by
  obtain ⟨va, hca, hown⟩ := h.1.nts
  obtain ⟨Aa, ca, rfl, hac, _⟩ := own_form hown
  obtain ⟨vb, hcb, hownb⟩ := h.1.acc
  obtain ⟨Ab, cb, rfl, hbc, _⟩ := own_form hownb
  have c0 := h.1.c0
  have hgs := h.1.gs
  have HS := Lib.hid h.1.sz
  have HOWN := Lib.hid hown
  have HX := Lib.hid (fun (W w1 : World) (g1 cap : Nat) (hU : Up w W) => note_append (W := W) (w1 := w1) (g1 := g1) (cap := cap) (k0 := k0) hU h hca hown)
  have hf3 := h.1.fz 4
  obtain ⟨i0, hi, hz0, hz1, hz2⟩ := info_parts infoNote
  have HI := Lib.hid hi
  have HZ0 := Lib.hid hz0
  have HZ1 := Lib.hid hz1
  have HZ2 := Lib.hid hz2
  obtain ⟨n, hn⟩ : ∃ n, s.nts.length = n := ⟨_, rfl⟩
  obtain ⟨m, hm⟩ : ∃ m, s.acc.length = m := ⟨_, rfl⟩
  rw [hn] at hca hac HOWN HX hb
  rw [hm] at hcb HX
  clear hown h hi hz0 hz1 hz2 hn hm hownb
  go_enter Try.func29, Try.ntmps29
  go_wp2_with fail
  go_region_law (refine step_append_lies _ rfl (.tmp 17) (.tmp 25) 72 rfl B 79 i0 (.agg #[.int .i64 0, .int .i64 0]) 2 16 Try.underlying72 HI.out HZ0.out HZ1.out HZ2.out rfl (by decide) _ n (ncells s.nts) rfl (own_up HOWN.out ((Up.refl w).alloc _).drew) ⟨w.heap.size, 0, none⟩ 1 1 [.int .i64 k0, .int .i64 (m : Int)] rfl rfl (news1 w _ _) (by simp [Value.oneCell']) (by decide) (by unfold maxLen; omega) (by omega) (by have := HS.out; simp; omega) _ rfl ?_; intro g1 cap w1 hown1 hgrow hat hlt1; obtain ⟨hc3, hf3', HT0, HK0⟩ := HX.out _ _ _ _ ((Up.refl w).alloc _).drew hown1 hgrow; have HT := Lib.hid HT0; have HK := Lib.hid HK0; clear HT0 HK0 hown1 hgrow hat hlt1)
  all_goals
    go_end0
    exact ⟨rfl, HT.out, HK.out⟩

/-- New locals are laid. -/
theorem set_append {w0 W w1 : World} {g B : Nat} {s : TS} {A : Option Addr} {c : Nat} {k : Nat} {v1 : Value} (hU : Up w0 W) (h : Tape1 w0 g B s) (hca : w0.cell? ⟨g, 2, none⟩ = some (.slice A s.loc.length c)) (hown : w0.ownsRow B 3 1 (.slice A s.loc.length c) s.loc.length (icells s.loc)) (hk : s.loc.length + k ≤ 32768)
    (hown1 : w1.ownsRow B 3 1 v1 (s.loc.length + k) (icells s.loc ++ List.replicate k (.int .i64 0))) (hg : W.grownBy w1 (Value.slice A s.loc.length c).ownBlock) :
    w1.cell? ⟨g, 2, none⟩ = some (.slice A s.loc.length c) ∧ w1.frozen? ⟨g, 2, none⟩ = false ∧ Tape1 (w1.setCell ⟨g, 2, none⟩ v1) g B { s with loc := s.loc ++ List.replicate k 0 } ∧ TK g B w0 (w1.setCell ⟨g, 2, none⟩ v1) := by
  have h2 := h.up hU
  have hown2 := own_up hown hU
  have hlow : W.heap[g]? = w1.heap[g]? := (hg.block g h2.1.gs (fun e => by have := own_ge hown2 g e.symm; have := h.1.gB; omega)).symm
  have hca2 : W.cell? ⟨g, 2, none⟩ = some (.slice A s.loc.length c) := (hU.cell (p := ⟨g, 2, none⟩) h.1.gs).trans hca
  refine ⟨(tcell hlow.symm).trans hca2, (tfrozen hlow.symm).trans (h2.1.fz 2), ⟨?_, h.2⟩, ((TK.ofUp hU).grown hown2 (.inl rfl) hg).setCell _⟩
  refine h2.1.newL (s.loc ++ List.replicate k 0) (by simp; omega) ?_ hg.size ?_
  · intro q hq hno
    refine hg.block q hq (fun e => ?_)
    rcases hown2.2 with ⟨hv, _⟩ | ⟨g', cap, cur, hv, hb, h3, _⟩
    · rw [hv] at e; simp [Value.ownBlock] at e
    · rw [hv] at e
      simp only [Value.ownBlock, Option.some.injEq] at e
      subst e
      exact hno cur hb h3
  · have : (s.loc ++ List.replicate k (0 : Int)).length = s.loc.length + k := by simp
    rw [this]
    have h3 : icells (s.loc ++ List.replicate k 0) = icells s.loc ++ List.replicate k (.int .i64 0) := by unfold icells; simp
    rw [h3]
    exact hown1

/-- A local is stored. -/
theorem set_store {w : World} {g B : Nat} {s : TS} (h : Tape1 w g B s) (k : Nat) (hk : k < s.loc.length) (x : Int) :
    ∃ gl c, w.cell? ⟨g, 2, none⟩ = some (.slice (some ⟨gl, 0, none⟩) s.loc.length c) ∧ w.cell? ⟨gl, k, none⟩ = some (.int .i64 (s.loc.getD k 0)) ∧ w.frozen? ⟨gl, k, none⟩ = false ∧
      Tape1 (w.setCell ⟨gl, k, none⟩ (.int .i64 x)) g B { s with loc := s.loc.set k x } ∧ TK g B w (w.setCell ⟨gl, k, none⟩ (.int .i64 x)) ∧ gl ≠ g := by
  obtain ⟨v, hcv, hown⟩ := h.1.loc
  have hown0 := hown
  rcases hown.2 with ⟨_, h0⟩ | ⟨gl, cap, cur, rfl, hb, hh, hnc, hcm, hcs, htake⟩
  · omega
  · have hgl : gl ≠ g := by have := h.1.gB; omega
    have hset : ∀ q, q ≠ gl → (w.setCell ⟨gl, k, none⟩ (.int .i64 x)).heap[q]? = w.heap[q]? := fun q hne => Below.heap_setCell w ⟨gl, k, none⟩ _ q hne
    have hgg := hset g (by omega)
    have hrow : ∀ e', e' ≠ 3 → ∀ q cs, B ≤ q → w.heap[q]? = some (.cells cs e' (0, 0)) → (w.setCell ⟨gl, k, none⟩ (.int .i64 x)).heap[q]? = w.heap[q]? := fun e' hne q cs _ hq => hset q (fun e => by
      subst e
      rw [hh] at hq
      simp only [Option.some.injEq, Obj.cells.injEq] at hq
      exact hne hq.2.1.symm)
    refine ⟨gl, cap, hcv, ?_, ?_, ⟨⟨h.1.gB, by simpa using h.1.sz, (tcell hgg).trans h.1.c0, fun j => (tfrozen hgg).trans (h.1.fz j), ?_, ?_, ?_, ?_, h.1.la, h.1.lb, by simpa using h.1.ll⟩, h.2⟩, ?_, hgl⟩
    · rw [hown0.cellAt k (by omega)]
      have := iVal_map hk
      unfold IVal at this
      exact this
    · exact hown0.frozenAt k
    · obtain ⟨A, c, h1, h2, h3⟩ := h.1.ans
      exact ⟨A, c, (tcell hgg).trans h1, row_keep h2 (fun b off e hp => hset b (by have := h3 b off e hp; have := h.1.gB; omega)), h3⟩
    · refine ⟨_, (tcell hgg).trans hcv, ?_⟩
      have hst := (hown0.stored k (.int .i64 x)).1
      have e1 : icells (s.loc.set k x) = (icells s.loc).set k (.int .i64 x) := by unfold icells; rw [List.map_set]
      rw [e1]
      simpa using hst
    · obtain ⟨v2, h1, h2⟩ := h.1.acc
      exact ⟨v2, (tcell hgg).trans h1, own_keep h2 (hrow _ (by decide))⟩
    · obtain ⟨v2, h1, h2⟩ := h.1.nts
      exact ⟨v2, (tcell hgg).trans h1, own_keep h2 (hrow _ (by decide))⟩
    · exact ⟨rfl, rfl, rfl, by simp, fun q _ _ hf => hset q (fun e => by
        subst e
        exact absurd rfl (hf hb cur _ hh).1)⟩

theorem i64w (y : Int) (h0 : -4611686018427387904 ≤ y) (h1 : y ≤ 4611686018427387904) : IntKind.i64.wrap y = y := by simp [IntKind.wrap, IntKind.bits, IntKind.signed]; omega
theorem wrap_k (p n k : Nat) (h : p + 1 = n + k) (hp : (p : Int) ≤ 32767) : IntKind.i64.wrap (IntKind.i64.wrap ((p : Int) + 1) - (n : Int)) = (k : Int) := by
  rw [i64w ((p : Int) + 1) (by omega) (by omega), i64w _ (by omega) (by omega)]
  omega
theorem set_out (s : TS) (i x : Int) (h : i < 0 ∨ 32768 ≤ i) : s.set i x = s := by unfold TS.set; rw [if_pos h]
theorem set_none (s : TS) (i : Int) (h : ¬ (i < 0 ∨ 32768 ≤ i)) (h2 : (s.loc.length : Int) ≤ i) : s.set i 0 = s := by unfold TS.set; rw [if_neg h, if_pos h2, if_pos rfl]
theorem set_more (s : TS) (p k : Nat) (x : Int) (h : p < 32768) (h2 : p + 1 = s.loc.length + k) (hk : 0 < k) (hx : ¬ x = 0) : s.set p x = { s with loc := (s.loc ++ List.replicate k 0).set p x } := by
  unfold TS.set
  rw [if_neg (by omega), if_pos (by omega), if_neg hx, Int.toNat_natCast, h2]
  congr 4
  omega
theorem set_in (s : TS) (p : Nat) (x : Int) (h : p < 32768) (h2 : p < s.loc.length) : s.set p x = { s with loc := s.loc.set p x } := by
  unfold TS.set
  rw [if_neg (by omega), if_neg (by omega), Int.toNat_natCast]

set_option maxRecDepth 10000 in
set_option maxHeartbeats 1000000 in
theorem set_any (g B : Nat) (i x : Int) (s : TS) (w : World) (h : Tape1 w g B s) :
    Calls Try.prog 28 #[.pointer (some ⟨g, 0, none⟩), .int .i64 i, .int .i64 x] w fun e w' => e = .returned (.tuple #[]) ∧ Tape1 w' g B (s.set i x) ∧ TK g B w w' := by
  obtain ⟨v, hcv, hown⟩ := h.1.loc
  obtain ⟨A, c, rfl, hac, hcm⟩ := own_form hown
  have c0 := h.1.c0
  have hll := h.1.ll
  have H := Lib.hid h
  by_cases hr : i < 0 ∨ 32768 ≤ i
  · have HG := Lib.hid (set_out s i x hr)
    clear h hown hcv
    rcases hr with h1 | h1
    · go_enter Try.func28, Try.ntmps28
      go_wp2_with fail
      refine bodyPost_ret (results_none rfl _ _ _) rfl ?_
      exact ⟨rfl, by rw [HG.out]; exact H.out, TK.refl _ _ _⟩
    · have h2 : ¬ i < 0 := by omega
      go_enter Try.func28, Try.ntmps28
      go_wp2_with fail
      refine bodyPost_ret (results_none rfl _ _ _) rfl ?_
      exact ⟨rfl, by rw [HG.out]; exact H.out, TK.refl _ _ _⟩
  · have h1 : ¬ i < 0 := by omega
    have h2 : ¬ 32768 ≤ i := by omega
    obtain ⟨p, rfl⟩ : ∃ p : Nat, i = p := ⟨i.toNat, by omega⟩
    by_cases hin : p < s.loc.length
    · have HG := Lib.hid (set_in s p x (by omega) hin)
      obtain ⟨gl, c1, k1, k2, k3, k4, k5, hne⟩ := set_store h p hin x
      have H4 := Lib.hid k4
      have H5 := Lib.hid k5
      have hle : ¬ (s.loc.length : Int) ≤ (p : Int) := by omega
      have hmp : ((p : Int) < s.loc.length) := by omega
      clear h hown hcv hr k4 k5 hin
      generalize s.loc.getD p 0 = old at *
      obtain ⟨n, hn⟩ : ∃ n, s.loc.length = n := ⟨_, rfl⟩
      rw [hn] at k1 hle hll hmp
      clear hn hac hcm
      go_enter Try.func28, Try.ntmps28
      go_wp2_with fail
      go_end0
      exact ⟨rfl, by rw [HG.out]; exact H4.out, H5.out⟩
    · by_cases hx : x = 0
      · subst hx
        have HG := Lib.hid (set_none s p hr (by omega))
        have hle : (s.loc.length : Int) ≤ (p : Int) := by omega
        clear h hown hr hin
        obtain ⟨n, hn⟩ : ∃ n, s.loc.length = n := ⟨_, rfl⟩
        rw [hn] at hcv hle hll
        clear hn hac
        go_enter Try.func28, Try.ntmps28
        go_wp2_with fail
        refine bodyPost_ret (results_none rfl _ _ _) rfl ?_
        exact ⟨rfl, by rw [HG.out]; exact H.out, TK.refl _ _ _⟩
      · obtain ⟨k, hk⟩ : ∃ k, p + 1 = s.loc.length + k := ⟨p + 1 - s.loc.length, by omega⟩
        have HG := Lib.hid (set_more s p k x (by omega) hk (by omega) hx)
        have HX := Lib.hid (fun (W w1 : World) (v1 : Value) (hU : Up w W) => set_append (W := W) (w1 := w1) (v1 := v1) (k := k) hU h hcv hown (by omega))
        have HOWN := Lib.hid hown
        have hgs := h.1.gs
        have hf2 := h.1.fz 2
        have HS := Lib.hid h.1.sz
        obtain ⟨i0, hi, hz0, hz1, hz2⟩ := info_parts infoInt
        have HI := Lib.hid hi
        have HZ0 := Lib.hid hz0
        have HZ1 := Lib.hid hz1
        have HZ2 := Lib.hid hz2
        have hle : (s.loc.length : Int) ≤ (p : Int) := by omega
        have hx0 : (x == 0) = false := by simpa using hx
        have HL := Lib.hid (show (s.loc ++ List.replicate k (0 : Int)).length = p + 1 by simp; omega)
        obtain ⟨n, hn⟩ : ∃ n, s.loc.length = n := ⟨_, rfl⟩
        rw [hn] at hcv hle hll HX HOWN hk hac
        have HK := Lib.hid hk
        have hp1 : (p : Int) ≤ 32767 := by omega
        have HW := Lib.hid (show IntKind.i64.wrap (IntKind.i64.wrap ((p : Int) + 1) - (n : Int)) = (k : Int) from wrap_k p n k hk hp1)
        clear h hown hr hin hn hi hz0 hz1 hz2 hk
        go_enter Try.func28, Try.ntmps28
        go_wp2_with fail
        go_region_law (refine step_append_zeros rfl (.tmp 36) (.tmp 44) 43 3 rfl B 3 i0 .i64 .i64 Try.underlying43 Try.underlying3 HI.out HZ0.out HZ1.out HZ2.out _ n (icells s.loc) rfl (own_up HOWN.out (Up.refl w).drew) k (by simp [Act.eval, Act.put]; exact HW.out) (by have := HK.out; omega) (by have := HK.out; omega) (by have := HS.out; simp; omega) ?_; intro v1 w1 hown1 hgrow; obtain ⟨g1, cap, rfl, _, _⟩ := hown1.form (by have := HK.out; omega); obtain ⟨hc3, hf3', HT0, HK0⟩ := HX.out _ _ _ (Up.refl w).drew hown1 hgrow; have HT := Lib.hid HT0; have HK9 := Lib.hid HK0; clear HT0 HK0 hown1 hgrow)
        all_goals
          generalize w1.setCell ⟨g, 2, none⟩ (.slice (some ⟨g1, 0, none⟩) (n + k) cap) = W1 at *
          obtain ⟨gl, c1, k1, k2, k3, k4, k5, hne⟩ := set_store HT.out p (by rw [HL.out]; omega) x
          simp only at k1 k2 k4
          rw [HL.out] at k1
          have H4 := Lib.hid k4
          have H5 := Lib.hid (HK9.out.trans k5)
          have hm1 : (p : Int) < ((p + 1 : Nat) : Int) := by omega
          clear hc3 hf3' hcv hf2 k4 k5 HT HK9 HOWN
          generalize (s.loc ++ List.replicate k (0 : Int)).getD p 0 = old at *
          generalize p + 1 = q at *
          go_wp2_with fail
          go_end0
          exact ⟨rfl, by rw [HG.out]; exact H4.out, H5.out⟩

end Go.Proofs.Ytedkgamecdmjdaa
