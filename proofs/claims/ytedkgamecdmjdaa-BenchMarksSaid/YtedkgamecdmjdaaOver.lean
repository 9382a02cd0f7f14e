/-
  Package cell: overlap: a read is told of a write.
-/
import Derived.Test.YtedkgamecdmjdaaNums
import Derived.Test.YtedkgamecdmjdaaApp
import Derived.Test.YtedkgamecdmjdaaIcells
import Derived.Deep.AppendLies
import Derived.ArgAppend
set_option linter.unusedVariables false
set_option linter.unusedSimpArgs false
namespace Go.Proofs.Ytedkgamecdmjdaa
open Go.RowKit

theorem infoIntC : Try.prog.info? 3 = some Try.t3 := by kernel_rfl

/-- What a read may tell, in memory: a row of its own, or a slice that is full. -/
def MayIs (w : World) (B : Nat) (m : Value) (l : List Int) : Prop := w.ownsRow B 3 1 m l.length (icells l) ∨ ∃ g, m = .slice (some ⟨g, 0, none⟩) l.length l.length ∧ B ≤ g ∧ g < w.heap.size ∧ ∀ j u, (icells l)[j]? = some u → w.cell? ⟨g, j, none⟩ = some u

/-- What overlap leaves. -/
structure OvPost (w w' : World) (b o : Nat) (m m' : Value) : Prop where
  os : w'.os = w.os
  tape : w'.tape = w.tape
  output : w'.output = w.output
  size : w.heap.size ≤ w'.heap.size
  block : ∀ k, k < w.heap.size → k ≠ b → m.ownBlock ≠ some k → w'.heap[k]? = w.heap[k]?
  c3 : w'.cell? ⟨b, o + 3, none⟩ = some (.bool true)
  c4 : w'.cell? ⟨b, o + 4, none⟩ = some m'
  oth : ∀ j, j ≠ o + 3 → j ≠ o + 4 → w'.cell? ⟨b, j, none⟩ = w.cell? ⟨b, j, none⟩
  fz : ∀ j, w'.frozen? ⟨b, j, none⟩ = w.frozen? ⟨b, j, none⟩
  ob : m'.ownBlock = m.ownBlock ∨ (∀ k, m'.ownBlock = some k → w.heap.size ≤ k)

theorem own_same {w w' : World} {B e size n : Nat} {v : Value} {xs : List Value} (h : w.ownsRow B e size v n xs) (hk : ∀ k, v.ownBlock = some k → w'.heap[k]? = w.heap[k]?) : w'.ownsRow B e size v n xs := by
  rcases h.2 with ⟨hv, hn⟩ | ⟨g, cap, cur, hv, hg, hh, hr⟩
  · exact ⟨h.1, .inl ⟨hv, hn⟩⟩
  · exact ⟨h.1, .inr ⟨g, cap, cur, hv, hg, (hk g (by rw [hv]; rfl)).trans hh, hr⟩⟩
theorem info_parts2 : ∃ i, Try.prog.info? 3 = some i ∧ i.zero = some (.int .i64 0) ∧ i.size = 1 ∧ i.bytes = 8 := ⟨_, infoIntC, by kernel_rfl, by kernel_rfl, by kernel_rfl⟩
theorem cellE {w w' : World} {b o : Nat} (h : w'.heap[b]? = w.heap[b]?) : w'.cell? ⟨b, o, none⟩ = w.cell? ⟨b, o, none⟩ := by simp only [World.cell?, h]
theorem frozenE {w w' : World} {b o : Nat} (h : w'.heap[b]? = w.heap[b]?) : w'.frozen? ⟨b, o, none⟩ = w.frozen? ⟨b, o, none⟩ := by simp only [World.frozen?, h]

set_option maxRecDepth 10000 in
set_option maxHeartbeats 1000000 in
theorem overlap_any (h b o B n : Nat) (kind v : Int) (m : Value) (ov0 : Bool) (l : List Int) (w : World) (ck : w.cell? ⟨h, 0, none⟩ = some (.int .i64 kind)) (r3 : w.cell? ⟨b, o + 3, none⟩ = some (.bool ov0)) (r4 : w.cell? ⟨b, o + 4, none⟩ = some m)
    (fz : ∀ j, w.frozen? ⟨b, j, none⟩ = false) (hown : w.ownsRow B 3 1 m l.length (icells l)) (hB : B ≤ w.heap.size) (hl : l.length ≤ 1000) (hmb : m.ownBlock ≠ some b) :
    Calls Try.prog 53 #[.pointer (some ⟨h, 0, none⟩), .pointer (some ⟨b, o, none⟩), .int .i64 v] w fun e w' => e = .returned (.tuple #[]) ∧
      ∃ m', OvPost w w' b o m m' ∧ w'.ownsRow B 3 1 m' (if kind = 2 then l ++ [v] else l).length (icells (if kind = 2 then l ++ [v] else l)) ∧ (kind ≠ 2 → m' = m) := by
  have hbs := cell_lt r3
  have f3 := fz (o + 3)
  have f4 := fz (o + 4)
  obtain ⟨w1, hw1⟩ : ∃ x, w.setCell ⟨b, o + 3, none⟩ (.bool true) = x := ⟨_, rfl⟩
  have hk1 : ∀ k, k ≠ b → w1.heap[k]? = w.heap[k]? := fun k hne => by rw [← hw1]; exact Below.heap_setCell w ⟨b, o + 3, none⟩ _ k hne
  have hs1 : w1.heap.size = w.heap.size := by rw [← hw1]; simp
  have hc3 : w1.cell? ⟨b, o + 3, none⟩ = some (.bool true) := by rw [← hw1]; exact World.cell?_setCell_same _ _ _ r3
  have ho1 : ∀ j, j ≠ o + 3 → w1.cell? ⟨b, j, none⟩ = w.cell? ⟨b, j, none⟩ := fun j hj => by rw [← hw1]; exact World.cell?_setCell_other _ _ _ _ (by simp <;> omega)
  have hf1 : ∀ j, w1.frozen? ⟨b, j, none⟩ = w.frozen? ⟨b, j, none⟩ := fun j => by rw [← hw1]; simp [go_sem]
  have hos : w1.os = w.os ∧ w1.tape = w.tape ∧ w1.output = w.output := by rw [← hw1]; exact ⟨rfl, rfl, rfl⟩
  have hown1 := own_same hown (w' := w1) (fun k hk => hk1 k (fun e => hmb (by rw [← e]; exact hk)))
  by_cases hk : kind = 2
  · rw [if_pos hk]
    subst hk
    obtain ⟨i0, hi, hz0, hz1, hz2⟩ := info_parts2
    obtain ⟨A1, c1, rfl, -, -⟩ : ∃ A c, m = .slice A l.length c ∧ True ∧ True := by
      rcases hown.2 with ⟨hv, hn⟩ | ⟨g, cap, cur, hv, _⟩
      · exact ⟨none, 0, by rw [hv, hn], trivial, trivial⟩
      · exact ⟨_, cap, hv, trivial, trivial⟩
    have HOW := Lib.hid (hown1.alloc (.cells #[.int .i64 v] 3))
    have hcn := cells_new w1 [.int .i64 v] 3
    rw [hs1] at hcn
    have HCN := Lib.hid hcn
    have H63 := Lib.hid (show l.length + 1 ≤ maxLen ∧ (l.length + 1) * 8 ≤ 140737488355328 by unfold maxLen; omega)
    have H1C := Lib.hid (show ∀ u ∈ [Value.int .i64 v], u.oneCell' = true by intro u hu; simp at hu; subst hu; rfl)
    clear hcn
    have HSZ := Lib.hid (show B ≤ (w1.alloc (.cells #[.int .i64 v] 3)).heap.size by simp; omega)
    have HI := Lib.hid hi
    have HZ0 := Lib.hid hz0
    have HZ1 := Lib.hid hz1
    have HZ2 := Lib.hid hz2
    have HS1 := Lib.hid hs1
    have HK1 := Lib.hid hk1
    have HC3 := Lib.hid hc3
    have HO1 := Lib.hid ho1
    have HF1 := Lib.hid hf1
    have HOS := Lib.hid hos
    have HMB := Lib.hid hmb
    have HFZ := Lib.hid fz
    have HR4 := Lib.hid r4
    have HSA : (w1.alloc (.cells #[.int .i64 v] 3)).heap.size = w1.heap.size + 1 := by simp
    have HSA' := Lib.hid HSA
    have HL := Lib.hid hl
    have HBS := Lib.hid hbs
    clear hown hown1 hi hz0 hz1 hz2 hs1 hk1 hc3 ho1 hf1 hos hmb fz hB HSA hl
    subst hw1
    go_enter Try.func53, Try.ntmps53
    go_wp2_with (at_builtin; refine wpList_append_lies _ rfl (.tmp 18) (.tmp 20) 43 rfl B 3 i0 (.int .i64 0) 1 8 Try.underlying43 HI.out HZ0.out HZ1.out HZ2.out rfl (by decide) _ l.length (icells l) rfl HOW.out ⟨w.heap.size, 0, none⟩ 1 1 [.int .i64 v] rfl rfl HCN.out H1C.out (by decide) H63.out.1 H63.out.2 HSZ.out _ rfl ?_)
    intro g1 cap w1 hown1 hg hor hlt1
    obtain ⟨WE, hWE⟩ : ∃ x, w.setCell ⟨b, o + 3, none⟩ (.bool true) = x := ⟨_, rfl⟩
    rw [hWE] at HS1 HK1 HC3 HO1 HF1 HOS hg HSA'
    have hbl : ∀ k, k < WE.heap.size → (some k ≠ (Value.slice A1 l.length c1).ownBlock) → w1.heap[k]? = WE.heap[k]? := fun k hk hne => (hg.block k (by rw [HSA'.out]; omega) hne).trans (Below.heap_alloc WE _ k hk)
    have hbb : w1.heap[b]? = WE.heap[b]? := hbl b (by have := HS1.out; have := HBS.out; omega) (fun e => HMB.out e.symm)
    have r4' : w1.cell? ⟨b, o + 4, none⟩ = some (.slice A1 l.length c1) := (cellE hbb).trans ((HO1.out _ (by omega)).trans HR4.out)
    have f4' : w1.frozen? ⟨b, o + 4, none⟩ = false := (frozenE hbb).trans ((HF1.out _).trans (HFZ.out _))
    have hgb : g1 ≠ b := fun e => by
      rcases hor with h1 | h1
      · exact HMB.out (by rw [h1, e])
      · have := HBS.out; omega
    have HP := Lib.hid (show ∃ m', OvPost w (w1.setCell ⟨b, o + 4, none⟩ (.slice (some ⟨g1, 0, none⟩) (l.length + 1) cap)) b o (.slice A1 l.length c1) m' ∧ (w1.setCell ⟨b, o + 4, none⟩ (.slice (some ⟨g1, 0, none⟩) (l.length + 1) cap)).ownsRow B 3 1 m' (l ++ [v]).length (icells (l ++ [v])) from by
      refine ⟨.slice (some ⟨g1, 0, none⟩) (l.length + 1) cap, ⟨?_, ?_, ?_, ?_, fun k hk hne hno => ?_, ?_, World.cell?_setCell_same _ _ _ r4', fun j h1 h2 => ?_, fun j => ?_, ?_⟩, ?_⟩
      · exact hg.os.trans HOS.out.1
      · exact hg.tape.trans HOS.out.2.1
      · exact hg.output.trans HOS.out.2.2
      · have h1 := hg.size
        have h2 := HSA'.out
        have h3 := HS1.out
        simp only [World.size_setCell]
        omega
      · refine (Below.heap_setCell w1 ⟨b, o + 4, none⟩ _ k hne).trans ((hbl k (by have := HS1.out; omega) (fun e => hno e.symm)).trans (HK1.out k hne))
      · refine (World.cell?_setCell_other _ _ _ _ (by simp)).trans ((cellE hbb).trans HC3.out)
      · refine (World.cell?_setCell_other _ _ _ _ (by simp <;> omega)).trans ((cellE hbb).trans (HO1.out j h1))
      · have : (w1.setCell ⟨b, o + 4, none⟩ (.slice (some ⟨g1, 0, none⟩) (l.length + 1) cap)).frozen? ⟨b, j, none⟩ = w1.frozen? ⟨b, j, none⟩ := by simp [go_sem]
        rw [this]
        exact (frozenE hbb).trans (HF1.out j)
      · rcases hor with h1 | h1
        · exact .inl (by rw [h1]; rfl)
        · refine .inr fun k hk => ?_
          simp only [Value.ownBlock, Option.some.injEq] at hk
          omega
      · have e : icells (l ++ [v]) = icells l ++ [.int .i64 v] := by unfold icells; simp
        rw [e, List.length_append]
        refine own_same hown1 fun k hk => Below.heap_setCell w1 ⟨b, o + 4, none⟩ _ k ?_
        simp only [Value.ownBlock, Option.some.injEq] at hk
        show k ≠ b
        omega)
    clear hown1 hg hor hlt1 hbl hbb hgb
    go_wp2_with fail
    go_end0
    obtain ⟨m', p1, p2⟩ := HP.out
    exact ⟨rfl, m', p1, p2, fun e => absurd rfl e⟩
  · rw [if_neg hk]
    have hkb : (kind == 2) = false := by rw [beq_eq_false_iff_ne]; exact hk
    have HP := Lib.hid (show ∃ m', OvPost w w1 b o m m' ∧ w1.ownsRow B 3 1 m' l.length (icells l) ∧ (kind ≠ 2 → m' = m) from
      ⟨m, ⟨hos.1, hos.2.1, hos.2.2, by rw [hs1]; exact Nat.le_refl _, fun k _ hne _ => hk1 k hne, hc3, (ho1 _ (by omega)).trans r4, fun j h1 _ => ho1 j h1, hf1, .inl rfl⟩, hown1, fun _ => rfl⟩)
    have HW1 := Lib.hid hw1
    clear hown hown1 hs1 hk1 hc3 ho1 hf1 hos hw1
    go_enter Try.func53, Try.ntmps53
    go_wp2_with fail
    go_end0
    exact ⟨rfl, by rw [HW1.out]; exact HP.out⟩

set_option maxRecDepth 10000 in
set_option maxHeartbeats 1000000 in
theorem overlap_full (h b o B n : Nat) (kind v : Int) (m : Value) (ov0 : Bool) (l : List Int) (w : World) (ck : w.cell? ⟨h, 0, none⟩ = some (.int .i64 kind)) (r3 : w.cell? ⟨b, o + 3, none⟩ = some (.bool ov0)) (r4 : w.cell? ⟨b, o + 4, none⟩ = some m)
    (fz : ∀ j, w.frozen? ⟨b, j, none⟩ = false) (gm : Nat) (hm : m = .slice (some ⟨gm, 0, none⟩) l.length l.length) (hrow : ∀ j u, (icells l)[j]? = some u → w.cell? ⟨gm, j, none⟩ = some u) (hgm : B ≤ gm ∧ gm < w.heap.size) (hB : B ≤ w.heap.size) (hl : l.length ≤ 1000) (hmb : m.ownBlock ≠ some b) :
    Calls Try.prog 53 #[.pointer (some ⟨h, 0, none⟩), .pointer (some ⟨b, o, none⟩), .int .i64 v] w fun e w' => e = .returned (.tuple #[]) ∧
      ∃ m', OvPost w w' b o m m' ∧ MayIs w' B m' (if kind = 2 then l ++ [v] else l) ∧ (kind ≠ 2 → m' = m) := by
  have hbs := cell_lt r3
  have f3 := fz (o + 3)
  have f4 := fz (o + 4)
  obtain ⟨w1, hw1⟩ : ∃ x, w.setCell ⟨b, o + 3, none⟩ (.bool true) = x := ⟨_, rfl⟩
  have hk1 : ∀ k, k ≠ b → w1.heap[k]? = w.heap[k]? := fun k hne => by rw [← hw1]; exact Below.heap_setCell w ⟨b, o + 3, none⟩ _ k hne
  have hs1 : w1.heap.size = w.heap.size := by rw [← hw1]; simp
  have hc3 : w1.cell? ⟨b, o + 3, none⟩ = some (.bool true) := by rw [← hw1]; exact World.cell?_setCell_same _ _ _ r3
  have ho1 : ∀ j, j ≠ o + 3 → w1.cell? ⟨b, j, none⟩ = w.cell? ⟨b, j, none⟩ := fun j hj => by rw [← hw1]; exact World.cell?_setCell_other _ _ _ _ (by simp <;> omega)
  have hf1 : ∀ j, w1.frozen? ⟨b, j, none⟩ = w.frozen? ⟨b, j, none⟩ := fun j => by rw [← hw1]; simp [go_sem]
  have hos : w1.os = w.os ∧ w1.tape = w.tape ∧ w1.output = w.output := by rw [← hw1]; exact ⟨rfl, rfl, rfl⟩
  have hgb0 : gm ≠ b := fun e => hmb (by rw [hm, e]; rfl)
  have hrow1 : ∀ j u, (icells l)[j]? = some u → w1.cell? ⟨gm, j, none⟩ = some u := fun j u hu => (cellE (hk1 gm hgb0)).trans (hrow j u hu)
  by_cases hk : kind = 2
  · rw [if_pos hk]
    subst hk
    obtain ⟨i0, hi, hz0, hz1, hz2⟩ := info_parts2
    subst hm
    have HROW := Lib.hid (show ∀ bb, (some (⟨gm, 0, none⟩ : Addr)) = some bb → ∀ j u, (icells l)[j]? = some u → (w1.alloc (.cells #[.int .i64 v] 3)).cell? (bb.add j) = some u from by
      intro bb hbb j u hu
      simp only [Option.some.injEq] at hbb
      subst hbb
      have h5 := hrow1 j u hu
      have h6 : (w1.alloc (.cells #[.int .i64 v] 3)).cell? ⟨gm, j, none⟩ = some u := (cellE (Below.heap_alloc w1 _ gm (cell_lt h5))).trans h5
      rw [Go.WideShapes.add_plain, Nat.zero_add]
      exact h6)
    have HGM := Lib.hid hgm
    have HGB := Lib.hid hgb0
    have hcn := cells_new w1 [.int .i64 v] 3
    rw [hs1] at hcn
    have HCN := Lib.hid hcn
    have H63 := Lib.hid (show l.length + 1 ≤ maxLen ∧ (l.length + 1) * 8 ≤ 140737488355328 by unfold maxLen; omega)
    have H1C := Lib.hid (show ∀ u ∈ [Value.int .i64 v], u.oneCell' = true by intro u hu; simp at hu; subst hu; rfl)
    clear hcn
    have HSZ := Lib.hid (show B ≤ (w1.alloc (.cells #[.int .i64 v] 3)).heap.size by simp; omega)
    have HI := Lib.hid hi
    have HZ0 := Lib.hid hz0
    have HZ1 := Lib.hid hz1
    have HZ2 := Lib.hid hz2
    have HS1 := Lib.hid hs1
    have HK1 := Lib.hid hk1
    have HC3 := Lib.hid hc3
    have HO1 := Lib.hid ho1
    have HF1 := Lib.hid hf1
    have HOS := Lib.hid hos
    have HMB := Lib.hid hmb
    have HFZ := Lib.hid fz
    have HR4 := Lib.hid r4
    have HSA : (w1.alloc (.cells #[.int .i64 v] 3)).heap.size = w1.heap.size + 1 := by simp
    have HSA' := Lib.hid HSA
    have HL := Lib.hid hl
    have HBS := Lib.hid hbs
    clear hrow hrow1 hgm hgb0 hi hz0 hz1 hz2 hs1 hk1 hc3 ho1 hf1 hos hmb fz hB HSA hl
    subst hw1
    go_enter Try.func53, Try.ntmps53
    go_wp2_with (at_builtin; refine wpList_append_grows _ rfl (.tmp 18) (.tmp 20) 43 rfl 3 i0 (.int .i64 0) 1 8 Try.underlying43 HI.out HZ0.out HZ1.out HZ2.out rfl (by decide) (some ⟨gm, 0, none⟩) l.length l.length (icells l) rfl (by simp) (by unfold icells; simp) HROW.out ⟨w.heap.size, 0, none⟩ 1 1 [.int .i64 v] rfl rfl HCN.out H1C.out (Nat.lt_succ_self _) H63.out.1 H63.out.2 ?_)
    intro vv w1 hown1 hg
    obtain ⟨A2, c2, rfl⟩ : ∃ A c, vv = .slice A (l.length + 1) c := by
      rcases hown1.2 with ⟨hv, hn⟩ | ⟨g, cap, cur, hv, _⟩
      · exact absurd hn (Nat.succ_ne_zero _)
      · exact ⟨_, cap, hv⟩
    obtain ⟨WE, hWE⟩ : ∃ x, w.setCell ⟨b, o + 3, none⟩ (.bool true) = x := ⟨_, rfl⟩
    rw [hWE] at HS1 HK1 HC3 HO1 HF1 HOS hg HSA'
    have hbl : ∀ k, k < WE.heap.size → True → w1.heap[k]? = WE.heap[k]? := fun k hk hne => (hg.block k (by rw [HSA'.out]; omega) (by simp)).trans (Below.heap_alloc WE _ k hk)
    have hbb : w1.heap[b]? = WE.heap[b]? := hbl b (by have := HS1.out; have := HBS.out; omega) trivial
    have r4' : w1.cell? ⟨b, o + 4, none⟩ = some (.slice (some ⟨gm, 0, none⟩) l.length l.length) := (cellE hbb).trans ((HO1.out _ (by omega)).trans HR4.out)
    have f4' : w1.frozen? ⟨b, o + 4, none⟩ = false := (frozenE hbb).trans ((HF1.out _).trans (HFZ.out _))
    have hge := own_ge hown1
    have hgb : (Value.slice A2 (l.length + 1) c2).ownBlock ≠ some b := fun e => by
      have := hge b e
      have := HSA'.out
      have := HS1.out
      have := HBS.out
      omega
    have HP := Lib.hid (show ∃ m', OvPost w (w1.setCell ⟨b, o + 4, none⟩ (.slice A2 (l.length + 1) c2)) b o (.slice (some ⟨gm, 0, none⟩) l.length l.length) m' ∧ MayIs (w1.setCell ⟨b, o + 4, none⟩ (.slice A2 (l.length + 1) c2)) B m' (l ++ [v]) from by
      refine ⟨(.slice A2 (l.length + 1) c2), ⟨?_, ?_, ?_, ?_, fun k hk hne hno => ?_, ?_, World.cell?_setCell_same _ _ _ r4', fun j h1 h2 => ?_, fun j => ?_, ?_⟩, ?_⟩
      · exact hg.os.trans HOS.out.1
      · exact hg.tape.trans HOS.out.2.1
      · exact hg.output.trans HOS.out.2.2
      · have h1 := hg.size
        have h2 := HSA'.out
        have h3 := HS1.out
        simp only [World.size_setCell]
        omega
      · refine (Below.heap_setCell w1 ⟨b, o + 4, none⟩ _ k hne).trans ((hbl k (by have := HS1.out; omega) trivial).trans (HK1.out k hne))
      · refine (World.cell?_setCell_other _ _ _ _ (by simp)).trans ((cellE hbb).trans HC3.out)
      · refine (World.cell?_setCell_other _ _ _ _ (by simp <;> omega)).trans ((cellE hbb).trans (HO1.out j h1))
      · have : (w1.setCell ⟨b, o + 4, none⟩ (.slice A2 (l.length + 1) c2)).frozen? ⟨b, j, none⟩ = w1.frozen? ⟨b, j, none⟩ := by simp [go_sem]
        rw [this]
        exact (frozenE hbb).trans (HF1.out j)
      · refine .inr fun k hk => ?_
        have h1 := hge k hk
        have h2 := HSA'.out
        have h3 := HS1.out
        omega
      · have e : icells (l ++ [v]) = icells l ++ [.int .i64 v] := by unfold icells; simp
        refine .inl ?_
        rw [e, List.length_append]
        have h7 := own_same (w' := w1.setCell ⟨b, o + 4, none⟩ (.slice A2 (l.length + 1) c2)) hown1 fun k hk => Below.heap_setCell w1 ⟨b, o + 4, none⟩ _ k (fun e2 => hgb (by rw [hk, e2]))
        refine ⟨h7.1, h7.2.imp id fun ⟨g, cap, cur, e1, e2, e3⟩ => ⟨g, cap, cur, e1, ?_, e3⟩⟩
        have h2 := HSA'.out
        have h3 := HS1.out
        have h4 := HGM.out
        omega)
    clear hown1 hg hbl hbb hgb hge
    go_wp2_with fail
    go_end0
    obtain ⟨m', p1, p2⟩ := HP.out
    exact ⟨rfl, m', p1, p2, fun e => absurd rfl e⟩
  · rw [if_neg hk]
    have hkb : (kind == 2) = false := by rw [beq_eq_false_iff_ne]; exact hk
    have HP := Lib.hid (show ∃ m', OvPost w w1 b o m m' ∧ MayIs w1 B m' l ∧ (kind ≠ 2 → m' = m) from
      ⟨m, ⟨hos.1, hos.2.1, hos.2.2, by rw [hs1]; exact Nat.le_refl _, fun k _ hne _ => hk1 k hne, hc3, (ho1 _ (by omega)).trans r4, fun j h1 _ => ho1 j h1, hf1, .inl rfl⟩, .inr ⟨gm, hm, hgm.1, by rw [hs1]; exact hgm.2, hrow1⟩, fun _ => rfl⟩)
    have HW1 := Lib.hid hw1
    clear hrow hrow1 hgm hgb0 hs1 hk1 hc3 ho1 hf1 hos hw1
    go_enter Try.func53, Try.ntmps53
    go_wp2_with fail
    go_end0
    exact ⟨rfl, by rw [HW1.out]; exact HP.out⟩

theorem MayIs.same {w w' : World} {B : Nat} {m : Value} {l : List Int} (h : MayIs w B m l) (hs : w.heap.size ≤ w'.heap.size) (hk : ∀ k, m.ownBlock = some k → w'.heap[k]? = w.heap[k]?) : MayIs w' B m l := by
  rcases h with h | ⟨g, hm, h1, h2, h3⟩
  · exact .inl (own_same h hk)
  · exact .inr ⟨g, hm, h1, by omega, fun j u hu => (cellE (hk g (by rw [hm]; rfl))).trans (h3 j u hu)⟩
theorem MayIs.ge {w : World} {B : Nat} {m : Value} {l : List Int} (h : MayIs w B m l) : ∀ k, m.ownBlock = some k → B ≤ k ∧ k < w.heap.size := by
  intro k hk
  rcases h with h | ⟨g, hm, h1, h2, h3⟩
  · exact ⟨own_ge h k hk, (h.lt k hk).2⟩
  · rw [hm] at hk
    simp only [Value.ownBlock, Option.some.injEq] at hk
    omega
theorem MayIs.form {w : World} {B : Nat} {m : Value} {l : List Int} (h : MayIs w B m l) : ∃ A c, m = .slice A l.length c ∧ l.length ≤ c := by
  rcases h with h | ⟨g, hm, _⟩
  · rcases h.2 with ⟨hv, hn⟩ | ⟨g, cap, cur, hv, _, _, h1, _⟩
    · exact ⟨none, 0, by rw [hv, hn], by omega⟩
    · exact ⟨_, cap, hv, h1⟩
  · exact ⟨_, _, hm, Nat.le_refl _⟩
theorem overlap_may (h b o B : Nat) (kind v : Int) (m : Value) (ov0 : Bool) (l : List Int) (w : World) (ck : w.cell? ⟨h, 0, none⟩ = some (.int .i64 kind)) (r3 : w.cell? ⟨b, o + 3, none⟩ = some (.bool ov0)) (r4 : w.cell? ⟨b, o + 4, none⟩ = some m)
    (fz : ∀ j, w.frozen? ⟨b, j, none⟩ = false) (hown : MayIs w B m l) (hB : B ≤ w.heap.size) (hl : l.length ≤ 1000) (hmb : m.ownBlock ≠ some b) :
    Calls Try.prog 53 #[.pointer (some ⟨h, 0, none⟩), .pointer (some ⟨b, o, none⟩), .int .i64 v] w fun e w' => e = .returned (.tuple #[]) ∧
      ∃ m', OvPost w w' b o m m' ∧ MayIs w' B m' (if kind = 2 then l ++ [v] else l) ∧ (kind ≠ 2 → m' = m) := by
  rcases hown with hown | ⟨g, hm, h1, h2, h3⟩
  · refine (overlap_any h b o B 0 kind v m ov0 l w ck r3 r4 fz hown hB hl hmb).mono ?_
    rintro e w' ⟨he, m', hp, ho, hq⟩
    exact ⟨he, m', hp, .inl ho, hq⟩
  · exact overlap_full h b o B 0 kind v m ov0 l w ck r3 r4 fz g hm h3 ⟨h1, h2⟩ hB hl hmb

end Go.Proofs.Ytedkgamecdmjdaa
