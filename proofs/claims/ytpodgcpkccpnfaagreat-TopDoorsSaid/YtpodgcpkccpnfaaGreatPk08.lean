/-
  Parts of a proof, packed: Over, CellI, BankM, CallsA
-/
import Derived.Deep.AppendLies
import Derived.ArgAppend
import Derived.Maps.OwnSet
import Derived.Maps.OwnOps
import Derived.Test.YtpodgcpkccpnfaaGreatPk01
import Derived.Test.YtpodgcpkccpnfaaGreatPk07
set_option linter.unusedVariables false
set_option linter.unusedSimpArgs false
set_option maxRecDepth 20000
set_option maxHeartbeats 16000000
namespace Go.Proofs.YtpodgcpkccpnfaaGreat
open Go.RowKit
theorem infoIntC : Tryz.prog.info? 3 = some Tryz.t3 := by kernel_rfl
def MayIs (w : World) (B : Nat) (m : Value) (l : List Int) : Prop := w.ownsRow B 3 1 m l.length (icells l) ∨ ∃ g, m = .slice (some ⟨g, 0, none⟩) l.length l.length ∧ B ≤ g ∧ g < w.heap.size ∧ ∀ j u, (icells l)[j]? = some u → w.cell? ⟨g, j, none⟩ = some u
structure OvPost (w w' : World) (b o : Nat) (m m' : Value) : Prop where
 os : w'.os = w.os
 tape : w'.tape = w.tape
 output : w'.output = w.output
 size : w.heap.size ≤ w'.heap.size
 block : ∀ k, k < w.heap.size → k ≠ b → m.ownBlock ≠ some k → w'.heap[k]? = w.heap[k]?
 c3 : w'.cell? ⟨b, o + 3, none⟩ = some (.bool true)
 c4 : w'.cell? ⟨b, o + 4, none⟩ = some m'
 oth : ∀ j, j ≠ o + 3 → j ≠ o + 4 → w'.cell? ⟨b, j, none⟩ = w.cell? ⟨b, j, none⟩
 fz : ∀ j, w'.frozen? ⟨b, j, none⟩ = w.frozen? ⟨b, j, none⟩
 ob : m'.ownBlock = m.ownBlock ∨ (∀ k, m'.ownBlock = some k → w.heap.size ≤ k)
theorem own_same {w w' : World} {B e size n : Nat} {v : Value} {xs : List Value} (h : w.ownsRow B e size v n xs) (hk : ∀ k, v.ownBlock = some k → w'.heap[k]? = w.heap[k]?) : w'.ownsRow B e size v n xs := by
 rcases h.2 with ⟨hv, hn⟩ | ⟨g, cap, cur, hv, hg, hh, hr⟩
 · exact ⟨h.1, .inl ⟨hv, hn⟩⟩
 · exact ⟨h.1, .inr ⟨g, cap, cur, hv, hg, (hk g (by rw [hv]; rfl)).trans hh, hr⟩⟩
theorem info_parts2 : ∃ i, Tryz.prog.info? 3 = some i ∧ i.zero = some (.int .i64 0) ∧ i.size = 1 ∧ i.bytes = 8 := ⟨_, infoIntC, by kernel_rfl, by kernel_rfl, by kernel_rfl⟩
theorem cellE {w w' : World} {b o : Nat} (h : w'.heap[b]? = w.heap[b]?) : w'.cell? ⟨b, o, none⟩ = w.cell? ⟨b, o, none⟩ := by simp only [World.cell?, h]
theorem frozenE {w w' : World} {b o : Nat} (h : w'.heap[b]? = w.heap[b]?) : w'.frozen? ⟨b, o, none⟩ = w.frozen? ⟨b, o, none⟩ := by simp only [World.frozen?, h]
theorem overlap_any (h b o B n : Nat) (kind v : Int) (m : Value) (ov0 : Bool) (l : List Int) (w : World) (ck : w.cell? ⟨h, 0, none⟩ = some (.int .i64 kind)) (r3 : w.cell? ⟨b, o + 3, none⟩ = some (.bool ov0)) (r4 : w.cell? ⟨b, o + 4, none⟩ = some m)
 (fz : ∀ j, w.frozen? ⟨b, j, none⟩ = false) (hown : w.ownsRow B 3 1 m l.length (icells l)) (hB : B ≤ w.heap.size) (hl : l.length ≤ 100000) (hmb : m.ownBlock ≠ some b) :
 Calls Tryz.prog 174 #[.pointer (some ⟨h, 0, none⟩), .pointer (some ⟨b, o, none⟩), .int .i64 v] w fun e w' => e = .returned (.tuple #[]) ∧
  ∃ m', OvPost w w' b o m m' ∧ w'.ownsRow B 3 1 m' (if kind = 2 then l ++ [v] else l).length (icells (if kind = 2 then l ++ [v] else l)) ∧ (kind ≠ 2 → m' = m) := by
 have hbs := cell_lt r3
 have f3 := fz (o + 3)
 have f4 := fz (o + 4)
 obtain ⟨w1, hw1⟩ : ∃ x, w.setCell ⟨b, o + 3, none⟩ (.bool true) = x := ⟨_, rfl⟩
 have hk1 : ∀ k, k ≠ b → w1.heap[k]? = w.heap[k]? := fun k hne => by rw [← hw1]; exact Below.heap_setCell w ⟨b, o + 3, none⟩ _ k hne
 have hs1 : w1.heap.size = w.heap.size := by rw [← hw1]; simp
 have hc3 : w1.cell? ⟨b, o + 3, none⟩ = some (.bool true) := by rw [← hw1]; exact World.cell?_setCell_same _ _ _ r3
 have ho1 : ∀ j, j ≠ o + 3 → w1.cell? ⟨b, j, none⟩ = w.cell? ⟨b, j, none⟩ := fun j hj => by rw [← hw1]; exact World.cell?_setCell_other _ _ _ _ (by simp <;> omega)
 have hf1 : ∀ j, w1.frozen? ⟨b, j, none⟩ = w.frozen? ⟨b, j, none⟩ := fun j => by rw [← hw1]; simp [go_sem]
 have hos : w1.os = w.os ∧ w1.tape = w.tape ∧ w1.output = w.output := by rw [← hw1]; exact ⟨rfl, rfl, rfl⟩
 have hown1 := own_same hown (w' := w1) (fun k hk => hk1 k (fun e => hmb (by rw [← e]; exact hk)))
 by_cases hk : kind = 2
 · rw [if_pos hk]
   subst hk
   obtain ⟨i0, hi, hz0, hz1, hz2⟩ := info_parts2
   obtain ⟨A1, c1, rfl, -, -⟩ : ∃ A c, m = .slice A l.length c ∧ True ∧ True := by
    rcases hown.2 with ⟨hv, hn⟩ | ⟨g, cap, cur, hv, _⟩
    · exact ⟨none, 0, by rw [hv, hn], trivial, trivial⟩
    · exact ⟨_, cap, hv, trivial, trivial⟩
   have HOW := hQ' (hown1.alloc (.cells #[.int .i64 v] 3))
   have hcn := cells_new w1 [.int .i64 v] 3
   rw [hs1] at hcn
   have HCN := hQ' hcn
   have H63 := hQ' (show l.length + 1 ≤ maxLen ∧ (l.length + 1) * 8 ≤ 140737488355328 by unfold maxLen; omega)
   have H1C := hQ' (show ∀ u ∈ [Value.int .i64 v], u.oneCell' = true by intro u hu; simp at hu; subst hu; rfl)
   clear hcn
   have HSZ := hQ' (show B ≤ (w1.alloc (.cells #[.int .i64 v] 3)).heap.size by simp; omega)
   have HI := hQ' hi
   have HZ0 := hQ' hz0
   have HZ1 := hQ' hz1
   have HZ2 := hQ' hz2
   have HS1 := hQ' hs1
   have HK1 := hQ' hk1
   have HC3 := hQ' hc3
   have HO1 := hQ' ho1
   have HF1 := hQ' hf1
   have HOS := hQ' hos
   have HMB := hQ' hmb
   have HFZ := hQ' fz
   have HR4 := hQ' r4
   have HSA : (w1.alloc (.cells #[.int .i64 v] 3)).heap.size = w1.heap.size + 1 := by simp
   have HSA' := hQ' HSA
   have HL := hQ' hl
   have HBS := hQ' hbs
   clear hown hown1 hi hz0 hz1 hz2 hs1 hk1 hc3 ho1 hf1 hos hmb fz hB HSA hl
   subst hw1
   go_enter Tryz.func174, Tryz.ntmps174
   go_wp2_with (at_builtin; refine wpList_append_lies _ rfl (.tmp 18) (.tmp 20) 25 rfl B 3 i0 (.int .i64 0) 1 8 Tryz.underlying25 HI.out HZ0.out HZ1.out HZ2.out rfl (by decide) _ l.length (icells l) rfl HOW.out ⟨w.heap.size, 0, none⟩ 1 1 [.int .i64 v] rfl rfl HCN.out H1C.out (by decide) H63.out.1 H63.out.2 HSZ.out _ rfl ?_)
   intro g1 cap w1 hown1 hg hor hlt1
   obtain ⟨WE, hWE⟩ : ∃ x, w.setCell ⟨b, o + 3, none⟩ (.bool true) = x := ⟨_, rfl⟩
   rw [hWE] at HS1 HK1 HC3 HO1 HF1 HOS hg HSA'
   have hbl : ∀ k, k < WE.heap.size → (some k ≠ (Value.slice A1 l.length c1).ownBlock) → w1.heap[k]? = WE.heap[k]? := fun k hk hne => (hg.block k (by rw [HSA'.out]; omega) hne).trans (Below.heap_alloc WE _ k hk)
   have hbb : w1.heap[b]? = WE.heap[b]? := hbl b (by have := HS1.out; have := HBS.out; omega) (fun e => HMB.out e.symm)
   have r4' : w1.cell? ⟨b, o + 4, none⟩ = some (.slice A1 l.length c1) := (cellE hbb).trans ((HO1.out _ (by omega)).trans HR4.out)
   have f4' : w1.frozen? ⟨b, o + 4, none⟩ = false := (frozenE hbb).trans ((HF1.out _).trans (HFZ.out _))
   have hgb : g1 ≠ b := fun e => by
    rcases hor with h1 | h1
    · exact HMB.out (by rw [h1, e])
    · have := HBS.out; omega
   have HP := hQ' (show ∃ m', OvPost w (w1.setCell ⟨b, o + 4, none⟩ (.slice (some ⟨g1, 0, none⟩) (l.length + 1) cap)) b o (.slice A1 l.length c1) m' ∧ (w1.setCell ⟨b, o + 4, none⟩ (.slice (some ⟨g1, 0, none⟩) (l.length + 1) cap)).ownsRow B 3 1 m' (l ++ [v]).length (icells (l ++ [v])) from by
    refine ⟨.slice (some ⟨g1, 0, none⟩) (l.length + 1) cap, ⟨?_, ?_, ?_, ?_, fun k hk hne hno => ?_, ?_, World.cell?_setCell_same _ _ _ r4', fun j h1 h2 => ?_, fun j => ?_, ?_⟩, ?_⟩
    · exact hg.os.trans HOS.out.1
    · exact hg.tape.trans HOS.out.2.1
    · exact hg.output.trans HOS.out.2.2
    · have h1 := hg.size
      have h2 := HSA'.out
      have h3 := HS1.out
      simp only [World.size_setCell]
      omega
    · refine (Below.heap_setCell w1 ⟨b, o + 4, none⟩ _ k hne).trans ((hbl k (by have := HS1.out; omega) (fun e => hno e.symm)).trans (HK1.out k hne))
    · refine (World.cell?_setCell_other _ _ _ _ (by simp)).trans ((cellE hbb).trans HC3.out)
    · refine (World.cell?_setCell_other _ _ _ _ (by simp <;> omega)).trans ((cellE hbb).trans (HO1.out j h1))
    · have : (w1.setCell ⟨b, o + 4, none⟩ (.slice (some ⟨g1, 0, none⟩) (l.length + 1) cap)).frozen? ⟨b, j, none⟩ = w1.frozen? ⟨b, j, none⟩ := by simp [go_sem]
      rw [this]
      exact (frozenE hbb).trans (HF1.out j)
    · rcases hor with h1 | h1
      · exact .inl (by rw [h1]; rfl)
      · refine .inr fun k hk => ?_
        simp only [Value.ownBlock, Option.some.injEq] at hk
        omega
    · have e : icells (l ++ [v]) = icells l ++ [.int .i64 v] := by unfold icells; simp
      rw [e, List.length_append]
      refine own_same hown1 fun k hk => Below.heap_setCell w1 ⟨b, o + 4, none⟩ _ k ?_
      simp only [Value.ownBlock, Option.some.injEq] at hk
      show k ≠ b
      omega)
   clear hown1 hg hor hlt1 hbl hbb hgb
   go_wp2_with fail
   go_end0
   obtain ⟨m', p1, p2⟩ := HP.out
   exact ⟨rfl, m', p1, p2, fun e => absurd rfl e⟩
 · rw [if_neg hk]
   have hkb : (kind == 2) = false := by rw [beq_eq_false_iff_ne]; exact hk
   have HP := hQ' (show ∃ m', OvPost w w1 b o m m' ∧ w1.ownsRow B 3 1 m' l.length (icells l) ∧ (kind ≠ 2 → m' = m) from
    ⟨m, ⟨hos.1, hos.2.1, hos.2.2, by rw [hs1]; exact Nat.le_refl _, fun k _ hne _ => hk1 k hne, hc3, (ho1 _ (by omega)).trans r4, fun j h1 _ => ho1 j h1, hf1, .inl rfl⟩, hown1, fun _ => rfl⟩)
   have HW1 := hQ' hw1
   clear hown hown1 hs1 hk1 hc3 ho1 hf1 hos hw1
   go_enter Tryz.func174, Tryz.ntmps174
   go_wp2_with fail
   go_end0
   exact ⟨rfl, by rw [HW1.out]; exact HP.out⟩
theorem overlap_full (h b o B n : Nat) (kind v : Int) (m : Value) (ov0 : Bool) (l : List Int) (w : World) (ck : w.cell? ⟨h, 0, none⟩ = some (.int .i64 kind)) (r3 : w.cell? ⟨b, o + 3, none⟩ = some (.bool ov0)) (r4 : w.cell? ⟨b, o + 4, none⟩ = some m)
 (fz : ∀ j, w.frozen? ⟨b, j, none⟩ = false) (gm : Nat) (hm : m = .slice (some ⟨gm, 0, none⟩) l.length l.length) (hrow : ∀ j u, (icells l)[j]? = some u → w.cell? ⟨gm, j, none⟩ = some u) (hgm : B ≤ gm ∧ gm < w.heap.size) (hB : B ≤ w.heap.size) (hl : l.length ≤ 100000) (hmb : m.ownBlock ≠ some b) :
 Calls Tryz.prog 174 #[.pointer (some ⟨h, 0, none⟩), .pointer (some ⟨b, o, none⟩), .int .i64 v] w fun e w' => e = .returned (.tuple #[]) ∧
  ∃ m', OvPost w w' b o m m' ∧ MayIs w' B m' (if kind = 2 then l ++ [v] else l) ∧ (kind ≠ 2 → m' = m) := by
 have hbs := cell_lt r3
 have f3 := fz (o + 3)
 have f4 := fz (o + 4)
 obtain ⟨w1, hw1⟩ : ∃ x, w.setCell ⟨b, o + 3, none⟩ (.bool true) = x := ⟨_, rfl⟩
 have hk1 : ∀ k, k ≠ b → w1.heap[k]? = w.heap[k]? := fun k hne => by rw [← hw1]; exact Below.heap_setCell w ⟨b, o + 3, none⟩ _ k hne
 have hs1 : w1.heap.size = w.heap.size := by rw [← hw1]; simp
 have hc3 : w1.cell? ⟨b, o + 3, none⟩ = some (.bool true) := by rw [← hw1]; exact World.cell?_setCell_same _ _ _ r3
 have ho1 : ∀ j, j ≠ o + 3 → w1.cell? ⟨b, j, none⟩ = w.cell? ⟨b, j, none⟩ := fun j hj => by rw [← hw1]; exact World.cell?_setCell_other _ _ _ _ (by simp <;> omega)
 have hf1 : ∀ j, w1.frozen? ⟨b, j, none⟩ = w.frozen? ⟨b, j, none⟩ := fun j => by rw [← hw1]; simp [go_sem]
 have hos : w1.os = w.os ∧ w1.tape = w.tape ∧ w1.output = w.output := by rw [← hw1]; exact ⟨rfl, rfl, rfl⟩
 have hgb0 : gm ≠ b := fun e => hmb (by rw [hm, e]; rfl)
 have hrow1 : ∀ j u, (icells l)[j]? = some u → w1.cell? ⟨gm, j, none⟩ = some u := fun j u hu => (cellE (hk1 gm hgb0)).trans (hrow j u hu)
 by_cases hk : kind = 2
 · rw [if_pos hk]
   subst hk
   obtain ⟨i0, hi, hz0, hz1, hz2⟩ := info_parts2
   subst hm
   have HROW := hQ' (show ∀ bb, (some (⟨gm, 0, none⟩ : Addr)) = some bb → ∀ j u, (icells l)[j]? = some u → (w1.alloc (.cells #[.int .i64 v] 3)).cell? (bb.add j) = some u from by
    intro bb hbb j u hu
    simp only [Option.some.injEq] at hbb
    subst hbb
    have h5 := hrow1 j u hu
    have h6 : (w1.alloc (.cells #[.int .i64 v] 3)).cell? ⟨gm, j, none⟩ = some u := (cellE (Below.heap_alloc w1 _ gm (cell_lt h5))).trans h5
    rw [Go.WideShapes.add_plain, Nat.zero_add]
    exact h6)
   have HGM := hQ' hgm
   have HGB := hQ' hgb0
   have hcn := cells_new w1 [.int .i64 v] 3
   rw [hs1] at hcn
   have HCN := hQ' hcn
   have H63 := hQ' (show l.length + 1 ≤ maxLen ∧ (l.length + 1) * 8 ≤ 140737488355328 by unfold maxLen; omega)
   have H1C := hQ' (show ∀ u ∈ [Value.int .i64 v], u.oneCell' = true by intro u hu; simp at hu; subst hu; rfl)
   clear hcn
   have HSZ := hQ' (show B ≤ (w1.alloc (.cells #[.int .i64 v] 3)).heap.size by simp; omega)
   have HI := hQ' hi
   have HZ0 := hQ' hz0
   have HZ1 := hQ' hz1
   have HZ2 := hQ' hz2
   have HS1 := hQ' hs1
   have HK1 := hQ' hk1
   have HC3 := hQ' hc3
   have HO1 := hQ' ho1
   have HF1 := hQ' hf1
   have HOS := hQ' hos
   have HMB := hQ' hmb
   have HFZ := hQ' fz
   have HR4 := hQ' r4
   have HSA : (w1.alloc (.cells #[.int .i64 v] 3)).heap.size = w1.heap.size + 1 := by simp
   have HSA' := hQ' HSA
   have HL := hQ' hl
   have HBS := hQ' hbs
   clear hrow hrow1 hgm hgb0 hi hz0 hz1 hz2 hs1 hk1 hc3 ho1 hf1 hos hmb fz hB HSA hl
   subst hw1
   go_enter Tryz.func174, Tryz.ntmps174
   go_wp2_with (at_builtin; refine wpList_append_grows _ rfl (.tmp 18) (.tmp 20) 25 rfl 3 i0 (.int .i64 0) 1 8 Tryz.underlying25 HI.out HZ0.out HZ1.out HZ2.out rfl (by decide) (some ⟨gm, 0, none⟩) l.length l.length (icells l) rfl (by simp) (by unfold icells; simp) HROW.out ⟨w.heap.size, 0, none⟩ 1 1 [.int .i64 v] rfl rfl HCN.out H1C.out (Nat.lt_succ_self _) H63.out.1 H63.out.2 ?_)
   intro vv w1 hown1 hg
   obtain ⟨A2, c2, rfl⟩ : ∃ A c, vv = .slice A (l.length + 1) c := by
    rcases hown1.2 with ⟨hv, hn⟩ | ⟨g, cap, cur, hv, _⟩
    · exact absurd hn (Nat.succ_ne_zero _)
    · exact ⟨_, cap, hv⟩
   obtain ⟨WE, hWE⟩ : ∃ x, w.setCell ⟨b, o + 3, none⟩ (.bool true) = x := ⟨_, rfl⟩
   rw [hWE] at HS1 HK1 HC3 HO1 HF1 HOS hg HSA'
   have hbl : ∀ k, k < WE.heap.size → True → w1.heap[k]? = WE.heap[k]? := fun k hk hne => (hg.block k (by rw [HSA'.out]; omega) (by simp)).trans (Below.heap_alloc WE _ k hk)
   have hbb : w1.heap[b]? = WE.heap[b]? := hbl b (by have := HS1.out; have := HBS.out; omega) trivial
   have r4' : w1.cell? ⟨b, o + 4, none⟩ = some (.slice (some ⟨gm, 0, none⟩) l.length l.length) := (cellE hbb).trans ((HO1.out _ (by omega)).trans HR4.out)
   have f4' : w1.frozen? ⟨b, o + 4, none⟩ = false := (frozenE hbb).trans ((HF1.out _).trans (HFZ.out _))
   have hge := own_ge hown1
   have hgb : (Value.slice A2 (l.length + 1) c2).ownBlock ≠ some b := fun e => by
    have := hge b e
    have := HSA'.out
    have := HS1.out
    have := HBS.out
    omega
   have HP := hQ' (show ∃ m', OvPost w (w1.setCell ⟨b, o + 4, none⟩ (.slice A2 (l.length + 1) c2)) b o (.slice (some ⟨gm, 0, none⟩) l.length l.length) m' ∧ MayIs (w1.setCell ⟨b, o + 4, none⟩ (.slice A2 (l.length + 1) c2)) B m' (l ++ [v]) from by
    refine ⟨(.slice A2 (l.length + 1) c2), ⟨?_, ?_, ?_, ?_, fun k hk hne hno => ?_, ?_, World.cell?_setCell_same _ _ _ r4', fun j h1 h2 => ?_, fun j => ?_, ?_⟩, ?_⟩
    · exact hg.os.trans HOS.out.1
    · exact hg.tape.trans HOS.out.2.1
    · exact hg.output.trans HOS.out.2.2
    · have h1 := hg.size
      have h2 := HSA'.out
      have h3 := HS1.out
      simp only [World.size_setCell]
      omega
    · refine (Below.heap_setCell w1 ⟨b, o + 4, none⟩ _ k hne).trans ((hbl k (by have := HS1.out; omega) trivial).trans (HK1.out k hne))
    · refine (World.cell?_setCell_other _ _ _ _ (by simp)).trans ((cellE hbb).trans HC3.out)
    · refine (World.cell?_setCell_other _ _ _ _ (by simp <;> omega)).trans ((cellE hbb).trans (HO1.out j h1))
    · have : (w1.setCell ⟨b, o + 4, none⟩ (.slice A2 (l.length + 1) c2)).frozen? ⟨b, j, none⟩ = w1.frozen? ⟨b, j, none⟩ := by simp [go_sem]
      rw [this]
      exact (frozenE hbb).trans (HF1.out j)
    · refine .inr fun k hk => ?_
      have h1 := hge k hk
      have h2 := HSA'.out
      have h3 := HS1.out
      omega
    · have e : icells (l ++ [v]) = icells l ++ [.int .i64 v] := by unfold icells; simp
      refine .inl ?_
      rw [e, List.length_append]
      have h7 := own_same (w' := w1.setCell ⟨b, o + 4, none⟩ (.slice A2 (l.length + 1) c2)) hown1 fun k hk => Below.heap_setCell w1 ⟨b, o + 4, none⟩ _ k (fun e2 => hgb (by rw [hk, e2]))
      refine ⟨h7.1, h7.2.imp id fun ⟨g, cap, cur, e1, e2, e3⟩ => ⟨g, cap, cur, e1, ?_, e3⟩⟩
      have h2 := HSA'.out
      have h3 := HS1.out
      have h4 := HGM.out
      omega)
   clear hown1 hg hbl hbb hgb hge
   go_wp2_with fail
   go_end0
   obtain ⟨m', p1, p2⟩ := HP.out
   exact ⟨rfl, m', p1, p2, fun e => absurd rfl e⟩
 · rw [if_neg hk]
   have hkb : (kind == 2) = false := by rw [beq_eq_false_iff_ne]; exact hk
   have HP := hQ' (show ∃ m', OvPost w w1 b o m m' ∧ MayIs w1 B m' l ∧ (kind ≠ 2 → m' = m) from
    ⟨m, ⟨hos.1, hos.2.1, hos.2.2, by rw [hs1]; exact Nat.le_refl _, fun k _ hne _ => hk1 k hne, hc3, (ho1 _ (by omega)).trans r4, fun j h1 _ => ho1 j h1, hf1, .inl rfl⟩, .inr ⟨gm, hm, hgm.1, by rw [hs1]; exact hgm.2, hrow1⟩, fun _ => rfl⟩)
   have HW1 := hQ' hw1
   clear hrow hrow1 hgm hgb0 hs1 hk1 hc3 ho1 hf1 hos hw1
   go_enter Tryz.func174, Tryz.ntmps174
   go_wp2_with fail
   go_end0
   exact ⟨rfl, by rw [HW1.out]; exact HP.out⟩
theorem MayIs.same {w w' : World} {B : Nat} {m : Value} {l : List Int} (h : MayIs w B m l) (hs : w.heap.size ≤ w'.heap.size) (hk : ∀ k, m.ownBlock = some k → w'.heap[k]? = w.heap[k]?) : MayIs w' B m l := by
 rcases h with h | ⟨g, hm, h1, h2, h3⟩
 · exact .inl (own_same h hk)
 · exact .inr ⟨g, hm, h1, by omega, fun j u hu => (cellE (hk g (by rw [hm]; rfl))).trans (h3 j u hu)⟩
theorem MayIs.ge {w : World} {B : Nat} {m : Value} {l : List Int} (h : MayIs w B m l) : ∀ k, m.ownBlock = some k → B ≤ k ∧ k < w.heap.size := by
 intro k hk
 rcases h with h | ⟨g, hm, h1, h2, h3⟩
 · exact ⟨own_ge h k hk, (h.lt k hk).2⟩
 · rw [hm] at hk
   simp only [Value.ownBlock, Option.some.injEq] at hk
   omega
theorem MayIs.form {w : World} {B : Nat} {m : Value} {l : List Int} (h : MayIs w B m l) : ∃ A c, m = .slice A l.length c ∧ l.length ≤ c := by
 rcases h with h | ⟨g, hm, _⟩
 · rcases h.2 with ⟨hv, hn⟩ | ⟨g, cap, cur, hv, _, _, h1, _⟩
   · exact ⟨none, 0, by rw [hv, hn], by omega⟩
   · exact ⟨_, cap, hv, h1⟩
 · exact ⟨_, _, hm, Nat.le_refl _⟩
theorem overlap_may (h b o B : Nat) (kind v : Int) (m : Value) (ov0 : Bool) (l : List Int) (w : World) (ck : w.cell? ⟨h, 0, none⟩ = some (.int .i64 kind)) (r3 : w.cell? ⟨b, o + 3, none⟩ = some (.bool ov0)) (r4 : w.cell? ⟨b, o + 4, none⟩ = some m)
 (fz : ∀ j, w.frozen? ⟨b, j, none⟩ = false) (hown : MayIs w B m l) (hB : B ≤ w.heap.size) (hl : l.length ≤ 100000) (hmb : m.ownBlock ≠ some b) :
 Calls Tryz.prog 174 #[.pointer (some ⟨h, 0, none⟩), .pointer (some ⟨b, o, none⟩), .int .i64 v] w fun e w' => e = .returned (.tuple #[]) ∧
  ∃ m', OvPost w w' b o m m' ∧ MayIs w' B m' (if kind = 2 then l ++ [v] else l) ∧ (kind ≠ 2 → m' = m) := by
 rcases hown with hown | ⟨g, hm, h1, h2, h3⟩
 · refine (overlap_any h b o B 0 kind v m ov0 l w ck r3 r4 fz hown hB hl hmb).mono ?_
   rintro e w' ⟨he, m', hp, ho, hq⟩
   exact ⟨he, m', hp, .inl ho, hq⟩
 · exact overlap_full h b o B 0 kind v m ov0 l w ck r3 r4 fz g hm h3 ⟨h1, h2⟩ hB hl hmb
end Go.Proofs.YtpodgcpkccpnfaaGreat

namespace Go.Proofs.YtpodgcpkccpnfaaGreat
open Go.RowKit
def AccAt (w : World) (b o : Nat) (a : Acc8) (m : Value) : Prop := w.cell? ⟨b, o, none⟩ = some (.bool a.on) ∧ w.cell? ⟨b, o + 1, none⟩ = some (.bool a.wr) ∧ w.cell? ⟨b, o + 2, none⟩ = some (.int .i64 a.val) ∧
 w.cell? ⟨b, o + 3, none⟩ = some (.bool a.ov) ∧ w.cell? ⟨b, o + 4, none⟩ = some m
structure CellIs (w : World) (h B : Nat) (c : CS) (ms : Nat → Value) : Prop where
 sz : B ≤ w.heap.size
 k0 : w.cell? ⟨h, 0, none⟩ = some (.int .i64 c.kind)
 k1 : w.cell? ⟨h, 1, none⟩ = some (.int .i64 c.top)
 k2 : w.cell? ⟨h, 2, none⟩ = some (.int .i64 c.value)
 acc : ∀ i, i < 8 → AccAt w h (3 + i * 5) (c.bys i) (ms i)
 fz : ∀ j, w.frozen? ⟨h, j, none⟩ = false
 own : ∀ i, i < 8 → MayIs w B (ms i) (c.bys i).may
 apart : ∀ i, i < 8 → (ms i).ownBlock ≠ some h
 two : ∀ i j, i < 8 → j < 8 → i ≠ j → ∀ k, (ms i).ownBlock = some k → (ms j).ownBlock ≠ some k
theorem CellIs.lt {w : World} {h B : Nat} {c : CS} {ms : Nat → Value} (H : CellIs w h B c ms) : h < w.heap.size := cell_lt H.k0
end Go.Proofs.YtpodgcpkccpnfaaGreat

namespace Go.Proofs.YtpodgcpkccpnfaaGreat
open Go.RowKit
def ptrR : Value → Option (DataW Unit × List MemPlace)
 | .pointer none => some (.nil, [])
 | .pointer (some ⟨h, 0, none⟩) => some (.lit (.int .i64 h), [])
 | _ => none
def ptrV : Option Nat → Value
 | none => .pointer none
 | some h => .pointer (some ⟨h, 0, none⟩)
def ptrD : Option Nat → DataW Unit
 | none => .nil
 | some h => .lit (.int .i64 h)
theorem ptrR_V (o : Option Nat) : ptrR (ptrV o) = some (ptrD o, []) := by cases o <;> rfl
theorem ptrR_inv {v : Value} {o : Option Nat} {ps : List MemPlace} (h : ptrR v = some (ptrD o, ps)) : v = ptrV o := by
 cases v with
 | pointer p =>
  match p, o with
  | none, none => rfl
  | none, some _ => simp [ptrR, ptrD] at h
  | some ⟨b, 0, none⟩, some q =>
   simp only [ptrR, ptrD, Option.some.injEq, Prod.mk.injEq, DataW.lit.injEq, Lit.int.injEq, true_and] at h
   have : b = q := by omega
   rw [this]; rfl
  | some ⟨b, 0, none⟩, none => simp [ptrR, ptrD] at h
  | some ⟨b, 0, some s⟩, o => simp [ptrR] at h
  | some ⟨b, n + 1, s⟩, o => simp [ptrR] at h
 | _ => simp [ptrR] at h
theorem intLaw : Maps.Keyed Tryz.prog 3 := Maps.int_keyed Tryz.underlying3
def kI (q : Int) : Lit := .int .i64 q
def Wf (q : Int) : Prop := (Lit.int .i64 q).wf = true
theorem kI_is {q : Int} (h : Wf q) : keyOf Tryz.prog 3 (.int .i64 q) = some (kI q) := Maps.keyOf_int_mk Tryz.underlying3 h
theorem ptrZero (w : World) : (zeroValue 157).run Tryz.prog w = .ok (.pointer none) w := by kernel_rfl
def MapB (W : World) (m sz : Nat) (F : Int → Option Nat) : Prop := ∃ D, W.ownsMap Tryz.prog 3 ptrR m sz D ∧ ∀ q, Wf q → D.atKey (kI q) .nil = ptrD (F q) ∧ Maps.has D (kI q) = (F q).isSome
theorem MapB.look {W : World} {m sz : Nat} {F : Int → Option Nat} (h : MapB W m sz F) {q : Int} (hq : Wf q) : (Instr.lookup 144 (.map (some m)) (.int .i64 q) false).run Tryz.prog W = .ok (ptrV (F q)) W := by
 obtain ⟨D, hD, hF⟩ := h
 obtain ⟨v, ps, hrun, hv⟩ := hD.lookup intLaw Tryz.underlying144 (ptrZero W) (ptrR_V none) (kI_is hq)
 rw [show ptrD none = .nil from rfl, (hF q hq).1] at hv
 rw [hrun, ptrR_inv hv]
theorem MapB.lookOk {W : World} {m sz : Nat} {F : Int → Option Nat} (h : MapB W m sz F) {q : Int} (hq : Wf q) : (Instr.lookup 144 (.map (some m)) (.int .i64 q) true).run Tryz.prog W = .ok (.tuple #[ptrV (F q), .bool (F q).isSome]) W := by
 obtain ⟨D, hD, hF⟩ := h
 obtain ⟨v, ps, hrun, hv⟩ := hD.look_ok intLaw Tryz.underlying144 (ptrZero W) (ptrR_V none) (kI_is hq)
 rw [show ptrD none = .nil from rfl, (hF q hq).1] at hv
 rw [hrun, ptrR_inv hv, (hF q hq).2]
theorem MapB.up {W W' : World} {m sz : Nat} {F : Int → Option Nat} (h : MapB W m sz F) (e : W'.heap[m]? = W.heap[m]?) : MapB W' m sz F := by
 obtain ⟨D, ⟨es, ck, hh, r⟩, hF⟩ := h
 exact ⟨D, ⟨es, ck, e.trans hh, r⟩, hF⟩
theorem mapB_start {W : World} {m : Nat} (h : W.ownsMap Tryz.prog 3 ptrR m 0 (.map [])) : MapB W m 0 (fun _ => none) := ⟨_, h, fun q _ => ⟨rfl, rfl⟩⟩
theorem MapB.store {W : World} {m sz : Nat} {F : Int → Option Nat} (h : MapB W m sz F) (hn : sz < maxLen) {q : Int} (hq : Wf q) (b : Nat) : ∃ W', (Instr.mapUpdate 144 (.map (some m)) (.int .i64 q) (.pointer (some ⟨b, 0, none⟩))).run Tryz.prog W = .ok () W' ∧ MapB W' m (sz + 1) (fun x => if x = q then some b else F x) ∧ W.grownBy W' (some m) := by
 obtain ⟨D, hD, hF⟩ := h
 obtain ⟨W', hrun, h1, h2⟩ := hD.update intLaw Tryz.underlying144 hn (kI_is hq) (ptrR_V (some b))
 refine ⟨W', hrun, ⟨_, h1, fun x hx => ?_⟩, h2⟩
 by_cases e : x = q
 · subst e
   rw [Maps.atKey_put_same hD.isMap (intLaw.key (kI_is hq)), Maps.has_put_same hD.isMap (intLaw.key (kI_is hq))]
   simp
 · have hne : kI x ≠ kI q := fun e2 => e (by unfold kI at e2; injection e2)
   rw [Maps.atKey_put_other hne, Maps.has_put_other hne]
   simp only [if_neg e]
   exact hF x hx
theorem MapB.isLt {W : World} {m sz : Nat} {F : Int → Option Nat} (h : MapB W m sz F) : m < W.heap.size := by
 obtain ⟨D, hD, _⟩ := h
 exact hD.lt
end Go.Proofs.YtpodgcpkccpnfaaGreat
namespace Go.Proofs.YtpodgcpkccpnfaaGreat
open Go.RowKit
theorem bhas_any (b : Nat) (R : Value) (many : Int) (m : Nat) (by' : Nat → Bool × Int) (n : Int) (w : World) (HB : BankB w b R many m by') :
 Calls Tryz.prog 113 #[.pointer (some ⟨b, 0, none⟩), .int .i64 n] w fun e w' => e = .returned (.bool (decide (0 ≤ n ∧ n < many))) ∧ w' = w := by
 have k1 := HB.k1
 clear HB
 by_cases h0 : 0 ≤ n
 · by_cases h1 : n < many
   · have he : decide (0 ≤ n ∧ n < many) = true := decide_eq_true ⟨h0, h1⟩
     rw [he]
     clear he
     go_enter Tryz.func113, Tryz.ntmps113
     go_wp2_with fail
     go_ret
     exact ⟨rfl, rfl⟩
   · have he : decide (0 ≤ n ∧ n < many) = false := decide_eq_false (fun h => h1 h.2)
     have hd : decide (n < many) = false := decide_eq_false h1
     rw [he]
     clear he h1
     go_enter Tryz.func113, Tryz.ntmps113
     go_wp2_with fail
     go_ret
     exact ⟨rfl, rfl⟩
 · have he : decide (0 ≤ n ∧ n < many) = false := decide_eq_false (fun h => h0 h.1)
   have hd : decide (0 ≤ n) = false := decide_eq_false h0
   rw [he]
   clear he
   have h0' : n < 0 := by omega
   clear h0
   go_enter Tryz.func113, Tryz.ntmps113
   go_wp2_with fail
   go_ret
   exact ⟨rfl, rfl⟩
end Go.Proofs.YtpodgcpkccpnfaaGreat

namespace Go.Proofs.YtpodgcpkccpnfaaGreat
open Go.RowKit
theorem plain_any (f : Nat) (w : World) : Calls Tryz.prog 153 #[.func (.func f) #[] #[]] w fun e w' => e = .returned (.func (.func 204) #[] #[.pointer (some ⟨w.heap.size, 0, none⟩)]) ∧ w' = w.alloc (.cells #[.func (.func f) #[] #[]] 226) := by
 go_enter Tryz.func153, Tryz.ntmps153
 go_wp2_with fail
 go_ret
 exact ⟨rfl, rfl⟩
theorem sided_any (f : Nat) (b : Bool) (w : World) : Calls Tryz.prog 162 #[.func (.func f) #[] #[], .bool b] w fun e w' => e = .returned (.func (.func 218) #[] #[.pointer (some ⟨w.heap.size, 0, none⟩), .pointer (some ⟨w.heap.size + 1, 0, none⟩)]) ∧ w' = (w.alloc (.cells #[.func (.func f) #[] #[]] 228)).alloc (.cells #[.bool b] 4) := by
 go_enter Tryz.func162, Tryz.ntmps162
 go_wp2_with fail
 go_ret
 exact ⟨rfl, rfl⟩
def valR (v : Value) : Option (DataW Value × List MemPlace) := some (.held v, [])
theorem callLaw : Maps.Keyed Tryz.prog 3 := Maps.int_keyed Tryz.underlying3
def callZ : Value := .agg #[.int .i64 0, .nilFunc]
theorem callZero (w : World) : (zeroValue 203).run Tryz.prog w = .ok callZ w := by kernel_rfl
def MapC (W : World) (m sz : Nat) (F : Int → Option Value) : Prop := ∃ D, W.ownsMap Tryz.prog 3 valR m sz D ∧ ∀ q, Wf q → D.atKey (kI q) (.held callZ) = .held ((F q).getD callZ) ∧ Maps.has D (kI q) = (F q).isSome
theorem MapC.lookOk {W : World} {m sz : Nat} {F : Int → Option Value} (h : MapC W m sz F) {q : Int} (hq : Wf q) : (Instr.lookup 205 (.map (some m)) (.int .i64 q) true).run Tryz.prog W = .ok (.tuple #[(F q).getD callZ, .bool (F q).isSome]) W := by
 obtain ⟨D, hD, hF⟩ := h
 obtain ⟨v, ps, hrun, hv⟩ := hD.look_ok callLaw Tryz.underlying205 (callZero W) (show valR callZ = some (.held callZ, []) from rfl) (kI_is hq)
 rw [(hF q hq).1] at hv
 unfold valR at hv
 simp only [Option.some.injEq, Prod.mk.injEq, DataW.held.injEq] at hv
 rw [hrun, hv.1, (hF q hq).2]
theorem MapC.up {W W' : World} {m sz : Nat} {F : Int → Option Value} (h : MapC W m sz F) (e : W'.heap[m]? = W.heap[m]?) : MapC W' m sz F := by
 obtain ⟨D, ⟨es, ck, hh, r⟩, hF⟩ := h
 exact ⟨D, ⟨es, ck, e.trans hh, r⟩, hF⟩
theorem MapC.lt {W : World} {m sz : Nat} {F : Int → Option Value} (h : MapC W m sz F) : m < W.heap.size := by
 obtain ⟨D, hD, _⟩ := h
 exact hD.lt
theorem mapC_start (W : World) : MapC (W.alloc (.map #[] 0)) W.heap.size 0 (fun _ => none) := ⟨_, World.ownsMap_made W Tryz.prog 3 valR, fun q _ => ⟨rfl, rfl⟩⟩
theorem MapC.store {W : World} {m sz : Nat} {F : Int → Option Value} (h : MapC W m sz F) (hn : sz < maxLen) {q : Int} (hq : Wf q) (v : Value) : ∃ W', (Instr.mapUpdate 205 (.map (some m)) (.int .i64 q) v).run Tryz.prog W = .ok () W' ∧ MapC W' m (sz + 1) (fun x => if x = q then some v else F x) ∧ W.grownBy W' (some m) := by
 obtain ⟨D, hD, hF⟩ := h
 obtain ⟨W', hrun, h1, h2⟩ := hD.update callLaw Tryz.underlying205 hn (kI_is hq) (show valR v = some (.held v, []) from rfl)
 refine ⟨W', hrun, ⟨_, h1, fun x hx => ?_⟩, h2⟩
 by_cases e : x = q
 · subst e
   rw [Maps.atKey_put_same hD.isMap (callLaw.key (kI_is hq)), Maps.has_put_same hD.isMap (callLaw.key (kI_is hq))]
   simp
 · have hne : kI x ≠ kI q := fun e2 => e (by unfold kI at e2; injection e2)
   rw [Maps.atKey_put_other hne, Maps.has_put_other hne]
   simp only [if_neg e]
   exact hF x hx
structure CallsAt (w0 W : World) (m sz : Nat) (F : Int → Option Value) (bx : List (Nat × Value × TypeId)) : Prop where
 up : Up w0 W
 ge : w0.heap.size ≤ m
 map : MapC W m sz F
 bx : ∀ b, b ∈ bx → W.heap[b.1]? = some (.cells #[b.2.1] b.2.2 (0, 0)) ∧ w0.heap.size ≤ b.1 ∧ b.1 ≠ m
theorem CallsAt.start (w : World) : CallsAt w (w.alloc (.map #[] 0)) w.heap.size 0 (fun _ => none) [] := ⟨(Up.refl w).alloc _, Nat.le_refl _, mapC_start w, fun b hb => by cases hb⟩
theorem CallsAt.box {w0 W : World} {m sz : Nat} {F : Int → Option Value} {bx : List (Nat × Value × TypeId)} (h : CallsAt w0 W m sz F bx) (v : Value) (t : TypeId) : CallsAt w0 (W.alloc (.cells #[v] t)) m sz F ((W.heap.size, v, t) :: bx) := by
 have u : Up W (W.alloc (.cells #[v] t)) := (Up.refl W).alloc _
 refine ⟨h.up.alloc _, h.ge, h.map.up (u.block m h.map.lt), fun b hb => ?_⟩
 rcases List.mem_cons.1 hb with rfl | hb
 · exact ⟨heap_alloc_new W _, h.up.size, by have := h.map.lt; show W.heap.size ≠ m; omega⟩
 · obtain ⟨h1, h2⟩ := h.bx b hb
   exact ⟨(u.block _ (Array.getElem?_eq_some_iff.1 h1).1).trans h1, h2⟩
theorem CallsAt.store {w0 W : World} {m sz : Nat} {F : Int → Option Value} {bx : List (Nat × Value × TypeId)} (h : CallsAt w0 W m sz F bx) (hn : sz < maxLen) {q : Int} (hq : Wf q) (v : Value) : ∃ W', (Instr.mapUpdate 205 (.map (some m)) (.int .i64 q) v).run Tryz.prog W = .ok () W' ∧ CallsAt w0 W' m (sz + 1) (fun x => if x = q then some v else F x) bx := by
 obtain ⟨W', h1, h2, h3⟩ := h.map.store hn hq v
 have hm := h.ge
 refine ⟨W', h1, Below.trans h.up (grownBy_below h3 h.up.size (fun k e => by cases e; exact hm)), h.ge, h2, fun b hb => ?_⟩
 obtain ⟨g1, g2, g3⟩ := h.bx b hb
 exact ⟨(h3.block _ (Array.getElem?_eq_some_iff.1 g1).1 (fun e => g3 (by cases e; rfl))).trans g1, g2, g3⟩
def CallIs (w : World) (B : Nat) (kind f : Nat) (how : Nat) (v : Value) : Prop :=
 match how with
 | 0 => v = .agg #[.int .i64 (kind : Int), .func (.func f) #[] #[]]
 | 1 => ∃ b, B ≤ b ∧ v = .agg #[.int .i64 (kind : Int), .func (.func 204) #[] #[.pointer (some ⟨b, 0, none⟩)]] ∧ w.heap[b]? = some (.cells #[.func (.func f) #[] #[]] 226 (0, 0))
 | k => ∃ b, B ≤ b ∧ v = .agg #[.int .i64 (kind : Int), .func (.func 218) #[] #[.pointer (some ⟨b, 0, none⟩), .pointer (some ⟨b + 1, 0, none⟩)]] ∧ w.heap[b]? = some (.cells #[.func (.func f) #[] #[]] 228 (0, 0)) ∧ w.heap[b + 1]? = some (.cells #[.bool (k = 3)] 4 (0, 0))
def callTab : Nat → Nat × Nat × Nat
 | 1 => (1, 154, 1)
 | 2 => (1, 155, 1)
 | 3 => (2, 156, 1)
 | 4 => (2, 157, 1)
 | 5 => (2, 158, 1)
 | 6 => (3, 159, 1)
 | 7 => (3, 160, 1)
 | 8 => (4, 161, 0)
 | 9 => (5, 163, 2)
 | 10 => (5, 164, 2)
 | 11 => (5, 163, 3)
 | 12 => (5, 164, 3)
 | 13 => (6, 165, 0)
 | 14 => (6, 166, 1)
 | 15 => (7, 167, 0)
 | 16 => (7, 168, 0)
 | 17 => (8, 169, 0)
 | _ => (0, 0, 0)
theorem calls_any (w : World) : Calls Tryz.prog 112 #[] w fun e w' => Up w w' ∧ ∃ m F, e = .returned (.map (some m)) ∧ MapC w' m 17 F ∧ (∀ q : Nat, 1 ≤ q → q ≤ 17 → ∃ v, F q = some v ∧ CallIs w' w.heap.size (callTab q).1 (callTab q).2.1 (callTab q).2.2 v) ∧ ∀ q : Int, (q < 1 ∨ 17 < q) → F q = none := by
 have hmm := @run_makeMap Tryz.prog
 have HC := hQ' (CallsAt.start w)
 go_enter Tryz.func112, Tryz.ntmps112
 go_wp2_with fail
 generalize w.alloc (.map #[] 0) = W0 at *
 obtain ⟨m, hm⟩ : ∃ m, w.heap.size = m := ⟨_, rfl⟩
 have HM := hQ' hm
 rw [hm] at HC ⊢
 clear hm
 refine (plain_any _ _).mono ?_
 rintro e w1 ⟨rfl, rfl⟩
 replace HC := hQ' (HC.out.box (.func (.func 154) #[] #[]) 226)
 obtain ⟨b1, hb1⟩ : ∃ b, W0.heap.size = b := ⟨_, rfl⟩
 rw [hb1] at HC ⊢
 clear hb1
 generalize W0.alloc (.cells #[.func (.func 154) #[] #[]] 226) = W1 at *
 obtain ⟨W2, hrun, hC⟩ := HC.out.store (by decide) (q := 1) (by show Wf 1; unfold Wf; decide) (.agg #[.int .i64 1, .func (.func 204) #[] #[.pointer (some ⟨b1, 0, none⟩)]])
 replace HC := hQ' hC
 clear hC
 go_wp2_with fail
 clear hrun
 refine (plain_any _ _).mono ?_
 rintro e w1 ⟨rfl, rfl⟩
 replace HC := hQ' (HC.out.box (.func (.func 155) #[] #[]) 226)
 obtain ⟨b2, hb2⟩ : ∃ b, W2.heap.size = b := ⟨_, rfl⟩
 rw [hb2] at HC ⊢
 clear hb2
 generalize W2.alloc (.cells #[.func (.func 155) #[] #[]] 226) = W3 at *
 obtain ⟨W4, hrun, hC⟩ := HC.out.store (by decide) (q := 2) (by show Wf 2; unfold Wf; decide) (.agg #[.int .i64 1, .func (.func 204) #[] #[.pointer (some ⟨b2, 0, none⟩)]])
 replace HC := hQ' hC
 clear hC
 go_wp2_with fail
 clear hrun
 refine (plain_any _ _).mono ?_
 rintro e w1 ⟨rfl, rfl⟩
 replace HC := hQ' (HC.out.box (.func (.func 156) #[] #[]) 226)
 obtain ⟨b3, hb3⟩ : ∃ b, W4.heap.size = b := ⟨_, rfl⟩
 rw [hb3] at HC ⊢
 clear hb3
 generalize W4.alloc (.cells #[.func (.func 156) #[] #[]] 226) = W5 at *
 obtain ⟨W6, hrun, hC⟩ := HC.out.store (by decide) (q := 3) (by show Wf 3; unfold Wf; decide) (.agg #[.int .i64 2, .func (.func 204) #[] #[.pointer (some ⟨b3, 0, none⟩)]])
 replace HC := hQ' hC
 clear hC
 go_wp2_with fail
 clear hrun
 refine (plain_any _ _).mono ?_
 rintro e w1 ⟨rfl, rfl⟩
 replace HC := hQ' (HC.out.box (.func (.func 157) #[] #[]) 226)
 obtain ⟨b4, hb4⟩ : ∃ b, W6.heap.size = b := ⟨_, rfl⟩
 rw [hb4] at HC ⊢
 clear hb4
 generalize W6.alloc (.cells #[.func (.func 157) #[] #[]] 226) = W7 at *
 obtain ⟨W8, hrun, hC⟩ := HC.out.store (by decide) (q := 4) (by show Wf 4; unfold Wf; decide) (.agg #[.int .i64 2, .func (.func 204) #[] #[.pointer (some ⟨b4, 0, none⟩)]])
 replace HC := hQ' hC
 clear hC
 go_wp2_with fail
 clear hrun
 refine (plain_any _ _).mono ?_
 rintro e w1 ⟨rfl, rfl⟩
 replace HC := hQ' (HC.out.box (.func (.func 158) #[] #[]) 226)
 obtain ⟨b5, hb5⟩ : ∃ b, W8.heap.size = b := ⟨_, rfl⟩
 rw [hb5] at HC ⊢
 clear hb5
 generalize W8.alloc (.cells #[.func (.func 158) #[] #[]] 226) = W9 at *
 obtain ⟨W10, hrun, hC⟩ := HC.out.store (by decide) (q := 5) (by show Wf 5; unfold Wf; decide) (.agg #[.int .i64 2, .func (.func 204) #[] #[.pointer (some ⟨b5, 0, none⟩)]])
 replace HC := hQ' hC
 clear hC
 go_wp2_with fail
 clear hrun
 refine (plain_any _ _).mono ?_
 rintro e w1 ⟨rfl, rfl⟩
 replace HC := hQ' (HC.out.box (.func (.func 159) #[] #[]) 226)
 obtain ⟨b6, hb6⟩ : ∃ b, W10.heap.size = b := ⟨_, rfl⟩
 rw [hb6] at HC ⊢
 clear hb6
 generalize W10.alloc (.cells #[.func (.func 159) #[] #[]] 226) = W11 at *
 obtain ⟨W12, hrun, hC⟩ := HC.out.store (by decide) (q := 6) (by show Wf 6; unfold Wf; decide) (.agg #[.int .i64 3, .func (.func 204) #[] #[.pointer (some ⟨b6, 0, none⟩)]])
 replace HC := hQ' hC
 clear hC
 go_wp2_with fail
 clear hrun
 refine (plain_any _ _).mono ?_
 rintro e w1 ⟨rfl, rfl⟩
 replace HC := hQ' (HC.out.box (.func (.func 160) #[] #[]) 226)
 obtain ⟨b7, hb7⟩ : ∃ b, W12.heap.size = b := ⟨_, rfl⟩
 rw [hb7] at HC ⊢
 clear hb7
 generalize W12.alloc (.cells #[.func (.func 160) #[] #[]] 226) = W13 at *
 obtain ⟨W14, hrun, hC⟩ := HC.out.store (by decide) (q := 7) (by show Wf 7; unfold Wf; decide) (.agg #[.int .i64 3, .func (.func 204) #[] #[.pointer (some ⟨b7, 0, none⟩)]])
 replace HC := hQ' hC
 clear hC
 go_wp2_with fail
 clear hrun
 obtain ⟨W15, hrun, hC⟩ := HC.out.store (by decide) (q := 8) (by show Wf 8; unfold Wf; decide) (.agg #[.int .i64 4, .func (.func 161) #[] #[]])
 replace HC := hQ' hC
 clear hC
 rw [hrun]
 go_simp
 go_wp2_with fail
 clear hrun
 refine (sided_any _ _ _).mono ?_
 rintro e w1 ⟨rfl, rfl⟩
 replace HC := hQ' ((HC.out.box (.func (.func 163) #[] #[]) 228).box (.bool false) 4)
 rw [World.size_alloc] at HC
 obtain ⟨b9, hb9⟩ : ∃ b, W15.heap.size = b := ⟨_, rfl⟩
 rw [hb9] at HC ⊢
 clear hb9
 generalize (W15.alloc (.cells #[.func (.func 163) #[] #[]] 228)).alloc (.cells #[.bool false] 4) = W16 at *
 obtain ⟨W17, hrun, hC⟩ := HC.out.store (by decide) (q := 9) (by show Wf 9; unfold Wf; decide) (.agg #[.int .i64 5, .func (.func 218) #[] #[.pointer (some ⟨b9, 0, none⟩), .pointer (some ⟨b9 + 1, 0, none⟩)]])
 replace HC := hQ' hC
 clear hC
 go_wp2_with fail
 clear hrun
 refine (sided_any _ _ _).mono ?_
 rintro e w1 ⟨rfl, rfl⟩
 replace HC := hQ' ((HC.out.box (.func (.func 164) #[] #[]) 228).box (.bool false) 4)
 rw [World.size_alloc] at HC
 obtain ⟨b10, hb10⟩ : ∃ b, W17.heap.size = b := ⟨_, rfl⟩
 rw [hb10] at HC ⊢
 clear hb10
 generalize (W17.alloc (.cells #[.func (.func 164) #[] #[]] 228)).alloc (.cells #[.bool false] 4) = W18 at *
 obtain ⟨W19, hrun, hC⟩ := HC.out.store (by decide) (q := 10) (by show Wf 10; unfold Wf; decide) (.agg #[.int .i64 5, .func (.func 218) #[] #[.pointer (some ⟨b10, 0, none⟩), .pointer (some ⟨b10 + 1, 0, none⟩)]])
 replace HC := hQ' hC
 clear hC
 go_wp2_with fail
 clear hrun
 refine (sided_any _ _ _).mono ?_
 rintro e w1 ⟨rfl, rfl⟩
 replace HC := hQ' ((HC.out.box (.func (.func 163) #[] #[]) 228).box (.bool true) 4)
 rw [World.size_alloc] at HC
 obtain ⟨b11, hb11⟩ : ∃ b, W19.heap.size = b := ⟨_, rfl⟩
 rw [hb11] at HC ⊢
 clear hb11
 generalize (W19.alloc (.cells #[.func (.func 163) #[] #[]] 228)).alloc (.cells #[.bool true] 4) = W20 at *
 obtain ⟨W21, hrun, hC⟩ := HC.out.store (by decide) (q := 11) (by show Wf 11; unfold Wf; decide) (.agg #[.int .i64 5, .func (.func 218) #[] #[.pointer (some ⟨b11, 0, none⟩), .pointer (some ⟨b11 + 1, 0, none⟩)]])
 replace HC := hQ' hC
 clear hC
 go_wp2_with fail
 clear hrun
 refine (sided_any _ _ _).mono ?_
 rintro e w1 ⟨rfl, rfl⟩
 replace HC := hQ' ((HC.out.box (.func (.func 164) #[] #[]) 228).box (.bool true) 4)
 rw [World.size_alloc] at HC
 obtain ⟨b12, hb12⟩ : ∃ b, W21.heap.size = b := ⟨_, rfl⟩
 rw [hb12] at HC ⊢
 clear hb12
 generalize (W21.alloc (.cells #[.func (.func 164) #[] #[]] 228)).alloc (.cells #[.bool true] 4) = W22 at *
 obtain ⟨W23, hrun, hC⟩ := HC.out.store (by decide) (q := 12) (by show Wf 12; unfold Wf; decide) (.agg #[.int .i64 5, .func (.func 218) #[] #[.pointer (some ⟨b12, 0, none⟩), .pointer (some ⟨b12 + 1, 0, none⟩)]])
 replace HC := hQ' hC
 clear hC
 go_wp2_with fail
 clear hrun
 obtain ⟨W24, hrun, hC⟩ := HC.out.store (by decide) (q := 13) (by show Wf 13; unfold Wf; decide) (.agg #[.int .i64 6, .func (.func 165) #[] #[]])
 replace HC := hQ' hC
 clear hC
 rw [hrun]
 go_simp
 go_wp2_with fail
 clear hrun
 refine (plain_any _ _).mono ?_
 rintro e w1 ⟨rfl, rfl⟩
 replace HC := hQ' (HC.out.box (.func (.func 166) #[] #[]) 226)
 obtain ⟨b14, hb14⟩ : ∃ b, W24.heap.size = b := ⟨_, rfl⟩
 rw [hb14] at HC ⊢
 clear hb14
 generalize W24.alloc (.cells #[.func (.func 166) #[] #[]] 226) = W25 at *
 obtain ⟨W26, hrun, hC⟩ := HC.out.store (by decide) (q := 14) (by show Wf 14; unfold Wf; decide) (.agg #[.int .i64 6, .func (.func 204) #[] #[.pointer (some ⟨b14, 0, none⟩)]])
 replace HC := hQ' hC
 clear hC
 go_wp2_with fail
 clear hrun
 obtain ⟨W27, hrun, hC⟩ := HC.out.store (by decide) (q := 15) (by show Wf 15; unfold Wf; decide) (.agg #[.int .i64 7, .func (.func 167) #[] #[]])
 replace HC := hQ' hC
 clear hC
 rw [hrun]
 go_simp
 go_wp2_with fail
 clear hrun
 obtain ⟨W28, hrun, hC⟩ := HC.out.store (by decide) (q := 16) (by show Wf 16; unfold Wf; decide) (.agg #[.int .i64 7, .func (.func 168) #[] #[]])
 replace HC := hQ' hC
 clear hC
 rw [hrun]
 go_simp
 go_wp2_with fail
 clear hrun
 obtain ⟨W29, hrun, hC⟩ := HC.out.store (by decide) (q := 17) (by show Wf 17; unfold Wf; decide) (.agg #[.int .i64 8, .func (.func 169) #[] #[]])
 replace HC := hQ' hC
 clear hC
 rw [hrun]
 go_simp
 go_wp2_with fail
 clear hrun
 go_ret
 have hx := HC.out.bx
 rw [HM.out] at hx
 refine ⟨HC.out.up, _, _, rfl, HC.out.map, ?_, fun q hq => ?_⟩
 · rw [HM.out]
   clear HM
   intro q h1 h2
   match q, h1, h2 with
   | 1, _, _ =>
    obtain ⟨g1, g2, _⟩ := hx (b1, .func (.func 154) #[] #[], 226) (by simp)
    exact ⟨.agg #[.int .i64 1, .func (.func 204) #[] #[.pointer (some ⟨b1, 0, none⟩)]], by simp, b1, g2, rfl, g1⟩
   | 2, _, _ =>
    obtain ⟨g1, g2, _⟩ := hx (b2, .func (.func 155) #[] #[], 226) (by simp)
    exact ⟨.agg #[.int .i64 1, .func (.func 204) #[] #[.pointer (some ⟨b2, 0, none⟩)]], by simp, b2, g2, rfl, g1⟩
   | 3, _, _ =>
    obtain ⟨g1, g2, _⟩ := hx (b3, .func (.func 156) #[] #[], 226) (by simp)
    exact ⟨.agg #[.int .i64 2, .func (.func 204) #[] #[.pointer (some ⟨b3, 0, none⟩)]], by simp, b3, g2, rfl, g1⟩
   | 4, _, _ =>
    obtain ⟨g1, g2, _⟩ := hx (b4, .func (.func 157) #[] #[], 226) (by simp)
    exact ⟨.agg #[.int .i64 2, .func (.func 204) #[] #[.pointer (some ⟨b4, 0, none⟩)]], by simp, b4, g2, rfl, g1⟩
   | 5, _, _ =>
    obtain ⟨g1, g2, _⟩ := hx (b5, .func (.func 158) #[] #[], 226) (by simp)
    exact ⟨.agg #[.int .i64 2, .func (.func 204) #[] #[.pointer (some ⟨b5, 0, none⟩)]], by simp, b5, g2, rfl, g1⟩
   | 6, _, _ =>
    obtain ⟨g1, g2, _⟩ := hx (b6, .func (.func 159) #[] #[], 226) (by simp)
    exact ⟨.agg #[.int .i64 3, .func (.func 204) #[] #[.pointer (some ⟨b6, 0, none⟩)]], by simp, b6, g2, rfl, g1⟩
   | 7, _, _ =>
    obtain ⟨g1, g2, _⟩ := hx (b7, .func (.func 160) #[] #[], 226) (by simp)
    exact ⟨.agg #[.int .i64 3, .func (.func 204) #[] #[.pointer (some ⟨b7, 0, none⟩)]], by simp, b7, g2, rfl, g1⟩
   | 8, _, _ => exact ⟨.agg #[.int .i64 4, .func (.func 161) #[] #[]], by simp, rfl⟩
   | 9, _, _ =>
    obtain ⟨g1, g2, _⟩ := hx (b9, .func (.func 163) #[] #[], 228) (by simp)
    obtain ⟨g3, _, _⟩ := hx (b9 + 1, .bool false, 4) (by simp)
    exact ⟨.agg #[.int .i64 5, .func (.func 218) #[] #[.pointer (some ⟨b9, 0, none⟩), .pointer (some ⟨b9 + 1, 0, none⟩)]], by simp, b9, g2, rfl, g1, g3⟩
   | 10, _, _ =>
    obtain ⟨g1, g2, _⟩ := hx (b10, .func (.func 164) #[] #[], 228) (by simp)
    obtain ⟨g3, _, _⟩ := hx (b10 + 1, .bool false, 4) (by simp)
    exact ⟨.agg #[.int .i64 5, .func (.func 218) #[] #[.pointer (some ⟨b10, 0, none⟩), .pointer (some ⟨b10 + 1, 0, none⟩)]], by simp, b10, g2, rfl, g1, g3⟩
   | 11, _, _ =>
    obtain ⟨g1, g2, _⟩ := hx (b11, .func (.func 163) #[] #[], 228) (by simp)
    obtain ⟨g3, _, _⟩ := hx (b11 + 1, .bool true, 4) (by simp)
    exact ⟨.agg #[.int .i64 5, .func (.func 218) #[] #[.pointer (some ⟨b11, 0, none⟩), .pointer (some ⟨b11 + 1, 0, none⟩)]], by simp, b11, g2, rfl, g1, g3⟩
   | 12, _, _ =>
    obtain ⟨g1, g2, _⟩ := hx (b12, .func (.func 164) #[] #[], 228) (by simp)
    obtain ⟨g3, _, _⟩ := hx (b12 + 1, .bool true, 4) (by simp)
    exact ⟨.agg #[.int .i64 5, .func (.func 218) #[] #[.pointer (some ⟨b12, 0, none⟩), .pointer (some ⟨b12 + 1, 0, none⟩)]], by simp, b12, g2, rfl, g1, g3⟩
   | 13, _, _ => exact ⟨.agg #[.int .i64 6, .func (.func 165) #[] #[]], by simp, rfl⟩
   | 14, _, _ =>
    obtain ⟨g1, g2, _⟩ := hx (b14, .func (.func 166) #[] #[], 226) (by simp)
    exact ⟨.agg #[.int .i64 6, .func (.func 204) #[] #[.pointer (some ⟨b14, 0, none⟩)]], by simp, b14, g2, rfl, g1⟩
   | 15, _, _ => exact ⟨.agg #[.int .i64 7, .func (.func 167) #[] #[]], by simp, rfl⟩
   | 16, _, _ => exact ⟨.agg #[.int .i64 7, .func (.func 168) #[] #[]], by simp, rfl⟩
   | 17, _, _ => exact ⟨.agg #[.int .i64 8, .func (.func 169) #[] #[]], by simp, rfl⟩
   | q + 18, _, h2 => omega
 · repeat rw [if_neg (by omega)]
end Go.Proofs.YtpodgcpkccpnfaaGreat

