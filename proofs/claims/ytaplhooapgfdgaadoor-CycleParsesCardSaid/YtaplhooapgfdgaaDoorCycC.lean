/-
  The walks of Ints, Zeros, Text and Parse.
-/
import Derived.Test.YtaplhooapgfdgaaDoorCycB
set_option linter.unusedVariables false
set_option linter.unusedSimpArgs false
namespace Go.Proofs.YtaplhooapgfdgaaDoor
open Go.RowKit

theorem list_ext_getD {a b : List Int} (hl : a.length = b.length) (h : ∀ j, j < a.length → a.getD j 0 = b.getD j 0) : a = b := by
  apply List.ext_getElem hl
  intro i h1 h2
  have := h i h1
  rwa [getD_lt h1, getD_lt h2] at this

set_option maxHeartbeats 400000 in
theorem ints_any (a b : List Int) (A B : Option Addr) (c d : Nat) (w : World) (ha : a.length ≤ 9223372036854775807) (hb : b.length ≤ 9223372036854775807)
    (hra : Row w A a.length (IVal a)) (hrb : Row w B b.length (IVal b)) :
    Calls Tryd.prog 21 #[.slice A a.length c, .slice B b.length d] w fun e w' => e = .returned (.bool (decide (a = b))) ∧ Below w.heap.size w w' := by
  by_cases hl : a.length = b.length
  · have HRA := Lib.hid hra
    have HRB := Lib.hid hrb
    have HL := Lib.hid hl
    obtain ⟨n, hn⟩ : ∃ n, a.length = n := ⟨_, rfl⟩
    rw [← hl, hn]
    have HN := Lib.hid hn
    have hnm : n ≤ 9223372036854775807 := by omega
    clear hra hrb hn hl ha hb
    go_enter Tryd.func21, Tryd.ntmps21
    go_wp2_with fail
    go_loopw [5] (fun t wr => ∃ k : Nat, k ≤ n ∧ t = .int .i64 k ∧ Hid (∀ j, j < k → a.getD j 0 = b.getD j 0) ∧ Hid (Below w.heap.size w wr)) (fun t _ => n - (intOf t).toNat)
    case atStart => exact ⟨0, by omega, rfl, Lib.hid (fun j hj => absurd hj (by omega)), Lib.hid (Below.refl _ _)⟩
    case round =>
      obtain ⟨k, hk, rfl, HK, HW⟩ := hrel
      by_cases hlt : k < n
      · obtain ⟨ba, offa, rfl, hca⟩ := HRA.out k (by rw [HN.out]; exact hlt)
        obtain ⟨bb, offb, rfl, hcb⟩ := HRB.out k (by rw [← HL.out, HN.out]; exact hlt)
        have hca := (HW.out.cell (p := ⟨ba, offa + k, none⟩) (cell_lt hca)).trans hca
        have hcb := (HW.out.cell (p := ⟨bb, offb + k, none⟩) (cell_lt hcb)).trans hcb
        unfold IVal at hca hcb
        by_cases heq : a.getD k 0 = b.getD k 0
        · have HK2 := Lib.hid (show ∀ j, j < k + 1 → a.getD j 0 = b.getD j 0 from fun j hj => by
            by_cases hj2 : j < k
            · exact HK.out j hj2
            · obtain rfl : j = k := by omega
              exact heq)
          rw [heq] at hca
          clear heq
          generalize b.getD k 0 = x at *
          go_wp2_with fail
          go_quiet (fail)
          go_wp2_with fail
          go_roundw
          case rel => exact ⟨k + 1, by omega, by go_num, HK2, Lib.hid (below_drewN HW.out _)⟩
          case measure => simp [intOf]; omega
        · have HF := Lib.hid (show decide (a = b) = false from decide_eq_false (fun h => heq (by rw [h])))
          have hne : ((a.getD k 0) != (b.getD k 0)) = true := by rw [bne_iff_ne]; exact heq
          clear heq
          generalize a.getD k 0 = x at *
          generalize b.getD k 0 = y at *
          go_wp2_with fail
          go_quiet (fail)
          go_wp2_with fail
          go_ret
          exact ⟨by rw [HF.out]; rfl, below_drewN HW.out _⟩
      · obtain rfl : k = n := by omega
        have HF := Lib.hid (show decide (a = b) = true from decide_eq_true (list_ext_getD HL.out (fun j hj => HK.out j (by rw [← HN.out]; exact hj))))
        go_wp2_with fail
        go_ret
        exact ⟨by rw [HF.out]; rfl, HW.out⟩
  · rw [decide_eq_false (show a ≠ b from fun h => hl (by rw [h]))]
    have hne : ((a.length : Int) != (b.length : Int)) = true := by rw [bne_iff_ne]; omega
    generalize a.length = n at *
    generalize b.length = m at *
    clear hra hrb hl ha hb
    go_enter Tryd.func21, Tryd.ntmps21
    go_wp2_with fail
    go_ret
    exact ⟨rfl, Below.refl _ _⟩

theorem infoI : (Tryd.prog.info? 3).map (fun i => (i.zero, i.size, i.bytes)) = some (some (.int .i64 0), 1, 8) := by kernel_rfl
theorem infoB : (Tryd.prog.info? 5).map (fun i => (i.zero, i.size, i.bytes)) = some (some (.int .u8 0), 1, 1) := by kernel_rfl

/-- A list of ints, handed back. -/
def Gives (l : List Int) (w : World) (e : Ending) (w' : World) : Prop := ∃ A c, e = .returned (.slice A l.length c) ∧ Row w' A l.length (IVal l) ∧ Below w.heap.size w w'

def zeroN (n : Int) : Nat := (max 0 (min n 8)).toNat

theorem gives_zeros (w : World) (n : Nat) (e : TypeId) : Gives (List.replicate n 0) w (.returned (.slice (some ⟨w.heap.size, 0, none⟩) n n)) (w.alloc (.cells (madeCells #[.int .i64 0] n) e)) := by
  refine ⟨some ⟨w.heap.size, 0, none⟩, n, by rw [List.length_replicate], ?_, (Below.refl _ _).alloc (Nat.le_refl _) _⟩
  rw [List.length_replicate]
  refine (made_row w (.int .i64 0) n e).congr fun k hk => ?_
  unfold IVal
  rw [getD_lt (by simpa using hk)]
  simp

theorem zeros_any (n : Int) (w : World) : Calls Tryd.prog 7 #[.int .i64 n] w fun e w' => Gives (List.replicate (zeroN n) 0) w e w' := by
  by_cases h0 : n ≤ 0
  · have hk : zeroN n = 0 := by unfold zeroN; omega
    rw [hk]
    have hmk : ∀ W : World, (Instr.makeSlice 22 (.int .i64 0) (.int .i64 0)).run Tryd.prog W = .ok (.slice (some ⟨W.heap.size, 0, none⟩) 0 0) (W.alloc (.cells (madeCells #[.int .i64 0] 0) 3)) := fun W =>
      run_make_row' 22 3 (.int .i64 0) 8 Tryd.underlying22 infoI rfl .i64 .i64 0 (by decide) (by decide) W
    clear hk
    go_enter Tryd.func7, Tryd.ntmps7
    go_wp2_with fail
    go_ret
    exact gives_zeros w 0 3
  · by_cases h8 : 8 < n
    · have hk : zeroN n = 8 := by unfold zeroN; omega
      rw [hk]
      have hmk : ∀ W : World, (Instr.makeSlice 22 (.int .i64 8) (.int .i64 8)).run Tryd.prog W = .ok (.slice (some ⟨W.heap.size, 0, none⟩) 8 8) (W.alloc (.cells (madeCells #[.int .i64 0] 8) 3)) := fun W =>
        run_make_row' 22 3 (.int .i64 0) 8 Tryd.underlying22 infoI rfl .i64 .i64 8 (by decide) (by decide) W
      clear hk
      go_enter Tryd.func7, Tryd.ntmps7
      go_wp2_with fail
      go_ret
      exact gives_zeros w 8 3
    · obtain ⟨k, rfl⟩ : ∃ k : Nat, n = k := ⟨n.toNat, by omega⟩
      have hk : zeroN k = k := by unfold zeroN; omega
      rw [hk]
      have hmk : ∀ W : World, (Instr.makeSlice 22 (.int .i64 k) (.int .i64 k)).run Tryd.prog W = .ok (.slice (some ⟨W.heap.size, 0, none⟩) k k) (W.alloc (.cells (madeCells #[.int .i64 0] k) 3)) := fun W =>
        run_make_row' 22 3 (.int .i64 0) 8 Tryd.underlying22 infoI rfl .i64 .i64 k (by omega) (by omega) W
      clear hk
      go_enter Tryd.func7, Tryd.ntmps7
      go_wp2_with fail
      go_ret
      exact gives_zeros w k 3

/-- A digit's letter. -/
def chr (d : Int) : UInt8 := UInt8.ofNat (48 + d).toNat
theorem chr_nat (d : Int) (h : digB d = true) : ((chr d).toNat : Int) = 48 + d := by
  rcases digB_cases d h with rfl | rfl | rfl <;> rfl
def textL (l : List Int) : List UInt8 := if fineL l then (if l = [] then [45] else l.map chr) else []

def TextPost (l : List Int) (w : World) (e : Ending) (w' : World) : Prop := e = .returned (.string ⟨(textL l).toArray⟩) ∧ Below w.heap.size w w'

set_option maxHeartbeats 1000000 in
theorem text_any (l : List Int) (A : Option Addr) (c : Nat) (w : World) (hm : l.length ≤ 9223372036854775807) (hrow : Row w A l.length (IVal l)) :
    Calls Tryd.prog 17 #[.slice A l.length c] w fun e w' => TextPost l w e w' := by
  have CF := Lib.hid (fine_any l A c w hm hrow)
  cases hf : fineL l
  · rw [hf] at CF
    have HT := Lib.hid (show textL l = [] by unfold textL; rw [hf]; rfl)
    generalize l.length = n at *
    clear hf hrow
    go_enter Tryd.func17, Tryd.ntmps17
    go_wp2_with fail
    refine CF.out.mono ?_
    rintro e w' ⟨rfl, rfl⟩
    go_wp2_with fail
    go_ret
    exact ⟨by rw [HT.out]; rfl, Below.refl _ _⟩
  · rw [hf] at CF
    by_cases h0 : l = []
    · subst h0
      clear hrow hm hf
      go_enter Tryd.func17, Tryd.ntmps17
      go_wp2_with fail
      refine CF.out.mono ?_
      rintro e w' ⟨rfl, rfl⟩
      go_wp2_with fail
      go_ret
      exact ⟨rfl, Below.refl _ _⟩
    · have HT := Lib.hid (show textL l = l.map chr by unfold textL; rw [hf, if_neg h0]; rfl)
      have hn8 : l.length ≤ 8 := by
        have := hf
        unfold fineL at this
        simp at this
        exact this.1
      have HD := Lib.hid (show ∀ k, k < l.length → digB (l.getD k 0) = true by
        have := hf
        unfold fineL at this
        rw [Bool.and_eq_true] at this
        exact all_getD.1 this.2)
      have hn0 : 0 < l.length := List.length_pos_iff.2 h0
      have HR := Lib.hid hrow
      obtain ⟨i0, hi, hz0, hz1, hz2⟩ := info_parts infoB
      have HI := Lib.hid hi
      have HZ0 := Lib.hid hz0
      have HZ1 := Lib.hid hz1
      have HZ2 := Lib.hid hz2
      obtain ⟨n, hn⟩ : ∃ n, l.length = n := ⟨_, rfl⟩
      rw [hn] at CF hn8 hn0 ⊢
      have HN := Lib.hid hn
      have hne : ((n : Int) == 0) = false := beq_eq_false_iff_ne.2 (by omega)
      clear hf h0 hrow hi hz0 hz1 hz2 hn hm
      go_enter Tryd.func17, Tryd.ntmps17
      go_wp2_with fail
      refine CF.out.mono ?_
      rintro e w' ⟨rfl, rfl⟩
      go_wp2_with fail
      go_loopw [3, 14] (fun v t wr => ∃ k : Nat, k ≤ n ∧ t = .int .i64 k ∧ Hid (wr.ownsRow w.heap.size 5 1 v k ((l.take k).map fun d => .int .u8 (chr d).toNat)) ∧ Hid (Below w.heap.size w wr)) (fun _ t _ => n - (intOf t).toNat)
      case atStart => exact ⟨0, by omega, rfl, Lib.hid (own_nil _ _ _ _), Lib.hid (Below.refl _ _)⟩
      case round =>
        obtain ⟨k, hk, rfl, HO, HW⟩ := hrel
        by_cases hlt : k < n
        · obtain ⟨b, off, rfl, hc⟩ := HR.out k (by rw [HN.out]; exact hlt)
          have hc := (HW.out.cell (p := ⟨b, off + k, none⟩) (cell_lt hc)).trans hc
          unfold IVal at hc
          have hd := HD.out k (by rw [HN.out]; exact hlt)
          have hch := chr_nat _ hd
          have hb0 : 0 ≤ l.getD k 0 := by rcases digB_cases _ hd with h | h | h <;> omega
          have hb1 : l.getD k 0 ≤ 2 := by rcases digB_cases _ hd with h | h | h <;> omega
          have HX := Lib.hid (show (l.take k).map (fun d => Value.int .u8 (chr d).toNat) ++ [.int .u8 (48 + l.getD k 0)] = (l.take (k + 1)).map fun d => .int .u8 (chr d).toNat by
            rw [← hch, getD_lt (by rw [HN.out]; exact hlt), List.take_succ_eq_append_getElem (by rw [HN.out]; exact hlt), List.map_append]; rfl)
          have hB : w.heap.size ≤ wr.heap.size := HW.out.size
          have HC := Lib.hid (show (k + 1) * 1 ≤ 140737488355328 by omega)
          clear hd hch
          generalize l.getD k 0 = d at *
          go_wp2_with (at_builtin; refine wpList_push (news := [.int .u8 (48 + d)]) rfl _ _ 41 rfl w.heap.size i0 _ 1 1 Tryd.underlying41 HI.out HZ0.out HZ1.out HZ2.out rfl (by decide) _ _ _ rfl HO.out rfl rfl (by simp [Value.oneCell']) (by decide) HC.out hB ?_; intro v' w1 hown' _ hb')
          rw [HX.out] at hown'
          have HO2 := Lib.hid hown'
          have HW2 := Lib.hid (HW.out.trans hb')
          clear hown' hb' HX HO
          go_wp2_with fail
          go_roundw
          case rel => exact ⟨k + 1, by omega, by go_num, HO2, HW2⟩
          case measure => simp [intOf]; omega
        · obtain rfl : k = n := by omega
          obtain ⟨g, cap, hv, hbg, _⟩ := HO.out.form hn0
          have hcs : ∀ j (hj : j < (l.map chr).length), wr.cell? ((⟨g, 0, none⟩ : Addr).add j) = some (.int .u8 ((l.map chr)[j].toNat : Int)) := by
            intro j hj
            rw [List.length_map] at hj
            have := HO.out
            rw [hv] at this
            rw [Go.WideShapes.add_plain, Nat.zero_add, this.cellAt j (by rw [← HN.out]; omega), List.getElem?_map, List.getElem?_take, if_pos (by rw [← HN.out]; exact hj), List.getElem?_eq_getElem hj]
            simp
          have hcv := run_convert_bytes_back (P := Tryd.prog) wr 41 9 5 ⟨g, 0, none⟩ cap (l.map chr) Tryd.underlying41 Tryd.underlying5 Tryd.underlying9 hcs
          rw [List.length_map, HN.out] at hcv
          rw [hv]
          clear hcs hv
          go_wp2_with fail
          go_ret
          exact ⟨by rw [HT.out]; rfl, HW.out⟩

end Go.Proofs.YtaplhooapgfdgaaDoor
