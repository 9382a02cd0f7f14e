/-
  What a read may see, as a slice.
-/
import Derived.Test.YtpefcbmmbpcalaaLooC
import Derived.Deep.RegionHeld3
set_option linter.unusedVariables false
set_option linter.unusedSimpArgs false
namespace Go.Proofs.Ytpefcbmmbpcalaa
open Go.RowKit

def zcells (l : List Int) : List Value := l.map (Value.int .i64)
def OwnZ (w : World) (B : Nat) (v : Value) (l : List Int) : Prop := w.ownsRow B 3 1 v l.length (zcells l)
theorem infoZ : (Try.prog.info? 3).map (fun i => (i.zero, i.size, i.bytes)) = some (some (.int .i64 0), 1, 8) := by kernel_rfl
theorem cf34 : ∀ args W, (callFunc 34 args).run Try.prog W = .ok (.enter 34 args) W := by
  intro args W
  go_simp

theorem z_slice {w : World} {B : Nat} {v : Value} {l : List Int} (h : OwnZ w B v l) : ∃ A c, v = .slice A l.length c ∧ Row w A l.length (IVal l) := by
  obtain ⟨A, c, e, hr, _⟩ := own_row h (f := IVal l) (fun k hk => iVal_map hk)
  exact ⟨A, c, e, hr⟩
theorem sees1_fin {w w6 : World} {o S n : Nat} {v v' : Value} {xs : List Value} (hc6 : w6.heap[o]? = some (.cells #[v] 42 (0, 0))) (hoS : o < S) (hS : S < w.heap.size) (hb : Below (S + 1) w w6) (ho : w6.ownsRow (S + 1) 3 1 v' n xs) :
    (w6.setCell ⟨o, 0, none⟩ v').heap[o]? = some (.cells #[v'] 42 (0, 0)) ∧ (w6.setCell ⟨o, 0, none⟩ v').ownsRow (S + 1) 3 1 v' n xs ∧ S < (w6.setCell ⟨o, 0, none⟩ v').heap.size ∧ KX (fun k => k = o ∨ S < k) w (w6.setCell ⟨o, 0, none⟩ v') := by
  have hsz : (w6.setCell ⟨o, 0, none⟩ v').heap.size = w6.heap.size := by simp [World.setCell]
  have hg : w6.grownBy (w6.setCell ⟨o, 0, none⟩ v') (some o) := ⟨rfl, rfl, rfl, by simp [World.setCell], fun k hk hne => heap_setCell_other _ _ _ _ (fun e => hne (by rw [e]))⟩
  refine ⟨by rw [heap_setCell_same w6 o 0 _ _ _ hc6]; rfl, ho.kept hg ?_, by rw [hsz]; exact Nat.lt_of_lt_of_le hS hb.size, ⟨hb.os, hb.tape, hb.output, by rw [hsz]; exact hb.size, fun k hk hx => ?_⟩⟩
  · cases hv : v'.ownBlock with
    | none => exact .inl rfl
    | some b =>
      refine .inr (fun e => ?_)
      injection e with e
      have := (ho.lt b hv).1
      omega
  · have h1 : k ≠ o := fun e => hx (.inl e)
    have h2 : k < S + 1 := Nat.lt_of_not_le (fun h => hx (.inr h))
    exact (hg.block k (Nat.lt_of_lt_of_le hk hb.size) (by simp [h1])).trans (hb.block k h2)

set_option maxRecDepth 10000 in
set_option maxHeartbeats 1000000 in
theorem sees1_any (x : Int) (o S : Nat) (l : List Int) (v : Value) (w : World) (hl : l.length ≤ 1000001) (ho : w.heap[o]? = some (.cells #[v] 42 (0, 0))) (hoS : o < S) (hS : S < w.heap.size) (hv : OwnZ w (S + 1) v l) :
    Calls Try.prog 34 #[.int .i64 x, .pointer (some ⟨o, 0, none⟩)] w fun e w' => e = .returned (.bool true) ∧ (∃ v', w'.heap[o]? = some (.cells #[v'] 42 (0, 0)) ∧ OwnZ w' (S + 1) v' (l ++ [x])) ∧ S < w'.heap.size ∧ KX (fun k => k = o ∨ S < k) w w' := by
  obtain ⟨i0, hi, hz0, hz1, hz2⟩ := oparts infoZ
  have HI := Lib.hid hi
  have HZ0 := Lib.hid hz0
  have HZ1 := Lib.hid hz1
  have HZ2 := Lib.hid hz2
  have HO := Lib.hid ho
  have HV := Lib.hid hv
  have HOS := Lib.hid hoS
  have HS := Lib.hid hS
  have HL8 : Hid ((l.length + 1) * 8 ≤ 140737488355328) := Lib.hid (by omega)
  have hc := cell_of_row _ _ 0 _ _ _ ho
  simp only [List.getElem?_toArray, List.getElem?_cons_zero] at hc
  have hlt := (Array.getElem?_eq_some_iff.1 ho).1
  clear hi hz0 hz1 hz2 ho hv hoS hS hl
  go_enter Try.func34, Try.ntmps34
  go_wp2_with (at_builtin; refine wpList_push (news := [.int .i64 x]) rfl (.tmp 4) (.tmp 6) 42 rfl (S + 1) i0 (.int .i64 0) 1 8 Try.underlying42 HI.out HZ0.out HZ1.out HZ2.out rfl (by decide) _ l.length (zcells l) rfl HV.out rfl rfl (by simp [Value.oneCell']) (by decide) HL8.out HS.out ?_; intro v' w6 hown6 hg hbl; have hc6 := (hbl.block o (Nat.lt_succ_of_lt HOS.out)).trans HO.out; have hcc := cell_of_row _ _ 0 _ _ _ hc6; simp only [List.getElem?_toArray, List.getElem?_cons_zero] at hcc; have hlt6 := (Array.getElem?_eq_some_iff.1 hc6).1; have hz : w6.frozen? ⟨o, 0, none⟩ = false := (by simp [World.frozen?, hc6]); have HF := Lib.hid (sees1_fin hc6 HOS.out HS.out hbl hown6); obtain ⟨A6, c6, rfl, _⟩ := own_row (f := fun k => (zcells l ++ [Value.int .i64 x]).getD k undef) hown6 (fun k hk => (by rw [List.getD_eq_getElem?_getD, List.getElem?_eq_getElem (by simp [zcells]; omega)]; rfl)); clear hown6 hg hbl hc6)
  go_ret
  refine ⟨rfl, ⟨_, HF.out.1, ?_⟩, HF.out.2.2.1, HF.out.2.2.2⟩
  have h := HF.out.2.1
  unfold OwnZ zcells
  rw [List.length_append, List.map_append]
  exact h

theorem handedT (L : List Int) : ∀ pre, handed (fun _ _ => true) pre L = pre ++ L := by
  induction L with
  | nil => intro pre; simp [handed]
  | cons a L ih => intro pre; rw [handed, if_pos rfl, ih]; simp
theorem seenL_len (ws : List OpD) (first : Int) (r : OpD) : (seenL ws first r).length ≤ ws.length + 1 := by
  unfold seenL bothV
  rw [List.length_cons, List.length_map]
  have := List.length_filter_le (fun o => bothB o r) ws
  omega

/-- seen, with the closure that keeps what it is told. -/
theorem seen_sees (ws : List OpD) (A : Option Addr) (c o : Nat) (first : Int) (r : OpD) (w : World) (hL : ws.length ≤ 1000000) (hr : OpRow w A ws) (hA : ∀ b off, A = some ⟨b, off, none⟩ → b ≠ o) (ho : w.heap[o]? = some (.cells #[.slice none 0 0] 42 (0, 0))) :
    Calls Try.prog 26 #[.slice A ws.length c, .int .i64 first, oagg r, .func (.func 34) #[] #[.pointer (some ⟨o, 0, none⟩)]] w fun e w' => (∃ v, e = .returned v) ∧ (∃ v, w'.heap[o]? = some (.cells #[v] 42 (0, 0)) ∧ OwnZ w' (w.heap.size + 1) v (seenL ws first r)) ∧ KX (fun k => k = o ∨ w.heap.size < k) w w' := by
  have hos := (Array.getElem?_eq_some_iff.1 ho).1
  have h := seen_gen 34 [.pointer (some ⟨o, 0, none⟩)] (fun k => k = o ∨ w.heap.size < k) (fun pre W => ∃ v, W.heap[o]? = some (.cells #[v] 42 (0, 0)) ∧ OwnZ W (w.heap.size + 1) v pre) (fun _ _ => true) ws A c first r w hL cf34
    (fun hx => by rcases hx with h | h <;> omega)
    (fun pre W W' hm u => by
      obtain ⟨v, h1, h2⟩ := hm
      exact ⟨v, box_up h1 u, own_up3 h2 u⟩)
    (fun W hk k hk2 => by
      obtain ⟨b, off, e, x0, x1, x2, x3, x4⟩ := hr k hk2
      have hb : ∀ q v, w.cell? ⟨b, q, none⟩ = some v → W.cell? ⟨b, q, none⟩ = some v := fun q v hc => by
        have hlt := cell_lt hc
        rw [World.cell?_of_block (w := w) (hk.block b hlt (fun hx => by rcases hx with h | h; · exact hA b off e h
                                                                        · omega))]
        exact hc
      exact ⟨b, off, e, hb _ _ x0, hb _ _ x1, hb _ _ x2, hb _ _ x3, hb _ _ x4⟩)
    ⟨_, ho, own_nil _ _ _ _⟩
    (fun pre x W hW hpl ha hm => by
      obtain ⟨v, h1, h2⟩ := hm
      exact (sees1_any x o w.heap.size pre v W (by omega) h1 hos hW h2).mono fun e W' ⟨a, b, _, d⟩ => ⟨a, b, d⟩)
  refine h.mono fun e w' ⟨a, b, d⟩ => ⟨a, ?_, d⟩
  rw [handedT, List.nil_append] at b
  exact b

end Go.Proofs.Ytpefcbmmbpcalaa
