/-
  The closures that ask whether a read is regular, or safe.
-/
import Derived.Test.YtpefcbmmbpcalaaSeen
import Derived.Deep.RegionLaw
set_option linter.unusedVariables false
set_option linter.unusedSimpArgs false
namespace Go.Proofs.Ytpefcbmmbpcalaa
open Go.RowKit

theorem cf27 : ∀ args W, (callFunc 27 args).run Try.prog W = .ok (.enter 27 args) W := by
  intro args W
  go_simp
theorem cf29 : ∀ args W, (callFunc 29 args).run Try.prog W = .ok (.enter 29 args) W := by
  intro args W
  go_simp

def lastEq (pre : List Int) (v : Int) : Bool := match pre.getLast? with | none => false | some x => x == v
theorem lastEq_snoc (pre : List Int) (x v : Int) : lastEq (pre ++ [x]) v = (x == v) := by unfold lastEq; simp
def askR (v : Int) (pre : List Int) (x : Int) : Bool := !(x == v)
theorem handedR (v : Int) : ∀ (L pre : List Int), lastEq pre v = false → lastEq (handed (askR v) pre L) v = L.any (· == v)
  | [], pre, h => h
  | x :: xs, pre, h => by
    rw [handed]
    cases hx : (x == v)
    · rw [show askR v pre x = true by unfold askR; rw [hx]; rfl, if_pos rfl, handedR v xs (pre ++ [x]) (by rw [lastEq_snoc]; exact hx), List.any_cons, hx]; rfl
    · rw [show askR v pre x = false by unfold askR; rw [hx]; rfl]
      simp only [Bool.false_eq_true, if_false]
      rw [lastEq_snoc, hx, List.any_cons, hx]; rfl
def regB (ws : List OpD) (first : Int) (r : OpD) : Bool := (seenL ws first r).any (· == r.val)
def askS (pre : List Int) (x : Int) : Bool := decide (pre.length + 1 < 2)
/-- What Safe's closure has at its end: how many (at most two), and the first. -/
theorem handedS (L : List Int) : handed askS [] L = L.take 2 := by
  match L with
  | [] => rfl
  | [a] => rfl
  | a :: b :: L => rfl
def safeB (ws : List OpD) (first top : Int) (r : OpD) : Bool := if (seenL ws first r).length = 1 then r.val == lastA ws first r else decide (0 ≤ r.val) && decide (r.val ≤ top)

set_option maxRecDepth 10000 in
set_option maxHeartbeats 1000000 in
/-- The closure of Regular: found = v == r.Val. -/
theorem reg11_any (x F T V Th : Int) (Wr : Bool) (b p : Nat) (f : Bool) (w : World) (hb : w.heap[b]? = some (.cells #[.int .i64 F, .int .i64 T, .bool Wr, .int .i64 V, .int .i64 Th] 24 (0, 0))) (hp : w.heap[p]? = some (.cells #[.bool f] 4 (0, 0))) (hbp : b ≠ p) :
    Calls Try.prog 27 #[.int .i64 x, .pointer (some ⟨b, 0, none⟩), .pointer (some ⟨p, 0, none⟩)] w fun e w' => e = .returned (.bool (askR V [] x)) ∧ w'.heap[p]? = some (.cells #[.bool (x == V)] 4 (0, 0)) ∧ KX (· = p) w w' := by
  obtain ⟨x0, x1, x2, x3, x4⟩ := box_cells hb
  have hc := cell_of_row _ _ 0 _ _ _ hp
  have hz : w.frozen? ⟨p, 0, none⟩ = false := by simp [World.frozen?, hp]
  simp only [List.getElem?_toArray, List.getElem?_cons_zero] at hc
  have HH : Hid (∀ v : Value, (w.setCell ⟨p, 0, none⟩ v).heap[p]? = some (.cells #[v] 4 (0, 0))) := Lib.hid (fun v => by rw [heap_setCell_same w p 0 _ _ _ hp]; rfl)
  have HK : Hid (∀ v : Value, KX (· = p) w (w.setCell ⟨p, 0, none⟩ v)) := Lib.hid (fun v => KX.setCell (X := (· = p)) (a := ⟨p, 0, none⟩) rfl v)
  have HC2 : Hid ((w.setCell ⟨p, 0, none⟩ (.bool (x == V))).cell? ⟨p, 0, none⟩ = some (.bool (x == V))) := Lib.hid (cell_of_row _ _ 0 _ _ _ (HH.out _))
  have HA : Hid (askR V [] x = !(x == V)) := Lib.hid rfl
  generalize askR V [] x = a at *
  clear hb hp
  generalize hxv : (x == V) = y at *
  go_enter Try.func27, Try.ntmps27
  go_wp2_with fail
  go_ret
  exact ⟨by rw [HA.out]; rfl, HH.out _, HK.out _⟩

set_option maxRecDepth 10000 in
set_option maxHeartbeats 1000000 in
/-- The closure of Safe: the first is kept, and how many there were (at most one ahead of it). -/
theorem saf11_any (x m la : Int) (p q : Nat) (w : World) (hm : m = 0 ∨ m = 1) (hp : w.heap[p]? = some (.cells #[.int .i64 m] 3 (0, 0))) (hq : w.heap[q]? = some (.cells #[.int .i64 la] 3 (0, 0))) (hpq : p ≠ q) :
    Calls Try.prog 29 #[.int .i64 x, .pointer (some ⟨p, 0, none⟩), .pointer (some ⟨q, 0, none⟩)] w fun e w' => e = .returned (.bool (decide (m + 1 < 2))) ∧ w'.heap[p]? = some (.cells #[.int .i64 (m + 1)] 3 (0, 0)) ∧ w'.heap[q]? = some (.cells #[.int .i64 (if m = 0 then x else la)] 3 (0, 0)) ∧ KX (fun k => k = p ∨ k = q) w w' := by
  have hc := cell_of_row _ _ 0 _ _ _ hp
  have hd := cell_of_row _ _ 0 _ _ _ hq
  simp only [List.getElem?_toArray, List.getElem?_cons_zero] at hc hd
  have hzp : w.frozen? ⟨p, 0, none⟩ = false := by simp [World.frozen?, hp]
  have hzq : w.frozen? ⟨q, 0, none⟩ = false := by simp [World.frozen?, hq]
  have HP := Lib.hid hp
  have HQ := Lib.hid hq
  have HPQ := Lib.hid hpq
  have hqp : q ≠ p := fun e => hpq e.symm
  clear hp hq
  rcases hm with rfl | rfl
  · have H1 : Hid ((w.setCell ⟨q, 0, none⟩ (.int .i64 x)).heap[q]? = some (.cells #[.int .i64 x] 3 (0, 0))) := Lib.hid (by rw [heap_setCell_same w q 0 _ _ _ HQ.out]; rfl)
    have H2 : Hid ((w.setCell ⟨q, 0, none⟩ (.int .i64 x)).heap[p]? = some (.cells #[.int .i64 0] 3 (0, 0))) := Lib.hid ((heap_setCell_other w _ _ _ hpq).trans HP.out)
    have H3 : Hid (((w.setCell ⟨q, 0, none⟩ (.int .i64 x)).setCell ⟨p, 0, none⟩ (.int .i64 1)).heap[p]? = some (.cells #[.int .i64 1] 3 (0, 0))) := Lib.hid (by rw [heap_setCell_same _ p 0 _ _ _ H2.out]; rfl)
    have H4 : Hid (((w.setCell ⟨q, 0, none⟩ (.int .i64 x)).setCell ⟨p, 0, none⟩ (.int .i64 1)).heap[q]? = some (.cells #[.int .i64 x] 3 (0, 0))) := Lib.hid ((heap_setCell_other _ _ _ _ hqp).trans H1.out)
    have hc2 := cell_of_row _ _ 0 _ _ _ H2.out
    have hz2 : (w.setCell ⟨q, 0, none⟩ (.int .i64 x)).frozen? ⟨p, 0, none⟩ = false := by simp [World.frozen?, H2.out]
    have hc3 := cell_of_row _ _ 0 _ _ _ H3.out
    simp only [List.getElem?_toArray, List.getElem?_cons_zero] at hc2 hc3
    have HK : Hid (KX (fun k => k = p ∨ k = q) w ((w.setCell ⟨q, 0, none⟩ (.int .i64 x)).setCell ⟨p, 0, none⟩ (.int .i64 1))) := Lib.hid ((KX.setCell (X := fun k => k = p ∨ k = q) (a := ⟨q, 0, none⟩) (.inr rfl) _).trans (KX.setCell (X := fun k => k = p ∨ k = q) (a := ⟨p, 0, none⟩) (.inl rfl) _))
    go_enter Try.func29, Try.ntmps29
    go_wp2_with fail
    go_ret
    exact ⟨rfl, H3.out, H4.out, HK.out⟩
  · have H3 : Hid ((w.setCell ⟨p, 0, none⟩ (.int .i64 2)).heap[p]? = some (.cells #[.int .i64 2] 3 (0, 0))) := Lib.hid (by rw [heap_setCell_same _ p 0 _ _ _ HP.out]; rfl)
    have H4 : Hid ((w.setCell ⟨p, 0, none⟩ (.int .i64 2)).heap[q]? = some (.cells #[.int .i64 la] 3 (0, 0))) := Lib.hid ((heap_setCell_other _ _ _ _ hqp).trans HQ.out)
    have hc3 := cell_of_row _ _ 0 _ _ _ H3.out
    simp only [List.getElem?_toArray, List.getElem?_cons_zero] at hc3
    have HK : Hid (KX (fun k => k = p ∨ k = q) w (w.setCell ⟨p, 0, none⟩ (.int .i64 2))) := Lib.hid (KX.setCell (X := fun k => k = p ∨ k = q) (a := ⟨p, 0, none⟩) (.inl rfl) _)
    go_enter Try.func29, Try.ntmps29
    go_wp2_with fail
    go_ret
    exact ⟨rfl, H3.out, H4.out, HK.out⟩

set_option maxRecDepth 10000 in
set_option maxHeartbeats 1000000 in
theorem reg1_any (ws : List OpD) (A : Option Addr) (c pf : Nat) (first : Int) (r : OpD) (w : World) (hL : ws.length ≤ 1000000) (hr : OpRow w A ws) (hf : w.cell? ⟨pf, 0, none⟩ = some (.int .i64 first)) :
    Calls Try.prog 25 #[.slice A ws.length c, oagg r, .pointer (some ⟨pf, 0, none⟩)] w fun e w' => e = .returned (.bool (regB ws first r)) ∧ Up w w' := by
  have HMF := Lib.hid (show ∀ (fn : Fn) (first cap : Array Value) (w : World), (Instr.makeFunc fn first cap).run Try.prog w = .ok (.func fn first cap) w from fun _ _ _ _ => rfl)
  have hx := heap_two w (.cells (ocell r).toArray 24) (.cells #[.bool false] 4)
  have hu : Up w ((w.alloc (.cells (ocell r).toArray 24)).alloc (.cells #[.bool false] 4)) := ((Up.refl w).alloc _).alloc _
  have hsz : ((w.alloc (.cells (ocell r).toArray 24)).alloc (.cells #[.bool false] 4)).heap.size = w.heap.size + 2 := by simp
  have HRG : Hid (regB ws first r = (seenL ws first r).any (· == r.val)) := Lib.hid rfl
  have HSEEN : Hid (∀ W, ((w.alloc (.cells (ocell r).toArray 24)).alloc (.cells #[.bool false] 4)) = W → Calls Try.prog 26 #[.slice A ws.length c, .int .i64 first, oagg r, .func (.func 27) #[] #[.pointer (some ⟨w.heap.size, 0, none⟩), .pointer (some ⟨w.heap.size + 1, 0, none⟩)]] W fun e w' => (∃ v, e = .returned v) ∧ w'.heap[w.heap.size + 1]? = some (.cells #[.bool (regB ws first r)] 4 (0, 0)) ∧ KX (· = w.heap.size + 1) W w') := Lib.hid (fun W hW => by
    have h := seen_any 27 [.pointer (some ⟨w.heap.size, 0, none⟩), .pointer (some ⟨w.heap.size + 1, 0, none⟩)] (· = w.heap.size + 1)
      (fun pre V => V.heap[w.heap.size]? = some (.cells (ocell r).toArray 24 (0, 0)) ∧ V.heap[w.heap.size + 1]? = some (.cells #[.bool (lastEq pre r.val)] 4 (0, 0))) (askR r.val) ws A c first r W hL cf27
      (fun k hk => by rw [hk, ← hW, hsz]; omega) (fun pre V V' hm u => ⟨box_up hm.1 u, box_up hm.2 u⟩)
      (fun V hk q hq => by
        obtain ⟨b, off, e, ho⟩ := hr.up (hW ▸ hu) q hq
        have hb : b < w.heap.size := by
          obtain ⟨b2, off2, e2, ho2⟩ := hr q hq
          rw [e] at e2
          injection e2 with e2; injection e2 with e2 e3
          rw [e2]; exact cell_lt ho2.1
        have hkk : V.heap[b]? = W.heap[b]? := hk.block b (by rw [← hW, hsz]; omega) (by omega)
        have hc : ∀ o' v', W.cell? ⟨b, o', none⟩ = some v' → V.cell? ⟨b, o', none⟩ = some v' := fun o' v' h => (World.cell?_of_block (a := ⟨b, o', none⟩) hkk).trans h
        exact ⟨b, off, e, hc _ _ ho.1, hc _ _ ho.2.1, hc _ _ ho.2.2.1, hc _ _ ho.2.2.2.1, hc _ _ ho.2.2.2.2⟩)
      ⟨by rw [← hW]; exact hx.1, by rw [← hW]; exact hx.2⟩
      (fun pre x V _ hm => (reg11_any x r.frm r.to r.val r.thr r.wr w.heap.size (w.heap.size + 1) (lastEq pre r.val) V hm.1 hm.2 (by omega)).mono fun e V' ⟨h1, h2, h3⟩ => ⟨h1, ⟨h3.box hm.1 (by omega), by rw [lastEq_snoc]; exact h2⟩, h3⟩)
    refine h.mono fun e w' ⟨h1, h2, h3⟩ => ⟨h1, ?_, h3⟩
    have := h2.2
    rw [handedR r.val _ [] rfl] at this
    exact this)
  have HU := Lib.hid hu
  have HX := Lib.hid hx
  have HSZ := Lib.hid hsz
  obtain ⟨RF, RT, RW, RV, RH⟩ := r
  unfold oagg at HSEEN ⊢
  unfold ocell at HU HX HSZ HSEEN
  dsimp only at HSEEN HU HX HSZ ⊢
  generalize regB ws first ⟨RF, RT, RW, RV, RH⟩ = rb at *
  have hfl := cell_lt hf
  clear hx hu hsz HX HSZ hr hL
  go_enter Try.func25, Try.ntmps25
  go_wp2_with fail
  refine (HSEEN.out _ rfl).mono ?_
  rintro e w2 ⟨⟨v, rfl⟩, hb2, hk2⟩
  have hc2 := cell_of_row _ _ 0 _ _ _ hb2
  simp only [List.getElem?_toArray, List.getElem?_cons_zero] at hc2
  have HU2 : Hid (Up w w2) := Lib.hid (Below.trans HU.out (hk2.below HU.out.size (fun k hk => by omega)))
  clear hb2 hk2 hf hfl
  go_wp2_with fail
  go_ret
  exact ⟨rfl, HU2.out⟩

end Go.Proofs.Ytpefcbmmbpcalaa
