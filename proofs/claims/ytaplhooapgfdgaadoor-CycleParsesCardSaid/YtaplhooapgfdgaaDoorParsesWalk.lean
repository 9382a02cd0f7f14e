/-
  The walk of the law CycleParses.
-/
import Derived.Test.YtaplhooapgfdgaaDoorTellsWalk
set_option linter.unusedVariables false
set_option linter.unusedSimpArgs false
namespace Go.Proofs.YtaplhooapgfdgaaDoor
open Go.RowKit

theorem parse_text (a : List Int) : parseL (textL a) = if fineL a then some a else none := by
  cases hf : fineL a
  · unfold textL
    rw [hf]
    rfl
  · have hall : a.all digB = true := by have := hf; unfold fineL at this; rw [Bool.and_eq_true] at this; exact this.2
    have h8 : a.length ≤ 8 := by have := hf; unfold fineL at this; simp at this; exact this.1
    by_cases h0 : a = []
    · subst h0; rfl
    · have ht : textL a = a.map chr := by unfold textL; rw [hf, if_neg h0]; rfl
      rw [ht]
      have hrow : rowL (a.map chr) = a := by
        unfold rowL
        rw [List.map_map]
        conv => rhs; rw [← List.map_id a]
        apply List.map_congr_left
        intro d hd
        have := chr_nat d (List.all_eq_true.1 hall d hd)
        simp only [Function.comp, id]
        omega
      unfold parseL
      rw [if_neg, if_neg, if_neg, hrow, hf]
      · rw [List.length_map]; omega
      · rw [List.length_map]; intro h; exact h0 (List.eq_nil_of_length_eq_zero h)
      · intro h
        match a, h0, hall with
        | d :: l, _, hall =>
          simp only [List.map_cons, List.cons.injEq] at h
          have hd : digB d = true := by simp at hall; exact hall.1
          rcases digB_cases d hd with rfl | rfl | rfl
          · exact absurd h.1 (by decide)
          · exact absurd h.1 (by decide)
          · exact absurd h.1 (by decide)

theorem parses_long (s : ByteArray) (n : Nat) (B : Option Addr) (d : Nat) (w : World) (hr : Ring w) (h : 100 < s.size ∨ 40 < n) :
    Calls Tryd.prog 4 #[.string s, .slice B n d] w fun e w' => e = .returned (.bool true) ∧ Up w w' := by
  have C := Lib.hid (alive_any w hr)
  by_cases h1 : 100 < s.size
  · clear h
    go_enter Tryd.func4, Tryd.ntmps4
    go_wp2_with fail
    refine C.out.mono ?_
    rintro e w1 ⟨rfl, hu⟩
    have HU := Lib.hid hu
    clear hu
    go_wp2_with fail
    go_ret
    exact ⟨rfl, HU.out⟩
  · have h2 : 40 < n := by omega
    clear h
    go_enter Tryd.func4, Tryd.ntmps4
    go_wp2_with fail
    refine C.out.mono ?_
    rintro e w1 ⟨rfl, hu⟩
    have HU := Lib.hid hu
    clear hu
    go_wp2_with fail
    go_ret
    exact ⟨rfl, HU.out⟩

/-- What both parsers give, at once. -/
def Parsed (r : Option (List Int)) (n : Nat) (err : Int) (ok : Bool) : Prop :=
  match r with
  | none => n = 0 ∧ err = 3 ∧ ok = false
  | some l => n = l.length ∧ err = 0 ∧ ok = true

def P1 (l : List Int) (err : Int) (w0 : World) (e : Ending) (w' : World) : Prop := ∃ A c, e = .returned (.tuple #[.slice A l.length c, .int .i64 err]) ∧ Row w' A l.length (IVal l) ∧ Up w0 w'
def P2 (l : List Int) (ok : Bool) (w0 : World) (e : Ending) (w' : World) : Prop := ∃ A c, e = .returned (.tuple #[.slice A l.length c, .bool ok]) ∧ Row w' A l.length (IVal l) ∧ Up w0 w'

theorem parse_p1 (s : ByteArray) (w0 W : World) (hs : s.size ≤ 9223372036854775807) (hu : Up w0 W) :
    Calls Tryd.prog 19 #[.string s] W fun e w' => P1 ((parseL s.data.toList).getD []) (if (parseL s.data.toList).isSome then 0 else 3) w0 e w' := by
  refine (parse_any s W hs).mono ?_
  intro e w' h
  cases hp : parseL s.data.toList with
  | none => rw [hp] at h; exact ⟨none, 0, h.1, Row.nil _ _ _, hu.trans h.2⟩
  | some l => rw [hp] at h; obtain ⟨A, c, he, hr, hb⟩ := h; exact ⟨A, c, he, hr, hu.trans hb⟩
theorem parse_p2 (s : ByteArray) (w0 W : World) (hs : s.size ≤ 9223372036854775807) (hu : Up w0 W) :
    Calls Tryd.prog 20 #[.string s] W fun e w' => P2 ((parseL s.data.toList).getD []) (parseL s.data.toList).isSome w0 e w' := by
  refine (rparse_any s W hs).mono ?_
  intro e w' h
  cases hp : parseL s.data.toList with
  | none => rw [hp] at h; exact ⟨none, 0, h.1, Row.nil _ _ _, hu.trans h.2⟩
  | some l => rw [hp] at h; obtain ⟨A, c, he, hr, hb⟩ := h; exact ⟨A, c, he, hr, hu.trans hb⟩

theorem parseL_len (l : List UInt8) : ((parseL l).getD []).length ≤ 8 := by
  unfold parseL
  split
  · simp
  · split
    · simp
    · split
      · simp
      · split
        · simp [rowL_length]; omega
        · simp

theorem textL_len (l : List Int) : (textL l).length ≤ 8 := by
  unfold textL
  cases hf : fineL l
  · simp
  · have h8 : l.length ≤ 8 := by have := hf; unfold fineL at this; simp at this; exact this.1
    simp only [if_true]
    split
    · simp
    · simp; exact h8

set_option maxHeartbeats 2000000 in
theorem parses_core (s t : ByteArray) (b l m : List Int) (B : Option Addr) (d n : Nat) (w : World) (err er2 : Int) (ok fa : Bool) (he : (ok = true ∧ err = 0) ∨ (ok = false ∧ err = 3)) (he2 : (fa = true ∧ er2 = 0 ∧ m = b) ∨ (fa = false ∧ er2 = 3 ∧ m = []))
    (hr : Ring w) (hs : s.size ≤ 100) (hb : n ≤ 40) (hn : b.length = n) (hl8 : l.length ≤ 8) (hrb : Row w B n (IVal b))
    (c1 : Calls Tryd.prog 19 #[.string s] w fun e w' => P1 l err w e w')
    (c2 : ∀ W, Calls Tryd.prog 20 #[.string s] W fun e w' => P2 l ok W e w')
    (ct : ∀ W, Up w W → Calls Tryd.prog 17 #[.slice B n d] W fun e w' => e = .returned (.string t) ∧ Up w w')
    (cp : ∀ W, Calls Tryd.prog 19 #[.string t] W fun e w' => P1 m er2 W e w')
    (crf : ∀ W, Up w W → Calls Tryd.prog 14 #[.slice B n d] W fun e w' => e = .returned (.bool fa) ∧ W = w') :
    Calls Tryd.prog 4 #[.string s, .slice B n d] w fun e w' => e = .returned (.bool true) ∧ Up w w' := by
  have HRB := Lib.hid hrb
  have HRG := Lib.hid hr
  have HN := Lib.hid hn
  have C1 := Lib.hid c1
  have C2 := Lib.hid c2
  have CT := Lib.hid ct
  have CP := Lib.hid cp
  have CRF := Lib.hid crf
  have HL8 := Lib.hid hl8
  have CA := Lib.hid (fun W (h : Up w W) => alive_any W (hr.up h))
  clear c1 c2 ct cp crf hrb hr hn hl8
  rcases he with ⟨rfl, rfl⟩ | ⟨rfl, rfl⟩
  all_goals
    rcases he2 with ⟨rfl, rfl, hm⟩ | ⟨rfl, rfl, hm⟩
    all_goals
      have HM := Lib.hid hm
      clear hm
      go_enter Tryd.func4, Tryd.ntmps4
      go_wp2_with fail
      refine C1.out.mono ?_
      rintro e w1 ⟨A1, k1, rfl, hr1, hu1⟩
      have HR1 := Lib.hid hr1
      have HU1 := Lib.hid hu1
      clear hr1 hu1
      go_wp2_with fail
      refine (C2.out _).mono ?_
      rintro e w2 ⟨A2, k2, rfl, hr2, hu2⟩
      have HR2 := Lib.hid hr2
      have HR1' := Lib.hid (HR1.out.up hu2)
      have HU2 := Lib.hid (HU1.out.trans hu2)
      clear hr2 hu2
      have ci := ints_any l l A1 A2 k1 k2 w2 (by have := HL8.out; omega) (by have := HL8.out; omega) HR1'.out HR2.out
      rw [decide_eq_true rfl] at ci
      have CI := Lib.hid ci
      clear ci HR1 HU1
      go_wp2_with fail
      refine CI.out.mono ?_
      rintro e w3 ⟨rfl, hu3⟩
      have HU3 := Lib.hid (HU2.out.trans hu3)
      clear hu3
      go_wp2_with fail
      refine (CT.out _ HU3.out).mono ?_
      rintro e w4 ⟨rfl, hu4⟩
      have HU4 := Lib.hid hu4
      clear hu4
      go_wp2_with fail
      refine (CP.out _).mono ?_
      rintro e w5 ⟨A5, k5, rfl, hr5, hu5⟩
      have HU5 := Lib.hid (HU4.out.trans hu5)
      have HR5 := Lib.hid hr5
      clear hr5 hu5
      go_wp2_with fail
      refine (CRF.out _ HU5.out).mono ?_
      rintro e w6 ⟨rfl, rfl⟩
      go_wp2_with fail
      first
        | (refine (CA.out _ HU5.out).mono ?_
           rintro e w7 ⟨rfl, hu⟩
           have HU7 := Lib.hid (HU5.out.trans hu)
           clear hu
           go_wp2_with fail
           go_ret
           exact ⟨rfl, HU7.out⟩)
        | (have hmn := HN.out
           have cj := ints_any m b A5 B k5 d w5 (by rw [HM.out]; omega) (by omega) HR5.out (by rw [HN.out]; exact HRB.out.up HU5.out)
           rw [decide_eq_true HM.out, HN.out] at cj
           have CJ := Lib.hid cj
           clear cj hmn
           refine CJ.out.mono ?_
           rintro e w7 ⟨rfl, hu⟩
           have HU7 := Lib.hid (HU5.out.trans hu)
           clear hu
           go_wp2_with fail
           refine (CA.out _ HU7.out).mono ?_
           rintro e w8 ⟨rfl, hu⟩
           have HU8 := Lib.hid (HU7.out.trans hu)
           clear hu
           go_wp2_with fail
           go_ret
           exact ⟨rfl, HU8.out⟩)

theorem parses_any (s : ByteArray) (b : List Int) (B : Option Addr) (d : Nat) (w : World) (hr : Ring w) (hs : s.size ≤ 9223372036854775807) (hb : b.length ≤ 9223372036854775807) (hbd : b.length ≤ d) (hd : d ≤ 9223372036854775807) (hrb : Row w B b.length (IVal b)) :
    Calls Tryd.prog 4 #[.string s, .slice B b.length d] w fun e w' => e = .returned (.bool true) ∧ Up w w' := by
  by_cases h : 100 < s.size ∨ 40 < b.length
  · exact parses_long s _ B d w hr h
  · have htl := textL_len b
    have htp : parseL (ByteArray.mk (textL b).toArray).data.toList = if fineL b then some b else none := parse_text b
    have cp := fun (W : World) => parse_p1 ⟨(textL b).toArray⟩ W W (by show (textL b).toArray.size ≤ _; simp; omega) (Up.refl _)
    rw [htp] at cp
    refine parses_core s ⟨(textL b).toArray⟩ b ((parseL s.data.toList).getD []) ((if fineL b then some b else none : Option (List Int)).getD []) B d b.length w (if (parseL s.data.toList).isSome then 0 else 3)
      (if (if fineL b then some b else none : Option (List Int)).isSome then 0 else 3) (parseL s.data.toList).isSome (fineL b) ?_ ?_ hr (by omega) (by omega) rfl (parseL_len _) hrb
      (parse_p1 s w w hs (Up.refl _)) (fun W => parse_p2 s W W hs (Up.refl _)) (upBase (w0 := w) (fun W h => text_any b B d W hb (hrb.up h))) cp (fun W h => rfine_any b B d W hb (hrb.up h))
    · cases (parseL s.data.toList).isSome
      · exact .inr ⟨rfl, rfl⟩
      · exact .inl ⟨rfl, rfl⟩
    · cases fineL b
      · exact .inr ⟨rfl, rfl, rfl⟩
      · exact .inl ⟨rfl, rfl, rfl⟩

end Go.Proofs.YtaplhooapgfdgaaDoor
