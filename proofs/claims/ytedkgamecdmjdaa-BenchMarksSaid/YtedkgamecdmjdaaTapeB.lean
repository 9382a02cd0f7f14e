/-
  Package tape: what its methods do, by contracts.
-/
import Derived.Test.YtedkgamecdmjdaaTapeA
import Derived.Test.YtedkgamecdmjdaaZeros
import Derived.Test.YtedkgamecdmjdaaChecked
import Derived.Deep.RegionLaw
set_option linter.unusedVariables false
set_option linter.unusedSimpArgs false
namespace Go.Proofs.Ytedkgamecdmjdaa
open Go.RowKit

theorem infoAcc : (Try.prog.info? 55).map (fun i => (i.zero, i.size, i.bytes)) = some (some (.agg #[.int .i64 0, .int .i64 0, .int .i64 0]), 3, 24) := by kernel_rfl
theorem infoNote : (Try.prog.info? 79).map (fun i => (i.zero, i.size, i.bytes)) = some (some (.agg #[.int .i64 0, .int .i64 0]), 2, 16) := by kernel_rfl
theorem infoInt : (Try.prog.info? 3).map (fun i => (i.zero, i.size, i.bytes)) = some (some (.int .i64 0), 1, 8) := by kernel_rfl

/-- The panic of an operation that stops. -/
def stopC (g : Nat) : List PanicEntry := [{ v := .iface 99 (.agg #[.pointer (some ⟨g, 0, none⟩)]), recovered := false }]

/-- An operation is being played. -/
def Tape1 (w : World) (g B : Nat) (s : TS) : Prop := TapeIs w g B 1 s ∧ s.acc.length ≤ s.ans.length
theorem Tape1.up {w w' : World} {g B : Nat} {s : TS} (h : Tape1 w g B s) (hb : Up w w') : Tape1 w' g B s := ⟨h.1.up hb, h.2⟩
/-- After an operation that may stop. -/
def TPost {α : Type} (enc : α → Value) (g B : Nat) (w : World) (r : Option α × TS) (e : Ending) (w' : World) : Prop :=
  (match r.1 with
   | some v => e = .returned (enc v) ∧ Tape1 w' g B r.2
   | none => e = .panicked (stopC g) ∧ TapeIs w' g B 2 r.2) ∧ TK g B w w'
theorem TPost.some {α : Type} {enc : α → Value} {g B : Nat} {w : World} {r : Option α × TS} {v : α} {s' : TS} (hr : r = (some v, s')) {e : Ending} {w' : World} (h : e = .returned (enc v) ∧ Tape1 w' g B s' ∧ TK g B w w') : TPost enc g B w r e w' := by
  subst hr; exact ⟨⟨h.1, h.2.1⟩, h.2.2⟩
theorem TPost.none {α : Type} {enc : α → Value} {g B : Nat} {w : World} {r : Option α × TS} {s' : TS} (hr : r = (.none, s')) {e : Ending} {w' : World} (h : e = .panicked (stopC g) ∧ TapeIs w' g B 2 s' ∧ TK g B w w') : TPost enc g B w r e w' := by
  subst hr; exact ⟨⟨h.1, h.2.1⟩, h.2.2⟩
theorem TPost.of_some {α : Type} {enc : α → Value} {g B : Nat} {w : World} {r : Option α × TS} {v : α} {s' : TS} (hr : r = (.some v, s')) {e : Ending} {w' : World} (h : TPost enc g B w r e w') : e = .returned (enc v) ∧ Tape1 w' g B s' ∧ TK g B w w' := by
  subst hr; exact ⟨h.1.1, h.1.2, h.2⟩
theorem TPost.of_none {α : Type} {enc : α → Value} {g B : Nat} {w : World} {r : Option α × TS} {s' : TS} (hr : r = (.none, s')) {e : Ending} {w' : World} (h : TPost enc g B w r e w') : e = .panicked (stopC g) ∧ TapeIs w' g B 2 s' ∧ TK g B w w' := by
  subst hr; exact ⟨h.1.1, h.1.2, h.2⟩

theorem acc_one (a : Int × Int × Int) (l : List (Int × Int × Int)) : acells (l ++ [a]) = acells l ++ [.int .i64 a.1, .int .i64 a.2.1, .int .i64 a.2.2] := by rw [acells_append]; rfl

/-- What the append of an access leaves, in its region. -/
theorem ask_append {w0 W w1 : World} {g B : Nat} {s : TS} {va : Value} {a : Int × Int × Int} {g1 cap : Nat} (hU : Up w0 W) (h : TapeIs w0 g B 1 s) (hla : s.acc.length ≤ s.ans.length) (hca : w0.cell? ⟨g, 3, none⟩ = some va) (hown : w0.ownsRow B 55 3 va s.acc.length (acells s.acc))
    (hown1 : w1.ownsRow B 55 3 (.slice (some ⟨g1, 0, none⟩) (s.acc.length + 1) cap) (s.acc.length + 1) (acells s.acc ++ [.int .i64 a.1, .int .i64 a.2.1, .int .i64 a.2.2])) (hg : W.grownBy w1 va.ownBlock) :
    w1.cell? ⟨g, 3, none⟩ = some va ∧ w1.frozen? ⟨g, 3, none⟩ = false ∧ TapeIs (w1.setCell ⟨g, 3, none⟩ (.slice (some ⟨g1, 0, none⟩) (s.acc.length + 1) cap)) g B 1 (s.asked a) ∧ TK g B w0 (w1.setCell ⟨g, 3, none⟩ (.slice (some ⟨g1, 0, none⟩) (s.acc.length + 1) cap)) := by
  have h2 := h.up hU
  have hown2 := own_up hown hU
  have hlow : W.heap[g]? = w1.heap[g]? := (hg.block g (Nat.lt_of_lt_of_le h2.gB h2.sz) (fun e => by have := own_ge hown2 g e.symm; have := h.gB; omega)).symm
  have hca2 : W.cell? ⟨g, 3, none⟩ = some va := (hU.cell (p := ⟨g, 3, none⟩) (Nat.lt_of_lt_of_le h.gB h.sz)).trans hca
  refine ⟨(tcell hlow.symm).trans hca2, (tfrozen hlow.symm).trans (h2.fz 3), h2.pushA a hca2 hla hown2 hg (by rw [acc_one]; exact hown1), ?_⟩
  exact ((TK.ofUp hU).grown hown2 (.inr (.inl rfl)) hg).setCell _

theorem news2 (w : World) (O : Obj) (news : List Value) (e : TypeId) : ∀ j u, news[j]? = some u → ((w.alloc O).alloc (.cells news.toArray e)).drew.cell? ((⟨w.heap.size + 1, 0, none⟩ : Addr).add j) = some u := by
  intro j u h
  have := cells_new (w.alloc O) news e j u h
  rw [World.size_alloc] at this
  exact this

set_option maxRecDepth 10000 in
set_option maxHeartbeats 1000000 in
theorem ask_ok (g B : Nat) (a0 a1 a2 : Int) (s : TS) (w : World) (h : TapeIs w g B 1 s) (hlt : s.acc.length < s.ans.length) :
    Calls Try.prog 37 #[.pointer (some ⟨g, 0, none⟩), .agg #[.int .i64 a0, .int .i64 a1, .int .i64 a2]] w fun e w' => e = .returned (.int .i64 s.told) ∧ TapeIs w' g B 1 (s.asked (a0, a1, a2)) ∧ TK g B w w' := by
  obtain ⟨va, hca, hown⟩ := h.acc
  obtain ⟨Aa, ca, rfl, hac, _⟩ := own_form hown
  have c0 := h.c0
  have hgs := h.gs
  have hlb := h.lb
  have H := Lib.hid h
  have HOWN := Lib.hid hown
  have HLA := Lib.hid (show s.acc.length ≤ s.ans.length by omega)
  have HTOLD := Lib.hid (show s.told = s.ans.getD s.acc.length 0 from rfl)
  have HX := Lib.hid (fun (W w1 : World) (g1 cap : Nat) (hU : Up w W) => ask_append (W := W) (w1 := w1) (g1 := g1) (cap := cap) (a := (a0, a1, a2)) hU h HLA.out hca hown)
  have hf3 := h.fz 3
  obtain ⟨i0, hi, hz0, hz1, hz2⟩ := info_parts infoAcc
  have HI := Lib.hid hi
  have HZ0 := Lib.hid hz0
  have HZ1 := Lib.hid hz1
  have HZ2 := Lib.hid hz2
  obtain ⟨m, hm⟩ : ∃ m, s.ans.length = m := ⟨_, rfl⟩
  obtain ⟨n, hn⟩ : ∃ n, s.acc.length = n := ⟨_, rfl⟩
  rw [hn] at hca hac HOWN hlt HX
  rw [hm] at hlb hlt
  have HN := Lib.hid hn
  have HM := Lib.hid hm
  clear hown h hi hz0 hz1 hz2 hn hm
  go_enter Try.func37, Try.ntmps37
  go_wp2_with fail
  go_region_law (refine step_append_lies _ rfl (.tmp 32) (.tmp 34) 71 rfl B 55 i0 (.agg #[.int .i64 0, .int .i64 0, .int .i64 0]) 3 24 Try.underlying71 HI.out HZ0.out HZ1.out HZ2.out rfl (by decide) _ n (acells s.acc) rfl (own_up HOWN.out (((Up.refl w).alloc _).alloc _).drew) ⟨w.heap.size + 1, 0, none⟩ 1 1 [.int .i64 a0, .int .i64 a1, .int .i64 a2] rfl rfl (news2 w _ _ _) (by simp [Value.oneCell']) (by decide) (by unfold maxLen; omega) (by omega) (by have := H.out.sz; simp; omega) _ rfl ?_; intro g1 cap w1 hown1 hgrow hat hlt1; obtain ⟨hc3, hf3', HT0, HK0⟩ := HX.out _ _ _ _ (((Up.refl w).alloc _).alloc _).drew hown1 hgrow; have HT := Lib.hid HT0; have HK := Lib.hid HK0; clear HT0 HK0 hown1 hgrow hat hlt1)
  all_goals
    generalize w1.setCell ⟨g, 3, none⟩ (.slice (some ⟨g1, 0, none⟩) (n + 1) cap) = W1 at *
    obtain ⟨A1, d1, hc1, hr1, _⟩ := HT.out.ans
    simp only [TS.asked] at hc1 hr1
    rw [HM.out] at hc1 hr1
    obtain ⟨b, off, rfl, hcell⟩ := hr1 n hlt
    unfold IVal at hcell
    have hge : ¬ (m : Int) ≤ (n : Int) := by omega
    have HTD := HTOLD.out
    rw [HN.out] at HTD
    rw [← HTD] at hcell
    have HTD2 := Lib.hid HTD
    clear hc3 hf3' hr1 hca HTD hf3
    go_wp2_with fail
    go_ret
    exact ⟨rfl, HT.out, HK.out⟩

set_option maxRecDepth 10000 in
set_option maxHeartbeats 1000000 in
theorem ask_stop (g B : Nat) (a0 a1 a2 : Int) (s : TS) (w : World) (h : TapeIs w g B 1 s) (hlt : s.acc.length = s.ans.length) :
    Calls Try.prog 37 #[.pointer (some ⟨g, 0, none⟩), .agg #[.int .i64 a0, .int .i64 a1, .int .i64 a2]] w fun e w' => e = .panicked (stopC g) ∧ TapeIs w' g B 2 (s.asked (a0, a1, a2)) ∧ TK g B w w' := by
  obtain ⟨va, hca, hown⟩ := h.acc
  obtain ⟨Aa, ca, rfl, hac, _⟩ := own_form hown
  have c0 := h.c0
  have hgs := h.gs
  have hlb := h.lb
  have H := Lib.hid h
  have HOWN := Lib.hid hown
  have HLA := Lib.hid (show s.acc.length ≤ s.ans.length by omega)
  have HX := Lib.hid (fun (W w1 : World) (g1 cap : Nat) (hU : Up w W) => ask_append (W := W) (w1 := w1) (g1 := g1) (cap := cap) (a := (a0, a1, a2)) hU h HLA.out hca hown)
  have hf3 := h.fz 3
  obtain ⟨i0, hi, hz0, hz1, hz2⟩ := info_parts infoAcc
  have HI := Lib.hid hi
  have HZ0 := Lib.hid hz0
  have HZ1 := Lib.hid hz1
  have HZ2 := Lib.hid hz2
  have HSC := Lib.hid (show stopC g = [{ v := .iface 99 (.agg #[.pointer (some ⟨g, 0, none⟩)]), recovered := false }] from rfl)
  obtain ⟨n, hn⟩ : ∃ n, s.ans.length = n := ⟨_, rfl⟩
  rw [hn] at hlt hlb
  rw [hlt] at hca hac HOWN HX
  have HN := Lib.hid hlt
  have HM := Lib.hid hn
  clear hown h hi hz0 hz1 hz2 hn hlt
  go_enter Try.func37, Try.ntmps37
  go_wp2_with fail
  go_region_law (refine step_append_lies _ rfl (.tmp 32) (.tmp 34) 71 rfl B 55 i0 (.agg #[.int .i64 0, .int .i64 0, .int .i64 0]) 3 24 Try.underlying71 HI.out HZ0.out HZ1.out HZ2.out rfl (by decide) _ n (acells s.acc) rfl (own_up HOWN.out (((Up.refl w).alloc _).alloc _).drew) ⟨w.heap.size + 1, 0, none⟩ 1 1 [.int .i64 a0, .int .i64 a1, .int .i64 a2] rfl rfl (news2 w _ _ _) (by simp [Value.oneCell']) (by decide) (by unfold maxLen; omega) (by omega) (by have := H.out.sz; simp; omega) _ rfl ?_; intro g1 cap w1 hown1 hgrow hat hlt1; obtain ⟨hc3, hf3', HT0, HK0⟩ := HX.out _ _ _ _ (((Up.refl w).alloc _).alloc _).drew hown1 hgrow; have HT := Lib.hid HT0; have HK := Lib.hid HK0; clear HT0 HK0 hown1 hgrow hat hlt1)
  all_goals
    generalize w1.setCell ⟨g, 3, none⟩ (.slice (some ⟨g1, 0, none⟩) (n + 1) cap) = W1 at *
    obtain ⟨A1, d1, hc1, -, _⟩ := HT.out.ans
    simp only [TS.asked] at hc1
    rw [HM.out] at hc1
    have hf0 := HT.out.fz 0
    have hc0 := HT.out.c0
    have HT2 := Lib.hid (HT.out.state 2)
    have HK2 := Lib.hid (HK.out.setCell (j := 0) (.int .i64 2))
    clear hc3 hf3' hca hf3 HT HK
    go_wp2_with fail
    exact ⟨rfl, by rw [HSC.out], HT2.out, HK2.out⟩

def tAsk (a : Int × Int × Int) (s : TS) : Option Int × TS := (if s.acc.length < s.ans.length then some s.told else none, s.asked a)
def encI : Int → Value := .int .i64
def encU : Unit → Value := fun _ => .tuple #[]

theorem tAsk_ok (a : Int × Int × Int) (s : TS) (h : s.acc.length < s.ans.length) : tAsk a s = (some s.told, s.asked a) := by unfold tAsk; rw [if_pos h]
theorem tAsk_stop (a : Int × Int × Int) (s : TS) (h : ¬ s.acc.length < s.ans.length) : tAsk a s = (none, s.asked a) := by unfold tAsk; rw [if_neg h]

theorem ask_any (g B : Nat) (a : Int × Int × Int) (s : TS) (w : World) (h : Tape1 w g B s) :
    Calls Try.prog 37 #[.pointer (some ⟨g, 0, none⟩), .agg #[.int .i64 a.1, .int .i64 a.2.1, .int .i64 a.2.2]] w (TPost encI g B w (tAsk a s)) := by
  by_cases hlt : s.acc.length < s.ans.length
  · refine (ask_ok g B _ _ _ s w h.1 hlt).mono ?_
    rintro e w' ⟨h1, h2, h3⟩
    exact TPost.some (tAsk_ok a s hlt) ⟨h1, ⟨h2, by simp [TS.asked]; omega⟩, h3⟩
  · refine (ask_stop g B _ _ _ s w h.1 (by have := h.2; omega)).mono ?_
    rintro e w' ⟨h1, h2, h3⟩
    exact TPost.none (tAsk_stop a s hlt) ⟨h1, h2, h3⟩

theorem read_any (g B : Nat) (c : Int) (s : TS) (w : World) (h : Tape1 w g B s) :
    Calls Try.prog 23 #[.pointer (some ⟨g, 0, none⟩), .int .i64 c] w (TPost encI g B w (tAsk (1, c, 0) s)) := by
  have HA := Lib.hid (ask_any g B (1, c, 0) s w h)
  have HOK := Lib.hid (tAsk_ok (1, c, 0) s)
  have HST := Lib.hid (tAsk_stop (1, c, 0) s)
  by_cases hlt : s.acc.length < s.ans.length
  · have HR := Lib.hid (tAsk_ok (1, c, 0) s hlt)
    clear h
    go_enter Try.func23, Try.ntmps23
    go_wp2_with fail
    refine HA.out.mono ?_
    intro e w' q
    obtain ⟨rfl, h2, h3⟩ := q.of_some HR.out
    have H2 := Lib.hid h2
    have H3 := Lib.hid h3
    clear q h2 h3
    unfold encI
    go_wp2_with fail
    go_ret
    exact TPost.some HR.out ⟨rfl, H2.out, H3.out⟩
  · have HR := Lib.hid (tAsk_stop (1, c, 0) s hlt)
    clear h
    go_enter Try.func23, Try.ntmps23
    go_wp2_with fail
    refine HA.out.mono ?_
    intro e w' q
    obtain ⟨rfl, h2, h3⟩ := q.of_none HR.out
    have H2 := Lib.hid h2
    have H3 := Lib.hid h3
    clear q h2 h3
    go_wp2_with fail
    exact ⟨rfl, TPost.none HR.out ⟨rfl, H2.out, H3.out⟩⟩

end Go.Proofs.Ytedkgamecdmjdaa
