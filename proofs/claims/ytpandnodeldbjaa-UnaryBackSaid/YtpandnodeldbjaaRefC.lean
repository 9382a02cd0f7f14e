/-
  The document's Mem: Read, Write, Get, Note.
-/
import Derived.Test.YtpandnodeldbjaaRefB
set_option linter.unusedVariables false
set_option linter.unusedSimpArgs false
namespace Go.Proofs.Ytpandnodeldbjaa
open Go.RowKit

/-- After a method of the document's. -/
def RPost (v : Value) (h B : Nat) (w : World) (r : RS) (e : Ending) (w' : World) : Prop := e = .returned v ∧ RefIs w' h B r ∧ TK h B w w'

theorem access_any (h B : Nat) (a : Int × Int × Int) (r : RS) (w : World) (R : RefIs w h B r) :
    Calls Try.prog 104 #[.pointer (some ⟨h, 0, none⟩), .agg #[.int .i64 a.1, .int .i64 a.2.1, .int .i64 a.2.2]] w (RPost (.int .i64 (rAsk a r).1) h B w (rAsk a r).2) := by
  obtain ⟨s, o⟩ := r
  cases o with
  | true =>
    have e : rAsk a ⟨s, true⟩ = (0, ⟨s, true⟩) := rfl
    rw [e]
    exact access_over h B _ _ _ _ w R rfl
  | false =>
    by_cases hlt : s.acc.length < s.ans.length
    · have e : rAsk a ⟨s, false⟩ = (s.told, ⟨s.asked a, false⟩) := by unfold rAsk; simp [hlt]
      rw [e]
      exact access_ok h B _ _ _ s w R hlt
    · have e : rAsk a ⟨s, false⟩ = (0, ⟨s.asked a, true⟩) := by unfold rAsk; simp [hlt]
      rw [e]
      exact access_stop h B _ _ _ s w R hlt

theorem rread_any (h B : Nat) (c : Int) (r : RS) (w : World) (R : RefIs w h B r) :
    Calls Try.prog 72 #[.pointer (some ⟨h, 0, none⟩), .int .i64 c] w (RPost (.int .i64 (rAsk (1, c, 0) r).1) h B w (rAsk (1, c, 0) r).2) := by
  have HA := Lib.hid (access_any h B (1, c, 0) r w R)
  obtain ⟨p, hp⟩ : ∃ p, rAsk (1, c, 0) r = p := ⟨_, rfl⟩
  rw [hp] at HA ⊢
  clear R hp
  go_enter Try.func72, Try.ntmps72
  go_wp2_with fail
  refine HA.out.mono ?_
  rintro e w' ⟨rfl, h2, h3⟩
  have H2 := Lib.hid h2
  have H3 := Lib.hid h3
  clear h2 h3
  go_wp2_with fail
  go_ret
  exact ⟨rfl, H2.out, H3.out⟩

theorem rwrite_any (h B : Nat) (c v : Int) (r : RS) (w : World) (R : RefIs w h B r) :
    Calls Try.prog 73 #[.pointer (some ⟨h, 0, none⟩), .int .i64 c, .int .i64 v] w (RPost (.tuple #[]) h B w (rAsk (2, c, v) r).2) := by
  have HA := Lib.hid (access_any h B (2, c, v) r w R)
  obtain ⟨p, hp⟩ : ∃ p, rAsk (2, c, v) r = p := ⟨_, rfl⟩
  rw [hp] at HA ⊢
  clear R hp
  go_enter Try.func73, Try.ntmps73
  go_wp2_with fail
  refine HA.out.mono ?_
  rintro e w' ⟨rfl, h2, h3⟩
  have H2 := Lib.hid h2
  have H3 := Lib.hid h3
  clear h2 h3
  go_wp2_with fail
  go_end0
  exact ⟨rfl, H2.out, H3.out⟩

theorem rget_any (h B : Nat) (i : Int) (r : RS) (w : World) (R : RefIs w h B r) :
    Calls Try.prog 76 #[.pointer (some ⟨h, 0, none⟩), .int .i64 i] w fun e w' => e = .returned (.int .i64 (r.t.get i)) ∧ w' = w := by
  obtain ⟨s, o⟩ := r
  obtain ⟨v, hcv, hown⟩ := R.c.loc
  obtain ⟨A, c, rfl, hac, hcm⟩ := own_form hown
  have hll := R.c.ll
  simp only at hcv hown hac hll ⊢
  by_cases hr : i < 0 ∨ (s.loc.length : Int) ≤ i
  · have HG := Lib.hid (show s.get i = 0 by unfold TS.get; rw [if_pos hr])
    rw [HG.out]
    clear R hown
    generalize s.loc.length = n at *
    rcases hr with h1 | h1
    · go_enter Try.func76, Try.ntmps76
      go_wp2_with fail
      go_ret
      exact ⟨rfl, rfl⟩
    · have h2 : ¬ i < 0 := by omega
      go_enter Try.func76, Try.ntmps76
      go_wp2_with fail
      go_ret
      exact ⟨rfl, rfl⟩
  · have HG := Lib.hid (show s.get i = s.loc.getD i.toNat 0 by unfold TS.get; rw [if_neg hr])
    have h1 : ¬ i < 0 := by omega
    obtain ⟨k, rfl⟩ : ∃ k : Nat, i = k := ⟨i.toNat, by omega⟩
    have hk : k < s.loc.length := by omega
    obtain ⟨A', c', hA, hrow, _⟩ := own_row (f := IVal s.loc) hown (fun k hk => iVal_map hk)
    injection hA with hA1 hA2 hA3
    subst hA1
    obtain ⟨b, off, rfl, hcell⟩ := hrow k hk
    unfold IVal at hcell
    rw [Int.toNat_natCast] at HG
    rw [HG.out]
    have h2 : ¬ ((s.loc.length : Int) ≤ (k : Int)) := by omega
    generalize s.loc.getD k 0 = x at *
    clear R hown hrow hr hk
    generalize s.loc.length = n at *
    go_enter Try.func76, Try.ntmps76
    go_wp2_with fail
    go_ret
    exact ⟨rfl, rfl⟩

/-- What the append of a note leaves, in its region. -/
theorem rnote_append {w0 W w1 : World} {h B : Nat} {s : TS} {va : Value} {k0 : Int} {g1 cap : Nat} (hU : Up w0 W) (R : RefIs w0 h B ⟨s, false⟩) (hca : w0.cell? ⟨h, 4, none⟩ = some va) (hown : w0.ownsRow B 47 2 va s.nts.length (ncells s.nts))
    (hown1 : w1.ownsRow B 47 2 (.slice (some ⟨g1, 0, none⟩) (s.nts.length + 1) cap) (s.nts.length + 1) (ncells s.nts ++ [.int .i64 k0, .int .i64 (s.acc.length : Int)])) (hg : W.grownBy w1 va.ownBlock) :
    (w1.cell? ⟨h, 4, none⟩ = some va ∧ w1.frozen? ⟨h, 4, none⟩ = false) ∧ RefIs (w1.setCell ⟨h, 4, none⟩ (.slice (some ⟨g1, 0, none⟩) (s.nts.length + 1) cap)) h B ⟨s.noted k0, false⟩ ∧ TK h B w0 (w1.setCell ⟨h, 4, none⟩ (.slice (some ⟨g1, 0, none⟩) (s.nts.length + 1) cap)) := by
  have r2 := R.c.up hU
  have hown2 := own_up hown hU
  have hlow : w1.heap[h]? = W.heap[h]? := by obtain ⟨cs, hh⟩ := r2.ty; exact hg.block h r2.hs (own_apart hh hown2 (by decide))
  have hca2 : W.cell? ⟨h, 4, none⟩ = some va := (hU.cell (p := ⟨h, 4, none⟩) R.c.hs).trans hca
  have hcj : ∀ j v, j ≠ 4 → w0.cell? ⟨h, j, none⟩ = some v → (w1.setCell ⟨h, 4, none⟩ (.slice (some ⟨g1, 0, none⟩) (s.nts.length + 1) cap)).cell? ⟨h, j, none⟩ = some v := fun j v hj hc =>
    (World.cell?_setCell_other _ _ _ _ (by simp <;> omega)).trans ((tcell hlow).trans ((hU.cell (p := ⟨h, j, none⟩) R.c.hs).trans hc))
  refine ⟨⟨(tcell hlow).trans hca2, (tfrozen hlow).trans (r2.fz 4)⟩, ⟨r2.pushN k0 hca2 hown2 hg (by rw [show s.nts ++ [(k0, (s.acc.length : Int))] = s.nts ++ [(k0, (s.acc.length : Int))] from rfl, ncells_append]; exact hown1), hcj 1 _ (by decide) R.at', hcj 2 _ (by decide) R.ov, R.lf, R.lt⟩, ?_⟩
  exact ((TK.ofUp hU).grown hown2 (.inr (.inr rfl)) hg).setCell _

set_option maxRecDepth 10000 in
set_option maxHeartbeats 1000000 in
theorem rnote_any (h B : Nat) (k0 : Int) (r : RS) (w : World) (R : RefIs w h B r) (hb : r.t.nts.length < 1000000) :
    Calls Try.prog 75 #[.pointer (some ⟨h, 0, none⟩), .int .i64 k0] w (RPost (.tuple #[]) h B w (rNote k0 r)) := by
  obtain ⟨s, o⟩ := r
  cases o with
  | true =>
    have e : rNote k0 ⟨s, true⟩ = ⟨s, true⟩ := rfl
    rw [e]
    have c2 := R.ov
    simp only at c2
    have HR := Lib.hid R
    clear R hb
    go_enter Try.func75, Try.ntmps75
    go_wp2_with fail
    go_end0
    exact ⟨rfl, HR.out, TK.refl _ _ _⟩
  | false =>
    have e : rNote k0 ⟨s, false⟩ = ⟨s.noted k0, false⟩ := rfl
    rw [e]
    have c2 := R.ov
    simp only at c2 hb
    obtain ⟨va, hca, hown⟩ := R.c.nts
    obtain ⟨Aa, ca, rfl, hac, _⟩ := own_form hown
    obtain ⟨vb, hcb, hownb⟩ := R.c.acc
    obtain ⟨Ab, cb, rfl, hbc, _⟩ := own_form hownb
    have hgs := R.c.hs
    have HS := Lib.hid R.c.sz
    have HOWN := Lib.hid hown
    have HX := Lib.hid (fun (W w1 : World) (g1 cap : Nat) (hU : Up w W) => rnote_append (W := W) (w1 := w1) (g1 := g1) (cap := cap) (k0 := k0) hU R hca hown)
    have hf3 := R.c.fz 4
    obtain ⟨i0, hi, hz0, hz1, hz2⟩ := info_parts infoNote
    have HI := Lib.hid hi
    have HZ0 := Lib.hid hz0
    have HZ1 := Lib.hid hz1
    have HZ2 := Lib.hid hz2
    obtain ⟨n, hn⟩ : ∃ n, s.nts.length = n := ⟨_, rfl⟩
    obtain ⟨m, hm⟩ : ∃ m, s.acc.length = m := ⟨_, rfl⟩
    simp only [hn, hm] at hca hac HOWN HX hb hcb
    clear hown R hi hz0 hz1 hz2 hn hm hownb
    go_enter Try.func75, Try.ntmps75
    go_wp2_with fail
    go_region_law (refine step_append_lies _ rfl (.tmp 13) (.tmp 21) 27 rfl B 47 i0 (.agg #[.int .i64 0, .int .i64 0]) 2 16 Try.underlying27 HI.out HZ0.out HZ1.out HZ2.out rfl (by decide) _ n (ncells s.nts) rfl (own_up HOWN.out ((Up.refl w).alloc _).drew) ⟨w.heap.size, 0, none⟩ 1 1 [.int .i64 k0, .int .i64 (m : Int)] rfl rfl (news1 w _ _) (by simp [Value.oneCell']) (by decide) (by unfold maxLen; omega) (by omega) (by have := HS.out; simp; omega) _ rfl ?_; intro g1 cap w1 hown1 hgrow hat hlt1; obtain ⟨⟨hc3, hf3'⟩, HT0, HK0⟩ := HX.out _ _ _ _ ((Up.refl w).alloc _).drew hown1 hgrow; have HT := Lib.hid HT0; have HK := Lib.hid HK0; clear HT0 HK0 hown1 hgrow hat hlt1)
    all_goals
      go_end0
      exact ⟨rfl, HT.out, HK.out⟩

end Go.Proofs.Ytpandnodeldbjaa
