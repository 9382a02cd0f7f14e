/-
  The document's Mem: Set.
-/
import Derived.Test.YtpandnodeldbjaaRefC
import Derived.Deep.LoopGhost
set_option linter.unusedVariables false
set_option linter.unusedSimpArgs false
namespace Go.Proofs.Ytpandnodeldbjaa
open Go.RowKit

theorem rset_append {w0 W w1 : World} {h B : Nat} {s : TS} {va : Value} {g1 cap : Nat} (hU : Up w0 W) (R : RefIs w0 h B ⟨s, false⟩) (hll : s.loc.length < 32768) (hca : w0.cell? ⟨h, 5, none⟩ = some va) (hown : w0.ownsRow B 3 1 va s.loc.length (icells s.loc))
    (hown1 : w1.ownsRow B 3 1 (.slice (some ⟨g1, 0, none⟩) (s.loc.length + 1) cap) (s.loc.length + 1) (icells s.loc ++ [.int .i64 0])) (hg : W.grownBy w1 va.ownBlock) :
    (w1.cell? ⟨h, 5, none⟩ = some va ∧ w1.frozen? ⟨h, 5, none⟩ = false) ∧ RefIs (w1.setCell ⟨h, 5, none⟩ (.slice (some ⟨g1, 0, none⟩) (s.loc.length + 1) cap)) h B ⟨{ s with loc := s.loc ++ [0] }, false⟩ ∧ TK h B w0 (w1.setCell ⟨h, 5, none⟩ (.slice (some ⟨g1, 0, none⟩) (s.loc.length + 1) cap)) := by
  have r2 := R.c.up hU
  have hown2 := own_up hown hU
  have hlow : w1.heap[h]? = W.heap[h]? := by obtain ⟨cs, hh⟩ := r2.ty; exact hg.block h r2.hs (own_apart hh hown2 (by decide))
  have hca2 : W.cell? ⟨h, 5, none⟩ = some va := (hU.cell (p := ⟨h, 5, none⟩) R.c.hs).trans hca
  have hcj : ∀ j v, j ≠ 5 → w0.cell? ⟨h, j, none⟩ = some v → (w1.setCell ⟨h, 5, none⟩ (.slice (some ⟨g1, 0, none⟩) (s.loc.length + 1) cap)).cell? ⟨h, j, none⟩ = some v := fun j v hj hc =>
    (World.cell?_setCell_other _ _ _ _ (by simp <;> omega)).trans ((tcell hlow).trans ((hU.cell (p := ⟨h, j, none⟩) R.c.hs).trans hc))
  refine ⟨⟨(tcell hlow).trans hca2, (tfrozen hlow).trans (r2.fz 5)⟩, ⟨r2.pushL 0 hca2 hll hown2 hg hown1, hcj 1 _ (by decide) R.at', hcj 2 _ (by decide) R.ov, R.lf, R.lt⟩, ?_⟩
  exact ((TK.ofUp hU).grown hown2 (.inl rfl) hg).setCell _

theorem RefIs.store {w : World} {h B : Nat} {s : TS} (R : RefIs w h B ⟨s, false⟩) (k : Nat) (hk : k < s.loc.length) (x : Int) :
    ∃ gl c, w.cell? ⟨h, 5, none⟩ = some (.slice (some ⟨gl, 0, none⟩) s.loc.length c) ∧ w.cell? ⟨gl, k, none⟩ = some (.int .i64 (s.loc.getD k 0)) ∧ w.frozen? ⟨gl, k, none⟩ = false ∧
      RefIs (w.setCell ⟨gl, k, none⟩ (.int .i64 x)) h B ⟨{ s with loc := s.loc.set k x }, false⟩ ∧ TK h B w (w.setCell ⟨gl, k, none⟩ (.int .i64 x)) := by
  obtain ⟨gl, c, h1, h2, h3, h4, h5, h6⟩ := R.c.store k hk x
  have hgg : (w.setCell ⟨gl, k, none⟩ (.int .i64 x)).heap[h]? = w.heap[h]? := Below.heap_setCell w ⟨gl, k, none⟩ _ h (by simp; omega)
  exact ⟨gl, c, h1, h2, h3, ⟨h4, (tcell hgg).trans R.at', (tcell hgg).trans R.ov, R.lf, R.lt⟩, h5⟩

def pad (s : TS) (j : Nat) : TS := { s with loc := s.loc ++ List.replicate j 0 }
theorem pad_succ (s : TS) (j : Nat) : { pad s j with loc := (pad s j).loc ++ [0] } = pad s (j + 1) := by
  unfold pad
  simp only [List.append_assoc, TS.mk.injEq, true_and, and_true]
  rw [List.replicate_succ']

set_option maxRecDepth 10000 in
set_option maxHeartbeats 1000000 in
theorem rset_any (h B : Nat) (i x : Int) (r : RS) (w : World) (R : RefIs w h B r) :
    Calls Try.prog 74 #[.pointer (some ⟨h, 0, none⟩), .int .i64 i, .int .i64 x] w (RPost (.tuple #[]) h B w (rSet i x r)) := by
  have c2 := R.ov
  have HR := Lib.hid R
  by_cases hr : r.over = true ∨ i < 0 ∨ 32767 < i
  · have e : rSet i x r = r := by unfold rSet; rw [if_pos hr]
    rw [e]
    clear R e
    obtain ⟨s, o⟩ := r
    simp only at c2 hr
    rcases hr with h1 | h1 | h1
    · subst h1
      go_enter Try.func74, Try.ntmps74
      go_wp2_with fail
      refine bodyPost_ret (results_none rfl _ _ _) rfl ?_
      exact ⟨rfl, HR.out, TK.refl _ _ _⟩
    · cases o with
      | true =>
        go_enter Try.func74, Try.ntmps74
        go_wp2_with fail
        refine bodyPost_ret (results_none rfl _ _ _) rfl ?_
        exact ⟨rfl, HR.out, TK.refl _ _ _⟩
      | false =>
        go_enter Try.func74, Try.ntmps74
        go_wp2_with fail
        refine bodyPost_ret (results_none rfl _ _ _) rfl ?_
        exact ⟨rfl, HR.out, TK.refl _ _ _⟩
    · have h2 : ¬ i < 0 := by omega
      cases o with
      | true =>
        go_enter Try.func74, Try.ntmps74
        go_wp2_with fail
        refine bodyPost_ret (results_none rfl _ _ _) rfl ?_
        exact ⟨rfl, HR.out, TK.refl _ _ _⟩
      | false =>
        go_enter Try.func74, Try.ntmps74
        go_wp2_with fail
        refine bodyPost_ret (results_none rfl _ _ _) rfl ?_
        exact ⟨rfl, HR.out, TK.refl _ _ _⟩
  · obtain ⟨s, o⟩ := r
    have h1 : ¬ i < 0 := by omega
    have h2 : ¬ 32767 < i := by omega
    obtain ⟨p, rfl⟩ : ∃ p : Nat, i = p := ⟨i.toNat, by omega⟩
    obtain rfl : o = false := by cases o <;> simp_all
    obtain ⟨T, hT⟩ : ∃ T, p + 1 - s.loc.length = T := ⟨_, rfl⟩
    have e : rSet p x ⟨s, false⟩ = ⟨{ pad s T with loc := (pad s T).loc.set p x }, false⟩ := by
      unfold rSet
      rw [if_neg hr, Int.toNat_natCast, hT]
      rfl
    rw [e]
    simp only at c2
    have HT := Lib.hid hT
    have hpi : (p : Int) ≤ 32767 := by omega
    have hp : p ≤ 32767 := by omega
    obtain ⟨i0, hi, hz0, hz1, hz2⟩ := info_parts infoInt
    have HI := Lib.hid hi
    have HZ0 := Lib.hid hz0
    have HZ1 := Lib.hid hz1
    have HZ2 := Lib.hid hz2
    have H0 := Lib.hid (show RefIs w h B ⟨pad s 0, false⟩ by unfold pad; simpa using R)
    clear R e hr hT hi hz0 hz1 hz2 HR
    go_enter Try.func74, Try.ntmps74
    go_wp2_with fail
    go_loopg [31] T (fun k u wr => ∃ j, j + k = T ∧ Hid (RefIs wr h B ⟨pad s j, false⟩) ∧ Hid (TK h B w wr))
    case atStart => exact ⟨0, by omega, H0, Lib.hid (TK.refl _ _ _)⟩
    case round =>
      obtain ⟨j, hjk, HRj, HKj⟩ := hrel
      obtain ⟨v, hcv, hown⟩ := HRj.out.c.loc
      obtain ⟨A, c, rfl, hac, hcm⟩ := own_form hown
      have hplen : (pad s j).loc.length = s.loc.length + j := by simp [pad]
      by_cases hle : s.loc.length + j ≤ p
      · have HX := Lib.hid (fun (W w1 : World) (g1 cap : Nat) (hU : Up wr W) => rset_append (W := W) (w1 := w1) (g1 := g1) (cap := cap) hU HRj.out (by rw [hplen]; omega) hcv hown)
        have HOWN := Lib.hid hown
        have hhs := HRj.out.c.hs
        have HS := Lib.hid HRj.out.c.sz
        have HPS := Lib.hid (pad_succ s j)
        rw [hplen] at hcv HOWN HX
        have hli : (((s.loc.length + j : Nat) : Int) ≤ (p : Int)) := by omega
        have HJT := Lib.hid (show j + 1 ≤ T by have := HT.out; omega)
        generalize s.loc.length + j = n at *
        clear hown hac hplen
        have HSJ := Lib.hid (show n + 1 ≤ maxLen ∧ (n + 1) * 8 ≤ 140737488355328 by unfold maxLen; omega)
        have hf5 := HRj.out.c.fz 5
        go_wp2_with (at_builtin; refine wpList_append_lies _ rfl (.tmp 29) (.tmp 30) 23 rfl B 3 i0 (.int .i64 0) 1 8 Try.underlying23 HI.out HZ0.out HZ1.out HZ2.out rfl (by decide) _ n (icells (pad s j).loc) rfl (own_up HOWN.out ((Up.refl wr).alloc _)) ⟨wr.heap.size, 0, none⟩ 1 1 [.int .i64 0] rfl rfl (cells_new wr [.int .i64 0] 3) (by intro u hu; simp at hu; subst hu; rfl) (by decide) HSJ.out.1 HSJ.out.2 (by have := HS.out; simp; omega) _ rfl ?_)
        intro g1 cap w1 hown1 hgrow hat hlt1
        obtain ⟨⟨hc3, hf3'⟩, HT0, HK0⟩ := HX.out _ _ _ _ ((Up.refl wr).alloc _) hown1 hgrow
        rw [HPS.out] at HT0
        have HTj := Lib.hid HT0
        have HKK := Lib.hid (HKj.out.trans HK0)
        clear HT0 HK0 hown1 hgrow hat hlt1 hcv hf5
        go_wp2_with fail
        go_roundg (gk - 1)
        case measure => have := HJT.out; omega
        case rel => exact ⟨j + 1, by have := HJT.out; omega, HTj, HKK⟩
      · obtain ⟨gl, c1, k1, k2, k3, k4, k5⟩ := HRj.out.store p (by rw [hplen]; omega) x
        have hjT : j = T := by have := HT.out; omega
        subst hjT
        have H4 := Lib.hid k4
        have H5 := Lib.hid (HKj.out.trans k5)
        rw [hplen] at k1
        have hle2 : ¬ ((s.loc.length + j : Nat) : Int) ≤ (p : Int) := by omega
        have hin : (p : Int) < ((s.loc.length + j : Nat) : Int) := by omega
        clear k4 k5 hown hac hcv hplen
        generalize s.loc.length + j = n at *
        generalize (pad s j).loc.getD p 0 = old at *
        go_wp2_with fail
        go_end0
        exact ⟨rfl, H4.out, H5.out⟩

end Go.Proofs.Ytpandnodeldbjaa
