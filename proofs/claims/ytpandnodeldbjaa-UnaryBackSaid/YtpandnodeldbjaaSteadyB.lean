/-
  The document's steady: Bit, Read and Write.
-/
import Derived.Test.YtpandnodeldbjaaSteadyA
import Derived.Test.YtpandnodeldbjaaRefDo
set_option linter.unusedVariables false
set_option linter.unusedSimpArgs false
namespace Go.Proofs.Ytpandnodeldbjaa
open Go.RowKit

def rstW (b lo v : Int) (r : RS) : RS := if r.t.get lo = bitI v then r else rSet lo (bitI v) (rAsk (2, b, bitI v) r).2

theorem bit_any (v : Int) (w : World) : Calls Try.prog 80 #[.int .i64 v] w fun e w' => e = .returned (.int .i64 (bitI v)) ∧ w' = w := by
  obtain ⟨u, hu⟩ : ∃ u, bitI v = u := ⟨_, rfl⟩
  rw [hu]
  unfold bitI at hu
  by_cases hv : v = 0
  all_goals
    first | rw [if_pos hv] at hu | rw [if_neg hv] at hu
    subst hu
    first | subst hv | have hv2 : (v == 0) = false := by rw [beq_eq_false_iff_ne]; exact hv
    go_enter Try.func80, Try.ntmps80
    go_wp2_with fail
    go_ret
    exact ⟨rfl, rfl⟩

set_option maxRecDepth 10000 in
theorem rsteadyR_any (k b lo n wr rd tp : Int) (h B : Nat) (r : RS) (w : World) (R : RefIs w h B r) :
    Calls Try.prog 31 #[.pointer (some ⟨h, 0, none⟩), regV k b lo n wr rd tp] w (RPost (.int .i64 (rAsk (1, b, 0) r).1) h B w (rAsk (1, b, 0) r).2) := by
  have hU : Up w (w.alloc (.cells (regC k b lo n wr rd tp) 50)) := (Up.refl w).alloc _
  have hc := reg_cells (reg_box w k b lo n wr rd tp)
  have HA := Lib.hid (rread_any h B b r _ (R.up hU))
  have HU := Lib.hid hU
  obtain ⟨p, hp⟩ : ∃ p, rAsk (1, b, 0) r = p := ⟨_, rfl⟩
  rw [hp] at HA ⊢
  unfold regV
  unfold regC at *
  obtain ⟨c1, c2⟩ := hc
  clear R hU hp
  go_enter Try.func31, Try.ntmps31
  go_wp2_with fail
  refine HA.out.mono ?_
  rintro e w1 ⟨rfl, h1, k1⟩
  have H1 := Lib.hid h1
  have K1 := Lib.hid ((TK.ofUp HU.out).trans k1)
  clear h1 k1 c1 c2 HA HU
  go_wp2_with fail
  go_ret
  exact ⟨rfl, H1.out, K1.out⟩

set_option maxRecDepth 10000 in
theorem rsteadyW_any (k b lo n wr rd tp v : Int) (h B : Nat) (r : RS) (w : World) (R : RefIs w h B r) :
    Calls Try.prog 32 #[.pointer (some ⟨h, 0, none⟩), regV k b lo n wr rd tp, .int .i64 v] w (RPost (.tuple #[]) h B w (rstW b lo v r)) := by
  have hU : Up w (w.alloc (.cells (regC k b lo n wr rd tp) 50)) := (Up.refl w).alloc _
  have hb := reg_box w k b lo n wr rd tp
  have hc := reg_cells hb
  have hgs := R.c.hs
  have HR := Lib.hid (R.up hU)
  have HU := Lib.hid hU
  have HB := Lib.hid (fun W => bit_any v W)
  have HG := Lib.hid (rget_any h B lo r _ HR.out)
  have HKB := Lib.hid (fun (w' : World) (k' : TK h B (w.alloc (.cells (regC k b lo n wr rd tp) 50)) w') => reg_cells (k'.one hb (by omega) (.inr (by decide))))
  obtain ⟨q, hq⟩ : ∃ q, rstW b lo v r = q := ⟨_, rfl⟩
  rw [hq]
  unfold rstW at hq
  unfold regV
  unfold regC at *
  obtain ⟨c1, c2⟩ := hc
  obtain ⟨x, hx⟩ : ∃ x, r.t.get lo = x := ⟨_, rfl⟩
  rw [hx] at hq HG
  obtain ⟨u, hu⟩ : ∃ u, bitI v = u := ⟨_, rfl⟩
  rw [hu] at hq HB
  by_cases hxu : x = u
  · rw [if_pos hxu] at hq
    subst hxu hq
    clear R hU hb hu
    go_enter Try.func32, Try.ntmps32
    go_wp2_with fail
    refine (HB.out _).mono ?_
    rintro e w1 ⟨rfl, rfl⟩
    go_wp2_with fail
    refine HG.out.mono ?_
    rintro e w1 ⟨rfl, rfl⟩
    go_wp2_with fail
    go_end0
    exact ⟨rfl, HR.out, TK.ofUp HU.out⟩
  · rw [if_neg hxu] at hq
    have hxu2 : (x == u) = false := by rw [beq_eq_false_iff_ne]; exact hxu
    have HW := Lib.hid (rwrite_any h B b u r _ HR.out)
    have HSE := Lib.hid (fun (w' : World) (h' : RefIs w' h B (rAsk (2, b, u) r).2) => rset_any h B lo u _ w' h')
    subst hq
    obtain ⟨p, hp⟩ : ∃ p, rAsk (2, b, u) r = p := ⟨_, rfl⟩
    rw [hp] at HW HSE ⊢
    clear R hU hb hu hp
    go_enter Try.func32, Try.ntmps32
    go_wp2_with fail
    refine (HB.out _).mono ?_
    rintro e w1 ⟨rfl, rfl⟩
    go_wp2_with fail
    refine HG.out.mono ?_
    rintro e w1 ⟨rfl, rfl⟩
    go_wp2_with fail
    refine HW.out.mono ?_
    rintro e w2 ⟨rfl, h2, k2⟩
    obtain ⟨d1, d2⟩ := HKB.out w2 k2
    have H2 := Lib.hid h2
    have K2 := Lib.hid ((TK.ofUp HU.out).trans k2)
    clear h2 k2 c1 c2 HKB HG HW HU
    go_wp2_with fail
    refine (HSE.out _ H2.out).mono ?_
    rintro e w3 ⟨rfl, h3, k3⟩
    have H3 := Lib.hid h3
    have K3 := Lib.hid (K2.out.trans k3)
    clear h3 k3 d1 d2
    go_wp2_with fail
    go_end0
    exact ⟨rfl, H3.out, K3.out⟩

end Go.Proofs.Ytpandnodeldbjaa
