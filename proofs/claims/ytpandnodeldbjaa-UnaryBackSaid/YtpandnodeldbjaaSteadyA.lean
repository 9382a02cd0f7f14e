/-
  Package steady: Read and Write, on the program's tape.
-/
import Derived.Test.YtpandnodeldbjaaDo
set_option linter.unusedVariables false
set_option linter.unusedSimpArgs false
namespace Go.Proofs.Ytpandnodeldbjaa
open Go.RowKit

/-- A register, as its seven numbers; 'b' the base, 'lo' the local. -/
def regV (k b lo n wr rd tp : Int) : Value := .agg #[.int .i64 k, .int .i64 b, .int .i64 lo, .int .i64 n, .int .i64 wr, .int .i64 rd, .int .i64 tp]
def regC (k b lo n wr rd tp : Int) : Array Value := #[.int .i64 k, .int .i64 b, .int .i64 lo, .int .i64 n, .int .i64 wr, .int .i64 rd, .int .i64 tp]
def bitI (v : Int) : Int := if v = 0 then 0 else 1
def stR (b : Int) (s : TS) : Option Int × TS := if s.acc.length < s.ans.length then (some s.told, s.asked (1, b, 0)) else (none, s.asked (1, b, 0))
def stW (b lo v : Int) (s : TS) : Option Unit × TS :=
  if s.get lo = bitI v then (some (), s) else if s.acc.length < s.ans.length then (some (), (s.asked (2, b, bitI v)).set lo (bitI v)) else (none, s.asked (2, b, bitI v))

theorem reg_box (w : World) (k b lo n wr rd tp : Int) : (w.alloc (.cells (regC k b lo n wr rd tp) 50)).heap[w.heap.size]? = some (.cells (regC k b lo n wr rd tp) 50 (0, 0)) := heap_alloc_new w _
theorem reg_cells {w : World} {h : Nat} {k b lo n wr rd tp : Int} (hb : w.heap[h]? = some (.cells (regC k b lo n wr rd tp) 50 (0, 0))) : w.cell? ⟨h, 1, none⟩ = some (.int .i64 b) ∧ w.cell? ⟨h, 2, none⟩ = some (.int .i64 lo) :=
  ⟨cell_of_row w h 1 _ _ _ hb, cell_of_row w h 2 _ _ _ hb⟩

set_option maxRecDepth 10000 in
theorem steadyR_any (k b lo n wr rd tp : Int) (g B : Nat) (s : TS) (w : World) (h : Tape1 w g B s) :
    Calls Try.prog 29 #[.pointer (some ⟨g, 0, none⟩), regV k b lo n wr rd tp] w (TPost encI g B w (stR b s)) := by
  have hU : Up w (w.alloc (.cells (regC k b lo n wr rd tp) 50)) := (Up.refl w).alloc _
  have hc := reg_cells (reg_box w k b lo n wr rd tp)
  have HT := Lib.hid (h.up hU)
  have HU := Lib.hid hU
  unfold regV
  unfold regC at *
  obtain ⟨c1, c2⟩ := hc
  obtain ⟨r, hr⟩ : ∃ r, stR b s = r := ⟨_, rfl⟩
  rw [hr]
  unfold stR at hr
  by_cases hlt : s.acc.length < s.ans.length
  · rw [if_pos hlt] at hr
    have HA := Lib.hid (read_ok g B b s _ HT.out hlt)
    have HE := Lib.hid hr
    clear h hU HT hr
    go_enter Try.func29, Try.ntmps29
    go_wp2_with fail
    refine HA.out.mono ?_
    rintro e w1 ⟨rfl, h1, k1⟩
    have H1 := Lib.hid h1
    have K1 := Lib.hid ((TK.ofUp HU.out).trans k1)
    clear h1 k1 c1 c2 HA HU
    go_wp2_with fail
    go_ret
    exact TPost.some HE.out.symm ⟨rfl, H1.out, K1.out⟩
  · rw [if_neg hlt] at hr
    have HA := Lib.hid (read_stop g B b s _ HT.out hlt)
    have HE := Lib.hid hr
    clear h hU HT hr
    go_enter Try.func29, Try.ntmps29
    go_wp2_with fail
    refine HA.out.mono ?_
    rintro e w1 ⟨rfl, h1, k1⟩
    have H1 := Lib.hid h1
    have K1 := Lib.hid ((TK.ofUp HU.out).trans k1)
    clear h1 k1 c1 c2 HA HU
    go_wp2_with fail
    exact ⟨rfl, TPost.none HE.out.symm ⟨rfl, H1.out, K1.out⟩⟩

set_option maxRecDepth 10000 in
theorem steadyW_any (k b lo n wr rd tp v : Int) (g B : Nat) (s : TS) (w : World) (h : Tape1 w g B s) :
    Calls Try.prog 30 #[.pointer (some ⟨g, 0, none⟩), regV k b lo n wr rd tp, .int .i64 v] w (TPost encU g B w (stW b lo v s)) := by
  have hU : Up w (w.alloc (.cells (regC k b lo n wr rd tp) 50)) := (Up.refl w).alloc _
  have hb := reg_box w k b lo n wr rd tp
  have hc := reg_cells hb
  have hgs := h.1.gs
  have HT := Lib.hid (h.up hU)
  have HU := Lib.hid hU
  have HG := Lib.hid (get_any g B lo s _ HT.out)
  have HKB := Lib.hid (fun (w' : World) (k' : TK g B (w.alloc (.cells (regC k b lo n wr rd tp) 50)) w') => reg_cells (k'.one hb (by omega) (.inr (by decide))))
  obtain ⟨r, hr⟩ : ∃ r, stW b lo v s = r := ⟨_, rfl⟩
  rw [hr]
  unfold stW at hr
  unfold regV
  unfold regC at *
  obtain ⟨c1, c2⟩ := hc
  obtain ⟨x, hx⟩ : ∃ x, s.get lo = x := ⟨_, rfl⟩
  rw [hx] at hr HG
  obtain ⟨u, hu⟩ : ∃ u, bitI v = u := ⟨_, rfl⟩
  rw [hu] at hr
  unfold bitI at hu
  by_cases hv : v = 0
  all_goals
    first | rw [if_pos hv] at hu | rw [if_neg hv] at hu
    have HV := Lib.hid hv
    by_cases hxu : x = u
    · rw [if_pos hxu] at hr
      subst hu
      have HE := Lib.hid hr
      clear h hU hr hb
      go_enter Try.func30, Try.ntmps30
      go_wp2_with fail
      refine HG.out.mono ?_
      rintro e w1 ⟨rfl, rfl⟩
      go_wp2_with fail
      go_end0
      exact TPost.some HE.out.symm ⟨rfl, HT.out, TK.ofUp HU.out⟩
    · rw [if_neg hxu] at hr
      have hxu2 : (x == u) = false := by rw [beq_eq_false_iff_ne]; exact hxu
      by_cases hlt : s.acc.length < s.ans.length
      · rw [if_pos hlt] at hr
        have HW := Lib.hid (write_ok g B b u s _ HT.out hlt)
        have HSE := Lib.hid (fun (w' : World) (h' : Tape1 w' g B (s.asked (2, b, u))) => set_any g B lo u _ w' h')
        subst hu
        have HE := Lib.hid hr
        clear h hU hr hb HT
        go_enter Try.func30, Try.ntmps30
        go_wp2_with fail
        refine HG.out.mono ?_
        rintro e w1 ⟨rfl, rfl⟩
        go_wp2_with fail
        refine HW.out.mono ?_
        rintro e w2 ⟨rfl, h2, k2⟩
        obtain ⟨d1, d2⟩ := HKB.out w2 k2
        have H2 := Lib.hid h2
        have K2 := Lib.hid ((TK.ofUp HU.out).trans k2)
        clear h2 k2 c1 c2 HKB HG HW HU
        go_wp2_with fail
        refine (HSE.out _ H2.out).mono ?_
        rintro e w3 ⟨rfl, h3, k3⟩
        have H3 := Lib.hid h3
        have K3 := Lib.hid (K2.out.trans k3)
        clear h3 k3 d1 d2
        go_wp2_with fail
        go_end0
        exact TPost.some HE.out.symm ⟨rfl, H3.out, K3.out⟩
      · rw [if_neg hlt] at hr
        have HW := Lib.hid (write_stop g B b u s _ HT.out hlt)
        subst hu
        have HE := Lib.hid hr
        clear h hU hr hb HT
        go_enter Try.func30, Try.ntmps30
        go_wp2_with fail
        refine HG.out.mono ?_
        rintro e w1 ⟨rfl, rfl⟩
        go_wp2_with fail
        refine HW.out.mono ?_
        rintro e w2 ⟨rfl, h2, k2⟩
        have H2 := Lib.hid h2
        have K2 := Lib.hid ((TK.ofUp HU.out).trans k2)
        clear h2 k2 c1 c2 HKB HG HW HU
        go_wp2_with fail
        exact ⟨rfl, TPost.none HE.out.symm ⟨rfl, H2.out, K2.out⟩⟩

end Go.Proofs.Ytpandnodeldbjaa
