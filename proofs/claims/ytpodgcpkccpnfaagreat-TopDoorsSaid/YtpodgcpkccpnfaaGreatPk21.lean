/-
  Parts of a proof, packed: AudF, LibA, LibB, LibC
-/
import Derived.Deep.RegionLaw
import Derived.Deep.RegionHeld3
import Derived.Test.YtpodgcpkccpnfaaGreatPk01
import Derived.Test.YtpodgcpkccpnfaaGreatPk07
import Derived.Test.YtpodgcpkccpnfaaGreatPk20
set_option linter.unusedVariables false
set_option linter.unusedSimpArgs false
set_option maxRecDepth 20000
set_option maxHeartbeats 16000000
namespace Go.Proofs.YtpodgcpkccpnfaaGreat
open Go.RowKit
theorem cells_setCell {w : World} {b : Nat} {cs : Array Value} {t : TypeId} {fr : Nat × Nat} (h : w.heap[b]? = some (.cells cs t fr)) (j : Nat) (u : Value) : (w.setCell ⟨b, j, none⟩ u).heap[b]? = some (.cells (cs.setIfInBounds j u) t fr) := by
 have hlt := (Array.getElem?_eq_some_iff.1 h).1
 have h' : w.heap[b] = .cells cs t fr := by simpa [Array.getElem?_eq_getElem hlt] using h
 show (w.heap.modify b _)[b]? = _
 rw [Array.getElem?_eq_getElem (by simpa using hlt), Array.getElem_modify_self, h']
 rfl
theorem results_cell2 {P : Program} {fn : Func} {p u : Tmp} {ty : TypeId} (h : fn.results = #[.cell p ty, .tmp u]) (tmps : Array Value) (w : World) (g : Nat) (t : TypeId) (cs : Array Value) (fr : Nat × Nat) (d : TypeDesc)
 (hp : tmps.getD p undef = .pointer (some ⟨g, 0, none⟩)) (hg : w.heap[g]? = some (.cells cs t fr))
 (hu : P.underlying ty = some d) (hd : (match d with | .struct _ | .array _ _ => true | _ => false) = true) (hi : (P.info? ty).map (·.size) = some cs.size) :
 (results fn tmps).run P w = .ok (.tuple #[.agg cs, tmps.getD u undef]) w := by
 rw [results_cell_tmp h, hp]
 simp [asAddr, Result.andThen, run_loadVar_row w g t ty cs fr d hg hu hd hi]
def thingV (t : ThingD) : Value := .agg #[.int .i64 t.kind, .int .i64 t.alg, .int .i64 t.mode, .int .i64 t.room, .int .i64 t.arg, .int .i64 t.writer, .int .i64 t.reader, .int .i64 t.top]
theorem thing_any {sc : ScD} {a : ScA} (i : Nat) (w : World) (hs : ScrAt w sc a) (hi : i < sc.things.length) :
 Calls Tryz.prog 40 #[.agg #[.slice a.TA sc.things.length a.tc, .slice a.PA sc.progs.length a.pc, .slice a.KA sc.picks.length a.kc, .slice a.DA sc.draws.length a.dc], .int .i64 i] w fun e w' => e = .returned (thingV (sc.things.getD i thing0)) ∧ Up w w' := by
 have HB0 : Hid (BoxS w (w.alloc (.cells (scrA sc a) 27)) (scrA sc a)) := hQ' ⟨Up.refl _⟩
 obtain ⟨b, off, eA, ⟨x0, x1, x2, x3⟩, x4, x5, x6, x7⟩ := (hs.up HB0.out.w).th i hi
 have c0 := HB0.out.cell 0
 have hii : (i : Int) < sc.things.length := by omega
 have hi0 : (0 : Int) ≤ i := by omega
 obtain ⟨tn, htn⟩ : ∃ n, sc.things.length = n := ⟨_, rfl⟩
 obtain ⟨p, hp⟩ : ∃ p, sc.things.getD i thing0 = p := ⟨_, rfl⟩
 rw [hp] at x0 x1 x2 x3 x4 x5 x6 x7 ⊢
 unfold scrA at c0 x0 x1 x2 x3 x4 x5 x6 x7 HB0
 simp only [gA_T, gA_0, gA_S] at c0
 rw [eA] at c0 x0 x1 x2 x3 x4 x5 x6 x7 HB0 ⊢
 obtain ⟨W0, hW0⟩ : ∃ x, w.alloc (.cells #[.slice (some ⟨b, off, none⟩) sc.things.length a.tc, .slice a.PA sc.progs.length a.pc, .slice a.KA sc.picks.length a.kc, .slice a.DA sc.draws.length a.dc] 27) = x := ⟨_, rfl⟩
 rw [hW0] at c0 x0 x1 x2 x3 x4 x5 x6 x7 HB0
 have HU := hQ' HB0.out.w
 have hz := heap_alloc_new W0 (.cells #[.int .i64 0, .int .i64 0, .int .i64 0, .int .i64 0, .int .i64 0, .int .i64 0, .int .i64 0, .int .i64 0] 46)
 have hu1 := (Up.refl W0).alloc (.cells #[.int .i64 0, .int .i64 0, .int .i64 0, .int .i64 0, .int .i64 0, .int .i64 0, .int .i64 0, .int .i64 0] 46)
 obtain ⟨W1, hW1⟩ : ∃ x, W0.alloc (.cells #[.int .i64 0, .int .i64 0, .int .i64 0, .int .i64 0, .int .i64 0, .int .i64 0, .int .i64 0, .int .i64 0] 46) = x := ⟨_, rfl⟩
 rw [hW1] at hz hu1
 have c0 := (hu1.cell (cell_lt c0)).trans c0
 have hl := cell_lt x0
 have x0 := (hu1.cell hl).trans x0
 have x1 := (hu1.cell hl).trans x1
 have x2 := (hu1.cell hl).trans x2
 have x3 := (hu1.cell hl).trans x3
 have x4 := (hu1.cell hl).trans x4
 have x5 := (hu1.cell hl).trans x5
 have x6 := (hu1.cell hl).trans x6
 have x7 := (hu1.cell hl).trans x7
 have HZ := hQ' hz
 have HU1 := hQ' hu1
 have z0 := cell_of_row W1 W0.heap.size 0 _ _ _ hz
 have f0 := frozen_of_row W1 W0.heap.size 0 _ _ hz
 have z1 := cell_of_row W1 W0.heap.size 1 _ _ _ hz
 have f1 := frozen_of_row W1 W0.heap.size 1 _ _ hz
 have z2 := cell_of_row W1 W0.heap.size 2 _ _ _ hz
 have f2 := frozen_of_row W1 W0.heap.size 2 _ _ hz
 have z3 := cell_of_row W1 W0.heap.size 3 _ _ _ hz
 have f3 := frozen_of_row W1 W0.heap.size 3 _ _ hz
 have z4 := cell_of_row W1 W0.heap.size 4 _ _ _ hz
 have f4 := frozen_of_row W1 W0.heap.size 4 _ _ hz
 have z5 := cell_of_row W1 W0.heap.size 5 _ _ _ hz
 have f5 := frozen_of_row W1 W0.heap.size 5 _ _ hz
 have z6 := cell_of_row W1 W0.heap.size 6 _ _ _ hz
 have f6 := frozen_of_row W1 W0.heap.size 6 _ _ hz
 have z7 := cell_of_row W1 W0.heap.size 7 _ _ _ hz
 have f7 := frozen_of_row W1 W0.heap.size 7 _ _ hz
 simp only [gA_T, gA_0, gA_S] at z0 z1 z2 z3 z4 z5 z6 z7
 clear hu1 hl
 obtain ⟨y0, y1, y2, y3, y4, y5, y6, y7⟩ := p
 unfold thingV
 dsimp only at x0 x1 x2 x3 x4 x5 x6 x7 ⊢
 clear hs HB0 hp htn hi
 go_enter Tryz.func40, Tryz.ntmps40
 have HGE := hQ' (show w.heap.size ≤ W0.heap.size from HU.out.size)
 have HUA := hQ' (HU.out.trans HU1.out)
 have HFB := hQ' (cells_setCell (cells_setCell (cells_setCell (cells_setCell (cells_setCell (cells_setCell (cells_setCell (cells_setCell hz 0 (.int .i64 y0)) 1 (.int .i64 y1)) 2 (.int .i64 y2)) 3 (.int .i64 y3)) 4 (.int .i64 y4)) 5 (.int .i64 y5)) 6 (.int .i64 y6)) 7 (.int .i64 y7))
 clear HU HU1 hz
 go_wp2_with fail
 refine bodyPost_ret (v := .agg #[.int .i64 y0, .int .i64 y1, .int .i64 y2, .int .i64 y3, .int .i64 y4, .int .i64 y5, .int .i64 y6, .int .i64 y7]) ?_ rfl ⟨rfl, ?_⟩
 · exact results_cell_row rfl _ _ W0.heap.size 46 _ _ _ rfl HFB.out Tryz.underlying46 rfl (by kernel_rfl)
 · repeat (refine Below.setCell (p := ⟨W0.heap.size, _, none⟩) ?_ HGE.out _)
   exact HUA.out
end Go.Proofs.YtpodgcpkccpnfaaGreat

namespace Go.Proofs.YtpodgcpkccpnfaaGreat
open Go.RowKit
def stripL (s : SD) : List Value := [.int .i64 s.many, .int .i64 s.kind, .int .i64 s.top]
def StrRow (w : World) (q : Nat) (lv : Value) (l : List SD) : Prop := w.ownsRow q 152 3 lv l.length (l.flatMap stripL)
theorem StrRow.at' {w : World} {q : Nat} {lv : Value} {l : List SD} (h : StrRow w q lv l) : ∃ A c, lv = .slice A l.length c ∧ StripRow w A l := by
 obtain ⟨A, c, rfl, _⟩ := own_form h
 refine ⟨A, c, rfl, fun i hi => ?_⟩
 obtain ⟨b, cap, e, _, hc⟩ := own_flat sd0 h (fun _ => rfl) hi
 cases e
 exact ⟨b, 0, rfl, hc 0 (by decide), hc 1 (by decide), hc 2 (by decide)⟩
theorem StrRow.up {w w' : World} {q : Nat} {lv : Value} {l : List SD} (h : StrRow w q lv l) (u : Up w w') : StrRow w' q lv l := own_same h fun k e => u.block k (World.ownsRow.lt h k e).2
theorem str_new (w : World) (l : List SD) (hl : l.length ≤ 1000) : StrRow (w.alloc (.cells (l.flatMap stripL).toArray 152)) w.heap.size (.slice (some ⟨w.heap.size, 0, none⟩) l.length l.length) l := by
 have hs : ∀ l : List SD, (l.flatMap stripL).length = l.length * 3 := fun l => by
  induction l with
  | nil => rfl
  | cons a l ih => rw [List.flatMap_cons, List.length_append, ih]; simp [stripL]; omega
 exact ⟨hs l, .inr ⟨w.heap.size, l.length, (l.flatMap stripL).toArray, rfl, Nat.le_refl _, heap_alloc_new w _, Nat.le_refl _, by unfold maxLen; omega, by simp [hs], by rw [List.take_of_length_le]; simp [hs]⟩⟩
def manyL : List SD → Int
 | [] => 0
 | s :: l => s.many + manyL l
theorem manyL_take (l : List SD) {i : Nat} (h : i < l.length) : manyL (l.take (i + 1)) = manyL (l.take i) + (l.getD i sd0).many := by
 induction l generalizing i with
 | nil => simp at h
 | cons p l ih =>
  cases i with
  | zero => simp [manyL]
  | succ i =>
   rw [List.take_succ_cons, List.take_succ_cons]
   show p.many + manyL (l.take (i + 1)) = p.many + manyL (l.take i) + _
   rw [ih (by simpa using h)]
   simp; omega
theorem manyL_in {l : List SD} (h : ∀ i, i < l.length → 0 ≤ (l.getD i sd0).many ∧ (l.getD i sd0).many ≤ 1000) (i : Nat) : i ≤ l.length → 0 ≤ manyL (l.take i) ∧ manyL (l.take i) ≤ 1000 * i := by
 induction i with
 | zero => intro _; simp [manyL]
 | succ i ih =>
  intro hi
  have := ih (by omega)
  have := h i (by omega)
  rw [manyL_take l (by omega)]
  omega
theorem lockCount_any (l : List SD) (A : Option Addr) (c : Nat) (w : World) (hl : l.length ≤ 1000) (hr : StripRow w A l) (hm : ∀ i, i < l.length → 0 ≤ (l.getD i sd0).many ∧ (l.getD i sd0).many ≤ 1000) :
 Calls Tryz.prog 330 #[.slice A l.length c] w fun e w' => e = .returned (.int .i64 (manyL l)) ∧ Up w w' := by
 have HR := hQ' hr
 have HI := hQ' (fun i h => manyL_in hm i h)
 have HM := hQ' hm
 have HTK := hQ' (fun i (h : i < l.length) => manyL_take l h)
 have HT := hQ' (show manyL (l.take l.length) = manyL l by rw [List.take_length])
 have HU0 := hQ' (Up.refl w)
 clear hr hm
 go_enter Tryz.func330, Tryz.ntmps330
 go_wp2_with fail
 go_loopw [3, 8] (fun s x wr => ∃ i : Nat, i ≤ l.length ∧ x = .int .i64 i ∧ s = .int .i64 (manyL (l.take i)) ∧ Hid (Up w wr)) (fun _ x _ => l.length - (intOf x).toNat)
 case atStart => exact ⟨0, by omega, rfl, rfl, HU0⟩
 case round =>
  obtain ⟨i, hi, rfl, rfl, HV⟩ := hrel
  by_cases hlt : i < l.length
  · have hii : (i : Int) < l.length := by omega
    have hi0 : (0 : Int) ≤ i := by omega
    have hi4 : (i : Int) < 1000 := by omega
    obtain ⟨b, off, eA, x0, x1, x2⟩ := (HR.out.up HV.out) i hlt
    have hst := HTK.out i hlt
    have hn0 := HI.out i hi
    have hpk := HM.out i hlt
    generalize manyL (l.take i) = T at *
    generalize l.getD i sd0 = p at *
    obtain ⟨pm, pk, pt⟩ := p
    dsimp only at x0 x1 x2 hst hpk
    have e3 : wrap64 (T + pm) = T + pm := IntWalk.wrap64_in _ (by omega)
    rw [eA]
    have HUA := hQ' (HV.out.trans ((Up.refl wr).alloc (.cells #[.int .i64 pm, .int .i64 pk, .int .i64 pt] 152)))
    have hb := heap_alloc_new wr (.cells #[.int .i64 pm, .int .i64 pk, .int .i64 pt] 152)
    have y0 := cell_of_row _ _ 0 _ _ _ hb
    simp only [gA_T, gA_0, gA_S] at y0
    have HX := hQ' (And.intro hst (And.intro hlt hi))
    clear hst hn0 hpk hlt hb
    go_wp2_with fail
    go_roundw
    case rel => exact ⟨i + 1, HX.out.2.1, by first | rfl | go_num, by rw [HX.out.1, e3], HUA⟩
    case measure => have := HX.out.2.1; simp [intOf]; omega
  · have hie : i = l.length := by omega
    subst hie
    have hnl : ¬ ((l.length : Int) < l.length) := by omega
    have HVE := hQ' HV.out
    clear HV
    go_wp2_with fail
    go_ret
    exact ⟨by first | rfl | rw [HT.out], HVE.out⟩
theorem libCount_any (l : List SD) (A : Option Addr) (c : Nat) (w : World) (hl : l.length ≤ 1000) (hr : StripRow w A l) (hm : ∀ i, i < l.length → 0 ≤ (l.getD i sd0).many ∧ (l.getD i sd0).many ≤ 1000) :
 Calls Tryz.prog 76 #[.slice A l.length c] w fun e w' => e = .returned (.int .i64 (manyL l)) ∧ Up w w' := by
 have HR := hQ' hr
 have HI := hQ' (fun i h => manyL_in hm i h)
 have HM := hQ' hm
 have HTK := hQ' (fun i (h : i < l.length) => manyL_take l h)
 have HT := hQ' (show manyL (l.take l.length) = manyL l by rw [List.take_length])
 have HU0 := hQ' (Up.refl w)
 clear hr hm
 go_enter Tryz.func76, Tryz.ntmps76
 go_wp2_with fail
 go_loopw [3, 8] (fun s x wr => ∃ i : Nat, i ≤ l.length ∧ x = .int .i64 i ∧ s = .int .i64 (manyL (l.take i)) ∧ Hid (Up w wr)) (fun _ x _ => l.length - (intOf x).toNat)
 case atStart => exact ⟨0, by omega, rfl, rfl, HU0⟩
 case round =>
  obtain ⟨i, hi, rfl, rfl, HV⟩ := hrel
  by_cases hlt : i < l.length
  · have hii : (i : Int) < l.length := by omega
    have hi0 : (0 : Int) ≤ i := by omega
    have hi4 : (i : Int) < 1000 := by omega
    obtain ⟨b, off, eA, x0, x1, x2⟩ := (HR.out.up HV.out) i hlt
    have hst := HTK.out i hlt
    have hn0 := HI.out i hi
    have hpk := HM.out i hlt
    generalize manyL (l.take i) = T at *
    generalize l.getD i sd0 = p at *
    obtain ⟨pm, pk, pt⟩ := p
    dsimp only at x0 x1 x2 hst hpk
    have e3 : wrap64 (T + pm) = T + pm := IntWalk.wrap64_in _ (by omega)
    rw [eA]
    have HUA := hQ' (HV.out.trans ((Up.refl wr).alloc (.cells #[.int .i64 pm, .int .i64 pk, .int .i64 pt] 152)))
    have hb := heap_alloc_new wr (.cells #[.int .i64 pm, .int .i64 pk, .int .i64 pt] 152)
    have y0 := cell_of_row _ _ 0 _ _ _ hb
    simp only [gA_T, gA_0, gA_S] at y0
    have HX := hQ' (And.intro hst (And.intro hlt hi))
    clear hst hn0 hpk hlt hb
    go_wp2_with fail
    go_roundw
    case rel => exact ⟨i + 1, HX.out.2.1, by first | rfl | go_num, by rw [HX.out.1, e3], HUA⟩
    case measure => have := HX.out.2.1; simp [intOf]; omega
  · have hie : i = l.length := by omega
    subst hie
    have hnl : ¬ ((l.length : Int) < l.length) := by omega
    have HVE := hQ' HV.out
    clear HV
    go_wp2_with fail
    go_ret
    exact ⟨by first | rfl | rw [HT.out], HVE.out⟩
end Go.Proofs.YtpodgcpkccpnfaaGreat

namespace Go.Proofs.YtpodgcpkccpnfaaGreat
open Go.RowKit
def lkStrips (alg : Int) (n room : Int) : List SD := if alg = 1 then [⟨n, 1, 1⟩, ⟨n, 1, room⟩] else [⟨n, 1, 1⟩]
def lkCells (alg : Int) (n : Int) : Int := if alg = 1 then 2 * n else n
def lkLocs (alg : Int) : Int := if alg = 1 then 1 else 0
structure BoxL (w0 wr : World) (b : Nat) (alg n mode base loc room : Int) : Prop where
 up : Up w0 wr
 blk : wr.heap[b]? = some (.cells #[.int .i64 alg, .int .i64 n, .int .i64 mode, .int .i64 base, .int .i64 loc, .int .i64 room] 128 (0, 0))
theorem BoxL.go {w0 w w' : World} {b : Nat} {alg n mode base loc room : Int} (h : BoxL w0 w b alg n mode base loc room) (u : Up w w') : BoxL w0 w' b alg n mode base loc room := ⟨h.up.trans u, (u.block b (Array.getElem?_eq_some_iff.1 h.blk).1).trans h.blk⟩
theorem BoxL.new {w0 w : World} (u : Up w0 w) (alg n mode base loc room : Int) : BoxL w0 (w.alloc (.cells #[.int .i64 alg, .int .i64 n, .int .i64 mode, .int .i64 base, .int .i64 loc, .int .i64 room] 128)) w.heap.size alg n mode base loc room := ⟨u.trans ((Up.refl w).alloc _), heap_alloc_new w _⟩
theorem BoxL.cells {w0 w : World} {b : Nat} {alg n mode base loc room : Int} (h : BoxL w0 w b alg n mode base loc room) :
 w.cell? ⟨b, 0, none⟩ = some (.int .i64 alg) ∧ w.cell? ⟨b, 1, none⟩ = some (.int .i64 n) ∧ w.cell? ⟨b, 2, none⟩ = some (.int .i64 mode) ∧ w.cell? ⟨b, 3, none⟩ = some (.int .i64 base) ∧ w.cell? ⟨b, 4, none⟩ = some (.int .i64 loc) ∧ w.cell? ⟨b, 5, none⟩ = some (.int .i64 room) :=
 ⟨cell_of_row _ _ 0 _ _ _ h.blk, cell_of_row _ _ 1 _ _ _ h.blk, cell_of_row _ _ 2 _ _ _ h.blk, cell_of_row _ _ 3 _ _ _ h.blk, cell_of_row _ _ 4 _ _ _ h.blk, cell_of_row _ _ 5 _ _ _ h.blk⟩
theorem bakStrips_any (alg n mode base loc room : Int) (w : World) (hn : 1 ≤ n ∧ n ≤ 8) (hr : 1 ≤ room ∧ room ≤ 1048576) :
 Calls Tryz.prog 331 #[.agg #[.int .i64 alg, .int .i64 n, .int .i64 mode, .int .i64 base, .int .i64 loc, .int .i64 room]] w fun e w' => (∃ v, e = .returned v ∧ StrRow w' w.heap.size v [⟨n, 1, 1⟩, ⟨n, 1, room⟩]) ∧ Up w w' := by
 have HB := hQ' (BoxL.new (Up.refl w) alg n mode base loc room)
 have HS := hQ' (fun W => bsizes_any n room alg mode base loc W hn hr)
 obtain ⟨c0, c1, c2, c3, c4, c5⟩ := HB.out.cells
 clear hn hr
 go_enter Tryz.func331, Tryz.ntmps331
 go_wp2_with fail
 refine (HS.out _).mono ?_
 rintro e w1 ⟨rfl, hu1⟩
 have HB1 := hQ' (HB.out.go hu1)
 clear hu1 c0 c1 c2 c3 c4 c5
 go_wp2_with fail
 have HR := hQ' (str_new w1 [⟨n, 1, 1⟩, ⟨n, 1, room⟩] (by simp))
 go_ret
 exact ⟨⟨_, rfl, own_base HR.out HB1.out.up.size⟩, HB1.out.up.trans ((Up.refl w1).alloc _)⟩
theorem oneStrips_any (alg n mode base loc room : Int) (w : World) (hn : 1 ≤ n ∧ n ≤ 8) :
 Calls Tryz.prog 340 #[.agg #[.int .i64 alg, .int .i64 n, .int .i64 mode, .int .i64 base, .int .i64 loc, .int .i64 room]] w fun e w' => (∃ v, e = .returned v ∧ StrRow w' w.heap.size v [⟨n, 1, 1⟩]) ∧ Up w w' := by
 have HB := hQ' (BoxL.new (Up.refl w) alg n mode base loc room)
 have HS := hQ' (fun W => othreads_any n alg mode base loc room W hn)
 obtain ⟨c0, c1, c2, c3, c4, c5⟩ := HB.out.cells
 clear hn
 go_enter Tryz.func340, Tryz.ntmps340
 go_wp2_with fail
 refine (HS.out _).mono ?_
 rintro e w1 ⟨rfl, hu1⟩
 have HB1 := hQ' (HB.out.go hu1)
 clear hu1 c0 c1 c2 c3 c4 c5
 go_wp2_with fail
 have HR := hQ' (str_new w1 [⟨n, 1, 1⟩] (by simp))
 go_ret
 exact ⟨⟨_, rfl, own_base HR.out HB1.out.up.size⟩, HB1.out.up.trans ((Up.refl w1).alloc _)⟩
theorem bakLocals_any (alg n mode base loc room : Int) (w : World) : Calls Tryz.prog 332 #[.agg #[.int .i64 alg, .int .i64 n, .int .i64 mode, .int .i64 base, .int .i64 loc, .int .i64 room]] w fun e w' => e = .returned (.int .i64 1) ∧ Up w w' := by
 go_enter Tryz.func332, Tryz.ntmps332
 go_wp2_with fail
 go_ret
 exact ⟨rfl, (Up.refl _).alloc _⟩
theorem mStr1 (alg n mode base loc room : Int) (w : World) (hn : 1 ≤ n ∧ n ≤ 8) (hr : 1 ≤ room ∧ room ≤ 1048576) :
 Calls Tryz.prog 327 #[.agg #[], .agg #[.int .i64 alg, .int .i64 n, .int .i64 mode, .int .i64 base, .int .i64 loc, .int .i64 room]] w fun e w' => (∃ v, e = .returned v ∧ StrRow w' w.heap.size v [⟨n, 1, 1⟩, ⟨n, 1, room⟩]) ∧ Up w w' := by
 have HB := hQ' (BoxL.new ((Up.refl w).alloc (.cells #[] 241)) alg n mode base loc room)
 have HS := hQ' (fun W => bakStrips_any alg n mode base loc room W hn hr)
 obtain ⟨c0, c1, c2, c3, c4, c5⟩ := HB.out.cells
 rw [World.size_alloc] at c0 c1 c2 c3 c4 c5
 clear hn hr
 go_enter Tryz.func327, Tryz.ntmps327
 go_wp2_with fail
 refine (HS.out _).mono ?_
 rintro e w1 ⟨⟨v, rfl, hv⟩, hu1⟩
 have HV := hQ' (own_base hv HB.out.up.size)
 have HB1 := hQ' (HB.out.go hu1).up
 clear hu1 c0 c1 c2 c3 c4 c5 hv
 go_wp2_with fail
 go_ret
 exact ⟨⟨_, rfl, HV.out⟩, HB1.out⟩
theorem mStr2 (alg n mode base loc room : Int) (w : World) (hn : 1 ≤ n ∧ n ≤ 8) :
 Calls Tryz.prog 337 #[.agg #[], .agg #[.int .i64 alg, .int .i64 n, .int .i64 mode, .int .i64 base, .int .i64 loc, .int .i64 room]] w fun e w' => (∃ v, e = .returned v ∧ StrRow w' w.heap.size v [⟨n, 1, 1⟩]) ∧ Up w w' := by
 have HB := hQ' (BoxL.new ((Up.refl w).alloc (.cells #[] 242)) alg n mode base loc room)
 have HS := hQ' (fun W => oneStrips_any alg n mode base loc room W hn)
 obtain ⟨c0, c1, c2, c3, c4, c5⟩ := HB.out.cells
 rw [World.size_alloc] at c0 c1 c2 c3 c4 c5
 clear hn
 go_enter Tryz.func337, Tryz.ntmps337
 go_wp2_with fail
 refine (HS.out _).mono ?_
 rintro e w1 ⟨⟨v, rfl, hv⟩, hu1⟩
 have HV := hQ' (own_base hv HB.out.up.size)
 have HB1 := hQ' (HB.out.go hu1).up
 clear hu1 c0 c1 c2 c3 c4 c5 hv
 go_wp2_with fail
 go_ret
 exact ⟨⟨_, rfl, HV.out⟩, HB1.out⟩
theorem mSize2 (alg n mode base loc room : Int) (w : World) (hn : 1 ≤ n ∧ n ≤ 8) :
 Calls Tryz.prog 336 #[.agg #[], .agg #[.int .i64 alg, .int .i64 n, .int .i64 mode, .int .i64 base, .int .i64 loc, .int .i64 room]] w fun e w' => e = .returned (.tuple #[.int .i64 n, .int .i64 0, .bool true]) ∧ Up w w' := by
 have HB := hQ' (BoxL.new ((Up.refl w).alloc (.cells #[] 242)) alg n mode base loc room)
 have HS := hQ' (fun W => oneStrips_any alg n mode base loc room W hn)
 have HC := hQ' (fun (W : World) (A : Option Addr) (c : Nat) (h : StripRow W A [⟨n, 1, 1⟩]) => show Calls Tryz.prog 330 #[.slice A 1 c] W (fun e w' => e = .returned (.int .i64 n) ∧ Up W w') from by
  have := lockCount_any [⟨n, 1, 1⟩] A c W (by simp) h (fun i hi => by
   obtain rfl : i = 0 := by simpa using hi
   show 0 ≤ n ∧ n ≤ 1000; omega)
  rwa [show manyL [⟨n, 1, 1⟩] = n by simp [manyL]] at this)
 obtain ⟨c0, c1, c2, c3, c4, c5⟩ := HB.out.cells
 rw [World.size_alloc] at c0 c1 c2 c3 c4 c5
 clear hn
 go_enter Tryz.func336, Tryz.ntmps336
 go_wp2_with fail
 refine (HS.out _).mono ?_
 rintro e w1 ⟨⟨v, rfl, hv⟩, hu1⟩
 obtain ⟨A, c, rfl, hat⟩ := hv.at'
 have HAT := hQ' hat
 have HB1 := hQ' (HB.out.go hu1).up
 clear hu1 c0 c1 c2 c3 c4 c5 hv hat
 go_wp2_with fail
 refine (HC.out _ _ _ HAT.out).mono ?_
 rintro e w2 ⟨rfl, hu2⟩
 have HB2 := hQ' (HB1.out.trans hu2)
 clear hu2 HAT
 go_wp2_with fail
 go_ret3
 exact ⟨rfl, HB2.out⟩
theorem mSize1 (alg n mode base loc room : Int) (w : World) (hn : 1 ≤ n ∧ n ≤ 8) (hr : 1 ≤ room ∧ room ≤ 1048576) :
 Calls Tryz.prog 326 #[.agg #[], .agg #[.int .i64 alg, .int .i64 n, .int .i64 mode, .int .i64 base, .int .i64 loc, .int .i64 room]] w fun e w' => e = .returned (.tuple #[.int .i64 (2 * n), .int .i64 1, .bool true]) ∧ Up w w' := by
 have HB := hQ' (BoxL.new ((Up.refl w).alloc (.cells #[] 241)) alg n mode base loc room)
 have HS := hQ' (fun W => bakStrips_any alg n mode base loc room W hn hr)
 have HLO := hQ' (fun W => bakLocals_any alg n mode base loc room W)
 have HC := hQ' (fun (W : World) (A : Option Addr) (c : Nat) (h : StripRow W A [⟨n, 1, 1⟩, ⟨n, 1, room⟩]) => show Calls Tryz.prog 330 #[.slice A 2 c] W (fun e w' => e = .returned (.int .i64 (2 * n)) ∧ Up W w') from by
  have := lockCount_any [⟨n, 1, 1⟩, ⟨n, 1, room⟩] A c W (by simp) h (fun i hi => by
   match i, hi with
   | 0, _ => show 0 ≤ n ∧ n ≤ 1000; omega
   | 1, _ => show 0 ≤ n ∧ n ≤ 1000; omega)
  rwa [show manyL [⟨n, 1, 1⟩, ⟨n, 1, room⟩] = 2 * n by simp [manyL]; omega] at this)
 rw [World.size_alloc] at HB
 obtain ⟨b, hb⟩ : ∃ b, w.heap.size + 1 = b := ⟨_, rfl⟩
 rw [hb] at HB
 clear hn hr
 go_enter Tryz.func326, Tryz.ntmps326
 go_wp2_with fail
 try rw [hb]
 generalize (w.alloc (.cells #[] 241)).alloc (.cells #[.int .i64 alg, .int .i64 n, .int .i64 mode, .int .i64 base, .int .i64 loc, .int .i64 room] 128) = W0 at *
 clear hb
 have HB0 := hQ' (HB.out.go (Up.refl W0).drew)
 refine wp_region_held_drew (S := fun W => W.cell? ⟨b, 0, none⟩ = some (.int .i64 alg) ∧ W.cell? ⟨b, 1, none⟩ = some (.int .i64 n) ∧ W.cell? ⟨b, 2, none⟩ = some (.int .i64 mode) ∧ W.cell? ⟨b, 3, none⟩ = some (.int .i64 base) ∧ W.cell? ⟨b, 4, none⟩ = some (.int .i64 loc) ∧ W.cell? ⟨b, 5, none⟩ = some (.int .i64 room)) (by kernel_rfl) HB0.out.cells (fun hS0 => ?_)
 refine tkE 0 ?_ rfl (by kernel_rfl) (fun _ _ _ h => h) hS0 ?_ ?_
 rotate_left
 · intro w hSw
   try dsimp only at hSw
   go_simp
   try (with_reducible rfl)
 try simp only [Act.put, sC_I, sC_0, sC_1]
 refine tkE 3 ?_ rfl (by kernel_rfl) (fun _ _ _ h => h) hS0 ?_ ?_
 rotate_left
 · intro w hSw
   try dsimp only at hSw
   go_simp
   try (with_reducible rfl)
 try simp only [Act.put, sC_I, sC_0, sC_1]
 refine rdE 1 (by kernel_rfl) rfl fun K hK => ?_
 go_simp
 refine (HS.out _).mono ?_
 rintro e ws ⟨⟨v, rfl, hv⟩, hus⟩
 obtain ⟨A, c, rfl, hat⟩ := hv.at'
 have HB1 := hQ' (HB0.out.go hus)
 have HAT := hQ' (fun (W : World) (u : Up ws W) => hat.up u)
 clear hus hv hat
 refine hK.out _ _ HB1.out.cells (fun hS1 => ?_)
 clear hK K
 try simp only [Act.put, sC_I, sC_0, sC_1]
 refine rdE 2 (by kernel_rfl) rfl fun K hK => ?_
 go_simp
 refine (HC.out _ _ _ (HAT.out _ (Up.refl _))).mono ?_
 rintro e wc ⟨rfl, huc⟩
 have HB2 := hQ' (HB1.out.go huc)
 clear huc
 refine hK.out _ _ HB2.out.cells (fun hS2 => ?_)
 clear hK K
 try simp only [Act.put, sC_I, sC_0, sC_1]
 refine rdE 4 (by kernel_rfl) rfl fun K hK => ?_
 go_simp
 refine (HLO.out _).mono ?_
 rintro e wl ⟨rfl, hul⟩
 have HB3 := hQ' (HB2.out.go hul)
 clear hul
 refine hK.out _ _ HB3.out.cells (fun hS3 => ?_)
 clear hK K
 try simp only [Act.put, sC_I, sC_0, sC_1]
 refine tkE 5 ?_ rfl (by kernel_rfl) (fun _ _ _ h => h) hS3 ?_ ?_
 rotate_left
 · intro w hSw
   try dsimp only at hSw
   go_simp
   try (with_reducible rfl)
 try simp only [Act.put, sC_I, sC_0, sC_1]
 refine tkE 6 ?_ rfl (by kernel_rfl) (fun _ _ _ h => h) hS3 ?_ ?_
 rotate_left
 · intro w hSw
   try dsimp only at hSw
   go_simp
   try (with_reducible rfl)
 try simp only [Act.put, sC_I, sC_0, sC_1]
 refine tkE 7 ?_ rfl (by kernel_rfl) (fun _ _ _ h => h) hS3 ?_ ?_
 rotate_left
 · intro w hSw
   try dsimp only at hSw
   go_simp
   try (with_reducible rfl)
 try simp only [Act.put, sC_I, sC_0, sC_1]
 refine wpAnyH_done (by kernel_rfl) ?_ _
 try simp only [Act.put, sC_I, sC_0, sC_1, List.getElem_toArray, List.getElem_cons_succ, List.getElem_cons_zero]
 go_wp2_with fail
 go_ret3
 exact ⟨rfl, HB3.out.up⟩
end Go.Proofs.YtpodgcpkccpnfaaGreat

namespace Go.Proofs.YtpodgcpkccpnfaaGreat
open Go.RowKit
theorem lockStrips1 (n mode base loc room : Int) (w : World) (hn : 1 ≤ n ∧ n ≤ 8) (hr : 1 ≤ room ∧ room ≤ 1048576) : Calls Tryz.prog 104 #[.agg #[.int .i64 1, .int .i64 n, .int .i64 mode, .int .i64 base, .int .i64 loc, .int .i64 room]] w fun e w' => (∃ v, e = .returned v ∧ StrRow w' w.heap.size v [⟨n, 1, 1⟩, ⟨n, 1, room⟩]) ∧ Up w w' := by
 have hm : ∀ W, (method 429 241 (.agg #[]) "kevel/lock.strips").run Tryz.prog W = .ok (327, .agg #[]) W := fun _ => by kernel_rfl
 have HB := hQ' (BoxL.new (Up.refl w) 1 n mode base loc room)
 have HO := hQ' (fun W => of1_any W)
 have HX := hQ' (fun W => mStr1 1 n mode base loc room W hn hr)
 obtain ⟨c0, c1, c2, c3, c4, c5⟩ := HB.out.cells
 clear hn hr
 go_enter Tryz.func104, Tryz.ntmps104
 go_wp2_with fail
 refine (HO.out _).mono ?_
 rintro e w1 ⟨rfl, hu1⟩
 have HB1 := hQ' (HB.out.go hu1)
 clear hu1 c0 c1 c2 c3 c4 c5
 obtain ⟨c0, c1, c2, c3, c4, c5⟩ := HB1.out.cells
 go_wp2_with fail
 refine (HX.out _).mono ?_
 rintro e w2 ⟨⟨v, rfl, hv⟩, hu2⟩
 have HV := hQ' (own_base hv HB1.out.up.size)
 have HB2 := hQ' (HB1.out.go hu2).up
 clear hu2 c0 c1 c2 c3 c4 c5 hv
 go_wp2_with fail
 go_ret
 exact ⟨⟨_, rfl, HV.out⟩, HB2.out⟩
theorem lockCells1 (n mode base loc room : Int) (w : World) (hn : 1 ≤ n ∧ n ≤ 8) (hr : 1 ≤ room ∧ room ≤ 1048576) : Calls Tryz.prog 123 #[.agg #[.int .i64 1, .int .i64 n, .int .i64 mode, .int .i64 base, .int .i64 loc, .int .i64 room]] w fun e w' => e = .returned (.int .i64 (2 * n)) ∧ Up w w' := by
 have hm : ∀ W, (method 429 241 (.agg #[]) "kevel/lock.size").run Tryz.prog W = .ok (326, .agg #[]) W := fun _ => by kernel_rfl
 have HB := hQ' (BoxL.new (Up.refl w) 1 n mode base loc room)
 have HO := hQ' (fun W => of1_any W)
 have HX := hQ' (fun W => mSize1 1 n mode base loc room W hn hr)
 obtain ⟨c0, c1, c2, c3, c4, c5⟩ := HB.out.cells
 clear hn hr
 go_enter Tryz.func123, Tryz.ntmps123
 go_wp2_with fail
 refine (HO.out _).mono ?_
 rintro e w1 ⟨rfl, hu1⟩
 have HB1 := hQ' (HB.out.go hu1)
 clear hu1 c0 c1 c2 c3 c4 c5
 obtain ⟨c0, c1, c2, c3, c4, c5⟩ := HB1.out.cells
 go_wp2_with fail
 refine (HX.out _).mono ?_
 rintro e w2 ⟨rfl, hu2⟩
 have HB2 := hQ' (HB1.out.go hu2).up
 clear hu2 c0 c1 c2 c3 c4 c5
 go_wp2_with fail
 go_ret
 exact ⟨rfl, HB2.out⟩
theorem lockLocals1 (n mode base loc room : Int) (w : World) (hn : 1 ≤ n ∧ n ≤ 8) (hr : 1 ≤ room ∧ room ≤ 1048576) : Calls Tryz.prog 107 #[.agg #[.int .i64 1, .int .i64 n, .int .i64 mode, .int .i64 base, .int .i64 loc, .int .i64 room]] w fun e w' => e = .returned (.int .i64 1) ∧ Up w w' := by
 have hm : ∀ W, (method 429 241 (.agg #[]) "kevel/lock.size").run Tryz.prog W = .ok (326, .agg #[]) W := fun _ => by kernel_rfl
 have HB := hQ' (BoxL.new (Up.refl w) 1 n mode base loc room)
 have HO := hQ' (fun W => of1_any W)
 have HX := hQ' (fun W => mSize1 1 n mode base loc room W hn hr)
 obtain ⟨c0, c1, c2, c3, c4, c5⟩ := HB.out.cells
 clear hn hr
 go_enter Tryz.func107, Tryz.ntmps107
 go_wp2_with fail
 refine (HO.out _).mono ?_
 rintro e w1 ⟨rfl, hu1⟩
 have HB1 := hQ' (HB.out.go hu1)
 clear hu1 c0 c1 c2 c3 c4 c5
 obtain ⟨c0, c1, c2, c3, c4, c5⟩ := HB1.out.cells
 go_wp2_with fail
 refine (HX.out _).mono ?_
 rintro e w2 ⟨rfl, hu2⟩
 have HB2 := hQ' (HB1.out.go hu2).up
 clear hu2 c0 c1 c2 c3 c4 c5
 go_wp2_with fail
 go_ret
 exact ⟨rfl, HB2.out⟩
theorem lockFine1 (n mode base loc room : Int) (w : World) (hn : 1 ≤ n ∧ n ≤ 8) (hr : 1 ≤ room ∧ room ≤ 1048576) (hm1 : mode = 1) (hb : 0 ≤ base ∧ base + (2 * n) ≤ 32768) (hl : 0 ≤ loc ∧ loc + 1 ≤ 32768) : Calls Tryz.prog 122 #[.agg #[.int .i64 1, .int .i64 n, .int .i64 mode, .int .i64 base, .int .i64 loc, .int .i64 room]] w fun e w' => e = .returned (.bool true) ∧ Up w w' := by
 subst hm1
 have hm : ∀ W, (method 429 241 (.agg #[]) "kevel/lock.size").run Tryz.prog W = .ok (326, .agg #[]) W := fun _ => by kernel_rfl
 have f1 : ¬ (n < 1) := by omega
 have f2 : ¬ (8 < n) := by omega
 have f3 : ¬ (room < 1) := by omega
 have f4 : ¬ (1048576 < room) := by omega
 have f5 : ¬ (base < 0) := by omega
 have f6 : ¬ (32768 < base) := by omega
 have f7 : ¬ (loc < 0) := by omega
 have f8 : ¬ (32768 < loc) := by omega
 have f9 : base + (2 * n) ≤ 32768 := hb.2
 have f10 : loc + 1 ≤ 32768 := hl.2
 have w1 : wrap64 (base + (2 * n)) = base + (2 * n) := IntWalk.wrap64_in _ (by omega)
 have w2 : wrap64 (loc + 1) = loc + 1 := IntWalk.wrap64_in _ (by omega)
 have HB := hQ' (BoxL.new (Up.refl w) 1 n 1 base loc room)
 have HO := hQ' (fun W => of1_any W)
 have HX := hQ' (fun W => mSize1 1 n 1 base loc room W hn hr)
 obtain ⟨c0, c1, c2, c3, c4, c5⟩ := HB.out.cells
 clear hn hr hb hl
 go_enter Tryz.func122, Tryz.ntmps122
 go_wp2_with fail
 refine (HO.out _).mono ?_
 rintro e w1 ⟨rfl, hu1⟩
 have HB1 := hQ' (HB.out.go hu1)
 clear hu1 c0 c1 c2 c3 c4 c5
 obtain ⟨c0, c1, c2, c3, c4, c5⟩ := HB1.out.cells
 go_wp2_with fail
 refine (HX.out _).mono ?_
 rintro e w2 ⟨rfl, hu2⟩
 have HB2 := hQ' (HB1.out.go hu2)
 clear hu2 c0 c1 c2 c3 c4 c5
 obtain ⟨c0, c1, c2, c3, c4, c5⟩ := HB2.out.cells
 go_wp2_with fail
 go_ret
 exact ⟨rfl, HB2.out.up⟩
theorem lockStrips2 (n mode base loc room : Int) (w : World) (hn : 1 ≤ n ∧ n ≤ 8) : Calls Tryz.prog 104 #[.agg #[.int .i64 2, .int .i64 n, .int .i64 mode, .int .i64 base, .int .i64 loc, .int .i64 room]] w fun e w' => (∃ v, e = .returned v ∧ StrRow w' w.heap.size v [⟨n, 1, 1⟩]) ∧ Up w w' := by
 have hm : ∀ W, (method 429 242 (.agg #[]) "kevel/lock.strips").run Tryz.prog W = .ok (337, .agg #[]) W := fun _ => by kernel_rfl
 have HB := hQ' (BoxL.new (Up.refl w) 2 n mode base loc room)
 have HO := hQ' (fun W => of2_any W)
 have HX := hQ' (fun W => mStr2 2 n mode base loc room W hn)
 obtain ⟨c0, c1, c2, c3, c4, c5⟩ := HB.out.cells
 clear hn
 go_enter Tryz.func104, Tryz.ntmps104
 go_wp2_with fail
 refine (HO.out _).mono ?_
 rintro e w1 ⟨rfl, hu1⟩
 have HB1 := hQ' (HB.out.go hu1)
 clear hu1 c0 c1 c2 c3 c4 c5
 obtain ⟨c0, c1, c2, c3, c4, c5⟩ := HB1.out.cells
 go_wp2_with fail
 refine (HX.out _).mono ?_
 rintro e w2 ⟨⟨v, rfl, hv⟩, hu2⟩
 have HV := hQ' (own_base hv HB1.out.up.size)
 have HB2 := hQ' (HB1.out.go hu2).up
 clear hu2 c0 c1 c2 c3 c4 c5 hv
 go_wp2_with fail
 go_ret
 exact ⟨⟨_, rfl, HV.out⟩, HB2.out⟩
theorem lockCells2 (n mode base loc room : Int) (w : World) (hn : 1 ≤ n ∧ n ≤ 8) : Calls Tryz.prog 123 #[.agg #[.int .i64 2, .int .i64 n, .int .i64 mode, .int .i64 base, .int .i64 loc, .int .i64 room]] w fun e w' => e = .returned (.int .i64 n) ∧ Up w w' := by
 have hm : ∀ W, (method 429 242 (.agg #[]) "kevel/lock.size").run Tryz.prog W = .ok (336, .agg #[]) W := fun _ => by kernel_rfl
 have HB := hQ' (BoxL.new (Up.refl w) 2 n mode base loc room)
 have HO := hQ' (fun W => of2_any W)
 have HX := hQ' (fun W => mSize2 2 n mode base loc room W hn)
 obtain ⟨c0, c1, c2, c3, c4, c5⟩ := HB.out.cells
 clear hn
 go_enter Tryz.func123, Tryz.ntmps123
 go_wp2_with fail
 refine (HO.out _).mono ?_
 rintro e w1 ⟨rfl, hu1⟩
 have HB1 := hQ' (HB.out.go hu1)
 clear hu1 c0 c1 c2 c3 c4 c5
 obtain ⟨c0, c1, c2, c3, c4, c5⟩ := HB1.out.cells
 go_wp2_with fail
 refine (HX.out _).mono ?_
 rintro e w2 ⟨rfl, hu2⟩
 have HB2 := hQ' (HB1.out.go hu2).up
 clear hu2 c0 c1 c2 c3 c4 c5
 go_wp2_with fail
 go_ret
 exact ⟨rfl, HB2.out⟩
theorem lockLocals2 (n mode base loc room : Int) (w : World) (hn : 1 ≤ n ∧ n ≤ 8) : Calls Tryz.prog 107 #[.agg #[.int .i64 2, .int .i64 n, .int .i64 mode, .int .i64 base, .int .i64 loc, .int .i64 room]] w fun e w' => e = .returned (.int .i64 0) ∧ Up w w' := by
 have hm : ∀ W, (method 429 242 (.agg #[]) "kevel/lock.size").run Tryz.prog W = .ok (336, .agg #[]) W := fun _ => by kernel_rfl
 have HB := hQ' (BoxL.new (Up.refl w) 2 n mode base loc room)
 have HO := hQ' (fun W => of2_any W)
 have HX := hQ' (fun W => mSize2 2 n mode base loc room W hn)
 obtain ⟨c0, c1, c2, c3, c4, c5⟩ := HB.out.cells
 clear hn
 go_enter Tryz.func107, Tryz.ntmps107
 go_wp2_with fail
 refine (HO.out _).mono ?_
 rintro e w1 ⟨rfl, hu1⟩
 have HB1 := hQ' (HB.out.go hu1)
 clear hu1 c0 c1 c2 c3 c4 c5
 obtain ⟨c0, c1, c2, c3, c4, c5⟩ := HB1.out.cells
 go_wp2_with fail
 refine (HX.out _).mono ?_
 rintro e w2 ⟨rfl, hu2⟩
 have HB2 := hQ' (HB1.out.go hu2).up
 clear hu2 c0 c1 c2 c3 c4 c5
 go_wp2_with fail
 go_ret
 exact ⟨rfl, HB2.out⟩
theorem lockFine2 (n mode base loc room : Int) (w : World) (hn : 1 ≤ n ∧ n ≤ 8) (hr : 1 ≤ room ∧ room ≤ 1048576) (hm1 : mode = 1) (hb : 0 ≤ base ∧ base + n ≤ 32768) (hl : 0 ≤ loc ∧ loc + 0 ≤ 32768) : Calls Tryz.prog 122 #[.agg #[.int .i64 2, .int .i64 n, .int .i64 mode, .int .i64 base, .int .i64 loc, .int .i64 room]] w fun e w' => e = .returned (.bool true) ∧ Up w w' := by
 subst hm1
 have hm : ∀ W, (method 429 242 (.agg #[]) "kevel/lock.size").run Tryz.prog W = .ok (336, .agg #[]) W := fun _ => by kernel_rfl
 have f1 : ¬ (n < 1) := by omega
 have f2 : ¬ (8 < n) := by omega
 have f3 : ¬ (room < 1) := by omega
 have f4 : ¬ (1048576 < room) := by omega
 have f5 : ¬ (base < 0) := by omega
 have f6 : ¬ (32768 < base) := by omega
 have f7 : ¬ (loc < 0) := by omega
 have f8 : ¬ (32768 < loc) := by omega
 have f9 : base + n ≤ 32768 := hb.2
 have f10 : loc + 0 ≤ 32768 := hl.2
 have w1 : wrap64 (base + n) = base + n := IntWalk.wrap64_in _ (by omega)
 have w2 : wrap64 (loc + 0) = loc + 0 := IntWalk.wrap64_in _ (by omega)
 have HB := hQ' (BoxL.new (Up.refl w) 2 n 1 base loc room)
 have HO := hQ' (fun W => of2_any W)
 have HX := hQ' (fun W => mSize2 2 n 1 base loc room W hn)
 obtain ⟨c0, c1, c2, c3, c4, c5⟩ := HB.out.cells
 clear hn hr hb hl
 go_enter Tryz.func122, Tryz.ntmps122
 go_wp2_with fail
 refine (HO.out _).mono ?_
 rintro e w1 ⟨rfl, hu1⟩
 have HB1 := hQ' (HB.out.go hu1)
 clear hu1 c0 c1 c2 c3 c4 c5
 obtain ⟨c0, c1, c2, c3, c4, c5⟩ := HB1.out.cells
 go_wp2_with fail
 refine (HX.out _).mono ?_
 rintro e w2 ⟨rfl, hu2⟩
 have HB2 := hQ' (HB1.out.go hu2)
 clear hu2 c0 c1 c2 c3 c4 c5
 obtain ⟨c0, c1, c2, c3, c4, c5⟩ := HB2.out.cells
 go_wp2_with fail
 go_ret
 exact ⟨rfl, HB2.out.up⟩
end Go.Proofs.YtpodgcpkccpnfaaGreat

