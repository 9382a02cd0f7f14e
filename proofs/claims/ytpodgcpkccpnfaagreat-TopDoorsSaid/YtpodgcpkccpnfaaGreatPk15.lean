/-
  Parts of a proof, packed: DoW, DoV, WldC, WldD
-/
import Derived.Deep.DeepCutAuto
import Derived.Deep.MidRow
import Derived.Deep.WholeRow
import Derived.Laws.EntriesVeiled
import Derived.Test.YtpodgcpkccpnfaaGreatPk01
import Derived.Test.YtpodgcpkccpnfaaGreatPk09
import Derived.Test.YtpodgcpkccpnfaaGreatPk13
import Derived.Test.YtpodgcpkccpnfaaGreatPk14
set_option linter.unusedVariables false
set_option linter.unusedSimpArgs false
set_option maxRecDepth 20000
set_option maxHeartbeats 16000000
namespace Go.Proofs.YtpodgcpkccpnfaaGreat
open Go.RowKit
theorem Far.typ {B k : Nat} {w : World} {cs : Array Value} {t : TypeId} (h : w.heap[k]? = some (.cells cs t (0, 0))) (ht : t ≠ 3 ∧ t ≠ 111 ∧ t ≠ 168) : Far B w k := fun _ cs' e he => by
 rw [h] at he
 simp only [Option.some.injEq, Obj.cells.injEq, and_true] at he
 obtain ⟨_, rfl⟩ := he
 exact ht
theorem TK.kept {g B : Nat} {w w' : World} (h : TK g B w w') {b : Nat} {cs : Array Value} {t : TypeId} (hb : w.heap[b]? = some (.cells cs t (0, 0))) (hg : b ≠ g) (ht : t ≠ 3 ∧ t ≠ 111 ∧ t ≠ 168) : w'.heap[b]? = some (.cells cs t (0, 0)) :=
 (h.block b (Array.getElem?_eq_some_iff.1 hb).1 hg (Far.typ hb ht)).trans hb
theorem TapeIs.far {w w' : World} {g B b : Nat} {st : Int} {s : TS} (h : TapeIs w g B st s) {cs : Array Value} {t : TypeId} (hb : w.heap[b]? = some (.cells cs t (0, 0))) (hg : g < b) (ht : t ≠ 3 ∧ t ≠ 111 ∧ t ≠ 168)
 (hs : w.heap.size ≤ w'.heap.size) (hk : ∀ k, k ≠ b → k < w.heap.size → w'.heap[k]? = w.heap[k]?) : TapeIs w' g B st s := by
 have hgg := hk g (by omega) h.gs
 have hrow : ∀ e k cs', (e = 3 ∨ e = 111 ∨ e = 168) → B ≤ k → w.heap[k]? = some (.cells cs' e (0, 0)) → w'.heap[k]? = w.heap[k]? := fun e k cs' he hB hh => hk k (fun e2 => by
  subst e2
  rw [hb] at hh
  simp only [Option.some.injEq, Obj.cells.injEq, and_true] at hh
  obtain ⟨_, rfl⟩ := hh
  rcases he with e | e | e
  · exact ht.1 e
  · exact ht.2.1 e
  · exact ht.2.2 e) (Array.getElem?_eq_some_iff.1 hh).1
 refine ⟨h.gB, Nat.le_trans h.sz hs, (tcell hgg).trans h.c0, fun j => (tfrozen hgg).trans (h.fz j), ?_, ?_, ?_, ?_, h.la, h.lb, h.ll⟩
 · obtain ⟨A, c, h1, h2, h3⟩ := h.ans
   refine ⟨A, c, (tcell hgg).trans h1, row_keep h2 (fun b' off e hp => ?_), h3⟩
   have := h3 b' off e hp
   have := h.gs
   exact hk b' (by omega) (by omega)
 · obtain ⟨v, h1, h2⟩ := h.loc
   exact ⟨v, (tcell hgg).trans h1, own_keep h2 fun k cs' hB hh => hrow _ k cs' (.inl rfl) hB hh⟩
 · obtain ⟨v, h1, h2⟩ := h.acc
   exact ⟨v, (tcell hgg).trans h1, own_keep h2 fun k cs' hB hh => hrow _ k cs' (.inr (.inl rfl)) hB hh⟩
 · obtain ⟨v, h1, h2⟩ := h.nts
   exact ⟨v, (tcell hgg).trans h1, own_keep h2 fun k cs' hB hh => hrow _ k cs' (.inr (.inr rfl)) hB hh⟩
theorem Tape1.far {w w' : World} {g B b : Nat} {s : TS} (h : Tape1 w g B s) {cs : Array Value} {t : TypeId} (hb : w.heap[b]? = some (.cells cs t (0, 0))) (hg : g < b) (ht : t ≠ 3 ∧ t ≠ 111 ∧ t ≠ 168)
 (hs : w.heap.size ≤ w'.heap.size) (hk : ∀ k, k ≠ b → k < w.heap.size → w'.heap[k]? = w.heap[k]?) : Tape1 w' g B s := ⟨h.1.far hb hg ht hs hk, h.2⟩
theorem TK.putNew {g B b : Nat} {W w : World} (h : TK g B W w) (v0 v1 : Value) (hb : W.heap.size ≤ b) : TK g B W (put2 w b v0 v1) :=
 ⟨h.os, h.tape, h.output, by rw [put2_size]; exact h.size, fun k hk hg hf => (put2_other w b k v0 v1 (by omega)).trans (h.block k hk hg hf)⟩
theorem plain1_any (f : Nat) (o : ObjD) (op : Op Int) (arg me : Int) (g B b : Nat) (s0 : TS) (W : World) (h : Tape1 W g B s0) (hcf : ∀ (args : Array Value) (W : World), (callFunc f args).run Tryz.prog W = .ok (.enter f args) W)
 (hb : W.heap[b]? = some (.cells #[.func (.func f) #[] #[]] 226 (0, 0)))
 (hf : ∀ W', Up W W' → Tape1 W' g B s0 → Calls Tryz.prog f #[.pointer (some ⟨g, 0, none⟩), objV o, .int .i64 me] W' (TPost encI g B W' (op.onT s0))) :
 Calls Tryz.prog 204 #[.pointer (some ⟨g, 0, none⟩), objV o, .int .i64 arg, .int .i64 me, .pointer (some ⟨b, 0, none⟩)] W (TPost encR g B W ((asRep op).onT s0)) := by
 obtain ⟨R, hE⟩ : ∃ R, (asRep op).onT s0 = R := ⟨_, rfl⟩
 rw [hE]
 have HE := hQ' hE
 unfold objV objA at *
 have hc := cell_of_one hb
 have hblt := cell_lt hc
 have hu : Up W ((W.alloc (.cells #[.int .i64 o.th.kind, .int .i64 o.th.alg, .int .i64 o.th.mode, .int .i64 o.th.room, .int .i64 o.th.arg, .int .i64 o.th.writer, .int .i64 o.th.reader, .int .i64 o.th.top, .int .i64 o.lk.alg, .int .i64 o.lk.n, .int .i64 o.lk.mode, .int .i64 o.lk.base, .int .i64 o.lk.loc, .int .i64 o.lk.room, .int .i64 o.rg.kind, .int .i64 o.rg.base, .int .i64 o.rg.loc, .int .i64 o.rg.n, .int .i64 o.rg.writer, .int .i64 o.rg.reader, .int .i64 o.rg.top, .int .i64 o.base, .int .i64 o.loc] 132)).alloc (.cells #[.int .i64 0, .int .i64 0] 58)) := ((Up.refl W).alloc _).alloc _
 have hb1 := heap_alloc_new W (.cells #[.int .i64 o.th.kind, .int .i64 o.th.alg, .int .i64 o.th.mode, .int .i64 o.th.room, .int .i64 o.th.arg, .int .i64 o.th.writer, .int .i64 o.th.reader, .int .i64 o.th.top, .int .i64 o.lk.alg, .int .i64 o.lk.n, .int .i64 o.lk.mode, .int .i64 o.lk.base, .int .i64 o.lk.loc, .int .i64 o.lk.room, .int .i64 o.rg.kind, .int .i64 o.rg.base, .int .i64 o.rg.loc, .int .i64 o.rg.n, .int .i64 o.rg.writer, .int .i64 o.rg.reader, .int .i64 o.rg.top, .int .i64 o.base, .int .i64 o.loc] 132)
 have hb1 := (((Up.refl (W.alloc (.cells #[.int .i64 o.th.kind, .int .i64 o.th.alg, .int .i64 o.th.mode, .int .i64 o.th.room, .int .i64 o.th.arg, .int .i64 o.th.writer, .int .i64 o.th.reader, .int .i64 o.th.top, .int .i64 o.lk.alg, .int .i64 o.lk.n, .int .i64 o.lk.mode, .int .i64 o.lk.base, .int .i64 o.lk.loc, .int .i64 o.lk.room, .int .i64 o.rg.kind, .int .i64 o.rg.base, .int .i64 o.rg.loc, .int .i64 o.rg.n, .int .i64 o.rg.writer, .int .i64 o.rg.reader, .int .i64 o.rg.top, .int .i64 o.base, .int .i64 o.loc] 132))).alloc (.cells #[.int .i64 0, .int .i64 0] 58)).block W.heap.size (by simp)).trans hb1
 have hb2 := heap_alloc_new (W.alloc (.cells #[.int .i64 o.th.kind, .int .i64 o.th.alg, .int .i64 o.th.mode, .int .i64 o.th.room, .int .i64 o.th.arg, .int .i64 o.th.writer, .int .i64 o.th.reader, .int .i64 o.th.top, .int .i64 o.lk.alg, .int .i64 o.lk.n, .int .i64 o.lk.mode, .int .i64 o.lk.base, .int .i64 o.lk.loc, .int .i64 o.lk.room, .int .i64 o.rg.kind, .int .i64 o.rg.base, .int .i64 o.rg.loc, .int .i64 o.rg.n, .int .i64 o.rg.writer, .int .i64 o.rg.reader, .int .i64 o.rg.top, .int .i64 o.base, .int .i64 o.loc] 132)) (.cells #[.int .i64 0, .int .i64 0] 58)
 rw [World.size_alloc] at hb2
 have hsz : W.heap.size + 1 < ((W.alloc (.cells #[.int .i64 o.th.kind, .int .i64 o.th.alg, .int .i64 o.th.mode, .int .i64 o.th.room, .int .i64 o.th.arg, .int .i64 o.th.writer, .int .i64 o.th.reader, .int .i64 o.th.top, .int .i64 o.lk.alg, .int .i64 o.lk.n, .int .i64 o.lk.mode, .int .i64 o.lk.base, .int .i64 o.lk.loc, .int .i64 o.lk.room, .int .i64 o.rg.kind, .int .i64 o.rg.base, .int .i64 o.rg.loc, .int .i64 o.rg.n, .int .i64 o.rg.writer, .int .i64 o.rg.reader, .int .i64 o.rg.top, .int .i64 o.base, .int .i64 o.loc] 132)).alloc (.cells #[.int .i64 0, .int .i64 0] 58)).heap.size := by simp
 have hgs := h.1.gs
 have HU := hQ' hu
 have HT := hQ' (h.up hu)
 have HQ := hQ' (hf _ hu (h.up hu))
 have HB2 := hQ' hb2
 have HSZ := hQ' (And.intro hsz hgs)
 have hsb : W.heap.size < ((W.alloc (.cells #[.int .i64 o.th.kind, .int .i64 o.th.alg, .int .i64 o.th.mode, .int .i64 o.th.room, .int .i64 o.th.arg, .int .i64 o.th.writer, .int .i64 o.th.reader, .int .i64 o.th.top, .int .i64 o.lk.alg, .int .i64 o.lk.n, .int .i64 o.lk.mode, .int .i64 o.lk.base, .int .i64 o.lk.loc, .int .i64 o.lk.room, .int .i64 o.rg.kind, .int .i64 o.rg.base, .int .i64 o.rg.loc, .int .i64 o.rg.n, .int .i64 o.rg.writer, .int .i64 o.rg.reader, .int .i64 o.rg.top, .int .i64 o.base, .int .i64 o.loc] 132)).alloc (.cells #[.int .i64 0, .int .i64 0] 58)).heap.size := by simp; omega
 have hcW := (hu.cell (p := ⟨b, 0, none⟩) hblt).trans hc
 have HB1 := hQ' hb1
 clear hb hb1 hb2 hsz hgs h hf hE hu
 go_enter Tryz.func204, Tryz.ntmps204
 go_upto_region 1 with fail
 generalize (W.alloc (.cells #[.int .i64 o.th.kind, .int .i64 o.th.alg, .int .i64 o.th.mode, .int .i64 o.th.room, .int .i64 o.th.arg, .int .i64 o.th.writer, .int .i64 o.th.reader, .int .i64 o.th.top, .int .i64 o.lk.alg, .int .i64 o.lk.n, .int .i64 o.lk.mode, .int .i64 o.lk.base, .int .i64 o.lk.loc, .int .i64 o.lk.room, .int .i64 o.rg.kind, .int .i64 o.rg.base, .int .i64 o.rg.loc, .int .i64 o.rg.n, .int .i64 o.rg.writer, .int .i64 o.rg.reader, .int .i64 o.rg.top, .int .i64 o.base, .int .i64 o.loc] 132)).alloc (.cells #[.int .i64 0, .int .i64 0] 58) = W2 at *
 go_wp2_with (refine wpList_load_row rfl 132 (.tmp 6) rfl W.heap.size rfl 132 _ (0, 0) _ HB1.out Tryz.underlying132 rfl (by kernel_rfl) ?_)
 refine (call_step HQ.out HE.out).mono ?_
 rintro e w3 (⟨s', rfl, hT, hK, hR⟩ | ⟨v, s1, rfl, hT, hK, HE3⟩)
 · go_wp2_with fail
   exact ⟨rfl, TPost.none hR.out ⟨rfl, hT.out, (TK.ofUp HU.out).trans hK.out⟩⟩
 try dsimp only at HE3
 have hb3 := hK.out.kept HB2.out (by have := HSZ.out; omega) (by decide)
 have HB3 := hQ' hb3
 have HT3 := hQ' hT.out
 have HK3 := hQ' hK.out
 have k0 := cell_of_row _ _ 0 _ _ _ hb3
 have k1 := cell_of_row _ _ 1 _ _ _ hb3
 simp only [gA_T, gA_0, gA_S] at k0 k1
 have f0 := frozen_of_row _ _ 0 _ _ hb3
 have f1 := frozen_of_row _ _ 1 _ _ hb3
 unfold encI
 clear hb3 hT hK hc hblt hsb hcW
 go_wp2_with fail
 refine bodyPost_ret (v := encR (v, 0)) ?_ rfl (TPost.some HE3.out.symm ⟨rfl, ?_, ?_⟩)
 · exact results_cell_row rfl _ _ (W.heap.size + 1) 58 _ _ _ rfl (put2_same (.int .i64 v) (.int .i64 0) HB3.out) Tryz.underlying58 rfl (by kernel_rfl)
 · exact HT3.out.far HB3.out (by have := HSZ.out; omega) (by decide) (Nat.le_of_eq (put2_size _ _ _ _).symm) fun k hk _ => put2_other w3 _ k _ _ hk
 · exact TK.putNew ((TK.ofUp HU.out).trans HK3.out) _ _ (by omega)
end Go.Proofs.YtpodgcpkccpnfaaGreat

namespace Go.Proofs.YtpodgcpkccpnfaaGreat
open Go.RowKit
structure ObjsAt (w : World) (b : Nat) (objs : List ObjD) : Prop where
 row : ∀ (k : Nat) (o : ObjD), objs[k]? = some o → w.rangeAt b (k * 23) (objL o)
theorem ObjsAt.up {w w' : World} {b : Nat} {objs : List ObjD} (h : ObjsAt w b objs) (hb : w'.heap[b]? = w.heap[b]?) : ObjsAt w' b objs :=
 ⟨fun k o ho j v hv => (cellE hb).trans (h.row k o ho j v hv)⟩
theorem wf_smallQ (q : Nat) (h : q ≤ 1000) : Wf (q : Int) := by
 unfold Wf
 exact WalkArith.wf_i64 (by omega)
theorem wpAnyH_turn {P : Program} {md : Region.Mode} {ops : Array Oper} {Q : Exit → Act → World → Prop} {S S' : World → Prop} (hS : ∀ w, S' w → S w) :
 ∀ (fuel : Nat) (listed : Array Bool) (a : Act) (w : World), wpAnyH P md ops Q S' fuel listed a w → wpAnyH P md ops Q S fuel listed a w
 | 0, _, _, _, h => h
 | fuel + 1, _, _, _, h => ⟨h.1, fun i hi => wpOp_mono (fun a' w' h' => ⟨hS _ h'.1, wpAnyH_turn hS fuel _ a' w' h'.2⟩) (h.2 i hi)⟩
theorem obj_one (o : ObjD) : ((objL o).toArray.all fun x => x.oneCell') = true := by simp [objL, thingL, lockL, regL, Value.oneCell']
theorem do_plain (objs : List ObjD) (ob n cap : Nat) (q : Nat) (obj arg me : Int) (i : Nat) (o : ObjD) (op : Op Int) (g B : Nat) (s0 : TS) (W : World) (h : Tape1 W g B s0) (hq : 1 ≤ q ∧ q ≤ 17) (hhow : (callTab q).2.2 = 1)
 (hcf : ∀ (args : Array Value) (W : World), (callFunc (callTab q).2.1 args).run Tryz.prog W = .ok (.enter (callTab q).2.1 args) W)
 (hobj : obj = (i : Int)) (hin : i < n) (hn : n ≤ 8) (hcap : n ≤ cap ∧ cap ≤ 9223372036854775807) (ho : objs[i]? = some o) (hkind : o.th.kind = ((callTab q).1 : Int)) (hobs : ObjsAt W ob objs) (hlt : ob < W.heap.size)
 (hf : ∀ W', Up W W' → Tape1 W' g B s0 → Calls Tryz.prog (callTab q).2.1 #[.pointer (some ⟨g, 0, none⟩), objV o, .int .i64 me] W' (TPost encI g B W' (op.onT s0))) :
 Calls Tryz.prog 84 #[.pointer (some ⟨g, 0, none⟩), .slice (some ⟨ob, 0, none⟩) n cap, .agg #[.int .i64 q, .int .i64 obj, .int .i64 arg], .int .i64 me] W (TPost encR g B W ((asRep op).onT s0)) := by
 subst hobj
 obtain ⟨R, hE⟩ : ∃ R, (asRep op).onT s0 = R := ⟨_, rfl⟩
 rw [hE]
 have HE := hQ' hE
 clear hE
 have hb1 := heap_alloc_new W (.cells #[.int .i64 q, .int .i64 i, .int .i64 arg] 65)
 have hb1 := (((Up.refl (W.alloc (.cells #[.int .i64 q, .int .i64 i, .int .i64 arg] 65))).alloc (.cells #[.int .i64 0, .int .i64 0] 58)).block W.heap.size (by simp)).trans hb1
 have hb2 := heap_alloc_new (W.alloc (.cells #[.int .i64 q, .int .i64 i, .int .i64 arg] 65)) (.cells #[.int .i64 0, .int .i64 0] 58)
 rw [World.size_alloc] at hb2
 have hu : Up W ((W.alloc (.cells #[.int .i64 q, .int .i64 i, .int .i64 arg] 65)).alloc (.cells #[.int .i64 0, .int .i64 0] 58)) := ((Up.refl W).alloc _).alloc _
 have hsz : ((W.alloc (.cells #[.int .i64 q, .int .i64 i, .int .i64 arg] 65)).alloc (.cells #[.int .i64 0, .int .i64 0] 58)).heap.size = W.heap.size + 2 := by simp
 have hi0 : (0 : Int) ≤ (i : Int) := by omega
 have hi1 : (i : Int) < (n : Int) := by omega
 have hi2 : ((n : Int) ≤ (i : Int)) = False := by simp; omega
 have HR := hQ' ((hobs.up (hu.block ob hlt)).row i o ho)
 have HB1 := hQ' hb1
 have HB2 := hQ' hb2
 have HU := hQ' hu
 have HSZ := hQ' hsz
 have HQQ := hQ' hq
 have HHOW := hQ' hhow
 clear hq hhow
 go_enter Tryz.func84, Tryz.ntmps84
 go_upto_region 1 with fail
 generalize (W.alloc (.cells #[.int .i64 q, .int .i64 i, .int .i64 arg] 65)).alloc (.cells #[.int .i64 0, .int .i64 0] 58) = W2 at *
 have c0 := cell_of_row _ _ 0 _ _ _ HB1.out
 have c1 := cell_of_row _ _ 1 _ _ _ HB1.out
 have c2 := cell_of_row _ _ 2 _ _ _ HB1.out
 simp only [gA_T, gA_0, gA_S] at c0 c1 c2
 have hlc : W.heap.size < W2.heap.size := by omega
 clear hb1 hb2 hu hsz hobs hlt ho
 go_upto_region 4 with (first | (refine wpList_load_mid rfl 132 (.tmp 26) rfl ob (i * 23) ?_ (objL o) _ HR.out Tryz.underlying132 rfl (by kernel_rfl) ?_; · (first | rfl | (simp; done))) | fail)
 rw [show (storeCells ⟨W2.heap.size, 0, none⟩ (objL o)).run Tryz.prog _ = _ from run_storeCells_new (P := Tryz.prog) W2 132 #[.int .i64 0, .int .i64 0, .int .i64 0, .int .i64 0, .int .i64 0, .int .i64 0, .int .i64 0, .int .i64 0, .int .i64 0, .int .i64 0, .int .i64 0, .int .i64 0, .int .i64 0, .int .i64 0, .int .i64 0, .int .i64 0, .int .i64 0, .int .i64 0, .int .i64 0, .int .i64 0, .int .i64 0, .int .i64 0, .int .i64 0] (objL o).toArray (by kernel_rfl) rfl (obj_one o)]
 go_simp
 go_upto_region 4 with fail
 have hb9 := heap_alloc_new W2 (.cells (objL o).toArray 132)
 have hu2 : Up W2 (W2.alloc (.cells (objL o).toArray 132)) := (Up.refl W2).alloc _
 obtain ⟨zo, hzo⟩ : ∃ z, W2.heap.size = z := ⟨_, rfl⟩
 rw [hzo] at hb9 ⊢
 have HZO := hQ' (And.intro hlc hzo)
 have HB3 := hQ' (And.intro ((hu2.block W.heap.size hlc).trans HB1.out) (And.intro ((hu2.block _ (Array.getElem?_eq_some_iff.1 HB2.out).1).trans HB2.out) hb9))
 have HU3 := hQ' (HU.out.trans hu2)
 generalize W2.alloc (.cells (objL o).toArray 132) = W3 at *
 clear HU HB1 HB2 HR HSZ hb9 hu2 hzo c0 c1 c2 hlc hi0 hi1 hi2
 go_cut [10, 11, 28, 29, 32, 33, 34] (fun v10 v11 v28 v29 v32 v33 v34 wx => ∃ (zc bx : Nat), v10 = .pointer (some ⟨zc, 0, none⟩) ∧ v11 = .bool true ∧ Hid (Up W3 wx ∧ wx.heap[zc]? = some (.cells #[.int .i64 ((callTab q).1 : Int), .func (.func 204) #[] #[.pointer (some ⟨bx, 0, none⟩)]] 203 (0, 0)) ∧ wx.heap[bx]? = some (.cells #[.func (.func (callTab q).2.1) #[] #[]] 226 (0, 0))))
 case first =>
  have c0 := cell_of_row _ _ 0 _ _ _ HB3.out.1
  simp only [gA_T, gA_0, gA_S] at c0
  have HSU := hQ' (fun (W' : World) (u : Up W3 W') => (u.cell (p := ⟨W.heap.size, 0, none⟩) (cell_lt c0)).trans c0)
  have hS : W3.drew.cell? ⟨W.heap.size, 0, none⟩ = some (.int .i64 q) := c0
  clear c0
  refine wp_region_held_drew (S := fun w' => w'.cell? ⟨W.heap.size, 0, none⟩ = some (.int .i64 q)) (by kernel_rfl) hS (fun hS0 => ?_)
  clear hS
  refine tkE 1 ?_ rfl (by kernel_rfl) (fun _ _ _ h => h) hS0 ?_ ?_
  rotate_left
  · intro w hSw
    try dsimp only at hSw
    go_simp
    try (with_reducible rfl)
  try simp only [Act.put, sC_I, sC_0, sC_1]
  refine tkE 2 ?_ rfl (by kernel_rfl) (fun _ _ _ h => h) hS0 ?_ ?_
  rotate_left
  · intro w hSw
    try dsimp only at hSw
    go_simp
    try (with_reducible rfl)
  try simp only [Act.put, sC_I, sC_0, sC_1]
  refine wpAnyH_ready (rs := [0, 7]) (by kernel_rfl) (by simp) ?_
  refine AllReadyH.cons rfl (fun K hK => ?_) (AllReadyH.cons rfl (fun K hK => ?_) AllReadyH.nil)
  · go_simp
    refine (calls_any _).mono ?_
    rintro e w4 ⟨hu4, m, F, rfl, hM, hF, -⟩
    have hU4 : Up W3 w4 := (Up.refl W3).drew.trans hu4
    obtain ⟨v, hFv, hv⟩ := hF q HQQ.out.1 HQQ.out.2
    rw [HHOW.out] at hv
    obtain ⟨bx, hbx, hve, hbh⟩ := hv
    have HLK := hQ' (fun (W' : World) (e : W'.heap[m]? = w4.heap[m]?) => show (Instr.lookup 205 (.map (some m)) (.int .i64 q) true).run Tryz.prog W' = .ok (.tuple #[.agg #[.int .i64 ((callTab q).1 : Int), .func (.func 204) #[] #[.pointer (some ⟨bx, 0, none⟩)]], .bool true]) W' from by
     have := (hM.up e).lookOk (q := (q : Int)) (wf_smallQ q (by have := HQQ.out; omega))
     rw [hFv] at this
     rw [this, ← hve]; rfl)
    have HMM := hQ' (show m < w4.heap.size from hM.lt)
    have HBH := hQ' hbh
    have HU4 := hQ' hU4
    have hS4 := HSU.out w4 hU4
    clear hF hFv hve hbh hM hu4 hbx hU4
    refine hK.out _ _ hS4 (fun hS1 => ?_)
    clear hK K
    try simp only [Act.put, sC_I, sC_0, sC_1]
    refine wpAnyH_turn (S' := fun w' => w'.cell? ⟨W.heap.size, 0, none⟩ = some (.int .i64 q) ∧ (Instr.lookup 205 (.map (some m)) (.int .i64 q) true).run Tryz.prog w' = .ok (.tuple #[.agg #[.int .i64 ((callTab q).1 : Int), .func (.func 204) #[] #[.pointer (some ⟨bx, 0, none⟩)]], .bool true]) w') (fun _ h => h.1) _ _ _ _ ?_
    have hSx := And.intro hS4 (HLK.out w4 rfl)
    refine tkE 3 ?_ rfl (by kernel_rfl) (fun _ _ _ h => h) hSx ?_ ?_
    rotate_left
    · intro w hSw
      try dsimp only at hSw
      go_simp
      try (with_reducible rfl)
    try simp only [Act.put, sC_I, sC_0, sC_1]
    refine tkE 4 ?_ rfl (by kernel_rfl) (fun _ _ _ h => h) hSx ?_ ?_
    rotate_left
    · intro w hSw
      try dsimp only at hSw
      go_simp
      try (with_reducible rfl)
    try simp only [Act.put, sC_I, sC_0, sC_1]
    refine tkE 5 ?_ rfl (by kernel_rfl) (fun _ _ _ h => h) hSx ?_ ?_
    rotate_left
    · intro w hSw
      try dsimp only at hSw
      go_simp
      try (with_reducible rfl)
    try simp only [Act.put, sC_I, sC_0, sC_1]
    refine tkE 6 ?_ rfl (by kernel_rfl) (fun _ _ _ h => h) hSx ?_ ?_
    rotate_left
    · intro w hSw
      try dsimp only at hSw
      go_simp
      try (with_reducible rfl)
    try simp only [Act.put, sC_I, sC_0, sC_1]
    refine rdE 7 (by kernel_rfl) rfl fun K hK => ?_
    go_simp
    have hS5 := And.intro (HSU.out (w4.alloc (.cells #[.int .i64 0, .nilFunc] 203)) (HU4.out.alloc _)) (HLK.out (w4.alloc (.cells #[.int .i64 0, .nilFunc] 203)) (((Up.refl w4).alloc _).block m HMM.out))
    refine hK.out _ _ hS5 (fun hS6 => ?_)
    clear hK K
    try simp only [Act.put, sC_I, sC_0, sC_1]
    refine rdE 8 (by kernel_rfl) rfl fun K hK => ?_
    go_simp
    have hS7 := And.intro (HSU.out (w4.alloc (.cells #[.int .i64 ((callTab q).1 : Int), .func (.func 204) #[] #[.pointer (some ⟨bx, 0, none⟩)]] 203)) (HU4.out.alloc _)) (HLK.out (w4.alloc (.cells #[.int .i64 ((callTab q).1 : Int), .func (.func 204) #[] #[.pointer (some ⟨bx, 0, none⟩)]] 203)) (((Up.refl w4).alloc _).block m HMM.out))
    refine hK.out _ _ hS7 (fun hS8 => ?_)
    clear hK K
    try simp only [Act.put, sC_I, sC_0, sC_1]
    refine tkE 9 ?_ rfl (by kernel_rfl) (fun _ _ _ h => h) hS8 ?_ ?_
    rotate_left
    · intro w hSw
      try dsimp only at hSw
      go_simp
      try (with_reducible rfl)
    try simp only [Act.put, sC_I, sC_0, sC_1]
    refine wpAnyH_done (by kernel_rfl) ?_ _
    try simp only [Act.put, sC_I, sC_0, sC_1, List.getElem_toArray, List.getElem_cons_succ, List.getElem_cons_zero]
    go_wp2_with fail
    go_meet
    exact ⟨w4.heap.size, bx, rfl, rfl, hQ' ⟨HU4.out.alloc _, heap_alloc_new w4 _, (((Up.refl w4).alloc _).block bx (Array.getElem?_eq_some_iff.1 HBH.out).1).trans HBH.out⟩⟩
  · go_simp
    have hS4 := HSU.out (W3.alloc (.cells #[.int .i64 0, .nilFunc] 203)).drew ((Up.refl W3).alloc _).drew
    have hzb : (W3.alloc (.cells #[.int .i64 0, .nilFunc] 203)).drew.heap[W3.heap.size]? = some (.cells #[.int .i64 0, .nilFunc] 203 (0, 0)) := heap_alloc_new W3 _
    refine hK.out _ _ hS4 (fun hS1 => ?_)
    clear hK K
    try simp only [Act.put, sC_I, sC_0, sC_1]
    refine rdE 0 (by kernel_rfl) rfl fun K hK => ?_
    go_simp
    refine (calls_any _).mono ?_
    rintro e w4 ⟨hu4, m, F, rfl, hM, hF, -⟩
    have hU4 : Up W3 w4 := ((Up.refl W3).alloc _).drew.trans hu4
    obtain ⟨v, hFv, hv⟩ := hF q HQQ.out.1 HQQ.out.2
    rw [HHOW.out] at hv
    obtain ⟨bx, hbx, hve, hbh⟩ := hv
    have HLK := hQ' (fun (W' : World) (e : W'.heap[m]? = w4.heap[m]?) => show (Instr.lookup 205 (.map (some m)) (.int .i64 q) true).run Tryz.prog W' = .ok (.tuple #[.agg #[.int .i64 ((callTab q).1 : Int), .func (.func 204) #[] #[.pointer (some ⟨bx, 0, none⟩)]], .bool true]) W' from by
     have := (hM.up e).lookOk (q := (q : Int)) (wf_smallQ q (by have := HQQ.out; omega))
     rw [hFv] at this
     rw [this, ← hve]; rfl)
    have HMM := hQ' (show m < w4.heap.size from hM.lt)
    have HBH := hQ' hbh
    have HU4 := hQ' hU4
    have hzb := (hu4.block _ (Array.getElem?_eq_some_iff.1 hzb).1).trans hzb
    have HZL := hQ' (show W3.heap.size ≠ m ∧ W3.heap.size ≠ bx from by
     have h1 := hu4.size
     have h2 : W3.heap.size + 1 = (W3.alloc (.cells #[.int .i64 0, .nilFunc] 203)).drew.heap.size := by simp
     refine ⟨fun e => ?_, by omega⟩
     obtain ⟨D, ⟨es, ck, hh, _⟩, _⟩ := hM
     rw [← e, hzb] at hh
     cases hh)
    obtain ⟨zb, hz⟩ : ∃ z, W3.heap.size = z := ⟨_, rfl⟩
    have HZE := hQ' hz
    rw [hz] at hzb HZL ⊢
    clear hF hFv hve hbh hM hu4 hbx hU4 hS4 hz
    have HZB := hQ' hzb
    have k0 := cell_of_row _ _ 0 _ _ _ hzb
    have k1 := cell_of_row _ _ 1 _ _ _ hzb
    simp only [gA_T, gA_0, gA_S] at k0 k1
    have f0 := frozen_of_row _ _ 0 _ _ hzb
    have f1 := frozen_of_row _ _ 1 _ _ hzb
    clear hzb
    have hS4 := HSU.out w4 HU4.out
    refine hK.out _ _ hS4 (fun hS2 => ?_)
    clear hK K
    try simp only [Act.put, sC_I, sC_0, sC_1]
    refine wpAnyH_turn (S' := fun w' => w'.cell? ⟨W.heap.size, 0, none⟩ = some (.int .i64 q) ∧ (Instr.lookup 205 (.map (some m)) (.int .i64 q) true).run Tryz.prog w' = .ok (.tuple #[.agg #[.int .i64 ((callTab q).1 : Int), .func (.func 204) #[] #[.pointer (some ⟨bx, 0, none⟩)]], .bool true]) w') (fun _ h => h.1) _ _ _ _ ?_
    have hSx := And.intro hS4 (HLK.out w4 rfl)
    refine tkE 3 ?_ rfl (by kernel_rfl) (fun _ _ _ h => h) hSx ?_ ?_
    rotate_left
    · intro w hSw
      try dsimp only at hSw
      go_simp
      try (with_reducible rfl)
    try simp only [Act.put, sC_I, sC_0, sC_1]
    refine tkE 4 ?_ rfl (by kernel_rfl) (fun _ _ _ h => h) hSx ?_ ?_
    rotate_left
    · intro w hSw
      try dsimp only at hSw
      go_simp
      try (with_reducible rfl)
    try simp only [Act.put, sC_I, sC_0, sC_1]
    refine tkE 5 ?_ rfl (by kernel_rfl) (fun _ _ _ h => h) hSx ?_ ?_
    rotate_left
    · intro w hSw
      try dsimp only at hSw
      go_simp
      try (with_reducible rfl)
    try simp only [Act.put, sC_I, sC_0, sC_1]
    refine tkE 6 ?_ rfl (by kernel_rfl) (fun _ _ _ h => h) hSx ?_ ?_
    rotate_left
    · intro w hSw
      try dsimp only at hSw
      go_simp
      try (with_reducible rfl)
    try simp only [Act.put, sC_I, sC_0, sC_1]
    refine rdE 8 (by kernel_rfl) rfl fun K hK => ?_
    go_simp
    have hPO : ∀ k, k ≠ zb → (put2 w4 zb (.int .i64 ((callTab q).1 : Int)) (.func (.func 204) #[] #[.pointer (some ⟨bx, 0, none⟩)])).heap[k]? = w4.heap[k]? := fun k hk => put2_other w4 zb k _ _ hk
    have hUp : Up W3 (put2 w4 zb (.int .i64 ((callTab q).1 : Int)) (.func (.func 204) #[] #[.pointer (some ⟨bx, 0, none⟩)])) := Below.trans HU4.out (put2_below w4 zb W3.heap.size _ _ (Nat.le_of_eq HZE.out))
    have hS7 := And.intro (HSU.out _ hUp) (HLK.out _ (hPO m (Ne.symm HZL.out.1)))
    refine hK.out _ _ hS7 (fun hS8 => ?_)
    clear hK K
    try simp only [Act.put, sC_I, sC_0, sC_1]
    refine tkE 9 ?_ rfl (by kernel_rfl) (fun _ _ _ h => h) hS8 ?_ ?_
    rotate_left
    · intro w hSw
      try dsimp only at hSw
      go_simp
      try (with_reducible rfl)
    try simp only [Act.put, sC_I, sC_0, sC_1]
    refine wpAnyH_done (by kernel_rfl) ?_ _
    try simp only [Act.put, sC_I, sC_0, sC_1, List.getElem_toArray, List.getElem_cons_succ, List.getElem_cons_zero]
    go_wp2_with fail
    go_meet
    exact ⟨zb, bx, rfl, rfl, hQ' ⟨hUp, put2_same _ _ HZB.out, (hPO bx (Ne.symm HZL.out.2)).trans HBH.out⟩⟩
 case rest =>
  obtain ⟨zc, bx, rfl, rfl, HC⟩ := hcut
  have HUC := hQ' (HU3.out.trans HC.out.1)
  have hb1 := (HC.out.1.block _ (Array.getElem?_eq_some_iff.1 HB3.out.1).1).trans HB3.out.1
  have hb2 := (HC.out.1.block _ (Array.getElem?_eq_some_iff.1 HB3.out.2.1).1).trans HB3.out.2.1
  have HBO := hQ' ((HC.out.1.block _ (Array.getElem?_eq_some_iff.1 HB3.out.2.2).1).trans HB3.out.2.2)
  have HB2 := hQ' hb2
  have c2 := cell_of_row _ _ 2 _ _ _ hb1
  have k0 := cell_of_row _ _ 0 _ _ _ HC.out.2.1
  have k1 := cell_of_row _ _ 1 _ _ _ HC.out.2.1
  have o0 := cell_of_row _ _ 0 _ _ _ HBO.out
  simp only [objL, thingL, lockL, regL, List.cons_append, List.nil_append, gA_T, gA_0, gA_S] at c2 k0 k1 o0
  rw [hkind] at o0
  have hT := h.up HUC.out
  have HT := hQ' hT
  have HP := hQ' (plain1_any (callTab q).2.1 o op arg me g B bx s0 wc hT hcf HC.out.2.2 (fun W' u t => hf W' (HUC.out.trans u) t))
  have hgs := h.1.gs
  have HSZ2 := hQ' (show g < W.heap.size + 1 from by omega)
  generalize (callTab q).2.1 = fq at *
  generalize (callTab q).1 = kq at *
  unfold objV at HP
  rw [objA_L] at HP
  clear hb1 hb2 hT h hf hcf hkind hgs
  go_wp2_with (refine wpList_load_row rfl 132 (.tmp 9) rfl zo rfl 132 _ (0, 0) _ HBO.out Tryz.underlying132 rfl (by kernel_rfl) ?_)
  refine HP.out.mono ?_
  intro e w5 hP
  obtain ⟨ro, s'⟩ := R
  rw [HE.out] at hP
  cases ro with
  | none =>
   obtain ⟨rfl, hT1, hT2⟩ := TPost.of_none rfl hP
   have HF := hQ' (And.intro hT1 ((TK.ofUp HUC.out).trans hT2))
   clear hP hT1 hT2 HP c2 k0 k1 o0
   go_wp2_with fail
   exact ⟨rfl, TPost.none rfl ⟨rfl, HF.out.1, HF.out.2⟩⟩
  | some r =>
   obtain ⟨rfl, hT1, hT2⟩ := TPost.of_some rfl hP
   have hb3 := hT2.kept HB2.out (by have := HSZ2.out; omega) (by decide)
   have HB3' := hQ' hb3
   have HF := hQ' (And.intro hT1 ((TK.ofUp HUC.out).trans hT2))
   have r0 := cell_of_row _ _ 0 _ _ _ hb3
   have r1 := cell_of_row _ _ 1 _ _ _ hb3
   simp only [gA_T, gA_0, gA_S] at r0 r1
   have f0 := frozen_of_row _ _ 0 _ _ hb3
   have f1 := frozen_of_row _ _ 1 _ _ hb3
   obtain ⟨x, y⟩ := r
   unfold encR
   clear hb3 hT1 hT2 hP c2 k0 k1 o0 HP
   go_wp2_with fail
   refine bodyPost_ret (v := encR (x, y)) ?_ rfl (TPost.some rfl ⟨rfl, ?_, ?_⟩)
   · exact results_cell_row rfl _ _ (W.heap.size + 1) 58 _ _ _ rfl (put2_same (.int .i64 x) (.int .i64 y) HB3'.out) Tryz.underlying58 rfl (by kernel_rfl)
   · exact HF.out.1.far HB3'.out (by have := HSZ2.out; omega) (by decide) (Nat.le_of_eq (put2_size _ _ _ _).symm) fun k hk _ => put2_other w5 _ k _ _ hk
   · exact TK.putNew HF.out.2 _ _ (by omega)
end Go.Proofs.YtpodgcpkccpnfaaGreat

namespace Go.Proofs.YtpodgcpkccpnfaaGreat
open Go.RowKit
theorem wcl_any {w : World} {b n cap q1 q2 q3 : Nat} {ob : Option Addr} {x0 x1 x2 me : Int} {p : TS → Option RD × TS} {ts : TS} (g' B : Nat)
 (h1 : w.cell? ⟨q1, 0, none⟩ = some (.pointer (some ⟨b, 0, none⟩))) (h2 : w.cell? ⟨q2, 0, none⟩ = some (.int .i64 x0) ∧ w.cell? ⟨q2, 1, none⟩ = some (.int .i64 x1) ∧ w.cell? ⟨q2, 2, none⟩ = some (.int .i64 x2)) (h3 : w.cell? ⟨q3, 0, none⟩ = some (.int .i64 me)) (hb : w.cell? ⟨b, 0, none⟩ = some (.slice ob n cap))
 (hq : q1 < g' ∧ q2 < g' ∧ q3 < g' ∧ b < g') (hT : Tape1 w g' B ts) (hdo : ∀ W, Up w W → Tape1 W g' B ts → Calls Tryz.prog 84 #[.pointer (some ⟨g', 0, none⟩), .slice ob n cap, .agg #[.int .i64 x0, .int .i64 x1, .int .i64 x2], .int .i64 me] W (TPost encR g' B W (p ts))) :
 Calls Tryz.prog 83 #[.pointer (some ⟨g', 0, none⟩), .pointer (some ⟨q1, 0, none⟩), .pointer (some ⟨q2, 0, none⟩), .pointer (some ⟨q3, 0, none⟩)] w (TPost encR g' B w (p ts)) := by
 have hu : Up w (w.alloc (.cells #[.int .i64 0, .int .i64 0] 58)).drew := ((Up.refl w).alloc _).drew
 have hbr : (w.alloc (.cells #[.int .i64 0, .int .i64 0] 58)).drew.heap[w.heap.size]? = some (.cells #[.int .i64 0, .int .i64 0] 58 (0, 0)) := heap_alloc_new w _
 have HD := hQ' (hdo _ hu (hT.up hu))
 have hgs := hT.1.gs
 have HSZ := hQ' (And.intro hT.1.sz (And.intro hT.1.gB hgs))
 have HQ := hQ' hq
 have HU := hQ' hu
 have HBR := hQ' hbr
 obtain ⟨r, hr⟩ : ∃ r, p ts = r := ⟨_, rfl⟩
 rw [hr] at HD ⊢
 have hS : (w.alloc (.cells #[.int .i64 0, .int .i64 0] 58)).drew.cell? ⟨q1, 0, none⟩ = some (.pointer (some ⟨b, 0, none⟩)) ∧ (w.alloc (.cells #[.int .i64 0, .int .i64 0] 58)).drew.cell? ⟨q2, 0, none⟩ = some (.int .i64 x0) ∧ (w.alloc (.cells #[.int .i64 0, .int .i64 0] 58)).drew.cell? ⟨q2, 1, none⟩ = some (.int .i64 x1) ∧ (w.alloc (.cells #[.int .i64 0, .int .i64 0] 58)).drew.cell? ⟨q2, 2, none⟩ = some (.int .i64 x2) ∧ (w.alloc (.cells #[.int .i64 0, .int .i64 0] 58)).drew.cell? ⟨q3, 0, none⟩ = some (.int .i64 me) ∧ (w.alloc (.cells #[.int .i64 0, .int .i64 0] 58)).drew.cell? ⟨b, 0, none⟩ = some (.slice ob n cap) :=
  ⟨(hu.cell (cell_lt h1)).trans h1, (hu.cell (cell_lt h2.1)).trans h2.1, (hu.cell (cell_lt h2.2.1)).trans h2.2.1, (hu.cell (cell_lt h2.2.2)).trans h2.2.2, (hu.cell (cell_lt h3)).trans h3, (hu.cell (cell_lt hb)).trans hb⟩
 have HS := hQ' hS
 have HKB := hQ' (fun (w' : World) (hk : TK g' B (w.alloc (.cells #[.int .i64 0, .int .i64 0] 58)).drew w') (q o : Nat) (v : Value) (hlt : q < g') (hc : (w.alloc (.cells #[.int .i64 0, .int .i64 0] 58)).drew.cell? ⟨q, o, none⟩ = some v) => show w'.cell? ⟨q, o, none⟩ = some v from (tcell (hk.block q (cell_lt hc) (by omega) (Far.low (by have := HSZ.out; omega)))).trans hc)
 clear hdo hr hT h1 h2 h3 hb hq hS hu hbr hgs
 go_enter Tryz.func83, Tryz.ntmps83
 go_upto_region 1 with fail
 have hS := HS.out
 refine wp_region_held_drew (S := fun w' => w'.cell? ⟨q1, 0, none⟩ = some (.pointer (some ⟨b, 0, none⟩)) ∧ w'.cell? ⟨q2, 0, none⟩ = some (.int .i64 x0) ∧ w'.cell? ⟨q2, 1, none⟩ = some (.int .i64 x1) ∧ w'.cell? ⟨q2, 2, none⟩ = some (.int .i64 x2) ∧ w'.cell? ⟨q3, 0, none⟩ = some (.int .i64 me) ∧ w'.cell? ⟨b, 0, none⟩ = some (.slice ob n cap)) (by kernel_rfl) hS (fun hS0 => ?_)
 clear hS
 refine tkE 0 ?_ rfl (by kernel_rfl) (fun _ _ _ h => h) hS0 ?_ ?_
 rotate_left
 · intro w hSw
   try dsimp only at hSw
   go_simp
   try (with_reducible rfl)
 try simp only [Act.put, sC_I, sC_0, sC_1]
 refine tkE 1 ?_ rfl (by kernel_rfl) (fun _ _ _ h => h) hS0 ?_ ?_
 rotate_left
 · intro w hSw
   try dsimp only at hSw
   go_simp
   try (with_reducible rfl)
 try simp only [Act.put, sC_I, sC_0, sC_1]
 refine tkE 2 ?_ rfl (by kernel_rfl) (fun _ _ _ h => h) hS0 ?_ ?_
 rotate_left
 · intro w hSw
   try dsimp only at hSw
   go_simp
   try (with_reducible rfl)
 try simp only [Act.put, sC_I, sC_0, sC_1]
 refine tkE 3 ?_ rfl (by kernel_rfl) (fun _ _ _ h => h) hS0 ?_ ?_
 rotate_left
 · intro w hSw
   try dsimp only at hSw
   go_simp
   try (with_reducible rfl)
 try simp only [Act.put, sC_I, sC_0, sC_1]
 refine tkE 4 ?_ rfl (by kernel_rfl) (fun _ _ _ h => h) hS0 ?_ ?_
 rotate_left
 · intro w hSw
   try dsimp only at hSw
   go_simp
   try (with_reducible rfl)
 try simp only [Act.put, sC_I, sC_0, sC_1]
 refine tkE 5 ?_ rfl (by kernel_rfl) (fun _ _ _ h => h) hS0 ?_ ?_
 rotate_left
 · intro w hSw
   try dsimp only at hSw
   go_simp
   try (with_reducible rfl)
 try simp only [Act.put, sC_I, sC_0, sC_1]
 refine tkE 6 ?_ rfl (by kernel_rfl) (fun _ _ _ h => h) hS0 ?_ ?_
 rotate_left
 · intro w hSw
   try dsimp only at hSw
   go_simp
   try (with_reducible rfl)
 try simp only [Act.put, sC_I, sC_0, sC_1]
 refine rdE 7 (by kernel_rfl) rfl fun K hK => ?_
 go_simp
 refine HD.out.mono ?_
 intro e w' hT
 obtain ⟨ro, s'⟩ := r
 cases ro with
 | none =>
  obtain ⟨rfl, hT1, hT2⟩ := TPost.of_none rfl hT
  clear hK
  dsimp only
  clear K
  go_wp2_with fail
  exact ⟨rfl, TPost.none rfl ⟨rfl, hT1, (TK.ofUp HU.out).trans hT2⟩⟩
 | some v =>
  obtain ⟨rfl, hT1, hT2⟩ := TPost.of_some rfl hT
  have hb3 := hT2.kept HBR.out (by have := HSZ.out; omega) (by decide)
  have HT1 := hQ' hT1
  have HT2 := hQ' ((TK.ofUp HU.out).trans hT2)
  have HB3 := hQ' hb3
  have hS2 : w'.cell? ⟨q1, 0, none⟩ = some (.pointer (some ⟨b, 0, none⟩)) ∧ w'.cell? ⟨q2, 0, none⟩ = some (.int .i64 x0) ∧ w'.cell? ⟨q2, 1, none⟩ = some (.int .i64 x1) ∧ w'.cell? ⟨q2, 2, none⟩ = some (.int .i64 x2) ∧ w'.cell? ⟨q3, 0, none⟩ = some (.int .i64 me) ∧ w'.cell? ⟨b, 0, none⟩ = some (.slice ob n cap) :=
   ⟨HKB.out w' hT2 q1 0 _ HQ.out.1 hS0.1, HKB.out w' hT2 q2 0 _ HQ.out.2.1 hS0.2.1, HKB.out w' hT2 q2 1 _ HQ.out.2.1 hS0.2.2.1, HKB.out w' hT2 q2 2 _ HQ.out.2.1 hS0.2.2.2.1, HKB.out w' hT2 q3 0 _ HQ.out.2.2.1 hS0.2.2.2.2.1, HKB.out w' hT2 b 0 _ HQ.out.2.2.2 hS0.2.2.2.2.2⟩
  clear hT hT1 hT2 HKB HD HS
  refine hK.out _ _ hS2 (fun hS3 => ?_)
  clear hK K
  try simp only [Act.put, sC_I, sC_0, sC_1]
  have r0 := cell_of_row _ _ 0 _ _ _ hb3
  have r1 := cell_of_row _ _ 1 _ _ _ hb3
  simp only [gA_T, gA_0, gA_S] at r0 r1
  have f0 := frozen_of_row _ _ 0 _ _ hb3
  have f1 := frozen_of_row _ _ 1 _ _ hb3
  obtain ⟨x, y⟩ := v
  unfold encR
  refine rdE 8 (by kernel_rfl) rfl fun K hK => ?_
  go_simp
  have hPO : ∀ k, k ≠ w.heap.size → (put2 w' w.heap.size (.int .i64 x) (.int .i64 y)).heap[k]? = w'.heap[k]? := fun k hk => put2_other w' w.heap.size k _ _ hk
  have hne : q1 ≠ w.heap.size ∧ q2 ≠ w.heap.size ∧ q3 ≠ w.heap.size ∧ b ≠ w.heap.size := by have := HSZ.out; have := HQ.out; omega
  have hS4 : (put2 w' w.heap.size (.int .i64 x) (.int .i64 y)).cell? ⟨q1, 0, none⟩ = some (.pointer (some ⟨b, 0, none⟩)) ∧ (put2 w' w.heap.size (.int .i64 x) (.int .i64 y)).cell? ⟨q2, 0, none⟩ = some (.int .i64 x0) ∧ (put2 w' w.heap.size (.int .i64 x) (.int .i64 y)).cell? ⟨q2, 1, none⟩ = some (.int .i64 x1) ∧ (put2 w' w.heap.size (.int .i64 x) (.int .i64 y)).cell? ⟨q2, 2, none⟩ = some (.int .i64 x2) ∧ (put2 w' w.heap.size (.int .i64 x) (.int .i64 y)).cell? ⟨q3, 0, none⟩ = some (.int .i64 me) ∧ (put2 w' w.heap.size (.int .i64 x) (.int .i64 y)).cell? ⟨b, 0, none⟩ = some (.slice ob n cap) :=
   ⟨(tcell (hPO _ hne.1)).trans hS3.1, (tcell (hPO _ hne.2.1)).trans hS3.2.1, (tcell (hPO _ hne.2.1)).trans hS3.2.2.1, (tcell (hPO _ hne.2.1)).trans hS3.2.2.2.1, (tcell (hPO _ hne.2.2.1)).trans hS3.2.2.2.2.1, (tcell (hPO _ hne.2.2.2)).trans hS3.2.2.2.2.2⟩
  refine hK.out _ _ hS4 (fun hS5 => ?_)
  clear hK K
  try simp only [Act.put, sC_I, sC_0, sC_1]
  refine wpAnyH_done (by kernel_rfl) ?_ _
  try simp only [Act.put, sC_I, sC_0, sC_1, List.getElem_toArray, List.getElem_cons_succ, List.getElem_cons_zero]
  clear hS0 hS2 hS3 hS4 hS5
  go_wp2_with fail
  refine bodyPost_ret (v := encR (x, y)) ?_ rfl (TPost.some rfl ⟨rfl, ?_, ?_⟩)
  · exact results_cell_row rfl _ _ w.heap.size 58 _ _ _ rfl (put2_same (.int .i64 x) (.int .i64 y) HB3.out) Tryz.underlying58 rfl (by kernel_rfl)
  · exact HT1.out.far HB3.out (by have := HSZ.out; omega) (by decide) (Nat.le_of_eq (put2_size _ _ _ _).symm) fun k hk _ => put2_other w' _ k _ _ hk
  · exact TK.putNew HT2.out _ _ (by omega)
end Go.Proofs.YtpodgcpkccpnfaaGreat

namespace Go.Proofs.YtpodgcpkccpnfaaGreat
open Go.RowKit
theorem enters {F : FuncId} {fn : Func} {c : Code} (hf : Tryz.prog.funcs[F]? = some fn) (hname : (fn.name == "runtime.NumGoroutine") = false) (hb : fn.body = some c) (args : Array Value) (W : World) : (callFunc F args).run Tryz.prog W = .ok (.enter F args) W := by
 have h1 : fn.name ≠ "runtime.NumGoroutine" := by simpa using hname
 simp [callFunc, hf, h1, hb, mark]
theorem own_IValB {w : World} {B : Nat} {A : Option Addr} {c : Nat} {l : List Int} (h : w.ownsRow B 3 1 (.slice A l.length c) l.length (icells l)) : Row w A l.length (IVal l) := by
 obtain ⟨A', c', e, hr⟩ := own_row h (f := IVal l) (fun k hk => iVal_map hk)
 cases e
 exact hr.1
theorem own_base {w : World} {B B' : Nat} {e : TypeId} {size n : Nat} {v : Value} {xs : List Value} (h : w.ownsRow B e size v n xs) (hB : B' ≤ B) : w.ownsRow B' e size v n xs := by
 refine ⟨h.1, ?_⟩
 rcases h.2 with h | ⟨g, cap, cur, h1, h2, h3⟩
 · exact .inl h
 · exact .inr ⟨g, cap, cur, h1, Nat.le_trans hB h2, h3⟩
def evL (e : EvD) : List Value := [.int .i64 e.at', .int .i64 e.kind, .int .i64 e.thread, .int .i64 e.call, .int .i64 e.val, .int .i64 e.err, .int .i64 e.rep]
def EvRow (w : World) (q : Nat) (lv : Value) (l : List EvD) : Prop := w.ownsRow q 60 7 lv l.length (l.flatMap evL)
theorem EvRow.up {w w' : World} {q : Nat} {lv : Value} {l : List EvD} (h : EvRow w q lv l) (u : Up w w') : EvRow w' q lv l := own_same h fun k e => u.block k (World.ownsRow.lt h k e).2
theorem evL_one (l : List EvD) : ∀ u ∈ l.flatMap evL, u.oneCell' = true := fun u hu => by
 obtain ⟨e, -, hu⟩ := List.mem_flatMap.1 hu
 simp only [evL, List.mem_cons, List.not_mem_nil, or_false] at hu
 rcases hu with rfl | rfl | rfl | rfl | rfl | rfl | rfl <;> rfl
theorem infoEv : (Tryz.prog.info? 60).map (fun i => (i.zero, i.size, i.bytes)) = some (some (.agg #[.int .i64 0, .int .i64 0, .int .i64 0, .int .i64 0, .int .i64 0, .int .i64 0, .int .i64 0]), 7, 56) := by kernel_rfl
structure Rows3 (wx : World) (s' : TS) (A Nn L : Option Addr) (e : Nat) : Prop where
 acc : AccRow wx A s'.acc
 nts : NoteRow wx Nn s'.nts
 loc : Row wx L (shortL s'.loc).length (IVal (shortL s'.loc))
 nil : L = none → e = 0
def off3 (s' : TS) (A Nn L : Option Addr) (q : Nat) : Prop := (∀ b off, A = some ⟨b, off, none⟩ → 0 < s'.acc.length → b ≠ q) ∧ (∀ b off, Nn = some ⟨b, off, none⟩ → 0 < s'.nts.length → b ≠ q) ∧ (∀ b off, L = some ⟨b, off, none⟩ → 0 < (shortL s'.loc).length → b ≠ q)
theorem Rows3.keep {w w' : World} {s' : TS} {A Nn L : Option Addr} {e q : Nat} (h : Rows3 w s' A Nn L e) (ho : off3 s' A Nn L q) (hk : ∀ k, k ≠ q → k < w.heap.size → w'.heap[k]? = w.heap[k]?) : Rows3 w' s' A Nn L e := by
 refine ⟨fun k hlt => ?_, fun k hlt => ?_, fun k hlt => ?_, h.nil⟩
 · obtain ⟨b, off, e, h1, h2, h3⟩ := h.acc k hlt
   have := hk b (ho.1 b off e (by omega)) (cell_lt h1)
   exact ⟨b, off, e, (tcell this).trans h1, (tcell this).trans h2, (tcell this).trans h3⟩
 · obtain ⟨b, off, e, h1, h2⟩ := h.nts k hlt
   have := hk b (ho.2.1 b off e (by omega)) (cell_lt h1)
   exact ⟨b, off, e, (tcell this).trans h1, (tcell this).trans h2⟩
 · obtain ⟨b, off, e, h1⟩ := h.loc k hlt
   have := hk b (ho.2.2 b off e (by omega)) (cell_lt h1)
   exact ⟨b, off, e, (tcell this).trans h1⟩
theorem Rows3.up {w w' : World} {s' : TS} {A Nn L : Option Addr} {e : Nat} (h : Rows3 w s' A Nn L e) (u : Up w w') : Rows3 w' s' A Nn L e := ⟨h.acc.up u, h.nts.up u, h.loc.up u, h.nil⟩
theorem Rows3.new {w : World} {s' : TS} {A Nn L : Option Addr} {e q : Nat} (h : Rows3 w s' A Nn L e) (hq : w.heap.size ≤ q) : off3 s' A Nn L q := by
 refine ⟨fun b off e hp => ?_, fun b off e hp => ?_, fun b off e hp => ?_⟩
 · obtain ⟨b2, off2, e2, h1, _⟩ := h.acc 0 hp
   rw [e] at e2; cases e2
   have := cell_lt h1; omega
 · obtain ⟨b2, off2, e2, h1, _⟩ := h.nts 0 hp
   rw [e] at e2; cases e2
   have := cell_lt h1; omega
 · obtain ⟨b2, off2, e2, h1⟩ := h.loc 0 hp
   rw [e] at e2; cases e2
   have := cell_lt h1; omega
def repO (x y : Int) : Obj := .cells #[.int .i64 x, .int .i64 y] 58 (0, 0)
def outO (done : Bool) (s' : TS) (A Nn L : Option Addr) (c d e : Nat) : Obj := .cells #[.bool done, .slice A s'.acc.length c, .slice Nn s'.nts.length d, .slice L (shortL s'.loc).length e] 161 (0, 0)
def outO0 : Obj := .cells #[.bool false, .slice none 0 0, .slice none 0 0, .slice none 0 0] 161 (0, 0)
structure Box3 (n0 : Nat) (w : World) (q : Nat) (o : Obj) : Prop where
 ge : n0 ≤ q
 blk : w.heap[q]? = some o
theorem Box3.lt {n0 : Nat} {w : World} {q : Nat} {o : Obj} (h : Box3 n0 w q o) : q < w.heap.size := (Array.getElem?_eq_some_iff.1 h.blk).1
theorem Box3.up {n0 : Nat} {w w' : World} {q : Nat} {o : Obj} (h : Box3 n0 w q o) (u : Up w w') : Box3 n0 w' q o := ⟨h.ge, (u.block q h.lt).trans h.blk⟩
theorem Box3.new {n0 : Nat} {w : World} (hn : n0 ≤ w.heap.size) (cs : Array Value) (t : TypeId) : Box3 n0 (w.alloc (.cells cs t)) w.heap.size (.cells cs t (0, 0)) := ⟨hn, heap_alloc_new w _⟩
theorem Box3.keep {n0 : Nat} {w w' : World} {q b : Nat} {o : Obj} (h : Box3 n0 w q o) (hne : q ≠ b) (hk : ∀ k, k ≠ b → w'.heap[k]? = w.heap[k]?) : Box3 n0 w' q o := ⟨h.ge, (hk q hne).trans h.blk⟩
theorem Box3.putR {n0 : Nat} {w : World} {q : Nat} {x y : Int} (h : Box3 n0 w q (repO 0 0)) : Box3 n0 (put2 w q (.int .i64 x) (.int .i64 y)) q (repO x y) := ⟨h.ge, put2_same _ _ h.blk⟩
theorem Box3.putO {n0 : Nat} {w : World} {q : Nat} {done : Bool} {s' : TS} {A Nn L : Option Addr} {c d e : Nat} (h : Box3 n0 w q outO0) : Box3 n0 (put4 w q (.bool done) (.slice A s'.acc.length c) (.slice Nn s'.nts.length d) (.slice L (shortL s'.loc).length e)) q (outO done s' A Nn L c d e) := ⟨h.ge, put4_same _ _ _ _ h.blk⟩
theorem Box3.ne0 {n0 : Nat} {w : World} {q b : Nat} {x y : Int} (h1 : Box3 n0 w q (repO x y)) (h2 : Box3 n0 w b outO0) : q ≠ b := fun e => by
 have h3 := h1.blk
 rw [e, h2.blk] at h3
 simp [repO, outO0] at h3
theorem offOut {N0 : Nat} {s' : TS} {A Nn L : Option Addr} (h : (∀ b' off, A = some ⟨b', off, none⟩ → N0 + 1 ≤ b') ∧ (∀ b' off, L = some ⟨b', off, none⟩ → N0 + 1 ≤ b') ∧ (∀ b' off, Nn = some ⟨b', off, none⟩ → N0 + 1 ≤ b')) {q : Nat} (hq : q ≤ N0) : off3 s' A Nn L q :=
 ⟨fun b off e _ => by have := h.1 b off e; omega, fun b off e _ => by have := h.2.2 b off e; omega, fun b off e _ => by have := h.2.1 b off e; omega⟩
structure Boxed (W1 wx : World) (rb zb : Nat) (rp : RD) (done : Bool) (s' : TS) (A : Option Addr) (c : Nat) (Nn : Option Addr) (d : Nat) (L : Option Addr) (e : Nat) : Prop where
 up : Up W1 wx
 rep : Box3 W1.heap.size wx rb (repO rp.1 rp.2)
 out : Box3 W1.heap.size wx zb (outO done s' A Nn L c d e)
 rows : Rows3 wx s' A Nn L e
 ge : ∀ b off, (A = some ⟨b, off, none⟩ ∨ L = some ⟨b, off, none⟩ ∨ Nn = some ⟨b, off, none⟩) → W1.heap.size ≤ b
theorem Up.putN {W w : World} (u : Up W w) {b : Nat} (hb : W.heap.size ≤ b) (v0 v1 : Value) : Up W (put2 w b v0 v1) := Below.trans u (put2_below w b W.heap.size v0 v1 hb)
theorem Up.putM {W w : World} (u : Up W w) {b : Nat} (hb : W.heap.size ≤ b) (v0 v1 v2 v3 : Value) : Up W (put4 w b v0 v1 v2 v3) := Below.trans u (put4_below w b W.heap.size v0 v1 v2 v3 hb)
theorem put_put (S : WD) (t : Nat) (a b : ThD) : (S.put t a).put t b = S.put t b := by
 unfold WD.put
 simp only [WD.mk.injEq, and_true, true_and]
 funext i
 by_cases e : i = t <;> simp [e]
theorem put_self (S : WD) (t : Nat) : S.put t (S.ths t) = S := by
 unfold WD.put
 cases S with
 | mk n ths bank drawn now =>
  simp only [WD.mk.injEq, and_true, true_and]
  funext i
  by_cases e : i = t <;> simp [e]
section
variable {K : WK} {W W' : World} {S : WD} {N : Nat} {va vl : Nat → Value} {ow : Nat → Nat} {t : Nat}
theorem Wd.stG {a : ThD} (H : Wd K W (S.put t a) N va vl ow) {j : Nat} (ht : t < K.n) (hj : j < 11) (v : Value) (th : ThD) (hf : ∀ i, i < 11 → thF th (K.pv t) (va t) (vl t) i = if i = j then v else thF a (K.pv t) (va t) (vl t) i) (e1 : th.ans = a.ans) (e2 : th.loc = a.loc) :
 Wd K (W.setCell ⟨K.g, t * 11 + j, none⟩ v) (S.put t th) N va vl ow := by
 have := H.setG ht hj v (th := th) (by rw [put_same]; exact hf) (by rw [put_same]; exact e1) (by rw [put_same]; exact e2)
 rwa [put_put] at this
theorem Wd.stL {a : ThD} (H : Wd K W (S.put t a) N va vl ow) (ht : t < K.n) {v : Value} {l : List Int} (hv : W.ownsRow K.B 3 1 v l.length (icells l)) (hnew : ∀ k, v.ownBlock = some k → ow k = 0 ∧ K.w1.heap.size ≤ k) :
 Wd K (W.setCell ⟨K.g, t * 11 + 2, none⟩ v) (S.put t { a with loc := l }) N va (fun i => if i = t then v else vl i) (fun k => if v.ownBlock = some k then 5 + 2 * t else ow k) := by
 have := H.setL ht hv hnew
 rwa [put_put, put_same] at this
theorem Wd.stA0 {a : ThD} (H : Wd K W (S.put t a) N va vl ow) (ht : t < K.n) :
 Wd K (W.setCell ⟨K.g, t * 11 + 3, none⟩ (.slice none 0 0)) (S.put t { a with ans := [] }) N (fun i => if i = t then .slice none 0 0 else va i) vl ow := by
 have := H.setA0 ht
 rwa [put_put, put_same] at this
theorem Wd.free (H : Wd K W S N va vl ow) {k : Nat} (hk : W.heap.size ≤ k) : ow k = 0 := by
 rcases Nat.eq_zero_or_pos (ow k) with h | h
 · exact h
 · have := (H.own k (by omega)).2; omega
theorem Wd.below (H0 : Wd K W S N va vl ow) {w0 w1 : World} {S1 : WD} (hsz : W.heap.size ≤ w0.heap.size) (H : Wd K w0 S1 N va vl ow) (hB : Below W.heap.size w0 w1) : Wd K w1 S1 N va vl ow :=
 H.keep (Below.mono hB H0.sz) (fun k _ h => hB.block k (H0.own k h).2) (fun k hk _ => hB.block k (Nat.lt_of_lt_of_le hk H0.up.size))
end
end Go.Proofs.YtpodgcpkccpnfaaGreat

