/-
  Parts of a proof, packed: ObjP, ScrA, BankC, BankD, BankN, Read
-/
import Derived.Test.YtpodgcpkccpnfaaGreatChecked
import Derived.Test.YtpodgcpkccpnfaaGreatPk01
import Derived.Test.YtpodgcpkccpnfaaGreatPk02
import Derived.Test.YtpodgcpkccpnfaaGreatPk07
import Derived.Test.YtpodgcpkccpnfaaGreatPk08
set_option linter.unusedVariables false
set_option linter.unusedSimpArgs false
set_option maxRecDepth 20000
set_option maxHeartbeats 16000000
namespace Go.Proofs.YtpodgcpkccpnfaaGreat
open Go.RowKit
structure ThingD where
 kind : Int
 alg : Int
 mode : Int
 room : Int
 arg : Int
 writer : Int
 reader : Int
 top : Int
structure LockD where
 alg : Int
 n : Int
 mode : Int
 base : Int
 loc : Int
 room : Int
structure RegD where
 kind : Int
 base : Int
 loc : Int
 n : Int
 writer : Int
 reader : Int
 top : Int
structure ObjD where
 th : ThingD
 lk : LockD
 rg : RegD
 base : Int
 loc : Int
def thingL (t : ThingD) : List Value := [.int .i64 t.kind, .int .i64 t.alg, .int .i64 t.mode, .int .i64 t.room, .int .i64 t.arg, .int .i64 t.writer, .int .i64 t.reader, .int .i64 t.top]
def lockL (k : LockD) : List Value := [.int .i64 k.alg, .int .i64 k.n, .int .i64 k.mode, .int .i64 k.base, .int .i64 k.loc, .int .i64 k.room]
def regL (r : RegD) : List Value := [.int .i64 r.kind, .int .i64 r.base, .int .i64 r.loc, .int .i64 r.n, .int .i64 r.writer, .int .i64 r.reader, .int .i64 r.top]
def objL (o : ObjD) : List Value := thingL o.th ++ lockL o.lk ++ regL o.rg ++ [.int .i64 o.base, .int .i64 o.loc]
def objA (o : ObjD) : Array Value := #[.int .i64 o.th.kind, .int .i64 o.th.alg, .int .i64 o.th.mode, .int .i64 o.th.room, .int .i64 o.th.arg, .int .i64 o.th.writer, .int .i64 o.th.reader, .int .i64 o.th.top,
 .int .i64 o.lk.alg, .int .i64 o.lk.n, .int .i64 o.lk.mode, .int .i64 o.lk.base, .int .i64 o.lk.loc, .int .i64 o.lk.room,
 .int .i64 o.rg.kind, .int .i64 o.rg.base, .int .i64 o.rg.loc, .int .i64 o.rg.n, .int .i64 o.rg.writer, .int .i64 o.rg.reader, .int .i64 o.rg.top, .int .i64 o.base, .int .i64 o.loc]
theorem objA_L (o : ObjD) : objA o = (objL o).toArray := rfl
def objV (o : ObjD) : Value := .agg (objA o)
theorem Far.obj {B k : Nat} {w : World} {cs : Array Value} (h : w.heap[k]? = some (.cells cs 132 (0, 0))) : Far B w k := fun _ cs' e he => by
 rw [h] at he
 simp only [Option.some.injEq, Obj.cells.injEq, and_true] at he
 obtain ⟨_, rfl⟩ := he
 decide
def libAcq (mine : Int) (acq : Op Int) : Op Int := .get mine fun h => if h = 1 then .ret 10 else acq.bind fun e => if e = 0 then .set mine 1 (.ret e) else .ret e
def libRel (mine : Int) (rel : Op Unit) : Op Int := .get mine fun h => if h = 1 then rel.bind fun _ => .set mine 0 (.ret 0) else .ret 9
def asRep (o : Op Int) : Op RD := o.bind fun e => .ret (e, 0)
theorem libAcq_any (o : ObjD) (acq : Op Int) (me : Int) (g B : Nat) (s0 : TS) (W : World) (h : Tape1 W g B s0)
 (hl : ∀ W', Up W W' → Tape1 W' g B s0 → Calls Tryz.prog 206 #[.pointer (some ⟨g, 0, none⟩), .agg #[.int .i64 o.lk.alg, .int .i64 o.lk.n, .int .i64 o.lk.mode, .int .i64 o.lk.base, .int .i64 o.lk.loc, .int .i64 o.lk.room], .int .i64 me] W' (TPost encI g B W' (acq.onT s0))) :
 Calls Tryz.prog 154 #[.pointer (some ⟨g, 0, none⟩), objV o, .int .i64 me] W (TPost encI g B W ((libAcq o.loc acq).onT s0)) := by
 obtain ⟨R, hE⟩ : ∃ R, (libAcq o.loc acq).onT s0 = R := ⟨_, rfl⟩
 rw [hE]
 unfold objV objA
 have hb := heap_alloc_new W (.cells #[.int .i64 o.th.kind, .int .i64 o.th.alg, .int .i64 o.th.mode, .int .i64 o.th.room, .int .i64 o.th.arg, .int .i64 o.th.writer, .int .i64 o.th.reader, .int .i64 o.th.top, .int .i64 o.lk.alg, .int .i64 o.lk.n, .int .i64 o.lk.mode, .int .i64 o.lk.base, .int .i64 o.lk.loc, .int .i64 o.lk.room, .int .i64 o.rg.kind, .int .i64 o.rg.base, .int .i64 o.rg.loc, .int .i64 o.rg.n, .int .i64 o.rg.writer, .int .i64 o.rg.reader, .int .i64 o.rg.top, .int .i64 o.base, .int .i64 o.loc] 132)
 have hu : Up W (W.alloc (.cells #[.int .i64 o.th.kind, .int .i64 o.th.alg, .int .i64 o.th.mode, .int .i64 o.th.room, .int .i64 o.th.arg, .int .i64 o.th.writer, .int .i64 o.th.reader, .int .i64 o.th.top, .int .i64 o.lk.alg, .int .i64 o.lk.n, .int .i64 o.lk.mode, .int .i64 o.lk.base, .int .i64 o.lk.loc, .int .i64 o.lk.room, .int .i64 o.rg.kind, .int .i64 o.rg.base, .int .i64 o.rg.loc, .int .i64 o.rg.n, .int .i64 o.rg.writer, .int .i64 o.rg.reader, .int .i64 o.rg.top, .int .i64 o.base, .int .i64 o.loc] 132)) := (Up.refl W).alloc _
 have hg : W.heap.size ≠ g := by have := h.1.gs; omega
 have HK := hQ' (show TWk (W.alloc (.cells #[.int .i64 o.th.kind, .int .i64 o.th.alg, .int .i64 o.th.mode, .int .i64 o.th.room, .int .i64 o.th.arg, .int .i64 o.th.writer, .int .i64 o.th.reader, .int .i64 o.th.top, .int .i64 o.lk.alg, .int .i64 o.lk.n, .int .i64 o.lk.mode, .int .i64 o.lk.base, .int .i64 o.lk.loc, .int .i64 o.lk.room, .int .i64 o.rg.kind, .int .i64 o.rg.base, .int .i64 o.rg.loc, .int .i64 o.rg.n, .int .i64 o.rg.writer, .int .i64 o.rg.reader, .int .i64 o.rg.top, .int .i64 o.base, .int .i64 o.loc] 132)) g B s0.ans s0.nts.length _ s0 from TWk.start (h.up hu))
 have HU := hQ' hu
 have HE := hQ' hE
 have HQ := hQ' (fun (W' : World) (u : Up (W.alloc (.cells #[.int .i64 o.th.kind, .int .i64 o.th.alg, .int .i64 o.th.mode, .int .i64 o.th.room, .int .i64 o.th.arg, .int .i64 o.th.writer, .int .i64 o.th.reader, .int .i64 o.th.top, .int .i64 o.lk.alg, .int .i64 o.lk.n, .int .i64 o.lk.mode, .int .i64 o.lk.base, .int .i64 o.lk.loc, .int .i64 o.lk.room, .int .i64 o.rg.kind, .int .i64 o.rg.base, .int .i64 o.rg.loc, .int .i64 o.rg.n, .int .i64 o.rg.writer, .int .i64 o.rg.reader, .int .i64 o.rg.top, .int .i64 o.base, .int .i64 o.loc] 132)) W') (ht : Tape1 W' g B s0) => hl W' (hu.trans u) ht)
 have HBY := hQ' (fun (wr : World) (hk : TK g B (W.alloc (.cells #[.int .i64 o.th.kind, .int .i64 o.th.alg, .int .i64 o.th.mode, .int .i64 o.th.room, .int .i64 o.th.arg, .int .i64 o.th.writer, .int .i64 o.th.reader, .int .i64 o.th.top, .int .i64 o.lk.alg, .int .i64 o.lk.n, .int .i64 o.lk.mode, .int .i64 o.lk.base, .int .i64 o.lk.loc, .int .i64 o.lk.room, .int .i64 o.rg.kind, .int .i64 o.rg.base, .int .i64 o.rg.loc, .int .i64 o.rg.n, .int .i64 o.rg.writer, .int .i64 o.rg.reader, .int .i64 o.rg.top, .int .i64 o.base, .int .i64 o.loc] 132)) wr) => (hk.block W.heap.size (Array.getElem?_eq_some_iff.1 hb).1 hg (Far.obj hb)).trans hb)
 have HBX := hQ' (fun (wr : World) (s : TS) (m : Nat) (hk : TWk (W.alloc (.cells #[.int .i64 o.th.kind, .int .i64 o.th.alg, .int .i64 o.th.mode, .int .i64 o.th.room, .int .i64 o.th.arg, .int .i64 o.th.writer, .int .i64 o.th.reader, .int .i64 o.th.top, .int .i64 o.lk.alg, .int .i64 o.lk.n, .int .i64 o.lk.mode, .int .i64 o.lk.base, .int .i64 o.lk.loc, .int .i64 o.lk.room, .int .i64 o.rg.kind, .int .i64 o.rg.base, .int .i64 o.rg.loc, .int .i64 o.rg.n, .int .i64 o.rg.writer, .int .i64 o.rg.reader, .int .i64 o.rg.top, .int .i64 o.base, .int .i64 o.loc] 132)) g B s0.ans m wr s) => hk.block hb hg (by decide))
 have c8 := cell_of_row _ _ 8 _ _ _ hb
 have c9 := cell_of_row _ _ 9 _ _ _ hb
 have c10 := cell_of_row _ _ 10 _ _ _ hb
 have c11 := cell_of_row _ _ 11 _ _ _ hb
 have c12 := cell_of_row _ _ 12 _ _ _ hb
 have c13 := cell_of_row _ _ 13 _ _ _ hb
 have c22 := cell_of_row _ _ 22 _ _ _ hb
 simp only [gA_T, gA_0, gA_S] at c8 c9 c10 c11 c12 c13 c22
 clear hb hu hg h hE hl
 unfold libAcq at HE
 go_enter Tryz.func154, Tryz.ntmps154
 go_wp2_with fail
 generalize W.alloc (.cells #[.int .i64 o.th.kind, .int .i64 o.th.alg, .int .i64 o.th.mode, .int .i64 o.th.room, .int .i64 o.th.arg, .int .i64 o.th.writer, .int .i64 o.th.reader, .int .i64 o.th.top, .int .i64 o.lk.alg, .int .i64 o.lk.n, .int .i64 o.lk.mode, .int .i64 o.lk.base, .int .i64 o.lk.loc, .int .i64 o.lk.room, .int .i64 o.rg.kind, .int .i64 o.rg.base, .int .i64 o.rg.loc, .int .i64 o.rg.n, .int .i64 o.rg.writer, .int .i64 o.rg.reader, .int .i64 o.rg.top, .int .i64 o.base, .int .i64 o.loc] 132) = W1 at *
 refine (get_ask HK.out HE.out).mono ?_
 rintro e w2 ⟨rfl, hw2, HE2⟩
 subst hw2
 try dsimp only at HE2
 clear HE
 by_cases hh : s0.get o.loc = 1
 · rw [if_pos hh] at HE2
   rw [hh]
   have HE3 := hQ' HE2.out
   clear HE2
   go_wp2_with fail
   go_ret
   exact TPost.some HE3.out.symm ⟨rfl, HK.out.tape, HK.out.base HU.out⟩
 · rw [if_neg hh] at HE2
   have e1 : (s0.get o.loc == 1) = false := by rw [beq_eq_false_iff_ne]; exact hh
   generalize s0.get o.loc = x at *
   go_wp2_with fail
   refine (call_step (HQ.out _ (Up.refl _) HK.out.tape) HE2.out).mono ?_
   rintro e w3 (⟨s', rfl, hT, hK, hR⟩ | ⟨v, s1, rfl, hT, hK, HE3⟩)
   · go_wp2_with fail
     exact ⟨rfl, TPost.none hR.out ⟨rfl, hT.out, (TK.ofUp HU.out).trans hK.out⟩⟩
   have HK3 := hQ' (show TK g B w2 w3 from hK.out)
   try dsimp only at HE3
   have HT3 := hQ' hT.out
   clear HE2 c8 c9 c10 c11 c12 c13 c22
   by_cases hv : v = 0
   · subst hv
     rw [if_pos rfl] at HE3
     have HE4 := hQ' HE3.out
     have HK5 := hQ' (show TWk w3 g B s1.ans s1.nts.length w3 s1 from TWk.start hT.out)
     have c22 := cell_of_row _ _ 22 _ _ _ (HBY.out w3 hK.out)
     simp only [gA_T, gA_0, gA_S] at c22
     clear HE3 hT hK
     unfold encI
     go_wp2_with fail
     refine (set_ask HK5.out HE4.out).mono ?_
     rintro e w4 ⟨rfl, HE5, HK6, -⟩
     clear c22
     go_wp2_with fail
     go_ret
     exact TPost.some HE5.out.symm ⟨rfl, HK6.out.tape, ((TK.ofUp HU.out).trans HK3.out).trans HK6.out.tk⟩
   · rw [if_neg hv] at HE3
     have HE4 := hQ' HE3.out
     have e2 : (v == 0) = false := by rw [beq_eq_false_iff_ne]; exact hv
     clear HE3 hT hK
     unfold encI
     go_wp2_with fail
     go_ret
     exact TPost.some HE4.out.symm ⟨rfl, HT3.out, (TK.ofUp HU.out).trans HK3.out⟩
theorem libRel_any (o : ObjD) (rel : Op Unit) (me : Int) (g B : Nat) (s0 : TS) (W : World) (h : Tape1 W g B s0)
 (hl : ∀ W', Up W W' → Tape1 W' g B s0 → Calls Tryz.prog 208 #[.pointer (some ⟨g, 0, none⟩), .agg #[.int .i64 o.lk.alg, .int .i64 o.lk.n, .int .i64 o.lk.mode, .int .i64 o.lk.base, .int .i64 o.lk.loc, .int .i64 o.lk.room], .int .i64 me] W' (TPost encU g B W' (rel.onT s0))) :
 Calls Tryz.prog 155 #[.pointer (some ⟨g, 0, none⟩), objV o, .int .i64 me] W (TPost encI g B W ((libRel o.loc rel).onT s0)) := by
 obtain ⟨R, hE⟩ : ∃ R, (libRel o.loc rel).onT s0 = R := ⟨_, rfl⟩
 rw [hE]
 unfold objV objA
 have hb := heap_alloc_new W (.cells #[.int .i64 o.th.kind, .int .i64 o.th.alg, .int .i64 o.th.mode, .int .i64 o.th.room, .int .i64 o.th.arg, .int .i64 o.th.writer, .int .i64 o.th.reader, .int .i64 o.th.top, .int .i64 o.lk.alg, .int .i64 o.lk.n, .int .i64 o.lk.mode, .int .i64 o.lk.base, .int .i64 o.lk.loc, .int .i64 o.lk.room, .int .i64 o.rg.kind, .int .i64 o.rg.base, .int .i64 o.rg.loc, .int .i64 o.rg.n, .int .i64 o.rg.writer, .int .i64 o.rg.reader, .int .i64 o.rg.top, .int .i64 o.base, .int .i64 o.loc] 132)
 have hu : Up W (W.alloc (.cells #[.int .i64 o.th.kind, .int .i64 o.th.alg, .int .i64 o.th.mode, .int .i64 o.th.room, .int .i64 o.th.arg, .int .i64 o.th.writer, .int .i64 o.th.reader, .int .i64 o.th.top, .int .i64 o.lk.alg, .int .i64 o.lk.n, .int .i64 o.lk.mode, .int .i64 o.lk.base, .int .i64 o.lk.loc, .int .i64 o.lk.room, .int .i64 o.rg.kind, .int .i64 o.rg.base, .int .i64 o.rg.loc, .int .i64 o.rg.n, .int .i64 o.rg.writer, .int .i64 o.rg.reader, .int .i64 o.rg.top, .int .i64 o.base, .int .i64 o.loc] 132)) := (Up.refl W).alloc _
 have hg : W.heap.size ≠ g := by have := h.1.gs; omega
 have HK := hQ' (show TWk (W.alloc (.cells #[.int .i64 o.th.kind, .int .i64 o.th.alg, .int .i64 o.th.mode, .int .i64 o.th.room, .int .i64 o.th.arg, .int .i64 o.th.writer, .int .i64 o.th.reader, .int .i64 o.th.top, .int .i64 o.lk.alg, .int .i64 o.lk.n, .int .i64 o.lk.mode, .int .i64 o.lk.base, .int .i64 o.lk.loc, .int .i64 o.lk.room, .int .i64 o.rg.kind, .int .i64 o.rg.base, .int .i64 o.rg.loc, .int .i64 o.rg.n, .int .i64 o.rg.writer, .int .i64 o.rg.reader, .int .i64 o.rg.top, .int .i64 o.base, .int .i64 o.loc] 132)) g B s0.ans s0.nts.length _ s0 from TWk.start (h.up hu))
 have HU := hQ' hu
 have HE := hQ' hE
 have HQ := hQ' (fun (W' : World) (u : Up (W.alloc (.cells #[.int .i64 o.th.kind, .int .i64 o.th.alg, .int .i64 o.th.mode, .int .i64 o.th.room, .int .i64 o.th.arg, .int .i64 o.th.writer, .int .i64 o.th.reader, .int .i64 o.th.top, .int .i64 o.lk.alg, .int .i64 o.lk.n, .int .i64 o.lk.mode, .int .i64 o.lk.base, .int .i64 o.lk.loc, .int .i64 o.lk.room, .int .i64 o.rg.kind, .int .i64 o.rg.base, .int .i64 o.rg.loc, .int .i64 o.rg.n, .int .i64 o.rg.writer, .int .i64 o.rg.reader, .int .i64 o.rg.top, .int .i64 o.base, .int .i64 o.loc] 132)) W') (ht : Tape1 W' g B s0) => hl W' (hu.trans u) ht)
 have HBY := hQ' (fun (wr : World) (hk : TK g B (W.alloc (.cells #[.int .i64 o.th.kind, .int .i64 o.th.alg, .int .i64 o.th.mode, .int .i64 o.th.room, .int .i64 o.th.arg, .int .i64 o.th.writer, .int .i64 o.th.reader, .int .i64 o.th.top, .int .i64 o.lk.alg, .int .i64 o.lk.n, .int .i64 o.lk.mode, .int .i64 o.lk.base, .int .i64 o.lk.loc, .int .i64 o.lk.room, .int .i64 o.rg.kind, .int .i64 o.rg.base, .int .i64 o.rg.loc, .int .i64 o.rg.n, .int .i64 o.rg.writer, .int .i64 o.rg.reader, .int .i64 o.rg.top, .int .i64 o.base, .int .i64 o.loc] 132)) wr) => (hk.block W.heap.size (Array.getElem?_eq_some_iff.1 hb).1 hg (Far.obj hb)).trans hb)
 have HBX := hQ' (fun (wr : World) (s : TS) (m : Nat) (hk : TWk (W.alloc (.cells #[.int .i64 o.th.kind, .int .i64 o.th.alg, .int .i64 o.th.mode, .int .i64 o.th.room, .int .i64 o.th.arg, .int .i64 o.th.writer, .int .i64 o.th.reader, .int .i64 o.th.top, .int .i64 o.lk.alg, .int .i64 o.lk.n, .int .i64 o.lk.mode, .int .i64 o.lk.base, .int .i64 o.lk.loc, .int .i64 o.lk.room, .int .i64 o.rg.kind, .int .i64 o.rg.base, .int .i64 o.rg.loc, .int .i64 o.rg.n, .int .i64 o.rg.writer, .int .i64 o.rg.reader, .int .i64 o.rg.top, .int .i64 o.base, .int .i64 o.loc] 132)) g B s0.ans m wr s) => hk.block hb hg (by decide))
 have c8 := cell_of_row _ _ 8 _ _ _ hb
 have c9 := cell_of_row _ _ 9 _ _ _ hb
 have c10 := cell_of_row _ _ 10 _ _ _ hb
 have c11 := cell_of_row _ _ 11 _ _ _ hb
 have c12 := cell_of_row _ _ 12 _ _ _ hb
 have c13 := cell_of_row _ _ 13 _ _ _ hb
 have c22 := cell_of_row _ _ 22 _ _ _ hb
 simp only [gA_T, gA_0, gA_S] at c8 c9 c10 c11 c12 c13 c22
 clear hb hu hg h hE hl
 unfold libRel at HE
 go_enter Tryz.func155, Tryz.ntmps155
 go_wp2_with fail
 generalize W.alloc (.cells #[.int .i64 o.th.kind, .int .i64 o.th.alg, .int .i64 o.th.mode, .int .i64 o.th.room, .int .i64 o.th.arg, .int .i64 o.th.writer, .int .i64 o.th.reader, .int .i64 o.th.top, .int .i64 o.lk.alg, .int .i64 o.lk.n, .int .i64 o.lk.mode, .int .i64 o.lk.base, .int .i64 o.lk.loc, .int .i64 o.lk.room, .int .i64 o.rg.kind, .int .i64 o.rg.base, .int .i64 o.rg.loc, .int .i64 o.rg.n, .int .i64 o.rg.writer, .int .i64 o.rg.reader, .int .i64 o.rg.top, .int .i64 o.base, .int .i64 o.loc] 132) = W1 at *
 refine (get_ask HK.out HE.out).mono ?_
 rintro e w2 ⟨rfl, hw2, HE2⟩
 subst hw2
 try dsimp only at HE2
 clear HE
 by_cases hh : s0.get o.loc = 1
 rotate_left
 · rw [if_neg hh] at HE2
   have e1 : (s0.get o.loc != 1) = true := by rw [bne_iff_ne]; exact hh
   generalize s0.get o.loc = x at *
   have HE3 := hQ' HE2.out
   clear HE2
   go_wp2_with fail
   go_ret
   exact TPost.some HE3.out.symm ⟨rfl, HK.out.tape, HK.out.base HU.out⟩
 · rw [if_pos hh] at HE2
   rw [hh]
   go_wp2_with fail
   refine (call_step (HQ.out _ (Up.refl _) HK.out.tape) HE2.out).mono ?_
   rintro e w3 (⟨s', rfl, hT, hK, hR⟩ | ⟨v, s1, rfl, hT, hK, HE3⟩)
   · go_wp2_with fail
     exact ⟨rfl, TPost.none hR.out ⟨rfl, hT.out, (TK.ofUp HU.out).trans hK.out⟩⟩
   have HK3 := hQ' (show TK g B w2 w3 from hK.out)
   try dsimp only at HE3
   have HK5 := hQ' (show TWk w3 g B s1.ans s1.nts.length w3 s1 from TWk.start hT.out)
   clear HE2 c8 c9 c10 c11 c12 c13 c22
   have c22 := cell_of_row _ _ 22 _ _ _ (HBY.out w3 hK.out)
   simp only [gA_T, gA_0, gA_S] at c22
   clear hT hK
   go_wp2_with fail
   refine (set_ask HK5.out HE3.out).mono ?_
   rintro e w4 ⟨rfl, HE5, HK6, -⟩
   clear c22
   go_wp2_with fail
   go_ret
   exact TPost.some HE5.out.symm ⟨rfl, HK6.out.tape, ((TK.ofUp HU.out).trans HK3.out).trans HK6.out.tk⟩
end Go.Proofs.YtpodgcpkccpnfaaGreat

namespace Go.Proofs.YtpodgcpkccpnfaaGreat
open Go.RowKit
theorem within_ok (n lo hi : Int) (h1 : lo ≤ n) (h2 : n ≤ hi) (w : World) : Calls Tryz.prog 70 #[.int .i64 n, .int .i64 lo, .int .i64 hi] w fun e w' => e = .returned (.bool true) ∧ w' = w := by
 go_enter Tryz.func70, Tryz.ntmps70
 go_wp2_with fail
 go_ret
 exact ⟨rfl, rfl⟩
def fineCallP (c : CD) : Prop := (1 ≤ c.1 ∧ c.1 ≤ 17) ∧ (0 ≤ c.2.1 ∧ c.2.1 ≤ 7) ∧ 0 ≤ c.2.2 ∧ c.2.2 ≤ 1048576
theorem fineCall_ok (x0 x1 x2 : Int) (h : fineCallP (x0, x1, x2)) (w : World) : Calls Tryz.prog 71 #[.agg #[.int .i64 x0, .int .i64 x1, .int .i64 x2]] w fun e w' => e = .returned (.bool true) ∧ Up w w' := by
 obtain ⟨⟨a1, a2⟩, ⟨a3, a4⟩, a5, a6⟩ := h
 dsimp only at a1 a2 a3 a4 a5 a6
 have W0 := hQ' (fun w => within_ok x0 1 17 a1 a2 w)
 have W1 := hQ' (fun w => within_ok x1 0 7 a3 a4 w)
 have W2 := hQ' (fun w => within_ok x2 0 1048576 a5 a6 w)
 have hb := heap_alloc_new w (.cells #[.int .i64 x0, .int .i64 x1, .int .i64 x2] 65)
 have c0 := cell_of_row _ _ 0 _ _ _ hb
 have c1 := cell_of_row _ _ 1 _ _ _ hb
 have c2 := cell_of_row _ _ 2 _ _ _ hb
 simp only [gA_T, gA_0, gA_S] at c0 c1 c2
 have HU := hQ' ((Up.refl w).alloc (.cells #[.int .i64 x0, .int .i64 x1, .int .i64 x2] 65))
 clear hb a1 a2 a3 a4 a5 a6
 go_enter Tryz.func71, Tryz.ntmps71
 go_wp2_with fail
 refine (W0.out _).mono ?_
 rintro e w1 ⟨rfl, rfl⟩
 go_wp2_with fail
 refine (W1.out _).mono ?_
 rintro e w1 ⟨rfl, rfl⟩
 go_wp2_with fail
 refine (W2.out _).mono ?_
 rintro e w1 ⟨rfl, rfl⟩
 go_wp2_with fail
 go_ret
 exact ⟨rfl, HU.out⟩
def finePickP (n : Nat) (p : PickD) : Prop := (0 ≤ p.thread ∧ p.thread ≤ n - 1) ∧ (p.halt = true ∧ p.times = 0 ∨ p.halt = false ∧ 1 ≤ p.times ∧ p.times ≤ 255)
theorem finePick_ok (n : Nat) (hn : n ≤ 8) (p : PickD) (h : finePickP n p) (w : World) : Calls Tryz.prog 72 #[.agg #[.int .i64 p.thread, .int .i64 p.times, .bool p.halt], .int .i64 n] w fun e w' => e = .returned (.bool true) ∧ Up w w' := by
 obtain ⟨t, k, hb⟩ := p
 obtain ⟨⟨a1, a2⟩, a3⟩ := h
 dsimp only at a1 a2 a3 ⊢
 have W0 := hQ' (fun w => within_ok t 0 ((n : Int) - 1) a1 a2 w)
 have hw : wrap64 ((n : Int) - 1) = (n : Int) - 1 := IntWalk.wrap64_in _ (by omega)
 have hbb := heap_alloc_new w (.cells #[.int .i64 t, .int .i64 k, .bool hb] 68)
 have c0 := cell_of_row _ _ 0 _ _ _ hbb
 have c1 := cell_of_row _ _ 1 _ _ _ hbb
 have c2 := cell_of_row _ _ 2 _ _ _ hbb
 simp only [gA_T, gA_0, gA_S] at c0 c1 c2
 have HU := hQ' ((Up.refl w).alloc (.cells #[.int .i64 t, .int .i64 k, .bool hb] 68))
 clear hbb a1 a2
 rcases a3 with ⟨rfl, rfl⟩ | ⟨rfl, a4, a5⟩
 · go_enter Tryz.func72, Tryz.ntmps72
   go_wp2_with fail
   refine (W0.out _).mono ?_
   rintro e w1 ⟨rfl, rfl⟩
   go_wp2_with fail
   go_ret
   exact ⟨rfl, HU.out⟩
 · have W1 := hQ' (fun w => within_ok k 1 255 a4 a5 w)
   go_enter Tryz.func72, Tryz.ntmps72
   go_wp2_with fail
   refine (W0.out _).mono ?_
   rintro e w1 ⟨rfl, rfl⟩
   go_wp2_with fail
   refine (W1.out _).mono ?_
   rintro e w1 ⟨rfl, rfl⟩
   go_wp2_with fail
   go_ret
   exact ⟨rfl, HU.out⟩
def fineThingP (t : ThingD) : Prop := ((1 ≤ t.kind ∧ t.kind ≤ 8) ∧ (0 ≤ t.alg ∧ t.alg ≤ 8) ∧ (0 ≤ t.mode ∧ t.mode ≤ 3) ∧ 0 ≤ t.room ∧ t.room ≤ 1048576) ∧ (0 ≤ t.arg ∧ t.arg ≤ 8) ∧ (-1 ≤ t.writer ∧ t.writer ≤ 7) ∧ (-1 ≤ t.reader ∧ t.reader ≤ 7) ∧ 0 ≤ t.top ∧ t.top ≤ 1048576
theorem fineThing_ok (t : ThingD) (h : fineThingP t) (w : World) : Calls Tryz.prog 73 #[.agg #[.int .i64 t.kind, .int .i64 t.alg, .int .i64 t.mode, .int .i64 t.room, .int .i64 t.arg, .int .i64 t.writer, .int .i64 t.reader, .int .i64 t.top]] w fun e w' => e = .returned (.bool true) ∧ Up w w' := by
 obtain ⟨x0, x1, x2, x3, x4, x5, x6, x7⟩ := t
 obtain ⟨⟨⟨a0, b0⟩, ⟨a1, b1⟩, ⟨a2, b2⟩, a3, b3⟩, ⟨a4, b4⟩, ⟨a5, b5⟩, ⟨a6, b6⟩, a7, b7⟩ := h
 dsimp only at a0 b0 a1 b1 a2 b2 a3 b3 a4 b4 a5 b5 a6 b6 a7 b7 ⊢
 have W0 := hQ' (fun w => within_ok x0 1 8 a0 b0 w)
 have W1 := hQ' (fun w => within_ok x1 0 8 a1 b1 w)
 have W2 := hQ' (fun w => within_ok x2 0 3 a2 b2 w)
 have W3 := hQ' (fun w => within_ok x3 0 1048576 a3 b3 w)
 have W4 := hQ' (fun w => within_ok x4 0 8 a4 b4 w)
 have W5 := hQ' (fun w => within_ok x5 (-1) 7 a5 b5 w)
 have W6 := hQ' (fun w => within_ok x6 (-1) 7 a6 b6 w)
 have W7 := hQ' (fun w => within_ok x7 0 1048576 a7 b7 w)
 have hb := heap_alloc_new w (.cells #[.int .i64 x0, .int .i64 x1, .int .i64 x2, .int .i64 x3, .int .i64 x4, .int .i64 x5, .int .i64 x6, .int .i64 x7] 46)
 have c0 := cell_of_row _ _ 0 _ _ _ hb
 have c1 := cell_of_row _ _ 1 _ _ _ hb
 have c2 := cell_of_row _ _ 2 _ _ _ hb
 have c3 := cell_of_row _ _ 3 _ _ _ hb
 have c4 := cell_of_row _ _ 4 _ _ _ hb
 have c5 := cell_of_row _ _ 5 _ _ _ hb
 have c6 := cell_of_row _ _ 6 _ _ _ hb
 have c7 := cell_of_row _ _ 7 _ _ _ hb
 simp only [gA_T, gA_0, gA_S] at c0 c1 c2 c3 c4 c5 c6 c7
 have HU := hQ' ((Up.refl w).alloc (.cells #[.int .i64 x0, .int .i64 x1, .int .i64 x2, .int .i64 x3, .int .i64 x4, .int .i64 x5, .int .i64 x6, .int .i64 x7] 46))
 clear hb a0 b0 a1 b1 a2 b2 a3 b3 a4 b4 a5 b5 a6 b6 a7 b7
 go_enter Tryz.func73, Tryz.ntmps73
 go_wp2_with fail
 refine (W0.out _).mono ?_
 rintro e w1 ⟨rfl, rfl⟩
 go_wp2_with fail
 refine (W1.out _).mono ?_
 rintro e w1 ⟨rfl, rfl⟩
 go_wp2_with fail
 refine (W2.out _).mono ?_
 rintro e w1 ⟨rfl, rfl⟩
 go_wp2_with fail
 refine (W3.out _).mono ?_
 rintro e w1 ⟨rfl, rfl⟩
 go_wp2_with fail
 refine (W4.out _).mono ?_
 rintro e w1 ⟨rfl, rfl⟩
 go_wp2_with fail
 refine (W5.out _).mono ?_
 rintro e w1 ⟨rfl, rfl⟩
 go_wp2_with fail
 refine (W6.out _).mono ?_
 rintro e w1 ⟨rfl, rfl⟩
 go_wp2_with fail
 refine (W7.out _).mono ?_
 rintro e w1 ⟨rfl, rfl⟩
 go_wp2_with fail
 go_ret
 exact ⟨rfl, HU.out⟩
end Go.Proofs.YtpodgcpkccpnfaaGreat

namespace Go.Proofs.YtpodgcpkccpnfaaGreat
open Go.RowKit
structure SD where
 many : Int
 kind : Int
 top : Int
def sd0 : SD := ⟨0, 0, 0⟩
def fineS (s : SD) : Bool := decide (0 ≤ s.many) && (decide (1 ≤ s.kind) && (decide (s.kind ≤ 3) && (decide (0 ≤ s.top) && decide (s.top ≤ 1099511627776))))
theorem fineS_any (s : SD) (w : World) : Calls Tryz.prog 108 #[.agg #[.int .i64 s.many, .int .i64 s.kind, .int .i64 s.top]] w fun e w' => e = .returned (.bool (fineS s)) ∧ Up w w' := by
 obtain ⟨M, K, T⟩ := s
 have hb := heap_alloc_new w (.cells #[.int .i64 M, .int .i64 K, .int .i64 T] 152)
 have x0 : (w.alloc (.cells #[.int .i64 M, .int .i64 K, .int .i64 T] 152)).cell? ⟨w.heap.size, 0, none⟩ = some (.int .i64 M) := cell_of_row _ _ 0 _ _ _ hb
 have x1 : (w.alloc (.cells #[.int .i64 M, .int .i64 K, .int .i64 T] 152)).cell? ⟨w.heap.size, 1, none⟩ = some (.int .i64 K) := cell_of_row _ _ 1 _ _ _ hb
 have x2 : (w.alloc (.cells #[.int .i64 M, .int .i64 K, .int .i64 T] 152)).cell? ⟨w.heap.size, 2, none⟩ = some (.int .i64 T) := cell_of_row _ _ 2 _ _ _ hb
 have HU := hQ' ((Up.refl w).alloc (.cells #[.int .i64 M, .int .i64 K, .int .i64 T] 152))
 have HF : Hid (fineS ⟨M, K, T⟩ = (decide (0 ≤ M) && (decide (1 ≤ K) && (decide (K ≤ 3) && (decide (0 ≤ T) && decide (T ≤ 1099511627776)))))) := hQ' rfl
 clear hb
 cases h0 : decide (0 ≤ M) <;> cases h1 : decide (1 ≤ K) <;> cases h2 : decide (K ≤ 3) <;> cases h3 : decide (0 ≤ T) <;> cases h4 : decide (T ≤ 1099511627776)
 all_goals
  rw [h0, h1, h2, h3, h4] at HF
  go_enter Tryz.func108, Tryz.ntmps108
  go_wp2_with fail
  go_ret
  exact ⟨by rw [HF.out]; rfl, HU.out⟩
def StripRow (w : World) (A : Option Addr) (l : List SD) : Prop := ∀ k, k < l.length → ∃ b off, A = some ⟨b, off, none⟩ ∧
 w.cell? ⟨b, off + k * 3, none⟩ = some (.int .i64 (l.getD k sd0).many) ∧ w.cell? ⟨b, off + k * 3 + 1, none⟩ = some (.int .i64 (l.getD k sd0).kind) ∧ w.cell? ⟨b, off + k * 3 + 2, none⟩ = some (.int .i64 (l.getD k sd0).top)
theorem StripRow.up {w w' : World} {A : Option Addr} {l : List SD} (h : StripRow w A l) (u : Up w w') : StripRow w' A l := fun k hk => by
 obtain ⟨b, off, e, h0, h1, h2⟩ := h k hk
 exact ⟨b, off, e, (u.cell (cell_lt h0)).trans h0, (u.cell (cell_lt h1)).trans h1, (u.cell (cell_lt h2)).trans h2⟩
def minI (a b : Int) : Int := if b < a then b else a
def cntK (l : List SD) : Nat → Int
 | 0 => 0
 | k + 1 => minI (cntK l k + minI (l.getD k sd0).many 32769) 32769
def allF (l : List SD) (k : Nat) : Bool := (List.range k).all fun i => fineS (l.getD i sd0)
def countP (l : List SD) : Int × Int := if allF l l.length then (if 32768 < cntK l l.length then (0, 5) else (cntK l l.length, 0)) else (0, 1)
end Go.Proofs.YtpodgcpkccpnfaaGreat

namespace Go.Proofs.YtpodgcpkccpnfaaGreat
open Go.RowKit
theorem cntK_in {l : List SD} : ∀ {k}, allF l k = true → 0 ≤ cntK l k ∧ cntK l k ≤ 32769
 | 0, _ => by unfold cntK; omega
 | k + 1, h => by
  have h1 : allF l k = true ∧ fineS (l.getD k sd0) = true := by
   unfold allF at h ⊢
   rw [List.range_succ, List.all_append, Bool.and_eq_true] at h
   exact ⟨h.1, by simpa using h.2⟩
  have ih := cntK_in h1.1
  have h2 : 0 ≤ (l.getD k sd0).many := by
   have := h1.2
   unfold fineS at this
   rw [Bool.and_eq_true] at this
   exact of_decide_eq_true this.1
  unfold cntK minI
  split <;> split <;> omega
theorem allF_succ {l : List SD} {k : Nat} : allF l (k + 1) = (allF l k && fineS (l.getD k sd0)) := by
 unfold allF; rw [List.range_succ, List.all_append]; simp
theorem allF_no {l : List SD} {k n : Nat} (hk : k < n) (h : fineS (l.getD k sd0) = false) : allF l n = false := by
 unfold allF
 rw [List.all_eq_false]; exact ⟨k, List.mem_range.2 hk, by rw [h]; simp⟩
theorem count_any (l : List SD) (A : Option Addr) (c : Nat) (w : World) (hl : l.length ≤ 9223372036854775807) (hr : StripRow w A l) :
 Calls Tryz.prog 79 #[.slice A l.length c] w fun e w' => e = .returned (.tuple #[.int .i64 (countP l).1, .int .i64 (countP l).2]) ∧ Up w w' := by
 have HR := hQ' hr
 have hli : (l.length : Int) ≤ 9223372036854775807 := by omega
 have HA0 : Hid (allF l 0 = true) := hQ' rfl
 have HCP : Hid (countP l = if allF l l.length then (if 32768 < cntK l l.length then (0, 5) else (cntK l l.length, 0)) else (0, 1)) := hQ' rfl
 have HST : Hid (∀ k, cntK l (k + 1) = minI (cntK l k + minI (l.getD k sd0).many 32769) 32769) := hQ' (fun _ => rfl)
 have HIN := hQ' (fun k (h : allF l k = true) => cntK_in h)
 clear hr hl
 go_enter Tryz.func79, Tryz.ntmps79
 go_wp2_with fail
 go_loopw [4, 9] (fun m x wr => ∃ k : Nat, k ≤ l.length ∧ x = .int .i64 k ∧ m = .int .i64 (cntK l k) ∧ Hid (allF l k = true) ∧ Hid (Up w wr)) (fun _ x _ => l.length - (intOf x).toNat)
 case atStart => exact ⟨0, by omega, rfl, rfl, HA0, hQ' (Up.refl _)⟩
 case round =>
  obtain ⟨k, hk, rfl, rfl, HA, HV⟩ := hrel
  have HC := hQ' (HIN.out k HA.out)
  obtain ⟨hc0, hc1⟩ := HC.out
  by_cases hlt : k < l.length
  · have hki : (k : Int) < l.length := by omega
    have hk0 : (0 : Int) ≤ k := by omega
    have HLT := hQ' hlt
    obtain ⟨b, off, rfl, x0, x1, x2⟩ := HR.out.up HV.out k hlt
    have HFS := hQ' (fun W => fineS_any (l.getD k sd0) W)
    have HS := hQ' (HST.out k)
    have HAS : Hid (allF l (k + 1) = (allF l k && fineS (l.getD k sd0))) := hQ' allF_succ
    have HNO := hQ' (fun (h : fineS (l.getD k sd0) = false) => allF_no (n := l.length) hlt h)
    have HIK := hQ' (fun (h : allF l (k + 1) = true) => HIN.out (k + 1) h)
    generalize hfs : fineS (l.getD k sd0) = fs at *
    have HFE := hQ' hfs
    clear hfs
    generalize l.getD k sd0 = s at *
    obtain ⟨M, K, T⟩ := s
    dsimp only at x0 x1 x2 HFS HS
    have HB := hQ' (heap_alloc_new wr (.cells #[.int .i64 M, .int .i64 K, .int .i64 T] 152))
    have y0 : (wr.alloc (.cells #[.int .i64 M, .int .i64 K, .int .i64 T] 152)).cell? ⟨wr.heap.size, 0, none⟩ = some (.int .i64 M) := cell_of_row _ _ 0 _ _ _ HB.out
    have y1 : (wr.alloc (.cells #[.int .i64 M, .int .i64 K, .int .i64 T] 152)).cell? ⟨wr.heap.size, 1, none⟩ = some (.int .i64 K) := cell_of_row _ _ 1 _ _ _ HB.out
    have y2 : (wr.alloc (.cells #[.int .i64 M, .int .i64 K, .int .i64 T] 152)).cell? ⟨wr.heap.size, 2, none⟩ = some (.int .i64 T) := cell_of_row _ _ 2 _ _ _ HB.out
    have HUA := hQ' ((Up.refl wr).alloc (.cells #[.int .i64 M, .int .i64 K, .int .i64 T] 152))
    clear hlt hk
    go_wp2_with fail
    refine (HFS.out _).mono ?_
    rintro e w2 ⟨rfl, hu2⟩
    have HU2 := hQ' (HV.out.trans (HUA.out.trans hu2))
    have hb2 := (hu2.block wr.heap.size (by simp)).trans HB.out
    have z0 : w2.cell? ⟨wr.heap.size, 0, none⟩ = some (.int .i64 M) := cell_of_row _ _ 0 _ _ _ hb2
    clear hu2 hb2 y0 y1 y2 x0 x1 x2
    cases fs
    · have HNA := hQ' (HNO.out (by first | rfl | trivial))
      go_wp2_with fail
      go_ret2
      exact ⟨by rw [HCP.out, HNA.out]; rfl, HU2.out⟩
    · have hm0 : 0 ≤ M := by
       have := HFE.out
       unfold fineS at this
       rw [Bool.and_eq_true] at this
       exact of_decide_eq_true this.1
      have HA2 : Hid (allF l (k + 1) = true) := hQ' (by rw [HAS.out, HA.out]; rfl)
      go_wp2_with fail
      go_roundw
      case rel => exact ⟨k + 1, HLT.out, by go_num, by rw [HS.out]; rfl, HA2, HU2⟩
      case measure => simp [intOf]; omega
  · obtain rfl : k = l.length := by omega
    clear hlt hk
    by_cases hbig : 32768 < cntK l l.length
    · have hE : Hid (countP l = (0, 5)) := hQ' (by rw [HCP.out, if_pos HA.out, if_pos hbig])
      go_wp2_with fail
      go_ret2
      exact ⟨by rw [hE.out]; rfl, HV.out⟩
    · have hE : Hid (countP l = (cntK l l.length, 0)) := hQ' (by rw [HCP.out, if_pos HA.out, if_neg hbig])
      have hd : decide (32768 < cntK l l.length) = false := decide_eq_false hbig
      go_wp2_with fail
      go_ret2
      exact ⟨by rw [hE.out]; rfl, HV.out⟩
end Go.Proofs.YtpodgcpkccpnfaaGreat

namespace Go.Proofs.YtpodgcpkccpnfaaGreat
open Go.RowKit
def endK (l : List SD) : Nat → Int
 | 0 => 0
 | k + 1 => if 0 < (l.getD k sd0).many then endK l k + (l.getD k sd0).many else endK l k
def runsK (l : List SD) : Nat → List (Int × SD)
 | 0 => []
 | k + 1 => if 0 < (l.getD k sd0).many then runsK l k ++ [(endK l (k + 1), l.getD k sd0)] else runsK l k
def rcell (r : Int × SD) : List Value := [.int .i64 r.1, .int .i64 r.2.many, .int .i64 r.2.kind, .int .i64 r.2.top]
def rcells (l : List (Int × SD)) : List Value := l.flatMap rcell
theorem rcells_append (l m : List (Int × SD)) : rcells (l ++ m) = rcells l ++ rcells m := by unfold rcells; rw [List.flatMap_append]
theorem runsK_len (l : List SD) : ∀ k, (runsK l k).length ≤ k
 | 0 => Nat.le_refl _
 | k + 1 => by
  have := runsK_len l k
  unfold runsK
  split
  · rw [List.length_append]; exact Nat.succ_le_succ this
  · omega
theorem cnt_end {l : List SD} : ∀ {k}, allF l k = true → cntK l k ≤ 32768 → endK l k = cntK l k
 | 0, _, _ => rfl
 | k + 1, h, hc => by
  rw [allF_succ, Bool.and_eq_true] at h
  have hin := cntK_in h.1
  have h2 : 0 ≤ (l.getD k sd0).many := by
   have := h.2
   unfold fineS at this
   rw [Bool.and_eq_true] at this
   exact of_decide_eq_true this.1
  unfold cntK minI at hc ⊢
  have hk : cntK l k ≤ 32768 := by split at hc <;> split at hc <;> omega
  have ih := cnt_end h.1 hk
  unfold endK
  split <;> split <;> split <;> (try split at hc) <;> (try split at hc) <;> omega
end Go.Proofs.YtpodgcpkccpnfaaGreat
namespace Go.Proofs.YtpodgcpkccpnfaaGreat
open Go.RowKit
def pickK (l : List SD) (n : Int) : Nat → Option SD
 | 0 => none
 | k + 1 => (pickK l n k).or (if 0 < (l.getD k sd0).many ∧ n < endK l (k + 1) then some (l.getD k sd0) else none)
def mkP (l : List SD) (n : Int) : CS := match pickK l n l.length with | some s => CS.new s.kind s.top | none => CS.new 0 0
theorem runs_find (l : List SD) (n : Int) : ∀ k, ((runsK l k).find? (fun r => decide (n < r.1))).map (·.2) = pickK l n k
 | 0 => rfl
 | k + 1 => by
  have ih := runs_find l n k
  unfold runsK pickK
  by_cases hm : 0 < (l.getD k sd0).many
  · rw [if_pos hm, List.find?_append]
    cases hf : (runsK l k).find? (fun r => decide (n < r.1)) with
    | some x => rw [hf] at ih; rw [← ih]; rfl
    | none =>
     rw [hf] at ih
     rw [← ih]
     by_cases hn : n < endK l (k + 1)
     · rw [if_pos ⟨hm, hn⟩]; simp [hn]
     · rw [if_neg (fun h => hn h.2)]; simp [hn]
  · rw [if_neg hm, if_neg (fun h => hm h.1), ih]; simp
theorem count_find {α : Type} (p : α → Bool) : ∀ rs : List α, rs.Pairwise (fun a b => p a = true → p b = true) → rs[rs.countP (fun r => !p r)]? = rs.find? p
 | [], _ => rfl
 | a :: rs, h => by
  rw [List.pairwise_cons] at h
  cases ha : p a
  · rw [List.countP_cons_of_pos (by simp [ha]), List.find?_cons, ha, List.getElem?_cons_succ]
    exact count_find p rs h.2
  · have h0 : rs.countP (fun r => !p r) = 0 := by
     rw [List.countP_eq_zero]
     intro b hb
     simp [h.1 b hb ha]
    rw [List.countP_cons_of_neg (by simp [ha]), h0, List.find?_cons, ha]
    rfl
theorem runs_ends (l : List SD) : ∀ k, (∀ r ∈ runsK l k, r.1 ≤ endK l k) ∧ (runsK l k).Pairwise (fun a b => a.1 ≤ b.1)
 | 0 => ⟨fun r h => (by cases h), List.Pairwise.nil⟩
 | k + 1 => by
  obtain ⟨h1, h2⟩ := runs_ends l k
  unfold runsK
  by_cases hm : 0 < (l.getD k sd0).many
  · have he : endK l (k + 1) = endK l k + (l.getD k sd0).many := by
     show (if 0 < (l.getD k sd0).many then _ else _) = _
     rw [if_pos hm]
    rw [if_pos hm]
    refine ⟨fun r hr => ?_, ?_⟩
    · rcases List.mem_append.1 hr with hr | hr
      · have := h1 r hr; omega
      · rw [List.mem_singleton] at hr; rw [hr]; exact Int.le_refl _
    · rw [List.pairwise_append]
      refine ⟨h2, List.pairwise_singleton _ _, fun a ha b hb => ?_⟩
      rw [List.mem_singleton] at hb
      have := h1 a ha
      rw [hb]
      show a.1 ≤ endK l (k + 1)
      omega
  · have he : endK l (k + 1) = endK l k := by
     show (if 0 < (l.getD k sd0).many then _ else _) = _
     rw [if_neg hm]
    rw [if_neg hm, he]
    exact ⟨h1, h2⟩
theorem pick_some (l : List SD) (n : Int) (h0 : 0 ≤ n) : ∀ k, n < endK l k → (pickK l n k).isSome = true
 | 0, h => by unfold endK at h; omega
 | k + 1, h => by
  unfold pickK
  by_cases hk : n < endK l k
  · have := pick_some l n h0 k hk
    cases hp : pickK l n k with
    | none => rw [hp] at this; cases this
    | some x => rfl
  · have hm : 0 < (l.getD k sd0).many := by
     unfold endK at h
     split at h
     · assumption
     · omega
    rw [if_pos ⟨hm, h⟩]
    cases pickK l n k <;> rfl
theorem runs_at (l : List SD) (n : Int) (h0 : 0 ≤ n) (k : Nat) (h : n < endK l k) : ∃ r s, (runsK l k)[(runsK l k).countP (fun r => !decide (n < r.1))]? = some r ∧ pickK l n k = some s ∧ r.2 = s := by
 rw [count_find (fun r => decide (n < r.1)) _ ((runs_ends l k).2.imp fun {a b} hab ha => by have := of_decide_eq_true ha; exact decide_eq_true (by omega))]
 have h1 := runs_find l n k
 have h2 := pick_some l n h0 k h
 cases hf : (runsK l k).find? (fun r => decide (n < r.1)) with
 | none => rw [hf] at h1; rw [← h1] at h2; cases h2
 | some r => rw [hf] at h1; exact ⟨r, r.2, rfl, h1.symm, rfl⟩
theorem rcells_at (l : List (Int × SD)) : ∀ k r, l[k]? = some r → ∀ j, j < 4 → (rcells l)[k * 4 + j]? = (rcell r)[j]? := by
 induction l with
 | nil => intro k r hk; cases hk
 | cons a l ih =>
  intro k r hk j hj
  have e : rcells (a :: l) = rcell a ++ rcells l := rfl
  have e4 : (rcell a).length = 4 := rfl
  rw [e]
  cases k with
  | zero =>
   rw [Nat.zero_mul, Nat.zero_add, List.getElem?_append_left (by omega)]
   rw [List.getElem?_cons_zero, Option.some.injEq] at hk
   rw [hk]
  | succ k =>
   rw [List.getElem?_append_right (by omega), e4, show (k + 1) * 4 + j - 4 = k * 4 + j by omega]
   exact ih k r hk j hj
end Go.Proofs.YtpodgcpkccpnfaaGreat

namespace Go.Proofs.YtpodgcpkccpnfaaGreat
open Go.RowKit
theorem readN_few (c : CS) : ∀ k, (readN c k).may.length ≤ k + 1
 | 0 => by unfold readN; split <;> simp
 | k + 1 => by
  have := readN_few c k
  unfold readN
  split
  · unfold ovl
    split
    · simp; omega
    · simp; omega
  · omega
theorem readN_none (c : CS) (h : c.kind ≠ 2) : ∀ k, (readN c k).may = []
 | 0 => by unfold readN; rw [if_neg h]
 | k + 1 => by
  have := readN_none c h k
  unfold readN
  split
  · unfold ovl; rw [if_neg h]; exact this
  · exact this
theorem readN_some (c : CS) (h : c.kind = 2) : ∀ k, 0 < (readN c k).may.length
 | 0 => by unfold readN; rw [if_pos h]; simp
 | k + 1 => by
  have := readN_some c h k
  unfold readN
  split
  · unfold ovl; rw [if_pos h]; simp
  · exact this
theorem three_allocC (w : World) (R V E : Array Value) (tr tv te : TypeId) : Up w (((w.alloc (.cells R tr)).alloc (.cells V tv)).alloc (.cells E te)) ∧ (((w.alloc (.cells R tr)).alloc (.cells V tv)).alloc (.cells E te)).heap[w.heap.size]? = some (.cells R tr (0, 0)) ∧
 (((w.alloc (.cells R tr)).alloc (.cells V tv)).alloc (.cells E te)).heap[w.heap.size + 1]? = some (.cells V tv (0, 0)) ∧ (((w.alloc (.cells R tr)).alloc (.cells V tv)).alloc (.cells E te)).heap[w.heap.size + 1 + 1]? = some (.cells E te (0, 0)) ∧ True := by
 have u1 : Up w (w.alloc (.cells R tr)) := (Up.refl w).alloc _
 have u2 : Up (w.alloc (.cells R tr)) ((w.alloc (.cells R tr)).alloc (.cells V tv)) := (Up.refl _).alloc _
 have u3 : Up ((w.alloc (.cells R tr)).alloc (.cells V tv)) (((w.alloc (.cells R tr)).alloc (.cells V tv)).alloc (.cells E te)) := (Up.refl _).alloc _
 have h1 := heap_alloc_new w (.cells R tr)
 have h2 := heap_alloc_new (w.alloc (.cells R tr)) (.cells V tv)
 have h3 := heap_alloc_new ((w.alloc (.cells R tr)).alloc (.cells V tv)) (.cells E te)
 have s1 : (w.alloc (.cells R tr)).heap.size = w.heap.size + 1 := by simp
 have s2 : ((w.alloc (.cells R tr)).alloc (.cells V tv)).heap.size = w.heap.size + 1 + 1 := by simp
 rw [s1] at h2
 rw [s2] at h3
 exact ⟨(u1.trans u2).trans u3, ((u2.trans u3).block _ (by omega)).trans h1, (u3.block _ (by omega)).trans h2, h3, trivial⟩
theorem two_allocC (w : World) (R V : Array Value) (tr tv : TypeId) : Up w ((w.alloc (.cells R tr)).alloc (.cells V tv)) ∧ ((w.alloc (.cells R tr)).alloc (.cells V tv)).heap[w.heap.size]? = some (.cells R tr (0, 0)) ∧
 ((w.alloc (.cells R tr)).alloc (.cells V tv)).heap[w.heap.size + 1]? = some (.cells V tv (0, 0)) := by
 have u1 : Up w (w.alloc (.cells R tr)) := (Up.refl w).alloc _
 have u2 : Up (w.alloc (.cells R tr)) ((w.alloc (.cells R tr)).alloc (.cells V tv)) := (Up.refl _).alloc _
 have h1 := heap_alloc_new w (.cells R tr)
 have h2 := heap_alloc_new (w.alloc (.cells R tr)) (.cells V tv)
 have s1 : (w.alloc (.cells R tr)).heap.size = w.heap.size + 1 := by simp
 rw [s1] at h2
 exact ⟨u1.trans u2, (u2.block _ (by omega)).trans h1, h2⟩
def put5 (w : World) (b : Nat) (v0 v1 v2 v3 v4 : Value) : World := ((((w.setCell ⟨b, 0, none⟩ v0).setCell ⟨b, 1, none⟩ v1).setCell ⟨b, 2, none⟩ v2).setCell ⟨b, 3, none⟩ v3).setCell ⟨b, 4, none⟩ v4
theorem put5_same {w : World} {b : Nat} {t : TypeId} {x0 x1 x2 x3 x4 : Value} (v0 v1 v2 v3 v4 : Value) (h : w.heap[b]? = some (.cells #[x0, x1, x2, x3, x4] t (0, 0))) : (put5 w b v0 v1 v2 v3 v4).heap[b]? = some (.cells #[v0, v1, v2, v3, v4] t (0, 0)) := by
 unfold put5
 rw [heap_setCell_same _ _ _ _ _ _ (heap_setCell_same _ _ _ _ _ _ (heap_setCell_same _ _ _ _ _ _ (heap_setCell_same _ _ _ _ _ _ (heap_setCell_same _ _ _ _ _ _ h))))]
 rfl
theorem put5_other (w : World) (b k : Nat) (v0 v1 v2 v3 v4 : Value) (h : k ≠ b) : (put5 w b v0 v1 v2 v3 v4).heap[k]? = w.heap[k]? := by
 unfold put5
 rw [Below.heap_setCell _ _ _ _ h, Below.heap_setCell _ _ _ _ h, Below.heap_setCell _ _ _ _ h, Below.heap_setCell _ _ _ _ h, Below.heap_setCell _ _ _ _ h]
theorem put5_below (w : World) (b N : Nat) (v0 v1 v2 v3 v4 : Value) (h : N ≤ b) : Below N w (put5 w b v0 v1 v2 v3 v4) :=
 (((((Below.refl N w).setCell (p := ⟨b, 0, none⟩) h _).setCell (p := ⟨b, 1, none⟩) h _).setCell (p := ⟨b, 2, none⟩) h _).setCell (p := ⟨b, 3, none⟩) h _).setCell (p := ⟨b, 4, none⟩) h _
structure ReadSt (w wr : World) (c : CS) (k : Nat) (m : Value) : Prop where
 up : Up w wr
 a : AccAt wr (w.heap.size + 1) 0 (readN c k) m
 fz : ∀ j, wr.frozen? ⟨w.heap.size + 1, j, none⟩ = false
 may : MayIs wr w.heap.size m (readN c k).may
 ap1 : m.ownBlock ≠ some (w.heap.size + 1)
 ap0 : m.ownBlock ≠ some w.heap.size
 res : wr.heap[w.heap.size]? = some (.cells #[.bool false, .bool false, .int .i64 0, .bool false, .slice none 0 0] 191 (0, 0))
 nil : c.kind ≠ 2 → m = .slice none 0 0
theorem read_end {w wr : World} {c : CS} {m m2 : Value} (h : ReadSt w wr c 8 m) (hm : MayIs wr w.heap.size m2 (readN c 8).may) (ho : m2.ownBlock = m.ownBlock) (v0 v1 v2 v3 : Value) :
 (put5 (wr.setCell ⟨w.heap.size + 1, 4, none⟩ m2) w.heap.size v0 v1 v2 v3 m2).heap[w.heap.size]? = some (.cells #[v0, v1, v2, v3, m2] 191 (0, 0)) ∧
  Up w (put5 (wr.setCell ⟨w.heap.size + 1, 4, none⟩ m2) w.heap.size v0 v1 v2 v3 m2) ∧ MayIs (put5 (wr.setCell ⟨w.heap.size + 1, 4, none⟩ m2) w.heap.size v0 v1 v2 v3 m2) w.heap.size m2 (readN c 8).may := by
 have h0 : (wr.setCell ⟨w.heap.size + 1, 4, none⟩ m2).heap[w.heap.size]? = wr.heap[w.heap.size]? := Below.heap_setCell wr ⟨w.heap.size + 1, 4, none⟩ _ _ (show w.heap.size ≠ w.heap.size + 1 by omega)
 refine ⟨put5_same _ _ _ _ _ (h0.trans h.res), Below.trans (Below.trans h.up ((Below.refl w.heap.size wr).setCell (p := ⟨w.heap.size + 1, 4, none⟩) (show w.heap.size ≤ w.heap.size + 1 by omega) m2)) (put5_below _ _ _ _ _ _ _ _ (Nat.le_refl _)), hm.same (by simp [put5]) fun k hk => ?_⟩
 rw [ho] at hk
 have n1 : k ≠ w.heap.size + 1 := fun e => h.ap1 (by rw [hk, e])
 have n0 : k ≠ w.heap.size := fun e => h.ap0 (by rw [hk, e])
 exact (put5_other _ _ _ _ _ _ _ _ n0).trans (Below.heap_setCell wr ⟨w.heap.size + 1, 4, none⟩ _ k n1)
theorem ReadSt.over {w wr w' : World} {c : CS} {k : Nat} {m m' : Value} (h : ReadSt w wr c k m) (hon : (c.bys k).on = true) (hwr : (c.bys k).wr = true) (hp : OvPost wr w' (w.heap.size + 1) 0 m m')
 (hm : MayIs w' w.heap.size m' (if c.kind = 2 then (readN c k).may ++ [(c.bys k).val] else (readN c k).may)) (hn : c.kind ≠ 2 → m' = m) : ReadSt w w' c (k + 1) m' := by
 have e : readN c (k + 1) = ovl c.kind (c.bys k).val (readN c k) := by
  show (if _ then _ else _) = _
  rw [if_pos ⟨hon, hwr⟩]
 have hg := h.may.ge
 have hs : w.heap.size + 1 < wr.heap.size := cell_lt h.a.1
 have hap : ∀ b, b < wr.heap.size → m.ownBlock ≠ some b → m'.ownBlock ≠ some b := fun b hb hne => by
  rcases hp.ob with h1 | h1
  · rw [h1]; exact hne
  · intro e; have := h1 b e; omega
 have hbb : ∀ b, b < w.heap.size → w'.heap[b]? = wr.heap[b]? := fun b hb => hp.block b (by have := h.up.size; omega) (by omega) (fun e => by have := hg b e; omega)
 have hbel : Below w.heap.size wr w' := ⟨hp.os, hp.tape, hp.output, hp.size, hbb⟩
 obtain ⟨a0, a1, a2, a3, a4⟩ := h.a
 refine ⟨Below.trans h.up hbel, ?_, fun j => (hp.fz j).trans (h.fz j), ?_, hap _ (by omega) h.ap1, hap _ (by omega) h.ap0, ?_, fun hk => by rw [hn hk]; exact h.nil hk⟩
 · rw [e]
   refine ⟨(hp.oth 0 (by omega) (by omega)).trans a0, (hp.oth 1 (by omega) (by omega)).trans a1, (hp.oth 2 (by omega) (by omega)).trans a2, hp.c3, hp.c4⟩
 · rw [e]; exact hm
 · refine (hp.block w.heap.size (by omega) (by omega) h.ap0).trans h.res
theorem ReadSt.skip {w wr : World} {c : CS} {k : Nat} {m : Value} (h : ReadSt w wr c k m) (hn : ¬ ((c.bys k).on = true ∧ (c.bys k).wr = true)) : ReadSt w wr c (k + 1) m := by
 have e : readN c (k + 1) = readN c k := by
  show (if _ then _ else _) = _
  rw [if_neg hn]
 exact ⟨h.up, by rw [e]; exact h.a, h.fz, by rw [e]; exact h.may, h.ap1, h.ap0, h.res, h.nil⟩
theorem cread_any (h B : Nat) (c : CS) (ms : Nat → Value) (w : World) (H : CellIs w h B c ms) :
 Calls Tryz.prog 173 #[.pointer (some ⟨h, 0, none⟩)] w fun e w' => ∃ m, e = .returned (.agg #[.bool (readN c 8).on, .bool (readN c 8).wr, .int .i64 (readN c 8).val, .bool (readN c 8).ov, m]) ∧ Up w w' ∧ MayIs w' w.heap.size m (readN c 8).may := by
 have k0 := H.k0
 have k2 := H.k2
 have hlt := H.lt
 have HH := hQ' H
 have HLT := hQ' hlt
 by_cases hk : c.kind = 2
 · have hb := three_allocC w #[.bool false, .bool false, .int .i64 0, .bool false, .slice none 0 0] #[.bool true, .bool false, .int .i64 0, .bool false, .slice (some ⟨w.heap.size + 1 + 1, 0, none⟩) 1 1] #[.int .i64 c.value] 191 191 3
   have HST := hQ' (show ReadSt w (((w.alloc (.cells #[.bool false, .bool false, .int .i64 0, .bool false, .slice none 0 0] 191)).alloc (.cells #[.bool true, .bool false, .int .i64 0, .bool false, .slice (some ⟨w.heap.size + 1 + 1, 0, none⟩) 1 1] 191)).alloc (.cells #[.int .i64 c.value] 3)) c 0 (.slice (some ⟨w.heap.size + 1 + 1, 0, none⟩) 1 1) from by
    obtain ⟨h1, h2, h3, h4, h5⟩ := hb
    have e0 : readN c 0 = ⟨true, false, 0, false, [c.value]⟩ := by unfold readN; rw [if_pos hk]
    refine ⟨h1, ?_, fun j => frozen_of_row _ _ j _ _ h3, ?_, (fun e => by simp only [Value.ownBlock, Option.some.injEq] at e; omega), (fun e => by simp only [Value.ownBlock, Option.some.injEq] at e; omega), h2, fun e => absurd hk e⟩
    · rw [e0]
      exact ⟨cell_of_row _ _ 0 _ _ _ h3, cell_of_row _ _ 1 _ _ _ h3, cell_of_row _ _ 2 _ _ _ h3, cell_of_row _ _ 3 _ _ _ h3, cell_of_row _ _ 4 _ _ _ h3⟩
    · rw [e0]
      exact .inl ⟨rfl, .inr ⟨w.heap.size + 1 + 1, 1, #[.int .i64 c.value], rfl, by omega, h4, Nat.le_refl _, by decide, rfl, rfl⟩⟩)
   rw [hk] at k0
   clear hb H
   go_enter Tryz.func173, Tryz.ntmps173
   go_wp2_with fail
   generalize ((w.alloc (.cells #[.bool false, .bool false, .int .i64 0, .bool false, .slice none 0 0] 191)).alloc (.cells #[.bool true, .bool false, .int .i64 0, .bool false, .slice (some ⟨w.heap.size + 1 + 1, 0, none⟩) 1 1] 191)).alloc (.cells #[.int .i64 c.value] 3) = W0 at *
   have HK := hQ' hk
   clear k0 k2 hlt
   go_loopw [18] (fun t wr => ∃ (k : Nat) (m : Value), k ≤ 8 ∧ t = .int .i64 k ∧ Hid (ReadSt w wr c k m)) (fun t _ => 8 - (intOf t).toNat)
   case atStart => exact ⟨0, _, by omega, rfl, HST⟩
   case round =>
    obtain ⟨k, m, hk8, rfl, HSr⟩ := hrel
    have HU := hQ' HSr.out.up
    by_cases hlt : k < 8
    · obtain ⟨g0, g1, g2, -⟩ := HH.out.acc k hlt
      have e0 := (HU.out.cell (p := ⟨h, 3 + k * 5, none⟩) HLT.out).trans g0
      have e1 := (HU.out.cell (p := ⟨h, 3 + k * 5 + 1, none⟩) HLT.out).trans g1
      have e2 := (HU.out.cell (p := ⟨h, 3 + k * 5 + 2, none⟩) HLT.out).trans g2
      have hki : (k : Int) < 8 := by omega
      have HSK := hQ' (HSr.out.skip)
      obtain ⟨on, hon⟩ : ∃ x, (c.bys k).on = x := ⟨_, rfl⟩
      obtain ⟨wrt, hwr⟩ : ∃ x, (c.bys k).wr = x := ⟨_, rfl⟩
      rw [hon] at e0
      rw [hwr] at e1
      have HON := hQ' (And.intro hon hwr)
      clear hon hwr g0 g1 g2
      cases on
      · clear e1 e2
        go_wp2_with fail
        go_roundw
        case rel => exact ⟨k + 1, m, by omega, by go_num, hQ' (HSK.out (by rw [HON.out.1]; simp))⟩
        case measure => simp [intOf]; omega
      cases wrt
      · clear e2
        go_wp2_with fail
        go_roundw
        case rel => exact ⟨k + 1, m, by omega, by go_num, hQ' (HSK.out (by rw [HON.out.2]; simp))⟩
        case measure => simp [intOf]; omega
      have HOV := hQ' (overlap_may h (w.heap.size + 1) 0 w.heap.size c.kind (c.bys k).val m (readN c k).ov (readN c k).may wr ((HU.out.cell (p := ⟨h, 0, none⟩) HLT.out).trans HH.out.k0) HSr.out.a.2.2.2.1 HSr.out.a.2.2.2.2 HSr.out.fz HSr.out.may HU.out.size (by have := readN_few c k; omega) HSr.out.ap1)
      clear HSK
      go_wp2_with fail
      refine HOV.out.mono ?_
      rintro e w2 ⟨rfl, m', hp, hm, hn⟩
      have HS2 := hQ' (HSr.out.over HON.out.1 HON.out.2 hp hm hn)
      clear hp hm hn e0 e1 e2 HOV HSr HU
      go_wp2_with fail
      go_roundw
      case rel => exact ⟨k + 1, m', by omega, by go_num, HS2⟩
      case measure => simp [intOf]; omega
    · obtain rfl : k = 8 := by omega
      clear hlt
      obtain ⟨a0, a1, a2, a3, a4⟩ := HSr.out.a
      have hpos := readN_some c HK.out 8
      have hfew := readN_few c 8
      have hml : ∃ (g cap : Nat), m = .slice (some ⟨g, 0, none⟩) (readN c 8).may.length cap ∧ (readN c 8).may.length ≤ cap ∧ w.heap.size ≤ g ∧ g < wr.heap.size ∧ (∀ j u, (icells (readN c 8).may)[j]? = some u → wr.cell? ⟨g, j, none⟩ = some u) := by
       rcases HSr.out.may with h1 | ⟨g, h1, h2, h3, h4⟩
       · rcases h1.2 with ⟨_, hn⟩ | ⟨g, cap, cur, hv, hb, hh, h5, _⟩
         · omega
         · exact ⟨g, cap, hv, h5, hb, (Array.getElem?_eq_some_iff.1 hh).1, fun j u hu => by
           have := h1.cells (g := g) (by rw [hv]; rfl) j u hu
           rw [Go.WideShapes.add_plain, Nat.zero_add] at this
           exact this⟩
       · exact ⟨g, _, h1, Nat.le_refl _, h2, h3, h4⟩
      obtain ⟨g, cap, rfl, hcap, hg1, hg2, hrow⟩ := hml
      generalize hR : readN c 8 = R at *
      have f4 := HSr.out.fz 4
      have b0 := cell_of_row _ _ 0 _ _ _ HSr.out.res
      have b1 := cell_of_row _ _ 1 _ _ _ HSr.out.res
      have b2 := cell_of_row _ _ 2 _ _ _ HSr.out.res
      have b3 := cell_of_row _ _ 3 _ _ _ HSr.out.res
      have b4 := cell_of_row _ _ 4 _ _ _ HSr.out.res
      simp only [gA_T, gA_0, gA_S] at b0 b1 b2 b3 b4
      have hfz0 : ∀ j, wr.frozen? ⟨w.heap.size, j, none⟩ = false := fun j => frozen_of_row _ _ j _ _ HSr.out.res
      have HE := hQ' (read_end (m2 := .slice (some ⟨g, 0, none⟩) R.may.length R.may.length) HSr.out (by rw [hR]; exact .inr ⟨g, rfl, hg1, hg2, hrow⟩) rfl (.bool R.on) (.bool R.wr) (.int .i64 R.val) (.bool R.ov))
      rw [hR] at HE
      clear hrow HSr hpos hfew HH
      go_wp2_with fail
      refine bodyPost_ret (v := .agg #[.bool R.on, .bool R.wr, .int .i64 R.val, .bool R.ov, .slice (some ⟨g, 0, none⟩) R.may.length R.may.length]) ?_ rfl ?_
      rotate_left
      · rw [hR]
        exact ⟨_, rfl, HE.out.2.1, HE.out.2.2⟩
      exact results_cell_row rfl _ _ w.heap.size 191 _ _ _ rfl HE.out.1 Tryz.underlying191 rfl (by kernel_rfl)
 · have hb := two_allocC w #[.bool false, .bool false, .int .i64 0, .bool false, .slice none 0 0] #[.bool true, .bool false, .int .i64 0, .bool false, .slice none 0 0] 191 191
   have HST := hQ' (show ReadSt w ((w.alloc (.cells #[.bool false, .bool false, .int .i64 0, .bool false, .slice none 0 0] 191)).alloc (.cells #[.bool true, .bool false, .int .i64 0, .bool false, .slice none 0 0] 191)) c 0 (.slice none 0 0) from by
    obtain ⟨h1, h2, h3⟩ := hb
    have e0 : readN c 0 = ⟨true, false, 0, false, []⟩ := by unfold readN; rw [if_neg hk]
    refine ⟨h1, ?_, fun j => frozen_of_row _ _ j _ _ h3, ?_, (by simp [Value.ownBlock]), (by simp [Value.ownBlock]), h2, fun _ => rfl⟩
    · rw [e0]
      exact ⟨cell_of_row _ _ 0 _ _ _ h3, cell_of_row _ _ 1 _ _ _ h3, cell_of_row _ _ 2 _ _ _ h3, cell_of_row _ _ 3 _ _ _ h3, cell_of_row _ _ 4 _ _ _ h3⟩
    · rw [e0]
      exact .inl ⟨rfl, .inl ⟨rfl, rfl⟩⟩)
   have hk2 : (c.kind == 2) = false := by rw [beq_eq_false_iff_ne]; exact hk
   obtain ⟨kd, hkd⟩ : ∃ x, c.kind = x := ⟨_, rfl⟩
   rw [hkd] at k0 hk2
   have HKD := hQ' hkd
   clear hb H hkd
   go_enter Tryz.func173, Tryz.ntmps173
   go_wp2_with fail
   generalize (w.alloc (.cells #[.bool false, .bool false, .int .i64 0, .bool false, .slice none 0 0] 191)).alloc (.cells #[.bool true, .bool false, .int .i64 0, .bool false, .slice none 0 0] 191) = W0 at *
   have HK := hQ' hk
   clear k0 k2 hlt hk2 hk
   go_loopw [18] (fun t wr => ∃ (k : Nat) (m : Value), k ≤ 8 ∧ t = .int .i64 k ∧ Hid (ReadSt w wr c k m)) (fun t _ => 8 - (intOf t).toNat)
   case atStart => exact ⟨0, _, by omega, rfl, HST⟩
   case round =>
    obtain ⟨k, m, hk8, rfl, HSr⟩ := hrel
    have HU := hQ' HSr.out.up
    by_cases hlt : k < 8
    · obtain ⟨g0, g1, g2, -⟩ := HH.out.acc k hlt
      have e0 := (HU.out.cell (p := ⟨h, 3 + k * 5, none⟩) HLT.out).trans g0
      have e1 := (HU.out.cell (p := ⟨h, 3 + k * 5 + 1, none⟩) HLT.out).trans g1
      have e2 := (HU.out.cell (p := ⟨h, 3 + k * 5 + 2, none⟩) HLT.out).trans g2
      have hki : (k : Int) < 8 := by omega
      have HSK := hQ' (HSr.out.skip)
      obtain ⟨on, hon⟩ : ∃ x, (c.bys k).on = x := ⟨_, rfl⟩
      obtain ⟨wrt, hwr⟩ : ∃ x, (c.bys k).wr = x := ⟨_, rfl⟩
      rw [hon] at e0
      rw [hwr] at e1
      have HON := hQ' (And.intro hon hwr)
      clear hon hwr g0 g1 g2
      cases on
      · clear e1 e2
        go_wp2_with fail
        go_roundw
        case rel => exact ⟨k + 1, m, by omega, by go_num, hQ' (HSK.out (by rw [HON.out.1]; simp))⟩
        case measure => simp [intOf]; omega
      cases wrt
      · clear e2
        go_wp2_with fail
        go_roundw
        case rel => exact ⟨k + 1, m, by omega, by go_num, hQ' (HSK.out (by rw [HON.out.2]; simp))⟩
        case measure => simp [intOf]; omega
      have HOV := hQ' (overlap_may h (w.heap.size + 1) 0 w.heap.size c.kind (c.bys k).val m (readN c k).ov (readN c k).may wr ((HU.out.cell (p := ⟨h, 0, none⟩) HLT.out).trans HH.out.k0) HSr.out.a.2.2.2.1 HSr.out.a.2.2.2.2 HSr.out.fz HSr.out.may HU.out.size (by have := readN_few c k; omega) HSr.out.ap1)
      clear HSK
      go_wp2_with fail
      refine HOV.out.mono ?_
      rintro e w2 ⟨rfl, m', hp, hm, hn⟩
      have HS2 := hQ' (HSr.out.over HON.out.1 HON.out.2 hp hm hn)
      clear hp hm hn e0 e1 e2 HOV HSr HU
      go_wp2_with fail
      go_roundw
      case rel => exact ⟨k + 1, m', by omega, by go_num, HS2⟩
      case measure => simp [intOf]; omega
    · obtain rfl : k = 8 := by omega
      clear hlt
      obtain ⟨a0, a1, a2, a3, a4⟩ := HSr.out.a
      obtain rfl := HSr.out.nil HK.out
      have hnone := readN_none c HK.out 8
      generalize hR : readN c 8 = R at *
      have f4 := HSr.out.fz 4
      have b0 := cell_of_row _ _ 0 _ _ _ HSr.out.res
      have b1 := cell_of_row _ _ 1 _ _ _ HSr.out.res
      have b2 := cell_of_row _ _ 2 _ _ _ HSr.out.res
      have b3 := cell_of_row _ _ 3 _ _ _ HSr.out.res
      have b4 := cell_of_row _ _ 4 _ _ _ HSr.out.res
      simp only [gA_T, gA_0, gA_S] at b0 b1 b2 b3 b4
      have hfz0 : ∀ j, wr.frozen? ⟨w.heap.size, j, none⟩ = false := fun j => frozen_of_row _ _ j _ _ HSr.out.res
      have HE := hQ' (read_end (m2 := .slice none 0 0) HSr.out HSr.out.may rfl (.bool R.on) (.bool R.wr) (.int .i64 R.val) (.bool R.ov))
      rw [hR] at HE
      clear HSr hnone HH
      go_wp2_with fail
      refine bodyPost_ret (v := .agg #[.bool R.on, .bool R.wr, .int .i64 R.val, .bool R.ov, .slice none 0 0]) ?_ rfl ?_
      rotate_left
      · rw [hR]
        exact ⟨_, rfl, HE.out.2.1, HE.out.2.2⟩
      exact results_cell_row rfl _ _ w.heap.size 191 _ _ _ rfl HE.out.1 Tryz.underlying191 rfl (by kernel_rfl)
end Go.Proofs.YtpodgcpkccpnfaaGreat

