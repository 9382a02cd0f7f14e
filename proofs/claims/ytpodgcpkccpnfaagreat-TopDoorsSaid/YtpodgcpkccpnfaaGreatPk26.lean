/-
  Parts of a proof, packed: LckB, LckC, PikP, RefN, PikW, TameT
-/
import Derived.Test.YtpodgcpkccpnfaaGreatPk01
import Derived.Test.YtpodgcpkccpnfaaGreatPk02
import Derived.Test.YtpodgcpkccpnfaaGreatPk07
import Derived.Test.YtpodgcpkccpnfaaGreatPk09
import Derived.Test.YtpodgcpkccpnfaaGreatPk15
import Derived.Test.YtpodgcpkccpnfaaGreatPk18
import Derived.Test.YtpodgcpkccpnfaaGreatPk21
import Derived.Test.YtpodgcpkccpnfaaGreatPk23
import Derived.Test.YtpodgcpkccpnfaaGreatPk25
set_option linter.unusedVariables false
set_option linter.unusedSimpArgs false
set_option maxRecDepth 20000
set_option maxHeartbeats 16000000
namespace Go.Proofs.YtpodgcpkccpnfaaGreat
open Go.RowKit
def lkObj (alg : Int) (n : Nat) (room : Int) : ObjD := ⟨⟨1, alg, 1, room, 0, 0, 0, 0⟩, ⟨alg, n, 1, 0, 0, room⟩, ⟨0, 0, 0, 0, 0, 0, 0⟩, 0 + lkCells alg n, 0 + lkLocs alg⟩
def LkOb (alg : Int) (n : Nat) (room : Int) (W : World) (v : Value) : Prop := ∃ q cap, v = .slice (some ⟨q, 0, none⟩) 1 cap ∧ q < W.heap.size ∧ (1 ≤ cap ∧ cap ≤ 9223372036854775807) ∧ ObjsAt W q [lkObj alg n room]
theorem LkOb.up {alg : Int} {n : Nat} {room : Int} {W W' : World} {v : Value} (h : LkOb alg n room W v) (u : Up W W') : LkOb alg n room W' v := by
 obtain ⟨q, cap, e, hq, hc, ho⟩ := h
 exact ⟨q, cap, e, Nat.lt_of_lt_of_le hq u.size, hc, ho.up (u.block q hq)⟩
section
variable {alg : Int} {n : Nat} {room : Int}
theorem lkLocs_in (h : LkOK alg n 0 room) : 0 ≤ lkLocs alg ∧ lkLocs alg ≤ 1 := by
 rcases h.alg with rfl | rfl
 · show (0 : Int) ≤ 1 ∧ (1 : Int) ≤ 1; omega
 · show (0 : Int) ≤ 0 ∧ (0 : Int) ≤ 1; omega
theorem lk_fine (h : LkOK alg n 0 room) (W : World) : Calls Tryz.prog 122 #[.agg #[.int .i64 alg, .int .i64 n, .int .i64 1, .int .i64 0, .int .i64 0, .int .i64 room]] W fun e w' => e = .returned (.bool true) ∧ Up W w' := by
 have hn := h.n
 rcases h.alg with rfl | rfl
 · exact lockFine1 n 1 0 0 room W (by omega) h.room rfl (by omega) (by omega)
 · exact lockFine2 n 1 0 0 room W (by omega) h.room rfl (by omega) (by omega)
theorem lk_cells (h : LkOK alg n 0 room) (W : World) : Calls Tryz.prog 123 #[.agg #[.int .i64 alg, .int .i64 n, .int .i64 1, .int .i64 0, .int .i64 0, .int .i64 room]] W fun e w' => e = .returned (.int .i64 (lkCells alg n)) ∧ Up W w' := by
 have hn := h.n
 rcases h.alg with rfl | rfl
 · exact lockCells1 n 1 0 0 room W (by omega) h.room
 · exact lockCells2 n 1 0 0 room W (by omega)
theorem lk_locals (h : LkOK alg n 0 room) (W : World) : Calls Tryz.prog 107 #[.agg #[.int .i64 alg, .int .i64 n, .int .i64 1, .int .i64 0, .int .i64 0, .int .i64 room]] W fun e w' => e = .returned (.int .i64 (lkLocs alg)) ∧ Up W w' := by
 have hn := h.n
 rcases h.alg with rfl | rfl
 · exact lockLocals1 n 1 0 0 room W (by omega) h.room
 · exact lockLocals2 n 1 0 0 room W (by omega)
theorem lk_strips (h : LkOK alg n 0 room) (W : World) : Calls Tryz.prog 104 #[.agg #[.int .i64 alg, .int .i64 n, .int .i64 1, .int .i64 0, .int .i64 0, .int .i64 room]] W fun e w' => (∃ v, e = .returned v ∧ StrRow w' W.heap.size v (lkStrips alg n room)) ∧ Up W w' := by
 have hn := h.n
 rcases h.alg with rfl | rfl
 · exact lockStrips1 n 1 0 0 room W (by omega) h.room
 · exact lockStrips2 n 1 0 0 room W (by omega)
theorem lk_many (h : LkOK alg n 0 room) : ∀ i, i < (lkStrips alg n room).length → 0 ≤ ((lkStrips alg n room).getD i sd0).many ∧ ((lkStrips alg n room).getD i sd0).many ≤ 1000 := by
 have hn := h.n
 unfold lkStrips
 split
 · intro i hi
   match i, hi with
   | 0, _ => show (0 : Int) ≤ n ∧ (n : Int) ≤ 1000; omega
   | 1, _ => show (0 : Int) ≤ n ∧ (n : Int) ≤ 1000; omega
 · intro i hi
   match i, hi with
   | 0, _ => show (0 : Int) ≤ n ∧ (n : Int) ≤ 1000; omega
theorem lk_lay (h : LkOK alg n 0 room) (b off tc : Nat) (w : World) (ht : ThingsAt w (some ⟨b, off, none⟩) [⟨1, alg, 1, room, 0, 0, 0, 0⟩]) :
 Calls Tryz.prog 49 #[.slice (some ⟨b, off, none⟩) 1 tc, .int .i64 n] w fun e w' => ∃ ov, e = .returned (.tuple #[ov, .int .i64 0]) ∧ LkOb alg n room w' ov ∧ Up w w' := by
 have hn := h.n
 have hl := lkLocs_in h
 have hc := lkCells_le h
 obtain ⟨b2, off2, e, ⟨c0, c1, c2, c3⟩, c4, c5, c6, c7⟩ := ht 0 (Nat.lt_succ_self 0)
 cases e
 rw [Nat.zero_mul, Nat.add_zero] at c0 c1 c2 c3 c4 c5 c6 c7
 refine (layAll_one alg n 0 0 room 0 0 0 0 (0 + lkCells alg n) (0 + lkLocs alg) (lkLocs alg + 1) (lkStrips alg n room) b off tc w (by omega) c0 c1 c2 c3 c4 c5 c6 c7
  (fun W => lay_any alg n 0 0 room 0 0 0 0 _ _ W fun W2 => layLock_any alg n 0 0 room 0 0 0 0 (lkCells alg n) (lkLocs alg) W2 (lk_fine h) (lk_cells h) (lk_locals h) (by omega) (by omega))
  (fun W => strips_any alg n 0 0 room 0 0 0 0 _ _ (lkStrips alg n room) W (lk_strips h))
  (fun W => size_any alg n 0 0 room 0 0 0 0 _ _ (lkLocs alg) W (by omega) (lk_locals h))
  (by have := (lkStrips_fit h).len; unfold lkStrips; split <;> simp) (lk_many h) (by omega)).mono ?_
 rintro e w' ⟨ov, rfl, hu, hr⟩
 refine ⟨ov, rfl, ?_, hu⟩
 rcases hr.2 with ⟨rfl, e0⟩ | ⟨g, cap, cur, rfl, hg, hh, hcap, hmax, hsz2, hcells⟩
 · cases e0
 · refine ⟨g, cap, rfl, (Array.getElem?_eq_some_iff.1 hh).1, ⟨hcap, by unfold maxLen at hmax; omega⟩, ⟨fun k o ho => ?_⟩⟩
   match k, ho with
   | 0, ho =>
    cases ho
    intro j v hv
    rw [Nat.zero_mul, Nat.zero_add, cell_of_row w' g j _ _ _ hh]
    have hlt := (List.getElem?_eq_some_iff.1 hv).1
    have h23 : (objL (lkObj alg n room)).length = 23 := rfl
    rw [h23] at hlt
    have h3 : (cur.toList.take (1 * 23))[j]? = some v := by rw [hcells]; exact hv
    rw [List.getElem?_take, if_pos (by omega)] at h3
    simpa using h3
theorem lk_libStrips (h : LkOK alg n 0 room) (W : World) (ov : Value) (ho : LkOb alg n room W ov) : Calls Tryz.prog 51 #[ov] W fun e w' => ∃ sv, e = .returned sv ∧ StrRow w' W.heap.size sv (lkStrips alg n room) ∧ Up W w' := by
 obtain ⟨q, cap, rfl, hq, hc, hob⟩ := ho
 refine (libStrips_one alg n 0 0 room 0 0 0 0 (0 + lkCells alg n) (0 + lkLocs alg) (lkStrips alg n room) q cap W (by unfold lkStrips; split <;> simp) (fun j u hu => ?_)
  (fun W => strips_any alg n 0 0 room 0 0 0 0 _ _ (lkStrips alg n room) W (lk_strips h))).mono ?_
 · have := hob.row 0 _ rfl j u hu
   rw [Nat.zero_mul, Nat.zero_add] at this
   exact this
 · rintro e w' ⟨sv, rfl, hs⟩
   exact ⟨sv, rfl, hs.row, hs.up⟩
end
section
variable {alg : Int} {n : Nat} {room : Int} {sc : ScD} {a : ScA}
theorem lk_things (H : LkSc alg n room sc) {w : World} (hs : ScrAt w sc a) : ∃ b off, a.TA = some ⟨b, off, none⟩ ∧ ThingsAt w (some ⟨b, off, none⟩) [⟨1, alg, 1, room, 0, 0, 0, 0⟩] := by
 have ht := hs.th
 rw [H.th] at ht
 obtain ⟨b, off, e, _⟩ := ht 0 (Nat.lt_succ_self 0)
 rw [e] at ht
 exact ⟨b, off, e, ht⟩
theorem lk_new (H : LkSc alg n room sc) (w : World) (hs : ScrAt w sc a) : Calls Tryz.prog 24 #[.agg #[.slice a.TA sc.things.length a.tc, .slice a.PA sc.progs.length a.pc, .slice a.KA sc.picks.length a.kc, .slice a.DA sc.draws.length a.dc]] w (NewQ (LkOb alg n room) w sc (lkStrips alg n room)) := by
 have hL : ∀ W, Up w W → Calls Tryz.prog 49 #[.slice a.TA sc.things.length a.tc, .int .i64 sc.progs.length] W fun e w' => ∃ ov, e = .returned (.tuple #[ov, .int .i64 0]) ∧ LkOb alg n room w' ov ∧ Up W w' := fun W u => by
  obtain ⟨b, off, e, ht⟩ := lk_things H (hs.up u)
  rw [e, H.th, H.len]
  exact lk_lay H.lk b off a.tc W ht
 refine wnew_any (LkOb alg n room) w hs H.pos (by rw [H.len]; exact H.lk.n.2) H.ok.d (by unfold lkStrips; split <;> simp) (lkStrips_count H.lk) (fun W W' v h u => h.up u) (fun W v h => ?_) (fun W u => fine_ok W (hs.up u) H.ok fun W' u' => (hL W' (u.trans u')).mono ?_) hL (fun W ov h => lk_libStrips H.lk W ov h)
 · obtain ⟨q, cap, e, hq, _⟩ := h
   exact ⟨q, 1, cap, e, hq⟩
 · rintro e w' ⟨ov, rfl, _, hu⟩
   exact ⟨⟨ov, rfl⟩, hu⟩
end
end Go.Proofs.YtpodgcpkccpnfaaGreat

namespace Go.Proofs.YtpodgcpkccpnfaaGreat
open Go.RowKit
section
variable {alg : Int} {n : Nat} {room : Int} {sc : ScD} {a : ScA}
theorem lkM_acq (alg : Int) (n : Nat) (room : Int) (draws : List Int) (t : Nat) (x1 x2 : Int) : (lkM alg n room draws).P t (1, x1, x2) = asRep (libAcq (lkLocs alg) (lockAcq alg n room 0 0 t 6000)) := rfl
theorem lkM_rel (alg : Int) (n : Nat) (room : Int) (draws : List Int) (t : Nat) (x1 x2 : Int) : (lkM alg n room draws).P t (2, x1, x2) = asRep (libRel (lkLocs alg) (lockRel alg n 0 0 t)) := rfl
theorem lk_do (H : LkSc alg n room sc) (B : Nat) (W1 : World) (b g h c1 : Nat) (ov dv : Value) (pvs : List Value) (stat : Nat → Prop) (hob : LkOb alg n room W1 ov) (hst : ∀ k, k < B → k < W1.heap.size → stat k) (hq : ∃ q n c, ov = .slice (some ⟨q, 0, none⟩) n c ∧ q < B) (hB : B ≤ W1.heap.size) :
 DoOK (mkZ B W1 b g h sc.progs.length c1 (lkStrips alg n room) ov dv pvs (lkM alg n room sc.draws)) sc.progs stat := by
 intro t ht x0 x1 x2 hin ans loc ha hA hl W2 g' B' hbel hkeep hg hT ob on oc hov
 have htn : t < sc.progs.length := ht
 rw [H.len] at htn
 have hov : ov = .slice ob on oc := hov
 obtain ⟨q, cap, rfl, hqs, hcap, hobs⟩ := hob
 obtain ⟨q2, n2, c2, e2, hqB⟩ := hq
 cases e2
 cases hov
 have hbq : W2.heap[q]? = W1.heap[q]? := hkeep q (hst q hqB hqs)
 have hobs2 := hobs.up hbq
 have hq2 : q < W2.heap.size := by have := hT.1.gs; have := hg; have : W1.heap.size ≤ g' := hg; omega
 obtain ⟨hop, hx1⟩ := H.ops t _ hin
 dsimp only at hop hx1
 have ho : ([lkObj alg n room] : List ObjD)[0]? = some (lkObj alg n room) := rfl
 rcases hop with rfl | rfl
 · have hop : (lkM alg n room sc.draws).P t (1, x1, x2) = asRep (libAcq (lkLocs alg) (lockAcq alg n room 0 0 t 6000)) := lkM_acq _ _ _ _ _ _ _
   show Calls Tryz.prog 84 _ W2 (TPost encR g' B' W2 (((lkM alg n room sc.draws).P t (1, x1, x2)).onT ⟨ans, loc, [], []⟩))
   rw [hop]
   refine do_plain [lkObj alg n room] q 1 _ 1 x1 x2 t 0 (lkObj alg n room) _ g' B' ⟨ans, loc, [], []⟩ W2 hT (by decide) rfl (fun args W => rfl) (by omega) (by decide) (by decide) hcap ho rfl hobs2 hq2 fun W' hu hT' => ?_
   have := libAcq_any (lkObj alg n room) (lockAcq alg n room 0 0 t 6000) t g' B' ⟨ans, loc, [], []⟩ W' hT' (fun W'' hu' hT'' => lockAcq_any H.lk t 1 0 6000 g' B' ⟨ans, loc, [], []⟩ W'' htn (by show ans.length < 6000; omega) hA (Nat.zero_le _) hT'')
   rwa [show (lkObj alg n room).loc = lkLocs alg from Int.zero_add _] at this
 · have hop : (lkM alg n room sc.draws).P t (2, x1, x2) = asRep (libRel (lkLocs alg) (lockRel alg n 0 0 t)) := lkM_rel _ _ _ _ _ _ _
   show Calls Tryz.prog 84 _ W2 (TPost encR g' B' W2 (((lkM alg n room sc.draws).P t (2, x1, x2)).onT ⟨ans, loc, [], []⟩))
   rw [hop]
   refine do_plain [lkObj alg n room] q 1 _ 2 x1 x2 t 0 (lkObj alg n room) _ g' B' ⟨ans, loc, [], []⟩ W2 hT (by decide) rfl (fun args W => rfl) (by omega) (by decide) (by decide) hcap ho rfl hobs2 hq2 fun W' hu hT' => ?_
   have := libRel_any (lkObj alg n room) (lockRel alg n 0 0 t) t g' B' ⟨ans, loc, [], []⟩ W' hT' (fun W'' hu' hT'' => lockRel_any H.lk t 1 0 g' B' ⟨ans, loc, [], []⟩ W'' htn (Nat.zero_le _) hT'')
   rwa [show (lkObj alg n room).loc = lkLocs alg from Int.zero_add _] at this
theorem lk_ok (H : LkSc alg n room sc) : RunOK (LkOb alg n room) (lkM alg n room sc.draws) sc (lkStrips alg n room) where
 ok := H.ok
 pos := H.pos
 fit := lkStrips_fit H.lk
 many := rfl
 fresh := rfl
 draws := rfl
 few := lkM_few _
 frOK := lkM_fresh
 ov := fun W v h => by obtain ⟨q, cap, e, _⟩ := h; exact ⟨q, 1, cap, e⟩
 do' := fun B W1 b g h c1 ov dv pvs stat h1 h2 h3 h4 => lk_do H B W1 b g h c1 ov dv pvs stat h1 h2 h3 h4
theorem lk_run (H : LkSc alg n room sc) (w : World) (hs : ScrAt w sc a) : Calls Tryz.prog 9 #[.agg #[.slice a.TA sc.things.length a.tc, .slice a.PA sc.progs.length a.pc, .slice a.KA sc.picks.length a.kc, .slice a.DA sc.draws.length a.dc]] w (RunPost (lkM alg n room sc.draws) sc w) :=
 wrun_any (LkOb alg n room) w hs (lk_ok H) fun W u => lk_new H W (hs.up u)
end
end Go.Proofs.YtpodgcpkccpnfaaGreat

namespace Go.Proofs.YtpodgcpkccpnfaaGreat
open Go.RowKit
def pickTimes (left : Int) (p : PickD) : Int := if p.halt = true then 0 else minI (clampT p.times 255) left
def pickOf (n : Nat) (left : Int) (p : PickD) : PickD := ⟨wrapI p.thread ((n : Int) - 1), pickTimes left p, p.halt⟩
def pickSkip (left : Int) (p : PickD) : Bool := decide (pickTimes left p = 0) && !p.halt
def picksF (n : Nat) (s : Int × List PickD) (p : PickD) : Int × List PickD := if pickSkip s.1 p = true then s else (s.1 - pickTimes s.1 p, s.2 ++ [pickOf n s.1 p])
def picksTo (n : Nat) (l : List PickD) (k : Nat) : Int × List PickD := (l.take k).foldl (picksF n) (4000, [])
def picksL (n : Nat) (l : List PickD) : List PickD := (picksTo n l 300).2
theorem picksTo_succ (n : Nat) (l : List PickD) {k : Nat} (h : k < l.length) : picksTo n l (k + 1) = picksF n (picksTo n l k) (l.getD k pick0) := by
 unfold picksTo
 rw [List.take_succ_eq_append_getElem h, List.foldl_append]
 show picksF n _ l[k] = _
 rw [show l.getD k pick0 = l[k] by rw [List.getD_eq_getElem?_getD, List.getElem?_eq_getElem h]; rfl]
theorem clamp255 (v : Int) : 0 ≤ clampT v 255 ∧ clampT v 255 ≤ 255 := clampT_in v 255 (by decide)
theorem pickTimes_in (left : Int) (p : PickD) (h : 0 ≤ left) : 0 ≤ pickTimes left p ∧ pickTimes left p ≤ 255 ∧ pickTimes left p ≤ left := by
 have := clamp255 p.times
 unfold pickTimes minI
 split
 · omega
 · split <;> omega
theorem timesL_app (a b : List PickD) : timesL (a ++ b) = timesL a + timesL b := by
 induction a with
 | nil => simp [timesL]
 | cons p a ih => show p.times + timesL (a ++ b) = p.times + timesL a + timesL b; rw [ih]; omega
structure PicksOK (n : Nat) (s : Int × List PickD) (k : Nat) : Prop where
 left : 0 ≤ s.1 ∧ s.1 ≤ 4000
 sum : s.1 + timesL s.2 = 4000
 len : s.2.length ≤ k
 fine : ∀ p, p ∈ s.2 → finePickP n p
theorem wrapI_n (x : Int) {n : Nat} (hn : 1 ≤ n) (h8 : n ≤ 8) : 0 ≤ wrapI x ((n : Int) - 1) ∧ wrapI x ((n : Int) - 1) ≤ (n : Int) - 1 := wrapI_le x _ (by omega)
theorem picksTo_ok {n : Nat} (hn : 1 ≤ n) (h8 : n ≤ 8) (l : List PickD) : ∀ k, k ≤ l.length → PicksOK n (picksTo n l k) k
 | 0, _ => by
  unfold picksTo
  rw [List.take_zero]
  exact ⟨⟨show (0 : Int) ≤ 4000 by decide, show (4000 : Int) ≤ 4000 by decide⟩, show (4000 : Int) + 0 = 4000 by decide, Nat.le_refl _, fun p hp => by cases hp⟩
 | k + 1, hk => by
  have H := picksTo_ok hn h8 l k (by omega)
  rw [picksTo_succ n l hk]
  obtain ⟨s, hs⟩ : ∃ s, picksTo n l k = s := ⟨_, rfl⟩
  rw [hs] at H ⊢
  obtain ⟨p, hp⟩ : ∃ p, l.getD k pick0 = p := ⟨_, rfl⟩
  rw [hp]
  have h1 := pickTimes_in s.1 p H.left.1
  have h0 := H.left
  unfold picksF
  split
  · exact ⟨H.left, H.sum, Nat.le_succ_of_le H.len, H.fine⟩
  · rename_i hsk
    refine ⟨by show 0 ≤ s.1 - _ ∧ s.1 - _ ≤ 4000; omega, ?_, by simp; exact H.len, fun q hq => ?_⟩
    · show s.1 - _ + timesL (s.2 ++ [_]) = 4000
      rw [timesL_app]
      have := H.sum
      have e : timesL [pickOf n s.1 p] = pickTimes s.1 p := by show pickTimes s.1 p + 0 = _; omega
      rw [e]; omega
    · rcases List.mem_append.1 hq with hq | hq
      · exact H.fine q hq
      · rw [List.mem_singleton] at hq; subst hq
        refine ⟨wrapI_n _ hn h8, ?_⟩
        show p.halt = true ∧ pickTimes s.1 p = 0 ∨ p.halt = false ∧ _
        cases hh : p.halt with
        | true => left; exact ⟨rfl, by unfold pickTimes; rw [if_pos hh]⟩
        | false =>
         right
         have : ¬ pickTimes s.1 p = 0 := fun e => hsk (by unfold pickSkip; rw [e, hh]; rfl)
         exact ⟨rfl, show 1 ≤ pickTimes s.1 p by omega, h1.2.1⟩
theorem picksTo_min (n : Nat) (l : List PickD) : picksTo n l 300 = picksTo n l (min 300 l.length) := by
 unfold picksTo
 rcases Nat.le_total 300 l.length with h | h
 · rw [Nat.min_eq_left h]
 · rw [Nat.min_eq_right h, List.take_of_length_le h, List.take_length]
theorem picksL_ok {n : Nat} (hn : 1 ≤ n) (h8 : n ≤ 8) (l : List PickD) : (picksL n l).length ≤ 300 ∧ timesL (picksL n l) ≤ 4000 ∧ ∀ i, i < (picksL n l).length → finePickP n ((picksL n l).getD i pick0) := by
 have H := picksTo_ok hn h8 l (min 300 l.length) (Nat.min_le_right _ _)
 rw [← picksTo_min] at H
 refine ⟨Nat.le_trans H.len (Nat.min_le_left _ _), by have := H.sum; have := H.left; show timesL (picksTo n l 300).2 ≤ 4000; omega, fun i hi => H.fine _ ?_⟩
 show (picksL n l).getD i pick0 ∈ _
 rw [List.getD_eq_getElem?_getD, List.getElem?_eq_getElem hi]
 exact List.getElem_mem hi
end Go.Proofs.YtpodgcpkccpnfaaGreat

namespace Go.Proofs.YtpodgcpkccpnfaaGreat
open Go.RowKit
theorem rclamp_any (n top : Int) (w : World) : Calls Tryz.prog 35 #[.int .i64 n, .int .i64 top] w fun e w' => e = .returned (.int .i64 (clampT n top)) ∧ w' = w := by
 have HW1 := hQ' (show ∀ W, Calls Tryz.prog 63 #[.int .i64 top, .int .i64 0, .int .i64 1099511627776] W fun e w' => e = .returned (.int .i64 (clampI top 0 1099511627776)) ∧ W = w' from fun W => within_any top 0 1099511627776 W)
 have HW2 := hQ' (show ∀ W, Calls Tryz.prog 63 #[.int .i64 n, .int .i64 0, .int .i64 (clampI top 0 1099511627776)] W fun e w' => e = .returned (.int .i64 (clampT n top)) ∧ W = w' from fun W => within_any n 0 (clampI top 0 1099511627776) W)
 generalize clampT n top = r at *
 generalize clampI top 0 1099511627776 = T at *
 go_enter Tryz.func35, Tryz.ntmps35
 go_wp2_with fail
 refine (HW1.out _).mono ?_
 rintro e w1 ⟨rfl, rfl⟩
 go_wp2_with fail
 refine (HW2.out _).mono ?_
 rintro e w2 ⟨rfl, rfl⟩
 go_wp2_with fail
 go_ret
 exact ⟨rfl, rfl⟩
end Go.Proofs.YtpodgcpkccpnfaaGreat

namespace Go.Proofs.YtpodgcpkccpnfaaGreat
open Go.RowKit
theorem infoPick : (Tryz.prog.info? 68).map (fun i => (i.zero, i.size, i.bytes)) = some (some (.agg #[.int .i64 0, .int .i64 0, .bool false]), 3, 24) := by kernel_rfl
def pickV (p : PickD) : List Value := [.int .i64 p.thread, .int .i64 p.times, .bool p.halt]
def PickRow (w : World) (q : Nat) (v : Value) (l : List PickD) : Prop := w.ownsRow q 68 3 v l.length (l.flatMap pickV)
theorem PickRow.up {w w' : World} {q : Nat} {lv : Value} {l : List PickD} (h : PickRow w q lv l) (u : Up w w') : PickRow w' q lv l := own_same h fun k e => u.block k (World.ownsRow.lt h k e).2
theorem PickRow.at' {w : World} {q : Nat} {lv : Value} {l : List PickD} (h : PickRow w q lv l) : ∃ A c, lv = .slice A l.length c ∧ PicksAt w A l := by
 obtain ⟨A, c, rfl, _, _⟩ := own_form h
 refine ⟨A, c, rfl, fun i hi => ?_⟩
 obtain ⟨b, cap, e, _, hc⟩ := own_flat (f := pickV) pick0 h (fun _ => rfl) hi
 cases e
 have h0 := hc 0 (by decide)
 have h1 := hc 1 (by decide)
 have h2 := hc 2 (by decide)
 rw [Nat.zero_add] at h0 h1 h2
 exact ⟨b, 0, rfl, by rw [Nat.zero_add]; exact h0, by rw [Nat.zero_add]; exact h1, by rw [Nat.zero_add]; exact h2⟩
theorem picksF_take (n : Nat) (l : List PickD) {k : Nat} (h : k < l.length) (left : Int) (out : List PickD) (hs : picksTo n l k = (left, out)) (p : PickD) (hp : l.getD k pick0 = p) :
 picksTo n l (k + 1) = if pickSkip left p = true then (left, out) else (left - pickTimes left p, out ++ [pickOf n left p]) := by
 rw [picksTo_succ n l h, hs, hp]; rfl
theorem picks_any (l : List PickD) (A : Option Addr) (c n : Nat) (w : World) (hn : 1 ≤ n ∧ n ≤ 8) (hr : PicksAt w A l) :
 Calls Tryz.prog 12 #[.slice A l.length c, .int .i64 n] w fun e w' => ∃ A' c', e = .returned (.slice A' (picksL n l).length c') ∧ PicksAt w' A' (picksL n l) ∧ Up w w' := by
 have HR := hQ' hr
 have HN := hQ' hn
 have HW := hQ' (fun (x : Int) (W : World) => wrapR_any x ((n : Int) - 1) W)
 have HC := hQ' (fun (x : Int) (W : World) => rclamp_any x 255 W)
 have HWI := hQ' (fun x => wrapI_n x hn.1 hn.2)
 have HC2 := hQ' clamp255
 have HF := hQ' (fun (k : Nat) (h : k < l.length) => picksF_take n l h)
 have HOK := hQ' (fun k h => picksTo_ok hn.1 hn.2 l k h)
 obtain ⟨i0, hi', hz0, hz1, hz2⟩ := info_parts infoPick
 have HIE := hQ' hi'
 have HZ0 := hQ' hz0
 have HZ1 := hQ' hz1
 have HZ2 := hQ' hz2
 have hsub : wrap64 ((n : Int) - 1) = (n : Int) - 1 := IntWalk.wrap64_in _ (by omega)
 have HMIN := hQ' (picksTo_min n l)
 obtain ⟨m, hm⟩ : ∃ m, l.length = m := ⟨_, rfl⟩
 have HM := hQ' hm
 rw [hm] at HF HOK HMIN ⊢
 clear hi' hz0 hz1 hz2 hr hn hm
 go_enter Tryz.func12, Tryz.ntmps12
 go_wp2_with fail
 go_loopw [5, 6, 7] (fun v lf iv wr => ∃ k : Nat, (k ≤ m ∧ k ≤ 300) ∧ iv = .int .i64 k ∧ lf = .int .i64 (picksTo n l k).1 ∧ Hid (PickRow wr w.heap.size v (picksTo n l k).2) ∧ Hid (Up w wr)) (fun _ _ iv _ => m - (intOf iv).toNat)
 case atStart => exact ⟨0, ⟨by omega, by omega⟩, rfl, rfl, hQ' (own_nil _ _ _ _), hQ' (Up.refl _)⟩
 case round =>
  obtain ⟨k, ⟨hk, hk0⟩, rfl, hlf, HO, HU⟩ := hrel
  obtain ⟨left, out, hs⟩ : ∃ a b, picksTo n l k = (a, b) := ⟨_, _, rfl⟩
  rw [hs] at hlf HO
  dsimp only at hlf HO
  subst hlf
  by_cases hlt2 : k < m ∧ k < 300
  · obtain ⟨hlt, hlt3⟩ := hlt2
    obtain ⟨b, off, rfl, p0, p1, p2⟩ := (HR.out.up HU.out) k (by rw [HM.out]; exact hlt)
    have HFK := hQ' (HF.out k hlt)
    have hle := (HOK.out k (Nat.le_of_lt hlt)).left
    have hl4 := (HOK.out k (Nat.le_of_lt hlt)).sum
    have hln := (HOK.out k (Nat.le_of_lt hlt)).len
    rw [hs] at hle hln hl4
    dsimp only at hle hln hl4
    have HFJ := hQ' (HFK.out left out hs)
    rcases hpp : l.getD k pick0 with ⟨pt, pm, ph⟩
    have HPP := hQ' hpp
    rw [hpp] at p0 p1 p2
    dsimp only at p0 p1 p2
    have hki : (k : Int) < m := by omega
    have hk3 : (k : Int) < 300 := by omega
    have hk9 : (0 : Int) ≤ k := by omega
    have HWX := hQ' (fun W => HW.out pt W)
    have HCX := hQ' (fun W => HC.out pm W)
    have hwi := HWI.out pt
    have hci := HC2.out pm
    have HSC := hQ' (fun (W : World) (u : Up wr W) => show W.cell? ⟨b, off + k * 3, none⟩ = some (.int .i64 pt) ∧ W.cell? ⟨b, off + k * 3 + 1, none⟩ = some (.int .i64 pm) ∧ W.cell? ⟨b, off + k * 3 + 2, none⟩ = some (.bool ph) from ⟨(u.cell (cell_lt p0)).trans p0, (u.cell (cell_lt p0)).trans p1, (u.cell (cell_lt p0)).trans p2⟩)
    obtain ⟨M, hM⟩ : ∃ M, minI (clampT pm 255) left = M := ⟨_, rfl⟩
    have HMI := hQ' hM
    generalize hwv : wrapI pt ((n : Int) - 1) = wv at *
    generalize hcv : clampT pm 255 = cv at *
    have HWV := hQ' (And.intro hwv hcv)
    have HST := hQ' (And.intro hs (And.intro hle (And.intro hl4 hln)))
    clear hpp hs hwv hcv hl4 hln
    go_upto_region 6 with fail
    go_cut [8] (fun v8 wx => ∃ zb : Nat, v8 = .pointer (some ⟨zb, 0, none⟩) ∧ Hid (Up wr wx ∧ wr.heap.size ≤ zb ∧ wx.heap[zb]? = some (.cells #[.int .i64 wv, .int .i64 M, .bool ph] 68 (0, 0))))
    case first =>
     clear hwi hci hle HF HOK HFK HFJ HMIN HM
     have hsub2 : IntKind.i64.wrap ((n : Int) - 1) = (n : Int) - 1 := IntWalk.i64_in _ (by have := HN.out; omega)
     have hmn : min cv left = M := by rw [← hM]; unfold minI; omega
     have hbl := cell_lt p0
     have hS := HSC.out _ (Up.refl wr).drew
     clear p0 p1 p2 hlt hlt3 hk hk0
     refine wp_region_held_drew (S := fun W => W.cell? ⟨b, off + k * 3, none⟩ = some (.int .i64 pt) ∧ W.cell? ⟨b, off + k * 3 + 1, none⟩ = some (.int .i64 pm) ∧ W.cell? ⟨b, off + k * 3 + 2, none⟩ = some (.bool ph)) (by kernel_rfl) hS (fun hS0 => ?_)
     refine tkE 0 ?_ rfl (by kernel_rfl) (fun _ _ _ h => h) hS0 ?_ ?_
     rotate_left
     · intro w hSw
       try dsimp only at hSw
       go_simp
       try (with_reducible rfl)
     try simp only [Act.put, sC_I, sC_0, sC_1]
     refine tkE 1 ?_ rfl (by kernel_rfl) (fun _ _ _ h => h) hS0 ?_ ?_
     rotate_left
     · intro w hSw
       try dsimp only at hSw
       go_simp
       try (with_reducible rfl)
     try simp only [Act.put, sC_I, sC_0, sC_1]
     refine tkE 2 ?_ rfl (by kernel_rfl) (fun _ _ _ h => h) hS0 ?_ ?_
     rotate_left
     · intro w hSw
       try dsimp only at hSw
       go_simp
       try (with_reducible rfl)
     try simp only [Act.put, sC_I, sC_0, sC_1]
     refine tkE 3 ?_ rfl (by kernel_rfl) (fun _ _ _ h => h) hS0 ?_ ?_
     rotate_left
     · intro w hSw
       try dsimp only at hSw
       go_simp
       try (with_reducible rfl)
     try simp only [Act.put, sC_I, sC_0, sC_1]
     refine tkE 4 ?_ rfl (by kernel_rfl) (fun _ _ _ h => h) hS0 ?_ ?_
     rotate_left
     · intro w hSw
       try dsimp only at hSw
       go_simp
       try (with_reducible rfl)
     try simp only [Act.put, sC_I, sC_0, sC_1]
     refine tkE 5 ?_ rfl (by kernel_rfl) (fun _ _ _ h => h) hS0 ?_ ?_
     rotate_left
     · intro w hSw
       try dsimp only at hSw
       go_simp
       try (with_reducible rfl)
     try simp only [Act.put, sC_I, sC_0, sC_1]
     refine tkE 6 ?_ rfl (by kernel_rfl) (fun _ _ _ h => h) hS0 ?_ ?_
     rotate_left
     · intro w hSw
       try dsimp only at hSw
       go_simp
       try (with_reducible rfl)
     try simp only [Act.put, sC_I, sC_0, sC_1]
     refine tkE 8 ?_ rfl (by kernel_rfl) (fun _ _ _ h => h) hS0 ?_ ?_
     rotate_left
     · intro w hSw
       try dsimp only at hSw
       go_simp
       try (with_reducible rfl)
     try simp only [Act.put, sC_I, sC_0, sC_1]
     refine tkE 9 ?_ rfl (by kernel_rfl) (fun _ _ _ h => h) hS0 ?_ ?_
     rotate_left
     · intro w hSw
       try dsimp only at hSw
       go_simp
       try (with_reducible rfl)
     try simp only [Act.put, sC_I, sC_0, sC_1]
     refine tkE 10 ?_ rfl (by kernel_rfl) (fun _ _ _ h => h) hS0 ?_ ?_
     rotate_left
     · intro w hSw
       try dsimp only at hSw
       go_simp
       try (with_reducible rfl)
     try simp only [Act.put, sC_I, sC_0, sC_1]
     refine tkE 11 ?_ rfl (by kernel_rfl) (fun _ _ _ h => h) hS0 ?_ ?_
     rotate_left
     · intro w hSw
       try dsimp only at hSw
       go_simp
       try (with_reducible rfl)
     try simp only [Act.put, sC_I, sC_0, sC_1]
     refine tkE 12 ?_ rfl (by kernel_rfl) (fun _ _ _ h => h) hS0 ?_ ?_
     rotate_left
     · intro w hSw
       try dsimp only at hSw
       go_simp
       try (with_reducible rfl)
     try simp only [Act.put, sC_I, sC_0, sC_1]
     refine tkE 14 ?_ rfl (by kernel_rfl) (fun _ _ _ h => h) hS0 ?_ ?_
     rotate_left
     · intro w hSw
       try dsimp only at hSw
       go_simp
       try (with_reducible rfl)
     try simp only [Act.put, sC_I, sC_0, sC_1]
     refine tkE 16 ?_ rfl (by kernel_rfl) (fun _ _ _ h => h) hS0 ?_ ?_
     rotate_left
     · intro w hSw
       try dsimp only at hSw
       go_simp
       try (with_reducible rfl)
     try simp only [Act.put, sC_I, sC_0, sC_1]
     refine tkE 17 ?_ rfl (by kernel_rfl) (fun _ _ _ h => h) hS0 ?_ ?_
     rotate_left
     · intro w hSw
       try dsimp only at hSw
       go_simp
       try (with_reducible rfl)
     try simp only [Act.put, sC_I, sC_0, sC_1]
     refine tkE 18 ?_ rfl (by kernel_rfl) (fun _ _ _ h => h) hS0 ?_ ?_
     rotate_left
     · intro w hSw
       try dsimp only at hSw
       go_simp
       try (with_reducible rfl)
     try simp only [Act.put, sC_I, sC_0, sC_1]
     refine tkE 19 ?_ rfl (by kernel_rfl) (fun _ _ _ h => h) hS0 ?_ ?_
     rotate_left
     · intro w hSw
       try dsimp only at hSw
       go_simp
       try (with_reducible rfl)
     try simp only [Act.put, sC_I, sC_0, sC_1]
     refine tkE 20 ?_ rfl (by kernel_rfl) (fun _ _ _ h => h) hS0 ?_ ?_
     rotate_left
     · intro w hSw
       try dsimp only at hSw
       go_simp
       try (with_reducible rfl)
     try simp only [Act.put, sC_I, sC_0, sC_1]
     refine wpAnyH_ready (rs := [7, 22]) (by decide +kernel) (by simp) ?_
     refine AllReadyH.cons rfl (fun K hK => ?_) (AllReadyH.cons rfl (fun K hK => ?_) AllReadyH.nil)
     · go_simp
       refine (HWX.out _).mono ?_
       rintro e w1 ⟨rfl, rfl⟩
       refine hK.out _ _ (HSC.out _ (Up.refl wr).drew) (fun hS4 => ?_)
       clear hK K
       try simp only [Act.put, sC_I, sC_0, sC_1]
       refine wpAnyH_ready (rs := [13, 22]) (by decide +kernel) (by simp) ?_
       refine AllReadyH.cons rfl (fun K hK => ?_) (AllReadyH.cons rfl (fun K hK => ?_) AllReadyH.nil)
       · go_simp
         refine (HCX.out _).mono ?_
         rintro e w2 ⟨rfl, rfl⟩
         refine hK.out _ _ (HSC.out _ (Up.refl wr).drew) (fun hS5 => ?_)
         clear hK K
         try simp only [Act.put, sC_I, sC_0, sC_1]
         refine tkE 15 ?_ rfl (by kernel_rfl) (fun _ _ _ h => h) hS5 ?_ ?_
         rotate_left
         · intro w hSw
           try dsimp only at hSw
           go_simp
           try (with_reducible rfl)
         try simp only [Act.put, sC_I, sC_0, sC_1]
         refine tkE 21 ?_ rfl (by kernel_rfl) (fun _ _ _ h => h) hS5 ?_ ?_
         rotate_left
         · intro w hSw
           try dsimp only at hSw
           go_simp
           try (with_reducible rfl)
         try simp only [Act.put, sC_I, sC_0, sC_1]
         refine rdE 22 (by kernel_rfl) rfl fun K hK => ?_
         go_simp
         obtain ⟨W6, hW6⟩ : ∃ x, (wr.alloc (.cells #[.int .i64 0, .int .i64 0, .bool false] 68)).drew = x := ⟨_, rfl⟩
         have HU6 := hQ' (show Up wr W6 from by rw [← hW6]; exact ((Up.refl wr).alloc _).drew)
         have hb6 : W6.heap[wr.heap.size]? = some (.cells #[.int .i64 0, .int .i64 0, .bool false] 68 (0, 0)) := by rw [← hW6]; exact heap_alloc_new wr _
         obtain ⟨zb, hzb⟩ : ∃ x, wr.heap.size = x := ⟨_, rfl⟩
         rw [hW6]
         rw [hzb] at hb6 ⊢
         have HB6 := hQ' hb6
         have HZB := hQ' hzb
         clear hW6 hzb hb6
         refine hK.out _ _ (HSC.out _ HU6.out) (fun hS3 => ?_)
         clear hK K
         try simp only [Act.put, sC_I, sC_0, sC_1]
         refine rdE 23 (by kernel_rfl) rfl fun K hK => ?_
         have hb6 := HB6.out
         have q0 := blk_cells hb6 0
         have q1 := blk_cells hb6 1
         have q2 := blk_cells hb6 2
         have f0 := blk_frozen hb6 0
         have f1 := blk_frozen hb6 1
         have f2 := blk_frozen hb6 2
         simp only [gA_T, gA_0, gA_S] at q0 q1 q2
         have HFB := hQ' (cells_setCell (cells_setCell (cells_setCell hb6 0 (.int .i64 wv)) 1 (.int .i64 M)) 2 (.bool ph))
         have HUF := hQ' (show Up wr _ from Below.setCell (p := ⟨zb, 2, none⟩) (Below.setCell (p := ⟨zb, 1, none⟩) (Below.setCell (p := ⟨zb, 0, none⟩) HU6.out (by have := HZB.out; show wr.heap.size ≤ zb; omega) (.int .i64 wv)) (by have := HZB.out; show wr.heap.size ≤ zb; omega) (.int .i64 M)) (by have := HZB.out; show wr.heap.size ≤ zb; omega) (.bool ph))
         clear hb6
         go_simp
         refine hK.out _ _ (HSC.out _ HUF.out) (fun hS9 => ?_)
         clear hK K
         try simp only [Act.put, sC_I, sC_0, sC_1]
         refine wpAnyH_done (by kernel_rfl) ?_ _
         try simp only [Act.put, sC_I, sC_0, sC_1, List.getElem_toArray, List.getElem_cons_succ, List.getElem_cons_zero]
         go_wp2_with fail
         go_meet
         exact ⟨zb, rfl, hQ' ⟨HUF.out, by have := HZB.out; omega, HFB.out⟩⟩
       · go_simp
         obtain ⟨W6, hW6⟩ : ∃ x, (wr.alloc (.cells #[.int .i64 0, .int .i64 0, .bool false] 68)).drew = x := ⟨_, rfl⟩
         have HU6 := hQ' (show Up wr W6 from by rw [← hW6]; exact ((Up.refl wr).alloc _).drew)
         have hb6 : W6.heap[wr.heap.size]? = some (.cells #[.int .i64 0, .int .i64 0, .bool false] 68 (0, 0)) := by rw [← hW6]; exact heap_alloc_new wr _
         obtain ⟨zb, hzb⟩ : ∃ x, wr.heap.size = x := ⟨_, rfl⟩
         rw [hW6]
         rw [hzb] at hb6 ⊢
         have HB6 := hQ' hb6
         have HZB := hQ' hzb
         clear hW6 hzb hb6
         refine hK.out _ _ (HSC.out _ HU6.out) (fun hS3 => ?_)
         clear hK K
         try simp only [Act.put, sC_I, sC_0, sC_1]
         refine rdE 13 (by kernel_rfl) rfl fun K hK => ?_
         go_simp
         refine (HCX.out _).mono ?_
         rintro e w2 ⟨rfl, rfl⟩
         refine hK.out _ _ (HSC.out _ HU6.out) (fun hS5 => ?_)
         clear hK K
         try simp only [Act.put, sC_I, sC_0, sC_1]
         refine tkE 15 ?_ rfl (by kernel_rfl) (fun _ _ _ h => h) hS5 ?_ ?_
         rotate_left
         · intro w hSw
           try dsimp only at hSw
           go_simp
           try (with_reducible rfl)
         try simp only [Act.put, sC_I, sC_0, sC_1]
         refine tkE 21 ?_ rfl (by kernel_rfl) (fun _ _ _ h => h) hS5 ?_ ?_
         rotate_left
         · intro w hSw
           try dsimp only at hSw
           go_simp
           try (with_reducible rfl)
         try simp only [Act.put, sC_I, sC_0, sC_1]
         refine rdE 23 (by kernel_rfl) rfl fun K hK => ?_
         have hb6 := HB6.out
         have q0 := blk_cells hb6 0
         have q1 := blk_cells hb6 1
         have q2 := blk_cells hb6 2
         have f0 := blk_frozen hb6 0
         have f1 := blk_frozen hb6 1
         have f2 := blk_frozen hb6 2
         simp only [gA_T, gA_0, gA_S] at q0 q1 q2
         have HFB := hQ' (cells_setCell (cells_setCell (cells_setCell hb6 0 (.int .i64 wv)) 1 (.int .i64 M)) 2 (.bool ph))
         have HUF := hQ' (show Up wr _ from Below.setCell (p := ⟨zb, 2, none⟩) (Below.setCell (p := ⟨zb, 1, none⟩) (Below.setCell (p := ⟨zb, 0, none⟩) HU6.out (by have := HZB.out; show wr.heap.size ≤ zb; omega) (.int .i64 wv)) (by have := HZB.out; show wr.heap.size ≤ zb; omega) (.int .i64 M)) (by have := HZB.out; show wr.heap.size ≤ zb; omega) (.bool ph))
         clear hb6
         go_simp
         refine hK.out _ _ (HSC.out _ HUF.out) (fun hS9 => ?_)
         clear hK K
         try simp only [Act.put, sC_I, sC_0, sC_1]
         refine wpAnyH_done (by kernel_rfl) ?_ _
         try simp only [Act.put, sC_I, sC_0, sC_1, List.getElem_toArray, List.getElem_cons_succ, List.getElem_cons_zero]
         go_wp2_with fail
         go_meet
         exact ⟨zb, rfl, hQ' ⟨HUF.out, by have := HZB.out; omega, HFB.out⟩⟩
     · go_simp
       obtain ⟨W6, hW6⟩ : ∃ x, (wr.alloc (.cells #[.int .i64 0, .int .i64 0, .bool false] 68)).drew = x := ⟨_, rfl⟩
       have HU6 := hQ' (show Up wr W6 from by rw [← hW6]; exact ((Up.refl wr).alloc _).drew)
       have hb6 : W6.heap[wr.heap.size]? = some (.cells #[.int .i64 0, .int .i64 0, .bool false] 68 (0, 0)) := by rw [← hW6]; exact heap_alloc_new wr _
       obtain ⟨zb, hzb⟩ : ∃ x, wr.heap.size = x := ⟨_, rfl⟩
       rw [hW6]
       rw [hzb] at hb6 ⊢
       have HB6 := hQ' hb6
       have HZB := hQ' hzb
       clear hW6 hzb hb6
       refine hK.out _ _ (HSC.out _ HU6.out) (fun hS3 => ?_)
       clear hK K
       try simp only [Act.put, sC_I, sC_0, sC_1]
       refine rdE 7 (by kernel_rfl) rfl fun K hK => ?_
       go_simp
       refine (HWX.out _).mono ?_
       rintro e w1 ⟨rfl, rfl⟩
       refine hK.out _ _ (HSC.out _ HU6.out) (fun hS4 => ?_)
       clear hK K
       try simp only [Act.put, sC_I, sC_0, sC_1]
       refine rdE 13 (by kernel_rfl) rfl fun K hK => ?_
       go_simp
       refine (HCX.out _).mono ?_
       rintro e w2 ⟨rfl, rfl⟩
       refine hK.out _ _ (HSC.out _ HU6.out) (fun hS5 => ?_)
       clear hK K
       try simp only [Act.put, sC_I, sC_0, sC_1]
       refine tkE 15 ?_ rfl (by kernel_rfl) (fun _ _ _ h => h) hS5 ?_ ?_
       rotate_left
       · intro w hSw
         try dsimp only at hSw
         go_simp
         try (with_reducible rfl)
       try simp only [Act.put, sC_I, sC_0, sC_1]
       refine tkE 21 ?_ rfl (by kernel_rfl) (fun _ _ _ h => h) hS5 ?_ ?_
       rotate_left
       · intro w hSw
         try dsimp only at hSw
         go_simp
         try (with_reducible rfl)
       try simp only [Act.put, sC_I, sC_0, sC_1]
       refine rdE 23 (by kernel_rfl) rfl fun K hK => ?_
       have hb6 := HB6.out
       have q0 := blk_cells hb6 0
       have q1 := blk_cells hb6 1
       have q2 := blk_cells hb6 2
       have f0 := blk_frozen hb6 0
       have f1 := blk_frozen hb6 1
       have f2 := blk_frozen hb6 2
       simp only [gA_T, gA_0, gA_S] at q0 q1 q2
       have HFB := hQ' (cells_setCell (cells_setCell (cells_setCell hb6 0 (.int .i64 wv)) 1 (.int .i64 M)) 2 (.bool ph))
       have HUF := hQ' (show Up wr _ from Below.setCell (p := ⟨zb, 2, none⟩) (Below.setCell (p := ⟨zb, 1, none⟩) (Below.setCell (p := ⟨zb, 0, none⟩) HU6.out (by have := HZB.out; show wr.heap.size ≤ zb; omega) (.int .i64 wv)) (by have := HZB.out; show wr.heap.size ≤ zb; omega) (.int .i64 M)) (by have := HZB.out; show wr.heap.size ≤ zb; omega) (.bool ph))
       clear hb6
       go_simp
       refine hK.out _ _ (HSC.out _ HUF.out) (fun hS9 => ?_)
       clear hK K
       try simp only [Act.put, sC_I, sC_0, sC_1]
       refine wpAnyH_done (by kernel_rfl) ?_ _
       try simp only [Act.put, sC_I, sC_0, sC_1, List.getElem_toArray, List.getElem_cons_succ, List.getElem_cons_zero]
       go_wp2_with fail
       go_meet
       exact ⟨zb, rfl, hQ' ⟨HUF.out, by have := HZB.out; omega, HFB.out⟩⟩
    case rest =>
     obtain ⟨zb, rfl, HX⟩ := hcut
     have HFJP := hQ' (HFJ.out _ HPP.out)
     have HKK := hQ' (And.intro hlt hlt3)
     have hk1 : wrap64 ((k : Int) + 1) = (k : Int) + 1 := IntWalk.wrap64_in _ (by omega)
     have HOC := hQ' (own_same HO.out fun q e => HX.out.1.block q (World.ownsRow.lt HO.out q e).2)
     have HTB := hQ' (show 0 ≤ left ∧ left ≤ 4000 ∧ 0 ≤ M ∧ M ≤ left from by
      have h1 := pickTimes_in left ⟨pt, pm, false⟩ hle.1
      have h2 : pickTimes left ⟨pt, pm, false⟩ = M := by show minI (clampT pm 255) left = M; rw [HWV.out.2]; exact HMI.out
      omega)
     clear p0 p1 p2 hwi hci HWX HCX hM HFK HFJ hle
     cases ph with
     | true =>
      have HPT := hQ' (show pickTimes left ⟨pt, pm, true⟩ = 0 from rfl)
      have HB2 := hQ' (cells_setCell HX.out.2.2 1 (.int .i64 0))
      have HUD := hQ' (show Up w (wc.setCell ⟨zb, 1, none⟩ (.int .i64 0)) from Below.setCell (p := ⟨zb, 1, none⟩) (HU.out.trans HX.out.1) (by have := HU.out.size; have := HX.out.2.1; show w.heap.size ≤ zb; omega) _)
      have HOC2 : Hid ((wc.setCell ⟨zb, 1, none⟩ (.int .i64 0)).ownsRow w.heap.size 68 3 u5 out.length (out.flatMap pickV)) := hQ' (own_same HOC.out fun q e => Below.heap_setCell wc ⟨zb, 1, none⟩ _ q (fun e2 => by have := (World.ownsRow.lt HO.out q e).2; have := HX.out.2.1; have e2 : q = zb := e2; omega))
      have hb := HX.out.2.2
      have q1 := blk_cells hb 1
      have q2 := blk_cells hb 2
      have f1 := blk_frozen hb 1
      simp only [gA_T, gA_0, gA_S] at q1 q2
      clear hb
      go_upto_region 9 with fail
      clear q1 q2 f1
      obtain ⟨wd, hwd⟩ : ∃ x, wc.setCell ⟨zb, 1, none⟩ (.int .i64 0) = x := ⟨_, rfl⟩
      rw [hwd] at HB2 HUD HOC2 ⊢
      clear hwd
      have hb := HB2.out
      have q0 := blk_cells hb 0
      have q1 := blk_cells hb 1
      have q2 := blk_cells hb 2
      simp only [sC_I, sC_1, sC_0, gA_T, gA_0, gA_S] at q0 q1 q2
      clear hb
      have HNX := hQ' (show picksTo n l (k + 1) = (left - 0, out ++ [⟨wv, 0, true⟩]) from by
       rw [HFJP.out, if_neg (by unfold pickSkip; rw [HPT.out]; simp)]
       unfold pickOf
       rw [HPT.out, HWV.out.1])
      have hlt5 : wrap64 left = left := IntWalk.wrap64_in _ (by have := HTB.out; omega)
      obtain ⟨Ao, co, rfl, _, _⟩ := own_form HOC.out
      have HLN := hQ' (show out.length + 1 ≤ maxLen ∧ (out.length + 1) * 24 ≤ 140737488355328 from by have := HST.out.2.2.2; have := HKK.out.2; unfold maxLen; omega)
      go_wp2_with (at_builtin; refine wpList_append_lies _ rfl (.tmp 56) (.tmp 58) 24 rfl w.heap.size 68 i0 (.agg #[.int .i64 0, .int .i64 0, .bool false]) 3 24 Tryz.underlying24 HIE.out HZ0.out HZ1.out HZ2.out rfl (by decide) _ out.length (out.flatMap pickV) rfl (own_up HOC2.out ((Up.refl _).alloc _)) ⟨wd.heap.size, 0, none⟩ 1 1 [.int .i64 wv, .int .i64 0, .bool true] rfl rfl (cells_new wd [.int .i64 wv, .int .i64 0, .bool true] 68) (by intro u hu; simp at hu; rcases hu with rfl | rfl | rfl <;> rfl) (by decide) HLN.out.1 HLN.out.2 (by have := HUD.out.size; simp; omega) _ rfl ?_)
      intro g1 cap w1 hown1 hgrow hat hlt1
      have HO2 := hQ' (show PickRow w1 w.heap.size (.slice (some ⟨g1, 0, none⟩) (out.length + 1) cap) (out ++ [⟨wv, 0, true⟩]) from by
       unfold PickRow
       rw [List.length_append, List.flatMap_append]
       exact hown1)
      have HU2 := hQ' (show Up w w1 from (Up.alloc HUD.out _).grown hgrow (by have := HUD.out.size; simp; omega) (own_ge HOC2.out))
      clear hown1 hgrow hat hlt1
      go_wp2_with fail
      go_roundw
      case rel => exact ⟨k + 1, ⟨HKK.out.1, HKK.out.2⟩, by first | rfl | exact cnt_next k (by have := HKK.out; omega), by first | (rw [HNX.out]; done) | (rw [HNX.out]; show _ = Value.int .i64 (left - 0); rw [Int.sub_zero]), hQ' (by rw [HNX.out]; exact HO2.out), HU2⟩
      case measure => first | exact cnt_down2 k m HKK.out.1 | exact cnt_down k m HKK.out.1 (by have := HKK.out; omega)
     | false =>
      have HPT := hQ' (show pickTimes left ⟨pt, pm, false⟩ = M from by show minI (clampT pm 255) left = M; rw [HWV.out.2]; exact HMI.out)
      have hb := HX.out.2.2
      have q0 := blk_cells hb 0
      have q1 := blk_cells hb 1
      have q2 := blk_cells hb 2
      simp only [gA_T, gA_0, gA_S] at q0 q1 q2
      clear hb
      by_cases hM0 : M = 0
      · subst hM0
        have HNX := hQ' (show picksTo n l (k + 1) = (left, out) from by rw [HFJP.out, if_pos (by unfold pickSkip; rw [HPT.out]; rfl)])
        go_wp2_with fail
        go_roundw
        case rel => exact ⟨k + 1, ⟨HKK.out.1, HKK.out.2⟩, by first | rfl | exact cnt_next k (by have := HKK.out; omega), by rw [HNX.out], hQ' (by rw [HNX.out]; exact HOC.out), hQ' (HU.out.trans HX.out.1)⟩
        case measure => first | exact cnt_down2 k m HKK.out.1 | exact cnt_down k m HKK.out.1 (by have := HKK.out; omega)
      · have hMb : (M == 0) = false := by simpa using hM0
        have HUD := hQ' (HU.out.trans HX.out.1)
        have HOC2 := hQ' HOC.out
        obtain ⟨wd, hwd⟩ : ∃ x, wc = x := ⟨_, rfl⟩
        subst hwd
        have HMZ := hQ' hM0
        have HNX := hQ' (show picksTo n l (k + 1) = (left - M, out ++ [⟨wv, M, false⟩]) from by
         rw [HFJP.out, if_neg (by unfold pickSkip; rw [HPT.out]; simp [HMZ.out])]
         unfold pickOf
         rw [HPT.out, HWV.out.1])
        have hlt5 : wrap64 (left - M) = left - M := IntWalk.wrap64_in _ (by have := HTB.out; omega)
        obtain ⟨Ao, co, rfl, _, _⟩ := own_form HOC.out
        have HLN := hQ' (show out.length + 1 ≤ maxLen ∧ (out.length + 1) * 24 ≤ 140737488355328 from by have := HST.out.2.2.2; have := HKK.out.2; unfold maxLen; omega)
        go_wp2_with (at_builtin; refine wpList_append_lies _ rfl (.tmp 56) (.tmp 58) 24 rfl w.heap.size 68 i0 (.agg #[.int .i64 0, .int .i64 0, .bool false]) 3 24 Tryz.underlying24 HIE.out HZ0.out HZ1.out HZ2.out rfl (by decide) _ out.length (out.flatMap pickV) rfl (own_up HOC2.out ((Up.refl _).alloc _)) ⟨wc.heap.size, 0, none⟩ 1 1 [.int .i64 wv, .int .i64 M, .bool false] rfl rfl (cells_new wc [.int .i64 wv, .int .i64 M, .bool false] 68) (by intro u hu; simp at hu; rcases hu with rfl | rfl | rfl <;> rfl) (by decide) HLN.out.1 HLN.out.2 (by have := HUD.out.size; simp; omega) _ rfl ?_)
        intro g1 cap w1 hown1 hgrow hat hlt1
        have HO2 := hQ' (show PickRow w1 w.heap.size (.slice (some ⟨g1, 0, none⟩) (out.length + 1) cap) (out ++ [⟨wv, M, false⟩]) from by
         unfold PickRow
         rw [List.length_append, List.flatMap_append]
         exact hown1)
        have HU2 := hQ' (show Up w w1 from (Up.alloc HUD.out _).grown hgrow (by have := HUD.out.size; simp; omega) (own_ge HOC2.out))
        clear hown1 hgrow hat hlt1
        go_wp2_with fail
        go_roundw
        case rel => exact ⟨k + 1, ⟨HKK.out.1, HKK.out.2⟩, by first | rfl | exact cnt_next k (by have := HKK.out; omega), by first | (rw [HNX.out]; done) | (rw [HNX.out]; show _ = Value.int .i64 (left - 0); rw [Int.sub_zero]), hQ' (by rw [HNX.out]; exact HO2.out), HU2⟩
        case measure => first | exact cnt_down2 k m HKK.out.1 | exact cnt_down k m HKK.out.1 (by have := HKK.out; omega)
  · have HE := hQ' (show picksTo n l k = picksTo n l 300 from by
     rw [HMIN.out, show k = min 300 m by omega])
    have HO3 : Hid (PickRow wr w.heap.size u5 (picksL n l)) := hQ' (by rw [hs] at HE; unfold picksL; rw [← HE.out]; exact HO.out)
    obtain ⟨A', c', rfl, hpk⟩ := HO3.out.at'
    have HPK := hQ' hpk
    clear hpk HO HO3
    rcases Nat.lt_or_ge k m with hlt | hge
    · have hk9 : ¬ ((k : Int) < 300) := by omega
      have hk8 : (k : Int) < m := by omega
      clear hlt hlt2 hk hk0
      go_wp2_with fail
      go_ret
      exact ⟨A', ⟨c', rfl⟩, HPK.out, HU.out⟩
    · have hk8 : ¬ ((k : Int) < m) := by omega
      clear hge hlt2 hk hk0
      go_wp2_with fail
      go_ret
      exact ⟨A', ⟨c', rfl⟩, HPK.out, HU.out⟩
end Go.Proofs.YtpodgcpkccpnfaaGreat

namespace Go.Proofs.YtpodgcpkccpnfaaGreat
open Go.RowKit
def tameL (l : List Int) (top : Int) : List Int := l.map (wrapI · top)
theorem tame_take {l : List Int} {k : Nat} (top : Int) (hk : k < l.length) : tameL (l.take (k + 1)) top = tameL (l.take k) top ++ [wrapI (l.getD k 0) top] := by
 unfold tameL
 rw [List.take_succ_eq_append_getElem hk, List.map_append, getD_lt hk]
 rfl
theorem tameG_any (l : List Int) (A : Option Addr) (c : Nat) (top : Int) (w : World) (hr : Row w A l.length (IVal l)) :
 Calls Tryz.prog 33 #[.slice A l.length c, .int .i64 top] w fun e w' =>
  ∃ A' c', e = .returned (.slice A' (tameL (l.take 3000) top).length c') ∧ Row w' A' (tameL (l.take 3000) top).length (IVal (tameL (l.take 3000) top)) ∧ (tameL (l.take 3000) top).length ≤ c' ∧ (A' = none → c' = 0) ∧ c' ≤ 9223372036854775807 ∧ (∀ b off, A' = some ⟨b, off, none⟩ → 0 < (tameL (l.take 3000) top).length → w.heap.size ≤ b) ∧ Up w w' := by
 have HR := hQ' hr
 have HW := hQ' (fun (n : Int) (W : World) => wrapR_any n top W)
 obtain ⟨i0, hi, hz0, hz1, hz2⟩ := info_parts infoInt
 have HI := hQ' hi
 have HZ0 := hQ' hz0
 have HZ1 := hQ' hz1
 have HZ2 := hQ' hz2
 obtain ⟨n, hn⟩ : ∃ n, l.length = n := ⟨_, rfl⟩
 rw [hn] at HR ⊢
 have HN := hQ' hn
 clear hn hi hz0 hz1 hz2 hr
 go_enter Tryz.func33, Tryz.ntmps33
 go_wp2_with fail
 go_loopw [5, 6] (fun v t wr => ∃ k : Nat, (k ≤ n ∧ k ≤ 3000) ∧ t = .int .i64 k ∧ Hid (wr.ownsRow w.heap.size 3 1 v k (icells (tameL (l.take k) top))) ∧ Hid (Up w wr)) (fun _ t _ => n - (intOf t).toNat)
 case atStart => exact ⟨0, ⟨by omega, by omega⟩, rfl, hQ' (World.ownsRow_nil _ _ _ _), hQ' (Up.refl _)⟩
 case round =>
  obtain ⟨k, ⟨hk, hk0⟩, rfl, HO, HU⟩ := hrel
  by_cases hlt2 : k < n ∧ k < 3000
  · obtain ⟨hlt, hlt3⟩ := hlt2
    obtain ⟨b, off, rfl, hc⟩ := HR.out k hlt
    have hc := (HU.out.cell (p := ⟨b, off + k, none⟩) (cell_lt hc)).trans hc
    unfold IVal at hc
    have HT := hQ' (tame_take (l := l) (k := k) top (by rw [HN.out]; exact hlt))
    generalize l.getD k 0 = x at *
    have hk3 : ((k : Int) < 3000) = True := by simp; omega
    have hkw : wrap64 ((k : Int) + 1) = (k : Int) + 1 := IntWalk.wrap64_in _ ⟨by omega, by omega⟩
    have HL3 := hQ' hlt3
    obtain ⟨A1, c1, hv, _, _⟩ := own_form HO.out
    subst hv
    have HSJ := hQ' (show k + 1 ≤ maxLen ∧ (k + 1) * 8 ≤ 140737488355328 by have := HL3.out; unfold maxLen; omega)
    have HWX := hQ' (fun W => HW.out x W)
    generalize wrapI x top = y at *
    go_wp2_with (first | (go_at_call 34; refine (HWX.out _).mono ?_; rintro e w1 ⟨rfl, rfl⟩) | (at_builtin; refine wpList_append_lies _ rfl (.tmp 17) (.tmp 24) 25 rfl w.heap.size 3 i0 (.int .i64 0) 1 8 Tryz.underlying25 HI.out HZ0.out HZ1.out HZ2.out rfl (by decide) _ k (icells (tameL (l.take k) top)) rfl (own_up HO.out ((Up.refl wr).alloc _)) ⟨wr.heap.size, 0, none⟩ 1 1 [.int .i64 y] rfl rfl (cells_new wr [.int .i64 y] 3) (by intro u hu; simp at hu; subst hu; rfl) (by decide) HSJ.out.1 HSJ.out.2 (by have := HU.out.size; simp; omega) _ rfl ?_))
    intro g1 cap w1 hown1 hgrow hat hlt1
    have HO2 := hQ' (show w1.ownsRow w.heap.size 3 1 (.slice (some ⟨g1, 0, none⟩) (k + 1) cap) (k + 1) (icells (tameL (l.take (k + 1)) top)) by
     rw [HT.out]
     have : icells (tameL (l.take k) top ++ [y]) = icells (tameL (l.take k) top) ++ [.int .i64 y] := by unfold icells; simp
     rw [this]
     exact hown1)
    have HU2 := hQ' (show Up w w1 from (Up.alloc HU.out (.cells #[.int .i64 y] 3)).grown hgrow (by have := HU.out.size; simp; omega) (own_ge HO.out))
    clear hown1 hgrow hat hlt1 hk3 hkw
    go_wp2_with fail
    go_roundw
    case rel => exact ⟨k + 1, ⟨by omega, by omega⟩, by go_num, HO2, HU2⟩
    case measure => simp [intOf]; omega
  · have HE := hQ' (show l.take k = l.take 3000 from by
     rcases Nat.lt_or_ge k n with h | h
     · have : k = 3000 := by omega
       rw [this]
     · rw [List.take_of_length_le (by rw [HN.out]; exact h), List.take_of_length_le (by rw [HN.out]; omega)])
    have HK := hQ' (show k = (tameL (l.take 3000) top).length from by
     rw [← HE.out]
     unfold tameL
     rw [List.length_map, List.length_take, HN.out]
     omega)
    obtain ⟨A1, c1, rfl, h1, h2⟩ := own_form HO.out
    obtain ⟨A2, c2, hA, hrow, _⟩ := own_row (f := IVal (tameL (l.take 3000) top)) HO.out (fun j hj => by
     rw [HE.out]
     exact iVal_map (by rw [← HK.out]; exact hj))
    simp only [Value.slice.injEq] at hA
    obtain ⟨rfl, _, rfl⟩ := hA
    have HROW := hQ' hrow
    have HNIL := hQ' (show A1 = none → c1 = 0 from fun hA => by
     rcases HO.out.2 with ⟨hv, _⟩ | ⟨g, cap, cur, hv, hb, _⟩
     · simp only [Value.slice.injEq] at hv; exact hv.2.2
     · simp only [Value.slice.injEq] at hv
       rw [hv.1] at hA; cases hA)
    have HGE := hQ' (show ∀ b off, A1 = some ⟨b, off, none⟩ → 0 < k → w.heap.size ≤ b from fun b off hA hk => by
     subst hA
     rcases HO.out.2 with ⟨hv, _⟩ | ⟨g, cap, cur, hv, hb, _⟩
     · cases hv
     · simp only [Value.slice.injEq, Option.some.injEq, Addr.mk.injEq] at hv
       obtain ⟨⟨rfl, -⟩, -⟩ := hv
       exact hb)
    have H1 := hQ' (And.intro h1 h2)
    have HKK := hQ' (show k ≤ n ∧ k ≤ 3000 from ⟨hk, hk0⟩)
    clear hrow h1 h2
    rcases Nat.lt_or_ge k n with hlt | hge
    · have hk9 : ¬ ((k : Int) < 3000) := by omega
      have hk8 : (k : Int) < n := by omega
      clear hlt hlt2 hk hk0
      go_wp2_with fail
      go_ret
      rw [← HK.out]
      exact ⟨A1, c1, rfl, HROW.out, H1.out.1, HNIL.out, by have := H1.out.2; omega, HGE.out, HU.out⟩
    · have hk8 : ¬ ((k : Int) < n) := by omega
      clear hge hlt2 hk hk0
      go_wp2_with fail
      go_ret
      rw [← HK.out]
      exact ⟨A1, c1, rfl, HROW.out, H1.out.1, HNIL.out, by have := H1.out.2; omega, HGE.out, HU.out⟩
end Go.Proofs.YtpodgcpkccpnfaaGreat

