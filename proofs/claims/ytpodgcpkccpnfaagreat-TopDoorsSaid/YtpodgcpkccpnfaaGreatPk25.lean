/-
  Parts of a proof, packed: RunB, LckA, RunW
-/
import Derived.Test.YtpodgcpkccpnfaaGreatPk01
import Derived.Test.YtpodgcpkccpnfaaGreatPk07
import Derived.Test.YtpodgcpkccpnfaaGreatPk20
import Derived.Test.YtpodgcpkccpnfaaGreatPk21
import Derived.Test.YtpodgcpkccpnfaaGreatPk24
set_option linter.unusedVariables false
set_option linter.unusedSimpArgs false
set_option maxRecDepth 20000
set_option maxHeartbeats 16000000
namespace Go.Proofs.YtpodgcpkccpnfaaGreat
open Go.RowKit
theorem cnt_next (i : Nat) (h : i ≤ 1000000) : Value.int .i64 (wrap64 ((i : Int) + 1)) = .int .i64 ((i + 1 : Nat) : Int) := by
 rw [IntWalk.wrap64_in _ (by omega)]; rfl
theorem cnt_down (i n : Nat) (h : i < n) (h2 : n ≤ 1000000) : n - (intOf (.int .i64 (wrap64 ((i : Int) + 1)))).toNat < n - (intOf (.int .i64 (i : Int))).toNat := by
 rw [IntWalk.wrap64_in _ (by omega)]
 show n - ((i : Int) + 1).toNat < n - (i : Int).toNat
 omega
theorem cnt_down2 (i n : Nat) (h : i < n) : n - (intOf (.int .i64 ((i : Int) + 1))).toNat < n - (intOf (.int .i64 (i : Int))).toNat := by
 show n - ((i : Int) + 1).toNat < n - (i : Int).toNat
 omega
def rep0 : Array Value := #[.slice none 0 0, .int .i64 0, .slice none 0 0, .slice none 0 0, .slice none 0 0]
structure RunOK (ObP : World → Value → Prop) (M : MD) (sc : ScD) (l : List SD) : Prop where
 ok : ScrOK sc
 pos : ∀ i, i < sc.progs.length → 0 < (sc.progs.getD i []).length
 fit : Fit l
 many : M.many = cntK l l.length
 fresh : M.fresh = mkP l
 draws : M.draws = sc.draws
 few : FewOK M sc.progs
 frOK : FreshOK M
 ov : ∀ W v, ObP W v → ∃ q n c, v = .slice (some ⟨q, 0, none⟩) n c
 do' : ∀ (B : Nat) (W1 : World) (b g h c1 : Nat) (ov dv : Value) (pvs : List Value) (stat : Nat → Prop), ObP W1 ov → (∀ k, k < B → k < W1.heap.size → stat k) → (∃ q n c, ov = .slice (some ⟨q, 0, none⟩) n c ∧ q < B) → B ≤ W1.heap.size → DoOK (mkZ B W1 b g h sc.progs.length c1 l ov dv pvs M) sc.progs stat
structure RunZ (M : MD) (sc : ScD) (W0 w1 : World) (Z : WK) (stat : Nat → Prop) : Prop where
 en : Z.n = sc.progs.length
 ew : Z.w1 = w1
 eM : Z.M = M
 L : Lies Z sc.progs stat
 D : DoOK Z sc.progs stat
 B : W0.heap.size ≤ Z.B
 up : Up W0 Z.w1
 run : RunS Z sc.progs stat w1.heap.size (fun _ => False) w1 0 (w1.alloc (.cells rep0 32)) (startW sc.progs) [] (.slice none 0 0)
theorem new_run {ObP : World → Value → Prop} {M : MD} {sc : ScD} {l : List SD} (R : RunOK ObP M sc l) {W0 w1 : World} {e : Ending} (h : NewQ ObP W0 sc l e w1) : ∃ Z stat, e = .returned (.tuple #[.pointer (some ⟨Z.b, 0, none⟩), .int .i64 0]) ∧ RunZ M sc W0 w1 Z stat := by
 obtain ⟨b, h, B, X, ov, dv, tv, pvs, rfl, H⟩ := h
 have hq := R.ov _ _ H.ob
 obtain ⟨g, c1, ow, htv, hgb, hW, hL, h0⟩ := new_lies H R.ok.n.1 R.ok.n.2 R.pos (fun i hi => by have := (R.ok.pl i hi).1; omega) R.ok.d R.fit M R.many R.fresh R.draws hq
 have hBs : B ≤ w1.heap.size := by have := H.Bb; have := (Array.getElem?_eq_some_iff.1 H.blk).1; omega
 refine ⟨mkZ B w1 b g h sc.progs.length c1 l ov dv pvs M, fun k => k < w1.heap.size ∧ ow k = 0, rfl, rfl, rfl, rfl, hL, R.do' _ _ _ _ _ _ _ _ _ _ H.ob (fun k h1 h2 => ⟨h2, h0 k h1⟩) ?_ hBs, H.Bw, H.up, ?_⟩
 · obtain ⟨q, n, c, e⟩ := hq
   exact ⟨q, n, c, e, H.oq q n c e⟩
 · have u1 := (Up.refl w1).alloc (.cells rep0 32)
   refine ⟨⟨0, _, _, ow, hW.grow u1, Nat.le_refl _, fun j hj => hj.2, hW.free (Nat.le_refl _), fun j hj => by simp [Value.ownBlock] at hj, fun k hk => hk.elim⟩, Fits.start _ _, ⟨[], GInv.start _ _ R.ok.n.2 R.frOK.off⟩, Nat.le_refl _, heap_alloc_new w1 _, EvRow.nil _ _, Nat.le_refl _, fun k hk => hk.elim, fun k hk => hk.elim⟩
def mAt (ps : List PickD) (i : Nat) : Nat := (timesL (ps.take i)).toNat + i
theorem mAt_le {n : Nat} {ps : List PickD} (h : ∀ i, i < ps.length → finePickP n (ps.getD i pick0)) (hk : ps.length ≤ 400) (ht : timesL ps ≤ 4000) : ∀ i, i ≤ ps.length → mAt ps i ≤ 4400 := by
 have hmono : ∀ d i, i + d = ps.length → timesL (ps.take i) ≤ timesL (ps.take ps.length) := by
  intro d
  induction d with
  | zero => intro i hi; rw [show i = ps.length by omega]; omega
  | succ d ih =>
   intro i hi
   have h1 := ih (i + 1) (by omega)
   rw [timesL_take ps (by omega)] at h1
   have h2 := h i (by omega)
   rcases h2.2 with h3 | h3 <;> omega
 intro i hi
 have h1 := hmono (ps.length - i) i (by omega)
 rw [List.take_length] at h1
 unfold mAt; omega
theorem mAt_succ {n : Nat} {ps : List PickD} (h : ∀ i, i < ps.length → finePickP n (ps.getD i pick0)) {i : Nat} (hi : i < ps.length) : mAt ps (i + 1) = mAt ps i + (ps.getD i pick0).times.toNat + 1 := by
 have h1 := (timesL_nn h i (by omega)).1
 have h2 := h i hi
 unfold mAt
 rw [timesL_take ps hi]
 rcases h2.2 with h3 | h3 <;> omega
section
variable {Z : WK} {progs : List (List CD)} {stat : Nat → Prop} {rb : Nat} {X : Nat → Prop} {wX wr : World} {lv : Value} {M : MD} {S : WD} {e0 : List EvD} {ps : List PickD}
theorem RunS.timesN {m j t : Nat} (H : RunS Z progs stat rb X wX (m + j + 1) wr (pickS M t (timesS M t j S).1) ((e0 ++ (timesS M t j S).2) ++ pickE M t (timesS M t j S).1) lv) : RunS Z progs stat rb X wX (m + (j + 1)) wr (timesS M t (j + 1) S).1 (e0 ++ (timesS M t (j + 1) S).2) lv := by
 rw [List.append_assoc] at H
 exact H
theorem RunS.haltN {n i : Nat} {wY : World} (h : ∀ i, i < ps.length → finePickP n (ps.getD i pick0)) (hi : i < ps.length) (hh : (ps.getD i pick0).halt = true) (H : RunS Z progs stat rb X wX (mAt ps i + 1) wr (haltS (ps.getD i pick0).thread.toNat (runP M ps i S).1) ((runP M ps i S).2 ++ haltE (ps.getD i pick0).thread.toNat (runP M ps i S).1) lv) :
 RunS Z progs stat rb (fun _ => False) wY (mAt ps (i + 1)) wr (runP M ps (i + 1) S).1 (runP M ps (i + 1) S).2 lv := by
 have e1 : stepP M (ps.getD i ⟨0, 0, true⟩) (runP M ps i S).1 = (haltS (ps.getD i pick0).thread.toNat (runP M ps i S).1, haltE (ps.getD i pick0).thread.toNat (runP M ps i S).1) := if_pos hh
 have e2 : runP M ps (i + 1) S = (haltS (ps.getD i pick0).thread.toNat (runP M ps i S).1, (runP M ps i S).2 ++ haltE (ps.getD i pick0).thread.toNat (runP M ps i S).1) := by
  show ((stepP M (ps.getD i ⟨0, 0, true⟩) (runP M ps i S).1).1, (runP M ps i S).2 ++ (stepP M (ps.getD i ⟨0, 0, true⟩) (runP M ps i S).1).2) = _
  rw [e1]
 rw [e2]
 exact (H.drop wY).more (by rw [mAt_succ h hi]; omega)
theorem RunS.picksN {n i : Nat} {wY : World} (h : ∀ i, i < ps.length → finePickP n (ps.getD i pick0)) (hi : i < ps.length) (hh : (ps.getD i pick0).halt = false) (H : RunS Z progs stat rb X wX (mAt ps i + (ps.getD i pick0).times.toNat) wr (timesS M (ps.getD i pick0).thread.toNat (ps.getD i pick0).times.toNat (runP M ps i S).1).1 ((runP M ps i S).2 ++ (timesS M (ps.getD i pick0).thread.toNat (ps.getD i pick0).times.toNat (runP M ps i S).1).2) lv) :
 RunS Z progs stat rb (fun _ => False) wY (mAt ps (i + 1)) wr (runP M ps (i + 1) S).1 (runP M ps (i + 1) S).2 lv := by
 have e1 : stepP M (ps.getD i ⟨0, 0, true⟩) (runP M ps i S).1 = timesS M (ps.getD i pick0).thread.toNat (ps.getD i pick0).times.toNat (runP M ps i S).1 := if_neg (by rw [show ps.getD i ⟨0, 0, true⟩ = ps.getD i pick0 from rfl, hh]; decide)
 have e2 : runP M ps (i + 1) S = ((timesS M (ps.getD i pick0).thread.toNat (ps.getD i pick0).times.toNat (runP M ps i S).1).1, (runP M ps i S).2 ++ (timesS M (ps.getD i pick0).thread.toNat (ps.getD i pick0).times.toNat (runP M ps i S).1).2) := by
  show ((stepP M (ps.getD i ⟨0, 0, true⟩) (runP M ps i S).1).1, (runP M ps i S).2 ++ (stepP M (ps.getD i ⟨0, 0, true⟩) (runP M ps i S).1).2) = _
  rw [e1]
 rw [e2]
 exact (H.drop wY).more (by rw [mAt_succ h hi]; omega)
theorem RunS.timesE {m j t : Nat} {S1 : WD} {evs EV : List EvD} (hS : (timesS M t j S).1 = S1) (hE : e0 ++ (timesS M t j S).2 = evs) (hV : pickE M t S1 = EV) (H : RunS Z progs stat rb X wX (m + j + 1) wr (pickS M t S1) (evs ++ EV) lv) : RunS Z progs stat rb X wX (m + (j + 1)) wr (timesS M t (j + 1) S).1 (e0 ++ (timesS M t (j + 1) S).2) lv := by
 subst hS hE hV
 exact H.timesN
theorem RunS.haltF {n i tn : Nat} {wY : World} {S1 : WD} {evs EV : List EvD} (hS : (runP M ps i S).1 = S1) (hE : (runP M ps i S).2 = evs) (hV : haltE tn S1 = EV) (hp : ps.getD i pick0 = ⟨tn, 0, true⟩) (h : ∀ i, i < ps.length → finePickP n (ps.getD i pick0)) (hi : i < ps.length) (H : RunS Z progs stat rb X wX (mAt ps i + 1) wr (haltS tn S1) (evs ++ EV) lv) :
 RunS Z progs stat rb (fun _ => False) wY (mAt ps (i + 1)) wr (runP M ps (i + 1) S).1 (runP M ps (i + 1) S).2 lv := by
 subst hS hE hV
 refine RunS.haltN h hi (by rw [hp]) (X := X) (wX := wX) ?_
 rw [hp]; exact H
theorem RunS.picksF {n i tn mn : Nat} {wY : World} {S1 : WD} {evs : List EvD} (hS : (runP M ps i S).1 = S1) (hE : (runP M ps i S).2 = evs) (hp : ps.getD i pick0 = ⟨tn, mn, false⟩) (h : ∀ i, i < ps.length → finePickP n (ps.getD i pick0)) (hi : i < ps.length) (H : RunS Z progs stat rb X wX (mAt ps i + mn) wr (timesS M tn mn S1).1 (evs ++ (timesS M tn mn S1).2) lv) :
 RunS Z progs stat rb (fun _ => False) wY (mAt ps (i + 1)) wr (runP M ps (i + 1) S).1 (runP M ps (i + 1) S).2 lv := by
 subst hS hE
 refine RunS.picksN h hi (by rw [hp]) (X := X) (wX := wX) ?_
 rw [hp]; exact H
end
end Go.Proofs.YtpodgcpkccpnfaaGreat

namespace Go.Proofs.YtpodgcpkccpnfaaGreat
open Go.RowKit
theorem few_more {α : Type} : ∀ (o : Op α) {n m : Nat}, o.few n → n ≤ m → o.few m
 | .ret v, n, m, h, hle => trivial
 | .ask a k, n, m, h, hle => fun x => few_more (k x) (h x) hle
 | .get i k, n, m, h, hle => fun x => few_more (k x) (h x) hle
 | .set i v k, n, m, h, hle => few_more k h hle
 | .note c k, n, m, h, hle => by
  obtain ⟨j, h1, h2⟩ := h
  exact ⟨m - 1, by omega, few_more k h2 (by omega)⟩
 | .live k, n, m, h, hle => fun b => few_more (k b) (h b) hle
theorem few_note {α : Type} {c : Int} {k : Op α} {n : Nat} (h : k.few n) : (Op.note c k).few (n + 1) := ⟨n, rfl, h⟩
theorem few_bind0 {α β : Type} (o : Op α) (f : α → Op β) {n : Nat} (h : o.few 0) (hf : ∀ v, (f v).few n) : (o.bind f).few n := by
 have := few_bind o f 0 n h hf
 rwa [Nat.zero_add] at this
theorem spin0_few {c : Int} : ∀ f, (spin0 c f).few 0
 | 0 => fun _ => trivial
 | f + 1 => fun x => by
  show (if x = 0 then (.ret () : Op Unit) else spin0 c f).few 0
  split
  · trivial
  · exact spin0_few f
theorem spinP_few {c : Int} {p : Int → Bool} : ∀ f, (spinP c p f).few 0
 | 0 => fun _ => trivial
 | f + 1 => fun x => by
  show (if p x = true then (.ret x : Op Int) else spinP c p f).few 0
  split
  · trivial
  · exact spinP_few f
theorem readMax_few {num : Int} {me : Nat} : ∀ (js : List Nat) (t : Int), (readMax num me js t).few 0
 | [], t => trivial
 | j :: js, t => by
  unfold readMax
  split
  · exact readMax_few js t
  · exact fun x => readMax_few js _
theorem bakWait_few {ch num : Int} {me : Nat} {t : Int} {F : Nat} : ∀ js, (bakWait ch num me t F js).few 0
 | [] => trivial
 | j :: js => by
  unfold bakWait
  split
  · exact bakWait_few js
  · exact few_bind0 _ _ (spin0_few F) fun _ => few_bind0 _ _ (spinP_few F) fun _ => bakWait_few js
theorem bakAcq_few {n : Nat} {room base loc : Int} {me F : Nat} : (bakAcq n room base loc me F).few 3 := by
 refine few_note (n := 2) fun x => few_bind0 _ _ (readMax_few _ _) fun t => ?_
 unfold bakTicket
 split
 · exact fun x => few_note (n := 1) trivial
 · exact fun x y => few_note (n := 1) (few_bind0 _ _ (bakWait_few _) fun _ => few_note (n := 0) (k := .ret 0) trivial)
theorem oneScan_few {base : Int} {me F : Nat} {again : Op Unit} (h : again.few 0) : ∀ js, (oneScan base me F again js).few 0
 | [] => trivial
 | j :: js => fun x => by
  show (if x = 0 then oneScan base me F again js else _).few 0
  split
  · exact oneScan_few h js
  · exact fun y => few_bind0 _ _ (spin0_few F) fun _ => h
theorem oneTry_few {base : Int} {me F : Nat} : ∀ f, (oneTry base me F f).few 0
 | 0 => fun _ => trivial
 | f + 1 => fun x => oneScan_few (oneTry_few f) _
theorem oneLate_few {base : Int} {F : Nat} : ∀ js, (oneLate base F js).few 0
 | [] => trivial
 | j :: js => few_bind0 _ _ (spin0_few F) fun _ => oneLate_few js
theorem oneAcq_few {n : Nat} {base : Int} {me F : Nat} : (oneAcq n base me F).few 3 :=
 few_note (n := 2) (few_bind0 _ _ (oneTry_few F) fun _ => few_note (n := 1) (few_bind0 _ _ (oneLate_few _) fun _ => few_note (n := 0) trivial))
theorem lockAcq_few {alg : Int} {n : Nat} {room base loc : Int} {me F : Nat} : (lockAcq alg n room base loc me F).few 3 := by
 unfold lockAcq
 split
 · exact bakAcq_few
 · exact oneAcq_few
theorem lockRel_few {alg : Int} {n : Nat} {base loc : Int} {me : Nat} : (lockRel alg n base loc me).few 1 := by
 unfold lockRel
 split
 · exact few_note (n := 0) fun x => trivial
 · exact few_note (n := 0) fun x => trivial
theorem libAcq_few {mine : Int} {acq : Op Int} {n : Nat} (h : acq.few n) : (asRep (libAcq mine acq)).few n := by
 have h1 : (libAcq mine acq).few n := fun x => by
  show (if x = 1 then (.ret 10 : Op Int) else _).few n
  split
  · trivial
  · have := few_bind acq (fun e => if e = 0 then Op.set mine 1 (.ret e) else .ret e) n 0 h (fun e => by split <;> exact trivial)
    rw [Nat.add_zero] at this; exact this
 have := few_bind (libAcq mine acq) (fun e => (.ret (e, 0) : Op RD)) n 0 h1 (fun e => trivial)
 rw [Nat.add_zero] at this; exact this
theorem libRel_few {mine : Int} {rel : Op Unit} {n : Nat} (h : rel.few n) : (asRep (libRel mine rel)).few n := by
 have h1 : (libRel mine rel).few n := fun x => by
  show (if x = 1 then _ else (.ret 9 : Op Int)).few n
  split
  · have := few_bind rel (fun _ => (Op.set mine 0 (.ret 0) : Op Int)) n 0 h (fun e => trivial)
    rw [Nat.add_zero] at this; exact this
  · trivial
 have := few_bind (libRel mine rel) (fun e => (.ret (e, 0) : Op RD)) n 0 h1 (fun e => trivial)
 rw [Nat.add_zero] at this; exact this
def lkM (alg : Int) (n : Nat) (room : Int) (draws : List Int) : MD :=
 ⟨fun t c => if c.1 = 1 then asRep (libAcq (lkLocs alg) (lockAcq alg n room 0 0 t 6000)) else asRep (libRel (lkLocs alg) (lockRel alg n 0 0 t)), cntK (lkStrips alg n room) (lkStrips alg n room).length, mkP (lkStrips alg n room), draws⟩
structure LkSc (alg : Int) (n : Nat) (room : Int) (sc : ScD) : Prop where
 ok : ScrOK sc
 len : sc.progs.length = n
 th : sc.things = [⟨1, alg, 1, room, 0, 0, 0, 0⟩]
 pos : ∀ i, i < sc.progs.length → 0 < (sc.progs.getD i []).length
 ops : ∀ t c, c ∈ sc.progs.getD t [] → (c.1 = 1 ∨ c.1 = 2) ∧ c.2.1 = 0
 lk : LkOK alg n 0 room
theorem lkM_few {alg : Int} {n : Nat} {room : Int} {draws : List Int} (progs : List (List CD)) : FewOK (lkM alg n room draws) progs := fun t c _ => by
 show (if c.1 = 1 then _ else _ : Op RD).few 1000
 split
 · exact few_more _ (libAcq_few lockAcq_few) (by decide)
 · exact few_more _ (libRel_few lockRel_few) (by decide)
theorem mkP_fresh (l : List SD) (c : Int) : (mkP l c).value = 0 ∧ (0 ≤ (mkP l c).top ∧ (mkP l c).top ≤ 1099511627776) ∧ ∀ t, ((mkP l c).bys t).on = false := by
 unfold mkP
 have hc : ∀ t : Int, 0 ≤ clampI t 0 1099511627776 ∧ clampI t 0 1099511627776 ≤ 1099511627776 := fun t => clampI_le t
 split
 · rename_i s _
   exact ⟨rfl, hc s.top, fun _ => rfl⟩
 · exact ⟨rfl, hc 0, fun _ => rfl⟩
theorem lkM_fresh {alg : Int} {n : Nat} {room : Int} {draws : List Int} : FreshOK (lkM alg n room draws) :=
 ⟨fun c => (mkP_fresh _ c).1, fun c => (mkP_fresh _ c).2.1, fun c t => (mkP_fresh _ c).2.2 t⟩
theorem lkStrips_cnt {alg : Int} {n : Nat} {room : Int} (h : LkOK alg n 0 room) : allF (lkStrips alg n room) (lkStrips alg n room).length = true ∧ cntK (lkStrips alg n room) (lkStrips alg n room).length = lkCells alg n := by
 obtain ⟨hn1, hn2⟩ := h.n
 obtain ⟨hr1, hr2⟩ := h.room
 have f1 : fineS ⟨n, 1, 1⟩ = true := by
  unfold fineS
  simp
 have f2 : fineS ⟨n, 1, room⟩ = true := by
  unfold fineS
  simp
  omega
 have m0 : minI (n : Int) 32769 = n := by unfold minI; rw [if_neg (by omega)]
 have m1 : minI (0 + (n : Int)) 32769 = n := by unfold minI; rw [if_neg (by omega)]; omega
 have m2 : minI ((n : Int) + n) 32769 = 2 * n := by unfold minI; rw [if_neg (by omega)]; omega
 rcases h.alg with rfl | rfl
 · have e : lkStrips 1 n room = [⟨n, 1, 1⟩, ⟨n, 1, room⟩] := if_pos rfl
   have e2 : lkCells 1 n = 2 * n := if_pos rfl
   rw [e, e2]
   constructor
   · show ((List.range 2).all fun i => fineS (([⟨n, 1, 1⟩, ⟨n, 1, room⟩] : List SD).getD i sd0)) = true
     rw [List.all_eq_true]
     intro i hi
     rw [List.mem_range] at hi
     match i, hi with
     | 0, _ => exact f1
     | 1, _ => exact f2
   · show minI (minI (0 + minI (n : Int) 32769) 32769 + minI (n : Int) 32769) 32769 = 2 * n
     rw [m0, m1, m2]
 · have e : lkStrips 2 n room = [⟨n, 1, 1⟩] := if_neg (by decide)
   have e2 : lkCells 2 n = n := if_neg (by decide)
   rw [e, e2]
   constructor
   · show ((List.range 1).all fun i => fineS (([⟨n, 1, 1⟩] : List SD).getD i sd0)) = true
     rw [List.all_eq_true]
     intro i hi
     rw [List.mem_range] at hi
     match i, hi with
     | 0, _ => exact f1
   · show minI (0 + minI (n : Int) 32769) 32769 = n
     rw [m0, m1]
theorem lkCells_le {alg : Int} {n : Nat} {room : Int} (h : LkOK alg n 0 room) : 0 ≤ lkCells alg n ∧ lkCells alg n ≤ 16 := by
 have := h.n
 rcases h.alg with rfl | rfl
 · show 0 ≤ (2 * (n : Int)) ∧ (2 * (n : Int)) ≤ 16; omega
 · show 0 ≤ (n : Int) ∧ (n : Int) ≤ 16; omega
theorem lkStrips_fit {alg : Int} {n : Nat} {room : Int} (h : LkOK alg n 0 room) : Fit (lkStrips alg n room) := by
 obtain ⟨h1, h2⟩ := lkStrips_cnt h
 refine ⟨h1, by rw [h2]; have := lkCells_le h; omega, ?_⟩
 unfold lkStrips
 split
 · show 2 ≤ 100000; omega
 · show 1 ≤ 100000; omega
theorem lkStrips_count {alg : Int} {n : Nat} {room : Int} (h : LkOK alg n 0 room) : (countP (lkStrips alg n room)).2 = 0 := by
 obtain ⟨h1, h2⟩ := lkStrips_cnt h
 unfold countP
 rw [if_pos h1, h2, if_neg (by have := lkCells_le h; omega)]
theorem lkM_bak {n : Nat} {room : Int} {draws : List Int} (h : LkOK 1 n 0 room) : BakCells (lkM 1 n room draws) n room 0 := by
 obtain ⟨hn1, hn2⟩ := h.n
 obtain ⟨hr1, hr2⟩ := h.room
 have e : lkStrips 1 n room = [⟨n, 1, 1⟩, ⟨n, 1, room⟩] := if_pos rfl
 have hp : ∀ c : Int, pickK [⟨n, 1, 1⟩, ⟨n, 1, room⟩] c 2 = (if c < n then some ⟨n, 1, 1⟩ else if c < 2 * n then some ⟨n, 1, room⟩ else none) := fun c => by
  show ((none : Option SD).or (if 0 < (n : Int) ∧ c < endK [⟨n, 1, 1⟩, ⟨n, 1, room⟩] 1 then some ⟨n, 1, 1⟩ else none)).or (if 0 < (n : Int) ∧ c < endK [⟨n, 1, 1⟩, ⟨n, 1, room⟩] 2 then some ⟨n, 1, room⟩ else none) = _
  have e1 : endK [⟨n, 1, 1⟩, ⟨n, 1, room⟩] 1 = n := by
   show (if 0 < (n : Int) then 0 + (n : Int) else 0) = n
   rw [if_pos (by omega)]; omega
  have e2 : endK [⟨n, 1, 1⟩, ⟨n, 1, room⟩] 2 = 2 * n := by
   show (if 0 < (n : Int) then endK [⟨n, 1, 1⟩, ⟨n, 1, room⟩] 1 + (n : Int) else _) = 2 * n
   rw [if_pos (by omega), e1]; omega
  rw [e1, e2]
  by_cases c1 : c < n
  · rw [if_pos ⟨by omega, c1⟩, if_pos c1]; rfl
  · rw [if_neg (fun q => c1 q.2), if_neg c1]
    by_cases c2 : c < 2 * n
    · rw [if_pos ⟨by omega, c2⟩, if_pos c2]; rfl
    · rw [if_neg (fun q => c2 q.2), if_neg c2]; rfl
 have hc : ∀ t : Int, 0 ≤ t → t ≤ 1048576 → clampI t 0 1099511627776 = t := fun t h1 h2 => by
  unfold clampI
  rw [if_neg (by omega), if_neg (by omega)]
 refine ⟨hr1, hr2, fun j hj => ?_, fun j hj => ?_⟩
 · show (mkP (lkStrips 1 n room) _).kind = 1 ∧ (mkP (lkStrips 1 n room) _).top = 1
   unfold mkP
   rw [e, show ([⟨n, 1, 1⟩, ⟨n, 1, room⟩] : List SD).length = 2 from rfl, hp, if_pos (by omega)]
   exact ⟨rfl, hc 1 (by decide) (by decide)⟩
 · show (mkP (lkStrips 1 n room) _).kind = 1 ∧ (mkP (lkStrips 1 n room) _).top = room
   unfold mkP
   rw [e, show ([⟨n, 1, 1⟩, ⟨n, 1, room⟩] : List SD).length = 2 from rfl, hp, if_neg (by omega), if_pos (by omega)]
   exact ⟨rfl, hc room (by omega) hr2⟩
end Go.Proofs.YtpodgcpkccpnfaaGreat

namespace Go.Proofs.YtpodgcpkccpnfaaGreat
open Go.RowKit
def RunPost (M : MD) (sc : ScD) (w : World) (e : Ending) (w' : World) : Prop := ∃ A0 c0 A2 n2 c2 A3 n3 c3 A4 n4 c4 q, e = .returned (.tuple #[.agg #[.slice A0 (runP M sc.picks sc.picks.length (startW sc.progs)).2.length c0, .int .i64 (runP M sc.picks sc.picks.length (startW sc.progs)).1.now, .slice A2 n2 c2, .slice A3 n3 c3, .slice A4 n4 c4], .int .i64 0]) ∧
 EvRow w' q (.slice A0 (runP M sc.picks sc.picks.length (startW sc.progs)).2.length c0) (runP M sc.picks sc.picks.length (startW sc.progs)).2 ∧ w.heap.size ≤ q ∧ Up w w' ∧ (runP M sc.picks sc.picks.length (startW sc.progs)).2.length ≤ 100000000
theorem wrun_any {sc : ScD} {a : ScA} {l : List SD} {M : MD} (ObP : World → Value → Prop) (w : World) (hs : ScrAt w sc a) (R : RunOK ObP M sc l)
 (hnew : ∀ W, Up w W → Calls Tryz.prog 24 #[.agg #[.slice a.TA sc.things.length a.tc, .slice a.PA sc.progs.length a.pc, .slice a.KA sc.picks.length a.kc, .slice a.DA sc.draws.length a.dc]] W (NewQ ObP W sc l)) :
 Calls Tryz.prog 9 #[.agg #[.slice a.TA sc.things.length a.tc, .slice a.PA sc.progs.length a.pc, .slice a.KA sc.picks.length a.kc, .slice a.DA sc.draws.length a.dc]] w (RunPost M sc w) := by
 have HB0 : Hid (BoxS w (w.alloc (.cells (scrA sc a) 27)) (scrA sc a)) := hQ' ⟨Up.refl _⟩
 have HBB := hQ' (fun (wr : World) (h : BoxS w wr (scrA sc a)) => show wr.cell? ⟨w.heap.size, 0, none⟩ = some (.slice a.TA sc.things.length a.tc) ∧ wr.cell? ⟨w.heap.size, 1, none⟩ = some (.slice a.PA sc.progs.length a.pc) ∧ wr.cell? ⟨w.heap.size, 2, none⟩ = some (.slice a.KA sc.picks.length a.kc) ∧ wr.cell? ⟨w.heap.size, 3, none⟩ = some (.slice a.DA sc.draws.length a.dc) from ⟨h.cell 0, h.cell 1, h.cell 2, h.cell 3⟩)
 have HS := hQ' hs
 have HR := hQ' R
 have HNEW := hQ' hnew
 clear hs R hnew
 obtain ⟨Ws, hWs⟩ : ∃ x, w.alloc (.cells (scrA sc a) 27) = x := ⟨_, rfl⟩
 have hss : Ws.heap.size = w.heap.size + 1 := by rw [← hWs]; exact World.size_alloc _ _
 rw [hWs] at HB0
 unfold scrA at hWs
 have hrz := heap_alloc_new Ws (.cells rep0 32)
 have hu0 := (Up.refl Ws).alloc (.cells rep0 32)
 unfold rep0 at hrz hu0
 obtain ⟨W0, hW0⟩ : ∃ x, Ws.alloc (.cells #[.slice none 0 0, .int .i64 0, .slice none 0 0, .slice none 0 0, .slice none 0 0] 32) = x := ⟨_, rfl⟩
 rw [hW0] at hrz hu0
 have hs0 : W0.heap.size = w.heap.size + 2 := by rw [← hW0, World.size_alloc, hss]
 have HB1 := hQ' (HB0.out.go hu0)
 have HRZ := hQ' hrz
 have HSS := hQ' (And.intro hss hs0)
 obtain ⟨c0, c1, c2, c3⟩ := HBB.out _ HB1.out
 clear hrz hu0 hs0 HB0 hss
 go_enter Tryz.func9, Tryz.ntmps9
 go_wp2_with fail
 refine (HNEW.out _ HB1.out.w).mono ?_
 intro e w1 hq
 obtain ⟨Z, stat, rfl, hz⟩ := new_run HR.out hq
 have HZ := hQ' hz
 have HW0B := hQ' hz.B
 clear hq hz HNEW c0 c1 c2 c3
 have HUA := hQ' (show Up W0 w1 from by have := HZ.out.up; rwa [HZ.out.ew] at this)
 have HZW := hQ' HZ.out.ew
 have HZN := hQ' HZ.out.en
 have hME := HZ.out.eM
 subst hME
 have HR0 := hQ' HZ.out.run
 have HL := hQ' HZ.out.L
 have HD := hQ' HZ.out.D
 clear HZ
 have hu2 := (Up.refl w1).alloc (.cells rep0 32)
 unfold rep0 at hu2 HR0
 obtain ⟨rb, hrb⟩ : ∃ n, w1.heap.size = n := ⟨_, rfl⟩
 obtain ⟨W2, hW2⟩ : ∃ x, w1.alloc (.cells #[.slice none 0 0, .int .i64 0, .slice none 0 0, .slice none 0 0, .slice none 0 0] 32) = x := ⟨_, rfl⟩
 rw [hW2] at hu2 HR0
 rw [hrb] at HR0
 have HB2 := hQ' (HB1.out.go (HUA.out.trans hu2))
 have HUZ := hQ' (show Up W0 Z.w1 ∧ W0.heap.size ≤ Z.B from ⟨by rw [HZW.out]; exact HUA.out, HW0B.out⟩)
 obtain ⟨c0, c1, c2, c3⟩ := HBB.out _ HB2.out
 clear hu2 HW0B
 have HPK0 := hQ' HR.out.ok.pk
 have HMAT := hQ' (mAt_le HR.out.ok.pk HR.out.ok.k HR.out.ok.st)
 obtain ⟨pn, hpn⟩ : ∃ n, sc.picks.length = n := ⟨_, rfl⟩
 rw [hpn] at c2
 have HPN := hQ' hpn
 clear hpn
 obtain ⟨i0, hi', hz0, hz1, hz2⟩ := info_parts infoEv
 have HIE := hQ' hi'
 have HZ0 := hQ' hz0
 have HZ1 := hQ' hz1
 have HZ2 := hQ' hz2
 clear hi' hz0 hz1 hz2
 go_wp2_with fail
 clear hW2 hrb hW0 hWs c0 c1 c2 c3
 go_loopw [22] (fun iv wr => ∃ i : Nat, i ≤ pn ∧ iv = .int .i64 i ∧ Hid (∃ lv, RunS Z sc.progs stat rb (fun _ => False) w1 (mAt sc.picks i) wr (runP Z.M sc.picks i (startW sc.progs)).1 (runP Z.M sc.picks i (startW sc.progs)).2 lv)) (fun iv _ => pn - (intOf iv).toNat)
 case atStart => exact ⟨0, by omega, rfl, hQ' ⟨_, HR0.out⟩⟩
 case round =>
  obtain ⟨i, hi, rfl, HH⟩ := hrel
  obtain ⟨lv, hT⟩ := HH.out
  have HT := hQ' hT
  clear HH hT
  have HUW := hQ' (HT.out.up HUZ.out.1 HUZ.out.2)
  by_cases hlt : i < pn
  · have hii : (i : Int) < pn := by omega
    have hi0 : (0 : Int) ≤ i := by omega
    have HLT := hQ' (show i < sc.picks.length from by rw [HPN.out]; exact hlt)
    obtain ⟨kb, ko, eK, p0, p1, p2⟩ := (HS.out.up (HB1.out.w.trans HUW.out)).pk i HLT.out
    have hfp := HPK0.out i HLT.out
    have HLO := hQ' (show mAt sc.picks i + (sc.picks.getD i pick0).times.toNat ≤ 4400 from by have := HMAT.out (i + 1) HLT.out; rw [mAt_succ HPK0.out HLT.out] at this; omega)
    obtain ⟨S0, hS0⟩ : ∃ x, (runP Z.M sc.picks i (startW sc.progs)).1 = x := ⟨_, rfl⟩
    obtain ⟨E0, hE0⟩ : ∃ x, (runP Z.M sc.picks i (startW sc.progs)).2 = x := ⟨_, rfl⟩
    rw [hS0, hE0] at HT
    have HS1 := hQ' hS0
    have HES := hQ' hE0
    rcases hpp : sc.picks.getD i pick0 with ⟨pt, pm, ph⟩
    have HPP := hQ' hpp
    rw [hpp] at p0 p1 p2 hfp HLO
    dsimp only at p0 p1 p2 HLO
    obtain ⟨⟨ht0, ht1⟩, hfh⟩ := hfp
    dsimp only at ht0 ht1 hfh
    obtain ⟨tn, rfl⟩ : ∃ n : Nat, pt = n := ⟨pt.toNat, by omega⟩
    have HTN := hQ' (show tn < Z.n from by rw [HZN.out]; have := HR.out.ok.n.1; omega)
    rw [eK]
    obtain ⟨Al, cl, rfl, _, _⟩ := own_form HT.out.row
    obtain ⟨evs, hevs⟩ : ∃ x, E0 = x := ⟨_, rfl⟩
    subst hevs
    have hb8 := heap_alloc_new wr (.cells #[.int .i64 tn, .int .i64 pm, .bool ph] 68)
    have hu8 := (Up.refl wr).alloc (.cells #[.int .i64 tn, .int .i64 pm, .bool ph] 68)
    obtain ⟨pb, hpb⟩ : ∃ n, wr.heap.size = n := ⟨_, rfl⟩
    obtain ⟨W8, hW8⟩ : ∃ x, wr.alloc (.cells #[.int .i64 tn, .int .i64 pm, .bool ph] 68) = x := ⟨_, rfl⟩
    rw [hW8] at hb8 hu8
    rw [hpb] at hb8
    have HB8 := hQ' hb8
    have HT8 := hQ' (HT.out.box hu8)
    have HXB := hQ' (show wr.heap.size ≤ pb ∧ pb < W8.heap.size from ⟨by omega, (Array.getElem?_eq_some_iff.1 hb8).1⟩)
    have q0 := blk_cells hb8 0
    have q1 := blk_cells hb8 1
    have q2 := blk_cells hb8 2
    simp only [gA_T, gA_0, gA_S] at q0 q1 q2
    clear hS0 hE0 hpp hb8 hu8 HT
    have HW8 := hQ' hW8
    have HPB := hQ' hpb
    clear hW8 q0 q1 q2
    go_upto_region 8 with fail
    rw [HW8.out]
    clear hpb
    have hb8 := HB8.out
    have q0 := blk_cells hb8 0
    have q1 := blk_cells hb8 1
    have q2 := blk_cells hb8 2
    simp only [gA_T, gA_0, gA_S] at q0 q1 q2
    clear hb8
    rcases hfh with ⟨rfl, rfl⟩ | ⟨rfl, hm1, hm2⟩
    · as_aux_lemma =>
      go_upto_region 9 with fail
      clear p0 p1 p2 q1 q2 hii hi0 hlt ht0 ht1
      clear q0
      have HMB := hQ' HLO.out
      have HRB := hQ' (fun (W : World) (u : Up W8 W) => show W.cell? ⟨rb, 0, none⟩ = some (.slice Al E0.length cl) from blk_cells (HT8.out.grow u).blk 0)
      have HTB := hQ' (fun (W : World) (u : Up W8 W) => show W.cell? ⟨pb, 0, none⟩ = some (.int .i64 tn) from blk_cells ((u.block pb HXB.out.2).trans HB8.out) 0)
      have HPK := hQ' ((HT8.out.grow (Up.refl W8).drew).halt HL.out HTN.out)
      obtain ⟨EV, hEV⟩ : ∃ x, haltE tn S0 = x := ⟨_, rfl⟩
      rw [hEV] at HPK
      have HEV := hQ' hEV
      clear hEV
      obtain ⟨evs, hevs⟩ : ∃ x, E0 = x := ⟨_, rfl⟩
      rw [hevs] at HRB HPK HES
      clear hevs HT8
      have hT0 : True := trivial
      refine wp_region_held_drew (S := fun W => True) (by kernel_rfl) hT0 (fun hS0 => ?_)
      refine tkE 0 ?_ rfl (by kernel_rfl) (fun _ _ _ h => h) hS0 ?_ ?_
      rotate_left
      · intro w hSw
        try dsimp only at hSw
        go_simp
        try (with_reducible rfl)
      try simp only [Act.put, sC_I, sC_0, sC_1]
      refine tkE 2 ?_ rfl (by kernel_rfl) (fun _ _ _ h => h) hS0 ?_ ?_
      rotate_left
      · intro w hSw
        try dsimp only at hSw
        go_simp
        try (with_reducible rfl)
      try simp only [Act.put, sC_I, sC_0, sC_1]
      refine tkE 3 ?_ rfl (by kernel_rfl) (fun _ _ _ h => h) hS0 ?_ ?_
      rotate_left
      · intro w hSw
        try dsimp only at hSw
        go_simp
        try (with_reducible rfl)
      try simp only [Act.put, sC_I, sC_0, sC_1]
      refine wpAnyH_ready (rs := [1, 4]) (by kernel_rfl) (by simp) ?_
      refine AllReadyH.cons rfl (fun K hK => ?_) (AllReadyH.cons rfl (fun K hK => ?_) AllReadyH.nil)
      · have kk := HRB.out _ (Up.refl _).drew
        go_simp
        clear kk
        refine hK.out _ _ trivial (fun hS2 => ?_)
        clear hK K
        try simp only [Act.put, sC_I, sC_0, sC_1]
        refine rdE 4 (by kernel_rfl) rfl fun K hK => ?_
        have kt := HTB.out _ (Up.refl _).drew
        go_simp
        clear kt
        refine hK.out _ _ trivial (fun hS3 => ?_)
        clear hK K
        try simp only [Act.put, sC_I, sC_0, sC_1]
        refine rdE 5 (by kernel_rfl) rfl fun K hK => ?_
        go_simp
        refine HPK.out.mono ?_
        rintro e w6 ⟨v, rfl, hM⟩
        have HM := hQ' hM
        clear hM
        refine hK.out _ _ trivial (fun hS4 => ?_)
        clear hK K
        try simp only [Act.put, sC_I, sC_0, sC_1]
        as_aux_lemma =>
         refine rdE 6 (by kernel_rfl) rfl fun K hK => ?_
         refine step_appendOwn rfl (.tmp 29) (.tmp 33) 30 rfl (rb + 1) 60 i0 (.agg #[.int .i64 0, .int .i64 0, .int .i64 0, .int .i64 0, .int .i64 0, .int .i64 0, .int .i64 0]) 7 56 Tryz.underlying30 HIE.out HZ0.out HZ1.out HZ2.out rfl (by decide) (.slice Al evs.length cl) evs.length (evs.flatMap evL) rfl HM.out.row _ v EV.length (EV.flatMap evL) rfl HM.out.new (evL_one _) (by decide) (by have := HM.out.len; have := HM.out.len2; have := HMB.out; omega) HM.out.lt ?_
         intro lv' w5 hown5 hg5 hb5 hat5
         obtain ⟨Al', cl', rfl, _, _⟩ := own_form hown5
         have hbb := (hg5.block rb HM.out.lt (fun e => by have := (World.ownsRow.lt HM.out.row rb e.symm).1; omega)).trans HM.out.blk
         have k0 : w5.cell? ⟨rb, 0, none⟩ = some (.slice Al evs.length cl) := blk_cells hbb 0
         have f0 : w5.frozen? ⟨rb, 0, none⟩ = false := blk_frozen hbb 0
         have HR5 := hQ' (HM.out.push HL.out hown5 hg5 hb5 hat5)
         clear hown5 hg5 hb5 hat5 hbb
         refine hK.out _ _ trivial (fun hS6 => ?_)
         clear hK K
         try simp only [Act.put, sC_I, sC_0, sC_1]
         refine tkE 7 ?_ rfl (by kernel_rfl) (fun _ _ _ h => h) hS6 ?_ ?_
         rotate_left
         · intro w hSw
           try dsimp only at hSw
           go_simp
           try (with_reducible rfl)
         try simp only [Act.put, sC_I, sC_0, sC_1]
         refine rdE 8 (by kernel_rfl) rfl fun K hK => ?_
         go_simp
         refine hK.out _ _ trivial (fun hS7 => ?_)
         clear hK K
         try simp only [Act.put, sC_I, sC_0, sC_1]
         refine wpAnyH_done (by kernel_rfl) ?_ _
         try simp only [Act.put, sC_I, sC_0, sC_1, List.getElem_toArray, List.getElem_cons_succ, List.getElem_cons_zero]
         clear k0 f0
         go_wp2_with fail
         go_roundw
         case rel => exact ⟨i + 1, by have := HLT.out; have := HPN.out; omega, by have := HLT.out; have := HR.out.ok.k; first | rfl | exact cnt_next i (by omega), hQ' ⟨_, RunS.haltF HS1.out HES.out HEV.out HPP.out HPK0.out HLT.out HR5.out⟩⟩
         case measure => have := HLT.out; have := HPN.out; have := HR.out.ok.k; first | exact cnt_down2 i pn (by omega) | exact cnt_down i pn (by omega) (by omega)
      · have kt := HTB.out _ (Up.refl _).drew
        go_simp
        clear kt
        refine hK.out _ _ trivial (fun hS3 => ?_)
        clear hK K
        try simp only [Act.put, sC_I, sC_0, sC_1]
        refine wpAnyH_ready (rs := [1, 5]) (by kernel_rfl) (by simp) ?_
        refine AllReadyH.cons rfl (fun K hK => ?_) (AllReadyH.cons rfl (fun K hK => ?_) AllReadyH.nil)
        · have kk := HRB.out _ (Up.refl _).drew
          go_simp
          clear kk
          refine hK.out _ _ trivial (fun hS2 => ?_)
          clear hK K
          try simp only [Act.put, sC_I, sC_0, sC_1]
          refine rdE 5 (by kernel_rfl) rfl fun K hK => ?_
          go_simp
          refine HPK.out.mono ?_
          rintro e w6 ⟨v, rfl, hM⟩
          have HM := hQ' hM
          clear hM
          refine hK.out _ _ trivial (fun hS4 => ?_)
          clear hK K
          try simp only [Act.put, sC_I, sC_0, sC_1]
          as_aux_lemma =>
           refine rdE 6 (by kernel_rfl) rfl fun K hK => ?_
           refine step_appendOwn rfl (.tmp 29) (.tmp 33) 30 rfl (rb + 1) 60 i0 (.agg #[.int .i64 0, .int .i64 0, .int .i64 0, .int .i64 0, .int .i64 0, .int .i64 0, .int .i64 0]) 7 56 Tryz.underlying30 HIE.out HZ0.out HZ1.out HZ2.out rfl (by decide) (.slice Al evs.length cl) evs.length (evs.flatMap evL) rfl HM.out.row _ v EV.length (EV.flatMap evL) rfl HM.out.new (evL_one _) (by decide) (by have := HM.out.len; have := HM.out.len2; have := HMB.out; omega) HM.out.lt ?_
           intro lv' w5 hown5 hg5 hb5 hat5
           obtain ⟨Al', cl', rfl, _, _⟩ := own_form hown5
           have hbb := (hg5.block rb HM.out.lt (fun e => by have := (World.ownsRow.lt HM.out.row rb e.symm).1; omega)).trans HM.out.blk
           have k0 : w5.cell? ⟨rb, 0, none⟩ = some (.slice Al evs.length cl) := blk_cells hbb 0
           have f0 : w5.frozen? ⟨rb, 0, none⟩ = false := blk_frozen hbb 0
           have HR5 := hQ' (HM.out.push HL.out hown5 hg5 hb5 hat5)
           clear hown5 hg5 hb5 hat5 hbb
           refine hK.out _ _ trivial (fun hS6 => ?_)
           clear hK K
           try simp only [Act.put, sC_I, sC_0, sC_1]
           refine tkE 7 ?_ rfl (by kernel_rfl) (fun _ _ _ h => h) hS6 ?_ ?_
           rotate_left
           · intro w hSw
             try dsimp only at hSw
             go_simp
             try (with_reducible rfl)
           try simp only [Act.put, sC_I, sC_0, sC_1]
           refine rdE 8 (by kernel_rfl) rfl fun K hK => ?_
           go_simp
           refine hK.out _ _ trivial (fun hS7 => ?_)
           clear hK K
           try simp only [Act.put, sC_I, sC_0, sC_1]
           refine wpAnyH_done (by kernel_rfl) ?_ _
           try simp only [Act.put, sC_I, sC_0, sC_1, List.getElem_toArray, List.getElem_cons_succ, List.getElem_cons_zero]
           clear k0 f0
           go_wp2_with fail
           go_roundw
           case rel => exact ⟨i + 1, by have := HLT.out; have := HPN.out; omega, by have := HLT.out; have := HR.out.ok.k; first | rfl | exact cnt_next i (by omega), hQ' ⟨_, RunS.haltF HS1.out HES.out HEV.out HPP.out HPK0.out HLT.out HR5.out⟩⟩
           case measure => have := HLT.out; have := HPN.out; have := HR.out.ok.k; first | exact cnt_down2 i pn (by omega) | exact cnt_down i pn (by omega) (by omega)
        · go_simp
          refine HPK.out.mono ?_
          rintro e w6 ⟨v, rfl, hM⟩
          have HM := hQ' hM
          clear hM
          refine hK.out _ _ trivial (fun hS4 => ?_)
          clear hK K
          try simp only [Act.put, sC_I, sC_0, sC_1]
          refine rdE 1 (by kernel_rfl) rfl fun K hK => ?_
          have kk := blk_cells HM.out.blk 0
          simp only [gA_T, gA_0, gA_S] at kk
          go_simp
          clear kk
          refine hK.out _ _ trivial (fun hS5 => ?_)
          clear hK K
          try simp only [Act.put, sC_I, sC_0, sC_1]
          as_aux_lemma =>
           refine rdE 6 (by kernel_rfl) rfl fun K hK => ?_
           refine step_appendOwn rfl (.tmp 29) (.tmp 33) 30 rfl (rb + 1) 60 i0 (.agg #[.int .i64 0, .int .i64 0, .int .i64 0, .int .i64 0, .int .i64 0, .int .i64 0, .int .i64 0]) 7 56 Tryz.underlying30 HIE.out HZ0.out HZ1.out HZ2.out rfl (by decide) (.slice Al evs.length cl) evs.length (evs.flatMap evL) rfl HM.out.row _ v EV.length (EV.flatMap evL) rfl HM.out.new (evL_one _) (by decide) (by have := HM.out.len; have := HM.out.len2; have := HMB.out; omega) HM.out.lt ?_
           intro lv' w5 hown5 hg5 hb5 hat5
           obtain ⟨Al', cl', rfl, _, _⟩ := own_form hown5
           have hbb := (hg5.block rb HM.out.lt (fun e => by have := (World.ownsRow.lt HM.out.row rb e.symm).1; omega)).trans HM.out.blk
           have k0 : w5.cell? ⟨rb, 0, none⟩ = some (.slice Al evs.length cl) := blk_cells hbb 0
           have f0 : w5.frozen? ⟨rb, 0, none⟩ = false := blk_frozen hbb 0
           have HR5 := hQ' (HM.out.push HL.out hown5 hg5 hb5 hat5)
           clear hown5 hg5 hb5 hat5 hbb
           refine hK.out _ _ trivial (fun hS6 => ?_)
           clear hK K
           try simp only [Act.put, sC_I, sC_0, sC_1]
           refine tkE 7 ?_ rfl (by kernel_rfl) (fun _ _ _ h => h) hS6 ?_ ?_
           rotate_left
           · intro w hSw
             try dsimp only at hSw
             go_simp
             try (with_reducible rfl)
           try simp only [Act.put, sC_I, sC_0, sC_1]
           refine rdE 8 (by kernel_rfl) rfl fun K hK => ?_
           go_simp
           refine hK.out _ _ trivial (fun hS7 => ?_)
           clear hK K
           try simp only [Act.put, sC_I, sC_0, sC_1]
           refine wpAnyH_done (by kernel_rfl) ?_ _
           try simp only [Act.put, sC_I, sC_0, sC_1, List.getElem_toArray, List.getElem_cons_succ, List.getElem_cons_zero]
           clear k0 f0
           go_wp2_with fail
           go_roundw
           case rel => exact ⟨i + 1, by have := HLT.out; have := HPN.out; omega, by have := HLT.out; have := HR.out.ok.k; first | rfl | exact cnt_next i (by omega), hQ' ⟨_, RunS.haltF HS1.out HES.out HEV.out HPP.out HPK0.out HLT.out HR5.out⟩⟩
           case measure => have := HLT.out; have := HPN.out; have := HR.out.ok.k; first | exact cnt_down2 i pn (by omega) | exact cnt_down i pn (by omega) (by omega)
    · as_aux_lemma =>
      obtain ⟨mn, rfl⟩ : ∃ n : Nat, pm = n := ⟨pm.toNat, by omega⟩
      have hmn : mn ≤ 255 := by omega
      have HLO2 := hQ' (show mAt sc.picks i + mn ≤ 4400 from by have h := HLO.out; rw [Int.toNat_natCast] at h; exact h)
      clear HLO
      go_upto_region 10 with fail
      go_wp2_with fail
      clear p0 p1 p2 q1 q2 hii hi0 hlt ht0 ht1
      clear q0
      have HMN := hQ' hmn
      rw [HPB.out] at HT8 HXB
      go_loopw [38] (fun jv wr => ∃ j : Nat, j ≤ mn ∧ jv = .int .i64 j ∧ Hid (∃ lv, RunS Z sc.progs stat rb (fun k => pb ≤ k ∧ k < W8.heap.size) W8 (mAt sc.picks i + j) wr (timesS Z.M tn j S0).1 (E0 ++ (timesS Z.M tn j S0).2) lv)) (fun jv _ => mn - (intOf jv).toNat)
      case atStart => as_aux_lemma => exact ⟨0, by omega, rfl, hQ' ⟨_, by have h := HT8.out; rw [← List.append_nil E0] at h; exact h⟩⟩
      case round => as_aux_lemma =>
       obtain ⟨j, hj, rfl, HJH⟩ := hrel
       obtain ⟨lvj, hTJ⟩ := HJH.out
       have HTJ := hQ' hTJ
       clear HJH hTJ
       by_cases hjlt : j < mn
       · have hji : (j : Int) < mn := by omega
         have hj0 : (0 : Int) ≤ j := by omega
         have HJ := hQ' hjlt
         have HMB := hQ' (show mAt sc.picks i + j ≤ 4400 from by have := HLO2.out; have := HJ.out; omega)
         obtain ⟨SJ, hSJ⟩ : ∃ x, (timesS Z.M tn j S0).1 = x := ⟨_, rfl⟩
         obtain ⟨EJ, hEJ⟩ : ∃ x, E0 ++ (timesS Z.M tn j S0).2 = x := ⟨_, rfl⟩
         rw [hSJ, hEJ] at HTJ
         have HSJ := hQ' hSJ
         obtain ⟨Al, cl, rfl, _, _⟩ := own_form HTJ.out.row
         have HRB := hQ' (fun (W : World) (u : Up wr W) => show W.cell? ⟨rb, 0, none⟩ = some (.slice Al EJ.length cl) from blk_cells (HTJ.out.grow u).blk 0)
         have HTB := hQ' (fun (W : World) (u : Up wr W) => show W.cell? ⟨pb, 0, none⟩ = some (.int .i64 tn) from blk_cells ((u.block pb (HTJ.out.xlt pb HXB.out).2.1).trans ((HTJ.out.kp pb HXB.out).trans HB8.out)) 0)
         have HPK := hQ' ((HTJ.out.grow (Up.refl wr).drew).pick HL.out HD.out HR.out.few HR.out.frOK (by have := HMB.out; omega) HTN.out)
         obtain ⟨EV, hEV⟩ : ∃ x, pickE Z.M tn SJ = x := ⟨_, rfl⟩
         rw [hEV] at HPK
         have HEV := hQ' hEV
         obtain ⟨evs, hevs⟩ : ∃ x, EJ = x := ⟨_, rfl⟩
         rw [hevs] at HRB HPK hEJ
         have HEJ := hQ' hEJ
         clear hSJ hEJ hEV hevs hj hjlt HTJ
         go_upto_region 12 with fail
         have hT0 : True := trivial
         refine wp_region_held_drew (S := fun W => True) (by kernel_rfl) hT0 (fun hS0 => ?_)
         refine tkE 0 ?_ rfl (by kernel_rfl) (fun _ _ _ h => h) hS0 ?_ ?_
         rotate_left
         · intro w hSw
           try dsimp only at hSw
           go_simp
           try (with_reducible rfl)
         try simp only [Act.put, sC_I, sC_0, sC_1]
         refine tkE 2 ?_ rfl (by kernel_rfl) (fun _ _ _ h => h) hS0 ?_ ?_
         rotate_left
         · intro w hSw
           try dsimp only at hSw
           go_simp
           try (with_reducible rfl)
         try simp only [Act.put, sC_I, sC_0, sC_1]
         refine tkE 3 ?_ rfl (by kernel_rfl) (fun _ _ _ h => h) hS0 ?_ ?_
         rotate_left
         · intro w hSw
           try dsimp only at hSw
           go_simp
           try (with_reducible rfl)
         try simp only [Act.put, sC_I, sC_0, sC_1]
         refine wpAnyH_ready (rs := [1, 4]) (by kernel_rfl) (by simp) ?_
         refine AllReadyH.cons rfl (fun K hK => ?_) (AllReadyH.cons rfl (fun K hK => ?_) AllReadyH.nil)
         · have kk := HRB.out _ (Up.refl _).drew
           go_simp
           clear kk
           refine hK.out _ _ trivial (fun hS2 => ?_)
           clear hK K
           try simp only [Act.put, sC_I, sC_0, sC_1]
           refine rdE 4 (by kernel_rfl) rfl fun K hK => ?_
           have kt := HTB.out _ (Up.refl _).drew
           go_simp
           clear kt
           refine hK.out _ _ trivial (fun hS3 => ?_)
           clear hK K
           try simp only [Act.put, sC_I, sC_0, sC_1]
           refine rdE 5 (by kernel_rfl) rfl fun K hK => ?_
           go_simp
           refine HPK.out.mono ?_
           rintro e w6 ⟨v, rfl, hM⟩
           have HM := hQ' hM
           clear hM
           refine hK.out _ _ trivial (fun hS4 => ?_)
           clear hK K
           try simp only [Act.put, sC_I, sC_0, sC_1]
           as_aux_lemma =>
            refine rdE 6 (by kernel_rfl) rfl fun K hK => ?_
            refine step_appendOwn rfl (.tmp 41) (.tmp 45) 30 rfl (rb + 1) 60 i0 (.agg #[.int .i64 0, .int .i64 0, .int .i64 0, .int .i64 0, .int .i64 0, .int .i64 0, .int .i64 0]) 7 56 Tryz.underlying30 HIE.out HZ0.out HZ1.out HZ2.out rfl (by decide) (.slice Al evs.length cl) evs.length (evs.flatMap evL) rfl HM.out.row _ v EV.length (EV.flatMap evL) rfl HM.out.new (evL_one _) (by decide) (by have := HM.out.len; have := HM.out.len2; have := HMB.out; omega) HM.out.lt ?_
            intro lv' w5 hown5 hg5 hb5 hat5
            obtain ⟨Al', cl', rfl, _, _⟩ := own_form hown5
            have hbb := (hg5.block rb HM.out.lt (fun e => by have := (World.ownsRow.lt HM.out.row rb e.symm).1; omega)).trans HM.out.blk
            have k0 : w5.cell? ⟨rb, 0, none⟩ = some (.slice Al evs.length cl) := blk_cells hbb 0
            have f0 : w5.frozen? ⟨rb, 0, none⟩ = false := blk_frozen hbb 0
            have HR5 := hQ' (HM.out.push HL.out hown5 hg5 hb5 hat5)
            clear hown5 hg5 hb5 hat5 hbb
            refine hK.out _ _ trivial (fun hS6 => ?_)
            clear hK K
            try simp only [Act.put, sC_I, sC_0, sC_1]
            refine tkE 7 ?_ rfl (by kernel_rfl) (fun _ _ _ h => h) hS6 ?_ ?_
            rotate_left
            · intro w hSw
              try dsimp only at hSw
              go_simp
              try (with_reducible rfl)
            try simp only [Act.put, sC_I, sC_0, sC_1]
            refine rdE 8 (by kernel_rfl) rfl fun K hK => ?_
            go_simp
            refine hK.out _ _ trivial (fun hS7 => ?_)
            clear hK K
            try simp only [Act.put, sC_I, sC_0, sC_1]
            refine wpAnyH_done (by kernel_rfl) ?_ _
            try simp only [Act.put, sC_I, sC_0, sC_1, List.getElem_toArray, List.getElem_cons_succ, List.getElem_cons_zero]
            clear k0 f0
            go_wp2_with fail
            go_roundw
            case rel => exact ⟨j + 1, HJ.out, by have := HJ.out; have := HMN.out; first | rfl | exact cnt_next j (by omega), hQ' ⟨_, RunS.timesE HSJ.out HEJ.out HEV.out HR5.out⟩⟩
            case measure => first | exact cnt_down2 j mn HJ.out | exact cnt_down j mn HJ.out (by have := HMN.out; omega)
         · have kt := HTB.out _ (Up.refl _).drew
           go_simp
           clear kt
           refine hK.out _ _ trivial (fun hS3 => ?_)
           clear hK K
           try simp only [Act.put, sC_I, sC_0, sC_1]
           refine wpAnyH_ready (rs := [1, 5]) (by kernel_rfl) (by simp) ?_
           refine AllReadyH.cons rfl (fun K hK => ?_) (AllReadyH.cons rfl (fun K hK => ?_) AllReadyH.nil)
           · have kk := HRB.out _ (Up.refl _).drew
             go_simp
             clear kk
             refine hK.out _ _ trivial (fun hS2 => ?_)
             clear hK K
             try simp only [Act.put, sC_I, sC_0, sC_1]
             refine rdE 5 (by kernel_rfl) rfl fun K hK => ?_
             go_simp
             refine HPK.out.mono ?_
             rintro e w6 ⟨v, rfl, hM⟩
             have HM := hQ' hM
             clear hM
             refine hK.out _ _ trivial (fun hS4 => ?_)
             clear hK K
             try simp only [Act.put, sC_I, sC_0, sC_1]
             as_aux_lemma =>
              refine rdE 6 (by kernel_rfl) rfl fun K hK => ?_
              refine step_appendOwn rfl (.tmp 41) (.tmp 45) 30 rfl (rb + 1) 60 i0 (.agg #[.int .i64 0, .int .i64 0, .int .i64 0, .int .i64 0, .int .i64 0, .int .i64 0, .int .i64 0]) 7 56 Tryz.underlying30 HIE.out HZ0.out HZ1.out HZ2.out rfl (by decide) (.slice Al evs.length cl) evs.length (evs.flatMap evL) rfl HM.out.row _ v EV.length (EV.flatMap evL) rfl HM.out.new (evL_one _) (by decide) (by have := HM.out.len; have := HM.out.len2; have := HMB.out; omega) HM.out.lt ?_
              intro lv' w5 hown5 hg5 hb5 hat5
              obtain ⟨Al', cl', rfl, _, _⟩ := own_form hown5
              have hbb := (hg5.block rb HM.out.lt (fun e => by have := (World.ownsRow.lt HM.out.row rb e.symm).1; omega)).trans HM.out.blk
              have k0 : w5.cell? ⟨rb, 0, none⟩ = some (.slice Al evs.length cl) := blk_cells hbb 0
              have f0 : w5.frozen? ⟨rb, 0, none⟩ = false := blk_frozen hbb 0
              have HR5 := hQ' (HM.out.push HL.out hown5 hg5 hb5 hat5)
              clear hown5 hg5 hb5 hat5 hbb
              refine hK.out _ _ trivial (fun hS6 => ?_)
              clear hK K
              try simp only [Act.put, sC_I, sC_0, sC_1]
              refine tkE 7 ?_ rfl (by kernel_rfl) (fun _ _ _ h => h) hS6 ?_ ?_
              rotate_left
              · intro w hSw
                try dsimp only at hSw
                go_simp
                try (with_reducible rfl)
              try simp only [Act.put, sC_I, sC_0, sC_1]
              refine rdE 8 (by kernel_rfl) rfl fun K hK => ?_
              go_simp
              refine hK.out _ _ trivial (fun hS7 => ?_)
              clear hK K
              try simp only [Act.put, sC_I, sC_0, sC_1]
              refine wpAnyH_done (by kernel_rfl) ?_ _
              try simp only [Act.put, sC_I, sC_0, sC_1, List.getElem_toArray, List.getElem_cons_succ, List.getElem_cons_zero]
              clear k0 f0
              go_wp2_with fail
              go_roundw
              case rel => exact ⟨j + 1, HJ.out, by have := HJ.out; have := HMN.out; first | rfl | exact cnt_next j (by omega), hQ' ⟨_, RunS.timesE HSJ.out HEJ.out HEV.out HR5.out⟩⟩
              case measure => first | exact cnt_down2 j mn HJ.out | exact cnt_down j mn HJ.out (by have := HMN.out; omega)
           · go_simp
             refine HPK.out.mono ?_
             rintro e w6 ⟨v, rfl, hM⟩
             have HM := hQ' hM
             clear hM
             refine hK.out _ _ trivial (fun hS4 => ?_)
             clear hK K
             try simp only [Act.put, sC_I, sC_0, sC_1]
             refine rdE 1 (by kernel_rfl) rfl fun K hK => ?_
             have kk := blk_cells HM.out.blk 0
             simp only [gA_T, gA_0, gA_S] at kk
             go_simp
             clear kk
             refine hK.out _ _ trivial (fun hS5 => ?_)
             clear hK K
             try simp only [Act.put, sC_I, sC_0, sC_1]
             as_aux_lemma =>
              refine rdE 6 (by kernel_rfl) rfl fun K hK => ?_
              refine step_appendOwn rfl (.tmp 41) (.tmp 45) 30 rfl (rb + 1) 60 i0 (.agg #[.int .i64 0, .int .i64 0, .int .i64 0, .int .i64 0, .int .i64 0, .int .i64 0, .int .i64 0]) 7 56 Tryz.underlying30 HIE.out HZ0.out HZ1.out HZ2.out rfl (by decide) (.slice Al evs.length cl) evs.length (evs.flatMap evL) rfl HM.out.row _ v EV.length (EV.flatMap evL) rfl HM.out.new (evL_one _) (by decide) (by have := HM.out.len; have := HM.out.len2; have := HMB.out; omega) HM.out.lt ?_
              intro lv' w5 hown5 hg5 hb5 hat5
              obtain ⟨Al', cl', rfl, _, _⟩ := own_form hown5
              have hbb := (hg5.block rb HM.out.lt (fun e => by have := (World.ownsRow.lt HM.out.row rb e.symm).1; omega)).trans HM.out.blk
              have k0 : w5.cell? ⟨rb, 0, none⟩ = some (.slice Al evs.length cl) := blk_cells hbb 0
              have f0 : w5.frozen? ⟨rb, 0, none⟩ = false := blk_frozen hbb 0
              have HR5 := hQ' (HM.out.push HL.out hown5 hg5 hb5 hat5)
              clear hown5 hg5 hb5 hat5 hbb
              refine hK.out _ _ trivial (fun hS6 => ?_)
              clear hK K
              try simp only [Act.put, sC_I, sC_0, sC_1]
              refine tkE 7 ?_ rfl (by kernel_rfl) (fun _ _ _ h => h) hS6 ?_ ?_
              rotate_left
              · intro w hSw
                try dsimp only at hSw
                go_simp
                try (with_reducible rfl)
              try simp only [Act.put, sC_I, sC_0, sC_1]
              refine rdE 8 (by kernel_rfl) rfl fun K hK => ?_
              go_simp
              refine hK.out _ _ trivial (fun hS7 => ?_)
              clear hK K
              try simp only [Act.put, sC_I, sC_0, sC_1]
              refine wpAnyH_done (by kernel_rfl) ?_ _
              try simp only [Act.put, sC_I, sC_0, sC_1, List.getElem_toArray, List.getElem_cons_succ, List.getElem_cons_zero]
              clear k0 f0
              go_wp2_with fail
              go_roundw
              case rel => exact ⟨j + 1, HJ.out, by have := HJ.out; have := HMN.out; first | rfl | exact cnt_next j (by omega), hQ' ⟨_, RunS.timesE HSJ.out HEJ.out HEV.out HR5.out⟩⟩
              case measure => first | exact cnt_down2 j mn HJ.out | exact cnt_down j mn HJ.out (by have := HMN.out; omega)
       · have hje : j = mn := by omega
         subst hje
         have hnl : ¬ ((j : Int) < j) := by omega
         have HTE := hQ' HTJ.out
         clear HTJ
         go_wp2_with fail
         go_roundw
         case rel => as_aux_lemma => exact ⟨i + 1, by have := HLT.out; have := HPN.out; omega, by have := HLT.out; have := HR.out.ok.k; first | rfl | exact cnt_next i (by omega), hQ' ⟨_, RunS.picksF HS1.out HES.out HPP.out HPK0.out HLT.out HTE.out⟩⟩
         case measure => as_aux_lemma => have := HLT.out; have := HPN.out; have := HR.out.ok.k; first | exact cnt_down2 i pn (by omega) | exact cnt_down i pn (by omega) (by omega)
  · as_aux_lemma =>
    have hie : i = sc.picks.length := by have := HPN.out; omega
    have hnl : ¬ ((i : Int) < pn) := by have := HPN.out; omega
    subst hie
    have HPG := hQ' (HT.out.fit.prog)
    have HEL := hQ' (show (runP Z.M sc.picks sc.picks.length (startW sc.progs)).2.length ≤ 100000000 from by have h1 := HT.out.len; have h2 := HMAT.out sc.picks.length (Nat.le_refl _); omega)
    have HF := hQ' HT.out.fin
    obtain ⟨Al, cl, rfl, _, _⟩ := own_form HT.out.row
    clear HT hi HMAT HPK0 HR0 HD HIE HZ0 HZ1 HZ2
    obtain ⟨S1, hS1⟩ : ∃ x, (runP Z.M sc.picks sc.picks.length (startW sc.progs)).1 = x := ⟨_, rfl⟩
    obtain ⟨evs, hevs⟩ : ∃ x, (runP Z.M sc.picks sc.picks.length (startW sc.progs)).2 = x := ⟨_, rfl⟩
    rw [hS1, hevs] at HF
    rw [hevs] at HEL
    rw [hS1] at HPG
    have HS1 := hQ' hS1
    have HEV := hQ' hevs
    clear hS1 hevs
    have k1 := blk_cells HF.out.blk 1
    have f1 := blk_frozen HF.out.blk 1
    simp only [gA_T, gA_0, gA_S] at k1
    obtain ⟨-, c1, -, -⟩ := HBB.out _ (HB1.out.go HUW.out)
    rw [← HZN.out] at c1
    obtain ⟨pc, hpc⟩ : ∃ n, sc.picks.length = n := ⟨_, rfl⟩
    rw [hpc] at hnl ⊢
    clear hpc
    go_upto_region 16 with fail
    clear c1 hnl
    go_wp2_with fail
    refine HF.out.now.mono ?_
    rintro e wx ⟨rfl, rfl⟩
    have HF1 := hQ' (HF.out.set 1 (.int .i64 S1.now))
    clear HF
    go_upto_region 17 with fail
    clear k1 f1
    obtain ⟨Wa, hWa⟩ : ∃ x, wx.setCell ⟨rb, 1, none⟩ (.int .i64 S1.now) = x := ⟨_, rfl⟩
    rw [hWa] at HF1 ⊢
    clear hWa
    have k2 := blk_cells HF1.out.blk 2
    simp only [sC_I, sC_1, sC_0, gA_T, gA_0, gA_S] at k2
    have HG1 := hQ' (HF1.out.gNext HL.out.z)
    go_wp2_with fail
    refine HG1.out.mono ?_
    rintro e w3 ⟨⟨A2, n2, c2, rfl⟩, hu3⟩
    have HF2 := hQ' (HF1.out.grow hu3)
    clear hu3 HF1 HG1 k2
    have k2 := blk_cells HF2.out.blk 2
    have f2 := blk_frozen HF2.out.blk 2
    simp only [sC_I, sC_1, sC_0, gA_T, gA_0, gA_S] at k2
    have HF3 := hQ' (HF2.out.set 2 (.slice A2 n2 c2))
    clear HF2
    go_upto_region 18 with fail
    clear k2 f2
    obtain ⟨Wb, hWb⟩ : ∃ x, w3.setCell ⟨rb, 2, none⟩ (.slice A2 n2 c2) = x := ⟨_, rfl⟩
    rw [hWb] at HF3 ⊢
    clear hWb
    have HG2 := hQ' (HF3.out.gPhase HL.out HPG.out)
    go_wp2_with fail
    refine HG2.out.mono ?_
    rintro e w4 ⟨⟨A3, n3, c3, rfl⟩, hu4⟩
    have HF4 := hQ' (HF3.out.grow hu4)
    clear hu4 HF3 HG2
    have k3 := blk_cells HF4.out.blk 3
    have f3 := blk_frozen HF4.out.blk 3
    simp only [sC_I, sC_1, sC_0, gA_T, gA_0, gA_S] at k3
    have HF5 := hQ' (HF4.out.set 3 (.slice A3 n3 c3))
    clear HF4
    go_upto_region 19 with fail
    clear k3 f3
    obtain ⟨Wc, hWc⟩ : ∃ x, w4.setCell ⟨rb, 3, none⟩ (.slice A3 n3 c3) = x := ⟨_, rfl⟩
    rw [hWc] at HF5 ⊢
    clear hWc
    have HG3 := hQ' (HF5.out.gAccs HL.out.z)
    go_wp2_with fail
    refine HG3.out.mono ?_
    rintro e w5 ⟨⟨A4, n4, c4, rfl⟩, hu5⟩
    have HF6 := hQ' (HF5.out.grow hu5)
    clear hu5 HF5 HG3
    have k4 := blk_cells HF6.out.blk 4
    have f4 := blk_frozen HF6.out.blk 4
    simp only [sC_I, sC_1, sC_0, gA_T, gA_0, gA_S] at k4
    have HF7 := hQ' (HF6.out.set 4 (.slice A4 n4 c4))
    clear HF6
    go_upto_region 20 with fail
    clear k4 f4
    obtain ⟨Wd', hWd⟩ : ∃ x, w5.setCell ⟨rb, 4, none⟩ (.slice A4 n4 c4) = x := ⟨_, rfl⟩
    rw [hWd] at HF7 ⊢
    clear hWd
    have hfb := HF7.out.blk
    simp only [sC_I, sC_1, sC_0] at hfb
    have HU7 := hQ' (HF7.out.up HUZ.out.1 HUZ.out.2)
    have hrc := (HU7.out.block _ (Array.getElem?_eq_some_iff.1 HRZ.out).1).trans HRZ.out
    have HRC := hQ' hrc
    obtain ⟨rc, hrc2⟩ : ∃ n, Ws.heap.size = n := ⟨_, rfl⟩
    rw [hrc2] at hrc HRC HSS ⊢
    clear hrc2
    have y0 := blk_cells hfb 0
    have y1 := blk_cells hfb 1
    have y2 := blk_cells hfb 2
    have y3 := blk_cells hfb 3
    have y4 := blk_cells hfb 4
    have z0 := blk_cells hrc 0
    have z1 := blk_cells hrc 1
    have z2 := blk_cells hrc 2
    have z3 := blk_cells hrc 3
    have z4 := blk_cells hrc 4
    have g0 := blk_frozen hrc 0
    have g1 := blk_frozen hrc 1
    have g2 := blk_frozen hrc 2
    have g3 := blk_frozen hrc 3
    have g4 := blk_frozen hrc 4
    simp only [gA_T, gA_0, gA_S] at y0 y1 y2 y3 y4 z0 z1 z2 z3 z4
    clear hfb hrc
    have HFB := hQ' (cells_setCell (cells_setCell (cells_setCell (cells_setCell (cells_setCell HRC.out 0 (.slice Al evs.length cl)) 1 (.int .i64 S1.now)) 2 (.slice A2 n2 c2)) 3 (.slice A3 n3 c3)) 4 (.slice A4 n4 c4))
    have HGE := hQ' (show w.heap.size ≤ rc ∧ rc < W0.heap.size from by have := HSS.out; omega)
    have HUF := hQ' (show Up w Wd' from HB1.out.w.trans HU7.out)
    have HRB := hQ' (show W0.heap.size ≤ rb from by have h1 := HUZ.out.1.size; have h2 := HF7.out.rbg; omega)
    go_wp2_with fail
    refine bodyPost_ret (v := .tuple #[.agg #[.slice Al evs.length cl, .int .i64 S1.now, .slice A2 n2 c2, .slice A3 n3 c3, .slice A4 n4 c4], .int .i64 0]) ?_ rfl ?_
    · exact results_cell2 (p := 2) (u := 3) rfl _ _ rc 32 _ _ _ rfl HFB.out Tryz.underlying32 rfl (by kernel_rfl)
    unfold RunPost
    rw [HS1.out, HEV.out]
    refine ⟨Al, cl, A2, n2, c2, A3, n3, c3, A4, n4, c4, rb + 1, rfl, ?_, ?_, ?_, HEL.out⟩
    · refine own_same HF7.out.row fun k hk => ?_
      have hk1 := (World.ownsRow.lt HF7.out.row k hk).1
      have hk2 : k ≠ rc := by have := HGE.out; have := HRB.out; omega
      repeat (refine (Below.heap_setCell _ ⟨rc, _, none⟩ _ k hk2).trans ?_)
      rfl
    · have := HGE.out; have := HRB.out; omega
    · repeat (refine Below.setCell (p := ⟨rc, _, none⟩) ?_ HGE.out.1 _)
      exact HUF.out
end Go.Proofs.YtpodgcpkccpnfaaGreat

