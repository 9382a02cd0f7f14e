/-
  Parts of a proof, packed: WldK, ScrB, OpnR, BakL
-/
import Derived.Deep.Slices
import Derived.Deep.Fields
import Derived.ChangeSame
import Derived.Test.YtpodgcpkccpnfaaGreatPk01
import Derived.Test.YtpodgcpkccpnfaaGreatPk04
import Derived.Test.YtpodgcpkccpnfaaGreatPk05
import Derived.Test.YtpodgcpkccpnfaaGreatPk09
import Derived.Test.YtpodgcpkccpnfaaGreatPk17
set_option linter.unusedVariables false
set_option linter.unusedSimpArgs false
set_option maxRecDepth 20000
set_option maxHeartbeats 16000000
namespace Go.Proofs.YtpodgcpkccpnfaaGreat
open Go.RowKit
def ProgAt (w : World) (A : Option Addr) (l : List CD) : Prop := ∀ i, i < l.length → ∃ b off, A = some ⟨b, off, none⟩ ∧ w.cell? ⟨b, off + i * 3, none⟩ = some (.int .i64 (l.getD i (0, 0, 0)).1) ∧ w.cell? ⟨b, off + i * 3 + 1, none⟩ = some (.int .i64 (l.getD i (0, 0, 0)).2.1) ∧ w.cell? ⟨b, off + i * 3 + 2, none⟩ = some (.int .i64 (l.getD i (0, 0, 0)).2.2)
structure Lies (Z : WK) (progs : List (List CD)) (stat : Nat → Prop) : Prop where
 z : ZOK Z
 n : Z.n = progs.length
 st : ∀ k, stat k → k < Z.w1.heap.size
 ov : ∃ ob on oc, Z.ov = .slice ob on oc
 pr : ∀ t, t < Z.n → ∃ A pc, Z.pv t = .slice A (progs.getD t []).length pc ∧ (progs.getD t []).length ≤ pc ∧ (progs.getD t []).length ≤ 1000000 ∧ pc ≤ 9223372036854775807 ∧ ProgAt Z.w1 A (progs.getD t []) ∧ ∀ b off, A = some ⟨b, off, none⟩ → 0 < (progs.getD t []).length → stat b
 dr : DrawsAt Z Z.w1
 ds : ∀ A l c b off, Z.dv = .slice A l c → A = some ⟨b, off, none⟩ → 0 < Z.M.draws.length → stat b
def DoOK (Z : WK) (progs : List (List CD)) (stat : Nat → Prop) : Prop := ∀ t, t < Z.n → ∀ x0 x1 x2, (x0, x1, x2) ∈ progs.getD t [] → ∀ ans loc, ans.length ≤ 5000 → TameA ans → loc.length ≤ 32768 →
 ∀ (W2 : World) (g' B : Nat), Below Z.B Z.w1 W2 → (∀ k, stat k → W2.heap[k]? = Z.w1.heap[k]?) → Z.w1.heap.size ≤ g' → Tape1 W2 g' B ⟨ans, loc, [], []⟩ → ∀ ob on oc, Z.ov = .slice ob on oc →
 Calls Tryz.prog 84 #[.pointer (some ⟨g', 0, none⟩), .slice ob on oc, .agg #[.int .i64 x0, .int .i64 x1, .int .i64 x2], .int .i64 t] W2 (TPost encR g' B W2 ((Z.M.P t (x0, x1, x2)).onT ⟨ans, loc, [], []⟩))
def FewOK (M : MD) (progs : List (List CD)) : Prop := ∀ t c, c ∈ progs.getD t [] → (M.P t c).few 1000
structure Fits (M : MD) (progs : List (List CD)) (k : Nat) (S : WD) : Prop where
 n : S.n = progs.length
 now : S.now ≤ k
 prog : ∀ t, t < S.n → (S.ths t).prog = progs.getD t []
 len : ∀ t, t < S.n → (S.ths t).ans.length ≤ k ∧ (S.ths t).accs ≤ k ∧ (S.ths t).loc.length ≤ 32768 ∧ (S.ths t).nts ≤ 1000
 st : ∀ t, t < S.n → (S.ths t).st = 0 ∨ (((S.ths t).st = 1 ∨ (S.ths t).st = 2) ∧ (S.ths t).next < (S.ths t).prog.length)
 dr : M.draws.length = 0 ∨ S.drawn < M.draws.length
 tame : ∀ t, t < S.n → TameA (S.ths t).ans
def SmallX (x : Int) : Prop := 0 ≤ x ∧ x ≤ 1099511627776
theorem TameA.snoc {l : List Int} {x : Int} (h : TameA l) (hx : SmallX x) : TameA (l ++ [x]) := fun y hy => by
 rcases List.mem_append.1 hy with hy | hy
 · exact h y hy
 · rw [List.mem_singleton] at hy; subst hy; exact hx
theorem TameA.nil : TameA [] := fun y hy => by cases hy
section
variable {M : MD} {progs : List (List CD)} {k : Nat} {S : WD}
theorem Fits.start (M : MD) (progs : List (List CD)) : Fits M progs 0 (startW progs) :=
 ⟨rfl, Nat.le_refl _, fun t _ => rfl, fun t _ => ⟨Nat.le_refl _, Nat.le_refl _, Nat.zero_le _, Nat.zero_le _⟩, fun t _ => .inl rfl, by show M.draws.length = 0 ∨ 0 < _; omega, fun t _ => TameA.nil⟩
theorem Fits.tick (F : Fits M progs k S) : Fits M progs (k + 1) S.tick :=
 ⟨F.n, by have := F.now; show S.now + 1 ≤ k + 1; omega, F.prog, fun t ht => by obtain ⟨h1, h2, h3, h4⟩ := F.len t ht; exact ⟨Nat.le_succ_of_le h1, Nat.le_succ_of_le h2, h3, h4⟩, F.st, F.dr, F.tame⟩
theorem Fits.more {k' : Nat} (F : Fits M progs k S) (h : k ≤ k') : Fits M progs k' S :=
 ⟨F.n, Nat.le_trans F.now h, F.prog, fun t ht => by obtain ⟨h1, h2, h3, h4⟩ := F.len t ht; exact ⟨Nat.le_trans h1 h, Nat.le_trans h2 h, h3, h4⟩, F.st, F.dr, F.tame⟩
theorem Fits.put (F : Fits M progs k S) {t : Nat} {th : ThD} (h1 : th.prog = (S.ths t).prog) (h2 : th.ans.length ≤ k ∧ th.accs ≤ k ∧ th.loc.length ≤ 32768 ∧ th.nts ≤ 1000) (h3 : th.st = 0 ∨ ((th.st = 1 ∨ th.st = 2) ∧ th.next < th.prog.length)) (h4 : TameA th.ans) : Fits M progs k (S.put t th) := by
 refine ⟨F.n, F.now, fun i hi => ?_, fun i hi => ?_, fun i hi => ?_, F.dr, fun i hi => ?_⟩
 · by_cases e : i = t
   · subst e; rw [put_same, h1]; exact F.prog _ hi
   · rw [put_other _ _ e]; exact F.prog _ hi
 · by_cases e : i = t
   · subst e; rw [put_same]; exact h2
   · rw [put_other _ _ e]; exact F.len _ hi
 · by_cases e : i = t
   · subst e; rw [put_same]; exact h3
   · rw [put_other _ _ e]; exact F.st _ hi
 · by_cases e : i = t
   · subst e; rw [put_same]; exact h4
   · rw [put_other _ _ e]; exact F.tame _ hi
theorem op_asks {α : Type} : ∀ (o : Op α) (s : TS), (o.onT s).1 = none → 1 ≤ (o.onT s).2.acc.length
 | .ret v, s, h => by cases h
 | .ask a k, s, h => by
  by_cases hlt : s.acc.length < s.ans.length
  · have e : (Op.ask a k).onT s = (k s.told).onT (s.asked a) := if_pos hlt
    rw [e] at h ⊢
    exact op_asks _ _ h
  · have e : (Op.ask a k).onT s = (none, s.asked a) := if_neg hlt
    rw [e]
    show 1 ≤ (s.asked a).acc.length
    rw [(asked_len s a).1]; omega
 | .get i k, s, h => op_asks (k (s.get i)) s h
 | .set i v k, s, h => op_asks k (s.set i v) h
 | .note c k, s, h => op_asks k (s.noted c) h
 | .live k, s, h => op_asks (k true) s h
theorem shortL_le (l : List Int) : (shortL l).length ≤ l.length := by rw [shortL_length]; exact shortLen_le _ _
theorem play_lens (hF : FewOK M progs) (F : Fits M progs k S) {t : Nat} (ht : t < S.n) (hn : (S.ths t).next < (S.ths t).prog.length) (hk : k ≤ 4999) :
 (playO M t (S.ths t)).2.nts.length ≤ 1000 ∧ (playO M t (S.ths t)).2.acc.length ≤ 100000 ∧ ((playO M t (S.ths t)).1 = none → 1 ≤ (playO M t (S.ths t)).2.acc.length) ∧ (shortL (playO M t (S.ths t)).2.loc).length ≤ 32768 := by
 obtain ⟨h1, h2, h3, h4⟩ := F.len t ht
 have hin : (S.ths t).call ∈ progs.getD t [] := by
  rw [← F.prog t ht]
  unfold ThD.call
  rw [List.getD_eq_getElem?_getD, List.getElem?_eq_getElem hn]
  exact List.getElem_mem hn
 have a1 := op_few (M.P t (S.ths t).call) 1000 ⟨(S.ths t).ans, (S.ths t).loc, [], []⟩ (hF t _ hin)
 have a2 := op_len (M.P t (S.ths t).call) ⟨(S.ths t).ans, (S.ths t).loc, [], []⟩ (Nat.zero_le _)
 have a3 := shortL_le (playO M t (S.ths t)).2.loc
 refine ⟨?_, ?_, fun hnone => ?_, ?_⟩
 · have : (playO M t (S.ths t)).2.nts.length ≤ ([] : List (Int × Int)).length + 1000 := a1
   rw [List.length_nil] at this; omega
 · have : (playO M t (S.ths t)).2.acc.length ≤ (S.ths t).ans.length + 1 := a2.1
   omega
 · exact op_asks _ _ hnone
 · have : (playO M t (S.ths t)).2.loc.length ≤ max (S.ths t).loc.length 32768 := a2.2.2
   omega
theorem playT_prog (M : MD) (t : Nat) (th : ThD) : (playT M t th).prog = th.prog := by unfold playT; rcases playO M t th with ⟨_ | _, _⟩ <;> rfl
theorem Fits.play (hF : FewOK M progs) (F : Fits M progs k S) {t : Nat} (ht : t < S.n) (hn : (S.ths t).next < (S.ths t).prog.length) (hk : k ≤ 4999) : Fits M progs k (playS M t S) := by
 obtain ⟨a1, a2, a3, a4⟩ := play_lens hF F ht hn hk
 obtain ⟨h1, h2, h3, h4⟩ := F.len t ht
 refine F.put (playT_prog _ _ _) ?_ ?_ ?_
 · unfold playT
   rcases hr : playO M t (S.ths t) with ⟨_ | v, s'⟩
   · rw [hr] at a1; exact ⟨h1, h2, h3, a1⟩
   · rw [hr] at a4; exact ⟨Nat.zero_le _, h2, a4, Nat.zero_le _⟩
 · unfold playT
   rcases hr : playO M t (S.ths t) with ⟨_ | v, s'⟩
   · exact .inr ⟨.inl rfl, hn⟩
   · exact .inl rfl
 · unfold playT
   rcases hr : playO M t (S.ths t) with ⟨_ | v, s'⟩
   · exact F.tame t ht
   · exact TameA.nil
theorem Fits.begin (F : Fits M progs k S) {t : Nat} (ht : t < S.n) (hn : (S.ths t).next < (S.ths t).prog.length) : Fits M progs k (beginS M t S) := by
 unfold beginS
 split
 · have := F.put (t := t) (th := { S.ths t with st := 2 }) rfl (F.len t ht) (.inr ⟨.inr rfl, hn⟩) (F.tame t ht)
   exact ⟨this.n, this.now, this.prog, this.len, this.st, this.dr, this.tame⟩
 · exact F
theorem drawN_lt (F : M.draws.length = 0 ∨ S.drawn < M.draws.length) (t : Nat) : M.draws.length = 0 ∨ drawN' M t S < M.draws.length := by
 rcases F with h | h
 · exact .inl h
 · right
   unfold drawN'
   split
   · exact h
   · exact Nat.mod_lt _ (by omega)
theorem Fits.ends (F : Fits M progs k S) {t : Nat} (ht : t < S.n) (hn : (S.ths t).next < (S.ths t).prog.length) (hst : (S.ths t).st = 2) (hx : SmallX (S.bank.endA M.fresh t (drawV M t S)).1) : Fits M progs (k + 1) (endS M t S) := by
 obtain ⟨h1, h2, h3, h4⟩ := F.len t ht
 have := (F.more (Nat.le_succ k)).put (t := t) (th := { S.ths t with ans := (S.ths t).ans ++ [(S.bank.endA M.fresh t (drawV M t S)).1], accs := (S.ths t).accs + 1 }) rfl ⟨by simp; omega, by show (S.ths t).accs + 1 ≤ _; omega, h3, h4⟩ (.inr ⟨.inr hst, hn⟩) ((F.tame t ht).snoc hx)
 exact ⟨this.n, this.now, this.prog, this.len, this.st, drawN_lt F.dr t, this.tame⟩
theorem Fits.halt (F : Fits M progs k S) (t : Nat) : Fits M progs k (haltS t S) := by
 unfold haltS
 split
 · exact F
 · rename_i h
   have ht : t < S.n := by omega
   exact F.put rfl (F.len t ht) (F.st t ht) (F.tame t ht)
end
theorem Fits.pick {M : MD} {progs : List (List CD)} {k : Nat} {S : WD} (hF : FewOK M progs) (F : Fits M progs k S) (t : Nat) (hk : k + 2 ≤ 4999) (hx : t < S.n → (S.ths t).st = 2 → SmallX (S.bank.endA M.fresh t (drawV M t S.tick)).1) : Fits M progs (k + 1) (pickS M t S) := by
 unfold pickS
 split
 · exact F.more (Nat.le_succ k)
 rename_i h1
 have ht : t < S.n := by omega
 split
 · exact F.tick
 split
 · split
   · exact F.tick
   · rename_i h2 h3 h4
     have hn : (S.ths t).next < (S.ths t).prog.length := by omega
     have FP := F.tick.play hF (t := t) ht hn (by omega)
     unfold idleS
     split
     · rename_i h5
       refine FP.begin ht ?_
       rcases FP.st t ht with h | h
       · rw [h5] at h; cases h
       · exact h.2
     · exact FP
 rename_i h2 h3
 have hn := (F.st t ht).resolve_left h3
 split
 · exact F.tick.begin ht hn.2
 · rename_i h4
   have hst : (S.ths t).st = 2 := hn.1.resolve_left h4
   obtain ⟨a1, a2, a3, a4⟩ := F.len t ht
   have FE : Fits M progs (k + 1) (endS M t S.tick) := by
    have := F.tick.put (t := t) (th := { S.ths t with ans := (S.ths t).ans ++ [(S.tick.bank.endA M.fresh t (drawV M t S.tick)).1], accs := (S.ths t).accs + 1 }) rfl ⟨by simp; omega, by show (S.ths t).accs + 1 ≤ _; omega, a3, a4⟩ (.inr ⟨.inr hst, hn.2⟩) ((F.tame t ht).snoc (hx ht hst))
    exact ⟨this.n, this.now, this.prog, this.len, this.st, drawN_lt (S := S.tick) F.dr t, this.tame⟩
   refine FE.play hF ht ?_ (by omega)
   show ((endS M t S.tick).ths t).next < ((endS M t S.tick).ths t).prog.length
   have e : (endS M t S.tick).ths t = { S.ths t with ans := (S.ths t).ans ++ [(S.tick.bank.endA M.fresh t (drawV M t S.tick)).1], accs := (S.ths t).accs + 1 } := put_same S.tick t _
   rw [e]; exact hn.2
section
variable {Z : WK} {W : World} {S : WD} {N : Nat} {va vl : Nat → Value} {ow : Nat → Nat} {progs : List (List CD)} {stat : Nat → Prop} {k : Nat}
theorem Lies.stat0 (L : Lies Z progs stat) (H : Wd Z W S N va vl ow) (hs : ∀ k, stat k → ow k = 0) : ∀ k, stat k → W.heap[k]? = Z.w1.heap[k]? := fun k h => H.ro k (L.st k h) (hs k h)
theorem Lies.draws (L : Lies Z progs stat) (H : Wd Z W S N va vl ow) (hs : ∀ k, stat k → ow k = 0) : DrawsAt Z W := by
 obtain ⟨h1, A, c, h2, h3, h4, h5⟩ := L.dr
 refine ⟨h1, A, c, h2, fun i hi => ?_, h4, h5⟩
 obtain ⟨b, off, e, hc⟩ := h3 i hi
 exact ⟨b, off, e, (cellE (L.stat0 H hs b (L.ds _ _ _ b off h2 e (by omega)))).trans hc⟩
theorem wplay_of (L : Lies Z progs stat) (hD : DoOK Z progs stat) (hF : FewOK Z.M progs) (H : Wd Z W S N va vl ow) (hs : ∀ k, stat k → ow k = 0) (F : Fits Z.M progs k S) (hk : k ≤ 4999) {t : Nat} (ht : t < Z.n) (hn : (S.ths t).next < (S.ths t).prog.length) :
 Calls Tryz.prog 57 #[.pointer (some ⟨Z.b, 0, none⟩), .int .i64 t] W (WPlayPost Z N W ow (playE Z.M t S) (playS Z.M t S)) := by
 have htS : t < S.n := by rw [H.n]; exact ht
 obtain ⟨ob, on, oc, hov⟩ := L.ov
 obtain ⟨A, pc, hpv, hpc, hpc2, hpc3, hca, hst⟩ := L.pr t ht
 have hpr := F.prog t htS
 have hn2 : (S.ths t).next < (progs.getD t []).length := by rw [← hpr]; exact hn
 obtain ⟨pb, po, e, c0, c1, c2⟩ := hca _ hn2
 have hb := L.stat0 H hs pb (hst pb po e (by omega))
 obtain ⟨a1, a2, a3, a4⟩ := play_lens hF F htS hn hk
 obtain ⟨b1, b2, b3, b4⟩ := F.len t htS
 have hcall : (S.ths t).call = (progs.getD t []).getD (S.ths t).next (0, 0, 0) := by unfold ThD.call; rw [hpr]
 have hin : (progs.getD t []).getD (S.ths t).next (0, 0, 0) ∈ progs.getD t [] := by
  rw [List.getD_eq_getElem?_getD (l := progs.getD t []), List.getElem?_eq_getElem hn2]
  exact List.getElem_mem hn2
 rcases hx : (progs.getD t []).getD (S.ths t).next (0, 0, 0) with ⟨x0, x1, x2⟩
 rw [hx] at c0 c1 c2 hcall hin
 rw [e] at hpv
 refine wplay_any H L.z ht hov hpv hn2 ⟨hpc, hpc2, hpc3⟩ hcall ⟨(cellE hb).trans c0, (cellE hb).trans c1, (cellE hb).trans c2⟩ (fun W2 g' B hB hk2 hg hT => ?_) b3 (by omega) b4 _ rfl a1 a2 a3 (by omega)
 exact hD t ht x0 x1 x2 hin _ _ (by omega) (F.tame t htS) b3 W2 g' B hB (fun i hi => hk2 i (L.st i hi) (hs i hi)) hg hT ob on oc hov
theorem playE_len (hF : FewOK Z.M progs) (F : Fits Z.M progs k S) {t : Nat} (ht : t < S.n) (hn : (S.ths t).next < (S.ths t).prog.length) (hk : k ≤ 4999) : (playE Z.M t S).length ≤ 2000 := by
 obtain ⟨a1, -⟩ := play_lens hF F ht hn hk
 unfold playE
 rw [List.length_append, List.length_map, List.length_drop]
 rcases hr : playO Z.M t (S.ths t) with ⟨_ | _, s'⟩
 · rw [hr] at a1; simp at a1 ⊢; omega
 · rw [hr] at a1; simp only [List.length_singleton] at a1 ⊢; omega
theorem wpick_any (L : Lies Z progs stat) (hD : DoOK Z progs stat) (hF : FewOK Z.M progs) (H : Wd Z W S N va vl ow) (hs : ∀ k, stat k → ow k = 0) (F : Fits Z.M progs k S) (hk : k + 2 ≤ 4999) (hN : N ≤ 90000) {t : Nat} (ht : t < Z.n) (hx : t < S.n → (S.ths t).st = 2 → SmallX (S.bank.endA Z.M.fresh t (drawV Z.M t S.tick)).1) :
 Calls Tryz.prog 26 #[.pointer (some ⟨Z.b, 0, none⟩), .int .i64 t] W (PickPost Z N W ow (pickE Z.M t S) (pickS Z.M t S)) := by
 have htS : t < S.n := by rw [H.n]; exact ht
 have hnow : S.now ≤ 1000000000 := by have := F.now; omega
 obtain ⟨A, pc, hpv, hpc, hpc2, hpc3, hca, hst⟩ := L.pr t ht
 rw [← F.prog t htS] at hpv hpc hpc2
 unfold pickS pickE
 rw [if_neg (show ¬ S.n ≤ t by omega), if_neg (show ¬ S.n ≤ t by omega)]
 by_cases hh : (S.ths t).halted = true
 · rw [if_pos hh, if_pos hh]
   exact wpick_over H L.z ht hnow hpv (by omega) (.inl hh)
 rw [if_neg hh, if_neg hh]
 have hh0 : (S.ths t).halted = false := by simpa using hh
 by_cases h0 : (S.ths t).st = 0
 · rw [if_pos h0, if_pos h0]
   by_cases hl : (S.ths t).prog.length ≤ (S.ths t).next
   · rw [if_pos hl, if_pos hl]
     exact wpick_over H L.z ht hnow hpv (by omega) (.inr ⟨hh0, h0, hl⟩)
   · rw [if_neg hl, if_neg hl]
     have hn : (S.ths t).next < (S.ths t).prog.length := by omega
     have := wpick_idle (evs := playE Z.M t S.tick) (S1 := playS Z.M t S.tick) H L.z ht hnow hh0 h0 hN hpv (by omega) hn (fun W2 H2 => wplay_of L hD hF H2 hs F.tick (by omega) ht hn) (playE_len hF F.tick htS hn (by omega))
     exact this
 rw [if_neg h0, if_neg h0]
 have hn := (F.st t htS).resolve_left h0
 by_cases h1 : (S.ths t).st = 1
 · rw [if_pos h1, if_pos h1]
   exact wpick_asked H L.z ht hnow hh0 h1 hN
 · rw [if_neg h1, if_neg h1]
   have hst2 : (S.ths t).st = 2 := hn.1.resolve_left h1
   obtain ⟨a1, a2, a3, a4⟩ := F.len t htS
   have e : (endS Z.M t S.tick).ths t = { S.ths t with ans := (S.ths t).ans ++ [(S.tick.bank.endA Z.M.fresh t (drawV Z.M t S.tick)).1], accs := (S.ths t).accs + 1 } := put_same S.tick t _
   have FE : Fits Z.M progs (k + 2) (endS Z.M t S.tick) := F.tick.ends htS hn.2 hst2 (hx htS hst2)
   have hnE : ((endS Z.M t S.tick).ths t).next < ((endS Z.M t S.tick).ths t).prog.length := by rw [e]; exact hn.2
   refine wpick_begun H L.z ht hnow hh0 hst2 hN (fun W2 H2 => L.draws H2 hs) F.dr (by omega) (by omega) (fun W2 va2 ow2 H2 ho => wplay_of L hD hF H2 (fun i hi => ?_) FE (by omega) ht hnE) (playE_len hF FE htS hnE (by omega))
   rw [ho i (Nat.lt_of_lt_of_le (L.st i hi) H.up.size)]; exact hs i hi
theorem whalt_law (L : Lies Z progs stat) (H : Wd Z W S N va vl ow) {t : Nat} (ht : t < Z.n) :
 Calls Tryz.prog 25 #[.pointer (some ⟨Z.b, 0, none⟩), .int .i64 t] W (PickPost Z N W ow (haltE t S) (haltS t S)) := by
 have htS : t < S.n := by rw [H.n]; exact ht
 unfold haltS haltE
 by_cases hh : (S.ths t).halted = true
 · rw [if_pos (.inr hh), if_pos (.inr hh)]
   exact whalt_done H L.z ht hh
 · rw [if_neg (by rintro (h | h); omega; exact hh h), if_neg (by rintro (h | h); omega; exact hh h)]
   exact whalt_any H L.z ht (by simpa using hh)
end
theorem GInv.small {M : MD} {progs : List (List CD)} {S : WD} {H : List Atom} (hF : FreshOK M) (h : GInv M progs S H) {t : Nat} (ht : t < S.n) (hst : (S.ths t).st = 2) (d : Int) : SmallX (S.bank.endA M.fresh t d).1 := by
 obtain ⟨cs, cur, ph, h1, h2⟩ := h.ex
 obtain ⟨hT, hnm⟩ := h1 t ht
 have ht8 : t < 8 := by have := h.n8; omega
 obtain ⟨phv, hphv⟩ : ∃ x, ph t = x := ⟨_, rfl⟩
 rw [hphv] at hT hnm
 have hpt : pendPh S.n ph t = phv.pend := by unfold pendPh; rw [if_pos ht, hphv]
 cases phv with
 | mid o l => exact absurd rfl (hnm o l)
 | idle => have := hT.stat.2.1; rw [hst] at this; cases this
 | asked a k l => have := hT.stat.1; rw [hst] at this; cases this
 | begun a k l b =>
  obtain ⟨b1, b2⟩ := h2.ends ht8 (hpt.trans rfl) d 0 0
  obtain ⟨_, _, _, _, _, _, _, _, _, _, _, _, hk, _⟩ := hT.stat
  have := b2.small hF hk
  have ht := hF.top a.2.1
  exact ⟨this.1, by omega⟩
end Go.Proofs.YtpodgcpkccpnfaaGreat

namespace Go.Proofs.YtpodgcpkccpnfaaGreat
open Go.RowKit
structure ScD where
 things : List ThingD
 progs : List (List CD)
 picks : List PickD
 draws : List Int
structure ScA where
 TA : Option Addr
 tc : Nat
 PA : Option Addr
 pc : Nat
 KA : Option Addr
 kc : Nat
 DA : Option Addr
 dc : Nat
def thing0 : ThingD := ⟨0, 0, 0, 0, 0, 0, 0, 0⟩
def pick0 : PickD := ⟨0, 0, true⟩
def ThingsAt (w : World) (A : Option Addr) (l : List ThingD) : Prop := ∀ i, i < l.length → ∃ b off, A = some ⟨b, off, none⟩ ∧
 (w.cell? ⟨b, off + i * 8, none⟩ = some (.int .i64 (l.getD i thing0).kind) ∧ w.cell? ⟨b, off + i * 8 + 1, none⟩ = some (.int .i64 (l.getD i thing0).alg) ∧ w.cell? ⟨b, off + i * 8 + 2, none⟩ = some (.int .i64 (l.getD i thing0).mode) ∧ w.cell? ⟨b, off + i * 8 + 3, none⟩ = some (.int .i64 (l.getD i thing0).room)) ∧
 w.cell? ⟨b, off + i * 8 + 4, none⟩ = some (.int .i64 (l.getD i thing0).arg) ∧ w.cell? ⟨b, off + i * 8 + 5, none⟩ = some (.int .i64 (l.getD i thing0).writer) ∧ w.cell? ⟨b, off + i * 8 + 6, none⟩ = some (.int .i64 (l.getD i thing0).reader) ∧ w.cell? ⟨b, off + i * 8 + 7, none⟩ = some (.int .i64 (l.getD i thing0).top)
def ProgsAt (w : World) (A : Option Addr) (l : List (List CD)) : Prop := ∀ i, i < l.length → ∃ b off A' c', A = some ⟨b, off, none⟩ ∧ w.cell? ⟨b, off + i, none⟩ = some (.slice A' (l.getD i []).length c') ∧ ProgAt w A' (l.getD i []) ∧ ((l.getD i []).length ≤ c' ∧ (l.getD i []).length ≤ 1000000 ∧ c' ≤ 9223372036854775807 ∧ (A' = none → c' = 0))
def PicksAt (w : World) (A : Option Addr) (l : List PickD) : Prop := ∀ i, i < l.length → ∃ b off, A = some ⟨b, off, none⟩ ∧
 w.cell? ⟨b, off + i * 3, none⟩ = some (.int .i64 (l.getD i pick0).thread) ∧ w.cell? ⟨b, off + i * 3 + 1, none⟩ = some (.int .i64 (l.getD i pick0).times) ∧ w.cell? ⟨b, off + i * 3 + 2, none⟩ = some (.bool (l.getD i pick0).halt)
theorem ProgAt.up {w w' : World} {A : Option Addr} {l : List CD} (h : ProgAt w A l) (u : Up w w') : ProgAt w' A l := fun i hi => by
 obtain ⟨b, off, e, h0, h1, h2⟩ := h i hi
 exact ⟨b, off, e, (u.cell (cell_lt h0)).trans h0, (u.cell (cell_lt h1)).trans h1, (u.cell (cell_lt h2)).trans h2⟩
theorem ThingsAt.up {w w' : World} {A : Option Addr} {l : List ThingD} (h : ThingsAt w A l) (u : Up w w') : ThingsAt w' A l := fun i hi => by
 obtain ⟨b, off, e, ⟨h0, h1, h2, h3⟩, h4, h5, h6, h7⟩ := h i hi
 have hl := cell_lt h0
 exact ⟨b, off, e, ⟨(u.cell hl).trans h0, (u.cell hl).trans h1, (u.cell hl).trans h2, (u.cell hl).trans h3⟩, (u.cell hl).trans h4, (u.cell hl).trans h5, (u.cell hl).trans h6, (u.cell hl).trans h7⟩
theorem ProgsAt.up {w w' : World} {A : Option Addr} {l : List (List CD)} (h : ProgsAt w A l) (u : Up w w') : ProgsAt w' A l := fun i hi => by
 obtain ⟨b, off, A', c', e, h0, h1, h2⟩ := h i hi
 exact ⟨b, off, A', c', e, (u.cell (cell_lt h0)).trans h0, h1.up u, h2⟩
theorem PicksAt.up {w w' : World} {A : Option Addr} {l : List PickD} (h : PicksAt w A l) (u : Up w w') : PicksAt w' A l := fun i hi => by
 obtain ⟨b, off, e, h0, h1, h2⟩ := h i hi
 exact ⟨b, off, e, (u.cell (cell_lt h0)).trans h0, (u.cell (cell_lt h1)).trans h1, (u.cell (cell_lt h2)).trans h2⟩
structure ScrAt (w : World) (sc : ScD) (a : ScA) : Prop where
 th : ThingsAt w a.TA sc.things
 pr : ProgsAt w a.PA sc.progs
 pk : PicksAt w a.KA sc.picks
 dr : Row w a.DA sc.draws.length (IVal sc.draws)
 dn : (a.DA = none → a.dc = 0) ∧ sc.draws.length ≤ a.dc ∧ a.dc ≤ 9223372036854775807
theorem ScrAt.up {w w' : World} {sc : ScD} {a : ScA} (h : ScrAt w sc a) (u : Up w w') : ScrAt w' sc a := ⟨h.th.up u, h.pr.up u, h.pk.up u, h.dr.up u, h.dn⟩
def scrA (sc : ScD) (a : ScA) : Array Value := #[.slice a.TA sc.things.length a.tc, .slice a.PA sc.progs.length a.pc, .slice a.KA sc.picks.length a.kc, .slice a.DA sc.draws.length a.dc]
def timesL : List PickD → Int
 | [] => 0
 | p :: l => p.times + timesL l
structure ScrOK (sc : ScD) : Prop where
 n : 1 ≤ sc.progs.length ∧ sc.progs.length ≤ 8
 t : sc.things.length ≤ 8
 k : sc.picks.length ≤ 400
 d : sc.draws.length ≤ 64
 pl : ∀ i, i < sc.progs.length → (sc.progs.getD i []).length ≤ 24 ∧ ∀ j, j < (sc.progs.getD i []).length → fineCallP ((sc.progs.getD i []).getD j (0, 0, 0))
 pk : ∀ i, i < sc.picks.length → finePickP sc.progs.length (sc.picks.getD i pick0)
 dr : ∀ i, i < sc.draws.length → 0 ≤ sc.draws.getD i 0 ∧ sc.draws.getD i 0 ≤ 1073741823
 th : ∀ i, i < sc.things.length → fineThingP (sc.things.getD i thing0)
 st : timesL sc.picks ≤ 4000
theorem timesL_take (l : List PickD) {i : Nat} (h : i < l.length) : timesL (l.take (i + 1)) = timesL (l.take i) + (l.getD i pick0).times := by
 induction l generalizing i with
 | nil => simp at h
 | cons p l ih =>
  cases i with
  | zero => simp [timesL]
  | succ i =>
   rw [List.take_succ_cons, List.take_succ_cons]
   show p.times + timesL (l.take (i + 1)) = p.times + timesL (l.take i) + _
   rw [ih (by simpa using h)]
   simp; omega
theorem timesL_nn {n : Nat} {l : List PickD} (h : ∀ i, i < l.length → finePickP n (l.getD i pick0)) (i : Nat) : i ≤ l.length → 0 ≤ timesL (l.take i) ∧ timesL (l.take i) ≤ 255 * i := by
 induction i with
 | zero => intro _; simp [timesL]
 | succ i ih =>
  intro hi
  have := ih (by omega)
  rw [timesL_take l (by omega)]
  rcases (h i (by omega)).2 with ⟨_, h2⟩ | ⟨_, h2, h3⟩ <;> omega
structure BoxS (w wr : World) (cs : Array Value) : Prop where
 up : Up (w.alloc (.cells cs 27)) wr
theorem BoxS.go {w wr w' : World} {cs : Array Value} (h : BoxS w wr cs) (u : Up wr w') : BoxS w w' cs := ⟨h.up.trans u⟩
theorem BoxS.w {w wr : World} {cs : Array Value} (h : BoxS w wr cs) : Up w wr := ((Up.refl w).alloc _).trans h.up
theorem BoxS.cell {w wr : World} {cs : Array Value} (h : BoxS w wr cs) (i : Nat) : wr.cell? ⟨w.heap.size, i, none⟩ = cs[i]? := by
 have hb := heap_alloc_new w (.cells cs 27)
 exact cell_of_row _ _ i _ _ _ ((h.up.block _ (Array.getElem?_eq_some_iff.1 hb).1).trans hb)
theorem steps_ok {sc : ScD} {a : ScA} (w : World) (hs : ScrAt w sc a) (hok : ScrOK sc) : Calls Tryz.prog 74 #[.agg #[.slice a.TA sc.things.length a.tc, .slice a.PA sc.progs.length a.pc, .slice a.KA sc.picks.length a.kc, .slice a.DA sc.draws.length a.dc]] w fun e w' => e = .returned (.int .i64 (timesL sc.picks)) ∧ Up w w' := by
 have HB0 : Hid (BoxS w (w.alloc (.cells (scrA sc a) 27)) (scrA sc a)) := hQ' ⟨Up.refl _⟩
 have HS := hQ' hs
 have HNN := hQ' (fun i => timesL_nn hok.pk i)
 have HTK := hQ' (fun i (h : i < sc.picks.length) => timesL_take sc.picks h)
 have HPK := hQ' (fun i (h : i < sc.picks.length) => (hok.pk i h).2)
 have HT := hQ' (show timesL (sc.picks.take sc.picks.length) = timesL sc.picks by rw [List.take_length])
 have HL := hQ' hok.k
 have c2 := HB0.out.cell 2
 unfold scrA at HB0 c2
 simp only [gA_T, gA_0, gA_S] at c2
 clear hs hok
 go_enter Tryz.func74, Tryz.ntmps74
 go_wp2_with fail
 go_loopw [3, 9] (fun s x wr => ∃ i : Nat, i ≤ sc.picks.length ∧ x = .int .i64 i ∧ s = .int .i64 (timesL (sc.picks.take i)) ∧ Hid (Up w wr)) (fun _ x _ => sc.picks.length - (intOf x).toNat)
 case atStart => exact ⟨0, by omega, rfl, rfl, hQ' HB0.out.w⟩
 case round =>
  obtain ⟨i, hi, rfl, rfl, HV⟩ := hrel
  by_cases hlt : i < sc.picks.length
  · have hii : (i : Int) < sc.picks.length := by omega
    have hi0 : (0 : Int) ≤ i := by omega
    obtain ⟨b, off, eA, x0, x1, x2⟩ := (HS.out.up HV.out).pk i hlt
    have hst := HTK.out i hlt
    have hn0 := HNN.out i hi
    have hpk := HPK.out i hlt
    have hle := HL.out
    generalize timesL (sc.picks.take i) = T at *
    generalize sc.picks.getD i pick0 = p at *
    obtain ⟨pt, pk, ph⟩ := p
    dsimp only at x0 x1 x2 hst hpk
    have hp2 : 0 ≤ pk ∧ pk ≤ 255 := by rcases hpk with ⟨_, h⟩ | ⟨_, h, h2⟩ <;> omega
    have e1 : max pk 0 = pk := by omega
    have e2 : min pk 1048576 = pk := by omega
    have hi4 : (i : Int) < 400 := by omega
    have e3 : wrap64 (T + pk) = T + pk := IntWalk.wrap64_in _ (by omega)
    have e4 : min (T + pk) 1048576 = T + pk := by omega
    rw [eA]
    have HUA := hQ' (HV.out.trans ((Up.refl wr).alloc (.cells #[.int .i64 pt, .int .i64 pk, .bool ph] 68)))
    have hb := heap_alloc_new wr (.cells #[.int .i64 pt, .int .i64 pk, .bool ph] 68)
    have y1 := cell_of_row _ _ 1 _ _ _ hb
    simp only [gA_T, gA_0, gA_S] at y1
    have HX := hQ' (And.intro hst (And.intro hlt hi))
    clear hst hn0 hpk hle hlt hp2 hb
    go_wp2_with fail
    go_roundw
    case rel => exact ⟨i + 1, HX.out.2.1, by first | rfl | go_num, by rw [HX.out.1], HUA⟩
    case measure => have := HX.out.2.1; simp [intOf]; omega
  · have hie : i = sc.picks.length := by omega
    subst hie
    have hnl : ¬ ((sc.picks.length : Int) < sc.picks.length) := by omega
    have HVE := hQ' HV.out
    clear HV
    go_wp2_with fail
    go_ret
    exact ⟨by first | rfl | rw [HT.out], HVE.out⟩
end Go.Proofs.YtpodgcpkccpnfaaGreat

namespace Go.Proofs.YtpodgcpkccpnfaaGreat
open Go.ChangeShapes Go.WideShapes Go.ChangeAt Go.RowKit Go.Deep
section
variable {H : Type} {enc : TypeId × Value → H} {P : Program} {w : World}
theorem sl_ints {t e : TypeId} {fuel : Nat} {cs : List Value} {x : DataW H × List MemPlace} (ht : P.underlying t = some (.slice e)) (he : P.underlying e = some (.int .i64)) (hC : P.cellsOf e = 1) (h : DataW.trod enc P w 0 (fun _ => true) true fuel t cs = some x) :
 ∃ (A : Option Addr) (l : List Int) (c : Nat), cs = [.slice A l.length c] ∧ Row w A l.length (IVal l) := by
 rcases open_slice1 ht hC h with ⟨rfl, _⟩ | ⟨a, len, cap, m, n, V, D, Pl, rfl, _, hl, hm, hmm, _, hx⟩
 · exact ⟨none, [], 0, rfl, fun k hk => absurd hk (Nat.not_lt_zero k)⟩
 · simp only [if_true] at hmm
   subst hmm
   have hcell : ∀ i, i < m → ∃ p : Int, w.cell? (a.add i) = some (.int .i64 p) := fun i hi => by
    obtain ⟨h1, h2⟩ := hx i hi
    obtain ⟨p, e1, _, _⟩ := DataW.trod_int he h2
    simp only [List.cons.injEq, and_true] at e1
    rw [e1] at h1
    exact ⟨p, h1⟩
   obtain ⟨p, hp⟩ : ∃ p : Nat → Int, ∀ i, i < m → w.cell? (a.add i) = some (.int .i64 (p i)) :=
    ⟨fun i => if h : i < m then (hcell i h).choose else 0, fun i him => by simpa only [dif_pos him] using (hcell i him).choose_spec⟩
   have hlen : ((List.range len).map p).length = len := by simp
   refine ⟨some a, (List.range len).map p, m, by rw [hlen], ?_⟩
   rw [hlen]
   intro k hk
   have h0 := hp k (by omega)
   obtain ⟨b, off, spot⟩ := a
   have hspot : spot = none := by simpa [Addr.add] using World.cell?_spot (hp 0 (by omega))
   subst hspot
   have e : ((List.range len).map p).getD k 0 = p k := by rw [List.getD_eq_getElem?_getD, List.getElem?_map, List.getElem?_range hk]; rfl
   refine ⟨b, off, rfl, ?_⟩
   unfold IVal
   rw [e, ← Go.WideShapes.add_plain]; exact h0
theorem sl_picks {t e : TypeId} {f0 f1 f2 : Field} {fuel : Nat} {cs : List Value} {x : DataW H × List MemPlace} (ht : P.underlying t = some (.slice e)) (he : P.underlying e = some (.struct #[f0, f1, f2])) (hC : P.cellsOf e = 3)
 (o0 : f0.offset = 0) (o1 : f1.offset = 1) (o2 : f2.offset = 2) (k0 : P.cellsOf f0.type = 1) (k1 : P.cellsOf f1.type = 1) (k2 : P.cellsOf f2.type = 1)
 (u0 : P.underlying f0.type = some (.int .i64)) (u1 : P.underlying f1.type = some (.int .i64)) (u2 : P.underlying f2.type = some .bool) (h : DataW.trod enc P w 0 (fun _ => true) true fuel t cs = some x) :
 ∃ (A : Option Addr) (l : List PickD) (c : Nat), cs = [.slice A l.length c] ∧ PicksAt w A l := by
 rcases open_slice ht h with ⟨rfl, _⟩ | ⟨a, len, cap, m, n0, D, Pl, rfl, _, hl, hm, hmm, _, hi⟩
 · exact ⟨none, [], 0, rfl, fun k hk => absurd hk (Nat.not_lt_zero k)⟩
 · simp only [if_true] at hmm
   subst hmm
   have hcell : ∀ i, i < m → ∃ p : PickD, w.cell? (a.add (i * 3)) = some (.int .i64 p.thread) ∧ w.cell? (a.add (i * 3 + 1)) = some (.int .i64 p.times) ∧ w.cell? (a.add (i * 3 + 2)) = some (.bool p.halt) := by
    intro i him
    obtain ⟨cs', hc, ht'⟩ := hi i him
    rw [hC] at hc
    obtain ⟨xs, n, _, _, _, hxl, hfs⟩ := DataW.trod_struct he ht'
    obtain ⟨_, hcl, hat⟩ := World.cells?_some hc
    match cs', hcl, xs, hxl with
    | [q0, q1, q2], _, [y0, y1, y2], _ =>
    have ht0 := hfs 0 f0 rfl
    have ht1 := hfs 1 f1 rfl
    have ht2 := hfs 2 f2 rfl
    rw [o0, k0] at ht0
    rw [o1, k1] at ht1
    rw [o2, k2] at ht2
    simp only [List.drop_zero, List.drop_succ_cons, List.take_succ_cons, List.take_zero, List.getElem?_cons_zero, List.getElem?_cons_succ] at ht0 ht1 ht2
    obtain ⟨x0, e0, _, _⟩ := DataW.trod_int u0 ht0
    obtain ⟨x1, e1, _, _⟩ := DataW.trod_int u1 ht1
    obtain ⟨x2, e2, _⟩ := DataW.trod_bool u2 ht2
    simp only [List.cons.injEq, and_true] at e0 e1 e2
    subst e0 e1 e2
    have hc0 := hat 0 (by decide)
    have hc1 := hat 1 (by decide)
    have hc2 := hat 2 (by decide)
    rw [add_add] at hc0 hc1 hc2
    exact ⟨⟨x0, x1, x2⟩, hc0, hc1, hc2⟩
   obtain ⟨p, hp⟩ : ∃ p : Nat → PickD, ∀ i, i < m → w.cell? (a.add (i * 3)) = some (.int .i64 (p i).thread) ∧ w.cell? (a.add (i * 3 + 1)) = some (.int .i64 (p i).times) ∧ w.cell? (a.add (i * 3 + 2)) = some (.bool (p i).halt) :=
    ⟨fun i => if h : i < m then (hcell i h).choose else pick0, fun i him => by simpa only [dif_pos him] using (hcell i him).choose_spec⟩
   have hlen : ((List.range len).map p).length = len := by simp
   refine ⟨some a, (List.range len).map p, m, by rw [hlen], ?_⟩
   intro k hk
   rw [hlen] at hk
   obtain ⟨h0, h1, h2⟩ := hp k (by omega)
   obtain ⟨b, off, spot⟩ := a
   have hspot : spot = none := by simpa [Addr.add] using World.cell?_spot (hp 0 (by omega)).1
   subst hspot
   have e : ((List.range len).map p).getD k pick0 = p k := by rw [List.getD_eq_getElem?_getD, List.getElem?_map, List.getElem?_range hk]; rfl
   rw [e]
   exact ⟨b, off, rfl, by rw [← Go.WideShapes.add_plain]; exact h0, by rw [Nat.add_assoc, ← Go.WideShapes.add_plain]; exact h1, by rw [Nat.add_assoc, ← Go.WideShapes.add_plain]; exact h2⟩
theorem open_row5 {b0 : Nat} {r : Reach} {t e3 e4 : TypeId} {f0 f1 f2 f3 f4 g0 g1 g2 : Field} {v : Value} {d : DataW H} {p : List MemPlace}
 (hs : P.underlying t = some (.struct #[f0, f1, f2, f3, f4])) (hone : oneCellFields P #[f0, f1, f2, f3, f4] = true) (hC : P.cellsOf t = 5)
 (u0 : P.underlying f0.type = some (.int .u8)) (u1 : P.underlying f1.type = some (.int .u8)) (u2 : P.underlying f2.type = some (.int .u8)) (u3 : P.underlying f3.type = some (.slice e3)) (u4 : P.underlying f4.type = some (.slice e4))
 (v3 : P.underlying e3 = some (.struct #[g0, g1, g2])) (hC3 : P.cellsOf e3 = 3) (o0 : g0.offset = 0) (o1 : g1.offset = 1) (o2 : g2.offset = 2) (k0 : P.cellsOf g0.type = 1) (k1 : P.cellsOf g1.type = 1) (k2 : P.cellsOf g2.type = 1)
 (w0 : P.underlying g0.type = some (.int .i64)) (w1 : P.underlying g1.type = some (.int .i64)) (w2 : P.underlying g2.type = some .bool) (v4 : P.underlying e4 = some (.int .i64)) (hC4 : P.cellsOf e4 = 1)
 (hv : Value.okWide P w r b0 t v) (h : DataW.Trod enc P w 0 (fun _ => true) true t v d p) :
 ∃ (x0 x1 x2 : Nat) (A : Option Addr) (l : List PickD) (c : Nat) (B : Option Addr) (m : List Int) (k : Nat), v = .agg #[.int .u8 x0, .int .u8 x1, .int .u8 x2, .slice A l.length c, .slice B m.length k] ∧ (x0 < 256 ∧ x1 < 256 ∧ x2 < 256) ∧ PicksAt w A l ∧ Row w B m.length (IVal m) := by
 obtain ⟨cs, rfl, hsz⟩ := okWide_struct hs hv
 obtain ⟨l⟩ := cs
 match l, hsz.trans hC with
 | [c0, c1, c2, c3, c4], _ =>
  obtain ⟨fuel, hf⟩ := h
  obtain ⟨xs, n, _, hx, _, hlen, hg⟩ := DataW.trod_struct hs hf
  match xs, hlen with
  | [y0, y1, y2, y3, y4], _ =>
   obtain ⟨q0, j0⟩ := hone_of hone 0 f0 rfl
   have r0 : DataW.trod enc P w 0 (fun _ => true) true n f0.type [c0] = some y0 := by simpa [Value.cells, q0, j0] using hg 0 f0 rfl
   obtain ⟨x0, e0, _, b0⟩ := DataW.trod_int u0 r0
   obtain ⟨q1, j1⟩ := hone_of hone 1 f1 rfl
   have r1 : DataW.trod enc P w 0 (fun _ => true) true n f1.type [c1] = some y1 := by simpa [Value.cells, q1, j1] using hg 1 f1 rfl
   obtain ⟨x1, e1, _, b1⟩ := DataW.trod_int u1 r1
   obtain ⟨q2, j2⟩ := hone_of hone 2 f2 rfl
   have r2 : DataW.trod enc P w 0 (fun _ => true) true n f2.type [c2] = some y2 := by simpa [Value.cells, q2, j2] using hg 2 f2 rfl
   obtain ⟨x2, e2, _, b2⟩ := DataW.trod_int u2 r2
   obtain ⟨q3, j3⟩ := hone_of hone 3 f3 rfl
   have r3 : DataW.trod enc P w 0 (fun _ => true) true n f3.type [c3] = some y3 := by simpa [Value.cells, q3, j3] using hg 3 f3 rfl
   obtain ⟨A, l, c, e3, hl⟩ := sl_picks u3 v3 hC3 o0 o1 o2 k0 k1 k2 w0 w1 w2 r3
   obtain ⟨q4, j4⟩ := hone_of hone 4 f4 rfl
   have r4 : DataW.trod enc P w 0 (fun _ => true) true n f4.type [c4] = some y4 := by simpa [Value.cells, q4, j4] using hg 4 f4 rfl
   obtain ⟨B, m, k, e4, hm⟩ := sl_ints u4 v4 hC4 r4
   simp only [List.cons.injEq, and_true] at e0 e1 e2 e3 e4
   subst e0 e1 e2 e3 e4
   have b0 := u8_wf b0
   have b1 := u8_wf b1
   have b2 := u8_wf b2
   obtain ⟨n0, rfl⟩ : ∃ n : Nat, x0 = n := ⟨x0.toNat, by omega⟩
   obtain ⟨n1, rfl⟩ : ∃ n : Nat, x1 = n := ⟨x1.toNat, by omega⟩
   obtain ⟨n2, rfl⟩ : ∃ n : Nat, x2 = n := ⟨x2.toNat, by omega⟩
   exact ⟨n0, n1, n2, A, l, c, B, m, k, rfl, by omega, hl, hm⟩
end
end Go.Proofs.YtpodgcpkccpnfaaGreat

namespace Go.Proofs.YtpodgcpkccpnfaaGreat
open Go.RowKit
theorem readMax_all {Q : AD → Prop} {num : Int} {me : Nat} (hQ : ∀ c u, Q (1, c, u)) : ∀ (js : List Nat) (t : Int), (readMax num me js t).all Q
 | [], t => trivial
 | j :: js, t => by
  unfold readMax
  split
  · exact readMax_all hQ js t
  · exact ⟨hQ _ _, fun x => readMax_all hQ js _⟩
theorem spin0_all {Q : AD → Prop} {c : Int} (hQ : ∀ c u, Q (1, c, u)) (h0 : Q (0, 0, 0)) : ∀ f, (spin0 c f).all Q
 | 0 => ⟨h0, fun _ => trivial⟩
 | f + 1 => ⟨hQ _ _, fun x => by
  show Op.all Q (if x = 0 then .ret () else spin0 c f)
  split
  · trivial
  · exact spin0_all hQ h0 f⟩
theorem spinP_all {Q : AD → Prop} {c : Int} {p : Int → Bool} (hQ : ∀ c u, Q (1, c, u)) (h0 : Q (0, 0, 0)) : ∀ f, (spinP c p f).all Q
 | 0 => ⟨h0, fun _ => trivial⟩
 | f + 1 => ⟨hQ _ _, fun x => by
  show Op.all Q (if p x = true then .ret x else spinP c p f)
  split
  · trivial
  · exact spinP_all hQ h0 f⟩
theorem bakWait_all {Q : AD → Prop} {ch num : Int} {me : Nat} {t : Int} {F : Nat} (hQ : ∀ c u, Q (1, c, u)) (h0 : Q (0, 0, 0)) : ∀ js, (bakWait ch num me t F js).all Q
 | [] => trivial
 | j :: js => by
  unfold bakWait
  split
  · exact bakWait_all hQ h0 js
  · exact Op.all_bind _ _ (spin0_all hQ h0 _) fun _ => Op.all_bind _ _ (spinP_all hQ h0 _) fun _ => bakWait_all hQ h0 js
theorem bakT_all {n : Nat} {room base loc : Int} {F t op : Nat} : (bakT n room base loc F t op).all fun a => a.1 = 2 → a.2.1 = base + (t : Int) ∨ a.2.1 = base + (n : Int) + (t : Int) := by
 have hQ : ∀ c u : Int, (1 : Int) = 2 → c = base + (t : Int) ∨ c = base + (n : Int) + (t : Int) := fun c u h => absurd h (by decide)
 have h0 : (0 : Int) = 2 → (0 : Int) = base + (t : Int) ∨ (0 : Int) = base + (n : Int) + (t : Int) := fun h => absurd h (by decide)
 unfold bakT
 split
 · refine ⟨fun _ => .inl rfl, fun x => Op.all_bind _ _ (readMax_all hQ _ _) fun v => ?_⟩
   unfold bakTicket
   split
   · exact ⟨fun _ => .inl rfl, fun _ => trivial⟩
   · exact ⟨fun _ => .inr rfl, fun _ => ⟨fun _ => .inl rfl, fun _ => Op.all_bind _ _ (bakWait_all hQ h0 _) fun _ => trivial⟩⟩
 · exact Op.all_bind _ _ ⟨fun _ => .inr rfl, fun _ => trivial⟩ fun _ => trivial
theorem Behind2.order {n : Nat} {room base : Int} {me : Nat} {L : List Item} {t : Int} {p1 b1 e1 : Nat} {Lr : List Item} {b2 e2 b3 e3 p2 : Nat} {Lw : List Item} (h : Behind2 n room base me L t p1 b1 e1 Lr b2 e2 b3 e3 p2 Lw) {lo : Nat} (hs : Seq lo L) :
 lo < b1 ∧ b1 < e1 ∧ (∀ a b e x, Item.acc a b e x ∈ Lr → e1 < b ∧ b < e ∧ e < b2) ∧ e1 < b2 ∧ b2 < e2 ∧ e2 < b3 ∧ b3 < e3 ∧ e3 < p2 ∧ p2 ≤ lastP lo L ∧ Seq p2 Lw ∧ (∀ a b e x, Item.acc a b e x ∈ Lw → p2 < b ∧ b < e ∧ e ≤ lastP lo L) ∧ ∀ k p, Item.note k p ∈ Lw → p2 < p ∧ p ≤ lastP lo L := by
 obtain ⟨x1, x2, x3, rfl⟩ := h.eq
 obtain ⟨q1, q2, q3, q4⟩ := hs
 obtain ⟨q5, q6, q7, q8, q9, q10, q11⟩ := Seq.append.1 q4
 have hl := Seq.le_last (L := Lr) q5
 have hw := Seq.le_last (L := Lw) q11
 have e9 : lastP lo (.note 1 p1 :: .acc (2, base + (me : Int), 1) b1 e1 x1 :: (Lr ++ .acc (2, base + (n : Int) + (me : Int), t) b2 e2 x2 :: .acc (2, base + (me : Int), 0) b3 e3 x3 :: .note 2 p2 :: Lw)) = lastP p2 Lw := by
  show lastP e1 (Lr ++ _) = _
  rw [lastP_append]; rfl
 rw [e9]
 refine ⟨by omega, q3, fun a b e x hm => ?_, by omega, q7, q8, q9, q10, hw, q11, fun a b e x hm => q11.acc hm, fun k p hm => q11.note hm⟩
 have := q5.acc hm
 exact ⟨this.1, this.2.1, by omega⟩
theorem Behind2.last3 {n : Nat} {room base : Int} {me : Nat} {L : List Item} {t : Int} {p1 b1 e1 : Nat} {Lr : List Item} {b2 e2 b3 e3 p2 : Nat} {Lw : List Item} (h : Behind2 n room base me L t p1 b1 e1 Lr b2 e2 b3 e3 p2 Lw) {p3 : Nat} (hn : Item.note 3 p3 ∈ Lw) {a : AD} {b e : Nat} {x : Int} (hm : Item.acc a b e x ∈ Lw) {lo : Nat} (hs : Seq lo L) : e < p3 := by
 have h9 := (h.order hs).2.2.2.2.2.2.2.2.2.1
 obtain ⟨L1, rfl⟩ := h.last p3 hn
 obtain ⟨q1, q2, _⟩ := Seq.append.1 h9
 rcases List.mem_append.1 hm with hm | hm
 · have := (q1.acc hm).2.2; omega
 · rw [List.mem_singleton] at hm; cases hm
section
variable {M : MD} {progs : List (List CD)} {H : List Atom} {C : Nat → List GC} {room base loc : Int} {F : Nat} {G : Nat → List Seg}
structure BakCells (M : MD) (n : Nat) (room base : Int) : Prop where
 room1 : 1 ≤ room
 room2 : room ≤ 1048576
 ch : ∀ j, j < n → (M.fresh (base + (j : Int))).kind = 1 ∧ (M.fresh (base + (j : Int))).top = 1
 num : ∀ j, j < n → (M.fresh (base + (n : Int) + (j : Int))).kind = 1 ∧ (M.fresh (base + (n : Int) + (j : Int))).top = room
def bakCells (n : Nat) (base c : Int) : Prop := base ≤ c ∧ c < base + 2 * (n : Int)
theorem bak_writes (hL : Logs M progs H C) (hG : Segs progs C (bakT progs.length room base loc F) (bakCells progs.length base) H.length G) {t i : Nat} {c v : Int} {b e : Nat} {x : Int} (h : InLog progs C t i (.acc (2, c, v) b e x)) (hc : bakCells progs.length base c) :
 (c = base + (t : Int) ∨ c = base + (progs.length : Int) + (t : Int)) ∧ ∃ (k : Nat) (s : Seg), (G t)[k]? = some s ∧ Item.acc (2, c, v) b e x ∈ s.items := by
 obtain ⟨k, s, h1, h2⟩ := hG.cov t i _ b e x h hc
 obtain ⟨loc', o, l, h3, _⟩ := hG.path t k s h.1 h1
 exact ⟨(h3.all bakT_all).1 _ _ _ _ h2 rfl, k, s, h1, h2⟩
theorem bak_num (hL : Logs M progs H C) (hG : Segs progs C (bakT progs.length room base loc F) (bakCells progs.length base) H.length G) (hC : BakCells M progs.length room base) {q k : Nat} {s : Seg} (hq : q < progs.length) (hs : (G q)[k]? = some s)
 {T : Int} {p1 b1 e1 : Nat} {Lr : List Item} {b2 e2 b3 e3 p2 : Nat} {Lw : List Item} (hB : Behind2 progs.length room base q s.items T p1 b1 e1 Lr b2 e2 b3 e3 p2 Lw)
 {t i : Nat} {u : Int} {b e : Nat} {x : Int} (hr : InLog progs C t i (.acc (1, base + (progs.length : Int) + (q : Int), u) b e x)) (h1 : e2 < b) (h2 : e ≤ nextLo H.length (G q) k) (he : e < H.length) : x = T := by
 have hcell : bakCells progs.length base (base + (progs.length : Int) + (q : Int)) := ⟨by omega, by omega⟩
 obtain ⟨o1, o2, o3, o4, o5, o6, o7, o8, o9, o10, o11, o12⟩ := hB.order (hG.seq q k s hq hs)
 obtain ⟨x1, x2, x3, heq⟩ := hB.eq
 have hNin : Item.acc (2, base + (progs.length : Int) + (q : Int), T) b2 e2 x2 ∈ s.items := by rw [heq]; simp
 obtain ⟨iN, hN⟩ := hG.inl q k s _ hq hs hNin
 have hw : ∀ t' i' v b' e' x', InLog progs C t' i' (.acc (2, base + (progs.length : Int) + (q : Int), v) b' e' x') → e' ≤ e2 ∨ e < b' := fun t' i' v b' e' x' hI => by
  obtain ⟨g1, j, s', g2, g3⟩ := bak_writes hL hG hI hcell
  have ht' : t' = q := by
   have := hI.1
   rcases g1 with g1 | g1
   · omega
   · omega
  subst ht'
  rcases hG.two hI.1 g2 hs g3 hNin with w | w | w
  · left; omega
  · right
    have h9 := (hG.le_next hL hI.1 g2 g3).1
    unfold nextLo at h2
    have hj : k + 1 ≤ j := w.1
    cases hk1 : (G t')[k + 1]? with
    | none =>
     have := (List.getElem?_eq_some_iff.1 g2).1
     rw [List.getElem?_eq_none_iff] at hk1
     omega
    | some s1 =>
     rw [hk1] at h2
     have h2 : e ≤ s1.lo := h2
     rcases Nat.lt_or_ge (k + 1) j with hlt | hge
     · have h8 := (hG.next t' (k + 1) j s1 s' hI.1 hlt hk1 g2).1
       have := (hG.seq t' (k + 1) s1 hI.1 hk1).le_last
       omega
     · obtain rfl : j = k + 1 := by omega
       rw [g2] at hk1; cases hk1
       omega
  · obtain ⟨rfl, rfl⟩ := w
    rw [heq] at g3
    rcases List.mem_cons.1 g3 with g | g
    · cases g
    rcases List.mem_cons.1 g with g | g
    · simp only [Item.acc.injEq, Prod.mk.injEq] at g; omega
    rcases List.mem_append.1 g with g | g
    · exact (hB.rr.noWrite g).elim
    rcases List.mem_cons.1 g with g | g
    · cases g; left; omega
    rcases List.mem_cons.1 g with g | g
    · simp only [Item.acc.injEq, Prod.mk.injEq] at g; omega
    rcases List.mem_cons.1 g with g | g
    · cases g
    · exact (hB.rw'.noWrite g).elim
 have hk := hC.num q hq
 have hx := hL.quiet hr he hk.1 fun t' i' v b' e' x' hI => (hw t' i' v b' e' x' hI).imp (fun h => by omega) id
 rw [hx, hL.wrote hN (p := b) h1 (by have := (hL.acc hr).2.2.1; omega) fun t' i' v b' e' x' hI => (hw t' i' v b' e' x' hI).imp id (fun h => by have := (hL.acc hI).2.2.1; have := (hL.acc hr).2.2.1; omega)]
 rw [hk.2]
 exact clampT_id T room (by have := hB.pos; omega) hB.room (by have := hC.room2; omega)
theorem bak_ch (hL : Logs M progs H C) (hG : Segs progs C (bakT progs.length room base loc F) (bakCells progs.length base) H.length G) (hC : BakCells M progs.length room base) {q k : Nat} {s : Seg} (hq : q < progs.length) (hs : (G q)[k]? = some s)
 {T : Int} {p1 b1 e1 : Nat} {Lr : List Item} {b2 e2 b3 e3 p2 : Nat} {Lw : List Item} (hB : Behind2 progs.length room base q s.items T p1 b1 e1 Lr b2 e2 b3 e3 p2 Lw)
 {t i : Nat} {u : Int} {b e : Nat} {x : Int} (hr : InLog progs C t i (.acc (1, base + (q : Int), u) b e x)) (h1 : e1 < b) (h2 : e < b3) : x = 1 := by
 have hcell : bakCells progs.length base (base + (q : Int)) := ⟨by omega, by omega⟩
 obtain ⟨o1, o2, o3, o4, o5, o6, o7, o8, o9, o10, o11, o12⟩ := hB.order (hG.seq q k s hq hs)
 obtain ⟨x1, x2, x3, heq⟩ := hB.eq
 have hNin : Item.acc (2, base + (q : Int), 1) b1 e1 x1 ∈ s.items := by rw [heq]; simp
 have hNin3 : Item.acc (2, base + (q : Int), 0) b3 e3 x3 ∈ s.items := by rw [heq]; simp
 obtain ⟨iN, hN⟩ := hG.inl q k s _ hq hs hNin
 obtain ⟨iN3, hN3⟩ := hG.inl q k s _ hq hs hNin3
 have he : e < H.length := by have := (hL.acc hN3).2.2; omega
 have hw : ∀ t' i' v b' e' x', InLog progs C t' i' (.acc (2, base + (q : Int), v) b' e' x') → e' ≤ e1 ∨ e < b' := fun t' i' v b' e' x' hI => by
  obtain ⟨g1, j, s', g2, g3⟩ := bak_writes hL hG hI hcell
  have ht' : t' = q := by
   have := hI.1
   rcases g1 with g1 | g1
   · omega
   · omega
  subst ht'
  rcases hG.two hI.1 g2 hs g3 hNin with w | w | w
  · left; omega
  · right
    rcases hG.two hI.1 g2 hs g3 hNin3 with w3 | w3 | w3
    · omega
    · omega
    · omega
  · obtain ⟨rfl, rfl⟩ := w
    rw [heq] at g3
    rcases List.mem_cons.1 g3 with g | g
    · cases g
    rcases List.mem_cons.1 g with g | g
    · cases g; left; omega
    rcases List.mem_append.1 g with g | g
    · exact (hB.rr.noWrite g).elim
    rcases List.mem_cons.1 g with g | g
    · simp only [Item.acc.injEq, Prod.mk.injEq] at g; omega
    rcases List.mem_cons.1 g with g | g
    · cases g; right; omega
    rcases List.mem_cons.1 g with g | g
    · cases g
    · exact (hB.rw'.noWrite g).elim
 have hk := hC.ch q hq
 have hx := hL.quiet hr he hk.1 fun t' i' v b' e' x' hI => (hw t' i' v b' e' x' hI).imp (fun h => by omega) id
 rw [hx, hL.wrote hN (p := b) h1 (by have := (hL.acc hr).2.2.1; omega) fun t' i' v b' e' x' hI => (hw t' i' v b' e' x' hI).imp id (fun h => by have := (hL.acc hI).2.2.1; have := (hL.acc hr).2.2.1; omega)]
 rw [hk.2]
 decide
theorem bak_in (hL : Logs M progs H C) (hG : Segs progs C (bakT progs.length room base loc F) (bakCells progs.length base) H.length G) {t k : Nat} {s : Seg} (ht : t < progs.length) (hs : (G t)[k]? = some s) (h0 : s.op = 0) :
 (∃ T p1 b1 e1 Lr b2 e2 b3 e3 p2 Lw, Behind2 progs.length room base t s.items T p1 b1 e1 Lr b2 e2 b3 e3 p2 Lw ∧ (∀ v, s.res = some v → v = 0 ∧ ∃ p3, Item.note 3 p3 ∈ Lw)) ∨
 ((∀ p, Item.note 2 p ∉ s.items) ∧ (∀ p, Item.note 3 p ∉ s.items) ∧ ∀ v, s.res = some v → v = 11) := by
 obtain ⟨loc', o, l, h1, h2⟩ := hG.path t k s ht hs
 unfold bakT at h1
 rw [if_pos h0] at h1
 rcases bakAcq_path h1 (hG.known hL ht hs) with ⟨T, p1, b1, e1, Lr, b2, e2, b3, e3, p2, Lw, g1, g2⟩ | ⟨g1, g2, g3⟩
 · exact .inl ⟨T, p1, b1, e1, Lr, b2, e2, b3, e3, p2, Lw, g1, fun v hv => g2 v (h2 v hv)⟩
 · exact .inr ⟨g1, g2, fun v hv => g3 v (h2 v hv)⟩
theorem passB_true {t : Int} {lt : Bool} {x : Int} (h : passB t lt x = true) : x = 0 ∨ t < x ∨ (x = t ∧ lt = false) := by
 unfold passB at h
 by_cases h1 : x = 0
 · exact .inl h1
 by_cases h2 : x ≤ t
 · by_cases h3 : x = t
   · cases lt with
     | false => exact .inr (.inr ⟨h3, rfl⟩)
     | true => simp [h1, h2] at h
   · simp [h1, h2, h3] at h
 · exact .inr (.inl (by omega))
theorem bak_less (hL : Logs M progs H C) (hG : Segs progs C (bakT progs.length room base loc F) (bakCells progs.length base) H.length G) (hC : BakCells M progs.length room base) {t t' k k' : Nat} {s s' : Seg} (ht : t < progs.length) (ht' : t' < progs.length) (hne : t' ≠ t) (hs : (G t)[k]? = some s) (hs' : (G t')[k']? = some s')
 {T : Int} {p1 b1 e1 : Nat} {Lr : List Item} {b2 e2 b3 e3 p2 : Nat} {Lw : List Item} (hB : Behind2 progs.length room base t s.items T p1 b1 e1 Lr b2 e2 b3 e3 p2 Lw) {p3 : Nat} (hn3 : Item.note 3 p3 ∈ Lw)
 {T' : Int} {p1' b1' e1' : Nat} {Lr' : List Item} {b2' e2' b3' e3' p2' : Nat} {Lw' : List Item} (hB' : Behind2 progs.length room base t' s'.items T' p1' b1' e1' Lr' b2' e2' b3' e3' p2' Lw')
 (h1 : lastP s.lo s.items < nextLo H.length (G t') k') (h2 : lastP s'.lo s'.items < nextLo H.length (G t) k) : T < T' ∨ (T = T' ∧ t < t') := by
 obtain ⟨o1, o2, o3, o4, o5, o6, o7, o8, o9, o10, o11, o12⟩ := hB.order (hG.seq t k s ht hs)
 obtain ⟨o1', o2', o3', o4', o5', o6', o7', o8', o9', o10', o11', o12'⟩ := hB'.order (hG.seq t' k' s' ht' hs')
 obtain ⟨x1, x2, x3, heq⟩ := hB.eq
 obtain ⟨x1', x2', x3', heq'⟩ := hB'.eq
 obtain ⟨A, b, e, B, b', e', x', D, hLw, hpass⟩ := hB.pass p3 hn3 t' ht' hne
 rw [hLw] at o10
 obtain ⟨z1, z2, z3, z4⟩ := Seq.append.1 o10
 obtain ⟨z5, z6, z7, z8⟩ := Seq.append.1 z4
 have zA := Seq.le_last (L := A) z1
 have zB := Seq.le_last (L := B) z5
 have hRin : Item.acc (1, base + (t' : Int), 0) b e 0 ∈ Lw := by rw [hLw]; simp
 have hQin : Item.acc (1, base + (progs.length : Int) + (t' : Int), 0) b' e' x' ∈ Lw := by rw [hLw]; simp
 have hin : ∀ it, it ∈ Lw → it ∈ s.items := fun it hm => by rw [heq]; simp [hm]
 obtain ⟨iR, hR⟩ := hG.inl t k s _ ht hs (hin _ hRin)
 obtain ⟨iQ, hQ⟩ := hG.inl t k s _ ht hs (hin _ hQin)
 have hRo := o11 _ _ _ _ hRin
 have hQo := o11 _ _ _ _ hQin
 have hnl' := hG.nextLe ht' k'
 have hnl := hG.nextLe ht k
 have zD : e' ≤ lastP s.lo s.items := hQo.2.2
 by_cases hcase : b ≤ e1'
 · -- t looked at the other's bit ahead of its raising: the other one reads t's number
   obtain ⟨br, er, xr, g1, g2⟩ := hB'.max t ht hne.symm
   have hrin : Item.acc (1, base + (progs.length : Int) + (t : Int), 0) br er xr ∈ s'.items := by rw [heq']; simp [g1]
   obtain ⟨ir, hr⟩ := hG.inl t' k' s' _ ht' hs' hrin
   obtain ⟨w1, w2, w3⟩ := o3' _ _ _ _ g1
   have w4 := ((hG.seq t' k' s' ht' hs').acc hrin).2.2
   have := bak_num hL hG hC ht hs hB hr (by omega) (by omega) (by omega)
   left; omega
 · -- it was up, or is down again
   have hb3 : b3' ≤ e := by
    rcases Nat.lt_or_ge e b3' with h | h
    · have := bak_ch hL hG hC ht' hs' hB' hR (by omega) h
      omega
    · exact h
   have hx := bak_num hL hG hC ht' hs' hB' hQ (by omega) (by omega) (by omega)
   have hp := hB'.pos
   rcases passB_true hpass with h | h | ⟨h, h9⟩
   · omega
   · left; omega
   · right
     have := of_decide_eq_false h9
     omega
theorem bak_alone (hL : Logs M progs H C) (hG : Segs progs C (bakT progs.length room base loc F) (bakCells progs.length base) H.length G) (hC : BakCells M progs.length room base) {t t' k k' : Nat} {s s' : Seg} (ht : t < progs.length) (ht' : t' < progs.length) (hne : t' ≠ t) (hs : (G t)[k]? = some s) (hs' : (G t')[k']? = some s')
 (h0 : s.op = 0) (h0' : s'.op = 0) (hr : s.res = some 0) (hr' : s'.res = some 0) (h1 : lastP s.lo s.items < nextLo H.length (G t') k') (h2 : lastP s'.lo s'.items < nextLo H.length (G t) k) : False := by
 rcases bak_in hL hG ht hs h0 with ⟨T, p1, b1, e1, Lr, b2, e2, b3, e3, p2, Lw, hB, hv⟩ | ⟨_, _, hv⟩
 · rcases bak_in hL hG ht' hs' h0' with ⟨T', p1', b1', e1', Lr', b2', e2', b3', e3', p2', Lw', hB', hv'⟩ | ⟨_, _, hv'⟩
   · obtain ⟨p3, hp3⟩ := (hv 0 hr).2
     obtain ⟨p3', hp3'⟩ := (hv' 0 hr').2
     have q1 := bak_less hL hG hC ht ht' hne hs hs' hB hp3 hB' h1 h2
     have q2 := bak_less hL hG hC ht' ht hne.symm hs' hs hB' hp3' hB h2 h1
     omega
   · exact absurd (hv' 0 hr') (by decide)
 · exact absurd (hv 0 hr) (by decide)
theorem bak_doors (hL : Logs M progs H C) (hG : Segs progs C (bakT progs.length room base loc F) (bakCells progs.length base) H.length G) (hC : BakCells M progs.length room base) {t q k j : Nat} {s s' : Seg} (ht : t < progs.length) (hq : q < progs.length) (hne : q ≠ t) (hs : (G t)[k]? = some s) (hs' : (G q)[j]? = some s')
 (h0 : s.op = 0) (h0' : s'.op = 0) {p2' p3 : Nat} (hn2 : Item.note 2 p2' ∈ s'.items) (hlo : p2' < s.lo) (hn3 : Item.note 3 p3 ∈ s.items) (hw : ∀ p, Item.note 3 p ∈ s'.items → p3 < p) : False := by
 rcases bak_in hL hG ht hs h0 with ⟨T, p1, b1, e1, Lr, b2, e2, b3, e3, p2, Lw, hB, hv⟩ | ⟨_, hno, _⟩
 · rcases bak_in hL hG hq hs' h0' with ⟨T', q1, b1', e1', Lr', b2', e2', b3', e3', q2, Lw', hB', hv'⟩ | ⟨hno, _⟩
   · obtain ⟨o1, o2, o3, o4, o5, o6, o7, o8, o9, o10, o11, o12⟩ := hB.order (hG.seq t k s ht hs)
     obtain ⟨o1', o2', o3', o4', o5', o6', o7', o8', o9', o10', o11', o12'⟩ := hB'.order (hG.seq q j s' hq hs')
     obtain ⟨x1, x2, x3, heq⟩ := hB.eq
     obtain ⟨x1', x2', x3', heq'⟩ := hB'.eq
     have noN : ∀ (L : List Item) ks k p, ReadsN L ks → Item.note k p ∈ L → k ∈ ks := fun L ks k p h hm => by
      rcases h _ hm with ⟨_, _, _, _, _, e⟩ | ⟨k', p', e, h9⟩
      · cases e
      · cases e; exact h9
     have hn3' : Item.note 3 p3 ∈ Lw := by
      rw [heq] at hn3
      rcases List.mem_cons.1 hn3 with g | g
      · cases g
      rcases List.mem_cons.1 g with g | g
      · cases g
      rcases List.mem_append.1 g with g | g
      · cases noN _ _ _ _ hB.rr g
      rcases List.mem_cons.1 g with g | g
      · cases g
      rcases List.mem_cons.1 g with g | g
      · cases g
      rcases List.mem_cons.1 g with g | g
      · cases g
      · exact g
     have hq2 : p2' = q2 := by
      rw [heq'] at hn2
      rcases List.mem_cons.1 hn2 with g | g
      · cases g
      rcases List.mem_cons.1 g with g | g
      · cases g
      rcases List.mem_append.1 g with g | g
      · cases noN _ _ _ _ hB'.rr g
      rcases List.mem_cons.1 g with g | g
      · cases g
      rcases List.mem_cons.1 g with g | g
      · cases g
      rcases List.mem_cons.1 g with g | g
      · cases g; rfl
      · have := noN _ _ _ _ hB'.rw' g
        simp at this
     subst hq2
     have hp3H : p3 < H.length := by
      obtain ⟨i, _, c, hc, hm⟩ := hG.inl t k s _ ht hs hn3
      obtain ⟨now, h9⟩ := (hL.call t ht i c hc).note 3 p3 hm
      exact (List.getElem?_eq_some_iff.1 h9).1
     have hnext : p3 ≤ nextLo H.length (G q) j := by
      unfold nextLo
      cases g : (G q)[j + 1]? with
      | none => exact Nat.le_of_lt hp3H
      | some s1 =>
       obtain ⟨g1, v, g2⟩ := hG.next q j (j + 1) s' s1 hq (by omega) hs' g
       obtain ⟨_, p, hp⟩ := hv' v g2
       have h8 := hw p (by rw [heq']; simp [hp])
       have h7 := (o12' 3 p hp).2
       show p3 ≤ s1.lo
       omega
     obtain ⟨br, er, xr, g1, g2⟩ := hB.max q hq hne
     have hrin : Item.acc (1, base + (progs.length : Int) + (q : Int), 0) br er xr ∈ s.items := by rw [heq]; simp [g1]
     obtain ⟨ir, hr⟩ := hG.inl t k s _ ht hs hrin
     obtain ⟨w1, w2, w3⟩ := o3 _ _ _ _ g1
     have w4 := (o12 3 p3 hn3').1
     have e1 := bak_num hL hG hC hq hs' hB' hr (by omega) (by omega) (by omega)
     have hstay := hB.pass p3 hn3' q hq hne
     obtain ⟨A, b, e, B, b', e', x', D, hLw, hpass⟩ := hstay
     have hQin : Item.acc (1, base + (progs.length : Int) + (q : Int), 0) b' e' x' ∈ Lw := by rw [hLw]; simp
     have hlast := hB.last3 hn3' hQin (hG.seq t k s ht hs)
     obtain ⟨iQ, hQ⟩ := hG.inl t k s _ ht hs (show Item.acc (1, base + (progs.length : Int) + (q : Int), 0) b' e' x' ∈ s.items by rw [heq]; simp [hQin])
     have hQo := o11 _ _ _ _ hQin
     have e2 := bak_num hL hG hC hq hs' hB' hQ (by omega) (by omega) (by omega)
     have hp := hB'.pos
     rcases passB_true hpass with h | h | ⟨h, h9⟩ <;> omega
   · exact absurd hn2 (hno _)
 · exact absurd hn3 (hno _)
end
end Go.Proofs.YtpodgcpkccpnfaaGreat

