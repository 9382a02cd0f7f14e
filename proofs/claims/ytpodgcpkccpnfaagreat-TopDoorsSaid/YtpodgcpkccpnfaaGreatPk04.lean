/-
  Parts of a proof, packed: RunP, LogF, SegP, OneP
-/
import Derived.Test.YtpodgcpkccpnfaaGreatPk01
import Derived.Test.YtpodgcpkccpnfaaGreatPk03
set_option linter.unusedVariables false
set_option linter.unusedSimpArgs false
set_option maxRecDepth 20000
set_option maxHeartbeats 16000000
namespace Go.Proofs.YtpodgcpkccpnfaaGreat
open Go.RowKit
variable (M : MD)
def begA (t : Nat) (S : WD) : List Atom := if (bankB M t S).1 = 0 then [⟨S.now, t, (S.ths t).next, .beg (S.ths t).acc⟩] else []
def pickA (t : Nat) (S : WD) : List Atom :=
 if S.n ≤ t then []
 else if (S.ths t).halted = true then []
 else if (S.ths t).st = 0 then (if (S.ths t).prog.length ≤ (S.ths t).next then [] else ⟨S.now + 1, t, (S.ths t).next, .call⟩ :: (playA M t (S.now + 1) (S.ths t) ++ (if ((playS M t S.tick).ths t).st = 1 then begA M t (playS M t S.tick) else [])))
 else if (S.ths t).st = 1 then begA M t S.tick
 else ⟨S.now + 1, t, (S.ths t).next, .fin (S.ths t).acc (S.bank.endA M.fresh t (drawV M t S.tick)).1⟩ :: playA M t (S.now + 1) ((endS M t S.tick).ths t)
def haltA (t : Nat) (S : WD) : List Atom := if S.n ≤ t ∨ (S.ths t).halted = true then [] else [⟨S.now, t, (S.ths t).next, .halt⟩]
def timesA (t : Nat) : Nat → WD → List Atom
 | 0, S => []
 | k + 1, S => timesA t k S ++ pickA M t (timesS M t k S).1
def stepA (p : PickD) (S : WD) : List Atom := if p.halt = true then haltA p.thread.toNat S else timesA M p.thread.toNat p.times.toNat S
def runA (ps : List PickD) : Nat → WD → List Atom
 | 0, S => []
 | k + 1, S => runA ps k S ++ stepA M (ps.getD k ⟨0, 0, true⟩) (runP M ps k S).1
def vis (A : Atom) : Option EvD := match A.w with
 | .call => some ⟨A.now, 1, A.t, A.i, 0, 0, 0⟩
 | .note k => some ⟨A.now, 3, A.t, A.i, k, 0, 0⟩
 | .ret e v => some ⟨A.now, 2, A.t, A.i, 0, e, v⟩
 | .halt => some ⟨A.now, 4, A.t, A.i, 0, 0, 0⟩
 | .beg _ => none
 | .fin _ _ => none
theorem vis_play (t : Nat) (S : WD) : playE M t S = (playA M t S.now (S.ths t)).filterMap vis := by
 unfold playE playA
 rw [List.filterMap_append]
 congr 1
 · rw [List.filterMap_map]
   induction (playO M t (S.ths t)).2.nts.drop (S.ths t).nts with
   | nil => rfl
   | cons k ks ih => rw [List.map_cons, ih]; rfl
 · cases (playO M t (S.ths t)).1 with
   | none => rfl
   | some v => rfl
theorem vis_begA (t : Nat) (S : WD) : (begA M t S).filterMap vis = [] := by unfold begA; split <;> rfl
theorem vis_pick (t : Nat) (S : WD) : pickE M t S = (pickA M t S).filterMap vis := by
 unfold pickE pickA
 split
 · rfl
 split
 · rfl
 split
 · split
   · rfl
   · rw [vis_play]
     show _ = callEv t S.tick :: (List.filterMap vis (_ ++ _))
     rw [List.filterMap_append]
     have : (if ((playS M t S.tick).ths t).st = 1 then begA M t (playS M t S.tick) else []).filterMap vis = [] := by
      split
      · exact vis_begA M t _
      · rfl
     rw [this, List.append_nil]
     rfl
 split
 · exact (vis_begA M t _).symm
 · rw [vis_play]; rfl
theorem vis_halt (t : Nat) (S : WD) : haltE t S = (haltA t S).filterMap vis := by
 unfold haltE haltA
 split <;> rfl
theorem vis_times (t : Nat) (S : WD) : ∀ k, (timesS M t k S).2 = (timesA M t k S).filterMap vis
 | 0 => rfl
 | k + 1 => by
  show (timesS M t k S).2 ++ pickE M t _ = (timesA M t k S ++ pickA M t _).filterMap vis
  rw [List.filterMap_append, vis_times t S k, vis_pick]
theorem vis_step (p : PickD) (S : WD) : (stepP M p S).2 = (stepA M p S).filterMap vis := by
 unfold stepP stepA
 split
 · exact vis_halt _ _
 · exact vis_times M _ _ _
theorem vis_run (ps : List PickD) (S : WD) : ∀ k, (runP M ps k S).2 = (runA M ps k S).filterMap vis
 | 0 => rfl
 | k + 1 => by
  show (runP M ps k S).2 ++ _ = (runA M ps k S ++ _).filterMap vis
  rw [List.filterMap_append, vis_run ps S k, vis_step]
def OrdH (H : List Atom) : Prop := ∀ (p q : Nat) (A B : Atom), p < q → H[p]? = some A → H[q]? = some B → A.now ≤ B.now ∧ (A.t ≠ B.t → B.w ≠ .halt → A.now < B.now)
theorem OrdH.append {H X : List Atom} {m N t : Nat} (h : OrdH H) (hm : ∀ (p : Nat) (A : Atom), H[p]? = some A → A.now ≤ m) (hX : ∀ A, A ∈ X → A.now = N ∧ A.t = t) (hN : m ≤ N) (hh : m < N ∨ ∀ A, A ∈ X → A.w = .halt) : OrdH (H ++ X) := fun p q A B hpq hA hB => by
 rcases Nat.lt_or_ge q H.length with hq | hq
 · exact h p q A B hpq (getE_back hA (by omega)) (getE_back hB hq)
 · rw [List.getElem?_append_right hq] at hB
   have hBX := List.mem_of_getElem? hB
   obtain ⟨b1, b2⟩ := hX B hBX
   rcases Nat.lt_or_ge p H.length with hp | hp
   · have := hm p A (getE_back hA hp)
     refine ⟨by omega, fun _ hw => ?_⟩
     rcases hh with hh | hh
     · omega
     · exact absurd (hh B hBX) hw
   · rw [List.getElem?_append_right hp] at hA
     obtain ⟨a1, a2⟩ := hX A (List.mem_of_getElem? hA)
     exact ⟨by omega, fun e _ => absurd (a2.trans b2.symm) e⟩
theorem BankOK.others {M : MD} {B : BS} {pend : Nat → Option (Nat × AD)} : ∀ (X H : List Atom), BankOK M H B pend → (∀ A, A ∈ X → A.w.isFin = false) → BankOK M (H ++ X) B pend
 | [], H, h, _ => by rw [List.append_nil]; exact h
 | A :: X, H, h, hX => by
  have := BankOK.others X (H ++ [A]) (h.other A (hX A (.head _))) fun A' hA => hX A' (.tail _ hA)
  rwa [List.append_assoc] at this
def pendPh (n : Nat) (ph : Nat → Ph) : Nat → Option (Nat × AD) := fun t => if t < n then (ph t).pend else none
def upd {α : Type} (f : Nat → α) (t : Nat) (x : α) : Nat → α := fun i => if i = t then x else f i
theorem upd_same {α : Type} (f : Nat → α) (t : Nat) (x : α) : upd f t x t = x := if_pos rfl
theorem upd_other {α : Type} (f : Nat → α) {t i : Nat} (x : α) (h : i ≠ t) : upd f t x i = f i := if_neg h
theorem pendPh_upd {n t : Nat} (ph : Nat → Ph) (x : Ph) (ht : t < n) : pendPh n (upd ph t x) = pendSet (pendPh n ph) t x.pend := by
 funext i
 unfold pendPh pendSet upd
 by_cases e : i = t
 · subst e; rw [if_pos ht, if_pos rfl, if_pos rfl]
 · rw [if_neg e, if_neg e]
structure GInv (M : MD) (progs : List (List CD)) (S : WD) (H : List Atom) : Prop where
 n : S.n = progs.length
 n8 : S.n ≤ 8
 ex : ∃ (cs : Nat → List GC) (cur : Nat → Option GC) (ph : Nat → Ph), (∀ t, t < S.n → TInv M progs H t (S.ths t) (cs t) (cur t) (ph t) ∧ ∀ o l, ph t ≠ .mid o l) ∧ BankOK M H S.bank (pendPh S.n ph)
 lt : ∀ (p : Nat) (A : Atom), H[p]? = some A → A.t < S.n
 now : ∀ (p : Nat) (A : Atom), H[p]? = some A → A.now ≤ S.now
 ord : OrdH H
theorem GInv.mk' {M : MD} {progs : List (List CD)} {S S' : WD} {H X : List Atom} (h : GInv M progs S H) {t N : Nat} (ht : t < S.n) (hn : S'.n = S.n) (hN : S.now ≤ N) (hN2 : N ≤ S'.now) (hX : ∀ A, A ∈ X → A.now = N ∧ A.t = t) (hh : S.now < N ∨ ∀ A, A ∈ X → A.w = .halt)
 (hex : ∃ (cs : Nat → List GC) (cur : Nat → Option GC) (ph : Nat → Ph), (∀ t, t < S.n → TInv M progs (H ++ X) t (S'.ths t) (cs t) (cur t) (ph t) ∧ ∀ o l, ph t ≠ .mid o l) ∧ BankOK M (H ++ X) S'.bank (pendPh S.n ph)) : GInv M progs S' (H ++ X) := by
 refine ⟨hn.trans h.n, by rw [hn]; exact h.n8, by rw [hn]; exact hex, fun p A hA => ?_, fun p A hA => ?_, h.ord.append h.now hX hN hh⟩
 · rw [hn]
   rcases Nat.lt_or_ge p H.length with hp | hp
   · exact h.lt p A (getE_back hA hp)
   · rw [List.getElem?_append_right hp] at hA
     rw [(hX A (List.mem_of_getElem? hA)).2]; exact ht
 · rcases Nat.lt_or_ge p H.length with hp | hp
   · have := h.now p A (getE_back hA hp); omega
   · rw [List.getElem?_append_right hp] at hA
     rw [(hX A (List.mem_of_getElem? hA)).1]; exact hN2
theorem put_same (S : WD) (t : Nat) (th : ThD) : (S.put t th).ths t = th := if_pos rfl
theorem put_other (S : WD) {t i : Nat} (th : ThD) (h : i ≠ t) : (S.put t th).ths i = S.ths i := if_neg h
theorem playA_all (t now : Nat) (th : ThD) : ∀ A, A ∈ playA M t now th → A.now = now ∧ A.t = t ∧ A.w.isFin = false := fun A hA => by
 unfold playA at hA
 rcases List.mem_append.1 hA with hA | hA
 · obtain ⟨k, _, rfl⟩ := List.mem_map.1 hA
   exact ⟨rfl, rfl, rfl⟩
 · cases e : (playO M t th).1 with
   | none => rw [e] at hA; cases hA
   | some v => rw [e] at hA; rw [List.mem_singleton] at hA; subst hA; exact ⟨rfl, rfl, rfl⟩
theorem begin_ok {M : MD} {progs : List (List CD)} {H : List Atom} {S : WD} {t : Nat} {cs : List GC} {cur : Option GC} {a : AD} {k : Int → Op RD} {l : List Int} {pend : Nat → Option (Nat × AD)} (h : TInv M progs H t (S.ths t) cs cur (.asked a k l)) (hB : BankOK M H S.bank pend) (ht : t < 8) (hp : pend t = none) :
 ∃ ph', TInv M progs (H ++ begA M t S) t ((beginS M t S).ths t) cs cur ph' ∧ (∀ o l, ph' ≠ .mid o l) ∧ BankOK M (H ++ begA M t S) (beginS M t S).bank (pendSet pend t ph'.pend) := by
 have hacc : (S.ths t).acc = a := h.stat.2.1
 by_cases h0 : (bankB M t S).1 = 0
 · have e1 : begA M t S = [⟨S.now, t, (S.ths t).next, .beg a⟩] := by unfold begA; rw [if_pos h0, hacc]
   have e2 : beginS M t S = { S.put t { S.ths t with st := 2 } with bank := (bankB M t S).2 } := by unfold beginS; rw [if_pos h0]
   have hb : BankOK M (H ++ [⟨S.now, t, (S.ths t).next, .beg a⟩]) (bankB M t S).2 (pendSet pend t (some (H.length, a))) := by
    have := hB.begins ht hp a.1 a.2.1 a.2.2 S.now (S.ths t).next (by unfold bankB at h0; rw [hacc] at h0; exact h0)
    unfold bankB; rw [hacc]; exact this
   have hk : a.1 = 1 ∨ a.1 = 2 := (hb.at' t H.length a ht (by unfold pendSet; rw [if_pos rfl])).2.1
   rw [e1, e2]
   refine ⟨.begun a k l H.length, ?_, fun o l e => (by cases e), hb⟩
   show TInv M progs _ t ((S.put t { S.ths t with st := 2 }).ths t) cs cur _
   rw [put_same]; exact h.beg hk S.now
 · have e1 : begA M t S = [] := by unfold begA; rw [if_neg h0]
   have e2 : beginS M t S = S := by unfold beginS; rw [if_neg h0]
   rw [e1, e2, List.append_nil]
   refine ⟨.asked a k l, h, fun o l e => (by cases e), ?_⟩
   have : pendSet pend t (Ph.asked a k l).pend = pend := by
    funext i; unfold pendSet
    by_cases e : i = t
    · subst e; rw [if_pos rfl, hp]; rfl
    · rw [if_neg e]
   rw [this]; exact hB
theorem GInv.tick {M : MD} {progs : List (List CD)} {S : WD} {H : List Atom} (h : GInv M progs S H) : GInv M progs S.tick H :=
 ⟨h.n, h.n8, h.ex, h.lt, fun p A hA => Nat.le_succ_of_le (h.now p A hA), h.ord⟩
theorem begA_all (t : Nat) (S : WD) : ∀ A, A ∈ begA M t S → A.now = S.now ∧ A.t = t := fun A hA => by
 unfold begA at hA
 split at hA
 · rw [List.mem_singleton] at hA; subst hA; exact ⟨rfl, rfl⟩
 · cases hA
theorem GInv.pick {M : MD} {progs : List (List CD)} {S : WD} {H : List Atom} (h : GInv M progs S H) (t : Nat) : GInv M progs (pickS M t S) (H ++ pickA M t S) := by
 by_cases htn : S.n ≤ t
 · unfold pickS pickA; rw [if_pos htn, if_pos htn, List.append_nil]; exact h
 have ht : t < S.n := by omega
 have ht8 : t < 8 := by have := h.n8; omega
 by_cases hha : (S.ths t).halted = true
 · unfold pickS pickA; rw [if_neg htn, if_neg htn, if_pos hha, if_pos hha, List.append_nil]; exact h.tick
 obtain ⟨cs, cur, ph, h1, h2⟩ := h.ex
 obtain ⟨hT, hnm⟩ := h1 t ht
 have hothers : ∀ (X : List Atom) (i : Nat), (∀ A, A ∈ X → A.t = t) → i < S.n → i ≠ t → TInv M progs (H ++ X) i (S.ths i) (cs i) (cur i) (ph i) := fun X i hX hi hne => (h1 i hi).1.grow X fun A hA => by rw [hX A hA]; exact Ne.symm hne
 have done : ∀ (S' : WD) (X : List Atom) (cs' : List GC) (cur' : Option GC) (ph' : Ph), S'.n = S.n → S'.now = S.now + 1 → (∀ i, i ≠ t → S'.ths i = S.ths i) → (∀ A, A ∈ X → A.now = S.now + 1 ∧ A.t = t) → TInv M progs (H ++ X) t (S'.ths t) cs' cur' ph' → (∀ o l, ph' ≠ .mid o l) →
  BankOK M (H ++ X) S'.bank (pendSet (pendPh S.n ph) t ph'.pend) → GInv M progs S' (H ++ X) := fun S' X cs' cur' ph' g1 g2 g3 g4 g5 g6 g7 => by
  refine h.mk' ht g1 (N := S.now + 1) (by omega) (by omega) g4 (.inl (by omega)) ⟨upd cs t cs', upd cur t cur', upd ph t ph', fun i hi => ?_, ?_⟩
  · by_cases e : i = t
    · subst e; rw [upd_same, upd_same, upd_same]; exact ⟨g5, g6⟩
    · rw [upd_other _ _ e, upd_other _ _ e, upd_other _ _ e, g3 i e]; exact ⟨hothers X i (fun A hA => (g4 A hA).2) hi e, (h1 i hi).2⟩
  · rw [pendPh_upd ph ph' ht]; exact g7
 obtain ⟨phv, hphv⟩ : ∃ x, ph t = x := ⟨_, rfl⟩
 rw [hphv] at hT hnm
 have hpt : pendPh S.n ph t = phv.pend := by unfold pendPh; rw [if_pos ht, hphv]
 have hpn : phv.pend = none → pendSet (pendPh S.n ph) t none = pendPh S.n ph := fun e => by
  funext i; unfold pendSet
  by_cases e2 : i = t
  · subst e2; rw [if_pos rfl, hpt, e]
  · rw [if_neg e2]
 cases phv with
 | mid o l => exact absurd rfl (hnm o l)
 | idle =>
  have hst : (S.ths t).st = 0 := hT.stat.2.1
  by_cases hnx : (S.ths t).prog.length ≤ (S.ths t).next
  · unfold pickS pickA; rw [if_neg htn, if_neg htn, if_neg hha, if_neg hha, if_pos hst, if_pos hst, if_pos hnx, if_pos hnx, List.append_nil]; exact h.tick
  have eS : pickS M t S = idleS M t S.tick := by unfold pickS; rw [if_neg htn, if_neg hha, if_pos hst, if_neg hnx]
  have eA : pickA M t S = ⟨S.now + 1, t, (S.ths t).next, .call⟩ :: (playA M t (S.now + 1) (S.ths t) ++ (if ((playS M t S.tick).ths t).st = 1 then begA M t (playS M t S.tick) else [])) := by unfold pickA; rw [if_neg htn, if_neg hha, if_pos hst, if_neg hnx]
  obtain ⟨cur1, hC⟩ := hT.call (by omega) (S.now + 1)
  obtain ⟨cs2, cur2, ph2, hP, hor⟩ := hC.plays (S.now + 1)
  have hbank : BankOK M (H ++ [⟨S.now + 1, t, (S.ths t).next, .call⟩] ++ playA M t (S.now + 1) (S.ths t)) S.bank (pendPh S.n ph) := (h2.other _ rfl).others _ _ fun A hA => (playA_all M t _ _ A hA).2.2
  have eP : (playS M t S.tick).ths t = playT M t (S.ths t) := put_same _ _ _
  have hXall : ∀ A, A ∈ (⟨S.now + 1, t, (S.ths t).next, .call⟩ : Atom) :: playA M t (S.now + 1) (S.ths t) → A.now = S.now + 1 ∧ A.t = t := fun A hA => by
   rcases List.mem_cons.1 hA with rfl | hA
   · exact ⟨rfl, rfl⟩
   · exact ⟨(playA_all M t _ _ A hA).1, (playA_all M t _ _ A hA).2.1⟩
  have eH : H ++ [⟨S.now + 1, t, (S.ths t).next, .call⟩] ++ playA M t (S.now + 1) (S.ths t) = H ++ (⟨S.now + 1, t, (S.ths t).next, .call⟩ :: playA M t (S.now + 1) (S.ths t)) := by simp
  rw [eH] at hP hbank
  rcases hor with ⟨rfl, hs0⟩ | ⟨a, k, l', rfl, hs1⟩
  · have e1 : ¬ ((playS M t S.tick).ths t).st = 1 := by rw [eP, hs0]; decide
    rw [eA, if_neg e1, List.append_nil, eS]
    have e2 : idleS M t S.tick = playS M t S.tick := by unfold idleS; rw [if_neg e1]
    rw [e2]
    refine done _ _ cs2 cur2 .idle rfl rfl (fun i hi => put_other _ _ hi) hXall (by rw [eP]; exact hP) (fun o l e => (by cases e)) ?_
    rw [show Ph.idle.pend = none from rfl, hpn rfl]; exact hbank
  · have e1 : ((playS M t S.tick).ths t).st = 1 := by rw [eP, hs1]
    rw [eA, if_pos e1, eS]
    have e2 : idleS M t S.tick = beginS M t (playS M t S.tick) := by unfold idleS; rw [if_pos e1]
    rw [e2]
    rw [← eP] at hP
    obtain ⟨ph3, q1, q2, q3⟩ := begin_ok (S := playS M t S.tick) hP hbank ht8 hpt
    rw [List.append_assoc] at q1 q3
    refine done _ _ cs2 cur2 ph3 ?_ ?_ (fun i hi => ?_) (fun A hA => ?_) q1 q2 q3
    · unfold beginS; split <;> rfl
    · unfold beginS; split <;> rfl
    · have : (beginS M t (playS M t S.tick)).ths i = (playS M t S.tick).ths i := by
       unfold beginS; split
       · exact put_other _ _ hi
       · rfl
      rw [this]; exact put_other _ _ hi
    · rcases List.mem_append.1 (show A ∈ (_ :: _) ++ _ from hA) with hA | hA
      · exact hXall A hA
      · exact begA_all M t _ A hA
 | asked a k l =>
  have hst : (S.ths t).st = 1 := hT.stat.1
  have eS : pickS M t S = beginS M t S.tick := by unfold pickS; rw [if_neg htn, if_neg hha, if_neg (by rw [hst]; decide), if_pos hst]
  have eA : pickA M t S = begA M t S.tick := by unfold pickA; rw [if_neg htn, if_neg hha, if_neg (by rw [hst]; decide), if_pos hst]
  rw [eS, eA]
  obtain ⟨ph3, q1, q2, q3⟩ := begin_ok (S := S.tick) hT h2 ht8 hpt
  refine done _ _ (cs t) (cur t) ph3 ?_ ?_ (fun i hi => ?_) (begA_all M t S.tick) q1 q2 q3
  · unfold beginS; split <;> rfl
  · unfold beginS; split <;> rfl
  · unfold beginS; split
    · exact put_other _ _ hi
    · rfl
 | begun a k l b =>
  have hst : (S.ths t).st = 2 := hT.stat.1
  have hacc : (S.ths t).acc = a := hT.stat.2.1
  have eS : pickS M t S = playS M t (endS M t S.tick) := by unfold pickS; rw [if_neg htn, if_neg hha, if_neg (by rw [hst]; decide), if_neg (by rw [hst]; decide)]
  obtain ⟨x, hx⟩ : ∃ x, (S.bank.endA M.fresh t (drawV M t S.tick)).1 = x := ⟨_, rfl⟩
  have eE : (endS M t S.tick).ths t = { S.ths t with ans := (S.ths t).ans ++ [x], accs := (S.ths t).accs + 1 } := by
   rw [← hx]; exact put_same _ _ _
  have eA : pickA M t S = ⟨S.now + 1, t, (S.ths t).next, .fin a x⟩ :: playA M t (S.now + 1) ((endS M t S.tick).ths t) := by unfold pickA; rw [if_neg htn, if_neg hha, if_neg (by rw [hst]; decide), if_neg (by rw [hst]; decide), hacc, hx]
  obtain ⟨b1, b2⟩ := h2.ends ht8 (hpt.trans rfl) (drawV M t S.tick) (S.now + 1) (S.ths t).next
  rw [hx] at b1 b2
  obtain ⟨cur1, hF⟩ := hT.fins x b2 (S.now + 1)
  rw [← eE] at hF
  obtain ⟨cs2, cur2, ph2, hP, hor⟩ := hF.plays (S.now + 1)
  have hb3 := b1.others (playA M t (S.now + 1) ((endS M t S.tick).ths t)) _ fun A hA => (playA_all M t _ _ A hA).2.2
  have enx : ((endS M t S.tick).ths t).next = (S.ths t).next := by rw [eE]
  have eP : (playS M t (endS M t S.tick)).ths t = playT M t ((endS M t S.tick).ths t) := put_same _ _ _
  rw [List.append_assoc] at hP hb3
  rw [eS, eA]
  have hnone : ph2.pend = none := by rcases hor with ⟨rfl, _⟩ | ⟨a, k, l', rfl, _⟩ <;> rfl
  refine done _ _ cs2 cur2 ph2 rfl rfl (fun i hi => ?_) (fun A hA => ?_) (by rw [eP]; exact hP) (fun o l e => ?_) (by rw [hnone]; exact hb3)
  · rw [show (playS M t (endS M t S.tick)).ths i = (endS M t S.tick).ths i from put_other _ _ hi]
    exact put_other _ _ hi
  · rcases List.mem_cons.1 hA with rfl | hA
    · exact ⟨rfl, rfl⟩
    · exact ⟨(playA_all M t _ _ A hA).1, (playA_all M t _ _ A hA).2.1⟩
  · rcases hor with ⟨rfl, _⟩ | ⟨a, k, l', rfl, _⟩ <;> cases e
theorem GInv.halts {M : MD} {progs : List (List CD)} {S : WD} {H : List Atom} (h : GInv M progs S H) (t : Nat) : GInv M progs (haltS t S) (H ++ haltA t S) := by
 by_cases hq : S.n ≤ t ∨ (S.ths t).halted = true
 · unfold haltS haltA; rw [if_pos hq, if_pos hq, List.append_nil]; exact h
 unfold haltS haltA; rw [if_neg hq, if_neg hq]
 have ht : t < S.n := by omega
 obtain ⟨cs, cur, ph, h1, h2⟩ := h.ex
 refine h.mk' (S' := S.put t { S.ths t with halted := true }) (X := [⟨S.now, t, (S.ths t).next, .halt⟩]) (N := S.now) ht rfl (Nat.le_refl _) (Nat.le_refl _) (fun A hA => ?_) (.inr fun A hA => ?_) ⟨cs, cur, ph, fun i hi => ?_, h2.other _ rfl⟩
 · rw [List.mem_singleton] at hA; subst hA; exact ⟨rfl, rfl⟩
 · rw [List.mem_singleton] at hA; subst hA; rfl
 · refine ⟨?_, (h1 i hi).2⟩
   by_cases e : i = t
   · subst e; rw [put_same]; exact (h1 i hi).1.halt _ _ _
   · rw [put_other _ _ e]
     exact (h1 i hi).1.grow _ fun A hA => by rw [List.mem_singleton] at hA; subst hA; exact Ne.symm e
theorem GInv.times {M : MD} {progs : List (List CD)} {S : WD} {H : List Atom} (h : GInv M progs S H) (t : Nat) : ∀ k, GInv M progs (timesS M t k S).1 (H ++ timesA M t k S)
 | 0 => by show GInv M progs S (H ++ []); rw [List.append_nil]; exact h
 | k + 1 => by
  show GInv M progs (pickS M t (timesS M t k S).1) (H ++ (timesA M t k S ++ pickA M t (timesS M t k S).1))
  rw [← List.append_assoc]; exact (h.times t k).pick t
theorem GInv.step {M : MD} {progs : List (List CD)} {S : WD} {H : List Atom} (h : GInv M progs S H) (p : PickD) : GInv M progs (stepP M p S).1 (H ++ stepA M p S) := by
 unfold stepP stepA
 split
 · exact h.halts _
 · exact h.times _ _
theorem GInv.run {M : MD} {progs : List (List CD)} {S : WD} (h : GInv M progs S []) (ps : List PickD) : ∀ k, GInv M progs (runP M ps k S).1 (runA M ps k S)
 | 0 => h
 | k + 1 => (h.run ps k).step _
theorem GInv.start (M : MD) (progs : List (List CD)) (hn : progs.length ≤ 8) (hm : ∀ c t, ((M.fresh c).bys t).on = false) : GInv M progs (startW progs) [] := by
 refine ⟨rfl, hn, ⟨fun _ => [], fun _ => none, fun _ => .idle, fun t ht => ⟨⟨rfl, rfl, fun i c hc => ?_, ⟨rfl, rfl, rfl, rfl, rfl⟩, fun p A hA => ?_⟩, fun o l e => (by cases e)⟩, ?_⟩, fun p A hA => ?_, fun p A hA => ?_, fun p q A B _ hA => ?_⟩
 · simp at hc
 · simp at hA
 · have hp : ∀ t, pendPh progs.length (fun _ => Ph.idle) t = none := fun t => by unfold pendPh; split <;> rfl
   refine ⟨fun t b a _ e => ?_, fun t _ _ => rfl, fun c => ⟨rfl, rfl, rfl, fun t _ _ => hm c t, fun t b a _ e => ?_⟩, fun t b a _ e => ?_, fun t b a _ e => ?_⟩
   · have := (hp t).symm.trans e; cases this
   · have := (hp t).symm.trans e; cases this
   · have := (hp t).symm.trans e; cases this
   · have := (hp t).symm.trans e; cases this
 · simp at hA
 · simp at hA
 · simp at hA
structure CallOK (M : MD) (progs : List (List CD)) (H : List Atom) (t i : Nat) (c : GC) : Prop where
 lt : i < (progs.getD t []).length
 path : ∃ o l, Path (M.P t (callAt progs t i)) c.loc c.items o l ∧ ∀ p e v, c.res = some (p, e, v) → o = .ret (e, v) ∧ c.out = shortL l
 seq : Seq c.p0 c.items
 at0 : ∃ now, H[c.p0]? = some ⟨now, t, i, .call⟩
 note : ∀ k p, Item.note k p ∈ c.items → ∃ now, H[p]? = some ⟨now, t, i, .note k⟩
 acc : ∀ a b e x, Item.acc a b e x ∈ c.items → (∃ now, H[b]? = some ⟨now, t, i, .beg a⟩) ∧ (a.1 = 1 ∨ a.1 = 2) ∧ ((∃ now, H[e]? = some ⟨now, t, i, .fin a x⟩) ∧ Told M H a b e x ∨ e = H.length ∧ c.res = none ∧ lastP c.p0 c.items = e)
 res : ∀ p e v, c.res = some (p, e, v) → lastP c.p0 c.items < p ∧ ∃ now, H[p]? = some ⟨now, t, i, .ret e v⟩
 top : lastP c.p0 c.items ≤ H.length
structure Logs (M : MD) (progs : List (List CD)) (H : List Atom) (C : Nat → List GC) : Prop where
 call : ∀ t, t < progs.length → ∀ i c, (C t)[i]? = some c → CallOK M progs H t i c
 loc0 : ∀ t, t < progs.length → ∀ c, (C t)[0]? = some c → c.loc = []
 next : ∀ t, t < progs.length → ∀ i c, (C t)[i + 1]? = some c → ∃ d p e v, (C t)[i]? = some d ∧ d.res = some (p, e, v) ∧ p < c.p0 ∧ c.loc = d.out
 cov : ∀ (p : Nat) (A : Atom), H[p]? = some A → A.t < progs.length ∧ Cov (C A.t) none 0 p A
 ord : OrdH H
theorem GInv.logs {M : MD} {progs : List (List CD)} {S : WD} {H : List Atom} (h : GInv M progs S H) : ∃ C, Logs M progs H C := by
 obtain ⟨cs, cur, ph, h1, h2⟩ := h.ex
 obtain ⟨fc, hfc⟩ : ∃ fc : Nat → Option GC, ∀ t, fc t = match cur t, ph t with
  | some c, .begun a k l b => some { c with items := c.items ++ [.acc a b H.length 0] }
  | x, _ => x := ⟨_, fun _ => rfl⟩
 have hfin : ∀ t i c, FinC M progs H t i c → CallOK M progs H t i c := fun t i c hc => by
  obtain ⟨p, e, v, l, g1, g2, g3, g4, g5⟩ := hc.path
  refine ⟨hc.lt, ⟨_, l, g1, fun p' e' v' q => ?_⟩, hc.seq, hc.at0, hc.its.note, fun a b e x hm => ?_, fun p' e' v' q => ?_, ?_⟩
  · rw [g3] at q; cases q; exact ⟨rfl, g2⟩
  · obtain ⟨q1, q2, q3, q4⟩ := hc.its.acc a b e x hm
    exact ⟨q1, q3, .inl ⟨q2, q4⟩⟩
  · rw [g3] at q; cases q; exact ⟨g4, g5⟩
  · obtain ⟨now, g5⟩ := g5
    have := (List.getElem?_eq_some_iff.1 g5).1
    omega
 have hrun : ∀ t i c o l, RunC M progs H t i c o l → CallOK M progs H t i c := fun t i c o l hc => by
  refine ⟨hc.lt, ⟨o, l, hc.path, fun p' e' v' q => ?_⟩, hc.seq, hc.at0, hc.its.note, fun a b e x hm => ?_, fun p' e' v' q => ?_, Nat.le_of_lt hc.last⟩
  · rw [hc.res] at q; cases q
  · obtain ⟨q1, q2, q3, q4⟩ := hc.its.acc a b e x hm
    exact ⟨q1, q3, .inl ⟨q2, q4⟩⟩
  · rw [hc.res] at q; cases q
 have hn := h.n
 have key : ∀ t, t < progs.length → ∀ c, fc t = some c → CallOK M progs H t (cs t).length c ∧ c.loc = outOf (cs t) (cs t).length ∧ Behind (cs t) (cs t).length c.p0 := fun t ht c hc => by
  obtain ⟨hT, hnm⟩ := h1 t (by omega)
  have hs := hT.stat
  rw [hfc] at hc
  cases hp : ph t with
  | mid o l => exact absurd hp (hnm o l)
  | idle => rw [hp] at hs hc; rw [hs.1] at hc; cases hc
  | asked a k l =>
   rw [hp] at hs hc
   obtain ⟨g1, g2, d, q1, q2, q3, q4, _⟩ := hs
   rw [q1] at hc; cases hc
   exact ⟨hrun _ _ _ _ _ q2, q3, q4⟩
  | begun a k l b =>
   rw [hp] at hs hc
   obtain ⟨g1, g2, d, q1, q2, q3, q4, q5, q6, q7, q8, q9, q10, now, q11⟩ := hs
   rw [q1] at hc; cases hc
   refine ⟨⟨q2.lt, ⟨k 0, l, q2.path.trans (.ask b H.length 0 (.nil _ _)), fun p' e' v' q => ?_⟩, Seq.append.2 ⟨q2.seq, q8, q9, trivial⟩, q2.at0, fun k p hm => ?_, fun a' b' e x hm => ?_, fun p' e' v' q => ?_, ?_⟩, q3, q4⟩
   · rw [show d.res = none from q2.res] at q; cases q
   · rcases List.mem_append.1 hm with hm | hm
     · exact q2.its.note k p hm
     · simp at hm
   · rcases List.mem_append.1 hm with hm | hm
     · obtain ⟨w1, w2, w3, w4⟩ := q2.its.acc a' b' e x hm
       exact ⟨w1, w3, .inl ⟨w2, w4⟩⟩
     · rw [List.mem_singleton] at hm; cases hm
       exact ⟨⟨now, q11⟩, q10, .inr ⟨rfl, q2.res, by rw [lastP_append]; rfl⟩⟩
   · rw [show d.res = none from q2.res] at q; cases q
   · rw [lastP_append]; exact Nat.le_refl _
 have hsplit : ∀ t i c, (cs t ++ (fc t).toList)[i]? = some c → (cs t)[i]? = some c ∨ i = (cs t).length ∧ fc t = some c := fun t i c hc => by
  rcases Nat.lt_or_ge i (cs t).length with hlt | hge
  · rw [List.getElem?_append_left hlt] at hc; exact .inl hc
  · rw [List.getElem?_append_right hge] at hc
    cases e : fc t with
    | none => rw [e] at hc; simp at hc
    | some d =>
     rw [e] at hc
     have h9 := (List.getElem?_eq_some_iff.1 hc).1
     simp only [Option.toList_some, List.length_singleton] at h9
     have h8 : i = (cs t).length := by omega
     subst h8
     simp at hc
     exact .inr ⟨rfl, by rw [hc]⟩
 refine ⟨fun t => cs t ++ (fc t).toList, fun t ht i c hc => ?_, fun t ht c hc => ?_, fun t ht i c hc => ?_, fun p A hA => ?_, h.ord⟩
 · rcases hsplit t i c hc with q | ⟨rfl, q⟩
   · exact hfin t i c ((h1 t (by omega)).1.fin i c q).1
   · exact (key t ht c q).1
 · rcases hsplit t 0 c hc with q | ⟨e, q⟩
   · exact ((h1 t (by omega)).1.fin 0 c q).2.1
   · have := (key t ht c q).2.1
     rw [← e] at this; exact this
 · have hprev : ∃ d, (cs t)[i]? = some d ∧ c.loc = d.out ∧ Behind (cs t) (i + 1) c.p0 := by
    rcases hsplit t (i + 1) c hc with q | ⟨e, q⟩
    · have hlt := (List.getElem?_eq_some_iff.1 q).1
      have h9 := ((h1 t (by omega)).1.fin (i + 1) c q).2
      have h8 : (cs t)[i]? = some (cs t)[i] := List.getElem?_eq_getElem (by omega)
      refine ⟨_, h8, ?_, h9.2⟩
      rw [h9.1]
      show (match (cs t)[i]? with | some c => c.out | none => []) = _
      rw [h8]
    · have h9 := (key t ht c q).2
      obtain ⟨d8, h8⟩ : ∃ d, (cs t)[i]? = some d := ⟨_, List.getElem?_eq_getElem (by omega)⟩
      refine ⟨d8, h8, ?_, by rw [e]; exact h9.2⟩
      rw [h9.1, ← e]
      show (match (cs t)[i]? with | some c => c.out | none => []) = _
      rw [h8]
   obtain ⟨d, g1, g2, g3⟩ := hprev
   obtain ⟨p, e, v, l, q1, q2, q3, _⟩ := ((h1 t (by omega)).1.fin i d g1).1.path
   exact ⟨d, p, e, v, by rw [List.getElem?_append_left (List.getElem?_eq_some_iff.1 g1).1]; exact g1, q3, g3 i d p e v rfl g1 q3, g2⟩
 · have hlt := h.lt p A hA
   refine ⟨by omega, ?_⟩
   obtain ⟨hT, hnm⟩ := h1 A.t hlt
   rcases hT.cov p A hA rfl with q | ⟨c, q1, q2⟩
   · exact .inl q
   · right
     rcases Nat.lt_or_ge A.i (cs A.t).length with hl2 | hge
     · rw [List.getElem?_append_left hl2] at q1
       refine ⟨c, by rw [List.getElem?_append_left hl2]; exact q1, ?_⟩
       cases hw : A.w with
       | beg a => rw [hw] at q2; exact q2.imp id fun q3 => absurd q3.2 (by omega)
       | call => rw [hw] at q2; exact q2
       | note k => rw [hw] at q2; exact q2
       | ret e v => rw [hw] at q2; exact q2
       | fin a x => rw [hw] at q2; exact q2
       | halt => trivial
     · rw [List.getElem?_append_right hge] at q1
       cases e : cur A.t with
       | none => rw [e] at q1; simp at q1
       | some d =>
        rw [e] at q1
        have h9 := (List.getElem?_eq_some_iff.1 q1).1
        simp only [Option.toList_some, List.length_singleton] at h9
        have h8 : A.i = (cs A.t).length := by omega
        rw [h8, Nat.sub_self] at q1
        simp at q1
        subst q1
        cases hp : ph A.t with
        | mid o l => exact absurd hp (hnm o l)
        | idle => have hs := hT.stat; rw [hp] at hs; rw [hs.1] at e; cases e
        | asked a k l =>
         have hf : fc A.t = some d := by rw [hfc, e, hp]
         refine ⟨d, by rw [hf, h8]; exact last_snoc _ _, ?_⟩
         rw [hp] at q2
         cases hw : A.w with
         | beg a => rw [hw] at q2; exact q2.imp id fun q3 => (by cases q3.1)
         | call => rw [hw] at q2; exact q2
         | note k => rw [hw] at q2; exact q2
         | ret e v => rw [hw] at q2; exact q2
         | fin a x => rw [hw] at q2; exact q2
         | halt => trivial
        | begun a k l b =>
         have hf : fc A.t = some { d with items := d.items ++ [.acc a b H.length 0] } := by rw [hfc, e, hp]
         refine ⟨_, by rw [hf, h8]; exact last_snoc _ _, ?_⟩
         rw [hp] at q2
         cases hw : A.w with
         | beg a' =>
          rw [hw] at q2
          rcases q2 with ⟨e', x, q3⟩ | ⟨q3, _⟩
          · exact .inl ⟨e', x, List.mem_append_left _ q3⟩
          · cases q3
            exact .inl ⟨H.length, 0, List.mem_append_right _ (.head _)⟩
         | call => rw [hw] at q2; exact q2
         | note k => rw [hw] at q2; exact List.mem_append_left _ q2
         | ret e v => rw [hw] at q2; exact q2
         | fin a x => rw [hw] at q2; exact q2.imp fun b h => List.mem_append_left _ h
         | halt => trivial
theorem run_logs (M : MD) (progs : List (List CD)) (hn : progs.length ≤ 8) (hm : ∀ c t, ((M.fresh c).bys t).on = false) (ps : List PickD) (k : Nat) :
 ∃ H C, (runP M ps k (startW progs)).2 = H.filterMap vis ∧ Logs M progs H C := by
 obtain ⟨C, hC⟩ := ((GInv.start M progs hn hm).run ps k).logs
 exact ⟨_, C, vis_run M ps _ k, hC⟩
end Go.Proofs.YtpodgcpkccpnfaaGreat

namespace Go.Proofs.YtpodgcpkccpnfaaGreat
open Go.RowKit
def InLog (progs : List (List CD)) (C : Nat → List GC) (t i : Nat) (it : Item) : Prop := t < progs.length ∧ ∃ c, (C t)[i]? = some c ∧ it ∈ c.items
section
variable {M : MD} {progs : List (List CD)} {H : List Atom} {C : Nat → List GC}
theorem Logs.acc (h : Logs M progs H C) {t i : Nat} {a : AD} {b e : Nat} {x : Int} (hi : InLog progs C t i (.acc a b e x)) :
 (∃ now, H[b]? = some ⟨now, t, i, .beg a⟩) ∧ (a.1 = 1 ∨ a.1 = 2) ∧ b < e ∧ e ≤ H.length ∧ (e < H.length → (∃ now, H[e]? = some ⟨now, t, i, .fin a x⟩) ∧ Told M H a b e x) := by
 obtain ⟨ht, c, hc, hm⟩ := hi
 have h1 := h.call t ht i c hc
 obtain ⟨q1, q2, q3⟩ := h1.acc a b e x hm
 obtain ⟨s1, s2, s3⟩ := h1.seq.acc hm
 refine ⟨q1, q2, s2, Nat.le_trans s3 h1.top, fun he => ?_⟩
 rcases q3 with q3 | ⟨q3, _⟩
 · exact q3
 · omega
theorem Logs.beg (h : Logs M progs H C) {q : Nat} {A : Atom} {a : AD} (hA : H[q]? = some A) (hw : A.w = .beg a) : ∃ e x, InLog progs C A.t A.i (.acc a q e x) := by
 obtain ⟨ht, hc⟩ := h.cov q A hA
 rcases hc with hc | ⟨c, h1, h2⟩
 · rw [hw] at hc; cases hc
 · rw [hw] at h2
   rcases h2 with ⟨e, x, h2⟩ | ⟨h2, _⟩
   · exact ⟨e, x, ht, c, h1, h2⟩
   · cases h2
theorem Logs.fin (h : Logs M progs H C) {q : Nat} {A : Atom} {a : AD} {x : Int} (hA : H[q]? = some A) (hw : A.w = .fin a x) : ∃ b, InLog progs C A.t A.i (.acc a b q x) := by
 obtain ⟨ht, hc⟩ := h.cov q A hA
 rcases hc with hc | ⟨c, h1, h2⟩
 · rw [hw] at hc; cases hc
 · rw [hw] at h2
   obtain ⟨b, h2⟩ := h2
   exact ⟨b, ht, c, h1, h2⟩
theorem Logs.calls (h : Logs M progs H C) {t : Nat} (ht : t < progs.length) {i j : Nat} {c d : GC} (hij : i < j) (hc : (C t)[i]? = some c) (hd : (C t)[j]? = some d) : ∃ p e v, c.res = some (p, e, v) ∧ p < d.p0 := by
 induction j generalizing d with
 | zero => omega
 | succ j ih =>
  obtain ⟨c', p, e, v, h1, h2, h3, _⟩ := h.next t ht j d hd
  rcases Nat.lt_or_ge i j with hlt | hge
  · obtain ⟨p', e', v', g1, g2⟩ := ih hlt h1
    have hC := h.call t ht j c' h1
    obtain ⟨g3, _⟩ := hC.res p e v h2
    have := hC.seq.le_last
    exact ⟨p', e', v', g1, by omega⟩
  · obtain rfl : i = j := by omega
    rw [hc] at h1; cases h1
    exact ⟨p, e, v, h2, h3⟩
theorem Logs.place (h : Logs M progs H C) {t i : Nat} (ht : t < progs.length) {c : GC} (hc : (C t)[i]? = some c) {a : AD} {b e : Nat} {x : Int} (hm : Item.acc a b e x ∈ c.items) : c.p0 < b ∧ b < e ∧ ∀ p e' v, c.res = some (p, e', v) → e < p := by
 have h1 := h.call t ht i c hc
 obtain ⟨s1, s2, s3⟩ := h1.seq.acc hm
 exact ⟨s1, s2, fun p e' v q => by have := (h1.res p e' v q).1; omega⟩
theorem Logs.before (h : Logs M progs H C) {t i j : Nat} (hij : i < j) {a a' : AD} {b e b' e' : Nat} {x x' : Int} (h1 : InLog progs C t i (.acc a b e x)) (h2 : InLog progs C t j (.acc a' b' e' x')) : e < b' := by
 obtain ⟨ht, c, hc, hm⟩ := h1
 obtain ⟨_, d, hd, hm'⟩ := h2
 obtain ⟨p, e0, v, g1, g2⟩ := h.calls ht hij hc hd
 have := (h.place ht hc hm).2.2 p e0 v g1
 have := (h.place ht hd hm').1
 omega
theorem seq_two {lo : Nat} {L : List Item} (h : Seq lo L) {a a' : AD} {b e b' e' : Nat} {x x' : Int} (h1 : Item.acc a b e x ∈ L) (h2 : Item.acc a' b' e' x' ∈ L) : e < b' ∨ e' < b ∨ Item.acc a b e x = Item.acc a' b' e' x' := by
 induction L generalizing lo with
 | nil => cases h1
 | cons i L ih =>
  cases i with
  | note k p =>
   rcases List.mem_cons.1 h1 with q | h1
   · cases q
   rcases List.mem_cons.1 h2 with q | h2
   · cases q
   exact ih h.2 h1 h2
  | acc a0 b0 e0 x0 =>
   rcases List.mem_cons.1 h1 with q1 | g1
   · rcases List.mem_cons.1 h2 with q2 | g2
     · exact .inr (.inr (q1.trans q2.symm))
     · cases q1
       exact .inl (Seq.acc (L := L) h.2.2 g2).1
   · rcases List.mem_cons.1 h2 with q2 | g2
     · cases q2
       exact .inr (.inl (Seq.acc (L := L) h.2.2 g1).1)
     · exact ih h.2.2 g1 g2
theorem Logs.two (h : Logs M progs H C) {t i j : Nat} {a a' : AD} {b e b' e' : Nat} {x x' : Int} (h1 : InLog progs C t i (.acc a b e x)) (h2 : InLog progs C t j (.acc a' b' e' x')) : e < b' ∨ e' < b ∨ (i = j ∧ Item.acc a b e x = Item.acc a' b' e' x') := by
 rcases Nat.lt_trichotomy i j with q | q | q
 · exact .inl (h.before q h1 h2)
 · subst q
   obtain ⟨ht, c, hc, hm⟩ := h1
   obtain ⟨_, d, hd, hm'⟩ := h2
   rw [hc] at hd; cases hd
   exact (seq_two (h.call t ht i c hc).seq hm hm').imp id (Or.imp id fun e => ⟨rfl, e⟩)
 · exact .inr (.inl (h.before q h2 h1))
theorem take_back {H : List Atom} {e q : Nat} {A : Atom} (h : (H.take e)[q]? = some A) : q < e ∧ H[q]? = some A := by
 have h1 := (List.getElem?_eq_some_iff.1 h).1
 rw [List.length_take] at h1
 rw [List.getElem?_take_of_lt (by omega)] at h
 exact ⟨by omega, h⟩
theorem cellAt_take (M : MD) (H : List Atom) (c : Int) {b e : Nat} (h : b ≤ e) : cellAt M (H.take e) c b = cellAt M H c b := by
 unfold cellAt; rw [List.take_take, Nat.min_eq_left h]
theorem Logs.quiet (h : Logs M progs H C) {t i : Nat} {c u : Int} {b e : Nat} {x : Int} (hi : InLog progs C t i (.acc (1, c, u) b e x)) (he : e < H.length) (hk : (M.fresh c).kind = 1)
 (hq : ∀ t' i' v b' e' x', InLog progs C t' i' (.acc (2, c, v) b' e' x') → e' < b ∨ e < b') : x = cellAt M H c b := by
 obtain ⟨_, _, hbe, _, h1⟩ := h.acc hi
 have h2 := (h1 he).2.1 rfl
 unfold Told0 at h2
 rw [if_pos hk] at h2
 rcases h2 with h2 | ⟨⟨v, q, A, w, g1, g2, g3, g4⟩, _⟩
 · rw [h2]; exact cellAt_take M H c (Nat.le_of_lt hbe)
 · exfalso
   obtain ⟨hqe, hA⟩ := take_back g1
   obtain ⟨e', x', hI⟩ := h.beg hA g2
   obtain ⟨_, _, k1, k2, k3⟩ := h.acc hI
   rcases hq _ _ _ _ _ _ hI with h3 | h3
   · rcases g4 with g4 | ⟨g4, g5⟩
     · omega
     · obtain ⟨⟨now, k4⟩, _⟩ := k3 (by omega)
       have g6 := g5 e' ⟨now, A.t, A.i, .fin (2, c, w) x'⟩ k1 h3 (by rw [List.getElem?_take_of_lt (by omega)]; exact k4) rfl
       exact absurd g6 (by simp [What.isFin])
   · omega
theorem Logs.wrote (h : Logs M progs H C) {t i : Nat} {c v : Int} {b e p : Nat} {x : Int} (hi : InLog progs C t i (.acc (2, c, v) b e x)) (hep : e < p) (hp : p ≤ H.length)
 (hq : ∀ t' i' v' b' e' x', InLog progs C t' i' (.acc (2, c, v') b' e' x') → e' ≤ e ∨ p ≤ e') : cellAt M H c p = clampT v (M.fresh c).top := by
 obtain ⟨_, _, hbe, _, h1⟩ := h.acc hi
 obtain ⟨⟨now, h2⟩, _⟩ := h1 (by omega)
 refine cellAt_write h2 rfl hep fun j A hj1 hj2 hA u y hw => ?_
 obtain ⟨b', hI⟩ := h.fin hA hw
 rcases hq _ _ _ _ _ _ hI with q | q <;> omega
theorem cellAt_in (M : MD) (H : List Atom) (c : Int) (p : Nat) {lo hi : Int} (h0 : lo ≤ (M.fresh c).value ∧ (M.fresh c).value ≤ hi) (h1 : ∀ v, lo ≤ clampT v (M.fresh c).top ∧ clampT v (M.fresh c).top ≤ hi) : lo ≤ cellAt M H c p ∧ cellAt M H c p ≤ hi := by
 unfold cellAt
 have : ∀ (L : List Atom) (v : Int), lo ≤ v ∧ v ≤ hi → lo ≤ L.foldl (wr1 M c) v ∧ L.foldl (wr1 M c) v ≤ hi := fun L => by
  induction L with
  | nil => intro v hv; exact hv
  | cons A L ih =>
   intro v hv
   refine ih _ ?_
   unfold wr1
   split
   · split
     · exact h1 _
     · exact hv
   · exact hv
 exact this _ _ h0
end
structure FreshOK (M : MD) : Prop where
 val : ∀ c, (M.fresh c).value = 0
 top : ∀ c, 0 ≤ (M.fresh c).top ∧ (M.fresh c).top ≤ 1099511627776
 off : ∀ c t, ((M.fresh c).bys t).on = false
theorem clampT_in (v top : Int) (h : 0 ≤ top) : 0 ≤ clampT v top ∧ clampT v top ≤ top := by
 unfold clampT
 obtain ⟨c, hc⟩ : ∃ c, clampI top 0 1099511627776 = c := ⟨_, rfl⟩
 have h2 : 0 ≤ c ∧ c ≤ top := by
  rw [← hc]; unfold clampI
  split
  · omega
  split <;> omega
 rw [hc]
 unfold clampI
 split
 · omega
 split <;> omega
theorem clampT_id (v top : Int) (h : 0 ≤ v) (h1 : v ≤ top) (h2 : top ≤ 1099511627776) : clampT v top = v := by
 unfold clampT clampI
 rw [if_neg (by omega), if_neg (show ¬ top < 0 by omega), if_neg (show ¬ 1099511627776 < top by omega), if_neg (by omega)]
theorem Told.small {M : MD} (hF : FreshOK M) {H : List Atom} {a : AD} {b e : Nat} {x : Int} (h : Told M H a b e x) (hk : a.1 = 1 ∨ a.1 = 2) : 0 ≤ x ∧ x ≤ (M.fresh a.2.1).top := by
 have ht := hF.top a.2.1
 rcases hk with hk | hk
 · have h1 := h.1 hk
   have hc : ∀ p, 0 ≤ cellAt M (H.take e) a.2.1 p ∧ cellAt M (H.take e) a.2.1 p ≤ (M.fresh a.2.1).top := fun p => cellAt_in M _ _ p (by rw [hF.val]; omega) fun v => clampT_in v _ ht.1
   unfold Told0 at h1
   split at h1
   · rcases h1 with h1 | ⟨_, d, h1⟩
     · rw [h1]; exact hc _
     · rw [h1]; exact wrapI_le d _ ht.1
   · split at h1
     · rcases h1 with h1 | ⟨q, A, u, g1, g2, g3, g4⟩
       · rw [h1]; exact hc _
       · rw [← g3]; exact clampT_in u _ ht.1
     · rw [h1]; exact hc _
 · rw [h.2 hk]; omega
end Go.Proofs.YtpodgcpkccpnfaaGreat

namespace Go.Proofs.YtpodgcpkccpnfaaGreat
open Go.RowKit
structure Seg where
 op : Nat
 lo : Nat
 items : List Item
 res : Option Int
structure Segs (progs : List (List CD)) (C : Nat → List GC) (T : Nat → Nat → Op Int) (cells : Int → Prop) (N : Nat) (G : Nat → List Seg) : Prop where
 path : ∀ (t k : Nat) (s : Seg), t < progs.length → (G t)[k]? = some s → ∃ loc o l, Path (T t s.op) loc s.items o l ∧ ∀ e, s.res = some e → o = .ret e
 inl : ∀ (t k : Nat) (s : Seg) (it : Item), t < progs.length → (G t)[k]? = some s → it ∈ s.items → ∃ i, InLog progs C t i it
 top : ∀ (t k : Nat) (s : Seg), t < progs.length → (G t)[k]? = some s → s.lo < N
 seq : ∀ (t k : Nat) (s : Seg), t < progs.length → (G t)[k]? = some s → Seq s.lo s.items
 next : ∀ (t k j : Nat) (s s' : Seg), t < progs.length → k < j → (G t)[k]? = some s → (G t)[j]? = some s' → lastP s.lo s.items ≤ s'.lo ∧ ∃ e, s.res = some e
 cov : ∀ (t i : Nat) (a : AD) (b e : Nat) (x : Int), InLog progs C t i (.acc a b e x) → cells a.2.1 → ∃ (k : Nat) (s : Seg), (G t)[k]? = some s ∧ Item.acc a b e x ∈ s.items
def nextLo (T : Nat) (G : List Seg) (k : Nat) : Nat := match G[k + 1]? with
 | some s => s.lo
 | none => T
def ReadsN (L : List Item) (ks : List Int) : Prop := ∀ it, it ∈ L → (∃ c u b e x, it = .acc (1, c, u) b e x) ∨ ∃ k p, it = .note k p ∧ k ∈ ks
def Known (L : List Item) : Prop := ∀ a b e x, Item.acc a b e x ∈ L → a.1 = 1 ∨ a.1 = 2
theorem Known.left {L M : List Item} (h : Known (L ++ M)) : Known L := fun a b e x hm => h a b e x (List.mem_append_left _ hm)
theorem Known.right {L M : List Item} (h : Known (L ++ M)) : Known M := fun a b e x hm => h a b e x (List.mem_append_right _ hm)
theorem Known.tail {i : Item} {L : List Item} (h : Known (i :: L)) : Known L := fun a b e x hm => h a b e x (List.mem_cons_of_mem _ hm)
theorem ReadsN.append {L M : List Item} {ks : List Int} (h : ReadsN L ks) (h2 : ReadsN M ks) : ReadsN (L ++ M) ks := fun it hm => (List.mem_append.1 hm).elim (h it) (h2 it)
theorem ReadsN.nil (ks : List Int) : ReadsN [] ks := fun it hm => by cases hm
theorem ReadsN.more {L : List Item} {ks ks' : List Int} (h : ReadsN L ks) (hs : ∀ k, k ∈ ks → k ∈ ks') : ReadsN L ks' := fun it hm => (h it hm).imp id fun ⟨k, p, e, q⟩ => ⟨k, p, e, hs k q⟩
theorem ReadsN.noWrite {L : List Item} {ks : List Int} (h : ReadsN L ks) {c v : Int} {b e : Nat} {x : Int} (hm : Item.acc (2, c, v) b e x ∈ L) : False := by
 rcases h _ hm with ⟨c', u, b', e', x', q⟩ | ⟨k, p, q, _⟩
 · cases q
 · cases q
def stuck {α : Type} (v : α) : Op α := .ask (0, 0, 0) fun _ => .ret v
theorem stuck_path {α : Type} {v : α} {l : List Int} {L : List Item} {o : Op α} {l' : List Int} (h : Path (stuck v) l L o l') (hk : Known L) : L = [] ∧ o = stuck v := by
 cases h with
 | nil => exact ⟨rfl, rfl⟩
 | ask b e x h => exact absurd (hk _ _ _ _ (.head _)) (by simp)
def spin0 (c : Int) : Nat → Op Unit
 | 0 => stuck ()
 | f + 1 => .ask (1, c, 0) fun x => if x = 0 then .ret () else spin0 c f
theorem spin0_path {c : Int} : ∀ {f : Nat} {l : List Int} {L : List Item} {o : Op Unit} {l' : List Int}, Path (spin0 c f) l L o l' → Known L → (∀ it, it ∈ L → ∃ b e x, it = .acc (1, c, 0) b e x) ∧ (∀ v, o = .ret v → ∃ L1 b e, L = L1 ++ [.acc (1, c, 0) b e 0])
 | 0, l, L, o, l', h, hk => by
  obtain ⟨rfl, rfl⟩ := stuck_path h hk
  exact ⟨fun it hm => (by cases hm), fun v q => (by cases q)⟩
 | f + 1, l, L, o, l', h, hk => by
  cases h with
  | nil => exact ⟨fun it hm => (by cases hm), fun v q => (by cases q)⟩
  | ask b e x h =>
   dsimp only at h
   by_cases hx : x = 0
   · subst hx
     rw [if_pos rfl] at h
     cases h
     exact ⟨fun it hm => ⟨b, e, 0, List.mem_singleton.1 hm⟩, fun v q => ⟨[], b, e, rfl⟩⟩
   · rw [if_neg hx] at h
     obtain ⟨h1, h2⟩ := spin0_path h hk.tail
     refine ⟨fun it hm => ?_, fun v q => ?_⟩
     · rcases List.mem_cons.1 hm with q | hm
       · exact ⟨b, e, x, q⟩
       · exact h1 it hm
     · obtain ⟨L1, b', e', q'⟩ := h2 v q
       exact ⟨_ :: L1, b', e', by rw [q']; rfl⟩
def spinP (c : Int) (p : Int → Bool) : Nat → Op Int
 | 0 => stuck 0
 | f + 1 => .ask (1, c, 0) fun x => if p x = true then .ret x else spinP c p f
theorem spinP_path {c : Int} {p : Int → Bool} : ∀ {f : Nat} {l : List Int} {L : List Item} {o : Op Int} {l' : List Int}, Path (spinP c p f) l L o l' → Known L → (∀ it, it ∈ L → ∃ b e x, it = .acc (1, c, 0) b e x) ∧ (∀ v, o = .ret v → p v = true ∧ ∃ L1 b e, L = L1 ++ [.acc (1, c, 0) b e v])
 | 0, l, L, o, l', h, hk => by
  obtain ⟨rfl, rfl⟩ := stuck_path h hk
  exact ⟨fun it hm => (by cases hm), fun v q => (by cases q)⟩
 | f + 1, l, L, o, l', h, hk => by
  cases h with
  | nil => exact ⟨fun it hm => (by cases hm), fun v q => (by cases q)⟩
  | ask b e x h =>
   dsimp only at h
   by_cases hx : p x = true
   · rw [if_pos hx] at h
     cases h
     exact ⟨fun it hm => ⟨b, e, x, List.mem_singleton.1 hm⟩, fun v q => by cases q; exact ⟨hx, [], b, e, rfl⟩⟩
   · rw [if_neg hx] at h
     obtain ⟨h1, h2⟩ := spinP_path h hk.tail
     refine ⟨fun it hm => ?_, fun v q => ?_⟩
     · rcases List.mem_cons.1 hm with q | hm
       · exact ⟨b, e, x, q⟩
       · exact h1 it hm
     · obtain ⟨q0, L1, b', e', q'⟩ := h2 v q
       exact ⟨q0, _ :: L1, b', e', by rw [q']; rfl⟩
section
variable {M : MD} {progs : List (List CD)} {H : List Atom} {C : Nat → List GC} {T : Nat → Nat → Op Int} {cells : Int → Prop} {G : Nat → List Seg}
theorem Segs.known (h : Segs progs C T cells H.length G) (hL : Logs M progs H C) {t k : Nat} {s : Seg} (ht : t < progs.length) (hs : (G t)[k]? = some s) : Known s.items := fun a b e x hm => by
 obtain ⟨i, hi⟩ := h.inl t k s _ ht hs hm
 exact (hL.acc hi).2.1
theorem Segs.le_next (h : Segs progs C T cells H.length G) (hL : Logs M progs H C) {t k : Nat} {s : Seg} (ht : t < progs.length) (hs : (G t)[k]? = some s) {a : AD} {b e : Nat} {x : Int} (hm : Item.acc a b e x ∈ s.items) : s.lo < b ∧ b < e ∧ e ≤ nextLo H.length (G t) k := by
 obtain ⟨h1, h2, h3⟩ := (h.seq t k s ht hs).acc hm
 refine ⟨h1, h2, ?_⟩
 unfold nextLo
 cases q : (G t)[k + 1]? with
 | none =>
  obtain ⟨i, hi⟩ := h.inl t k s _ ht hs hm
  exact (hL.acc hi).2.2.2.1
 | some s' => exact Nat.le_trans h3 (h.next t k (k + 1) s s' ht (by omega) hs q).1
theorem Segs.nextLe (h : Segs progs C T cells H.length G) {t : Nat} (ht : t < progs.length) (k : Nat) : nextLo H.length (G t) k ≤ H.length := by
 unfold nextLo
 cases q : (G t)[k + 1]? with
 | none => exact Nat.le_refl _
 | some s => exact Nat.le_of_lt (h.top t (k + 1) s ht q)
theorem Segs.two (h : Segs progs C T cells H.length G) {t k j : Nat} {s s' : Seg} (ht : t < progs.length) (hs : (G t)[k]? = some s) (hs' : (G t)[j]? = some s') {a a' : AD} {b e b' e' : Nat} {x x' : Int} (hm : Item.acc a b e x ∈ s.items) (hm' : Item.acc a' b' e' x' ∈ s'.items) :
 k < j ∧ e ≤ s'.lo ∧ e < b' ∨ j < k ∧ e' ≤ s.lo ∧ e' < b ∨ k = j ∧ s = s' := by
 rcases Nat.lt_trichotomy k j with q | q | q
 · have h1 := (h.next t k j s s' ht q hs hs').1
   have h2 := ((h.seq t k s ht hs).acc hm).2.2
   have h3 := ((h.seq t j s' ht hs').acc hm').1
   exact .inl ⟨q, by omega, by omega⟩
 · subst q
   rw [hs] at hs'; cases hs'
   exact .inr (.inr ⟨rfl, rfl⟩)
 · have h1 := (h.next t j k s' s ht q hs' hs).1
   have h2 := ((h.seq t j s' ht hs').acc hm').2.2
   have h3 := ((h.seq t k s ht hs).acc hm).1
   exact .inr (.inl ⟨q, by omega, by omega⟩)
end
end Go.Proofs.YtpodgcpkccpnfaaGreat

namespace Go.Proofs.YtpodgcpkccpnfaaGreat
open Go.RowKit
theorem bind_bind {α β γ : Type} (o : Op α) (f : α → Op β) (h : β → Op γ) : (o.bind f).bind h = o.bind fun x => (f x).bind h := by
 induction o with
 | ret v => rfl
 | ask a k ih => exact congrArg (Op.ask a) (funext ih)
 | get i k ih => exact congrArg (Op.get i) (funext ih)
 | set i v k ih => exact congrArg (Op.set i v) ih
 | note c k ih => exact congrArg (Op.note c) ih
 | live k ih => exact congrArg Op.live (funext ih)
def oneScan (base : Int) (me F : Nat) (again : Op Unit) : List Nat → Op Unit
 | [] => .ret ()
 | j :: js => .ask (1, base + (j : Int), 0) fun x => if x = 0 then oneScan base me F again js else .ask (2, base + (me : Int), 0) fun _ => (spin0 (base + (j : Int)) F).bind fun _ => again
def oneTry (base : Int) (me F : Nat) : Nat → Op Unit
 | 0 => stuck ()
 | f + 1 => .ask (2, base + (me : Int), 1) fun _ => oneScan base me F (oneTry base me F f) (List.range me)
def oneLate (base : Int) (F : Nat) : List Nat → Op Unit
 | [] => .ret ()
 | j :: js => (spin0 (base + (j : Int)) F).bind fun _ => oneLate base F js
def oneAcq (n : Nat) (base : Int) (me F : Nat) : Op Int :=
 .note 1 ((oneTry base me F F).bind fun _ => .note 2 ((oneLate base F ((List.range n).drop (me + 1))).bind fun _ => .note 3 (.ret 0)))
def oneRel (base : Int) (me : Nat) : Op Unit := .note 5 (.ask (2, base + (me : Int), 0) fun _ => .ret ())
end Go.Proofs.YtpodgcpkccpnfaaGreat

