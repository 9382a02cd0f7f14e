/-
  Parts of a proof, packed: AltP, AltS, ExcP, AudA, AudD
-/
import Derived.BigQuiet
import Derived.Test.YtpodgcpkccpnfaaGreatPk01
import Derived.Test.YtpodgcpkccpnfaaGreatPk09
import Derived.Test.YtpodgcpkccpnfaaGreatPk18
set_option linter.unusedVariables false
set_option linter.unusedSimpArgs false
set_option maxRecDepth 20000
set_option maxHeartbeats 16000000
namespace Go.Proofs.YtpodgcpkccpnfaaGreat
open Go.RowKit
variable {α β : Type}
def Op.keeps (i : Int) : Op α → Prop
 | .ret _ => True
 | .ask _ k => ∀ x, (k x).keeps i
 | .get _ k => ∀ x, (k x).keeps i
 | .set j _ k => j ≠ i ∧ k.keeps i
 | .note _ k => k.keeps i
 | .live k => ∀ b, (k b).keeps i
theorem Op.keeps_bind {i : Int} : ∀ (o : Op α) (f : α → Op β), o.keeps i → (∀ v, (f v).keeps i) → (o.bind f).keeps i
 | .ret v, f, _, h => h v
 | .ask a k, f, h, h2 => fun x => Op.keeps_bind (k x) f (h x) h2
 | .get j k, f, h, h2 => fun x => Op.keeps_bind (k x) f (h x) h2
 | .set j v k, f, h, h2 => ⟨h.1, Op.keeps_bind k f h.2 h2⟩
 | .note c k, f, h, h2 => Op.keeps_bind k f h h2
 | .live k, f, h, h2 => fun b => Op.keeps_bind (k b) f (h b) h2
theorem getL_eq (l : List Int) (i : Int) : getL l i = if i < 0 ∨ (l.length : Int) ≤ i then 0 else l.getD i.toNat 0 := rfl
theorem getD_past (l : List Int) {k : Nat} (h : l.length ≤ k) : l.getD k 0 = 0 := by rw [List.getD_eq_getElem?_getD, List.getElem?_eq_none h]; rfl
theorem getL_nat (l : List Int) (k : Nat) : getL l k = l.getD k 0 := by
 rw [getL_eq]
 split
 · rename_i h
   rw [getD_past l (by omega)]
 · rw [Int.toNat_natCast]
theorem getL_set (l : List Int) (j v i : Int) (hi : 0 ≤ i ∧ i < 32768) : getL (setL l j v) i = if j = i then v else getL l i := by
 obtain ⟨k, rfl⟩ : ∃ k : Nat, i = k := ⟨i.toNat, by omega⟩
 rw [getL_nat, getL_nat]
 unfold setL TS.set
 by_cases h1 : j < 0 ∨ 32768 ≤ j
 · rw [if_pos h1, if_neg (by omega)]
 rw [if_neg h1]
 obtain ⟨m, rfl⟩ : ∃ m : Nat, j = m := ⟨j.toNat, by omega⟩
 have hm : ((m : Int) = (k : Int)) ↔ m = k := by omega
 dsimp only
 rw [Int.toNat_natCast]
 by_cases h2 : (l.length : Int) ≤ m
 · rw [if_pos h2]
   by_cases h3 : v = 0
   · rw [if_pos h3]
     by_cases e : m = k
     · subst e; rw [if_pos rfl, h3, getD_past l (by omega)]
     · rw [if_neg (by omega)]
   · rw [if_neg h3]
     dsimp only
     rw [List.getD_eq_getElem?_getD, List.getElem?_set]
     by_cases e : m = k
     · subst e
       rw [if_pos rfl, if_pos rfl, if_pos (by simp; omega)]; rfl
     · rw [if_neg e, if_neg (by omega), List.getD_eq_getElem?_getD]
       rcases Nat.lt_or_ge k l.length with hk | hk
       · rw [List.getElem?_append_left hk]
       · rw [List.getElem?_append_right hk, List.getElem?_eq_none hk, List.getElem?_replicate]
         split <;> rfl
 · rw [if_neg h2]
   dsimp only
   rw [List.getD_eq_getElem?_getD, List.getElem?_set]
   by_cases e : m = k
   · subst e
     rw [if_pos rfl, if_pos rfl, if_pos (by omega)]; rfl
   · rw [if_neg e, if_neg (by omega), List.getD_eq_getElem?_getD]
theorem shortLen_zero (l : List Int) : ∀ m k, shortLen l m ≤ k → k < m → l.getD k 0 = 0
 | 0, k, _, h => by omega
 | m + 1, k, h, h2 => by
  unfold shortLen at h
  split at h
  · rename_i h3
    by_cases e : k = m
    · subst e; exact h3
    · exact shortLen_zero l m k h (by omega)
  · omega
theorem getL_short (l : List Int) {i : Int} (hi : 0 ≤ i) : getL (shortL l) i = getL l i := by
 obtain ⟨k, rfl⟩ : ∃ k : Nat, i = k := ⟨i.toNat, by omega⟩
 rw [getL_nat, getL_nat]
 unfold shortL
 rw [List.getD_eq_getElem?_getD, List.getElem?_take]
 by_cases h : k < shortLen l l.length
 · rw [if_pos h, ← List.getD_eq_getElem?_getD]
 · rw [if_neg h]
   rcases Nat.lt_or_ge k l.length with h2 | h2
   · rw [shortLen_zero l l.length k (by omega) h2]; rfl
   · rw [getD_past l h2]; rfl
theorem Path.keeps {i : Int} (hi : 0 ≤ i ∧ i < 32768) {o o' : Op α} {l l' : List Int} {L : List Item} (h : Path o l L o' l') (hk : o.keeps i) : getL l' i = getL l i := by
 induction h with
 | nil => rfl
 | get _ ih => exact ih (hk _)
 | set _ ih => rw [ih hk.2, getL_set _ _ _ _ hi, if_neg hk.1]
 | live _ ih => exact ih (hk _)
 | note p _ ih => exact ih hk
 | ask b e x _ ih => exact ih (hk _)
theorem Path.bindTo (f : α → Op β) {o o' : Op α} {l l' : List Int} {L : List Item} (h : Path o l L o' l') : Path (o.bind f) l L (o'.bind f) l' := by
 induction h with
 | nil => exact .nil _ _
 | get _ ih => exact .get ih
 | set _ ih => exact .set ih
 | live _ ih => exact .live ih
 | note p _ ih => exact .note p ih
 | ask b e x _ ih => exact .ask b e x ih
theorem path_ret {v : α} {l l' : List Int} {L : List Item} {o : Op α} (h : Path (.ret v) l L o l') : L = [] ∧ o = .ret v ∧ l' = l := by
 cases h; exact ⟨rfl, rfl, rfl⟩
theorem bind_isret {o : Op α} {f : α → Op β} {v : β} (h : o.bind f = .ret v) : ∃ u, o = .ret u ∧ f u = .ret v := by
 cases o with
 | ret u => exact ⟨u, rfl, h⟩
 | ask a k => cases h
 | get i k => cases h
 | set i v k => cases h
 | note c k => cases h
 | live k => cases h
theorem asRep_path {o : Op Int} {l l' : List Int} {L : List Item} {o' : Op RD} (h : Path (asRep o) l L o' l') : ∃ o1, Path o l L o1 l' ∧ ∀ e v, o' = .ret (e, v) → o1 = .ret e ∧ v = 0 := by
 rcases h.bind with ⟨o1, h1, h2⟩ | ⟨v, L1, L2, l1, rfl, h2, h3⟩
 · refine ⟨o1, h2, fun e v q => ?_⟩
   rw [h1] at q
   obtain ⟨u, q1, q2⟩ := bind_isret q
   cases q2
   exact ⟨q1, rfl⟩
 · obtain ⟨rfl, q2, rfl⟩ := path_ret h3
   rw [List.append_nil]
   exact ⟨.ret v, h2, fun e v' q => by rw [q2] at q; cases q; exact ⟨rfl, rfl⟩⟩
theorem acq_path {mine : Int} (hm : 0 ≤ mine ∧ mine < 32768) {acq : Op Int} (hk : acq.keeps mine) {l l' : List Int} {L : List Item} {o : Op RD} (h : Path (asRep (libAcq mine acq)) l L o l') (h1 : getL l mine ≠ 1) :
 ∃ o1 l1, Path acq l L o1 l1 ∧ ∀ e v, o = .ret (e, v) → o1 = .ret e ∧ getL l' mine = if e = 0 then 1 else getL l mine := by
 obtain ⟨o2, h2, h3⟩ := asRep_path h
 unfold libAcq at h2
 cases h2 with
 | nil => exact ⟨acq, l, .nil _ _, fun e v q => by cases (h3 e v q).1⟩
 | get h2 =>
  dsimp only at h2
  rw [if_neg h1] at h2
  rcases h2.bind with ⟨o1, e1, h4⟩ | ⟨u, L1, L2, l1, rfl, h4, h5⟩
  · refine ⟨o1, _, h4, fun e v q => ?_⟩
    have h6 := (h3 e v q).1
    rw [e1] at h6
    obtain ⟨u, q1, q2⟩ := bind_isret h6
    split at q2
    · cases q2
    · rename_i hu
      cases q2
      exact ⟨q1, by rw [if_neg hu, h4.keeps hm hk]⟩
  · have hL2 : L2 = [] ∧ ∀ e, o2 = .ret e → e = u ∧ getL l' mine = if e = 0 then 1 else getL l1 mine := by
     split at h5
     · rename_i hu
       cases h5 with
       | nil => exact ⟨rfl, fun e q => by cases q⟩
       | set h5 =>
        obtain ⟨rfl, q, rfl⟩ := path_ret h5
        exact ⟨rfl, fun e q2 => by rw [q] at q2; cases q2; exact ⟨rfl, by rw [if_pos hu, getL_set _ _ _ _ hm, if_pos rfl]⟩⟩
     · rename_i hu
       obtain ⟨rfl, q, rfl⟩ := path_ret h5
       exact ⟨rfl, fun e q2 => by rw [q] at q2; cases q2; exact ⟨rfl, by rw [if_neg hu]⟩⟩
    obtain ⟨rfl, hr⟩ := hL2
    rw [List.append_nil]
    refine ⟨.ret u, l1, h4, fun e v q => ?_⟩
    obtain ⟨rfl, h8⟩ := hr e (h3 e v q).1
    exact ⟨rfl, by rw [h8, h4.keeps hm hk]⟩
theorem rel_path {mine : Int} (hm : 0 ≤ mine ∧ mine < 32768) {rel : Op Unit} {l l' : List Int} {L : List Item} {o : Op RD} (h : Path (asRep (libRel mine rel)) l L o l') (h1 : getL l mine = 1) :
 ∃ o1 l1, Path (rel.bind fun _ => (.ret 0 : Op Int)) l L o1 l1 ∧ ∀ e v, o = .ret (e, v) → e = 0 ∧ o1 = .ret 0 ∧ getL l' mine = 0 := by
 obtain ⟨o2, h2, h3⟩ := asRep_path h
 unfold libRel at h2
 cases h2 with
 | nil => exact ⟨_, l, .nil _ _, fun e v q => by cases (h3 e v q).1⟩
 | get h2 =>
  dsimp only at h2
  rw [if_pos h1] at h2
  rcases h2.bind with ⟨o1, e1, h4⟩ | ⟨u, L1, L2, l1, rfl, h4, h5⟩
  · refine ⟨_, _, h4.bindTo fun _ => (.ret 0 : Op Int), fun e v q => ?_⟩
    have h7 := (h3 e v q).1
    rw [e1] at h7
    obtain ⟨u, q1, q2⟩ := bind_isret h7
    cases q2
  · have h6 : Path (rel.bind fun _ => (.ret 0 : Op Int)) l L1 (.ret 0) l1 := h4.bindTo fun _ => (.ret 0 : Op Int)
    have hL2 : L2 = [] ∧ ∀ e, o2 = .ret e → e = 0 ∧ getL l' mine = 0 := by
     cases h5 with
     | nil => exact ⟨rfl, fun e q => by cases q⟩
     | set h5 =>
      obtain ⟨rfl, q, rfl⟩ := path_ret h5
      exact ⟨rfl, fun e q2 => by rw [q] at q2; cases q2; exact ⟨rfl, by rw [getL_set _ _ _ _ hm, if_pos rfl]⟩⟩
    obtain ⟨rfl, hr⟩ := hL2
    rw [List.append_nil]
    refine ⟨_, _, h6, fun e v q => ?_⟩
    obtain ⟨rfl, h8⟩ := hr e (h3 e v q).1
    exact ⟨rfl, rfl, h8⟩
theorem rel_none {mine : Int} {rel : Op Unit} {l l' : List Int} {L : List Item} {o : Op RD} (h : Path (asRep (libRel mine rel)) l L o l') (h1 : getL l mine ≠ 1) : L = [] ∧ l' = l ∧ ∀ e v, o = .ret (e, v) → e = 9 := by
 obtain ⟨o2, h2, h3⟩ := asRep_path h
 unfold libRel at h2
 cases h2 with
 | nil => exact ⟨rfl, rfl, fun e v q => by cases (h3 e v q).1⟩
 | get h2 =>
  dsimp only at h2
  rw [if_neg h1] at h2
  obtain ⟨rfl, q, rfl⟩ := path_ret h2
  exact ⟨rfl, rfl, fun e v q2 => by have := (h3 e v q2).1; rw [q] at this; cases this; rfl⟩
end Go.Proofs.YtpodgcpkccpnfaaGreat

namespace Go.Proofs.YtpodgcpkccpnfaaGreat
open Go.RowKit
def segsOf (b : Nat → GC → Option Seg) : Nat → List GC → List Seg
 | _, [] => []
 | i, c :: cs => match b i c with
  | some s => s :: segsOf b (i + 1) cs
  | none => segsOf b (i + 1) cs
theorem segs_get {b : Nat → GC → Option Seg} : ∀ {cs : List GC} {i k : Nat} {s : Seg}, (segsOf b i cs)[k]? = some s → ∃ m c, cs[m]? = some c ∧ b (i + m) c = some s
 | [], i, k, s, h => by cases h
 | c :: cs, i, k, s, h => by
  unfold segsOf at h
  cases e : b i c with
  | none =>
   rw [e] at h
   obtain ⟨m, c', h1, h2⟩ := segs_get h
   exact ⟨m + 1, c', h1, by rw [← h2]; congr 1; omega⟩
  | some s0 =>
   rw [e] at h
   cases k with
   | zero => cases h; exact ⟨0, c, rfl, e⟩
   | succ k =>
    obtain ⟨m, c', h1, h2⟩ := segs_get (k := k) h
    exact ⟨m + 1, c', h1, by rw [← h2]; congr 1; omega⟩
theorem segs_lt {b : Nat → GC → Option Seg} : ∀ {cs : List GC} {i k j : Nat} {s s' : Seg}, k < j → (segsOf b i cs)[k]? = some s → (segsOf b i cs)[j]? = some s' → ∃ m m' c c', m < m' ∧ cs[m]? = some c ∧ cs[m']? = some c' ∧ b (i + m) c = some s ∧ b (i + m') c' = some s'
 | [], i, k, j, s, s', _, h, _ => by cases h
 | c :: cs, i, k, j, s, s', hkj, h, h' => by
  unfold segsOf at h h'
  cases e : b i c with
  | none =>
   rw [e] at h h'
   obtain ⟨m, m', c1, c2, h0, h1, h2, h3, h4⟩ := segs_lt hkj h h'
   exact ⟨m + 1, m' + 1, c1, c2, by omega, h1, h2, by rw [← h3]; congr 1; omega, by rw [← h4]; congr 1; omega⟩
  | some s0 =>
   rw [e] at h h'
   obtain ⟨j, rfl⟩ : ∃ n, j = n + 1 := ⟨j - 1, by omega⟩
   cases k with
   | zero =>
    cases h
    obtain ⟨m, c', h1, h2⟩ := segs_get (k := j) h'
    exact ⟨0, m + 1, c, c', by omega, rfl, h1, e, by rw [← h2]; congr 1; omega⟩
   | succ k =>
    obtain ⟨m, m', c1, c2, h0, h1, h2, h3, h4⟩ := segs_lt (k := k) (j := j) (by omega) h h'
    exact ⟨m + 1, m' + 1, c1, c2, by omega, h1, h2, by rw [← h3]; congr 1; omega, by rw [← h4]; congr 1; omega⟩
theorem segs_of {b : Nat → GC → Option Seg} : ∀ {cs : List GC} {i m : Nat} {c : GC} {s : Seg}, cs[m]? = some c → b (i + m) c = some s → ∃ k, (segsOf b i cs)[k]? = some s ∧ (∀ c' s', cs[m + 1]? = some c' → b (i + m + 1) c' = some s' → (segsOf b i cs)[k + 1]? = some s') ∧ (cs[m + 1]? = none → (segsOf b i cs)[k + 1]? = none)
 | [], i, m, c, s, h, _ => by cases h
 | c0 :: cs, i, m, c, s, h, hb => by
  cases m with
  | zero =>
   cases h
   have e : segsOf b i (c0 :: cs) = s :: segsOf b (i + 1) cs := by
    show (match b i c0 with | some s => s :: segsOf b (i + 1) cs | none => segsOf b (i + 1) cs) = _
    rw [show b i c0 = some s from hb]
   rw [e]
   refine ⟨0, rfl, fun c' s' h1 h2 => ?_, fun h1 => ?_⟩
   · rcases cs with _ | ⟨c1, cs⟩
     · cases h1
     · cases h1
       show (match b (i + 1) c' with | some s => s :: segsOf b (i + 2) cs | none => segsOf b (i + 2) cs)[0]? = _
       rw [show b (i + 1) c' = some s' from h2]; rfl
   · rcases cs with _ | ⟨c1, cs⟩
     · rfl
     · cases h1
  | succ m =>
   have h : cs[m]? = some c := h
   obtain ⟨k, h1, h2, h3⟩ := segs_of (i := i + 1) h (by rw [← hb]; congr 1; omega)
   cases e : b i c0 with
   | none =>
    have e2 : segsOf b i (c0 :: cs) = segsOf b (i + 1) cs := by
     show (match b i c0 with | some s => s :: segsOf b (i + 1) cs | none => segsOf b (i + 1) cs) = _
     rw [e]
    rw [e2]
    exact ⟨k, h1, fun c' s' q1 q2 => h2 c' s' q1 (by rw [← q2]; congr 1; omega), fun q => h3 q⟩
   | some s0 =>
    have e2 : segsOf b i (c0 :: cs) = s0 :: segsOf b (i + 1) cs := by
     show (match b i c0 with | some s => s :: segsOf b (i + 1) cs | none => segsOf b (i + 1) cs) = _
     rw [e]
    rw [e2]
    exact ⟨k + 1, h1, fun c' s' q1 q2 => h2 c' s' q1 (by rw [← q2]; congr 1; omega), fun q => h3 q⟩
structure Alt (M : MD) (progs : List (List CD)) (mine : Int) (acq : Nat → Op Int) (rel : Nat → Op Unit) : Prop where
 hm : 0 ≤ mine ∧ mine < 32768
 call : ∀ t i, t < progs.length → i < (progs.getD t []).length → M.P t (callAt progs t i) = if i % 2 = 0 then asRep (libAcq mine (acq t)) else asRep (libRel mine (rel t))
 ka : ∀ t, (acq t).keeps mine
 kr : ∀ t, (rel t).keeps mine
def altT (acq : Nat → Op Int) (rel : Nat → Op Unit) (t op : Nat) : Op Int := if op = 0 then acq t else (rel t).bind fun _ => .ret 0
def altSeg (mine : Int) (i : Nat) (c : GC) : Option Seg := if i % 2 = 0 then some ⟨0, c.p0, c.items, c.res.map (·.2.1)⟩ else if getL c.loc mine = 1 then some ⟨1, c.p0, c.items, c.res.map (·.2.1)⟩ else none
def altG (mine : Int) (C : Nat → List GC) (t : Nat) : List Seg := segsOf (altSeg mine) 0 (C t)
section
variable {M : MD} {progs : List (List CD)} {H : List Atom} {C : Nat → List GC} {mine : Int} {acq : Nat → Op Int} {rel : Nat → Op Unit}
theorem alt_mine (hL : Logs M progs H C) (hA : Alt M progs mine acq rel) {t : Nat} (ht : t < progs.length) : ∀ (i : Nat) (c : GC), (C t)[i]? = some c → (i % 2 = 0 → getL c.loc mine = 0) ∧ (i % 2 = 1 → ∃ d p e v, (C t)[i - 1]? = some d ∧ d.res = some (p, e, v) ∧ getL c.loc mine = if e = 0 then 1 else 0)
 | 0, c, hc => ⟨fun _ => by rw [hL.loc0 t ht c hc]; rw [getL_eq]; split <;> rfl, fun h => by cases h⟩
 | i + 1, c, hc => by
  obtain ⟨d, p, e, v, h1, h2, h3, h4⟩ := hL.next t ht i c hc
  have hd := hL.call t ht i d h1
  obtain ⟨o, l, hp, hr⟩ := hd.path
  obtain ⟨rfl, hout⟩ := hr p e v h2
  have ih := alt_mine hL hA ht i d h1
  rw [hA.call t i ht hd.lt] at hp
  have hg : getL c.loc mine = getL l mine := by rw [h4, hout, getL_short _ hA.hm.1]
  by_cases hi : i % 2 = 0
  · rw [if_pos hi] at hp
    have h0 := ih.1 hi
    obtain ⟨o1, l1, q1, q2⟩ := acq_path hA.hm (hA.ka t) hp (by rw [h0]; decide)
    obtain ⟨_, q3⟩ := q2 e v rfl
    refine ⟨fun h => by omega, fun _ => ⟨d, p, e, v, h1, h2, ?_⟩⟩
    rw [hg, q3, h0]
  · rw [if_neg hi] at hp
    refine ⟨fun _ => ?_, fun h => by omega⟩
    rw [hg]
    obtain ⟨d', p', e', v', k1, k2, k3⟩ := ih.2 (by omega)
    by_cases h5 : getL d.loc mine = 1
    · obtain ⟨o1, l1, q1, q2⟩ := rel_path hA.hm hp h5
      exact (q2 e v rfl).2.2
    · obtain ⟨_, rfl, _⟩ := rel_none hp h5
      rw [k3] at h5 ⊢
      split at h5
      · exact absurd rfl h5
      · rename_i h6; rw [if_neg h6]
theorem altSeg_even {i : Nat} {c : GC} (h : i % 2 = 0) : altSeg mine i c = some ⟨0, c.p0, c.items, c.res.map (·.2.1)⟩ := if_pos h
theorem altSeg_some {i : Nat} {c : GC} {s : Seg} (h : altSeg mine i c = some s) : s.lo = c.p0 ∧ s.items = c.items ∧ s.res = c.res.map (·.2.1) ∧ (i % 2 = 0 ∧ s.op = 0 ∨ i % 2 = 1 ∧ s.op = 1 ∧ getL c.loc mine = 1) := by
 unfold altSeg at h
 split at h
 · rename_i h1; cases h; exact ⟨rfl, rfl, rfl, .inl ⟨h1, rfl⟩⟩
 · split at h
   · rename_i h1 h2; cases h; exact ⟨rfl, rfl, rfl, .inr ⟨by omega, rfl, h2⟩⟩
   · cases h
theorem alt_path (hL : Logs M progs H C) (hA : Alt M progs mine acq rel) {t i : Nat} (ht : t < progs.length) {c : GC} (hc : (C t)[i]? = some c) {s : Seg} (hs : altSeg mine i c = some s) :
 ∃ o l, Path (altT acq rel t s.op) c.loc s.items o l ∧ ∀ e, s.res = some e → o = .ret e := by
 have hd := hL.call t ht i c hc
 obtain ⟨o, l, hp, hr⟩ := hd.path
 rw [hA.call t i ht hd.lt] at hp
 obtain ⟨e1, e2, e3, e4⟩ := altSeg_some hs
 have hm := alt_mine hL hA ht i c hc
 rw [e2, e3]
 have hres : ∀ e, c.res.map (·.2.1) = some e → ∃ v, o = .ret (e, v) := fun e q => by
  rcases hcr : c.res with _ | ⟨p, e', v⟩
  · rw [hcr] at q; cases q
  · rw [hcr] at q; cases q
    exact ⟨v, (hr p _ v hcr).1⟩
 rcases e4 with ⟨h1, h2⟩ | ⟨h1, h2, h3⟩
 · rw [if_pos h1] at hp
   obtain ⟨o1, l1, q1, q2⟩ := acq_path hA.hm (hA.ka t) hp (by rw [hm.1 h1]; decide)
   refine ⟨o1, l1, by rw [h2]; exact q1, fun e q => ?_⟩
   obtain ⟨v, hv⟩ := hres e q
   exact (q2 e v hv).1
 · rw [if_neg (by omega)] at hp
   obtain ⟨o1, l1, q1, q2⟩ := rel_path hA.hm hp h3
   refine ⟨o1, l1, by rw [h2]; exact q1, fun e q => ?_⟩
   obtain ⟨v, hv⟩ := hres e q
   obtain ⟨rfl, q3, _⟩ := q2 e v hv
   exact q3
theorem alt_segs (hL : Logs M progs H C) (hA : Alt M progs mine acq rel) (cells : Int → Prop) : Segs progs C (altT acq rel) cells H.length (altG mine C) := by
 refine ⟨fun t k s ht hs => ?_, fun t k s it ht hs hit => ?_, fun t k s ht hs => ?_, fun t k s ht hs => ?_, fun t k j s s' ht hkj hs hs' => ?_, fun t i a b e x hi _ => ?_⟩
 · obtain ⟨m, c, h1, h2⟩ := segs_get hs
   rw [Nat.zero_add] at h2
   obtain ⟨o, l, q⟩ := alt_path hL hA ht h1 h2
   exact ⟨c.loc, o, l, q⟩
 · obtain ⟨m, c, h1, h2⟩ := segs_get hs
   obtain ⟨e1, e2, e3, e4⟩ := altSeg_some h2
   exact ⟨m, ht, c, h1, by rw [← e2]; exact hit⟩
 · obtain ⟨m, c, h1, h2⟩ := segs_get hs
   obtain ⟨e1, e2, e3, e4⟩ := altSeg_some h2
   obtain ⟨now, h3⟩ := (hL.call t ht m c h1).at0
   rw [e1]; exact (List.getElem?_eq_some_iff.1 h3).1
 · obtain ⟨m, c, h1, h2⟩ := segs_get hs
   obtain ⟨e1, e2, e3, e4⟩ := altSeg_some h2
   rw [e1, e2]; exact (hL.call t ht m c h1).seq
 · obtain ⟨m, m', c, c', h0, h1, h2, h3, h4⟩ := segs_lt hkj hs hs'
   obtain ⟨e1, e2, e3, e4⟩ := altSeg_some h3
   obtain ⟨f1, f2, f3, f4⟩ := altSeg_some h4
   obtain ⟨p, e, v, g1, g2⟩ := hL.calls ht h0 h1 h2
   have := (hL.call t ht m c h1).res p e v g1
   refine ⟨by rw [e1, e2, f1]; omega, e, by rw [e3, g1]; rfl⟩
 · obtain ⟨ht, c, hc, hm⟩ := hi
   cases hs : altSeg mine i c with
   | none =>
    exfalso
    have hd := hL.call t ht i c hc
    obtain ⟨o, l, hp, hr⟩ := hd.path
    rw [hA.call t i ht hd.lt] at hp
    unfold altSeg at hs
    split at hs
    · cases hs
    · rename_i h1
      split at hs
      · cases hs
      · rename_i h2
        rw [if_neg h1] at hp
        obtain ⟨h3, _⟩ := rel_none hp h2
        rw [h3] at hm; cases hm
   | some s =>
    obtain ⟨k, h1, _⟩ := segs_of (b := altSeg mine) (i := 0) hc (by rw [Nat.zero_add]; exact hs)
    exact ⟨k, s, h1, by rw [(altSeg_some hs).2.1]; exact hm⟩
def HasAt (C : Nat → List GC) (t q : Nat) : Prop := ∃ i c r v, i % 2 = 0 ∧ (C t)[i]? = some c ∧ c.res = some (r, 0, v) ∧ r < q ∧ ∀ c', (C t)[i + 1]? = some c' → q ≤ c'.p0
theorem HasAt.seg (hL : Logs M progs H C) (hA : Alt M progs mine acq rel) {t q : Nat} (ht : t < progs.length) (hq : q ≤ H.length) (h : HasAt C t q) :
 ∃ k s, (altG mine C t)[k]? = some s ∧ s.op = 0 ∧ s.res = some 0 ∧ lastP s.lo s.items < q ∧ q ≤ nextLo H.length (altG mine C t) k := by
 obtain ⟨i, c, r, v, h1, h2, h3, h4, h5⟩ := h
 have hd := hL.call t ht i c h2
 obtain ⟨g1, _⟩ := hd.res r 0 v h3
 obtain ⟨k, k1, k2, k3⟩ := segs_of (b := altSeg mine) (i := 0) h2 (by rw [Nat.zero_add]; exact altSeg_even h1)
 refine ⟨k, _, k1, rfl, by rw [h3]; rfl, by show lastP c.p0 c.items < q; omega, ?_⟩
 unfold nextLo
 cases hn : (C t)[i + 1]? with
 | none => rw [show (altG mine C t)[k + 1]? = none from k3 hn]; exact hq
 | some c' =>
  obtain ⟨d, p, e, v', m1, m2, m3⟩ := (alt_mine hL hA ht (i + 1) c' hn).2 (by omega)
  rw [Nat.add_sub_cancel, h2] at m1
  cases m1
  rw [h3] at m2
  cases m2
  rw [if_pos rfl] at m3
  have hs : altSeg mine (i + 1) c' = some ⟨1, c'.p0, c'.items, c'.res.map (·.2.1)⟩ := by unfold altSeg; rw [if_neg (by omega), if_pos m3]
  rw [show (altG mine C t)[k + 1]? = some _ from k2 c' _ hn (by rw [Nat.zero_add]; exact hs)]
  exact h5 c' hn
end
end Go.Proofs.YtpodgcpkccpnfaaGreat

namespace Go.Proofs.YtpodgcpkccpnfaaGreat
open Go.RowKit
abbrev ActD := EvD × CD
def moreOp (read : Bool) (op : Int) : Bool := if read = true then decide (op = 9) else decide (op = 1 ∨ op = 3 ∨ op = 4 ∨ op = 6 ∨ op = 11)
def lessOp (read : Bool) (op : Int) : Bool := if read = true then decide (op = 10) else decide (op = 2 ∨ op = 5 ∨ op = 7 ∨ op = 12)
def hasUp (read : Bool) (k : Int) (a : ActD) : Int := if moreOp read a.2.1 = true ∧ a.1.kind = 2 ∧ a.1.err = 0 then k + 1 else k
def hasDn (read : Bool) (k : Int) (a : ActD) : Int := if lessOp read a.2.1 = true ∧ a.1.kind = 1 ∧ 0 < k then k - 1 else k
def hasStep (t : Int) (read : Bool) (k : Int) (a : ActD) : Int := if a.1.thread = t then hasDn read (hasUp read k a) a else k
def hasP (l : List ActD) (t : Int) (read : Bool) : Int := l.foldl (hasStep t read) 0
def sumTo (f : Nat → Int) : Nat → Int
 | 0 => 0
 | n + 1 => sumTo f n + f n
def waitsStep (t c : Int) (is : Bool) (a : ActD) : Bool := if a.1.thread = t ∧ a.1.call = c ∧ a.1.kind = 3 ∧ a.2.1 = 1 then (if a.1.val = 3 ∨ a.1.val = 4 then false else if a.1.val = 2 then true else is) else is
def waitsP (l : List ActD) (t c : Int) : Bool := l.foldl (waitsStep t c) false
def isCall (b : EvD) (e : EvD) : Prop := b.kind = 1 ∧ b.thread = e.thread ∧ b.call = e.call
def ExclP (l : List ActD) (n : Nat) : Prop := ∀ m, m ≤ l.length → sumTo (fun p => hasP (l.take m) p false) n ≤ 1
def DoorsP (l : List ActD) : Prop := ∀ (i : Nat) (a : ActD), l[i]? = some a → a.2.1 = 1 → a.1.kind = 3 → a.1.val = 3 → ∀ (k : Nat) (b : ActD), k < i → l[k]? = some b → isCall b.1 a.1 → ∀ p c : Int, 0 ≤ p → p ≠ a.1.thread → ¬ (waitsP (l.take k) p c = true ∧ waitsP (l.take i) p c = true)
def ErrsP (l : List EvD) : Prop := ∀ e, e ∈ l → e.kind = 2 → e.err ≠ 0 → (e.call % 2 = 0 → e.err = 11) ∧ (e.call % 2 = 1 → e.err = 9)
theorem sumTo_one {f : Nat → Int} : ∀ (n : Nat), (∀ p, p < n → f p = 0 ∨ f p = 1) → (∀ p q, p < n → q < n → f p = 1 → f q = 1 → p = q) → sumTo f n = 0 ∨ sumTo f n = 1 ∧ ∃ p, p < n ∧ f p = 1
 | 0, _, _ => .inl rfl
 | n + 1, h, h2 => by
  rcases sumTo_one n (fun p hp => h p (by omega)) (fun p q hp hq => h2 p q (by omega) (by omega)) with ih | ⟨ih, p, hp, hf⟩
  · rcases h n (by omega) with e | e
    · left; show sumTo f n + f n = 0; rw [ih, e]; rfl
    · right; refine ⟨?_, n, by omega, e⟩; show sumTo f n + f n = 1; rw [ih, e]; rfl
  · rcases h n (by omega) with e | e
    · right; refine ⟨?_, p, by omega, hf⟩; show sumTo f n + f n = 1; rw [ih, e]; rfl
    · exfalso; have := h2 p n (by omega) (by omega) hf e; omega
theorem fm_get {α β : Type} {g : α → Option β} : ∀ {H : List α} {i : Nat} {e : β}, (H.filterMap g)[i]? = some e → ∃ q A, H[q]? = some A ∧ g A = some e ∧ (H.filterMap g).take i = (H.take q).filterMap g
 | [], i, e, h => by cases h
 | A :: H, i, e, h => by
  cases hA : g A with
  | none =>
   rw [List.filterMap_cons_none hA] at h
   obtain ⟨q, B, h1, h2, h3⟩ := fm_get h
   refine ⟨q + 1, B, h1, h2, ?_⟩
   rw [List.filterMap_cons_none hA, List.take_succ_cons, List.filterMap_cons_none hA]; exact h3
  | some x =>
   rw [List.filterMap_cons_some hA] at h
   cases i with
   | zero => cases h; exact ⟨0, A, rfl, hA, by simp⟩
   | succ i =>
    obtain ⟨q, B, h1, h2, h3⟩ := fm_get (i := i) h
    refine ⟨q + 1, B, h1, h2, ?_⟩
    rw [List.filterMap_cons_some hA, List.take_succ_cons, List.take_succ_cons, List.filterMap_cons_some hA, h3]
theorem fm_take {α β : Type} {g : α → Option β} : ∀ (H : List α) (m : Nat), ∃ q, q ≤ H.length ∧ (H.filterMap g).take m = (H.take q).filterMap g
 | [], m => ⟨0, Nat.le_refl _, by simp⟩
 | A :: H, m => by
  cases hA : g A with
  | none =>
   obtain ⟨q, h0, h1⟩ := fm_take (g := g) H m
   refine ⟨q + 1, by simp; omega, ?_⟩
   rw [List.filterMap_cons_none hA, List.take_succ_cons, List.filterMap_cons_none hA]; exact h1
  | some x =>
   cases m with
   | zero => exact ⟨0, by simp, by simp⟩
   | succ m =>
    obtain ⟨q, h0, h1⟩ := fm_take (g := g) H m
    refine ⟨q + 1, by simp; omega, ?_⟩
    rw [List.filterMap_cons_some hA, List.take_succ_cons, List.take_succ_cons, List.filterMap_cons_some hA, h1]
def actOf (progs : List (List CD)) (e : EvD) : ActD := (e, callAt progs e.thread.toNat e.call.toNat)
def actsOf (progs : List (List CD)) (l : List EvD) : List ActD := l.map (actOf progs)
theorem vis_call {A : Atom} {e : EvD} (h : vis A = some e) : e.thread = A.t ∧ e.call = A.i := by
 unfold vis at h
 cases hw : A.w <;> rw [hw] at h <;> cases h <;> exact ⟨rfl, rfl⟩
def Ops12 (progs : List (List CD)) : Prop := ∀ t i, t < progs.length → i < (progs.getD t []).length → (callAt progs t i).1 = if i % 2 = 0 then 1 else 2
section
variable {M : MD} {progs : List (List CD)} {H : List Atom} {C : Nat → List GC} {mine : Int} {acq : Nat → Op Int} {rel : Nat → Op Unit}
def AloneL (N n : Nat) (G : Nat → List Seg) : Prop := ∀ t t' k k' s s', t < n → t' < n → t' ≠ t → (G t)[k]? = some s → (G t')[k']? = some s' → s.op = 0 → s'.op = 0 → s.res = some 0 → s'.res = some 0 → lastP s.lo s.items < nextLo N (G t') k' → lastP s'.lo s'.items < nextLo N (G t) k → False
theorem actOf_vis (progs : List (List CD)) {A : Atom} {e : EvD} (h : vis A = some e) : actOf progs e = (e, callAt progs A.t A.i) := by
 obtain ⟨h1, h2⟩ := vis_call h
 unfold actOf
 rw [h1, h2, Int.toNat_natCast, Int.toNat_natCast]
theorem take_snoc {α : Type} {H : List α} {q : Nat} {A : α} (h : H[q]? = some A) : H.take (q + 1) = H.take q ++ [A] := by
 rw [List.take_add_one, h]; rfl
def hasQ (progs : List (List CD)) (H : List Atom) (t q : Nat) : Int := hasP (actsOf progs ((H.take q).filterMap vis)) t false
theorem hasQ_succ (progs : List (List CD)) {H : List Atom} {q : Nat} {A : Atom} (h : H[q]? = some A) (t : Nat) : hasQ progs H t (q + 1) = match vis A with | none => hasQ progs H t q | some e => hasStep t false (hasQ progs H t q) (e, callAt progs A.t A.i) := by
 unfold hasQ hasP actsOf
 rw [take_snoc h, List.filterMap_append, List.map_append, List.foldl_append]
 cases hv : vis A with
 | none => rw [List.filterMap_cons_none hv]; rfl
 | some e => rw [List.filterMap_cons_some hv]; simp [actOf_vis progs hv]
theorem HasAt.on (hL : Logs M progs H C) {t q : Nat} (ht : t < progs.length) {A : Atom} (hA : H[q]? = some A) (h : HasAt C t q) (hn : ¬ (A.t = t ∧ A.i % 2 = 1 ∧ A.w = .call)) : HasAt C t (q + 1) := by
 obtain ⟨i, c, r, v, h1, h2, h3, h4, h5⟩ := h
 refine ⟨i, c, r, v, h1, h2, h3, by omega, fun c' hc' => ?_⟩
 have := h5 c' hc'
 rcases Nat.lt_or_ge q c'.p0 with h6 | h6
 · exact h6
 · exfalso
   obtain ⟨now, h7⟩ := (hL.call t ht (i + 1) c' hc').at0
   rw [show c'.p0 = q by omega, hA] at h7
   cases h7
   exact hn ⟨rfl, by show (i + 1) % 2 = 1; omega, rfl⟩
theorem hasQ_inv (hL : Logs M progs H C) (hO : Ops12 progs) {t : Nat} (ht : t < progs.length) : ∀ q, q ≤ H.length → hasQ progs H t q = 0 ∨ hasQ progs H t q = 1 ∧ HasAt C t q
 | 0, _ => .inl rfl
 | q + 1, hq => by
  have ih := hasQ_inv hL hO ht q (by omega)
  obtain ⟨A, hA⟩ : ∃ A, H[q]? = some A := ⟨H[q], List.getElem?_eq_getElem (by omega)⟩
  obtain ⟨hAt, hcov⟩ := hL.cov q A hA
  rw [hasQ_succ progs hA]
  obtain ⟨k, hk⟩ : ∃ k, hasQ progs H t q = k := ⟨_, rfl⟩
  rw [hk] at ih ⊢
  have same : ¬ (A.t = t ∧ A.i % 2 = 1 ∧ A.w = .call) → k = 0 ∨ k = 1 ∧ HasAt C t (q + 1) := fun hn => ih.imp id fun h => ⟨h.1, h.2.on hL ht hA hn⟩
  cases hv : vis A with
  | none => exact same fun h => by rw [vis, h.2.2] at hv; cases hv
  | some e =>
   show hasStep t false k (e, callAt progs A.t A.i) = 0 ∨ hasStep t false k (e, callAt progs A.t A.i) = 1 ∧ _
   obtain ⟨v1, v2⟩ := vis_call hv
   unfold hasStep
   by_cases htt : A.t = t
   · have hop : A.w ≠ .halt → (callAt progs A.t A.i).1 = if A.i % 2 = 0 then 1 else 2 := fun hw => by
      rcases hcov with h | ⟨c, hc, _⟩
      · exact absurd h hw
      · exact hO A.t A.i hAt (hL.call A.t hAt A.i c hc).lt
     rw [if_pos (by show e.thread = (t : Int); rw [v1, htt])]
     have hid : (∀ k', hasUp false k' (e, callAt progs A.t A.i) = k') → (∀ k', hasDn false k' (e, callAt progs A.t A.i) = k') → hasDn false (hasUp false k (e, callAt progs A.t A.i)) (e, callAt progs A.t A.i) = k := fun h1 h2 => by rw [h1, h2]
     have up0 : e.kind ≠ 2 → ∀ k', hasUp false k' (e, callAt progs A.t A.i) = k' := fun h k' => if_neg fun h2 => h h2.2.1
     have dn0 : e.kind ≠ 1 → ∀ k', hasDn false k' (e, callAt progs A.t A.i) = k' := fun h k' => if_neg fun h2 => h h2.2.1
     cases hw : A.w with
     | call =>
      have he : e.kind = 1 := by unfold vis at hv; rw [hw] at hv; cases hv; rfl
      have hop := hop (by rw [hw]; intro h; cases h)
      by_cases hp : A.i % 2 = 0
      · rw [if_pos hp] at hop
        have : ∀ k', hasDn false k' (e, callAt progs A.t A.i) = k' := fun k' => if_neg fun h2 => by
         have h3 := h2.1
         rw [show (e, callAt progs A.t A.i).2.1 = (callAt progs A.t A.i).1 from rfl, hop] at h3
         exact absurd h3 (by decide)
        rw [hid (up0 (by rw [he]; decide)) this]
        exact same fun h => by omega
      · rw [if_neg hp] at hop
        rw [up0 (by rw [he]; decide)]
        left
        unfold hasDn
        have hl : lessOp false (e, callAt progs A.t A.i).2.1 = true := by
         rw [show (e, callAt progs A.t A.i).2.1 = (callAt progs A.t A.i).1 from rfl, hop]; rfl
        by_cases hk0 : 0 < k
        · rw [if_pos ⟨hl, he, hk0⟩]
          rcases ih with h | h <;> omega
        · rw [if_neg fun h => hk0 h.2.2]
          rcases ih with h | h <;> omega
     | note x =>
      have he : e.kind = 3 := by unfold vis at hv; rw [hw] at hv; cases hv; rfl
      rw [hid (up0 (by rw [he]; decide)) (dn0 (by rw [he]; decide))]
      exact same fun h => by rw [hw] at h; cases h.2.2
     | halt =>
      have he : e.kind = 4 := by unfold vis at hv; rw [hw] at hv; cases hv; rfl
      rw [hid (up0 (by rw [he]; decide)) (dn0 (by rw [he]; decide))]
      exact same fun h => by rw [hw] at h; cases h.2.2
     | beg a => unfold vis at hv; rw [hw] at hv; cases hv
     | fin a x => unfold vis at hv; rw [hw] at hv; cases hv
     | ret x y =>
      have he : e.kind = 2 ∧ e.err = x := by unfold vis at hv; rw [hw] at hv; cases hv; exact ⟨rfl, rfl⟩
      rw [dn0 (by rw [he.1]; decide)]
      have hop := hop (by rw [hw]; intro h; cases h)
      by_cases hp : A.i % 2 = 0 ∧ x = 0
      · rw [if_pos hp.1] at hop
        have hup : hasUp false k (e, callAt progs A.t A.i) = k + 1 := if_pos ⟨by rw [show (e, callAt progs A.t A.i).2.1 = (callAt progs A.t A.i).1 from rfl, hop]; rfl, he.1, by rw [show (e, callAt progs A.t A.i).1.err = e.err from rfl, he.2]; exact hp.2⟩
        rw [hup]
        rcases hcov with h | ⟨c, hc, hcr⟩
        · rw [hw] at h; cases h
        rw [hw] at hcr
        have hcr : c.res = some (q, x, y) := hcr
        rw [htt] at hc
        rcases ih with h0 | ⟨h0, i, d, r, v, g1, g2, g3, g4, g5⟩
        · right
          refine ⟨by rw [h0]; rfl, A.i, c, q, y, hp.1, hc, by rw [hcr, hp.2], by omega, fun c' hc' => ?_⟩
          obtain ⟨p, e', v', k1, k2⟩ := hL.calls ht (Nat.lt_succ_self A.i) hc hc'
          rw [hcr] at k1; cases k1
          omega
        · exfalso
          have hdr := (hL.call t ht i d g2).res r 0 v g3
          have hcl := (hL.call t ht A.i c hc).res q x y hcr
          rcases Nat.lt_trichotomy A.i i with h7 | h7 | h7
          · obtain ⟨p, e', v', k1, k2⟩ := hL.calls ht h7 hc g2
            rw [hcr] at k1; cases k1
            have := (hL.call t ht i d g2).seq.le_last
            omega
          · subst h7
            rw [hc] at g2; cases g2
            rw [hcr] at g3; cases g3
            omega
          · have hlt : i + 1 < (C t).length := by have := (List.getElem?_eq_some_iff.1 hc).1; omega
            obtain ⟨c', hc'⟩ : ∃ c', (C t)[i + 1]? = some c' := ⟨_, List.getElem?_eq_getElem hlt⟩
            have h8 := g5 c' hc'
            have hne : i + 1 < A.i := by omega
            obtain ⟨p, e', v', k1, k2⟩ := hL.calls ht hne hc' hc
            have hp1 := (hL.call t ht (i + 1) c' hc').res p e' v' k1
            have h9 := (hL.call t ht (i + 1) c' hc').seq.le_last
            have h10 := (hL.call t ht A.i c hc).seq.le_last
            omega
      · have hup : hasUp false k (e, callAt progs A.t A.i) = k := if_neg fun h => by
         have h1 := h.1
         rw [show (e, callAt progs A.t A.i).2.1 = (callAt progs A.t A.i).1 from rfl, hop] at h1
         have h2 : e.err = 0 := h.2.2
         rw [he.2] at h2
         by_cases h3 : A.i % 2 = 0
         · exact hp ⟨h3, h2⟩
         · rw [if_neg h3] at h1; exact absurd h1 (by decide)
        rw [hup]
        exact same fun h => by rw [hw] at h; cases h.2.2
   · rw [if_neg (by show ¬ e.thread = (t : Int); rw [v1]; omega)]
     exact same fun h => htt h.1
theorem excl_of (hL : Logs M progs H C) (hA : Alt M progs mine acq rel) (hO : Ops12 progs) (hAl : AloneL H.length progs.length (altG mine C)) : ExclP (actsOf progs (H.filterMap vis)) progs.length := by
 intro m _
 unfold actsOf
 rw [← List.map_take]
 obtain ⟨q, hq, e⟩ := fm_take (g := vis) H m
 rw [e]
 have hf : (fun p : Nat => hasP (List.map (actOf progs) ((H.take q).filterMap vis)) p false) = fun p => hasQ progs H p q := rfl
 rw [hf]
 have hone := sumTo_one progs.length (f := fun p => hasQ progs H p q) (fun p hp => (hasQ_inv hL hO hp q hq).imp id And.left) (fun p p' hp hp' h1 h2 => by
  rcases Nat.decEq p p' with hne | he
  · exfalso
    have a1 := (hasQ_inv hL hO hp q hq).resolve_left (by rw [show hasQ progs H p q = 1 from h1]; decide)
    have a2 := (hasQ_inv hL hO hp' q hq).resolve_left (by rw [show hasQ progs H p' q = 1 from h2]; decide)
    obtain ⟨k, s, k1, k2, k3, k4, k5⟩ := a1.2.seg hL hA hp hq
    obtain ⟨k', s', k1', k2', k3', k4', k5'⟩ := a2.2.seg hL hA hp' hq
    exact hAl p p' k k' s s' hp hp' (Ne.symm hne) k1 k1' k2 k2' k3 k3' (by omega) (by omega)
  · exact he)
 rcases hone with h | ⟨h, _⟩ <;> omega
end
end Go.Proofs.YtpodgcpkccpnfaaGreat

namespace Go.Proofs.YtpodgcpkccpnfaaGreat
open Go.RowKit
def oneB (n : Int) (l : List Int) : Bool := l.any fun x => decide (x = n)
theorem oneB_drop (n : Int) (l : List Int) {i : Nat} (h : i < l.length) : oneB n (l.drop i) = (decide (l.getD i 0 = n) || oneB n (l.drop (i + 1))) := by
 rw [List.drop_eq_getElem_cons h]
 unfold oneB
 rw [List.any_cons, List.getD_eq_getElem?_getD, List.getElem?_eq_getElem h]; rfl
theorem one_any (n : Int) (l : List Int) (A : Option Addr) (c : Nat) (w : World) (hl : l.length ≤ 1000) (hr : Row w A l.length (IVal l)) :
 Calls Tryz.prog 41 #[.int .i64 n, .slice A l.length c] w fun e w' => e = .returned (.bool (oneB n l)) ∧ w' = w := by
 have HR := hQ' hr
 have HD := hQ' (fun i h => oneB_drop n l (i := i) h)
 have HD0 := hQ' (show oneB n l = oneB n (l.drop 0) from rfl)
 have HDE := hQ' (show oneB n (l.drop l.length) = false by rw [List.drop_length]; rfl)
 clear hr
 go_enter Tryz.func41, Tryz.ntmps41
 go_wp2_with fail
 go_loopw [5] (fun x wr => ∃ i : Nat, i ≤ l.length ∧ x = .int .i64 i ∧ Hid (oneB n l = oneB n (l.drop i)) ∧ wr = w) (fun x _ => l.length - (intOf x).toNat)
 case atStart => exact ⟨0, by omega, rfl, HD0, rfl⟩
 case round =>
  obtain ⟨i, hi, rfl, HE, rfl⟩ := hrel
  by_cases hlt : i < l.length
  · have hii : (i : Int) < l.length := by omega
    have hi0 : (0 : Int) ≤ i := by omega
    obtain ⟨b, off, eA, x0⟩ := HR.out i hlt
    have HS := hQ' (HD.out i hlt)
    have HLT := hQ' hlt
    rw [eA]
    unfold IVal at x0
    generalize l.getD i 0 = y at *
    clear hlt hi
    by_cases hy : y = n
    · have HF : Hid (oneB n l = true) := hQ' (by rw [HE.out, HS.out]; simp [hy])
      subst hy
      go_wp2_with fail
      go_ret
      exact ⟨by rw [HF.out]; rfl, rfl⟩
    · have HF : Hid (oneB n l = oneB n (l.drop (i + 1))) := hQ' (by rw [HE.out, HS.out]; simp [hy])
      clear HE HS
      go_wp2_with fail
      go_roundw
      case rel => exact ⟨i + 1, HLT.out, by first | rfl | go_num, HF, by first | rfl | trivial⟩
      case measure => have := HLT.out; simp [intOf]; omega
  · have hie : i = l.length := by omega
    subst hie
    have hnl : ¬ ((l.length : Int) < l.length) := by omega
    have HF : Hid (oneB n l = false) := hQ' (HE.out.trans HDE.out)
    clear HE
    go_wp2_with fail
    go_ret
    exact ⟨by rw [HF.out]; rfl, rfl⟩
theorem row_made (w : World) (l : List Int) (t : TypeId) : Row (w.alloc (.cells (icells l).toArray t)) (some ⟨w.heap.size, 0, none⟩) l.length (IVal l) := fun k hk => by
 refine ⟨w.heap.size, 0, rfl, ?_⟩
 rw [Nat.zero_add, World.cell?_alloc_at _ _ _ _ rfl]
 unfold icells IVal
 simp [hk]
def act0 : ActD := (⟨0, 0, 0, 0, 0, 0, 0⟩, 0, 0, 0)
structure Act1 (w : World) (b o : Nat) (a : ActD) : Prop where
 c0 : w.cell? ⟨b, o, none⟩ = some (.int .i64 a.1.at')
 c1 : w.cell? ⟨b, o + 1, none⟩ = some (.int .i64 a.1.kind)
 c2 : w.cell? ⟨b, o + 2, none⟩ = some (.int .i64 a.1.thread)
 c3 : w.cell? ⟨b, o + 3, none⟩ = some (.int .i64 a.1.call)
 c4 : w.cell? ⟨b, o + 4, none⟩ = some (.int .i64 a.1.val)
 c5 : w.cell? ⟨b, o + 5, none⟩ = some (.int .i64 a.1.err)
 c6 : w.cell? ⟨b, o + 6, none⟩ = some (.int .i64 a.1.rep)
 c7 : w.cell? ⟨b, o + 7, none⟩ = some (.int .i64 a.2.1)
 c8 : w.cell? ⟨b, o + 8, none⟩ = some (.int .i64 a.2.2.1)
 c9 : w.cell? ⟨b, o + 9, none⟩ = some (.int .i64 a.2.2.2)
theorem Act1.up {w w' : World} {b o : Nat} {a : ActD} (h : Act1 w b o a) (u : Up w w') : Act1 w' b o a := by
 have hl := cell_lt h.c0
 exact ⟨(u.cell hl).trans h.c0, (u.cell hl).trans h.c1, (u.cell hl).trans h.c2, (u.cell hl).trans h.c3, (u.cell hl).trans h.c4, (u.cell hl).trans h.c5, (u.cell hl).trans h.c6, (u.cell hl).trans h.c7, (u.cell hl).trans h.c8, (u.cell hl).trans h.c9⟩
def ActsAt (w : World) (A : Option Addr) (l : List ActD) : Prop := ∀ i, i < l.length → ∃ b off, A = some ⟨b, off, none⟩ ∧ Act1 w b (off + i * 10) (l.getD i act0)
theorem ActsAt.up {w w' : World} {A : Option Addr} {l : List ActD} (h : ActsAt w A l) (u : Up w w') : ActsAt w' A l := fun i hi => by
 obtain ⟨b, off, e, h1⟩ := h i hi
 exact ⟨b, off, e, h1.up u⟩
def actA (a : ActD) : Array Value := #[.int .i64 a.1.at', .int .i64 a.1.kind, .int .i64 a.1.thread, .int .i64 a.1.call, .int .i64 a.1.val, .int .i64 a.1.err, .int .i64 a.1.rep, .int .i64 a.2.1, .int .i64 a.2.2.1, .int .i64 a.2.2.2]
theorem act_box (w : World) (a : ActD) (t : TypeId) : Act1 (w.alloc (.cells (actA a) t)) w.heap.size 0 a := by
 have hb := heap_alloc_new w (.cells (actA a) t)
 exact ⟨cell_of_row _ _ 0 _ _ _ hb, cell_of_row _ _ 1 _ _ _ hb, cell_of_row _ _ 2 _ _ _ hb, cell_of_row _ _ 3 _ _ _ hb, cell_of_row _ _ 4 _ _ _ hb, cell_of_row _ _ 5 _ _ _ hb, cell_of_row _ _ 6 _ _ _ hb, cell_of_row _ _ 7 _ _ _ hb, cell_of_row _ _ 8 _ _ _ hb, cell_of_row _ _ 9 _ _ _ hb⟩
theorem hasP_take (l : List ActD) (t : Int) (read : Bool) {i : Nat} (h : i < l.length) : hasP (l.take (i + 1)) t read = hasStep t read (hasP (l.take i) t read) (l.getD i act0) := by
 unfold hasP
 rw [take_snoc (List.getElem?_eq_getElem h), List.foldl_append, List.getD_eq_getElem?_getD, List.getElem?_eq_getElem h]; rfl
theorem hasStep_in (t : Int) (read : Bool) (k : Int) (a : ActD) (h : 0 ≤ k) : 0 ≤ hasStep t read k a ∧ hasStep t read k a ≤ k + 1 := by
 unfold hasStep hasDn hasUp
 split
 · split <;> split <;> constructor <;> omega
 · constructor <;> omega
theorem hasP_in (l : List ActD) (t : Int) (read : Bool) (i : Nat) : i ≤ l.length → 0 ≤ hasP (l.take i) t read ∧ hasP (l.take i) t read ≤ i := by
 induction i with
 | zero => intro _; simp [hasP]
 | succ i ih =>
  intro hi
  have := ih (by omega)
  have h2 := hasStep_in t read (hasP (l.take i) t read) (l.getD i act0) this.1
  rw [hasP_take l t read (by omega)]
  constructor <;> omega
theorem more_one (op : Int) : oneB op [1, 3, 4, 6, 11] = moreOp false op := by
 unfold oneB moreOp
 rw [if_neg (by decide)]
 simp only [List.any_cons, List.any_nil, Bool.or_false]
 rw [Bool.eq_iff_iff]
 simp only [Bool.or_eq_true, decide_eq_true_eq]
 constructor <;> rintro h <;> omega
theorem less_one (op : Int) : oneB op [2, 5, 7, 12] = lessOp false op := by
 unfold oneB lessOp
 rw [if_neg (by decide)]
 simp only [List.any_cons, List.any_nil, Bool.or_false]
 rw [Bool.eq_iff_iff]
 simp only [Bool.or_eq_true, decide_eq_true_eq]
 constructor <;> rintro h <;> omega
theorem three_cases (m : Bool) (k v e u : Int) : (m = true ∧ k = v ∧ e = u) ∨ m = false ∨ (m = true ∧ k ≠ v) ∨ (m = true ∧ k = v ∧ e ≠ u) := by
 cases m
 · exact .inr (.inl rfl)
 · by_cases h : k = v
   · by_cases h2 : e = u
     · exact .inl ⟨rfl, h, h2⟩
     · exact .inr (.inr (.inr ⟨rfl, h, h2⟩))
   · exact .inr (.inr (.inl ⟨rfl, h⟩))
theorem dn_cases (m : Bool) (k v e : Int) : (m = true ∧ k = v ∧ 0 < e) ∨ m = false ∨ (m = true ∧ k ≠ v) ∨ (m = true ∧ k = v ∧ ¬ 0 < e) := by
 cases m
 · exact .inr (.inl rfl)
 · by_cases h : k = v
   · by_cases h2 : 0 < e
     · exact .inl ⟨rfl, h, h2⟩
     · exact .inr (.inr (.inr ⟨rfl, h, h2⟩))
   · exact .inr (.inr (.inl ⟨rfl, h⟩))
end Go.Proofs.YtpodgcpkccpnfaaGreat

namespace Go.Proofs.YtpodgcpkccpnfaaGreat
open Go.RowKit
theorem flat_get {α : Type} (f : α → List Value) (s : Nat) (d : α) : ∀ (l : List α) (i j : Nat), (∀ a, (f a).length = s) → i < l.length → j < s → (l.flatMap f)[i * s + j]? = (f (l.getD i d))[j]?
 | [], i, j, _, h, _ => by simp at h
 | a :: l, i, j, hf, hi, hj => by
  rw [List.flatMap_cons]
  cases i with
  | zero =>
   rw [Nat.zero_mul, Nat.zero_add, List.getElem?_append_left (by rw [hf]; exact hj)]; rfl
  | succ i =>
   rw [List.getElem?_append_right (by rw [hf, Nat.succ_mul]; omega), hf, show (i + 1) * s + j - s = i * s + j by rw [Nat.succ_mul]; omega]
   exact flat_get f s d l i j hf (by simpa using hi) hj
theorem own_flat {α : Type} {w : World} {B : Nat} {e : TypeId} {s : Nat} {v : Value} {l : List α} {f : α → List Value} (d : α) (h : w.ownsRow B e s v l.length (l.flatMap f)) (hf : ∀ a, (f a).length = s) {i : Nat} (hi : i < l.length) :
 ∃ b cap, v = .slice (some ⟨b, 0, none⟩) l.length cap ∧ B ≤ b ∧ ∀ j, j < s → w.cell? ⟨b, 0 + i * s + j, none⟩ = (f (l.getD i d))[j]? := by
 rcases h.2 with ⟨rfl, e0⟩ | ⟨g, cap, cur, rfl, hg, hh, hcap, hmax, hsz2, hcells⟩
 · omega
 · refine ⟨g, cap, rfl, hg, fun j hj => ?_⟩
   have hlt : i * s + j < l.length * s := by
    have : (i + 1) * s ≤ l.length * s := Nat.mul_le_mul_right s hi
    rw [Nat.succ_mul] at this; omega
   rw [Nat.zero_add, cell_of_row w g (i * s + j) _ _ _ hh, ← flat_get f s d l i j hf hi hj, ← hcells, List.getElem?_take, if_pos hlt]
   simp
def ev0 : EvD := ⟨0, 0, 0, 0, 0, 0, 0⟩
structure Ev1 (w : World) (b o : Nat) (e : EvD) : Prop where
 c0 : w.cell? ⟨b, o, none⟩ = some (.int .i64 e.at')
 c1 : w.cell? ⟨b, o + 1, none⟩ = some (.int .i64 e.kind)
 c2 : w.cell? ⟨b, o + 2, none⟩ = some (.int .i64 e.thread)
 c3 : w.cell? ⟨b, o + 3, none⟩ = some (.int .i64 e.call)
 c4 : w.cell? ⟨b, o + 4, none⟩ = some (.int .i64 e.val)
 c5 : w.cell? ⟨b, o + 5, none⟩ = some (.int .i64 e.err)
 c6 : w.cell? ⟨b, o + 6, none⟩ = some (.int .i64 e.rep)
theorem Ev1.up {w w' : World} {b o : Nat} {e : EvD} (h : Ev1 w b o e) (u : Up w w') : Ev1 w' b o e := by
 have hl := cell_lt h.c0
 exact ⟨(u.cell hl).trans h.c0, (u.cell hl).trans h.c1, (u.cell hl).trans h.c2, (u.cell hl).trans h.c3, (u.cell hl).trans h.c4, (u.cell hl).trans h.c5, (u.cell hl).trans h.c6⟩
def EvsAt (w : World) (A : Option Addr) (l : List EvD) : Prop := ∀ i, i < l.length → ∃ b off, A = some ⟨b, off, none⟩ ∧ Ev1 w b (off + i * 7) (l.getD i ev0)
theorem EvsAt.up {w w' : World} {A : Option Addr} {l : List EvD} (h : EvsAt w A l) (u : Up w w') : EvsAt w' A l := fun i hi => by
 obtain ⟨b, off, e, h1⟩ := h i hi
 exact ⟨b, off, e, h1.up u⟩
theorem EvRow.at' {w : World} {q : Nat} {lv : Value} {l : List EvD} (h : EvRow w q lv l) : ∃ A c, lv = .slice A l.length c ∧ EvsAt w A l := by
 obtain ⟨A, c, rfl, _⟩ := own_form h
 refine ⟨A, c, rfl, fun i hi => ?_⟩
 obtain ⟨b, cap, e, _, hc⟩ := own_flat ev0 h (fun _ => rfl) hi
 cases e
 exact ⟨b, 0, rfl, hc 0 (by decide), hc 1 (by decide), hc 2 (by decide), hc 3 (by decide), hc 4 (by decide), hc 5 (by decide), hc 6 (by decide)⟩
def actL (a : ActD) : List Value := [.int .i64 a.1.at', .int .i64 a.1.kind, .int .i64 a.1.thread, .int .i64 a.1.call, .int .i64 a.1.val, .int .i64 a.1.err, .int .i64 a.1.rep, .int .i64 a.2.1, .int .i64 a.2.2.1, .int .i64 a.2.2.2]
def ActRow (w : World) (q : Nat) (lv : Value) (l : List ActD) : Prop := w.ownsRow q 94 10 lv l.length (l.flatMap actL)
theorem ActRow.at' {w : World} {q : Nat} {lv : Value} {l : List ActD} (h : ActRow w q lv l) : ∃ A c, lv = .slice A l.length c ∧ ActsAt w A l := by
 obtain ⟨A, c, rfl, _⟩ := own_form h
 refine ⟨A, c, rfl, fun i hi => ?_⟩
 obtain ⟨b, cap, e, _, hc⟩ := own_flat act0 h (fun _ => rfl) hi
 cases e
 exact ⟨b, 0, rfl, hc 0 (by decide), hc 1 (by decide), hc 2 (by decide), hc 3 (by decide), hc 4 (by decide), hc 5 (by decide), hc 6 (by decide), hc 7 (by decide), hc 8 (by decide), hc 9 (by decide)⟩
def evA (e : EvD) : Array Value := #[.int .i64 e.at', .int .i64 e.kind, .int .i64 e.thread, .int .i64 e.call, .int .i64 e.val, .int .i64 e.err, .int .i64 e.rep]
theorem ev_box (w : World) (e : EvD) (t : TypeId) : Ev1 (w.alloc (.cells (evA e) t)) w.heap.size 0 e := by
 have hb := heap_alloc_new w (.cells (evA e) t)
 exact ⟨cell_of_row _ _ 0 _ _ _ hb, cell_of_row _ _ 1 _ _ _ hb, cell_of_row _ _ 2 _ _ _ hb, cell_of_row _ _ 3 _ _ _ hb, cell_of_row _ _ 4 _ _ _ hb, cell_of_row _ _ 5 _ _ _ hb, cell_of_row _ _ 6 _ _ _ hb⟩
theorem begun_any (l : List ActD) (A : Option Addr) (cp n : Nat) (e : EvD) (w : World) (hn : n ≤ l.length) (hl : l.length ≤ 100000000) (hr : ActsAt w A l) :
 Calls Tryz.prog 44 #[.slice A l.length cp, .int .i64 n, .agg #[.int .i64 e.at', .int .i64 e.kind, .int .i64 e.thread, .int .i64 e.call, .int .i64 e.val, .int .i64 e.err, .int .i64 e.rep]] w fun e' w' =>
  (∃ x, e' = .returned (.int .i64 x) ∧ (x = -1 ∨ ∃ k : Nat, x = k ∧ k < n ∧ isCall (l.getD k act0).1 e)) ∧ Up w w' := by
 have HR := hQ' hr
 have HBX := hQ' (ev_box w e 60)
 have HU0 := hQ' ((Up.refl w).alloc (.cells (evA e) 60))
 unfold evA at HBX HU0
 obtain ⟨W0, hW0⟩ : ∃ x, w.alloc (.cells #[.int .i64 e.at', .int .i64 e.kind, .int .i64 e.thread, .int .i64 e.call, .int .i64 e.val, .int .i64 e.err, .int .i64 e.rep] 60) = x := ⟨_, rfl⟩
 have hnb : (n : Int) ≤ 100000000 := by omega
 have hw1 : wrap64 ((n : Int) - 1) = (n : Int) - 1 := IntWalk.wrap64_in _ (by omega)
 obtain ⟨ea, ek, et, ec, ev, ee, er⟩ := e
 dsimp only at HBX HU0 hW0 ⊢
 clear hr
 go_enter Tryz.func44, Tryz.ntmps44
 go_wp2_with fail
 try rw [hW0]
 rw [hW0] at HBX HU0
 clear hW0
 have HU1 := hQ' (Up.refl W0)
 go_loopw [7] (fun x wr => ∃ j : Nat, j ≤ n ∧ x = .int .i64 ((j : Int) - 1) ∧ Hid (Up W0 wr)) (fun x _ => (intOf x + 1).toNat)
 case atStart => exact ⟨n, by omega, rfl, HU1⟩
 case round =>
  obtain ⟨j, hj, rfl, HV⟩ := hrel
  by_cases h0 : j = 0
  · subst h0
    have hneg : ¬ ((0 : Int) ≤ ((0 : Nat) : Int) - 1) := by omega
    have HVE := hQ' (HU0.out.trans HV.out)
    clear HV
    go_wp2_with fail
    go_ret
    exact ⟨⟨_, rfl, .inl rfl⟩, HVE.out⟩
  · obtain ⟨i, rfl⟩ : ∃ i, j = i + 1 := ⟨j - 1, by omega⟩
    obtain ⟨b, off, eA, hx⟩ := (HR.out.up (HU0.out.trans HV.out)) i (by omega)
    have hii : (i : Int) < l.length := by omega
    have hi0 : (0 : Int) ≤ i := by omega
    have hib : (i : Int) ≤ 100000000 := by omega
    have hcast : ((i + 1 : Nat) : Int) - 1 = (i : Int) := by omega
    have hw2 : wrap64 ((i : Int) - 1) = (i : Int) - 1 := IntWalk.wrap64_in _ (by omega)
    have HJ := hQ' hj
    rw [hcast]
    rw [eA]
    have HIC : Hid (isCall (l.getD i act0).1 ⟨ea, ek, et, ec, ev, ee, er⟩ ↔ (l.getD i act0).1.kind = 1 ∧ (l.getD i act0).1.thread = et ∧ (l.getD i act0).1.call = ec) := hQ' Iff.rfl
    obtain ⟨d0, d1, d2, d3, d4, d5, d6⟩ := HBX.out.up HV.out
    dsimp only at d0 d1 d2 d3 d4 d5 d6
    simp only [Nat.zero_add] at d0 d1 d2 d3 d4 d5 d6
    have HEX := hQ' (fun h => (⟨_, rfl, .inr ⟨i, rfl, by omega, HIC.out.2 h⟩⟩ : ∃ x, Ending.returned (.int .i64 (i : Int)) = Ending.returned (.int .i64 x) ∧ (x = -1 ∨ ∃ k : Nat, x = k ∧ k < n ∧ isCall (l.getD k act0).1 ⟨ea, ek, et, ec, ev, ee, er⟩)))
    have HVE := hQ' (fun (m : Nat) => HU0.out.trans (HV.out.trans ((Up.refl wr).drewN m)))
    have HVR := hQ' (fun (m : Nat) => HV.out.trans ((Up.refl wr).drewN m))
    generalize l.getD i act0 = a at *
    obtain ⟨⟨x0, x1, x2, x3, x4, x5, x6⟩, y0, y1, y2⟩ := a
    obtain ⟨c0, c1, c2, c3, c4, c5, c6, c7, c8, c9⟩ := hx
    dsimp only at c0 c1 c2 c3 c4 c5 c6 c7 c8 c9 HEX
    clear HIC hj HV
    by_cases q1 : x1 = 1
    · by_cases q2 : x2 = et
      · by_cases q3 : x3 = ec
        · subst q1; subst q2; subst q3
          go_wp2_with fail
          go_quiet (fail)
          go_wp2_with fail
          go_ret
          exact ⟨HEX.out (by simp), HVE.out _⟩
        · subst q1; subst q2
          have g3 : (x3 == ec) = false := by simpa using q3
          go_wp2_with fail
          go_quiet (fail)
          rename_i nq
          go_wp2_with fail
          go_roundw
          case rel => exact ⟨i, by have := HJ.out; omega, by first | rfl | go_num, hQ' (HVR.out nq)⟩
          case measure => simp [intOf] <;> omega
      · subst q1
        have g2 : (x2 == et) = false := by simpa using q2
        go_wp2_with fail
        go_quiet (fail)
        rename_i nq
        go_wp2_with fail
        go_roundw
        case rel => exact ⟨i, by have := HJ.out; omega, by first | rfl | go_num, hQ' (HVR.out nq)⟩
        case measure => simp [intOf] <;> omega
    · have g1 : (x1 == 1) = false := by simpa using q1
      go_wp2_with fail
      go_quiet (fail)
      rename_i nq
      go_wp2_with fail
      go_roundw
      case rel => exact ⟨i, by have := HJ.out; omega, by first | rfl | go_num, hQ' (HVR.out nq)⟩
      case measure => simp [intOf] <;> omega
end Go.Proofs.YtpodgcpkccpnfaaGreat

