/-
  Parts of a proof, packed: Tk, Row, Law, App, LawB, Icells, TapeA, Zeros, TapeB, TapeC
-/
import Derived.OrdersHeld
import Derived.Lib.Hide
import Derived.Deep.RegionHeld
import Derived.WalkKit
import Derived.WalkSpells
import Derived.Deep.AppendLies
import Derived.Deep.OwnRows
import Derived.WalkLawsBesides
import Derived.Deep.QuietTactic
import Derived.ProofKit
import Derived.OpenShut
import Derived.OpenVars
import Derived.SizedLaws
import Derived.Deep.DeepHandedRow
import Derived.Lib.LaidTab
import Derived.Laws.AppendOwnNone
import Derived.Lib.AppendZerosOnto
import Derived.Laws.OwnMore
import Derived.Test.YtpodgcpkccpnfaaGreatChecked
import Derived.Deep.RegionLaw
set_option linter.unusedVariables false
set_option linter.unusedSimpArgs false
set_option maxRecDepth 20000
set_option maxHeartbeats 16000000
namespace Go.Proofs.YtpodgcpkccpnfaaGreat
theorem tkE {P : Program} {ops : Array Oper} {Q : Exit → Act → World → Prop} {md : Region.Mode} {S : World → Prop} {oi : Oper} {fuel : Nat} {listed : Array Bool} {a : Act} {w : World} (i : Nat) (v : Value) (hi : ops[i]? = some oi)
 (hc : (Region.noSelect ops && (Region.free md ops listed i && ((Region.ready md ops listed).contains i && Region.wanted oi (yielded ops a.tmps)))) = true) (hQ : ∀ c a w, Q (.panic c) (a.put oi.dst v) w → Q (.panic c) a w) (hS : S w)
 (hv : ∀ w, S w → (execOp a.eval oi).run P w = .ok (.value v) w) (h : wpAnyH P md ops Q S fuel (listed.setIfInBounds i true) (a.put oi.dst v) w) : wpAnyH P md ops Q S (fuel + 1) listed a w := by
 simp only [Bool.and_eq_true] at hc
 exact wpAnyH_take hi hc.1 hc.2.1 hc.2.2.1 hQ (.inl ⟨hc.2.2.2, hv⟩) hS h
theorem rdE {P : Program} {ops : Array Oper} {Q : Exit → Act → World → Prop} {md : Region.Mode} {S : World → Prop} {o : Oper} {fuel : Nat} {listed : Array Bool} {a : Act} {w : World} (i : Nat) (hr : Region.ready md ops listed = [i]) (ho : ops[i]? = some o)
 (h : ∀ K' : Act → World → Prop, Shut (∀ a w, S w → (S w → wpAnyH P md ops Q S fuel (listed.setIfInBounds i true) a w) → K' a w) → if Region.wanted o (yielded ops a.tmps) = true then Oper.wp P o a w K' Q else K' (a.put o.dst undef) w) : wpAnyH P md ops Q S (fuel + 1) listed a w :=
 wpAnyH_ready hr (by simp) (AllReadyH.cons ho h AllReadyH.nil)
theorem sC_I {α : Type _} {xs : List α} {i : Nat} {x : α} : xs.toArray.setIfInBounds i x = (xs.set i x).toArray := List.setIfInBounds_toArray _ _ _
theorem sC_0 {α : Type _} {a b : α} {l : List α} : (a :: l).set 0 b = b :: l := List.set_cons_zero
theorem sC_1 {α : Type _} {a b : α} {l : List α} {n : Nat} : (a :: l).set (n + 1) b = a :: l.set n b := List.set_cons_succ
theorem gA_T {α : Type _} {xs : List α} {i : Nat} : xs.toArray[i]? = xs[i]? := List.getElem?_toArray
theorem gA_0 {α : Type _} {a : α} {l : List α} : (a :: l)[0]? = some a := List.getElem?_cons_zero
theorem gA_S {α : Type _} {a : α} {i : Nat} {l : List α} : (a :: l)[i + 1]? = l[i]? := List.getElem?_cons_succ
theorem hQ' {p : Prop} (h : p) : Go.RowKit.Hid p := Go.Lib.hid h
end Go.Proofs.YtpodgcpkccpnfaaGreat

namespace Go.Proofs.YtpodgcpkccpnfaaGreat
open Go.RowKit
theorem getD_lt {l : List Int} {k : Nat} (h : k < l.length) : l.getD k 0 = l[k] := by
 rw [List.getD_eq_getElem?_getD, List.getElem?_eq_getElem h]; rfl
theorem cell_lt {w : World} {b o : Nat} {v : Value} (h : w.cell? ⟨b, o, none⟩ = some v) : b < w.heap.size := by
 unfold World.cell? at h
 cases hh : w.heap[b]? with
 | none => simp [hh] at h
 | some x => exact (Array.getElem?_eq_some_iff.1 hh).1
def IVal (l : List Int) : Nat → Value := fun k => .int .i64 (l.getD k 0)
def Row (w : World) (A : Option Addr) (n : Nat) (f : Nat → Value) : Prop :=
 ∀ k, k < n → ∃ b off, A = some ⟨b, off, none⟩ ∧ w.cell? ⟨b, off + k, none⟩ = some (f k)
theorem Row.below {w w' : World} {A : Option Addr} {n : Nat} {f : Nat → Value} (h : Row w A n f) (hb : Below w.heap.size w w') : Row w' A n f := fun k hk => by
 obtain ⟨b, off, e, hc⟩ := h k hk
 exact ⟨b, off, e, (hb.cell (p := ⟨b, off + k, none⟩) (cell_lt hc)).trans hc⟩
theorem Row.nil (w : World) (A : Option Addr) (f : Nat → Value) : Row w A 0 f := fun k hk => absurd hk (by omega)
theorem cells_new (w : World) (news : List Value) (e : TypeId) (j : Nat) (u : Value) (h : news[j]? = some u) : (w.alloc (.cells news.toArray e)).cell? ((⟨w.heap.size, 0, none⟩ : Addr).add j) = some u := by
 have e1 : (⟨w.heap.size, 0, none⟩ : Addr).add j = ⟨w.heap.size, j, none⟩ := by
  unfold Addr.add
  by_cases hj : j = 0
  · subst hj; rfl
  · rw [if_neg hj]; simp
 rw [e1, World.cell?_alloc_at _ _ _ _ rfl]
 simpa using h
theorem grownBy_below {B : Nat} {w w' : World} {row : Option Nat} (h : w.grownBy w' row) (hB : B ≤ w.heap.size) (hr : ∀ k, row = some k → B ≤ k) : Below B w w' :=
 (Below.refl B w).grown h hB hr
theorem own_ge {w : World} {B : Nat} {e : TypeId} {size n : Nat} {v : Value} {xs : List Value} (h : w.ownsRow B e size v n xs) : ∀ k, v.ownBlock = some k → B ≤ k := fun k hk => (h.lt k hk).1
theorem own_row {w : World} {B n : Nat} {e : TypeId} {v : Value} {xs : List Value} {f : Nat → Value} (h : w.ownsRow B e 1 v n xs) (hx : ∀ k, k < n → xs[k]? = some (f k)) :
 ∃ A c, v = .slice A n c ∧ Row w A n f ∧ n ≤ c := by
 rcases h.2 with ⟨rfl, rfl⟩ | ⟨g, cap, cur, rfl, _, _, hc, _⟩
 · exact ⟨none, 0, rfl, Row.nil _ _ _, Nat.le_refl _⟩
 · refine ⟨_, cap, rfl, fun k hk => ⟨g, 0, rfl, ?_⟩, hc⟩
   rw [Nat.zero_add, h.cellAt k (by omega)]
   exact hx k hk
theorem own_nil (w : World) (B : Nat) (e : TypeId) (size : Nat) : w.ownsRow B e size (.slice none 0 0) 0 [] := ⟨by simp, .inl ⟨rfl, rfl⟩⟩
theorem iVal_map {l : List Int} {k : Nat} (hk : k < l.length) : (l.map (Value.int .i64))[k]? = some (IVal l k) := by
 rw [List.getElem?_map, List.getElem?_eq_getElem hk]
 unfold IVal
 rw [getD_lt hk]; rfl
def Up (w0 w : World) : Prop := Below w0.heap.size w0 w
theorem Up.refl (w : World) : Up w w := Below.refl _ _
theorem Up.trans {a b c : World} (h : Up a b) (k : Up b c) : Up a c := Below.trans h (Below.mono k h.size)
theorem Up.alloc {a b : World} (h : Up a b) (o : Obj) : Up a (b.alloc o) := Below.alloc h h.size o
theorem Up.drewN {a b : World} (h : Up a b) (n : Nat) : Up a (b.drewN n) := below_drewN h n
theorem Up.drew {a b : World} (h : Up a b) : Up a b.drew := Below.drew h
theorem Row.up {w w' : World} {A : Option Addr} {n : Nat} {f : Nat → Value} (h : Row w A n f) (hb : Up w w') : Row w' A n f := h.below hb
theorem Row.congr {w : World} {A : Option Addr} {n : Nat} {f g : Nat → Value} (h : Row w A n f) (hfg : ∀ k, k < n → f k = g k) : Row w A n g := fun k hk => by
 obtain ⟨b, off, e, hc⟩ := h k hk
 exact ⟨b, off, e, by rw [hc, hfg k hk]⟩
end Go.Proofs.YtpodgcpkccpnfaaGreat

namespace Go.Proofs.YtpodgcpkccpnfaaGreat
open Go.ChangeShapes Go.WideShapes Go.ChangeAt Go.RowKit
section
variable {H : Type} {enc : TypeId × Value → H} {P : Program}
theorem trodAll_length {w : World} {base : Nat} {sp : Nat → Bool} {held : Bool} : ∀ {ts : List TypeId} {vs : List Value} {ds : List (DataW H)} {ps : List MemPlace},
 DataW.TrodAll enc P w base sp held ts vs ds ps → ds.length = ts.length
 | [], _, _, _, h => by obtain ⟨_, rfl, _⟩ := trodAll_nil h; rfl
 | _ :: _, _, _, _, h => by
  obtain ⟨v, vs1, d, ds1, a, b, rfl, rfl, rfl, h1, h2⟩ := trodAll_cons h
  simp [trodAll_length h2]
theorem trodVars_length {w : World} {sp : Nat → Bool} : ∀ {ns : List String} {gs : List (DataW H)} {ps : List MemPlace}, DataW.TrodVars enc P w sp ns gs ps → gs.length = ns.length
 | [], [], _, _ => rfl
 | [], _ :: _, _, h => h.elim
 | _ :: _, [], _, h => h.elim
 | _ :: _, _ :: _, _, h => by
  obtain ⟨g, t, cs, fuel, p, q, h1, h2, h3, h4, hs, e⟩ := h
  simp [trodVars_length hs]
theorem trodAll_below (hl : laidOutB P = true) {W W' : World} (hb : Below W.heap.size W W') : ∀ {ts : List TypeId} {vs : List Value} {ds : List (DataW H)} {ps : List MemPlace},
 (∀ t ∈ ts, P.readableRec t = true ∧ t < P.types.size) → (∀ x ∈ ps, x.block < W.heap.size) → DataW.TrodAll enc P W 0 (fun _ => true) true ts vs ds ps →
 DataW.TrodAll enc P W' 0 (fun b => decide (b < W.heap.size)) true ts vs ds ps
 | [], _, _, _, _, _, h => by obtain ⟨rfl, rfl, rfl⟩ := trodAll_nil h; exact trodAll_mk0
 | t :: ts, _, _, _, hr, hp, h => by
  obtain ⟨v, vs1, d, ds1, a, b, rfl, rfl, rfl, h1, h2⟩ := trodAll_cons h
  have ht := hr t (by simp)
  exact trodAll_cons_mk (Below.trod hl ht.1 ht.2 h1 hb (fun x hx => hp x (by simp [hx]))) (trodAll_below hl hb (fun t ht => hr t (by simp [ht])) (fun x hx => hp x (by simp [hx])) h2)
theorem law_post {f : Func} {s : ChangeSpec} {tb : TypeId} {W W' : World} {args : Array Value} {ds gs : List (DataW H)} {before : List MemPlace}
 (hl : laidOutB P = true) (hread : ∀ t ∈ f.params.toList, P.readableRec t = true ∧ t < P.types.size) (hvr : varsRowed P s.vars = true)
 (hrt : f.resultTypes = #[tb]) (htb : P.underlying tb = some .bool)
 (hs : ∀ (ds gs : List (DataW H)), ds.length = f.params.toList.length → gs.length = s.vars.length → (s.fn H (ds ++ gs)).results = [.lit (.bool true)] ∧ (s.fn H (ds ++ gs)).args = ds ∧ (s.fn H (ds ++ gs)).vars = gs)
 (hW : DataW.Whole enc P f.params.toList s.vars false W args.toList ds gs before) (hb : Below W.heap.size W W') :
 s.post enc P f false true false false W args (.bool true) W' := by
 have hlt : ∀ p ∈ before, p.block < W.heap.size := fun p hp => hW.lt p hp
 have hW0 := hW
 obtain ⟨p, q, hA, hV, rfl, _, _⟩ := hW
 obtain ⟨e1, e2, e3⟩ := hs ds gs (trodAll_length hA) (trodVars_length hV)
 refine ⟨ds, gs, p ++ q, [], p, q, hW0, ?_, ?_, ?_, ?_, fun h => by cases h⟩
 · rw [e1, hrt]
   exact trodAll_mk1 (shut_bool htb true)
 · rw [e2]
   exact trodAll_below hl hb hread (fun x hx => hlt x (by simp [hx])) hA
 · rw [e3]
   exact Below.trodVars hl hb hvr hV
 · refine World.keptBut_mono (fun x hx => ⟨hx, Or.inr ?_⟩) (hb.frame (· ∈ p ++ q))
   simpa using hx
end
section
variable {H : Type} {enc : TypeId × Value → H} {P : Program} {w : World}
end
theorem law_lifted {H : Type} {enc : TypeId × Value → H} {C : Checked} {os : Os} {f : FuncId} {fn : Func} {s : ChangeSpec} {conds : List PathCond} {tb : TypeId}
 (own : ownKnob C.prog.godebug = none) (started : os.Started) (noInit : C.prog.inits.idxOf? f = none) (hfn : C.prog.funcs[f]? = some fn)
 (witness : ∃ (w : World) (tape : Tape) (i : Input), w.os = os ∧ (w.forCall tape i).Shaped C.prog ∧ i.vars = [] ∧ Input.okWide C.prog (w.forCall tape i) .any w.heap.size f i ∧
  s.pre6 enc C.prog fn conds false (w.forCall tape i).memory i.args ∧ ({} : Assume).holds C.prog (lone (Frame.enter C.prog f i.args .normal) [] (w.forCall tape i)))
 (hl : laidOutB C.prog = true) (hread : ∀ t ∈ fn.params.toList, C.prog.readableRec t = true ∧ t < C.prog.types.size) (hvr : varsRowed C.prog s.vars = true)
 (hrt : fn.resultTypes = #[tb]) (htb : C.prog.underlying tb = some .bool)
 (hs : ∀ (ds gs : List (DataW H)), ds.length = fn.params.toList.length → gs.length = s.vars.length → (s.fn H (ds ++ gs)).results = [.lit (.bool true)] ∧ (s.fn H (ds ++ gs)).args = ds ∧ (s.fn H (ds ++ gs)).vars = gs)
 (contract : ∀ (W : World) (base : Nat) (args : Array Value) (ds gs : List (DataW H)) (before : List MemPlace),
  (∀ (j : Nat) t v, fn.params[j]? = some t → args[j]? = some v → Value.okWide C.prog W .any base t v) →
  DataW.Whole enc C.prog fn.params.toList s.vars false W args.toList ds gs before →
  (DataW.weightsEach C.prog (fn.params.toList ++ s.plain.varTypes C.prog) (ds ++ gs)).all (· ≤ reachBytes) = true →
  Calls C.prog f args W fun e W' => e = .returned (.bool true) ∧ Below W.heap.size W W') :
 ReturnsInHanded {} C os f .any (s.pre6 enc C.prog fn conds false) (s.post enc C.prog fn false true false false) := by
 refine returnsInHanded_of_change_sized own started noInit hfn witness ?_
 intro W base args ds gs before hval hW _ hsz _
 exact (contract W base args ds gs before hval hW hsz).mono fun e W' ⟨he, hb⟩ => ⟨_, he, law_post hl hread hvr hrt htb hs hW hb⟩
end Go.Proofs.YtpodgcpkccpnfaaGreat

namespace Go.Proofs.YtpodgcpkccpnfaaGreat
open Go.RowKit
theorem wpList_appendRow {P : Program} {ops : Array Oper} {rest : List Oper} {o : Oper} {a : Act} {Q : Exit → Act → World → Prop} {w : World} (hgd : o.guard = none) (s x : Operand) (t : TypeId)
 (ho : o.op = .call { callee := .builtin .append, args := #[s, x], argTypes := #[t, t] })
 (B : Nat) (e : TypeId) (i : TypeInfo) (z : Value) (bytes : Nat) (ht : P.underlying t = some (.slice e)) (hi : P.info? e = some i) (hz : i.zero = some z)
 (hsize : i.size = 1) (hby : i.bytes = bytes) (hzs : z.cells.size = 1)
 (v : Value) (n : Nat) (xs : List Value) (hs : a.eval s = v) (hown : w.ownsRow B e 1 v n xs)
 (A : Option Addr) (m c : Nat) (f : Nat → Value) (hx : a.eval x = .slice A m c) (hA : A = none → c = 0) (hr : Row w A m f) (h1 : ∀ u ∈ (List.range m).map f, u.oneCell' = true)
 (hb1 : 0 < bytes) (hbytes : (n + m) * bytes ≤ 140737488355328) (hB : B ≤ w.heap.size)
 (h : ∀ v' w', w'.ownsRow B e 1 v' (n + m) (xs ++ (List.range m).map f) → w.grownBy w' v.ownBlock → Below B w w' → wpList P ops Q rest (a.put o.dst v') w') :
 wpList P ops Q (o :: rest) a w := by
 have h63 : n + m ≤ maxLen := by
  have : n + m ≤ (n + m) * bytes := Nat.le_mul_of_pos_right _ hb1
  unfold maxLen; omega
 cases A with
 | none =>
  have hm : m = 0 := by
   rcases Nat.eq_zero_or_pos m with h0 | h0
   · exact h0
   · obtain ⟨b, off, he, _⟩ := hr 0 h0
     cases he
  have hc := hA rfl
  subst hm
  subst hc
  refine wpList_append_own_none hgd s x t ho B e i 1 ht hi v n xs hs hown hx ?_
  exact h v w (by simpa using hown) (World.grownBy.refl w _) (Below.refl _ _)
 | some ad =>
  refine wpList_append_own w hgd s x t ho B e i z 1 bytes ht hi hz hsize hby hzs (by decide) v n xs hs hown ad m c ((List.range m).map f) hx (by simp) ?_ h1 h63 hbytes hB ?_
  · intro j u hu
    have hj : j < m := by
     have := (List.getElem?_eq_some_iff.1 hu).1
     simpa using this
    obtain ⟨b, off, he, hc⟩ := hr j hj
    injection he with he
    subst he
    rw [Go.WideShapes.add_plain, hc]
    rw [List.getElem?_map, List.getElem?_range hj] at hu
    exact hu
  · intro v' w' hown' hg _
    exact h v' w' hown' hg (grownBy_below hg hB (own_ge hown))
theorem own_empty (w : World) (e : TypeId) : (w.alloc (.cells #[] e)).ownsRow w.heap.size e 1 (.slice (some ⟨w.heap.size, 0, none⟩) 0 0) 0 [] :=
 ⟨by simp, .inr ⟨w.heap.size, 0, #[], rfl, Nat.le_refl _, heap_alloc_new w _, Nat.le_refl _, by unfold maxLen; decide, rfl, rfl⟩⟩
end Go.Proofs.YtpodgcpkccpnfaaGreat

namespace Go.Proofs.YtpodgcpkccpnfaaGreat
open Go.ChangeShapes Go.WideShapes Go.ChangeAt Go.RowKit
section
variable {H : Type} {enc : TypeId × Value → H} {P : Program} {w : World}
theorem u8_wf {n : Int} (h : (Lit.int .u8 n).wf = true) : 0 ≤ n ∧ n ≤ 255 := by simpa [Lit.wf, IntKind.min, IntKind.max, IntKind.signed, IntKind.bits] using h
end
end Go.Proofs.YtpodgcpkccpnfaaGreat

namespace Go.Proofs.YtpodgcpkccpnfaaGreat
def icells (l : List Int) : List Value := l.map (Value.int .i64)
end Go.Proofs.YtpodgcpkccpnfaaGreat

namespace Go.Proofs.YtpodgcpkccpnfaaGreat
open Go.RowKit
structure TS where
 ans : List Int
 loc : List Int
 acc : List (Int × Int × Int)
 nts : List (Int × Int)
def TS.asked (s : TS) (a : Int × Int × Int) : TS := { s with acc := s.acc ++ [a] }
def TS.noted (s : TS) (k : Int) : TS := { s with nts := s.nts ++ [(k, (s.acc.length : Int))] }
def TS.told (s : TS) : Int := s.ans.getD s.acc.length 0
def TS.get (s : TS) (at' : Int) : Int := if at' < 0 ∨ (s.loc.length : Int) ≤ at' then 0 else s.loc.getD at'.toNat 0
def TS.set (s : TS) (at' v : Int) : TS :=
 if at' < 0 ∨ 32768 ≤ at' then s
 else if (s.loc.length : Int) ≤ at' then (if v = 0 then s else { s with loc := (s.loc ++ List.replicate (at'.toNat + 1 - s.loc.length) 0).set at'.toNat v })
 else { s with loc := s.loc.set at'.toNat v }
def acells (l : List (Int × Int × Int)) : List Value := l.flatMap fun a => [.int .i64 a.1, .int .i64 a.2.1, .int .i64 a.2.2]
def ncells (l : List (Int × Int)) : List Value := l.flatMap fun a => [.int .i64 a.1, .int .i64 a.2]
theorem acells_append (l m : List (Int × Int × Int)) : acells (l ++ m) = acells l ++ acells m := by unfold acells; rw [List.flatMap_append]
theorem ncells_append (l m : List (Int × Int)) : ncells (l ++ m) = ncells l ++ ncells m := by unfold ncells; rw [List.flatMap_append]
def Far (B : Nat) (w : World) (k : Nat) : Prop := B ≤ k → ∀ cs e, w.heap[k]? = some (.cells cs e (0, 0)) → e ≠ 3 ∧ e ≠ 111 ∧ e ≠ 168
structure TK (g B : Nat) (w w' : World) : Prop where
 os : w'.os = w.os
 tape : w'.tape = w.tape
 output : w'.output = w.output
 size : w.heap.size ≤ w'.heap.size
 block : ∀ k, k < w.heap.size → k ≠ g → Far B w k → w'.heap[k]? = w.heap[k]?
theorem Far.low {B k : Nat} {w : World} (h : k < B) : Far B w k := fun hB => by omega
theorem Far.keep {B k : Nat} {w w' : World} (h : Far B w k) (he : w'.heap[k]? = w.heap[k]?) : Far B w' k := fun hB cs e hh => h hB cs e (he ▸ hh)
theorem TK.refl (g B : Nat) (w : World) : TK g B w w := ⟨rfl, rfl, rfl, Nat.le_refl _, fun _ _ _ _ => rfl⟩
theorem TK.trans {g B : Nat} {a b c : World} (h : TK g B a b) (k : TK g B b c) : TK g B a c :=
 ⟨k.os.trans h.os, k.tape.trans h.tape, k.output.trans h.output, Nat.le_trans h.size k.size, fun i h1 h2 h3 =>
  have e := h.block i h1 h2 h3
  (k.block i (Nat.lt_of_lt_of_le h1 h.size) h2 (h3.keep e)).trans e⟩
theorem TK.ofUp {g B : Nat} {a w : World} (h : Up a w) : TK g B a w := ⟨h.os, h.tape, h.output, h.size, fun k hk _ _ => h.block k hk⟩
theorem TK.drew {g B : Nat} {a w : World} (h : TK g B a w) : TK g B a w.drew := h.trans (TK.ofUp (Up.refl w).drew)
theorem TK.alloc {g B : Nat} {a w : World} (h : TK g B a w) (o : Obj) : TK g B a (w.alloc o) := h.trans (TK.ofUp ((Up.refl w).alloc o))
theorem TK.setCell {g B : Nat} {a w : World} (h : TK g B a w) {j : Nat} (u : Value) : TK g B a (w.setCell ⟨g, j, none⟩ u) :=
 h.trans ⟨rfl, rfl, rfl, by simp, fun k _ hne _ => Below.heap_setCell w ⟨g, j, none⟩ u k hne⟩
theorem TK.grown {g B : Nat} {a w w' : World} {e : TypeId} {size n : Nat} {v : Value} {xs : List Value} (h : TK g B a w) (hown : w.ownsRow B e size v n xs) (he : e = 3 ∨ e = 111 ∨ e = 168) (hg : w.grownBy w' v.ownBlock) : TK g B a w' :=
 h.trans ⟨hg.os, hg.tape, hg.output, hg.size, fun k hk _ hf => hg.block k hk (fun ek => by
  rcases hown.2 with ⟨rfl, _⟩ | ⟨g', cap, cur, rfl, hb, h2, _⟩
  · simp [Value.ownBlock] at ek
  · simp only [Value.ownBlock, Option.some.injEq] at ek
    subst ek
    have := hf hb cur e h2
    rcases he with rfl | rfl | rfl <;> simp at this)⟩
theorem TK.below {g B N : Nat} {a w : World} (h : TK g B a w) (hN : N ≤ B) (hg : N ≤ g) (hs : N ≤ a.heap.size) : Below N a w :=
 ⟨h.os, h.tape, h.output, h.size, fun k hk => h.block k (by omega) (by omega) (Far.low (by omega))⟩
theorem tcell {w w' : World} {b o : Nat} (h : w'.heap[b]? = w.heap[b]?) : w'.cell? ⟨b, o, none⟩ = w.cell? ⟨b, o, none⟩ := by simp only [World.cell?, h]
theorem tfrozen {w w' : World} {b o : Nat} (h : w'.heap[b]? = w.heap[b]?) : w'.frozen? ⟨b, o, none⟩ = w.frozen? ⟨b, o, none⟩ := by simp only [World.frozen?, h]
structure TapeIs (w : World) (g B : Nat) (st : Int) (s : TS) : Prop where
 gB : g < B
 sz : B ≤ w.heap.size
 c0 : w.cell? ⟨g, 0, none⟩ = some (.int .i64 st)
 fz : ∀ j, w.frozen? ⟨g, j, none⟩ = false
 ans : ∃ A c, w.cell? ⟨g, 1, none⟩ = some (.slice A s.ans.length c) ∧ Row w A s.ans.length (IVal s.ans) ∧ (∀ b off, A = some ⟨b, off, none⟩ → 0 < s.ans.length → b + 3 ≤ g)
 loc : ∃ v, w.cell? ⟨g, 2, none⟩ = some v ∧ w.ownsRow B 3 1 v s.loc.length (icells s.loc)
 acc : ∃ v, w.cell? ⟨g, 3, none⟩ = some v ∧ w.ownsRow B 111 3 v s.acc.length (acells s.acc)
 nts : ∃ v, w.cell? ⟨g, 4, none⟩ = some v ∧ w.ownsRow B 168 2 v s.nts.length (ncells s.nts)
 la : s.acc.length ≤ s.ans.length + 1
 lb : s.ans.length ≤ 1000000
 ll : s.loc.length ≤ 32768
theorem own_keep {w w' : World} {B e size n : Nat} {v : Value} {xs : List Value} (h : w.ownsRow B e size v n xs) (hk : ∀ k cs, B ≤ k → w.heap[k]? = some (.cells cs e (0, 0)) → w'.heap[k]? = w.heap[k]?) : w'.ownsRow B e size v n xs := by
 rcases h.2 with ⟨hv, hn⟩ | ⟨g, cap, cur, hv, hg, hh, hr⟩
 · exact ⟨h.1, .inl ⟨hv, hn⟩⟩
 · exact ⟨h.1, .inr ⟨g, cap, cur, hv, hg, (hk g cur hg hh).trans hh, hr⟩⟩
theorem row_keep {w w' : World} {A : Option Addr} {n : Nat} {f : Nat → Value} (h : Row w A n f) (hk : ∀ b off, A = some ⟨b, off, none⟩ → 0 < n → w'.heap[b]? = w.heap[b]?) : Row w' A n f := fun k hlt => by
 obtain ⟨b, off, e, hc⟩ := h k hlt
 exact ⟨b, off, e, (tcell (hk b off e (by omega))).trans hc⟩
theorem own_up {w w' : World} {B e size n : Nat} {v : Value} {xs : List Value} (h : w.ownsRow B e size v n xs) (hb : Up w w') : w'.ownsRow B e size v n xs := own_keep h fun k cs _ hh => hb.block k (Array.getElem?_eq_some_iff.1 hh).1
theorem TapeIs.gs {w : World} {g B : Nat} {st : Int} {s : TS} (h : TapeIs w g B st s) : g < w.heap.size := Nat.lt_of_lt_of_le h.gB h.sz
theorem own_form {w : World} {B e size n : Nat} {v : Value} {xs : List Value} (h : w.ownsRow B e size v n xs) : ∃ A c, v = .slice A n c ∧ n ≤ c ∧ c ≤ 9223372036854775807 := by
 rcases h.2 with ⟨rfl, rfl⟩ | ⟨g, cap, cur, rfl, _, _, h1, h2, _⟩
 · exact ⟨none, 0, rfl, Nat.le_refl _, by decide⟩
 · exact ⟨_, cap, rfl, h1, by unfold maxLen at h2; omega⟩
theorem TapeIs.up {w w' : World} {g B : Nat} {st : Int} {s : TS} (h : TapeIs w g B st s) (hb : Up w w') : TapeIs w' g B st s := by
 have hk : ∀ k, k < w.heap.size → w'.heap[k]? = w.heap[k]? := hb.block
 have hg := hk g (Nat.lt_of_lt_of_le h.gB h.sz)
 have hrow : ∀ e k cs, B ≤ k → w.heap[k]? = some (.cells cs e (0, 0)) → w'.heap[k]? = w.heap[k]? := fun e k cs _ hh => hk k (Array.getElem?_eq_some_iff.1 hh).1
 refine ⟨h.gB, Nat.le_trans h.sz hb.size, (tcell hg).trans h.c0, fun j => (tfrozen hg).trans (h.fz j), ?_, ?_, ?_, ?_, h.la, h.lb, h.ll⟩
 · obtain ⟨A, c, h1, h2, h3⟩ := h.ans
   exact ⟨A, c, (tcell hg).trans h1, h2.up hb, h3⟩
 · obtain ⟨v, h1, h2⟩ := h.loc
   exact ⟨v, (tcell hg).trans h1, own_keep h2 (hrow _)⟩
 · obtain ⟨v, h1, h2⟩ := h.acc
   exact ⟨v, (tcell hg).trans h1, own_keep h2 (hrow _)⟩
 · obtain ⟨v, h1, h2⟩ := h.nts
   exact ⟨v, (tcell hg).trans h1, own_keep h2 (hrow _)⟩
theorem TapeIs.alloc {w : World} {g B : Nat} {st : Int} {s : TS} (h : TapeIs w g B st s) (o : Obj) : TapeIs (w.alloc o) g B st s := h.up ((Up.refl w).alloc o)
theorem TapeIs.drew {w : World} {g B : Nat} {st : Int} {s : TS} (h : TapeIs w g B st s) : TapeIs w.drew g B st s := h.up (Up.refl w).drew
theorem TapeIs.state {w : World} {g B : Nat} {st : Int} {s : TS} (h : TapeIs w g B st s) (st' : Int) : TapeIs (w.setCell ⟨g, 0, none⟩ (.int .i64 st')) g B st' s := by
 have hk : ∀ k, k ≠ g → (w.setCell ⟨g, 0, none⟩ (.int .i64 st')).heap[k]? = w.heap[k]? := fun k hne => Below.heap_setCell w ⟨g, 0, none⟩ _ k hne
 have hrow : ∀ e k cs, B ≤ k → w.heap[k]? = some (.cells cs e (0, 0)) → (w.setCell ⟨g, 0, none⟩ (.int .i64 st')).heap[k]? = w.heap[k]? := fun e k cs hB _ => hk k (by have := h.gB; omega)
 refine ⟨h.gB, by simpa using h.sz, World.cell?_setCell_same _ _ _ h.c0, fun j => by simpa [go_sem] using h.fz j, ?_, ?_, ?_, ?_, h.la, h.lb, h.ll⟩
 · obtain ⟨A, c, h1, h2, h3⟩ := h.ans
   exact ⟨A, c, (World.cell?_setCell_other _ _ _ _ (by simp)).trans h1, row_keep h2 (fun b off e hp => hk b (by have := h3 b off e hp; omega)), h3⟩
 · obtain ⟨v, h1, h2⟩ := h.loc
   exact ⟨v, (World.cell?_setCell_other _ _ _ _ (by simp)).trans h1, own_keep h2 (hrow _)⟩
 · obtain ⟨v, h1, h2⟩ := h.acc
   exact ⟨v, (World.cell?_setCell_other _ _ _ _ (by simp)).trans h1, own_keep h2 (hrow _)⟩
 · obtain ⟨v, h1, h2⟩ := h.nts
   exact ⟨v, (World.cell?_setCell_other _ _ _ _ (by simp)).trans h1, own_keep h2 (hrow _)⟩
theorem grown_hk {w w1 : World} {B e e' size n : Nat} {v : Value} {xs : List Value} (hown : w.ownsRow B e size v n xs) (hg : w.grownBy w1 v.ownBlock) (hne : e' ≠ e) :
 ∀ k cs, B ≤ k → w.heap[k]? = some (.cells cs e' (0, 0)) → w1.heap[k]? = w.heap[k]? := fun k cs _ hh => by
 refine hg.block k (Array.getElem?_eq_some_iff.1 hh).1 ?_
 intro he
 rcases hown.2 with ⟨rfl, _⟩ | ⟨g, cap, cur, rfl, _, h2, _⟩
 · simp [Value.ownBlock] at he
 · simp only [Value.ownBlock, Option.some.injEq] at he
   subst he
   rw [h2] at hh
   simp only [Option.some.injEq, Obj.cells.injEq] at hh
   exact hne hh.2.1.symm
theorem TapeIs.pushA {w w1 : World} {g B : Nat} {st : Int} {s : TS} (h : TapeIs w g B st s) (a : Int × Int × Int) {v v1 : Value} (hc : w.cell? ⟨g, 3, none⟩ = some v) (hla : s.acc.length ≤ s.ans.length)
 (hown : w.ownsRow B 111 3 v s.acc.length (acells s.acc)) (hg : w.grownBy w1 v.ownBlock) (hown1 : w1.ownsRow B 111 3 v1 (s.acc.length + 1) (acells (s.acc ++ [a]))) :
 TapeIs (w1.setCell ⟨g, 3, none⟩ v1) g B st (s.asked a) := by
 have hgB := h.gB
 have hge : ∀ k, v.ownBlock = some k → B ≤ k := own_ge hown
 have hlow : ∀ k, k < B → w1.heap[k]? = w.heap[k]? := fun k hk => hg.block k (Nat.lt_of_lt_of_le hk h.sz) (fun e => by have := hge k e.symm; omega)
 have hgg := hlow g hgB
 have hset : ∀ k, k ≠ g → (w1.setCell ⟨g, 3, none⟩ v1).heap[k]? = w1.heap[k]? := fun k hne => Below.heap_setCell w1 ⟨g, 3, none⟩ _ k hne
 have hrow : ∀ e', e' ≠ 111 → ∀ k cs, B ≤ k → w.heap[k]? = some (.cells cs e' (0, 0)) → (w1.setCell ⟨g, 3, none⟩ v1).heap[k]? = w.heap[k]? := fun e' hne k cs hB hh => (hset k (by omega)).trans (grown_hk hown hg hne k cs hB hh)
 have hcell : ∀ j, j ≠ 3 → (w1.setCell ⟨g, 3, none⟩ v1).cell? ⟨g, j, none⟩ = w.cell? ⟨g, j, none⟩ := fun j hj => (World.cell?_setCell_other _ _ _ _ (by simp <;> omega)).trans (tcell hgg)
 refine ⟨hgB, Nat.le_trans h.sz (by simpa using hg.size), (hcell 0 (by decide)).trans h.c0, fun j => ?_, ?_, ?_, ?_, ?_, by simp [TS.asked]; omega, h.lb, h.ll⟩
 · have := (tfrozen (o := j) hgg).trans (h.fz j)
   simpa [go_sem] using this
 · obtain ⟨A, c, h1, h2, h3⟩ := h.ans
   exact ⟨A, c, (hcell 1 (by decide)).trans h1, row_keep h2 (fun b off e hp => (hset b (by have := h3 b off e hp; omega)).trans (hlow b (by have := h3 b off e hp; omega))), h3⟩
 · obtain ⟨v2, h1, h2⟩ := h.loc
   exact ⟨v2, (hcell 2 (by decide)).trans h1, own_keep h2 (hrow _ (by decide))⟩
 · refine ⟨v1, World.cell?_setCell_same _ _ _ ((tcell hgg).trans hc), ?_⟩
   have := own_keep (w' := w1.setCell ⟨g, 3, none⟩ v1) hown1 (fun k cs hB _ => hset k (by omega))
   simpa [TS.asked] using this
 · obtain ⟨v2, h1, h2⟩ := h.nts
   exact ⟨v2, (hcell 4 (by decide)).trans h1, own_keep h2 (hrow _ (by decide))⟩
theorem TapeIs.pushN {w w1 : World} {g B : Nat} {st : Int} {s : TS} (h : TapeIs w g B st s) (k0 : Int) {v v1 : Value} (hc : w.cell? ⟨g, 4, none⟩ = some v)
 (hown : w.ownsRow B 168 2 v s.nts.length (ncells s.nts)) (hg : w.grownBy w1 v.ownBlock) (hown1 : w1.ownsRow B 168 2 v1 (s.nts.length + 1) (ncells (s.nts ++ [(k0, (s.acc.length : Int))]))) :
 TapeIs (w1.setCell ⟨g, 4, none⟩ v1) g B st (s.noted k0) := by
 have hgB := h.gB
 have hge : ∀ k, v.ownBlock = some k → B ≤ k := own_ge hown
 have hlow : ∀ k, k < B → w1.heap[k]? = w.heap[k]? := fun k hk => hg.block k (Nat.lt_of_lt_of_le hk h.sz) (fun e => by have := hge k e.symm; omega)
 have hgg := hlow g hgB
 have hset : ∀ k, k ≠ g → (w1.setCell ⟨g, 4, none⟩ v1).heap[k]? = w1.heap[k]? := fun k hne => Below.heap_setCell w1 ⟨g, 4, none⟩ _ k hne
 have hrow : ∀ e', e' ≠ 168 → ∀ k cs, B ≤ k → w.heap[k]? = some (.cells cs e' (0, 0)) → (w1.setCell ⟨g, 4, none⟩ v1).heap[k]? = w.heap[k]? := fun e' hne k cs hB hh => (hset k (by omega)).trans (grown_hk hown hg hne k cs hB hh)
 have hcell : ∀ j, j ≠ 4 → (w1.setCell ⟨g, 4, none⟩ v1).cell? ⟨g, j, none⟩ = w.cell? ⟨g, j, none⟩ := fun j hj => (World.cell?_setCell_other _ _ _ _ (by simp <;> omega)).trans (tcell hgg)
 refine ⟨hgB, Nat.le_trans h.sz (by simpa using hg.size), (hcell 0 (by decide)).trans h.c0, fun j => ?_, ?_, ?_, ?_, ?_, h.la, h.lb, h.ll⟩
 · have := (tfrozen (o := j) hgg).trans (h.fz j)
   simpa [go_sem] using this
 · obtain ⟨A, c, h1, h2, h3⟩ := h.ans
   exact ⟨A, c, (hcell 1 (by decide)).trans h1, row_keep h2 (fun b off e hp => (hset b (by have := h3 b off e hp; omega)).trans (hlow b (by have := h3 b off e hp; omega))), h3⟩
 · obtain ⟨v2, h1, h2⟩ := h.loc
   exact ⟨v2, (hcell 2 (by decide)).trans h1, own_keep h2 (hrow _ (by decide))⟩
 · obtain ⟨v2, h1, h2⟩ := h.acc
   exact ⟨v2, (hcell 3 (by decide)).trans h1, own_keep h2 (hrow _ (by decide))⟩
 · refine ⟨v1, World.cell?_setCell_same _ _ _ ((tcell hgg).trans hc), ?_⟩
   have := own_keep (w' := w1.setCell ⟨g, 4, none⟩ v1) hown1 (fun k cs hB _ => hset k (by omega))
   simpa [TS.noted] using this
theorem TapeIs.newL {w w1 : World} {g B : Nat} {st : Int} {s : TS} (h : TapeIs w g B st s) (l : List Int) (hl : l.length ≤ 32768) {v1 : Value}
 (hk : ∀ k, k < w.heap.size → (∀ cs, B ≤ k → w.heap[k]? ≠ some (.cells cs 3 (0, 0))) → w1.heap[k]? = w.heap[k]?) (hs : w.heap.size ≤ w1.heap.size) (hown1 : w1.ownsRow B 3 1 v1 l.length (icells l)) :
 TapeIs (w1.setCell ⟨g, 2, none⟩ v1) g B st { s with loc := l } := by
 have hgB := h.gB
 have hlow : ∀ k, k < B → w1.heap[k]? = w.heap[k]? := fun k hkB => hk k (Nat.lt_of_lt_of_le hkB h.sz) (fun cs hb => by omega)
 have hgg := hlow g hgB
 have hset : ∀ k, k ≠ g → (w1.setCell ⟨g, 2, none⟩ v1).heap[k]? = w1.heap[k]? := fun k hne => Below.heap_setCell w1 ⟨g, 2, none⟩ _ k hne
 have hrow : ∀ e', e' ≠ 3 → ∀ k cs, B ≤ k → w.heap[k]? = some (.cells cs e' (0, 0)) → (w1.setCell ⟨g, 2, none⟩ v1).heap[k]? = w.heap[k]? := fun e' hne k cs hB hh => (hset k (by omega)).trans (hk k (Array.getElem?_eq_some_iff.1 hh).1 (fun cs' _ h' => by
  rw [hh] at h'
  simp only [Option.some.injEq, Obj.cells.injEq] at h'
  exact hne h'.2.1))
 have hcell : ∀ j, j ≠ 2 → (w1.setCell ⟨g, 2, none⟩ v1).cell? ⟨g, j, none⟩ = w.cell? ⟨g, j, none⟩ := fun j hj => (World.cell?_setCell_other _ _ _ _ (by simp <;> omega)).trans (tcell hgg)
 refine ⟨hgB, Nat.le_trans h.sz (by simpa using hs), (hcell 0 (by decide)).trans h.c0, fun j => ?_, ?_, ?_, ?_, ?_, h.la, h.lb, hl⟩
 · have := (tfrozen (o := j) hgg).trans (h.fz j)
   simpa [go_sem] using this
 · obtain ⟨A, c, h1, h2, h3⟩ := h.ans
   exact ⟨A, c, (hcell 1 (by decide)).trans h1, row_keep h2 (fun b off e hp => (hset b (by have := h3 b off e hp; omega)).trans (hlow b (by have := h3 b off e hp; omega))), h3⟩
 · obtain ⟨v2, h1, h2⟩ := h.loc
   exact ⟨v1, World.cell?_setCell_same _ _ _ ((tcell hgg).trans h1), own_keep hown1 (fun k cs hB _ => hset k (by omega))⟩
 · obtain ⟨v2, h1, h2⟩ := h.acc
   exact ⟨v2, (hcell 3 (by decide)).trans h1, own_keep h2 (hrow _ (by decide))⟩
 · obtain ⟨v2, h1, h2⟩ := h.nts
   exact ⟨v2, (hcell 4 (by decide)).trans h1, own_keep h2 (hrow _ (by decide))⟩
end Go.Proofs.YtpodgcpkccpnfaaGreat

namespace Go.Proofs.YtpodgcpkccpnfaaGreat
open Go.RowKit
theorem zeroCells_one (z : Value) (hz : z.cells = #[z]) (k : Nat) : Builtin.zeroCells z.cells k = (List.replicate k z).toArray := by
 unfold Builtin.zeroCells
 rw [hz]
 apply Array.ext
 · simp
 · intro i h1 h2
   simp [Nat.mod_one]
theorem run_append_zeros_own {P : Program} (w : World) (B : Nat) (t tn ty e : TypeId) (i : TypeInfo) (kq kn : IntKind) (ht : P.underlying t = some (.slice e)) (htn : P.underlying tn = some (.int kn)) (hi : P.info? e = some i) (hz : i.zero = some (.int .i64 0))
 (hsize : i.size = 1) (hby : i.bytes = 8) (v : Value) (n : Nat) (xs : List Value) (hown : w.ownsRow B e 1 v n xs) (k : Nat) (h0 : 0 < k) (hb : n + k ≤ 1000000) (hB : B ≤ w.heap.size) :
 ∃ v' w', (Builtin.append_ #[t, tn] ty #[v, .int kq k]).run P w = .ok v' w' ∧ w'.ownsRow B e 1 v' (n + k) (xs ++ List.replicate k (.int .i64 0)) ∧ w.grownBy w' v.ownBlock := by
 have hzc : (Value.int .i64 0).cells = #[.int .i64 0] := rfl
 have hlen : (xs ++ List.replicate k (Value.int .i64 0)).length = (n + k) * 1 := by rw [List.length_append, hown.1, List.length_replicate]; omega
 have hxn : xs.length = n := by have := hown.1; omega
 have grow : ∀ (base : Option Addr) (cap : Nat), cap < n + k → (Builtin.firstCells i.size n (.slice base n cap)).run P w.drew = .ok xs.toArray w.drew →
  ∃ v' w', (Builtin.append_ #[t, tn] ty #[.slice base n cap, .int kq k]).run P w = .ok v' w' ∧ w'.ownsRow B e 1 v' (n + k) (xs ++ List.replicate k (.int .i64 0)) ∧ ∀ row, w.grownBy w' row := by
  intro base cap hg hold
  refine ⟨_, _, Lib.run_append_grow_zeros w t tn ty e i _ kq kn ht htn hi hz base n cap xs hold k h0 (by omega) hg (by omega) (by rw [hby]; omega) (by rw [hby]; exact growslice_fits hg (by omega)), ?_, ?_⟩
  · have hge := grownCap_ge w (n + k) cap e
    have hcm : grownCap w (n + k) cap e ≤ maxLen := grownCap_le_maxLen w (n + k) cap e (by unfold maxLen; omega)
    refine ⟨hlen, .inr ⟨w.heap.size, _, _, rfl, hB, heap_alloc_new w.drew _, hge, hcm, ?_, ?_⟩⟩
    · rw [zeroCells_one _ hzc, zeroCells_one _ hzc]
      simp [hxn]
      omega
    · rw [zeroCells_one _ hzc, zeroCells_one _ hzc]
      simp only [Array.toList_append, ← hlen]
      exact List.take_left
  · intro row
    exact ⟨rfl, rfl, rfl, by simp, fun j hj _ => Below.heap_alloc w.drew _ j hj⟩
 rcases hown.2 with ⟨rfl, rfl⟩ | ⟨g, cap, cur, rfl, hbg, hg, hnc, hcm, hcs, htake⟩
 · have hx : xs = [] := List.eq_nil_of_length_eq_zero (by omega)
   subst hx
   obtain ⟨v', w', h1, h2, h3⟩ := grow none 0 (by omega) (by simp [Builtin.firstCells])
   exact ⟨v', w', h1, h2, h3 _⟩
 · by_cases hroom : n + k ≤ cap
   · have hw : IntKind.i64.wrap (k : Int) = k := by rw [IntKind.wrap_i64]; omega
     have hneg : ¬ ((k : Int) < 0) := by omega
     have hk : k ≠ 0 := by omega
     have h48i : ¬ (281474976710656 < (k : Int) * (i.bytes : Int)) := by rw [hby]; omega
     have hst := run_storeCells_at P g n e (List.replicate k (.int .i64 0)) 0 cur w hg (by rw [List.length_replicate, hcs]; omega) (by intro u hu; rw [List.mem_replicate] at hu; rw [hu.2]; rfl)
     simp only [Nat.add_zero] at hst
     have hzr : Builtin.zeroCells #[Value.int .i64 0] k = (List.replicate k (Value.int .i64 0)).toArray := zeroCells_one _ hzc k
     refine ⟨.slice (some ⟨g, 0, none⟩) (n + k) cap, w.setRow g (cur.toList.take n ++ List.replicate k (Value.int .i64 0) ++ cur.toList.drop (n + k)).toArray, ?_, ⟨hlen, .inr ⟨g, cap, _, rfl, hbg, setRow_heap w g cur _ e _ hg, hroom, hcm, ?_, ?_⟩⟩, ⟨rfl, rfl, rfl, by simp, fun k _ hk => setRow_other w g k _ (fun e => hk (by simp [Value.ownBlock, e]))⟩⟩
     · simp [Builtin.append_, run_underlying ht, run_underlying htn, sizeOf, typeInfo, zeroValue, hi, hz, hsize, asInt, asIntOf, hw, hneg, hk, h48i, hroom, hzc, hzr, Addr.add_lit, hst]
     · simp only [List.size_toArray, List.length_append, List.length_take, List.length_drop, Array.length_toList, List.length_replicate]
       omega
     · rw [Nat.mul_one] at htake
       have : (cur.toList.take n ++ List.replicate k (Value.int .i64 0) ++ cur.toList.drop (n + k)).toArray.toList = (xs ++ List.replicate k (Value.int .i64 0)) ++ cur.toList.drop (n + k) := by rw [← htake]
       rw [this, ← hlen]
       exact List.take_left
   · obtain ⟨v', w', h1, h2, h3⟩ := grow (some ⟨g, 0, none⟩) cap (by omega) (run_firstCells_some (P := P) w.drew i.size n ⟨g, 0, none⟩ n cap xs (by rw [hsize, hxn]; omega) (by
      intro j u hu
      have hj := (List.getElem?_eq_some_iff.1 hu).1
      exact hown.cells (g := g) rfl j u hu))
     exact ⟨v', w', h1, h2, h3 _⟩
theorem step_append_zeros {P : Program} {ops : Array Oper} {o : Oper} {a : Act} {w : World} {K : Act → World → Prop} {Q : Exit → Act → World → Prop} {E : Prop} (hgd : o.guard = none) (s x : Operand) (t tn : TypeId)
 (ho : o.op = .call { callee := .builtin .append, args := #[s, x], argTypes := #[t, tn] })
 (B : Nat) (e : TypeId) (i : TypeInfo) (kq kn : IntKind) (ht : P.underlying t = some (.slice e)) (htn : P.underlying tn = some (.int kn)) (hi : P.info? e = some i) (hz : i.zero = some (.int .i64 0))
 (hsize : i.size = 1) (hby : i.bytes = 8) (v : Value) (n : Nat) (xs : List Value) (hs : a.eval s = v) (hown : w.ownsRow B e 1 v n xs) (k : Nat) (hx : a.eval x = .int kq k) (h0 : 0 < k) (hb : n + k ≤ 1000000) (hB : B ≤ w.heap.size)
 (h : ∀ v' w', w'.ownsRow B e 1 v' (n + k) (xs ++ List.replicate k (.int .i64 0)) → w.grownBy w' v.ownBlock → K (a.put o.dst v') w') :
 if Region.wanted o (yielded ops a.tmps) = true then Oper.wp P o a w K Q else E := by
 have hw : Region.wanted o (yielded ops a.tmps) = true := by simp [Region.wanted, hgd]
 rw [if_pos hw]
 obtain ⟨v', w', hr, h2, h3⟩ := run_append_zeros_own (P := P) w B t tn o.type e i kq kn ht htn hi hz hsize hby v n xs hown k h0 hb hB
 exact Lib.wp_append_run w s x t tn ho v (.int kq k) hs hx v' w' hr (h v' w' h2 h3)
end Go.Proofs.YtpodgcpkccpnfaaGreat

namespace Go.Proofs.YtpodgcpkccpnfaaGreat
open Go.RowKit
theorem infoAcc : (Tryz.prog.info? 111).map (fun i => (i.zero, i.size, i.bytes)) = some (some (.agg #[.int .i64 0, .int .i64 0, .int .i64 0]), 3, 24) := by kernel_rfl
theorem infoNote : (Tryz.prog.info? 168).map (fun i => (i.zero, i.size, i.bytes)) = some (some (.agg #[.int .i64 0, .int .i64 0]), 2, 16) := by kernel_rfl
theorem infoInt : (Tryz.prog.info? 3).map (fun i => (i.zero, i.size, i.bytes)) = some (some (.int .i64 0), 1, 8) := by kernel_rfl
def stopC (g : Nat) : List PanicEntry := [{ v := .iface 198 (.agg #[.pointer (some ⟨g, 0, none⟩)]), recovered := false }]
def Tape1 (w : World) (g B : Nat) (s : TS) : Prop := TapeIs w g B 1 s ∧ s.acc.length ≤ s.ans.length
theorem Tape1.up {w w' : World} {g B : Nat} {s : TS} (h : Tape1 w g B s) (hb : Up w w') : Tape1 w' g B s := ⟨h.1.up hb, h.2⟩
def TPost {α : Type} (enc : α → Value) (g B : Nat) (w : World) (r : Option α × TS) (e : Ending) (w' : World) : Prop :=
 (match r.1 with
  | some v => e = .returned (enc v) ∧ Tape1 w' g B r.2
  | none => e = .panicked (stopC g) ∧ TapeIs w' g B 2 r.2) ∧ TK g B w w'
theorem TPost.some {α : Type} {enc : α → Value} {g B : Nat} {w : World} {r : Option α × TS} {v : α} {s' : TS} (hr : r = (some v, s')) {e : Ending} {w' : World} (h : e = .returned (enc v) ∧ Tape1 w' g B s' ∧ TK g B w w') : TPost enc g B w r e w' := by
 subst hr; exact ⟨⟨h.1, h.2.1⟩, h.2.2⟩
theorem TPost.none {α : Type} {enc : α → Value} {g B : Nat} {w : World} {r : Option α × TS} {s' : TS} (hr : r = (.none, s')) {e : Ending} {w' : World} (h : e = .panicked (stopC g) ∧ TapeIs w' g B 2 s' ∧ TK g B w w') : TPost enc g B w r e w' := by
 subst hr; exact ⟨⟨h.1, h.2.1⟩, h.2.2⟩
theorem TPost.of_some {α : Type} {enc : α → Value} {g B : Nat} {w : World} {r : Option α × TS} {v : α} {s' : TS} (hr : r = (.some v, s')) {e : Ending} {w' : World} (h : TPost enc g B w r e w') : e = .returned (enc v) ∧ Tape1 w' g B s' ∧ TK g B w w' := by
 subst hr; exact ⟨h.1.1, h.1.2, h.2⟩
theorem TPost.of_none {α : Type} {enc : α → Value} {g B : Nat} {w : World} {r : Option α × TS} {s' : TS} (hr : r = (.none, s')) {e : Ending} {w' : World} (h : TPost enc g B w r e w') : e = .panicked (stopC g) ∧ TapeIs w' g B 2 s' ∧ TK g B w w' := by
 subst hr; exact ⟨h.1.1, h.1.2, h.2⟩
theorem acc_one (a : Int × Int × Int) (l : List (Int × Int × Int)) : acells (l ++ [a]) = acells l ++ [.int .i64 a.1, .int .i64 a.2.1, .int .i64 a.2.2] := by rw [acells_append]; rfl
theorem ask_append {w0 W w1 : World} {g B : Nat} {s : TS} {va : Value} {a : Int × Int × Int} {g1 cap : Nat} (hU : Up w0 W) (h : TapeIs w0 g B 1 s) (hla : s.acc.length ≤ s.ans.length) (hca : w0.cell? ⟨g, 3, none⟩ = some va) (hown : w0.ownsRow B 111 3 va s.acc.length (acells s.acc))
 (hown1 : w1.ownsRow B 111 3 (.slice (some ⟨g1, 0, none⟩) (s.acc.length + 1) cap) (s.acc.length + 1) (acells s.acc ++ [.int .i64 a.1, .int .i64 a.2.1, .int .i64 a.2.2])) (hg : W.grownBy w1 va.ownBlock) :
 w1.cell? ⟨g, 3, none⟩ = some va ∧ w1.frozen? ⟨g, 3, none⟩ = false ∧ TapeIs (w1.setCell ⟨g, 3, none⟩ (.slice (some ⟨g1, 0, none⟩) (s.acc.length + 1) cap)) g B 1 (s.asked a) ∧ TK g B w0 (w1.setCell ⟨g, 3, none⟩ (.slice (some ⟨g1, 0, none⟩) (s.acc.length + 1) cap)) := by
 have h2 := h.up hU
 have hown2 := own_up hown hU
 have hlow : W.heap[g]? = w1.heap[g]? := (hg.block g (Nat.lt_of_lt_of_le h2.gB h2.sz) (fun e => by have := own_ge hown2 g e.symm; have := h.gB; omega)).symm
 have hca2 : W.cell? ⟨g, 3, none⟩ = some va := (hU.cell (p := ⟨g, 3, none⟩) (Nat.lt_of_lt_of_le h.gB h.sz)).trans hca
 refine ⟨(tcell hlow.symm).trans hca2, (tfrozen hlow.symm).trans (h2.fz 3), h2.pushA a hca2 hla hown2 hg (by rw [acc_one]; exact hown1), ?_⟩
 exact ((TK.ofUp hU).grown hown2 (.inr (.inl rfl)) hg).setCell _
theorem news2 (w : World) (O : Obj) (news : List Value) (e : TypeId) : ∀ j u, news[j]? = some u → ((w.alloc O).alloc (.cells news.toArray e)).drew.cell? ((⟨w.heap.size + 1, 0, none⟩ : Addr).add j) = some u := by
 intro j u h
 have := cells_new (w.alloc O) news e j u h
 rw [World.size_alloc] at this
 exact this
theorem ask_ok (g B : Nat) (a0 a1 a2 : Int) (s : TS) (w : World) (h : TapeIs w g B 1 s) (hlt : s.acc.length < s.ans.length) :
 Calls Tryz.prog 249 #[.pointer (some ⟨g, 0, none⟩), .agg #[.int .i64 a0, .int .i64 a1, .int .i64 a2]] w fun e w' => e = .returned (.int .i64 s.told) ∧ TapeIs w' g B 1 (s.asked (a0, a1, a2)) ∧ TK g B w w' := by
 obtain ⟨va, hca, hown⟩ := h.acc
 obtain ⟨Aa, ca, rfl, hac, _⟩ := own_form hown
 have c0 := h.c0
 have hgs := h.gs
 have hlb := h.lb
 have H := hQ' h
 have HOWN := hQ' hown
 have HLA := hQ' (show s.acc.length ≤ s.ans.length by omega)
 have HTOLD := hQ' (show s.told = s.ans.getD s.acc.length 0 from rfl)
 have HX := hQ' (fun (W w1 : World) (g1 cap : Nat) (hU : Up w W) => ask_append (W := W) (w1 := w1) (g1 := g1) (cap := cap) (a := (a0, a1, a2)) hU h HLA.out hca hown)
 have hf3 := h.fz 3
 obtain ⟨i0, hi, hz0, hz1, hz2⟩ := info_parts infoAcc
 have HI := hQ' hi
 have HZ0 := hQ' hz0
 have HZ1 := hQ' hz1
 have HZ2 := hQ' hz2
 obtain ⟨m, hm⟩ : ∃ m, s.ans.length = m := ⟨_, rfl⟩
 obtain ⟨n, hn⟩ : ∃ n, s.acc.length = n := ⟨_, rfl⟩
 rw [hn] at hca hac HOWN hlt HX
 rw [hm] at hlb hlt
 have HN := hQ' hn
 have HM := hQ' hm
 clear hown h hi hz0 hz1 hz2 hn hm
 go_enter Tryz.func249, Tryz.ntmps249
 go_wp2_with fail
 go_region_law (refine step_append_lies _ rfl (.tmp 32) (.tmp 34) 158 rfl B 111 i0 (.agg #[.int .i64 0, .int .i64 0, .int .i64 0]) 3 24 Tryz.underlying158 HI.out HZ0.out HZ1.out HZ2.out rfl (by decide) _ n (acells s.acc) rfl (own_up HOWN.out (((Up.refl w).alloc _).alloc _).drew) ⟨w.heap.size + 1, 0, none⟩ 1 1 [.int .i64 a0, .int .i64 a1, .int .i64 a2] rfl rfl (news2 w _ _ _) (by simp [Value.oneCell']) (by decide) (by unfold maxLen; omega) (by omega) (by have := H.out.sz; simp; omega) _ rfl ?_; intro g1 cap w1 hown1 hgrow hat hlt1; obtain ⟨hc3, hf3', HT0, HK0⟩ := HX.out _ _ _ _ (((Up.refl w).alloc _).alloc _).drew hown1 hgrow; have HT := hQ' HT0; have HK := hQ' HK0; clear HT0 HK0 hown1 hgrow hat hlt1)
 all_goals
  generalize w1.setCell ⟨g, 3, none⟩ (.slice (some ⟨g1, 0, none⟩) (n + 1) cap) = W1 at *
  obtain ⟨A1, d1, hc1, hr1, _⟩ := HT.out.ans
  simp only [TS.asked] at hc1 hr1
  rw [HM.out] at hc1 hr1
  obtain ⟨b, off, rfl, hcell⟩ := hr1 n hlt
  unfold IVal at hcell
  have hge : ¬ (m : Int) ≤ (n : Int) := by omega
  have HTD := HTOLD.out
  rw [HN.out] at HTD
  rw [← HTD] at hcell
  have HTD2 := hQ' HTD
  clear hc3 hf3' hr1 hca HTD hf3
  go_wp2_with fail
  go_ret
  exact ⟨rfl, HT.out, HK.out⟩
theorem ask_stop (g B : Nat) (a0 a1 a2 : Int) (s : TS) (w : World) (h : TapeIs w g B 1 s) (hlt : s.acc.length = s.ans.length) :
 Calls Tryz.prog 249 #[.pointer (some ⟨g, 0, none⟩), .agg #[.int .i64 a0, .int .i64 a1, .int .i64 a2]] w fun e w' => e = .panicked (stopC g) ∧ TapeIs w' g B 2 (s.asked (a0, a1, a2)) ∧ TK g B w w' := by
 obtain ⟨va, hca, hown⟩ := h.acc
 obtain ⟨Aa, ca, rfl, hac, _⟩ := own_form hown
 have c0 := h.c0
 have hgs := h.gs
 have hlb := h.lb
 have H := hQ' h
 have HOWN := hQ' hown
 have HLA := hQ' (show s.acc.length ≤ s.ans.length by omega)
 have HX := hQ' (fun (W w1 : World) (g1 cap : Nat) (hU : Up w W) => ask_append (W := W) (w1 := w1) (g1 := g1) (cap := cap) (a := (a0, a1, a2)) hU h HLA.out hca hown)
 have hf3 := h.fz 3
 obtain ⟨i0, hi, hz0, hz1, hz2⟩ := info_parts infoAcc
 have HI := hQ' hi
 have HZ0 := hQ' hz0
 have HZ1 := hQ' hz1
 have HZ2 := hQ' hz2
 have HSC := hQ' (show stopC g = [{ v := .iface 198 (.agg #[.pointer (some ⟨g, 0, none⟩)]), recovered := false }] from rfl)
 obtain ⟨n, hn⟩ : ∃ n, s.ans.length = n := ⟨_, rfl⟩
 rw [hn] at hlt hlb
 rw [hlt] at hca hac HOWN HX
 have HN := hQ' hlt
 have HM := hQ' hn
 clear hown h hi hz0 hz1 hz2 hn hlt
 go_enter Tryz.func249, Tryz.ntmps249
 go_wp2_with fail
 go_region_law (refine step_append_lies _ rfl (.tmp 32) (.tmp 34) 158 rfl B 111 i0 (.agg #[.int .i64 0, .int .i64 0, .int .i64 0]) 3 24 Tryz.underlying158 HI.out HZ0.out HZ1.out HZ2.out rfl (by decide) _ n (acells s.acc) rfl (own_up HOWN.out (((Up.refl w).alloc _).alloc _).drew) ⟨w.heap.size + 1, 0, none⟩ 1 1 [.int .i64 a0, .int .i64 a1, .int .i64 a2] rfl rfl (news2 w _ _ _) (by simp [Value.oneCell']) (by decide) (by unfold maxLen; omega) (by omega) (by have := H.out.sz; simp; omega) _ rfl ?_; intro g1 cap w1 hown1 hgrow hat hlt1; obtain ⟨hc3, hf3', HT0, HK0⟩ := HX.out _ _ _ _ (((Up.refl w).alloc _).alloc _).drew hown1 hgrow; have HT := hQ' HT0; have HK := hQ' HK0; clear HT0 HK0 hown1 hgrow hat hlt1)
 all_goals
  generalize w1.setCell ⟨g, 3, none⟩ (.slice (some ⟨g1, 0, none⟩) (n + 1) cap) = W1 at *
  obtain ⟨A1, d1, hc1, -, _⟩ := HT.out.ans
  simp only [TS.asked] at hc1
  rw [HM.out] at hc1
  have hf0 := HT.out.fz 0
  have hc0 := HT.out.c0
  have HT2 := hQ' (HT.out.state 2)
  have HK2 := hQ' (HK.out.setCell (j := 0) (.int .i64 2))
  clear hc3 hf3' hca hf3 HT HK
  go_wp2_with fail
  exact ⟨rfl, by rw [HSC.out], HT2.out, HK2.out⟩
def tAsk (a : Int × Int × Int) (s : TS) : Option Int × TS := (if s.acc.length < s.ans.length then some s.told else none, s.asked a)
def encI : Int → Value := .int .i64
def encU : Unit → Value := fun _ => .tuple #[]
theorem tAsk_ok (a : Int × Int × Int) (s : TS) (h : s.acc.length < s.ans.length) : tAsk a s = (some s.told, s.asked a) := by unfold tAsk; rw [if_pos h]
theorem tAsk_stop (a : Int × Int × Int) (s : TS) (h : ¬ s.acc.length < s.ans.length) : tAsk a s = (none, s.asked a) := by unfold tAsk; rw [if_neg h]
theorem ask_any (g B : Nat) (a : Int × Int × Int) (s : TS) (w : World) (h : Tape1 w g B s) :
 Calls Tryz.prog 249 #[.pointer (some ⟨g, 0, none⟩), .agg #[.int .i64 a.1, .int .i64 a.2.1, .int .i64 a.2.2]] w (TPost encI g B w (tAsk a s)) := by
 by_cases hlt : s.acc.length < s.ans.length
 · refine (ask_ok g B _ _ _ s w h.1 hlt).mono ?_
   rintro e w' ⟨h1, h2, h3⟩
   exact TPost.some (tAsk_ok a s hlt) ⟨h1, ⟨h2, by simp [TS.asked]; omega⟩, h3⟩
 · refine (ask_stop g B _ _ _ s w h.1 (by have := h.2; omega)).mono ?_
   rintro e w' ⟨h1, h2, h3⟩
   exact TPost.none (tAsk_stop a s hlt) ⟨h1, h2, h3⟩
theorem read_any (g B : Nat) (c : Int) (s : TS) (w : World) (h : Tape1 w g B s) :
 Calls Tryz.prog 214 #[.pointer (some ⟨g, 0, none⟩), .int .i64 c] w (TPost encI g B w (tAsk (1, c, 0) s)) := by
 have HA := hQ' (ask_any g B (1, c, 0) s w h)
 have HOK := hQ' (tAsk_ok (1, c, 0) s)
 have HST := hQ' (tAsk_stop (1, c, 0) s)
 by_cases hlt : s.acc.length < s.ans.length
 · have HR := hQ' (tAsk_ok (1, c, 0) s hlt)
   clear h
   go_enter Tryz.func214, Tryz.ntmps214
   go_wp2_with fail
   refine HA.out.mono ?_
   intro e w' q
   obtain ⟨rfl, h2, h3⟩ := q.of_some HR.out
   have H2 := hQ' h2
   have H3 := hQ' h3
   clear q h2 h3
   unfold encI
   go_wp2_with fail
   go_ret
   exact TPost.some HR.out ⟨rfl, H2.out, H3.out⟩
 · have HR := hQ' (tAsk_stop (1, c, 0) s hlt)
   clear h
   go_enter Tryz.func214, Tryz.ntmps214
   go_wp2_with fail
   refine HA.out.mono ?_
   intro e w' q
   obtain ⟨rfl, h2, h3⟩ := q.of_none HR.out
   have H2 := hQ' h2
   have H3 := hQ' h3
   clear q h2 h3
   go_wp2_with fail
   exact ⟨rfl, TPost.none HR.out ⟨rfl, H2.out, H3.out⟩⟩
end Go.Proofs.YtpodgcpkccpnfaaGreat

namespace Go.Proofs.YtpodgcpkccpnfaaGreat
open Go.RowKit
theorem read_ok (g B : Nat) (c : Int) (s : TS) (w : World) (h : Tape1 w g B s) (hlt : s.acc.length < s.ans.length) :
 Calls Tryz.prog 214 #[.pointer (some ⟨g, 0, none⟩), .int .i64 c] w fun e w' => e = .returned (.int .i64 s.told) ∧ Tape1 w' g B (s.asked (1, c, 0)) ∧ TK g B w w' :=
 (read_any g B c s w h).mono fun e w' q => q.of_some (tAsk_ok (1, c, 0) s hlt)
theorem read_stop (g B : Nat) (c : Int) (s : TS) (w : World) (h : Tape1 w g B s) (hlt : ¬ s.acc.length < s.ans.length) :
 Calls Tryz.prog 214 #[.pointer (some ⟨g, 0, none⟩), .int .i64 c] w fun e w' => e = .panicked (stopC g) ∧ TapeIs w' g B 2 (s.asked (1, c, 0)) ∧ TK g B w w' :=
 (read_any g B c s w h).mono fun e w' q => q.of_none (tAsk_stop (1, c, 0) s hlt)
theorem write_ok (g B : Nat) (c v : Int) (s : TS) (w : World) (h : Tape1 w g B s) (hlt : s.acc.length < s.ans.length) :
 Calls Tryz.prog 212 #[.pointer (some ⟨g, 0, none⟩), .int .i64 c, .int .i64 v] w fun e w' => e = .returned (.tuple #[]) ∧ Tape1 w' g B (s.asked (2, c, v)) ∧ TK g B w w' := by
 have HA := hQ' (ask_any g B (2, c, v) s w h)
 have HR := hQ' (tAsk_ok (2, c, v) s hlt)
 clear h
 go_enter Tryz.func212, Tryz.ntmps212
 go_wp2_with fail
 refine HA.out.mono ?_
 intro e w' q
 obtain ⟨rfl, h2, h3⟩ := q.of_some HR.out
 have H2 := hQ' h2
 have H3 := hQ' h3
 clear q h2 h3
 go_wp2_with fail
 go_end0
 exact ⟨rfl, H2.out, H3.out⟩
theorem write_stop (g B : Nat) (c v : Int) (s : TS) (w : World) (h : Tape1 w g B s) (hlt : ¬ s.acc.length < s.ans.length) :
 Calls Tryz.prog 212 #[.pointer (some ⟨g, 0, none⟩), .int .i64 c, .int .i64 v] w fun e w' => e = .panicked (stopC g) ∧ TapeIs w' g B 2 (s.asked (2, c, v)) ∧ TK g B w w' := by
 have HA := hQ' (ask_any g B (2, c, v) s w h)
 have HR := hQ' (tAsk_stop (2, c, v) s hlt)
 clear h
 go_enter Tryz.func212, Tryz.ntmps212
 go_wp2_with fail
 refine HA.out.mono ?_
 intro e w' q
 obtain ⟨rfl, h2, h3⟩ := q.of_none HR.out
 have H2 := hQ' h2
 have H3 := hQ' h3
 clear q h2 h3
 go_wp2_with fail
 exact ⟨rfl, rfl, H2.out, H3.out⟩
theorem get_any (g B : Nat) (i : Int) (s : TS) (w : World) (h : Tape1 w g B s) :
 Calls Tryz.prog 205 #[.pointer (some ⟨g, 0, none⟩), .int .i64 i] w fun e w' => e = .returned (.int .i64 (s.get i)) ∧ w' = w := by
 obtain ⟨v, hcv, hown⟩ := h.1.loc
 obtain ⟨A, c, rfl, hac, hcm⟩ := own_form hown
 have c0 := h.1.c0
 have hll := h.1.ll
 by_cases hr : i < 0 ∨ (s.loc.length : Int) ≤ i
 · have HG := hQ' (show s.get i = 0 by unfold TS.get; rw [if_pos hr])
   clear h hown
   generalize s.loc.length = n at *
   rcases hr with h1 | h1
   · go_enter Tryz.func205, Tryz.ntmps205
     go_wp2_with fail
     go_ret
     exact ⟨by rw [HG.out]; rfl, rfl⟩
   · have h2 : ¬ i < 0 := by omega
     go_enter Tryz.func205, Tryz.ntmps205
     go_wp2_with fail
     go_ret
     exact ⟨by rw [HG.out]; rfl, rfl⟩
 · have HG := hQ' (show s.get i = s.loc.getD i.toNat 0 by unfold TS.get; rw [if_neg hr])
   have h1 : ¬ i < 0 := by omega
   obtain ⟨k, rfl⟩ : ∃ k : Nat, i = k := ⟨i.toNat, by omega⟩
   have hk : k < s.loc.length := by omega
   obtain ⟨A', c', hA, hrow, _⟩ := own_row (f := IVal s.loc) hown (fun k hk => iVal_map hk)
   injection hA with hA1 hA2 hA3
   subst hA1
   obtain ⟨b, off, rfl, hcell⟩ := hrow k hk
   unfold IVal at hcell
   rw [Int.toNat_natCast] at HG
   have HG2 := hQ' HG.out.symm
   rw [HG2.out] at hcell
   have h2 : ¬ ((s.loc.length : Int) ≤ (k : Int)) := by omega
   clear h hown hrow hr hk
   generalize s.loc.length = n at *
   go_enter Tryz.func205, Tryz.ntmps205
   go_wp2_with fail
   go_ret
   exact ⟨rfl, rfl⟩
end Go.Proofs.YtpodgcpkccpnfaaGreat

