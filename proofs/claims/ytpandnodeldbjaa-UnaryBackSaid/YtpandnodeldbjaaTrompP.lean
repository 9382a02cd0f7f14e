/-
  Tromp's bit as an operation on a tape, and a row of its writes and reads.
-/
import Derived.Test.YtpandnodeldbjaaOp
import Derived.Test.YtpandnodeldbjaaSteadyA
set_option linter.unusedVariables false
set_option linter.unusedSimpArgs false
namespace Go.Proofs.Ytpandnodeldbjaa
open Go.RowKit

/-- The middle of a read: the reader's bit is turned. -/
def trTurn (b lo y z : Int) (k : Op Int) : Op Int :=
  if y = z then k else .get ((lo + 2)) fun g => .ask (2, (b + 2), wrap64 (1 - g)) fun _ => .set ((lo + 2)) (wrap64 (1 - g)) k
def trEnd (b lo x : Int) : Op Int :=
  .ask (1, b, 0) fun v => .set ((lo + 3)) v (.ask (1, (b + 1), 0) fun y => .get ((lo + 2)) fun z =>
    if y = z then .get ((lo + 3)) .ret else .ask (1, b, 0) fun u => .set ((lo + 3)) u (.ret x))
def trR (b lo : Int) : Op Int :=
  .ask (1, (b + 1), 0) fun x => .get ((lo + 2)) fun y => if x = y then .get ((lo + 3)) .ret else
    .ask (1, b, 0) fun x => .ask (1, (b + 1), 0) fun y => .get ((lo + 2)) fun z => trTurn b lo y z (trEnd b lo x)
def trW (b lo v : Int) : Op Unit :=
  .get lo fun x => if x = bitI v then .ret () else .ask (2, b, bitI v) fun _ => .set lo (bitI v) (.get ((lo + 1)) fun g =>
    .ask (1, (b + 2), 0) fun y => if y = g then .ask (2, (b + 1), wrap64 (1 - g)) fun _ => .set ((lo + 1)) (wrap64 (1 - g)) (.ret ()) else .ret ())
/-- The document's. -/
def rtrW (b lo v : Int) : Op Unit :=
  .get lo fun x => if x = bitI v then .ret () else .ask (2, b, bitI v) fun _ => .set lo (bitI v) (.get ((lo + 1)) fun g =>
    .ask (1, (b + 2), 0) fun y => .live fun l => if y = g ∧ l = true then .ask (2, (b + 1), wrap64 (1 - g)) fun _ => .set ((lo + 1)) (wrap64 (1 - g)) (.ret ()) else .ret ())
theorem rtrW_onT (b lo v : Int) (s : TS) : (rtrW b lo v).onT s = (trW b lo v).onT s := by
  unfold rtrW trW
  simp only [Op.onT]
  split
  · rfl
  · simp only [Op.onT]
    split
    · split
      · by_cases h : ((s.asked (2, b, bitI v)).set lo (bitI v)).told = ((s.asked (2, b, bitI v)).set lo (bitI v)).get ((lo + 1))
        · rw [if_pos h, if_pos ⟨h, trivial⟩]
        · rw [if_neg h, if_neg (fun e => h e.1)]
      · rfl
    · rfl

theorem trTurn_few (b lo y z : Int) (k : Op Int) (h : k.few 0) : (trTurn b lo y z k).few 0 := by
  unfold trTurn
  split
  · exact h
  · intro _ _
    exact h
theorem trEnd_few (b lo x : Int) : (trEnd b lo x).few 0 := by
  intro _ y z
  show Op.few 0 (if _ then _ else _)
  split
  · exact fun _ => trivial
  · exact fun _ => trivial
theorem trR_few (b lo : Int) : (trR b lo).few 0 := by
  intro x y
  show Op.few 0 (if _ then _ else _)
  split
  · exact fun _ => trivial
  · exact fun x y z => trTurn_few b lo y z _ (trEnd_few b lo x)
theorem trW_few (b lo v : Int) : (trW b lo v).few 0 := by
  intro x
  show Op.few 0 (if _ then _ else _)
  split
  · trivial
  · intro _ g y
    show Op.few 0 (if _ then _ else _)
    split
    · exact fun _ => trivial
    · trivial

/-- A row of writes and reads of any register, the program's and the document's. -/
def rowOp (c : Int) (R : Op Int) (W : Int → Op Unit) : List Int → Int → Op Int
  | [], sum => .ret sum
  | x :: l, sum => if x < 0 then R.bind fun v => rowOp c R W l (wrap64 (wrap64 (c * sum) + v)) else (W x).bind fun _ => rowOp c R W l sum
def rrowOp (c : Int) (R : Op Int) (W : Int → Op Unit) : List Int → Int → Op Int
  | [], sum => .ret sum
  | x :: l, sum => .live fun b => if b = true then (if x < 0 then R.bind fun v => rrowOp c R W l (wrap64 (wrap64 (c * sum) + v)) else (W x).bind fun _ => rrowOp c R W l sum) else .ret sum
theorem rrow_onT (c : Int) (R R' : Op Int) (W W' : Int → Op Unit) (hR : ∀ s, R'.onT s = R.onT s) (hW : ∀ x s, (W' x).onT s = (W x).onT s) : ∀ (l : List Int) (sum : Int) (s : TS), (rrowOp c R' W' l sum).onT s = (rowOp c R W l sum).onT s
  | [], sum, s => rfl
  | x :: l, sum, s => by
    unfold rrowOp rowOp
    simp only [Op.onT, if_true]
    split
    · rw [onT_bind, onT_bind, hR]
      congr 1
      funext v s'
      exact rrow_onT c R R' W W' hR hW l _ s'
    · rw [onT_bind, onT_bind, hW]
      congr 1
      funext v s'
      exact rrow_onT c R R' W W' hR hW l _ s'
theorem rowOp_few (c : Int) (R : Op Int) (W : Int → Op Unit) (hR : R.few 0) (hW : ∀ x, (W x).few 0) : ∀ (l : List Int) (sum : Int), (rowOp c R W l sum).few 0
  | [], sum => trivial
  | x :: l, sum => by
    unfold rowOp
    split
    · exact few_bind R _ 0 0 hR fun v => rowOp_few c R W hR hW l _
    · exact few_bind (W x) _ 0 0 (hW x) fun v => rowOp_few c R W hR hW l _
/-- A round of the row. -/
theorem rowOp_drop (c : Int) (R : Op Int) (W : Int → Op Unit) {l : List Int} {k : Nat} (hk : k < l.length) (sum : Int) (s : TS) : (rowOp c R W (l.drop k) sum).onT s =
    if l.getD k 0 < 0 then andT (R.onT s) (fun v s' => (rowOp c R W (l.drop (k + 1)) (wrap64 (wrap64 (c * sum) + v))).onT s') else andT ((W (l.getD k 0)).onT s) (fun _ s' => (rowOp c R W (l.drop (k + 1)) sum).onT s') := by
  rw [List.drop_eq_getElem_cons hk, getD_lt hk]
  show Op.onT (if _ then _ else _) s = _
  split
  · exact onT_bind _ _ _
  · exact onT_bind _ _ _
theorem rrowOp_drop (c : Int) (R : Op Int) (W : Int → Op Unit) {l : List Int} {k : Nat} (hk : k < l.length) (sum : Int) (r : RS) (ho : r.over = false) : (rrowOp c R W (l.drop k) sum).onR r =
    if l.getD k 0 < 0 then (rrowOp c R W (l.drop (k + 1)) (wrap64 (wrap64 (c * sum) + (R.onR r).1))).onR (R.onR r).2 else (rrowOp c R W (l.drop (k + 1)) sum).onR ((W (l.getD k 0)).onR r).2 := by
  rw [List.drop_eq_getElem_cons hk, getD_lt hk]
  show Op.onR (if (!r.over) = true then _ else _) r = _
  rw [ho, if_pos (by rfl)]
  split
  · exact onR_bind _ _ _
  · exact onR_bind _ _ _
theorem rrowOp_over (c : Int) (R : Op Int) (W : Int → Op Unit) (l : List Int) (sum : Int) (r : RS) (ho : r.over = true) : (rrowOp c R W l sum).onR r = (sum, r) := by
  cases l with
  | nil => rfl
  | cons x l =>
    show Op.onR (if (!r.over) = true then _ else _) r = _
    rw [ho, if_neg (by simp)]
    rfl

end Go.Proofs.Ytpandnodeldbjaa
