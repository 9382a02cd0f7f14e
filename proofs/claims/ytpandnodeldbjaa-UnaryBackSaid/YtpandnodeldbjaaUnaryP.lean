/-
  A unary number as an operation on a tape.
-/
import Derived.Test.YtpandnodeldbjaaTrompP
import Derived.Test.YtpandnodeldbjaaSteadyB
set_option linter.unusedVariables false
set_option linter.unusedSimpArgs false
namespace Go.Proofs.Ytpandnodeldbjaa
open Go.RowKit

def mostI (top : Int) : Int := clampI top 0 255
theorem mostI_le (top : Int) : 0 ≤ mostI top ∧ mostI top ≤ 255 := by
  unfold mostI clampI
  split
  · omega
  · split <;> omega
def stRO (b : Int) : Op Int := .ask (1, b, 0) .ret
def stWO (b lo v : Int) : Op Unit := .get lo fun x => if x = bitI v then .ret () else .ask (2, b, bitI v) fun _ => .set lo (bitI v) (.ret ())
theorem stRO_onT (b : Int) (s : TS) : (stRO b).onT s = stR b s := rfl
theorem stWO_onT (b lo v : Int) (s : TS) : (stWO b lo v).onT s = stW b lo v s := by
  unfold stWO stW
  simp only [Op.onT]
  split
  · rfl
  · simp only [Op.onT]
theorem stRO_onR (b : Int) (r : RS) : (stRO b).onR r = rAsk (1, b, 0) r := rfl
theorem stWO_onR (b lo v : Int) (r : RS) : ((stWO b lo v).onR r).2 = rstW b lo v r := by
  unfold stWO rstW
  simp only [Op.onR]
  split
  · rfl
  · rfl

/-- A bit is up: told 1, but bit 0 upside down. -/
def upB (i x : Int) : Bool := (x == 1) != (i == 0)
/-- What is written to put a bit up or down. -/
def putV (i : Int) (up : Bool) : Int := if (up != (i == 0)) = true then 1 else 0
def putO (b lo i : Int) (up : Bool) : Op Unit := stWO (b + i) (lo + i) (putV i up)
def downO (b lo : Int) : Nat → Op Unit
  | 0 => .ret ()
  | n + 1 => (putO b lo n false).bind fun _ => downO b lo n
def unV (tp v : Int) : Int := clampI v 0 (mostI tp)
theorem unV_le (tp v : Int) : 0 ≤ unV tp v ∧ unV tp v ≤ mostI tp := by
  have := mostI_le tp
  unfold unV clampI
  split
  · omega
  · split <;> omega
def unW (b lo tp v : Int) : Op Unit := (putO b lo (unV tp v) true).bind fun _ => downO b lo (unV tp v).toNat
/-- From bit i on, so many of them. -/
def lookO (b top : Int) : Nat → Int → Op Int
  | 0, i => .ret top
  | n + 1, i => (stRO (b + i)).bind fun x => if upB i x = true then .ret i else lookO b top n (i + 1)
def unR (b tp : Int) : Op Int := lookO b (mostI tp) ((mostI tp).toNat + 1) 0

theorem stWO_few (b lo v : Int) : (stWO b lo v).few 0 := by
  intro x
  show Op.few 0 (if _ then _ else _)
  split
  · trivial
  · exact fun _ => trivial
theorem downO_few (b lo : Int) : ∀ n, (downO b lo n).few 0
  | 0 => trivial
  | n + 1 => few_bind _ _ 0 0 (stWO_few _ _ _) fun _ => downO_few b lo n
theorem unW_few (b lo tp v : Int) : (unW b lo tp v).few 0 := few_bind _ _ 0 0 (stWO_few _ _ _) fun _ => downO_few b lo _
theorem lookO_few (b top : Int) : ∀ n i, (lookO b top n i).few 0
  | 0, i => trivial
  | n + 1, i => few_bind _ _ 0 0 (fun _ => trivial) fun x => by
    show Op.few 0 (if _ then _ else _)
    split
    · trivial
    · exact lookO_few b top n _
theorem unR_few (b tp : Int) : (unR b tp).few 0 := lookO_few _ _ _ _

end Go.Proofs.Ytpandnodeldbjaa
