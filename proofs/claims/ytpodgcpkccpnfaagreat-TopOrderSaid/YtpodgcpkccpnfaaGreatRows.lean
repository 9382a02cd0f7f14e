/-
  No cell of these rows narrows 'for every input' (looked for: loops, veiled, ifaces, maps, wideKeys, modest, calm, conditions, laid).
  DERIVED. THE GIVEN ROWS OF THIS SEAT. 4 by the template 'for every input the law returns true; each argument reads behind the call as it read before'; 0 by the template 'total and deterministic' (their statements: YtpodgcpkccpnfaaGreatTotals.lean).
  GIVEN WITH THE SEED: the statements are not yours to turn. If you find one false, say at which input.
  Laid BY PROGRAM, IN A SANDBOX (cutbox-rows.mjs): the forced cells as the released guide's own fill.sh prints them over the translation 03d130de3641c969… (all of the seat's roots in one cut). By AI agents, Wed Nov 11 2026. No macro, syntax, notation, axiom, sorry.
-/
import Derived.Test.YtpodgcpkccpnfaaGreatChecked
import GoSem.Claim
import GoSem.ClaimJoined
import GoSem.ClaimMapViews
import Derived.JoinedTies
import Derived.KernelRfl
namespace Go.Proofs.YtpodgcpkccpnfaaGreat
/- THE CELL 'sum', in the pinned program and in every row, IS THE sha256 OF THE DUMP (.gsa) THAT YtpodgcpkccpnfaaGreatProg.lean LOADS. Nothing in Lean hashes anything: it is a label: what it is worth is what the hold of that sum in a sandbox is worth. -/
noncomputable def Tryz.pinned : Pinned := { name := "ytpodgcpkccpnfaagreat", sum := "03d130de3641c969dc0664ec1ce884d220392c13525538a00cfa5832de67f865", checked := Tryz.checked }
namespace Rows
def none {H : Type} : Left H := { results := [], args := [] }

/-- 'keveltop.TopKeeps': WHATEVER THE INPUT: true; the input reads as it did. -/
def topKeepsSpec : ChangeSpec := { name := "topKeeps", fn := fun _ => fun
  | [d] => { results := [.lit (.bool true)], args := [d] }
  | _ => none }
def topKeepsRow : OpenClaim := { program := "ytpodgcpkccpnfaagreat", sum := "03d130de3641c969dc0664ec1ce884d220392c13525538a00cfa5832de67f865", func := "kevel/keveltop.TopKeeps", spec := "topKeeps", unfollowed := true, recurses := true, apart := false }
def TopKeepsSaid : Prop := topKeepsRow.holds Tryz.pinned (OpenSpec.ofChange topKeepsSpec)

/-- ITS FALSE NEIGHBOUR: 'it returns false'. Refute it at one input. -/
def topKeepsWrong : ChangeSpec := { name := "topKeeps", fn := fun _ => fun
  | [d] => { results := [.lit (.bool false)], args := [d] }
  | _ => none }
def TopKeepsWrongFalsely : Prop := topKeepsRow.holds Tryz.pinned (OpenSpec.ofChange topKeepsWrong)

/-- 'keveltop.TopOrder': WHATEVER THE INPUT: true; the input reads as it did. -/
def topOrderSpec : ChangeSpec := { name := "topOrder", fn := fun _ => fun
  | [d] => { results := [.lit (.bool true)], args := [d] }
  | _ => none }
def topOrderRow : OpenClaim := { program := "ytpodgcpkccpnfaagreat", sum := "03d130de3641c969dc0664ec1ce884d220392c13525538a00cfa5832de67f865", func := "kevel/keveltop.TopOrder", spec := "topOrder", unfollowed := true, recurses := true, apart := false }
def TopOrderSaid : Prop := topOrderRow.holds Tryz.pinned (OpenSpec.ofChange topOrderSpec)

/-- ITS FALSE NEIGHBOUR: 'it returns false'. Refute it at one input. -/
def topOrderWrong : ChangeSpec := { name := "topOrder", fn := fun _ => fun
  | [d] => { results := [.lit (.bool false)], args := [d] }
  | _ => none }
def TopOrderWrongFalsely : Prop := topOrderRow.holds Tryz.pinned (OpenSpec.ofChange topOrderWrong)

/-- 'keveltop.TopBuilt': WHATEVER THE INPUT: true; the input reads as it did. -/
def topBuiltSpec : ChangeSpec := { name := "topBuilt", fn := fun _ => fun
  | [d] => { results := [.lit (.bool true)], args := [d] }
  | _ => none }
def topBuiltRow : OpenClaim := { program := "ytpodgcpkccpnfaagreat", sum := "03d130de3641c969dc0664ec1ce884d220392c13525538a00cfa5832de67f865", func := "kevel/keveltop.TopBuilt", spec := "topBuilt", unfollowed := true, recurses := true, apart := false }
def TopBuiltSaid : Prop := topBuiltRow.holds Tryz.pinned (OpenSpec.ofChange topBuiltSpec)

/-- ITS FALSE NEIGHBOUR: 'it returns false'. Refute it at one input. -/
def topBuiltWrong : ChangeSpec := { name := "topBuilt", fn := fun _ => fun
  | [d] => { results := [.lit (.bool false)], args := [d] }
  | _ => none }
def TopBuiltWrongFalsely : Prop := topBuiltRow.holds Tryz.pinned (OpenSpec.ofChange topBuiltWrong)

/-- 'keveltop.TopDoors': WHATEVER THE INPUT: true; the input reads as it did. -/
def topDoorsSpec : ChangeSpec := { name := "topDoors", fn := fun _ => fun
  | [d1, d2] => { results := [.lit (.bool true)], args := [d1, d2] }
  | _ => none }
def topDoorsRow : OpenClaim := { program := "ytpodgcpkccpnfaagreat", sum := "03d130de3641c969dc0664ec1ce884d220392c13525538a00cfa5832de67f865", func := "kevel/keveltop.TopDoors", spec := "topDoors", unfollowed := true, recurses := true, apart := false }
def TopDoorsSaid : Prop := topDoorsRow.holds Tryz.pinned (OpenSpec.ofChange topDoorsSpec)

/-- ITS FALSE NEIGHBOUR: 'it returns false'. Refute it at one input. -/
def topDoorsWrong : ChangeSpec := { name := "topDoors", fn := fun _ => fun
  | [d1, d2] => { results := [.lit (.bool false)], args := [d1, d2] }
  | _ => none }
def TopDoorsWrongFalsely : Prop := topDoorsRow.holds Tryz.pinned (OpenSpec.ofChange topDoorsWrong)

/- THE SECOND FORM. 'bulk': how many values and letters a reading holds, each counted each time it is reached (what is shared counts as often as it is met; a slice's spare places count too). A statement '..UptoSaid' is the law's where the arguments, and the package variables that the reading takes, are together of bulk at most 1048576: NARROWER than '..Said'. Prove '..Said' where nothing that the law and all that it calls make is longer than what came in: it says more and counts as full. Else prove '..UptoSaid'. A law counts once. -/
mutual
def uptoBulk {H : Type} : DataW H → Nat
  | .lit (.string bytes) => bytes.length + 1
  | .lit _ => 1
  | .nil => 1
  | .ptr d => uptoBulk d + 1
  | .slice elems spare => uptoBulkAll elems + uptoBulkAll spare + 1
  | .agg parts => uptoBulkAll parts + 1
  | .iface _ d => uptoBulk d + 1
  | .map entries => uptoBulkEntries entries + 1
  | .held _ => 1
def uptoBulkAll {H : Type} : List (DataW H) → Nat
  | [] => 0
  | d :: r => uptoBulk d + uptoBulkAll r
def uptoBulkEntries {H : Type} : List (Lit × DataW H) → Nat
  | [] => 0
  | x :: r => uptoBulkEntry x + uptoBulkEntries r
def uptoBulkEntry {H : Type} : Lit × DataW H → Nat
  | (.string bytes, d) => bytes.length + uptoBulk d + 1
  | (_, d) => uptoBulk d + 1
 end
def uptoSmall : (H : Type) → List (DataW H) → Bool := fun _ ds => decide (uptoBulkAll ds ≤ 1048576)
def OpenSpec.upto (s : _root_.Go.ChangeSpec) : _root_.Go.OpenSpec := { _root_.Go.OpenSpec.ofChange s with cond := some uptoSmall }

/-- 'keveltop.TopKeeps', WHERE WHAT IT READS IS OF BULK AT MOST 1048576: true; the input reads as it did. -/
def topKeepsUptoRow : OpenClaim := { program := "ytpodgcpkccpnfaagreat", sum := "03d130de3641c969dc0664ec1ce884d220392c13525538a00cfa5832de67f865", func := "kevel/keveltop.TopKeeps", spec := "topKeeps", unfollowed := true, recurses := true, apart := false, narrowed := true }
def TopKeepsUptoSaid : Prop := topKeepsUptoRow.holds Tryz.pinned (OpenSpec.upto topKeepsSpec)

/-- 'keveltop.TopOrder', WHERE WHAT IT READS IS OF BULK AT MOST 1048576: true; the input reads as it did. -/
def topOrderUptoRow : OpenClaim := { program := "ytpodgcpkccpnfaagreat", sum := "03d130de3641c969dc0664ec1ce884d220392c13525538a00cfa5832de67f865", func := "kevel/keveltop.TopOrder", spec := "topOrder", unfollowed := true, recurses := true, apart := false, narrowed := true }
def TopOrderUptoSaid : Prop := topOrderUptoRow.holds Tryz.pinned (OpenSpec.upto topOrderSpec)

/-- 'keveltop.TopBuilt', WHERE WHAT IT READS IS OF BULK AT MOST 1048576: true; the input reads as it did. -/
def topBuiltUptoRow : OpenClaim := { program := "ytpodgcpkccpnfaagreat", sum := "03d130de3641c969dc0664ec1ce884d220392c13525538a00cfa5832de67f865", func := "kevel/keveltop.TopBuilt", spec := "topBuilt", unfollowed := true, recurses := true, apart := false, narrowed := true }
def TopBuiltUptoSaid : Prop := topBuiltUptoRow.holds Tryz.pinned (OpenSpec.upto topBuiltSpec)

/-- 'keveltop.TopDoors', WHERE WHAT IT READS IS OF BULK AT MOST 1048576: true; the input reads as it did. -/
def topDoorsUptoRow : OpenClaim := { program := "ytpodgcpkccpnfaagreat", sum := "03d130de3641c969dc0664ec1ce884d220392c13525538a00cfa5832de67f865", func := "kevel/keveltop.TopDoors", spec := "topDoors", unfollowed := true, recurses := true, apart := false, narrowed := true }
def TopDoorsUptoSaid : Prop := topDoorsUptoRow.holds Tryz.pinned (OpenSpec.upto topDoorsSpec)

end Rows
end Go.Proofs.YtpodgcpkccpnfaaGreat
