/-
  A row of ints as the cells of memory.
-/
import Derived.Test.YtedkgamecdmjdaaRow
namespace Go.Proofs.Ytedkgamecdmjdaa

def icells (l : List Int) : List Value := l.map (Value.int .i64)

end Go.Proofs.Ytedkgamecdmjdaa
