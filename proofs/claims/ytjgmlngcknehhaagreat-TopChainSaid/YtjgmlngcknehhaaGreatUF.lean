/- Boards of names, run by the kernel. -/
import Derived.KernelRfl
import Derived.Test.YtjgmlngcknehhaaGreatKN
import Derived.Test.YtjgmlngcknehhaaGreatUB
set_option linter.all false
set_option maxRecDepth 1000000
namespace Go.Pi.Top
open Go Go.Pi Go.Pi.Q UP
def runO (c:List (List Nat)):Option (Ret×Nat×Nat×List (Option Blk)):=(runF (baseE (edges c)) PP (fp (baseE (edges c))) 100 (.func 14) [valE c.length (edges c)] ⟨(heapE (edges c)).length,.nil⟩).map (obs [] (baseE (edges c)))
def ansO (c:List (List Nat)):Option (Ret×Nat×Nat×List (Option Blk)):=some (.ok (.tuple #[.int .i64 (.ofNat (owners c)),.int .i64 0]),(heapE (edges c)).length,(heapE (edges c)).length,[])
def runT (c:List (List Nat)):Option (Ret×Nat×Nat×List (Option Blk)):=(runF (baseE (edges c)) PP (fp (baseE (edges c))) 100 (.func 15) [valE c.length (edges c)] ⟨(heapE (edges c)).length,.nil⟩).map (obs [(heapE (edges c)).length+10+c.length] (baseE (edges c)))
def ansT (c:List (List Nat)):Option (Ret×Nat×Nat×List (Option Blk)):=some (.ok (.tuple #[.slice (some ⟨(heapE (edges c)).length+10+c.length,0,none⟩) c.length 1,.int .i64 0]),(heapE (edges c)).length,(heapE (edges c)).length+11+c.length,[some ⟨.cells ((List.range c.length).map fun i=>.int .i64 (.ofNat i)),true,true,some ((heapE (edges c)).length+9+c.length)⟩])
end Go.Pi.Top
