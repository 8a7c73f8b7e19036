/- The examples of benches, run by the kernel: a part. -/
import Derived.KernelRfl
import Derived.Test.YtfndfpbdgjoilaaGreatDoorGS
set_option linter.all false
set_option maxRecDepth 1000000
namespace Go.Pi.Ben
open Go Go.Pi Go.Pi.Q
theorem gK1:(codeF ⟨71,bgB kB1⟩ (runF ⟨71,bgB kB1⟩ PP (fp ⟨71,bgB kB1⟩) 100) 100 kC1 ⟨kT1,kS1,[],⟨71,.nil⟩,0,228,false⟩).map (obsS [0,1,10,34,45,66,124,201] ⟨71,bgB kB1⟩)=some (true,kT2,kS2,0,228,202,kB2):=by kernel_rfl
end Go.Pi.Ben
