/- The examples of benches, run by the kernel: a part. -/
import Derived.KernelRfl
import Derived.Test.YtfndfpbdgjoilaaGreatDoorGS
set_option linter.all false
set_option maxRecDepth 1000000
namespace Go.Pi.Ben
open Go Go.Pi Go.Pi.Q
theorem gK3:(codeF ⟨210,bgB kB3⟩ (runF ⟨210,bgB kB3⟩ PP (fp ⟨210,bgB kB3⟩) 100) 100 kC3 ⟨kT3,kS3,[],⟨210,.nil⟩,0,228,false⟩).map (obsS [0,1,10,34,45,66,124,201] ⟨210,bgB kB3⟩)=some (true,kT4,kS4,0,228,214,kB4):=by kernel_rfl
end Go.Pi.Ben
