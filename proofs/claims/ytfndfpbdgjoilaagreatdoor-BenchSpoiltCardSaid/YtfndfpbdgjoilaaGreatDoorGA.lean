/- The examples of benches, run by the kernel: a part. -/
import Derived.KernelRfl
import Derived.Test.YtfndfpbdgjoilaaGreatDoorGS
set_option linter.all false
set_option maxRecDepth 1000000
namespace Go.Pi.Ben
open Go Go.Pi Go.Pi.Q
theorem gK0:(codeF ⟨0,bgB kB0⟩ (runF ⟨0,bgB kB0⟩ PP (fp ⟨0,bgB kB0⟩) 100) 100 kC0 ⟨kT0,kS0,[],⟨0,.nil⟩,0,228,false⟩).map (obsS [0,1,10,34,45,66] ⟨0,bgB kB0⟩)=some (true,kT1,kS1,0,228,71,kB1):=by kernel_rfl
end Go.Pi.Ben
