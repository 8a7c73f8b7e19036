/- The examples of benches, run by the kernel: a part. -/
import Derived.KernelRfl
import Derived.Test.YtfndfpbdgjoilaaGreatDoorGS
set_option linter.all false
set_option maxRecDepth 1000000
namespace Go.Pi.Ben
open Go Go.Pi Go.Pi.Q
theorem gK2:(codeF ⟨202,bgB kB2⟩ (runF ⟨202,bgB kB2⟩ PP (fp ⟨202,bgB kB2⟩) 100) 100 kC2 ⟨kT2,kS2,[],⟨202,.nil⟩,0,228,false⟩).map (obsS [0,1,10,34,45,66,124,201] ⟨202,bgB kB2⟩)=some (true,kT3,kS3,0,228,210,kB3):=by kernel_rfl
end Go.Pi.Ben
