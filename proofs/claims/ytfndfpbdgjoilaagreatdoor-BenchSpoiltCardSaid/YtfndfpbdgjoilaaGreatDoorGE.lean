/- The examples of benches, run by the kernel: a part. -/
import Derived.KernelRfl
import Derived.Test.YtfndfpbdgjoilaaGreatDoorGS
set_option linter.all false
set_option maxRecDepth 1000000
namespace Go.Pi.Ben
open Go Go.Pi Go.Pi.Q
theorem gK4:(codeF ⟨214,bgB kB4⟩ (runF ⟨214,bgB kB4⟩ PP (fp ⟨214,bgB kB4⟩) 100) 100 kC4 ⟨kT4,kS4,[],⟨214,.nil⟩,0,228,false⟩).map (obsS [] ⟨214,bgB kB4⟩)=some (true,kT5,kS5,0,228,239,kB5):=by kernel_rfl
end Go.Pi.Ben
