/- The examples of the theorems across layers, run by the kernel. -/
import Derived.KernelRfl
import Derived.Test.YtjgmlngcknehhaaGreatTPs
import Derived.Test.YtjgmlngcknehhaaGreatPiQ
set_option linter.all false
set_option maxRecDepth 1000000
namespace Go.Pi.Top
open Go Go.Pi Go.Pi.Q
def fp (_:Base):FPrims:=fun _=>none
theorem prel (B:Base)(Hb:Heap)(_:Q.Good B Hb):PRel B Hb (fp B) prims0:=⟨fun f hf=>rfl,fun f q hf=>by cases hf⟩
theorem pkeeps:∀f g,prims0 f=some g→∀args H out,g args H=some out→Fam H→Fam out.H∧Same out.lo H out.H:=fun f g hf=>by cases hf
theorem gK:(runF ⟨0,[]⟩ PP (fp ⟨0,[]⟩) 100 (.func 7) [] ⟨0,.nil⟩).map (obs [] ⟨0,[]⟩)=some (.ok (.bool true),0,0,[]):=by kernel_rfl
theorem known:run PP prims0 100 (.func 7) [] []=some ⟨.ok (.bool true),[],0⟩:=by
 obtain ⟨H',h1,h2⟩:=fact prel pkeeps gK [] rfl (fun p hp=>by cases hp) (fun i b f h=>by simp at h)
 have:=h2.same
 rw [h1,this]
end Go.Pi.Top
