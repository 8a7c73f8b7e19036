/- The examples of benches are as they should be. -/
import Derived.KernelRfl
import Derived.Test.YtfndfpbdgjoilaaGreatDoorGA
import Derived.Test.YtfndfpbdgjoilaaGreatDoorGB
import Derived.Test.YtfndfpbdgjoilaaGreatDoorGC
import Derived.Test.YtfndfpbdgjoilaaGreatDoorGD
import Derived.Test.YtfndfpbdgjoilaaGreatDoorGE
set_option linter.all false
set_option maxRecDepth 1000000
namespace Go.Pi.Ben
open Go Go.Pi Go.Pi.Q

theorem knownR:run PP prims 101 (.func 25) [] []=some ⟨.ok (.bool true),[],0⟩:=by
 obtain ⟨s0,r0,c0⟩:=seg prel pkeeps (Cut.start 228) gK0
 obtain ⟨s1,r1,c1⟩:=seg prel pkeeps c0 gK1
 obtain ⟨s2,r2,c2⟩:=seg prel pkeeps c1 gK2
 obtain ⟨s3,r3,c3⟩:=seg prel pkeeps c2 gK3
 obtain ⟨s4,r4,c4⟩:=seg prel pkeeps c3 gK4
 refine seg_end (l:=(((flatC p25.body).drop 0).take 9++(((flatC p25.body).drop 9).take 3++(((flatC p25.body).drop 12).take 2++(((flatC p25.body).drop 14).take 1++(((flatC p25.body).drop 15).take 4)))))) (pr 25) rfl rfl rfl rfl ?_ c4 rfl
 exact grp_cut r0 (grp_cut r1 (grp_cut r2 (grp_cut r3 (r4))))
end Go.Pi.Ben
