/- The row of BenchBetween. -/
import Derived.Test.YtfndfpbdgjoilaaGreatDoorCR3
import Derived.Test.YtfndfpbdgjoilaaGreatDoorJA3
import Derived.Test.YtfndfpbdgjoilaaGreatDoorJB3
import Derived.Test.YtfndfpbdgjoilaaGreatDoorJC3
import Derived.Test.YtfndfpbdgjoilaaGreatDoorJD3
import Derived.Test.YtfndfpbdgjoilaaGreatDoorJE3
import Derived.Test.YtfndfpbdgjoilaaGreatDoorHA
import Derived.Test.YtfndfpbdgjoilaaGreatDoorHC3
set_option linter.all false
set_option maxRecDepth 100000
namespace Go.Proofs.YtfndfpbdgjoilaaGreatDoor
open Go Go.ChangeShapes Go.WideShapes Go.ChangeAt Go.RowKit Go.Pi Go.Pi.E Go.Pi.L Go.Pi.L.Ben
theorem and_i {a b:Bool}(ha:a=true)(hb:b=true):(a&&b)=true:=by rw [ha,hb]; rfl
theorem closed3:joinedFacts Tryz.prog 3 Tryz.f3 Rows.benchBetweenSpec Rows.benchBetweenRow=true :=
 and_i (and_i (and_i (and_i (and_i (and_i (and_i (and_i (and_i (and_i (and_i (and_i (and_i (and_i (and_i (and_i (and_i (and_i (and_i (and_i (and_i (and_i (and_i (and_i (and_i (and_i (and_i (and_i (and_i (and_i (and_i jf3x0 jf3x1) jf3x2) jf3x3) jf3x4) jf3x5) jf3x6) jf3x7) jf3x8) jf3x9) jf3x10) jf3x11) jf3x12) jf3x13) jf3x14) jf3x15) jf3x16) jf3x17) jf3x18) jf3x19) jf3x20) jf3x21) jf3x22) jf3x23) jf3x24) jf3x25) jf3x26) jf3x27) jf3x28) jf3x29) jf3x30) jf3x31
theorem named3:Tryz.prog.funcNamed "mahlstick/mahlsticklaw06.BenchBetween" = some 3:=by kernel_rfl
theorem benchBetween_holds:Rows.BenchBetweenSaid :=
 OpenClaim.holds_of_wide 3 Tryz.f3 rfl rfl rfl rfl rfl rfl rfl ⟨rfl,rfl,rfl,rfl,rfl⟩ rfl rfl rfl rfl rfl named3 Tryz.func3 closed3
  (of_decide_eq_true (by kernel_rfl)) (by unfold Func.isWrapper; first | (rw [if_pos (by decide +kernel)]; kernel_rfl) | (rw [if_neg (by decide +kernel)]; exact ⟨rfl,rfl⟩))
  (fun os started H enc _=>lifted3 os started H enc)
end Go.Proofs.YtfndfpbdgjoilaaGreatDoor
set_option maxRecDepth 100000
namespace Go.Proofs.YtfndfpbdgjoilaaGreatDoor
open Go Go.ChangeShapes Go.WideShapes Go.ChangeAt Go.RowKit Go.Pi Go.Pi.E Go.Pi.L Go.Pi.L.Ben
theorem benchBetween_card:Rows.BenchBetweenCardSaid :=
 Claim7.holds_tied_plain_at .later [] [.data,.data,.data,.data,.pinned] true (true, "8771728aba0d1714095fb83e05d29a8b88380942a44dd647203ff7e14084f3ef") true
  benchBetween_holds (fun _ h=>by cases h) kWf3 (fun _ h=>by cases h) benchBetween_row_tie rfl ⟨rfl,rfl⟩ kMain rfl
  (fun f fn hf hfn=>by
   obtain rfl:f=3:=Option.some.inj (named3.symm.trans hf) |>.symm
   obtain rfl:fn=Tryz.f3:=(Option.some.inj (Tryz.func3.symm.trans hfn)).symm
   exact ⟨kLooks,fun j t ht=>by
    rw [Tryz.params3] at ht
    have hm:t∈[25,22,22]:=by simpa using Array.mem_of_getElem? ht
    have hall:([25,22,22].all fun u=>!Tryz.prog.wantsStandIn u)=true:=by kernel_rfl
    exact (show Tryz.prog.wantsStandIn t=false by simpa using List.all_eq_true.1 hall t hm)⟩)
  kGoes3
end Go.Proofs.YtfndfpbdgjoilaaGreatDoor
