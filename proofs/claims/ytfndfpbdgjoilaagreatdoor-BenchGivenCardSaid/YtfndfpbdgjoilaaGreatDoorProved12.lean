/- The row of BenchGiven. -/
import Derived.Test.YtfndfpbdgjoilaaGreatDoorCR12
import Derived.Test.YtfndfpbdgjoilaaGreatDoorJA12
import Derived.Test.YtfndfpbdgjoilaaGreatDoorJB12
import Derived.Test.YtfndfpbdgjoilaaGreatDoorJC12
import Derived.Test.YtfndfpbdgjoilaaGreatDoorJD12
import Derived.Test.YtfndfpbdgjoilaaGreatDoorJE12
import Derived.Test.YtfndfpbdgjoilaaGreatDoorHA
import Derived.Test.YtfndfpbdgjoilaaGreatDoorHC12
set_option linter.all false
set_option maxRecDepth 100000
namespace Go.Proofs.YtfndfpbdgjoilaaGreatDoor
open Go Go.ChangeShapes Go.WideShapes Go.ChangeAt Go.RowKit Go.Pi Go.Pi.E Go.Pi.L Go.Pi.L.Ben
theorem and_i {a b:Bool}(ha:a=true)(hb:b=true):(a&&b)=true:=by rw [ha,hb]; rfl
theorem closed12:joinedFacts Tryz.prog 12 Tryz.f12 Rows.benchGivenSpec Rows.benchGivenRow=true :=
 and_i (and_i (and_i (and_i (and_i (and_i (and_i (and_i (and_i (and_i (and_i (and_i (and_i (and_i (and_i (and_i (and_i (and_i (and_i (and_i (and_i (and_i (and_i (and_i (and_i (and_i (and_i (and_i (and_i (and_i (and_i jf12x0 jf12x1) jf12x2) jf12x3) jf12x4) jf12x5) jf12x6) jf12x7) jf12x8) jf12x9) jf12x10) jf12x11) jf12x12) jf12x13) jf12x14) jf12x15) jf12x16) jf12x17) jf12x18) jf12x19) jf12x20) jf12x21) jf12x22) jf12x23) jf12x24) jf12x25) jf12x26) jf12x27) jf12x28) jf12x29) jf12x30) jf12x31
theorem named12:Tryz.prog.funcNamed "mahlstick/mahlsticklaw06.BenchGiven" = some 12:=by kernel_rfl
theorem benchGiven_holds:Rows.BenchGivenSaid :=
 OpenClaim.holds_of_wide 12 Tryz.f12 rfl rfl rfl rfl rfl rfl rfl ⟨rfl,rfl,rfl,rfl,rfl⟩ rfl rfl rfl rfl rfl named12 Tryz.func12 closed12
  (of_decide_eq_true (by kernel_rfl)) (by unfold Func.isWrapper; first | (rw [if_pos (by decide +kernel)]; kernel_rfl) | (rw [if_neg (by decide +kernel)]; exact ⟨rfl,rfl⟩))
  (fun os started H enc _=>lifted12 os started H enc)
end Go.Proofs.YtfndfpbdgjoilaaGreatDoor
set_option maxRecDepth 100000
namespace Go.Proofs.YtfndfpbdgjoilaaGreatDoor
open Go Go.ChangeShapes Go.WideShapes Go.ChangeAt Go.RowKit Go.Pi Go.Pi.E Go.Pi.L Go.Pi.L.Ben
theorem benchGiven_card:Rows.BenchGivenCardSaid :=
 Claim7.holds_tied_plain_at .later [] [.data,.data,.data,.data,.pinned] true (true, "8771728aba0d1714095fb83e05d29a8b88380942a44dd647203ff7e14084f3ef") true
  benchGiven_holds (fun _ h=>by cases h) kWf12 (fun _ h=>by cases h) benchGiven_row_tie rfl ⟨rfl,rfl⟩ kMain rfl
  (fun f fn hf hfn=>by
   obtain rfl:f=12:=Option.some.inj (named12.symm.trans hf) |>.symm
   obtain rfl:fn=Tryz.f12:=(Option.some.inj (Tryz.func12.symm.trans hfn)).symm
   exact ⟨kLooks,fun j t ht=>by
    rw [Tryz.params12] at ht
    have hm:t∈[25,22,3,3]:=by simpa using Array.mem_of_getElem? ht
    have hall:([25,22,3,3].all fun u=>!Tryz.prog.wantsStandIn u)=true:=by kernel_rfl
    exact (show Tryz.prog.wantsStandIn t=false by simpa using List.all_eq_true.1 hall t hm)⟩)
  kGoes12
end Go.Proofs.YtfndfpbdgjoilaaGreatDoor
