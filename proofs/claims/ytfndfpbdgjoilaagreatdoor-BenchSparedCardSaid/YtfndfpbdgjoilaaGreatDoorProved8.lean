/- The row of BenchSpared. -/
import Derived.Test.YtfndfpbdgjoilaaGreatDoorCR8
import Derived.Test.YtfndfpbdgjoilaaGreatDoorJA8
import Derived.Test.YtfndfpbdgjoilaaGreatDoorJB8
import Derived.Test.YtfndfpbdgjoilaaGreatDoorJC8
import Derived.Test.YtfndfpbdgjoilaaGreatDoorJD8
import Derived.Test.YtfndfpbdgjoilaaGreatDoorJE8
import Derived.Test.YtfndfpbdgjoilaaGreatDoorHA
import Derived.Test.YtfndfpbdgjoilaaGreatDoorHC8
set_option linter.all false
set_option maxRecDepth 100000
namespace Go.Proofs.YtfndfpbdgjoilaaGreatDoor
open Go Go.ChangeShapes Go.WideShapes Go.ChangeAt Go.RowKit Go.Pi Go.Pi.E Go.Pi.L Go.Pi.L.Ben
theorem and_i {a b:Bool}(ha:a=true)(hb:b=true):(a&&b)=true:=by rw [ha,hb]; rfl
theorem closed8:joinedFacts Tryz.prog 8 Tryz.f8 Rows.benchSparedSpec Rows.benchSparedRow=true :=
 and_i (and_i (and_i (and_i (and_i (and_i (and_i (and_i (and_i (and_i (and_i (and_i (and_i (and_i (and_i (and_i (and_i (and_i (and_i (and_i (and_i (and_i (and_i (and_i (and_i (and_i (and_i (and_i (and_i (and_i (and_i jf8x0 jf8x1) jf8x2) jf8x3) jf8x4) jf8x5) jf8x6) jf8x7) jf8x8) jf8x9) jf8x10) jf8x11) jf8x12) jf8x13) jf8x14) jf8x15) jf8x16) jf8x17) jf8x18) jf8x19) jf8x20) jf8x21) jf8x22) jf8x23) jf8x24) jf8x25) jf8x26) jf8x27) jf8x28) jf8x29) jf8x30) jf8x31
theorem named8:Tryz.prog.funcNamed "mahlstick/mahlsticklaw06.BenchSpared" = some 8:=by kernel_rfl
theorem benchSpared_holds:Rows.BenchSparedSaid :=
 OpenClaim.holds_of_wide 8 Tryz.f8 rfl rfl rfl rfl rfl rfl rfl ⟨rfl,rfl,rfl,rfl,rfl⟩ rfl rfl rfl rfl rfl named8 Tryz.func8 closed8
  (of_decide_eq_true (by kernel_rfl)) (by unfold Func.isWrapper; first | (rw [if_pos (by decide +kernel)]; kernel_rfl) | (rw [if_neg (by decide +kernel)]; exact ⟨rfl,rfl⟩))
  (fun os started H enc _=>lifted8 os started H enc)
end Go.Proofs.YtfndfpbdgjoilaaGreatDoor
set_option maxRecDepth 100000
namespace Go.Proofs.YtfndfpbdgjoilaaGreatDoor
open Go Go.ChangeShapes Go.WideShapes Go.ChangeAt Go.RowKit Go.Pi Go.Pi.E Go.Pi.L Go.Pi.L.Ben
theorem benchSpared_card:Rows.BenchSparedCardSaid :=
 Claim7.holds_tied_plain_at .later [] [.data,.data,.data,.data,.pinned] true (true, "8771728aba0d1714095fb83e05d29a8b88380942a44dd647203ff7e14084f3ef") true
  benchSpared_holds (fun _ h=>by cases h) kWf8 (fun _ h=>by cases h) benchSpared_row_tie rfl ⟨rfl,rfl⟩ kMain rfl
  (fun f fn hf hfn=>by
   obtain rfl:f=8:=Option.some.inj (named8.symm.trans hf) |>.symm
   obtain rfl:fn=Tryz.f8:=(Option.some.inj (Tryz.func8.symm.trans hfn)).symm
   exact ⟨kLooks,fun j t ht=>by
    rw [Tryz.params8] at ht
    have hm:t∈[25,22,3,3]:=by simpa using Array.mem_of_getElem? ht
    have hall:([25,22,3,3].all fun u=>!Tryz.prog.wantsStandIn u)=true:=by kernel_rfl
    exact (show Tryz.prog.wantsStandIn t=false by simpa using List.all_eq_true.1 hall t hm)⟩)
  kGoes8
end Go.Proofs.YtfndfpbdgjoilaaGreatDoor
