/- The row of BenchNamed. -/
import Derived.Test.YtfndfpbdgjoilaaGreatDoorCR16
import Derived.Test.YtfndfpbdgjoilaaGreatDoorJA16
import Derived.Test.YtfndfpbdgjoilaaGreatDoorJB16
import Derived.Test.YtfndfpbdgjoilaaGreatDoorJC16
import Derived.Test.YtfndfpbdgjoilaaGreatDoorJD16
import Derived.Test.YtfndfpbdgjoilaaGreatDoorJE16
import Derived.Test.YtfndfpbdgjoilaaGreatDoorHA
import Derived.Test.YtfndfpbdgjoilaaGreatDoorHC16
set_option linter.all false
set_option maxRecDepth 100000
namespace Go.Proofs.YtfndfpbdgjoilaaGreatDoor
open Go Go.ChangeShapes Go.WideShapes Go.ChangeAt Go.RowKit Go.Pi Go.Pi.E Go.Pi.L Go.Pi.L.Ben
theorem and_i {a b:Bool}(ha:a=true)(hb:b=true):(a&&b)=true:=by rw [ha,hb]; rfl
theorem closed16:joinedFacts Tryz.prog 16 Tryz.f16 Rows.benchNamedSpec Rows.benchNamedRow=true :=
 and_i (and_i (and_i (and_i (and_i (and_i (and_i (and_i (and_i (and_i (and_i (and_i (and_i (and_i (and_i (and_i (and_i (and_i (and_i (and_i (and_i (and_i (and_i (and_i (and_i (and_i (and_i (and_i (and_i (and_i (and_i jf16x0 jf16x1) jf16x2) jf16x3) jf16x4) jf16x5) jf16x6) jf16x7) jf16x8) jf16x9) jf16x10) jf16x11) jf16x12) jf16x13) jf16x14) jf16x15) jf16x16) jf16x17) jf16x18) jf16x19) jf16x20) jf16x21) jf16x22) jf16x23) jf16x24) jf16x25) jf16x26) jf16x27) jf16x28) jf16x29) jf16x30) jf16x31
theorem named16:Tryz.prog.funcNamed "mahlstick/mahlsticklaw06.BenchNamed" = some 16:=by kernel_rfl
theorem benchNamed_holds:Rows.BenchNamedSaid :=
 OpenClaim.holds_of_wide 16 Tryz.f16 rfl rfl rfl rfl rfl rfl rfl ⟨rfl,rfl,rfl,rfl,rfl⟩ rfl rfl rfl rfl rfl named16 Tryz.func16 closed16
  (of_decide_eq_true (by kernel_rfl)) (by unfold Func.isWrapper; first | (rw [if_pos (by decide +kernel)]; kernel_rfl) | (rw [if_neg (by decide +kernel)]; exact ⟨rfl,rfl⟩))
  (fun os started H enc _=>lifted16 os started H enc)
end Go.Proofs.YtfndfpbdgjoilaaGreatDoor
set_option maxRecDepth 100000
namespace Go.Proofs.YtfndfpbdgjoilaaGreatDoor
open Go Go.ChangeShapes Go.WideShapes Go.ChangeAt Go.RowKit Go.Pi Go.Pi.E Go.Pi.L Go.Pi.L.Ben
theorem benchNamed_card:Rows.BenchNamedCardSaid :=
 Claim7.holds_tied_plain_at .later [] [.data,.data,.data,.data,.pinned] true (true, "8771728aba0d1714095fb83e05d29a8b88380942a44dd647203ff7e14084f3ef") true
  benchNamed_holds (fun _ h=>by cases h) kWf16 (fun _ h=>by cases h) benchNamed_row_tie rfl ⟨rfl,rfl⟩ kMain rfl
  (fun f fn hf hfn=>by
   obtain rfl:f=16:=Option.some.inj (named16.symm.trans hf) |>.symm
   obtain rfl:fn=Tryz.f16:=(Option.some.inj (Tryz.func16.symm.trans hfn)).symm
   exact ⟨kLooks,fun j t ht=>by
    rw [Tryz.params16] at ht
    have hm:t∈[25,22,3,3,3]:=by simpa using Array.mem_of_getElem? ht
    have hall:([25,22,3,3,3].all fun u=>!Tryz.prog.wantsStandIn u)=true:=by kernel_rfl
    exact (show Tryz.prog.wantsStandIn t=false by simpa using List.all_eq_true.1 hall t hm)⟩)
  kGoes16
end Go.Proofs.YtfndfpbdgjoilaaGreatDoor
