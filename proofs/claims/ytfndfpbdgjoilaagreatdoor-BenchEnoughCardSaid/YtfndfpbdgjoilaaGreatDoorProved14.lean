/- The row of BenchEnough. -/
import Derived.Test.YtfndfpbdgjoilaaGreatDoorCR14
import Derived.Test.YtfndfpbdgjoilaaGreatDoorJA14
import Derived.Test.YtfndfpbdgjoilaaGreatDoorJB14
import Derived.Test.YtfndfpbdgjoilaaGreatDoorJC14
import Derived.Test.YtfndfpbdgjoilaaGreatDoorJD14
import Derived.Test.YtfndfpbdgjoilaaGreatDoorJE14
import Derived.Test.YtfndfpbdgjoilaaGreatDoorHA
import Derived.Test.YtfndfpbdgjoilaaGreatDoorHC14
set_option linter.all false
set_option maxRecDepth 100000
namespace Go.Proofs.YtfndfpbdgjoilaaGreatDoor
open Go Go.ChangeShapes Go.WideShapes Go.ChangeAt Go.RowKit Go.Pi Go.Pi.E Go.Pi.L Go.Pi.L.Ben
theorem and_i {a b:Bool}(ha:a=true)(hb:b=true):(a&&b)=true:=by rw [ha,hb]; rfl
theorem closed14:joinedFacts Tryz.prog 14 Tryz.f14 Rows.benchEnoughSpec Rows.benchEnoughRow=true :=
 and_i (and_i (and_i (and_i (and_i (and_i (and_i (and_i (and_i (and_i (and_i (and_i (and_i (and_i (and_i (and_i (and_i (and_i (and_i (and_i (and_i (and_i (and_i (and_i (and_i (and_i (and_i (and_i (and_i (and_i (and_i jf14x0 jf14x1) jf14x2) jf14x3) jf14x4) jf14x5) jf14x6) jf14x7) jf14x8) jf14x9) jf14x10) jf14x11) jf14x12) jf14x13) jf14x14) jf14x15) jf14x16) jf14x17) jf14x18) jf14x19) jf14x20) jf14x21) jf14x22) jf14x23) jf14x24) jf14x25) jf14x26) jf14x27) jf14x28) jf14x29) jf14x30) jf14x31
theorem named14:Tryz.prog.funcNamed "mahlstick/mahlsticklaw06.BenchEnough" = some 14:=by kernel_rfl
theorem benchEnough_holds:Rows.BenchEnoughSaid :=
 OpenClaim.holds_of_wide 14 Tryz.f14 rfl rfl rfl rfl rfl rfl rfl ⟨rfl,rfl,rfl,rfl,rfl⟩ rfl rfl rfl rfl rfl named14 Tryz.func14 closed14
  (of_decide_eq_true (by kernel_rfl)) (by unfold Func.isWrapper; first | (rw [if_pos (by decide +kernel)]; kernel_rfl) | (rw [if_neg (by decide +kernel)]; exact ⟨rfl,rfl⟩))
  (fun os started H enc _=>lifted14 os started H enc)
end Go.Proofs.YtfndfpbdgjoilaaGreatDoor
set_option maxRecDepth 100000
namespace Go.Proofs.YtfndfpbdgjoilaaGreatDoor
open Go Go.ChangeShapes Go.WideShapes Go.ChangeAt Go.RowKit Go.Pi Go.Pi.E Go.Pi.L Go.Pi.L.Ben
theorem benchEnough_card:Rows.BenchEnoughCardSaid :=
 Claim7.holds_tied_plain_at .later [] [.data,.data,.data,.data,.pinned] true (true, "8771728aba0d1714095fb83e05d29a8b88380942a44dd647203ff7e14084f3ef") true
  benchEnough_holds (fun _ h=>by cases h) kWf14 (fun _ h=>by cases h) benchEnough_row_tie rfl ⟨rfl,rfl⟩ kMain rfl
  (fun f fn hf hfn=>by
   obtain rfl:f=14:=Option.some.inj (named14.symm.trans hf) |>.symm
   obtain rfl:fn=Tryz.f14:=(Option.some.inj (Tryz.func14.symm.trans hfn)).symm
   exact ⟨kLooks,fun j t ht=>by
    rw [Tryz.params14] at ht
    have hm:t∈[25,3,3]:=by simpa using Array.mem_of_getElem? ht
    have hall:([25,3,3].all fun u=>!Tryz.prog.wantsStandIn u)=true:=by kernel_rfl
    exact (show Tryz.prog.wantsStandIn t=false by simpa using List.all_eq_true.1 hall t hm)⟩)
  kGoes14
end Go.Proofs.YtfndfpbdgjoilaaGreatDoor
