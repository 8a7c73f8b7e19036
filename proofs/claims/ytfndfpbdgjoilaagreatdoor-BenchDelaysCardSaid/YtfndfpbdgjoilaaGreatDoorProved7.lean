/- The row of BenchDelays. -/
import Derived.Test.YtfndfpbdgjoilaaGreatDoorCR7
import Derived.Test.YtfndfpbdgjoilaaGreatDoorJA7
import Derived.Test.YtfndfpbdgjoilaaGreatDoorJB7
import Derived.Test.YtfndfpbdgjoilaaGreatDoorJC7
import Derived.Test.YtfndfpbdgjoilaaGreatDoorJD7
import Derived.Test.YtfndfpbdgjoilaaGreatDoorJE7
import Derived.Test.YtfndfpbdgjoilaaGreatDoorHA
import Derived.Test.YtfndfpbdgjoilaaGreatDoorHC7
set_option linter.all false
set_option maxRecDepth 100000
namespace Go.Proofs.YtfndfpbdgjoilaaGreatDoor
open Go Go.ChangeShapes Go.WideShapes Go.ChangeAt Go.RowKit Go.Pi Go.Pi.E Go.Pi.L Go.Pi.L.Ben
theorem and_i {a b:Bool}(ha:a=true)(hb:b=true):(a&&b)=true:=by rw [ha,hb]; rfl
theorem closed7:joinedFacts Tryz.prog 7 Tryz.f7 Rows.benchDelaysSpec Rows.benchDelaysRow=true :=
 and_i (and_i (and_i (and_i (and_i (and_i (and_i (and_i (and_i (and_i (and_i (and_i (and_i (and_i (and_i (and_i (and_i (and_i (and_i (and_i (and_i (and_i (and_i (and_i (and_i (and_i (and_i (and_i (and_i (and_i (and_i jf7x0 jf7x1) jf7x2) jf7x3) jf7x4) jf7x5) jf7x6) jf7x7) jf7x8) jf7x9) jf7x10) jf7x11) jf7x12) jf7x13) jf7x14) jf7x15) jf7x16) jf7x17) jf7x18) jf7x19) jf7x20) jf7x21) jf7x22) jf7x23) jf7x24) jf7x25) jf7x26) jf7x27) jf7x28) jf7x29) jf7x30) jf7x31
theorem named7:Tryz.prog.funcNamed "mahlstick/mahlsticklaw06.BenchDelays" = some 7:=by kernel_rfl
theorem benchDelays_holds:Rows.BenchDelaysSaid :=
 OpenClaim.holds_of_wide 7 Tryz.f7 rfl rfl rfl rfl rfl rfl rfl ⟨rfl,rfl,rfl,rfl,rfl⟩ rfl rfl rfl rfl rfl named7 Tryz.func7 closed7
  (of_decide_eq_true (by kernel_rfl)) (by unfold Func.isWrapper; first | (rw [if_pos (by decide +kernel)]; kernel_rfl) | (rw [if_neg (by decide +kernel)]; exact ⟨rfl,rfl⟩))
  (fun os started H enc _=>lifted7 os started H enc)
end Go.Proofs.YtfndfpbdgjoilaaGreatDoor
set_option maxRecDepth 100000
namespace Go.Proofs.YtfndfpbdgjoilaaGreatDoor
open Go Go.ChangeShapes Go.WideShapes Go.ChangeAt Go.RowKit Go.Pi Go.Pi.E Go.Pi.L Go.Pi.L.Ben
theorem benchDelays_card:Rows.BenchDelaysCardSaid :=
 Claim7.holds_tied_plain_at .later [] [.data,.data,.data,.data,.pinned] true (true, "8771728aba0d1714095fb83e05d29a8b88380942a44dd647203ff7e14084f3ef") true
  benchDelays_holds (fun _ h=>by cases h) kWf7 (fun _ h=>by cases h) benchDelays_row_tie rfl ⟨rfl,rfl⟩ kMain rfl
  (fun f fn hf hfn=>by
   obtain rfl:f=7:=Option.some.inj (named7.symm.trans hf) |>.symm
   obtain rfl:fn=Tryz.f7:=(Option.some.inj (Tryz.func7.symm.trans hfn)).symm
   exact ⟨kLooks,fun j t ht=>by
    rw [Tryz.params7] at ht
    have hm:t∈[25,22,22,3]:=by simpa using Array.mem_of_getElem? ht
    have hall:([25,22,22,3].all fun u=>!Tryz.prog.wantsStandIn u)=true:=by kernel_rfl
    exact (show Tryz.prog.wantsStandIn t=false by simpa using List.all_eq_true.1 hall t hm)⟩)
  kGoes7
end Go.Proofs.YtfndfpbdgjoilaaGreatDoor
