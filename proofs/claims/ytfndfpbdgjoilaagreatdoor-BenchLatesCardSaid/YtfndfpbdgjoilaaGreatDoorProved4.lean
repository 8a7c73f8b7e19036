/- The row of BenchLates. -/
import Derived.Test.YtfndfpbdgjoilaaGreatDoorCR4
import Derived.Test.YtfndfpbdgjoilaaGreatDoorJA4
import Derived.Test.YtfndfpbdgjoilaaGreatDoorJB4
import Derived.Test.YtfndfpbdgjoilaaGreatDoorJC4
import Derived.Test.YtfndfpbdgjoilaaGreatDoorJD4
import Derived.Test.YtfndfpbdgjoilaaGreatDoorJE4
import Derived.Test.YtfndfpbdgjoilaaGreatDoorHA
import Derived.Test.YtfndfpbdgjoilaaGreatDoorHC4
set_option linter.all false
set_option maxRecDepth 100000
namespace Go.Proofs.YtfndfpbdgjoilaaGreatDoor
open Go Go.ChangeShapes Go.WideShapes Go.ChangeAt Go.RowKit Go.Pi Go.Pi.E Go.Pi.L Go.Pi.L.Ben
theorem and_i {a b:Bool}(ha:a=true)(hb:b=true):(a&&b)=true:=by rw [ha,hb]; rfl
theorem closed4:joinedFacts Tryz.prog 4 Tryz.f4 Rows.benchLatesSpec Rows.benchLatesRow=true :=
 and_i (and_i (and_i (and_i (and_i (and_i (and_i (and_i (and_i (and_i (and_i (and_i (and_i (and_i (and_i (and_i (and_i (and_i (and_i (and_i (and_i (and_i (and_i (and_i (and_i (and_i (and_i (and_i (and_i (and_i (and_i jf4x0 jf4x1) jf4x2) jf4x3) jf4x4) jf4x5) jf4x6) jf4x7) jf4x8) jf4x9) jf4x10) jf4x11) jf4x12) jf4x13) jf4x14) jf4x15) jf4x16) jf4x17) jf4x18) jf4x19) jf4x20) jf4x21) jf4x22) jf4x23) jf4x24) jf4x25) jf4x26) jf4x27) jf4x28) jf4x29) jf4x30) jf4x31
theorem named4:Tryz.prog.funcNamed "mahlstick/mahlsticklaw06.BenchLates" = some 4:=by kernel_rfl
theorem benchLates_holds:Rows.BenchLatesSaid :=
 OpenClaim.holds_of_wide 4 Tryz.f4 rfl rfl rfl rfl rfl rfl rfl ⟨rfl,rfl,rfl,rfl,rfl⟩ rfl rfl rfl rfl rfl named4 Tryz.func4 closed4
  (of_decide_eq_true (by kernel_rfl)) (by unfold Func.isWrapper; first | (rw [if_pos (by decide +kernel)]; kernel_rfl) | (rw [if_neg (by decide +kernel)]; exact ⟨rfl,rfl⟩))
  (fun os started H enc _=>lifted4 os started H enc)
end Go.Proofs.YtfndfpbdgjoilaaGreatDoor
set_option maxRecDepth 100000
namespace Go.Proofs.YtfndfpbdgjoilaaGreatDoor
open Go Go.ChangeShapes Go.WideShapes Go.ChangeAt Go.RowKit Go.Pi Go.Pi.E Go.Pi.L Go.Pi.L.Ben
theorem benchLates_card:Rows.BenchLatesCardSaid :=
 Claim7.holds_tied_plain_at .later [] [.data,.data,.data,.data,.pinned] true (true, "8771728aba0d1714095fb83e05d29a8b88380942a44dd647203ff7e14084f3ef") true
  benchLates_holds (fun _ h=>by cases h) kWf4 (fun _ h=>by cases h) benchLates_row_tie rfl ⟨rfl,rfl⟩ kMain rfl
  (fun f fn hf hfn=>by
   obtain rfl:f=4:=Option.some.inj (named4.symm.trans hf) |>.symm
   obtain rfl:fn=Tryz.f4:=(Option.some.inj (Tryz.func4.symm.trans hfn)).symm
   exact ⟨kLooks,fun j t ht=>by
    rw [Tryz.params4] at ht
    have hm:t∈[25,22]:=by simpa using Array.mem_of_getElem? ht
    have hall:([25,22].all fun u=>!Tryz.prog.wantsStandIn u)=true:=by kernel_rfl
    exact (show Tryz.prog.wantsStandIn t=false by simpa using List.all_eq_true.1 hall t hm)⟩)
  kGoes4
end Go.Proofs.YtfndfpbdgjoilaaGreatDoor
