/- The row of BenchMores. -/
import Derived.Test.YtfndfpbdgjoilaaGreatDoorCR13
import Derived.Test.YtfndfpbdgjoilaaGreatDoorJA13
import Derived.Test.YtfndfpbdgjoilaaGreatDoorJB13
import Derived.Test.YtfndfpbdgjoilaaGreatDoorJC13
import Derived.Test.YtfndfpbdgjoilaaGreatDoorJD13
import Derived.Test.YtfndfpbdgjoilaaGreatDoorJE13
import Derived.Test.YtfndfpbdgjoilaaGreatDoorHA
import Derived.Test.YtfndfpbdgjoilaaGreatDoorHC13
set_option linter.all false
set_option maxRecDepth 100000
namespace Go.Proofs.YtfndfpbdgjoilaaGreatDoor
open Go Go.ChangeShapes Go.WideShapes Go.ChangeAt Go.RowKit Go.Pi Go.Pi.E Go.Pi.L Go.Pi.L.Ben
theorem and_i {a b:Bool}(ha:a=true)(hb:b=true):(a&&b)=true:=by rw [ha,hb]; rfl
theorem closed13:joinedFacts Tryz.prog 13 Tryz.f13 Rows.benchMoresSpec Rows.benchMoresRow=true :=
 and_i (and_i (and_i (and_i (and_i (and_i (and_i (and_i (and_i (and_i (and_i (and_i (and_i (and_i (and_i (and_i (and_i (and_i (and_i (and_i (and_i (and_i (and_i (and_i (and_i (and_i (and_i (and_i (and_i (and_i (and_i jf13x0 jf13x1) jf13x2) jf13x3) jf13x4) jf13x5) jf13x6) jf13x7) jf13x8) jf13x9) jf13x10) jf13x11) jf13x12) jf13x13) jf13x14) jf13x15) jf13x16) jf13x17) jf13x18) jf13x19) jf13x20) jf13x21) jf13x22) jf13x23) jf13x24) jf13x25) jf13x26) jf13x27) jf13x28) jf13x29) jf13x30) jf13x31
theorem named13:Tryz.prog.funcNamed "mahlstick/mahlsticklaw06.BenchMores" = some 13:=by kernel_rfl
theorem benchMores_holds:Rows.BenchMoresSaid :=
 OpenClaim.holds_of_wide 13 Tryz.f13 rfl rfl rfl rfl rfl rfl rfl ⟨rfl,rfl,rfl,rfl,rfl⟩ rfl rfl rfl rfl rfl named13 Tryz.func13 closed13
  (of_decide_eq_true (by kernel_rfl)) (by unfold Func.isWrapper; first | (rw [if_pos (by decide +kernel)]; kernel_rfl) | (rw [if_neg (by decide +kernel)]; exact ⟨rfl,rfl⟩))
  (fun os started H enc _=>lifted13 os started H enc)
end Go.Proofs.YtfndfpbdgjoilaaGreatDoor
set_option maxRecDepth 100000
namespace Go.Proofs.YtfndfpbdgjoilaaGreatDoor
open Go Go.ChangeShapes Go.WideShapes Go.ChangeAt Go.RowKit Go.Pi Go.Pi.E Go.Pi.L Go.Pi.L.Ben
theorem benchMores_card:Rows.BenchMoresCardSaid :=
 Claim7.holds_tied_plain_at .later [] [.data,.data,.data,.data,.pinned] true (true, "8771728aba0d1714095fb83e05d29a8b88380942a44dd647203ff7e14084f3ef") true
  benchMores_holds (fun _ h=>by cases h) kWf13 (fun _ h=>by cases h) benchMores_row_tie rfl ⟨rfl,rfl⟩ kMain rfl
  (fun f fn hf hfn=>by
   obtain rfl:f=13:=Option.some.inj (named13.symm.trans hf) |>.symm
   obtain rfl:fn=Tryz.f13:=(Option.some.inj (Tryz.func13.symm.trans hfn)).symm
   exact ⟨kLooks,fun j t ht=>by
    rw [Tryz.params13] at ht
    have hm:t∈[25,3]:=by simpa using Array.mem_of_getElem? ht
    have hall:([25,3].all fun u=>!Tryz.prog.wantsStandIn u)=true:=by kernel_rfl
    exact (show Tryz.prog.wantsStandIn t=false by simpa using List.all_eq_true.1 hall t hm)⟩)
  kGoes13
end Go.Proofs.YtfndfpbdgjoilaaGreatDoor
