/- The row of BenchSoonest. -/
import Derived.Test.YtfndfpbdgjoilaaGreatDoorCR10
import Derived.Test.YtfndfpbdgjoilaaGreatDoorJA10
import Derived.Test.YtfndfpbdgjoilaaGreatDoorJB10
import Derived.Test.YtfndfpbdgjoilaaGreatDoorJC10
import Derived.Test.YtfndfpbdgjoilaaGreatDoorJD10
import Derived.Test.YtfndfpbdgjoilaaGreatDoorJE10
import Derived.Test.YtfndfpbdgjoilaaGreatDoorHA
import Derived.Test.YtfndfpbdgjoilaaGreatDoorHC10
set_option linter.all false
set_option maxRecDepth 100000
namespace Go.Proofs.YtfndfpbdgjoilaaGreatDoor
open Go Go.ChangeShapes Go.WideShapes Go.ChangeAt Go.RowKit Go.Pi Go.Pi.E Go.Pi.L Go.Pi.L.Ben
theorem and_i {a b:Bool}(ha:a=true)(hb:b=true):(a&&b)=true:=by rw [ha,hb]; rfl
theorem closed10:joinedFacts Tryz.prog 10 Tryz.f10 Rows.benchSoonestSpec Rows.benchSoonestRow=true :=
 and_i (and_i (and_i (and_i (and_i (and_i (and_i (and_i (and_i (and_i (and_i (and_i (and_i (and_i (and_i (and_i (and_i (and_i (and_i (and_i (and_i (and_i (and_i (and_i (and_i (and_i (and_i (and_i (and_i (and_i (and_i jf10x0 jf10x1) jf10x2) jf10x3) jf10x4) jf10x5) jf10x6) jf10x7) jf10x8) jf10x9) jf10x10) jf10x11) jf10x12) jf10x13) jf10x14) jf10x15) jf10x16) jf10x17) jf10x18) jf10x19) jf10x20) jf10x21) jf10x22) jf10x23) jf10x24) jf10x25) jf10x26) jf10x27) jf10x28) jf10x29) jf10x30) jf10x31
theorem named10:Tryz.prog.funcNamed "mahlstick/mahlsticklaw06.BenchSoonest" = some 10:=by kernel_rfl
theorem benchSoonest_holds:Rows.BenchSoonestSaid :=
 OpenClaim.holds_of_wide 10 Tryz.f10 rfl rfl rfl rfl rfl rfl rfl ⟨rfl,rfl,rfl,rfl,rfl⟩ rfl rfl rfl rfl rfl named10 Tryz.func10 closed10
  (of_decide_eq_true (by kernel_rfl)) (by unfold Func.isWrapper; first | (rw [if_pos (by decide +kernel)]; kernel_rfl) | (rw [if_neg (by decide +kernel)]; exact ⟨rfl,rfl⟩))
  (fun os started H enc _=>lifted10 os started H enc)
end Go.Proofs.YtfndfpbdgjoilaaGreatDoor
set_option maxRecDepth 100000
namespace Go.Proofs.YtfndfpbdgjoilaaGreatDoor
open Go Go.ChangeShapes Go.WideShapes Go.ChangeAt Go.RowKit Go.Pi Go.Pi.E Go.Pi.L Go.Pi.L.Ben
theorem benchSoonest_card:Rows.BenchSoonestCardSaid :=
 Claim7.holds_tied_plain_at .later [] [.data,.data,.data,.data,.pinned] true (true, "8771728aba0d1714095fb83e05d29a8b88380942a44dd647203ff7e14084f3ef") true
  benchSoonest_holds (fun _ h=>by cases h) kWf10 (fun _ h=>by cases h) benchSoonest_row_tie rfl ⟨rfl,rfl⟩ kMain rfl
  (fun f fn hf hfn=>by
   obtain rfl:f=10:=Option.some.inj (named10.symm.trans hf) |>.symm
   obtain rfl:fn=Tryz.f10:=(Option.some.inj (Tryz.func10.symm.trans hfn)).symm
   exact ⟨kLooks,fun j t ht=>by
    rw [Tryz.params10] at ht
    have hm:t∈[25,22,3]:=by simpa using Array.mem_of_getElem? ht
    have hall:([25,22,3].all fun u=>!Tryz.prog.wantsStandIn u)=true:=by kernel_rfl
    exact (show Tryz.prog.wantsStandIn t=false by simpa using List.all_eq_true.1 hall t hm)⟩)
  kGoes10
end Go.Proofs.YtfndfpbdgjoilaaGreatDoor
