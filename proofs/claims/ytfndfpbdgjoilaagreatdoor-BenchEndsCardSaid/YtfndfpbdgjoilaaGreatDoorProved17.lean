/- The row of BenchEnds. -/
import Derived.Test.YtfndfpbdgjoilaaGreatDoorCR17
import Derived.Test.YtfndfpbdgjoilaaGreatDoorJA17
import Derived.Test.YtfndfpbdgjoilaaGreatDoorJB17
import Derived.Test.YtfndfpbdgjoilaaGreatDoorJC17
import Derived.Test.YtfndfpbdgjoilaaGreatDoorJD17
import Derived.Test.YtfndfpbdgjoilaaGreatDoorJE17
import Derived.Test.YtfndfpbdgjoilaaGreatDoorHA
import Derived.Test.YtfndfpbdgjoilaaGreatDoorHC17
set_option linter.all false
set_option maxRecDepth 100000
namespace Go.Proofs.YtfndfpbdgjoilaaGreatDoor
open Go Go.ChangeShapes Go.WideShapes Go.ChangeAt Go.RowKit Go.Pi Go.Pi.E Go.Pi.L Go.Pi.L.Ben
theorem and_i {a b:Bool}(ha:a=true)(hb:b=true):(a&&b)=true:=by rw [ha,hb]; rfl
theorem closed17:joinedFacts Tryz.prog 17 Tryz.f17 Rows.benchEndsSpec Rows.benchEndsRow=true :=
 and_i (and_i (and_i (and_i (and_i (and_i (and_i (and_i (and_i (and_i (and_i (and_i (and_i (and_i (and_i (and_i (and_i (and_i (and_i (and_i (and_i (and_i (and_i (and_i (and_i (and_i (and_i (and_i (and_i (and_i (and_i jf17x0 jf17x1) jf17x2) jf17x3) jf17x4) jf17x5) jf17x6) jf17x7) jf17x8) jf17x9) jf17x10) jf17x11) jf17x12) jf17x13) jf17x14) jf17x15) jf17x16) jf17x17) jf17x18) jf17x19) jf17x20) jf17x21) jf17x22) jf17x23) jf17x24) jf17x25) jf17x26) jf17x27) jf17x28) jf17x29) jf17x30) jf17x31
theorem named17:Tryz.prog.funcNamed "mahlstick/mahlsticklaw06.BenchEnds" = some 17:=by kernel_rfl
theorem benchEnds_holds:Rows.BenchEndsSaid :=
 OpenClaim.holds_of_wide 17 Tryz.f17 rfl rfl rfl rfl rfl rfl rfl ⟨rfl,rfl,rfl,rfl,rfl⟩ rfl rfl rfl rfl rfl named17 Tryz.func17 closed17
  (of_decide_eq_true (by kernel_rfl)) (by unfold Func.isWrapper; first | (rw [if_pos (by decide +kernel)]; kernel_rfl) | (rw [if_neg (by decide +kernel)]; exact ⟨rfl,rfl⟩))
  (fun os started H enc _=>lifted17 os started H enc)
end Go.Proofs.YtfndfpbdgjoilaaGreatDoor
set_option maxRecDepth 100000
namespace Go.Proofs.YtfndfpbdgjoilaaGreatDoor
open Go Go.ChangeShapes Go.WideShapes Go.ChangeAt Go.RowKit Go.Pi Go.Pi.E Go.Pi.L Go.Pi.L.Ben
theorem benchEnds_card:Rows.BenchEndsCardSaid :=
 Claim7.holds_tied_plain_at .later [] [.data,.data,.data,.data,.pinned] true (true, "8771728aba0d1714095fb83e05d29a8b88380942a44dd647203ff7e14084f3ef") true
  benchEnds_holds (fun _ h=>by cases h) kWf17 (fun _ h=>by cases h) benchEnds_row_tie rfl ⟨rfl,rfl⟩ kMain rfl
  (fun f fn hf hfn=>by
   obtain rfl:f=17:=Option.some.inj (named17.symm.trans hf) |>.symm
   obtain rfl:fn=Tryz.f17:=(Option.some.inj (Tryz.func17.symm.trans hfn)).symm
   exact ⟨kLooks,fun j t ht=>by
    rw [Tryz.params17] at ht
    have hm:t∈[25,22,3]:=by simpa using Array.mem_of_getElem? ht
    have hall:([25,22,3].all fun u=>!Tryz.prog.wantsStandIn u)=true:=by kernel_rfl
    exact (show Tryz.prog.wantsStandIn t=false by simpa using List.all_eq_true.1 hall t hm)⟩)
  kGoes17
end Go.Proofs.YtfndfpbdgjoilaaGreatDoor
