/- The row of BenchPrints. -/
import Derived.Test.YtfndfpbdgjoilaaGreatDoorCR18
import Derived.Test.YtfndfpbdgjoilaaGreatDoorJA18
import Derived.Test.YtfndfpbdgjoilaaGreatDoorJB18
import Derived.Test.YtfndfpbdgjoilaaGreatDoorJC18
import Derived.Test.YtfndfpbdgjoilaaGreatDoorJD18
import Derived.Test.YtfndfpbdgjoilaaGreatDoorJE18
import Derived.Test.YtfndfpbdgjoilaaGreatDoorHA
import Derived.Test.YtfndfpbdgjoilaaGreatDoorHC18
set_option linter.all false
set_option maxRecDepth 100000
namespace Go.Proofs.YtfndfpbdgjoilaaGreatDoor
open Go Go.ChangeShapes Go.WideShapes Go.ChangeAt Go.RowKit Go.Pi Go.Pi.E Go.Pi.L Go.Pi.L.Ben
theorem and_i {a b:Bool}(ha:a=true)(hb:b=true):(a&&b)=true:=by rw [ha,hb]; rfl
theorem closed18:joinedFacts Tryz.prog 18 Tryz.f18 Rows.benchPrintsSpec Rows.benchPrintsRow=true :=
 and_i (and_i (and_i (and_i (and_i (and_i (and_i (and_i (and_i (and_i (and_i (and_i (and_i (and_i (and_i (and_i (and_i (and_i (and_i (and_i (and_i (and_i (and_i (and_i (and_i (and_i (and_i (and_i (and_i (and_i (and_i jf18x0 jf18x1) jf18x2) jf18x3) jf18x4) jf18x5) jf18x6) jf18x7) jf18x8) jf18x9) jf18x10) jf18x11) jf18x12) jf18x13) jf18x14) jf18x15) jf18x16) jf18x17) jf18x18) jf18x19) jf18x20) jf18x21) jf18x22) jf18x23) jf18x24) jf18x25) jf18x26) jf18x27) jf18x28) jf18x29) jf18x30) jf18x31
theorem named18:Tryz.prog.funcNamed "mahlstick/mahlsticklaw06.BenchPrints" = some 18:=by kernel_rfl
theorem benchPrints_holds:Rows.BenchPrintsSaid :=
 OpenClaim.holds_of_wide 18 Tryz.f18 rfl rfl rfl rfl rfl rfl rfl ⟨rfl,rfl,rfl,rfl,rfl⟩ rfl rfl rfl rfl rfl named18 Tryz.func18 closed18
  (of_decide_eq_true (by kernel_rfl)) (by unfold Func.isWrapper; first | (rw [if_pos (by decide +kernel)]; kernel_rfl) | (rw [if_neg (by decide +kernel)]; exact ⟨rfl,rfl⟩))
  (fun os started H enc _=>lifted18 os started H enc)
end Go.Proofs.YtfndfpbdgjoilaaGreatDoor
set_option maxRecDepth 100000
namespace Go.Proofs.YtfndfpbdgjoilaaGreatDoor
open Go Go.ChangeShapes Go.WideShapes Go.ChangeAt Go.RowKit Go.Pi Go.Pi.E Go.Pi.L Go.Pi.L.Ben
theorem benchPrints_card:Rows.BenchPrintsCardSaid :=
 Claim7.holds_tied_plain_at .later [] [.data,.data,.data,.data,.pinned] true (true, "8771728aba0d1714095fb83e05d29a8b88380942a44dd647203ff7e14084f3ef") true
  benchPrints_holds (fun _ h=>by cases h) kWf18 (fun _ h=>by cases h) benchPrints_row_tie rfl ⟨rfl,rfl⟩ kMain rfl
  (fun f fn hf hfn=>by
   obtain rfl:f=18:=Option.some.inj (named18.symm.trans hf) |>.symm
   obtain rfl:fn=Tryz.f18:=(Option.some.inj (Tryz.func18.symm.trans hfn)).symm
   exact ⟨kLooks,fun j t ht=>by
    rw [Tryz.params18] at ht
    have hm:t∈[25]:=by simpa using Array.mem_of_getElem? ht
    have hall:([25].all fun u=>!Tryz.prog.wantsStandIn u)=true:=by kernel_rfl
    exact (show Tryz.prog.wantsStandIn t=false by simpa using List.all_eq_true.1 hall t hm)⟩)
  kGoes18
end Go.Proofs.YtfndfpbdgjoilaaGreatDoor
