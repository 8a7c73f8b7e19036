/- The row of BenchWhos. -/
import Derived.Test.YtfndfpbdgjoilaaGreatDoorCR11
import Derived.Test.YtfndfpbdgjoilaaGreatDoorJA11
import Derived.Test.YtfndfpbdgjoilaaGreatDoorJB11
import Derived.Test.YtfndfpbdgjoilaaGreatDoorJC11
import Derived.Test.YtfndfpbdgjoilaaGreatDoorJD11
import Derived.Test.YtfndfpbdgjoilaaGreatDoorJE11
import Derived.Test.YtfndfpbdgjoilaaGreatDoorHA
import Derived.Test.YtfndfpbdgjoilaaGreatDoorHC11
set_option linter.all false
set_option maxRecDepth 100000
namespace Go.Proofs.YtfndfpbdgjoilaaGreatDoor
open Go Go.ChangeShapes Go.WideShapes Go.ChangeAt Go.RowKit Go.Pi Go.Pi.E Go.Pi.L Go.Pi.L.Ben
theorem and_i {a b:Bool}(ha:a=true)(hb:b=true):(a&&b)=true:=by rw [ha,hb]; rfl
theorem closed11:joinedFacts Tryz.prog 11 Tryz.f11 Rows.benchWhosSpec Rows.benchWhosRow=true :=
 and_i (and_i (and_i (and_i (and_i (and_i (and_i (and_i (and_i (and_i (and_i (and_i (and_i (and_i (and_i (and_i (and_i (and_i (and_i (and_i (and_i (and_i (and_i (and_i (and_i (and_i (and_i (and_i (and_i (and_i (and_i jf11x0 jf11x1) jf11x2) jf11x3) jf11x4) jf11x5) jf11x6) jf11x7) jf11x8) jf11x9) jf11x10) jf11x11) jf11x12) jf11x13) jf11x14) jf11x15) jf11x16) jf11x17) jf11x18) jf11x19) jf11x20) jf11x21) jf11x22) jf11x23) jf11x24) jf11x25) jf11x26) jf11x27) jf11x28) jf11x29) jf11x30) jf11x31
theorem named11:Tryz.prog.funcNamed "mahlstick/mahlsticklaw06.BenchWhos" = some 11:=by kernel_rfl
theorem benchWhos_holds:Rows.BenchWhosSaid :=
 OpenClaim.holds_of_wide 11 Tryz.f11 rfl rfl rfl rfl rfl rfl rfl ⟨rfl,rfl,rfl,rfl,rfl⟩ rfl rfl rfl rfl rfl named11 Tryz.func11 closed11
  (of_decide_eq_true (by kernel_rfl)) (by unfold Func.isWrapper; first | (rw [if_pos (by decide +kernel)]; kernel_rfl) | (rw [if_neg (by decide +kernel)]; exact ⟨rfl,rfl⟩))
  (fun os started H enc _=>lifted11 os started H enc)
end Go.Proofs.YtfndfpbdgjoilaaGreatDoor
set_option maxRecDepth 100000
namespace Go.Proofs.YtfndfpbdgjoilaaGreatDoor
open Go Go.ChangeShapes Go.WideShapes Go.ChangeAt Go.RowKit Go.Pi Go.Pi.E Go.Pi.L Go.Pi.L.Ben
theorem benchWhos_card:Rows.BenchWhosCardSaid :=
 Claim7.holds_tied_plain_at .later [] [.data,.data,.data,.data,.pinned] true (true, "8771728aba0d1714095fb83e05d29a8b88380942a44dd647203ff7e14084f3ef") true
  benchWhos_holds (fun _ h=>by cases h) kWf11 (fun _ h=>by cases h) benchWhos_row_tie rfl ⟨rfl,rfl⟩ kMain rfl
  (fun f fn hf hfn=>by
   obtain rfl:f=11:=Option.some.inj (named11.symm.trans hf) |>.symm
   obtain rfl:fn=Tryz.f11:=(Option.some.inj (Tryz.func11.symm.trans hfn)).symm
   exact ⟨kLooks,fun j t ht=>by
    rw [Tryz.params11] at ht
    have hm:t∈[25,22,3]:=by simpa using Array.mem_of_getElem? ht
    have hall:([25,22,3].all fun u=>!Tryz.prog.wantsStandIn u)=true:=by kernel_rfl
    exact (show Tryz.prog.wantsStandIn t=false by simpa using List.all_eq_true.1 hall t hm)⟩)
  kGoes11
end Go.Proofs.YtfndfpbdgjoilaaGreatDoor
