/- The row of BenchMore. -/
import Derived.Test.YtfndfpbdgjoilaaGreatDoorCR15
import Derived.Test.YtfndfpbdgjoilaaGreatDoorJA15
import Derived.Test.YtfndfpbdgjoilaaGreatDoorJB15
import Derived.Test.YtfndfpbdgjoilaaGreatDoorJC15
import Derived.Test.YtfndfpbdgjoilaaGreatDoorJD15
import Derived.Test.YtfndfpbdgjoilaaGreatDoorJE15
import Derived.Test.YtfndfpbdgjoilaaGreatDoorHA
import Derived.Test.YtfndfpbdgjoilaaGreatDoorHC15
set_option linter.all false
set_option maxRecDepth 100000
namespace Go.Proofs.YtfndfpbdgjoilaaGreatDoor
open Go Go.ChangeShapes Go.WideShapes Go.ChangeAt Go.RowKit Go.Pi Go.Pi.E Go.Pi.L Go.Pi.L.Ben
theorem and_i {a b:Bool}(ha:a=true)(hb:b=true):(a&&b)=true:=by rw [ha,hb]; rfl
theorem closed15:joinedFacts Tryz.prog 15 Tryz.f15 Rows.benchMoreSpec Rows.benchMoreRow=true :=
 and_i (and_i (and_i (and_i (and_i (and_i (and_i (and_i (and_i (and_i (and_i (and_i (and_i (and_i (and_i (and_i (and_i (and_i (and_i (and_i (and_i (and_i (and_i (and_i (and_i (and_i (and_i (and_i (and_i (and_i (and_i jf15x0 jf15x1) jf15x2) jf15x3) jf15x4) jf15x5) jf15x6) jf15x7) jf15x8) jf15x9) jf15x10) jf15x11) jf15x12) jf15x13) jf15x14) jf15x15) jf15x16) jf15x17) jf15x18) jf15x19) jf15x20) jf15x21) jf15x22) jf15x23) jf15x24) jf15x25) jf15x26) jf15x27) jf15x28) jf15x29) jf15x30) jf15x31
theorem named15:Tryz.prog.funcNamed "mahlstick/mahlsticklaw06.BenchMore" = some 15:=by kernel_rfl
theorem benchMore_holds:Rows.BenchMoreSaid :=
 OpenClaim.holds_of_wide 15 Tryz.f15 rfl rfl rfl rfl rfl rfl rfl ⟨rfl,rfl,rfl,rfl,rfl⟩ rfl rfl rfl rfl rfl named15 Tryz.func15 closed15
  (of_decide_eq_true (by kernel_rfl)) (by unfold Func.isWrapper; first | (rw [if_pos (by decide +kernel)]; kernel_rfl) | (rw [if_neg (by decide +kernel)]; exact ⟨rfl,rfl⟩))
  (fun os started H enc _=>lifted15 os started H enc)
end Go.Proofs.YtfndfpbdgjoilaaGreatDoor
set_option maxRecDepth 100000
namespace Go.Proofs.YtfndfpbdgjoilaaGreatDoor
open Go Go.ChangeShapes Go.WideShapes Go.ChangeAt Go.RowKit Go.Pi Go.Pi.E Go.Pi.L Go.Pi.L.Ben
theorem benchMore_card:Rows.BenchMoreCardSaid :=
 Claim7.holds_tied_plain_at .later [] [.data,.data,.data,.data,.pinned] true (true, "8771728aba0d1714095fb83e05d29a8b88380942a44dd647203ff7e14084f3ef") true
  benchMore_holds (fun _ h=>by cases h) kWf15 (fun _ h=>by cases h) benchMore_row_tie rfl ⟨rfl,rfl⟩ kMain rfl
  (fun f fn hf hfn=>by
   obtain rfl:f=15:=Option.some.inj (named15.symm.trans hf) |>.symm
   obtain rfl:fn=Tryz.f15:=(Option.some.inj (Tryz.func15.symm.trans hfn)).symm
   exact ⟨kLooks,fun j t ht=>by
    rw [Tryz.params15] at ht
    have hm:t∈[25,22,3,3,3]:=by simpa using Array.mem_of_getElem? ht
    have hall:([25,22,3,3,3].all fun u=>!Tryz.prog.wantsStandIn u)=true:=by kernel_rfl
    exact (show Tryz.prog.wantsStandIn t=false by simpa using List.all_eq_true.1 hall t hm)⟩)
  kGoes15
end Go.Proofs.YtfndfpbdgjoilaaGreatDoor
