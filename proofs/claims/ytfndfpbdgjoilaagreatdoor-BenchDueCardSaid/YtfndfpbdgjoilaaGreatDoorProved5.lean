/- The row of BenchDue. -/
import Derived.Test.YtfndfpbdgjoilaaGreatDoorCR5
import Derived.Test.YtfndfpbdgjoilaaGreatDoorJA5
import Derived.Test.YtfndfpbdgjoilaaGreatDoorJB5
import Derived.Test.YtfndfpbdgjoilaaGreatDoorJC5
import Derived.Test.YtfndfpbdgjoilaaGreatDoorJD5
import Derived.Test.YtfndfpbdgjoilaaGreatDoorJE5
import Derived.Test.YtfndfpbdgjoilaaGreatDoorHA
import Derived.Test.YtfndfpbdgjoilaaGreatDoorHC5
set_option linter.all false
set_option maxRecDepth 100000
namespace Go.Proofs.YtfndfpbdgjoilaaGreatDoor
open Go Go.ChangeShapes Go.WideShapes Go.ChangeAt Go.RowKit Go.Pi Go.Pi.E Go.Pi.L Go.Pi.L.Ben
theorem and_i {a b:Bool}(ha:a=true)(hb:b=true):(a&&b)=true:=by rw [ha,hb]; rfl
theorem closed5:joinedFacts Tryz.prog 5 Tryz.f5 Rows.benchDueSpec Rows.benchDueRow=true :=
 and_i (and_i (and_i (and_i (and_i (and_i (and_i (and_i (and_i (and_i (and_i (and_i (and_i (and_i (and_i (and_i (and_i (and_i (and_i (and_i (and_i (and_i (and_i (and_i (and_i (and_i (and_i (and_i (and_i (and_i (and_i jf5x0 jf5x1) jf5x2) jf5x3) jf5x4) jf5x5) jf5x6) jf5x7) jf5x8) jf5x9) jf5x10) jf5x11) jf5x12) jf5x13) jf5x14) jf5x15) jf5x16) jf5x17) jf5x18) jf5x19) jf5x20) jf5x21) jf5x22) jf5x23) jf5x24) jf5x25) jf5x26) jf5x27) jf5x28) jf5x29) jf5x30) jf5x31
theorem named5:Tryz.prog.funcNamed "mahlstick/mahlsticklaw06.BenchDue" = some 5:=by kernel_rfl
theorem benchDue_holds:Rows.BenchDueSaid :=
 OpenClaim.holds_of_wide 5 Tryz.f5 rfl rfl rfl rfl rfl rfl rfl ⟨rfl,rfl,rfl,rfl,rfl⟩ rfl rfl rfl rfl rfl named5 Tryz.func5 closed5
  (of_decide_eq_true (by kernel_rfl)) (by unfold Func.isWrapper; first | (rw [if_pos (by decide +kernel)]; kernel_rfl) | (rw [if_neg (by decide +kernel)]; exact ⟨rfl,rfl⟩))
  (fun os started H enc _=>lifted5 os started H enc)
end Go.Proofs.YtfndfpbdgjoilaaGreatDoor
set_option maxRecDepth 100000
namespace Go.Proofs.YtfndfpbdgjoilaaGreatDoor
open Go Go.ChangeShapes Go.WideShapes Go.ChangeAt Go.RowKit Go.Pi Go.Pi.E Go.Pi.L Go.Pi.L.Ben
theorem benchDue_card:Rows.BenchDueCardSaid :=
 Claim7.holds_tied_plain_at .later [] [.data,.data,.data,.data,.pinned] true (true, "8771728aba0d1714095fb83e05d29a8b88380942a44dd647203ff7e14084f3ef") true
  benchDue_holds (fun _ h=>by cases h) kWf5 (fun _ h=>by cases h) benchDue_row_tie rfl ⟨rfl,rfl⟩ kMain rfl
  (fun f fn hf hfn=>by
   obtain rfl:f=5:=Option.some.inj (named5.symm.trans hf) |>.symm
   obtain rfl:fn=Tryz.f5:=(Option.some.inj (Tryz.func5.symm.trans hfn)).symm
   exact ⟨kLooks,fun j t ht=>by
    rw [Tryz.params5] at ht
    have hm:t∈[25,22,3,3]:=by simpa using Array.mem_of_getElem? ht
    have hall:([25,22,3,3].all fun u=>!Tryz.prog.wantsStandIn u)=true:=by kernel_rfl
    exact (show Tryz.prog.wantsStandIn t=false by simpa using List.all_eq_true.1 hall t hm)⟩)
  kGoes5
end Go.Proofs.YtfndfpbdgjoilaaGreatDoor
