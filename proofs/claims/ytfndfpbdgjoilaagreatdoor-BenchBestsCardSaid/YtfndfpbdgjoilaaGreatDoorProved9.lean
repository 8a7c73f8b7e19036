/- The row of BenchBests. -/
import Derived.Test.YtfndfpbdgjoilaaGreatDoorCR9
import Derived.Test.YtfndfpbdgjoilaaGreatDoorJA9
import Derived.Test.YtfndfpbdgjoilaaGreatDoorJB9
import Derived.Test.YtfndfpbdgjoilaaGreatDoorJC9
import Derived.Test.YtfndfpbdgjoilaaGreatDoorJD9
import Derived.Test.YtfndfpbdgjoilaaGreatDoorJE9
import Derived.Test.YtfndfpbdgjoilaaGreatDoorHA
import Derived.Test.YtfndfpbdgjoilaaGreatDoorHC9
set_option linter.all false
set_option maxRecDepth 100000
namespace Go.Proofs.YtfndfpbdgjoilaaGreatDoor
open Go Go.ChangeShapes Go.WideShapes Go.ChangeAt Go.RowKit Go.Pi Go.Pi.E Go.Pi.L Go.Pi.L.Ben
theorem and_i {a b:Bool}(ha:a=true)(hb:b=true):(a&&b)=true:=by rw [ha,hb]; rfl
theorem closed9:joinedFacts Tryz.prog 9 Tryz.f9 Rows.benchBestsSpec Rows.benchBestsRow=true :=
 and_i (and_i (and_i (and_i (and_i (and_i (and_i (and_i (and_i (and_i (and_i (and_i (and_i (and_i (and_i (and_i (and_i (and_i (and_i (and_i (and_i (and_i (and_i (and_i (and_i (and_i (and_i (and_i (and_i (and_i (and_i jf9x0 jf9x1) jf9x2) jf9x3) jf9x4) jf9x5) jf9x6) jf9x7) jf9x8) jf9x9) jf9x10) jf9x11) jf9x12) jf9x13) jf9x14) jf9x15) jf9x16) jf9x17) jf9x18) jf9x19) jf9x20) jf9x21) jf9x22) jf9x23) jf9x24) jf9x25) jf9x26) jf9x27) jf9x28) jf9x29) jf9x30) jf9x31
theorem named9:Tryz.prog.funcNamed "mahlstick/mahlsticklaw06.BenchBests" = some 9:=by kernel_rfl
theorem benchBests_holds:Rows.BenchBestsSaid :=
 OpenClaim.holds_of_wide 9 Tryz.f9 rfl rfl rfl rfl rfl rfl rfl ⟨rfl,rfl,rfl,rfl,rfl⟩ rfl rfl rfl rfl rfl named9 Tryz.func9 closed9
  (of_decide_eq_true (by kernel_rfl)) (by unfold Func.isWrapper; first | (rw [if_pos (by decide +kernel)]; kernel_rfl) | (rw [if_neg (by decide +kernel)]; exact ⟨rfl,rfl⟩))
  (fun os started H enc _=>lifted9 os started H enc)
end Go.Proofs.YtfndfpbdgjoilaaGreatDoor
set_option maxRecDepth 100000
namespace Go.Proofs.YtfndfpbdgjoilaaGreatDoor
open Go Go.ChangeShapes Go.WideShapes Go.ChangeAt Go.RowKit Go.Pi Go.Pi.E Go.Pi.L Go.Pi.L.Ben
theorem benchBests_card:Rows.BenchBestsCardSaid :=
 Claim7.holds_tied_plain_at .later [] [.data,.data,.data,.data,.pinned] true (true, "8771728aba0d1714095fb83e05d29a8b88380942a44dd647203ff7e14084f3ef") true
  benchBests_holds (fun _ h=>by cases h) kWf9 (fun _ h=>by cases h) benchBests_row_tie rfl ⟨rfl,rfl⟩ kMain rfl
  (fun f fn hf hfn=>by
   obtain rfl:f=9:=Option.some.inj (named9.symm.trans hf) |>.symm
   obtain rfl:fn=Tryz.f9:=(Option.some.inj (Tryz.func9.symm.trans hfn)).symm
   exact ⟨kLooks,fun j t ht=>by
    rw [Tryz.params9] at ht
    have hm:t∈[25]:=by simpa using Array.mem_of_getElem? ht
    have hall:([25].all fun u=>!Tryz.prog.wantsStandIn u)=true:=by kernel_rfl
    exact (show Tryz.prog.wantsStandIn t=false by simpa using List.all_eq_true.1 hall t hm)⟩)
  kGoes9
end Go.Proofs.YtfndfpbdgjoilaaGreatDoor
