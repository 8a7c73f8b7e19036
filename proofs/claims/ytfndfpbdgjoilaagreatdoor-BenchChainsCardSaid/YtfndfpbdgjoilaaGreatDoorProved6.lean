/- The row of BenchChains. -/
import Derived.Test.YtfndfpbdgjoilaaGreatDoorCR6
import Derived.Test.YtfndfpbdgjoilaaGreatDoorJA6
import Derived.Test.YtfndfpbdgjoilaaGreatDoorJB6
import Derived.Test.YtfndfpbdgjoilaaGreatDoorJC6
import Derived.Test.YtfndfpbdgjoilaaGreatDoorJD6
import Derived.Test.YtfndfpbdgjoilaaGreatDoorJE6
import Derived.Test.YtfndfpbdgjoilaaGreatDoorHA
import Derived.Test.YtfndfpbdgjoilaaGreatDoorHC6
set_option linter.all false
set_option maxRecDepth 100000
namespace Go.Proofs.YtfndfpbdgjoilaaGreatDoor
open Go Go.ChangeShapes Go.WideShapes Go.ChangeAt Go.RowKit Go.Pi Go.Pi.E Go.Pi.L Go.Pi.L.Ben
theorem and_i {a b:Bool}(ha:a=true)(hb:b=true):(a&&b)=true:=by rw [ha,hb]; rfl
theorem closed6:joinedFacts Tryz.prog 6 Tryz.f6 Rows.benchChainsSpec Rows.benchChainsRow=true :=
 and_i (and_i (and_i (and_i (and_i (and_i (and_i (and_i (and_i (and_i (and_i (and_i (and_i (and_i (and_i (and_i (and_i (and_i (and_i (and_i (and_i (and_i (and_i (and_i (and_i (and_i (and_i (and_i (and_i (and_i (and_i jf6x0 jf6x1) jf6x2) jf6x3) jf6x4) jf6x5) jf6x6) jf6x7) jf6x8) jf6x9) jf6x10) jf6x11) jf6x12) jf6x13) jf6x14) jf6x15) jf6x16) jf6x17) jf6x18) jf6x19) jf6x20) jf6x21) jf6x22) jf6x23) jf6x24) jf6x25) jf6x26) jf6x27) jf6x28) jf6x29) jf6x30) jf6x31
theorem named6:Tryz.prog.funcNamed "mahlstick/mahlsticklaw06.BenchChains" = some 6:=by kernel_rfl
theorem benchChains_holds:Rows.BenchChainsSaid :=
 OpenClaim.holds_of_wide 6 Tryz.f6 rfl rfl rfl rfl rfl rfl rfl ⟨rfl,rfl,rfl,rfl,rfl⟩ rfl rfl rfl rfl rfl named6 Tryz.func6 closed6
  (of_decide_eq_true (by kernel_rfl)) (by unfold Func.isWrapper; first | (rw [if_pos (by decide +kernel)]; kernel_rfl) | (rw [if_neg (by decide +kernel)]; exact ⟨rfl,rfl⟩))
  (fun os started H enc _=>lifted6 os started H enc)
end Go.Proofs.YtfndfpbdgjoilaaGreatDoor
set_option maxRecDepth 100000
namespace Go.Proofs.YtfndfpbdgjoilaaGreatDoor
open Go Go.ChangeShapes Go.WideShapes Go.ChangeAt Go.RowKit Go.Pi Go.Pi.E Go.Pi.L Go.Pi.L.Ben
theorem benchChains_card:Rows.BenchChainsCardSaid :=
 Claim7.holds_tied_plain_at .later [] [.data,.data,.data,.data,.pinned] true (true, "8771728aba0d1714095fb83e05d29a8b88380942a44dd647203ff7e14084f3ef") true
  benchChains_holds (fun _ h=>by cases h) kWf6 (fun _ h=>by cases h) benchChains_row_tie rfl ⟨rfl,rfl⟩ kMain rfl
  (fun f fn hf hfn=>by
   obtain rfl:f=6:=Option.some.inj (named6.symm.trans hf) |>.symm
   obtain rfl:fn=Tryz.f6:=(Option.some.inj (Tryz.func6.symm.trans hfn)).symm
   exact ⟨kLooks,fun j t ht=>by
    rw [Tryz.params6] at ht
    have hm:t∈[25,22,3]:=by simpa using Array.mem_of_getElem? ht
    have hall:([25,22,3].all fun u=>!Tryz.prog.wantsStandIn u)=true:=by kernel_rfl
    exact (show Tryz.prog.wantsStandIn t=false by simpa using List.all_eq_true.1 hall t hm)⟩)
  kGoes6
end Go.Proofs.YtfndfpbdgjoilaaGreatDoor
