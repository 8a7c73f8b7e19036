/- The sheets of the rows, as they are laid. -/
import Derived.LaidMore
import Derived.Lay
import Derived.Stop.Joined
import Derived.SevenTiedAt
import Derived.Test.YtjidjpcnocddeaaGreatDoorSS
import Derived.Test.YtjidjpcnocddeaaGreatDoorEE
import Derived.Test.YtjidjpcnocddeaaGreatDoorRows
import Derived.Test.YtjidjpcnocddeaaGreatDoorCards
import Derived.Test.YtjidjpcnocddeaaGreatDoorTie
import Derived.Test.YtjidjpcnocddeaaGreatDoorDE
set_option linter.all false
set_option maxRecDepth 100000
namespace Go.Pi.L.Coa
open Go Go.Pi Go.Pi.L Go.Pi.E Go.Pi.Coa CM Go.Proofs Go.ChangeShapes Go.WideShapes Go.RowKit

theorem z22 : Tryz.prog.cellsOf 22 = 1 := by kernel_rfl
theorem z23 : Tryz.prog.cellsOf 23 = 1 := by kernel_rfl
theorem z24 : Tryz.prog.cellsOf 24 = 1 := by kernel_rfl
theorem z26 : Tryz.prog.cellsOf 26 = 3 := by kernel_rfl
theorem z3 : Tryz.prog.cellsOf 3 = 1 := by kernel_rfl
theorem z75 : Tryz.prog.cellsOf 75 = 2 := by kernel_rfl
theorem z51 : Tryz.prog.cellsOf 51 = 2 := by kernel_rfl

section
variable {HH : Type} {enc : TypeId × Value → HH} {w : World} {sp : Nat → Bool} {held : Bool} {base : Nat}
theorem VRs1 {φ : Map} {x y : Value} {xs ys : List Value} (h : VR φ x y) (hs : VRs φ xs ys) : VRs φ (x :: xs) (y :: ys) :=
 ⟨by simp [hs.1], fun j a b ha hb => by
  cases j with
  | zero => simp at ha hb; subst ha; subst hb; exact h
  | succ j => exact hs.2 j a b (by simpa using ha) (by simpa using hb)⟩
theorem VRs0 (φ : Map) : VRs φ [] [] := ⟨rfl, fun j a b ha => by simp at ha⟩
theorem ent_sheet {φ : Map} {H : Heap} (hE : Ent0 Tryz.prog w φ H) {v : Value} {d : DataW HH} {p : List MemPlace} {r : Reach} {b0 : Nat} (hok : Value.okWide Tryz.prog w r b0 26 v) (h : DataW.Trod enc Tryz.prog w base sp held 26 v d p) :
  ∃ φ' H' r s, Ent0 Tryz.prog w φ' H' ∧ Sub φ φ' H H' ∧ VR φ' (.agg #[.slice r.da r.dl r.dk, .slice r.wa r.wl r.wk, .slice r.ca r.cl r.ck]) v ∧ ShOk H' r s := by
 obtain ⟨cs, rfl, hcs⟩ := okWide_struct Tryz.underlying26 hok
 rw [z26] at hcs
 obtain ⟨fuel, h⟩ := h
 obtain ⟨xs, n, _, _, _, hxl, hf⟩ := DataW.trod_struct Tryz.underlying26 h
 obtain ⟨cs⟩ := cs
 match cs, hcs with
 | [v0, v1, v2], _ =>
  have g0 : DataW.trod enc Tryz.prog w base sp held n 22 ((([v0, v1, v2] : List Value).drop 0).take (Tryz.prog.cellsOf 22)) = xs[0]? := hf 0 _ rfl
  have g1 : DataW.trod enc Tryz.prog w base sp held n 23 ((([v0, v1, v2] : List Value).drop 1).take (Tryz.prog.cellsOf 23)) = xs[1]? := hf 1 _ rfl
  have g2 : DataW.trod enc Tryz.prog w base sp held n 24 ((([v0, v1, v2] : List Value).drop 2).take (Tryz.prog.cellsOf 24)) = xs[2]? := hf 2 _ rfl
  rw [z22] at g0
  rw [z23] at g1
  rw [z24] at g2
  match xs, hxl with
  | [x0, x1, x2], _ =>
   replace g0 : DataW.trod enc Tryz.prog w base sp held n 22 [v0] = some x0 := g0
   replace g1 : DataW.trod enc Tryz.prog w base sp held n 23 [v1] = some x1 := g1
   replace g2 : DataW.trod enc Tryz.prog w base sp held n 24 [v2] = some x2 := g2
   obtain ⟨φ1, H1, da, dl, dk, dry, e1, s1, q1, z1⟩ := ent_pairs hE Tryz.underlying22 Tryz.underlying75 z75 rfl rfl z3 z3 Tryz.underlying3 Tryz.underlying3 g0
   obtain ⟨φ2, H2, wa, wl, wk, work, e2, s2, q2, y2⟩ := ent_ints e1 Tryz.underlying23 Tryz.underlying3 z3 g1
   obtain ⟨φ3, H3, ca, cl, ck, coats, e3, s3, q3, y3⟩ := ent_pairs e2 Tryz.underlying24 Tryz.underlying51 z51 rfl rfl z3 z3 Tryz.underlying3 Tryz.underlying3 g2
   refine ⟨φ3, H3, ⟨da, dl, dk, wa, wl, wk, ca, cl, ck⟩, ⟨dry, work, coats⟩, e3, (s1.trans s2).trans s3, ?_, ⟨z1.grow (s2.trans s3).up.grow, y2.grow s3.up.grow, y3⟩⟩
   exact VR.agg_l (VRs1 (q1.mono (s2.trans s3).map) (VRs1 (q2.mono s3.map) (VRs1 q3 (VRs0 _))))
end
end Go.Pi.L.Coa
set_option maxRecDepth 100000
namespace Go.Proofs.YtjidjpcnocddeaaGreatDoor
open Go Go.ChangeShapes Go.WideShapes Go.ChangeAt Go.RowKit Go.Pi Go.Pi.E

theorem own : ownKnob Tryz.prog.godebug = none := by kernel_rfl
abbrev laidAll : List (String × DataW Unit) := [("math/bits.deBruijn32tab", Rows.laid_math_bits_deBruijn32tab), ("math/bits.deBruijn64tab", Rows.laid_math_bits_deBruijn64tab), ("internal/strconv.uint64pow10", Rows.laid_internal_strconv_uint64pow10), ("unicode/utf8.acceptRanges", Rows.laid_unicode_utf8_acceptRanges), ("unicode/utf8.first", Rows.laid_unicode_utf8_first)]
theorem laid_met (os : Os) (args : Array Value) : laidMetH Tryz.prog laidAll ((World.laidAll Tryz.prog os laidAll).forCall (fun _ _ => 0) ⟨#[], args, []⟩).memory := by
 rw [MakeChecks.laidMetH_plain _ _ _ (by kernel_rfl)]; exact laidMet_laidAll _ (by kernel_rfl) (by kernel_rfl)
end Go.Proofs.YtjidjpcnocddeaaGreatDoor
set_option maxRecDepth 100000
namespace Go.Proofs.YtjidjpcnocddeaaGreatDoor
open Go Go.ChangeShapes Go.WideShapes Go.ChangeAt Go.RowKit Go.Pi Go.Pi.E Go.Pi.L Go.Pi.L.Coa

theorem lifted7 (os : Os) (started : os.Started) (H : Type) (enc : TypeId × Value → H) :
  ReturnsInHanded {} Tryz.checked os 7 .any (fun w args => (Rows.coatFirstsSpec.pre enc Tryz.prog Tryz.f7 [] false w args ∧ laidMetH Tryz.prog laidAll w) ∧ sizedMet enc Tryz.prog Tryz.f7 (OpenSpec.ofChange Rows.coatFirstsSpec) false w args)
   (Rows.coatFirstsSpec.post enc Tryz.prog Tryz.f7 false true false false) := by
 refine returnsInHanded_of_change_and (C := Tryz.checked) (X := fun w _ => laidMetH Tryz.prog laidAll w) (fun _ _ _ hh h => h.of_heap hh) own started (by kernel_rfl) Tryz.func7
  (ChangeSpec.witness_shaped (enc := enc) (C := Tryz.checked) (os := os) (X := fun w _ => laidMetH Tryz.prog laidAll w) false (World.laidAll Tryz.prog os laidAll) #[.agg #[.slice none 0 0, .slice none 0 0, .slice none 0 0]] 8 (World.laidAll_os _ _ _)
   (World.shaped_of_ZipB (by kernel_rfl) (by kernel_rfl)) (by kernel_rfl) (by kernel_rfl) (by kernel_rfl) (laid_met os _)) ?_
 intro W base args ds gs before hval0 hW _ _ hL _
 have hval : ∀ (j : Nat) t v, Tryz.f7.params[j]? = some t → args[j]? = some v → Value.okWide Tryz.prog W .any base t v := hval0
 have hW' := hW
 obtain ⟨p, q, hA0, hV, rfl, hfz, hnd⟩ := hW
 have hA : DataW.TrodAll enc Tryz.prog W 0 (fun _ => true) true Tryz.f7.params.toList args.toList ds p := hA0
 rw [Tryz.params7] at hA hval
 obtain ⟨args⟩ := args
 obtain ⟨v0, vs0, d0, ds0, p0, q0, e0, rfl, rfl, h0, hA⟩ := trodAll_cons hA
 obtain ⟨rfl, rfl, rfl⟩ := trodAll_nil hA
 obtain rfl : args = [v0] := e0
 obtain ⟨φ0, H0, r0, s0, n0, u0, w0, x0⟩ := ent_sheet (Ent0.nil Tryz.prog W) (hval 0 26 v0 rfl rfl) h0
 have hr := c7 x0 n0.emb.fam
 have hv := (VRs1 w0 (VRs0 φ0))
 refine (law_calls Go.Pi.Coa.ppok (primsL_ok _) (draws _) n0 hr hv).mono fun e W' ⟨he, hm⟩ => ?_
 subst he
 exact ⟨_, rfl, post_true (by rw [Tryz.params7]; exact fun t ht => List.all_eq_true.1 (show (([26] : List TypeId).all fun t => plainT Tryz.prog 9 t) = true by kernel_rfl) t ht) Tryz.underlying4 (by kernel_rfl) rfl hW' rfl hm⟩

end Go.Proofs.YtjidjpcnocddeaaGreatDoor
