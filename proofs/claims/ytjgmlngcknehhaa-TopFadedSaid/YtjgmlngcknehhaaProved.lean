/- The law TopFaded of the package mahlsticktop holds: whatever its four arguments are, the call returns true, and the arguments read as they did before it. Conditions: none. -/
import Derived.ProofKit
import Derived.Test.YtjgmlngcknehhaaRows
import Derived.Test.YtjgmlngcknehhaaFadF
import Derived.Test.YtjgmlngcknehhaaFadK
import Derived.Test.YtjgmlngcknehhaaKD
import Derived.Test.YtjgmlngcknehhaaPiL
set_option linter.all false
set_option linter.unusedVariables false
set_option linter.unusedSimpArgs false
set_option linter.unusedSectionVars false
namespace Go.Proofs.Ytjgmlngcknehhaa
open Go.ChangeShapes Go.WideShapes Go.ChangeAt Go.RowKit Go.Pi

theorem Try.own : ownKnob Try.prog.godebug = none := by kernel_rfl
theorem mixed : Try.prog.follows .mixedOrders = true := by kernel_rfl

/-- The call, in the model. -/
theorem faded_call (y fl fh old need : Int) (w : World) :
    Calls Try.prog 3 #[.int .i64 y, .agg #[.int .i64 fl, .int .i64 fh], .int .i64 old, .int .i64 need] w fun e w' => e = .returned (.bool true) ∧ More w w' :=
  call_bool Fad.ppok (closed_prims Fad.ppok (drawsOk mixed) Fad.known) (drawsOk mixed) (Fad.c3 0 y fl fh old need [])
    (.cons (.int _ _) (.cons (.agg_l (.cons (.int _ _) (.cons (.int _ _) .nil))) (.cons (.int _ _) (.cons (.int _ _) .nil))))

section
variable {H : Type} {enc : TypeId × Value → H} {P : Program} {w : World} {base : Nat} {spare : Nat → Bool} {held : Bool}
theorem shut_cons {t : TypeId} {ts : List TypeId} {v : Value} {vs : List Value} {d : DataW H} {ds : List (DataW H)}
    (h : DataW.Trod enc P w base spare held t v d []) (hs : DataW.TrodAll enc P w base spare held ts vs ds []) : DataW.TrodAll enc P w base spare held (t :: ts) (v :: vs) (d :: ds) [] := ⟨[], [], h, hs, rfl⟩
end
section
variable {H : Type} {enc : TypeId × Value → H} {P : Program}
/-- What is returned, where no place was read: true, and the world has only got more. -/
theorem post_grown {f : Func} {s : ChangeSpec} {apart fresh handsOn again : Bool} {W W' : World} {args : Array Value} {v : Value} {ds gs : List (DataW H)}
    (hW : DataW.Whole enc P f.params.toList s.vars apart W args.toList ds gs [])
    (hres : ∀ (b : Nat) (sp : Nat → Bool) (hd : Bool), DataW.TrodAll enc P W' b sp hd f.resultTypes.toList (v.resultList f.resultTypes.size) (s.fn H (ds ++ gs)).results [])
    (hargs : ∀ sp : Nat → Bool, DataW.TrodAll enc P W' 0 sp true f.params.toList args.toList (s.fn H (ds ++ gs)).args [])
    (hvars : ∀ sp : Nat → Bool, DataW.TrodVars enc P W' sp s.vars (s.fn H (ds ++ gs)).vars [])
    (hk : More W W')
    (hok : ∀ (j : Nat) (t : TypeId) (r : Value), f.resultTypes[j]? = some t → (v.resultList f.resultTypes.size)[j]? = some r → Value.okWide P W' .any 0 t r) :
    s.post enc P f apart fresh handsOn again W args v W' := by
  refine ⟨ds, gs, [], [], [], [], hW, hres _ _ _, hargs _, hvars _, hk.kept _, fun _ => ?_⟩
  refine ⟨hok, _, _, ([] ++ []) ++ [], ⟨[] ++ [], [], trodAll_append (hargs _) (hres _ _ _), hvars _, rfl, ?_, ?_⟩, ?_⟩
  · intro b off hp; simp at hp
  · intro ha; simp
  · intro p hp; simp at hp
end

theorem z23 : Try.prog.cellsOf 23 = 2 := by kernel_rfl
theorem z3 : Try.prog.cellsOf 3 = 1 := by kernel_rfl
theorem length_two {cs : List Value} (h : cs.length = 2) : ∃ a b, cs = [a, b] := by
  match cs, h with
  | [a, b], _ => exact ⟨a, b, rfl⟩
/-- A span, read. -/
theorem shut_span {H : Type} {enc : TypeId × Value → H} {W' : World} {b : Nat} {sp : Nat → Bool} {hd : Bool} {fl fh : Int} (w0 : (Lit.int .i64 fl).wf = true) (w1 : (Lit.int .i64 fh).wf = true) :
    DataW.Trod enc Try.prog W' b sp hd 23 (.agg #[.int .i64 fl, .int .i64 fh]) (.agg [.lit (.int .i64 fl), .lit (.int .i64 fh)]) [] := by
  have e0 : (([.int .i64 fl, .int .i64 fh] : List Value).drop 0).take (Try.prog.cellsOf 3) = [.int .i64 fl] := by rw [z3]; rfl
  have e1 : (([.int .i64 fl, .int .i64 fh] : List Value).drop 1).take (Try.prog.cellsOf 3) = [.int .i64 fh] := by rw [z3]; rfl
  refine ⟨2, ?_⟩
  refine trod_struct2_mk (n := 1) (cs := [.int .i64 fl, .int .i64 fh]) (y0 := (.lit (.int .i64 fl), [])) (y1 := (.lit (.int .i64 fh), [])) Try.underlying23 z23.symm ?_ ?_
  · dsimp only; rw [e0]; exact trod_int_mk 0 Try.underlying3 w0
  · dsimp only; rw [e1]; exact trod_int_mk 0 Try.underlying3 w1

set_option maxRecDepth 100000 in
theorem faded_lifted (os : Os) (started : os.Started) (H : Type) (enc : TypeId × Value → H) :
    ReturnsInHanded {} Try.checked os 3 .any (Rows.topFadedSpec.pre6 enc Try.prog Try.f3 Rows.topFadedRow.domain false) (Rows.topFadedSpec.post enc Try.prog Try.f3 false true false false) := by
  refine returnsInHanded_of_change (C := Try.checked) Try.own started (by kernel_rfl) Try.func3
    (ChangeSpec.witness6 (enc := enc) (C := Try.checked) false ⟨#[], #[.int .i64 0, .agg #[.int .i64 0, .int .i64 0], .int .i64 0, .int .i64 0], []⟩ 8 (by kernel_rfl) (by kernel_rfl) (by kernel_rfl) (by kernel_rfl)) ?_
  intro W base args ds gs before hval0 hW hcnd _
  have hval : ∀ (j : Nat) t v, Try.f3.params[j]? = some t → args[j]? = some v → Value.okWide Try.prog W .any base t v := hval0
  have hW' := hW
  obtain ⟨p, q, hA0, hV, rfl, hfz, hnd⟩ := hW
  have hA : DataW.TrodAll enc Try.prog W 0 (fun _ => true) true Try.f3.params.toList args.toList ds p := hA0
  rw [Try.params3] at hA hval
  obtain ⟨args⟩ := args
  obtain ⟨v0, vs0, d0, ds0, p0, q0, e0, rfl, rfl, h0, hA⟩ := trodAll_cons hA
  obtain ⟨v1, vs1, d1, ds1, p1, q1, rfl, rfl, rfl, h1, hA⟩ := trodAll_cons hA
  obtain ⟨v2, vs2, d2, ds2, p2, q2, rfl, rfl, rfl, h2, hA⟩ := trodAll_cons hA
  obtain ⟨v3, vs3, d3, ds3, p3, q3, rfl, rfl, rfl, h3, hA⟩ := trodAll_cons hA
  obtain ⟨rfl, rfl, rfl⟩ := trodAll_nil hA
  obtain rfl : args = [v0, v1, v2, v3] := e0
  obtain ⟨rfl, rfl⟩ := trodVars_none hV
  obtain ⟨y, rfl, rfl, rfl, wy⟩ := open_int Try.underlying3 (hval 0 3 v0 rfl rfl) h0
  obtain ⟨old, rfl, rfl, rfl, wo⟩ := open_int Try.underlying3 (hval 2 3 v2 rfl rfl) h2
  obtain ⟨need, rfl, rfl, rfl, wn⟩ := open_int Try.underlying3 (hval 3 3 v3 rfl rfl) h3
  obtain ⟨cs, rfl, hcs⟩ := okWide_struct Try.underlying23 (hval 1 23 v1 rfl rfl)
  obtain ⟨fuel, h1⟩ := h1
  obtain ⟨y0, y1, n, he, hl, hy0, hy1⟩ := trod_struct2 Try.underlying23 h1
  obtain ⟨fl, c0, hx0, w0⟩ := DataW.trod_int Try.underlying3 hy0
  obtain ⟨fh, c1, hx1, w1⟩ := DataW.trod_int Try.underlying3 hy1
  rw [z23] at hcs
  clear hcnd hfz hnd hval hval0 h0 h2 h3 h1 hl
  obtain ⟨cs⟩ := cs
  obtain ⟨a, b, rfl⟩ := length_two (show cs.length = 2 from hcs)
  have c0 : (([a, b].drop 0).take (Try.prog.cellsOf 3)) = [.int .i64 fl] := c0
  have c1 : (([a, b].drop 1).take (Try.prog.cellsOf 3)) = [.int .i64 fh] := c1
  rw [z3] at c0 c1
  obtain rfl : a = .int .i64 fl := by simpa using c0
  obtain rfl : b = .int .i64 fh := by simpa using c1
  subst hx0
  subst hx1
  obtain ⟨rfl, rfl⟩ := Prod.mk.inj he
  refine (faded_call y fl fh old need W).mono fun e W' ⟨he, hw⟩ => ?_
  subst he
  refine ⟨_, rfl, ?_⟩
  refine post_grown hW' ?_ ?_ ?_ hw ?_
  · exact fun _ _ _ => trodAll_mk1 (shut_bool Try.underlying4 true)
  · intro sp
    rw [Try.params3]
    exact shut_cons (shut_int Try.underlying3 wy) (shut_cons (shut_span w0 w1) (shut_cons (shut_int Try.underlying3 wo) (shut_cons (shut_int Try.underlying3 wn) rfl)))
  · exact fun _ => rfl
  · exact ok_one (t := 4) (by kernel_rfl) rfl (okWide_bool_mk Try.underlying4 true)

theorem topFaded_holds : Rows.TopFadedSaid :=
  OpenClaim.holds_of_wide 3 Try.f3 rfl rfl rfl rfl rfl rfl rfl ⟨rfl, rfl, rfl, rfl, rfl⟩ rfl rfl rfl rfl rfl (by kernel_rfl) Try.func3 (by kernel_rfl)
    (of_decide_eq_true (by kernel_rfl)) (by unfold Func.isWrapper; first | (rw [if_pos (by decide +kernel)]; kernel_rfl) | (rw [if_neg (by decide +kernel)]; exact ⟨rfl, rfl⟩))
    (fun os started H enc _ => faded_lifted os started H enc)
end Go.Proofs.Ytjgmlngcknehhaa
