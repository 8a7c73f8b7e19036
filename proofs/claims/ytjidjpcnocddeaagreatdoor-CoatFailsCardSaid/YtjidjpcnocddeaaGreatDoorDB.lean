/- Coats: the specification's words. -/
import Derived.Test.YtjidjpcnocddeaaGreatDoorDA
set_option linter.all false
set_option linter.unusedVariables false
set_option linter.unusedSimpArgs false
set_option linter.unusedSectionVars false
set_option maxRecDepth 100000
namespace Go.Pi.L.Coa
open Go Go.Pi Go.Pi.L Go.Pi.Coa CM

theorem lows_len (s : Sheet) : (lows s).length = s.dry.length := by simp [lows]
theorem highs_len (s : Sheet) : (highs s).length = s.dry.length := by simp [highs]
theorem c38 {H : Heap} {r : ShR} {s : Sheet} (hs : ShOk H r s) (hd : Small r) : ∀ H', Grow H H' → Yes (R (.func 38) [.agg #[.slice r.da r.dl r.dk, .slice r.wa r.wl r.wk, .slice r.ca r.cl r.ck]] H') (QS H' 1 encI (lows s)) := by
  intro H' hg
  refine run_y (pr 38) P38 (by simp [p38]) rfl ?_
  obtain ⟨da, dl, dk, wa, wl, wk, ca, cl, ck⟩ := r
  have hD : Spans H da dl s.dry := hs.d
  have hW : Ints H wa wl s.work := hs.w
  have hC : Spans H ca cl s.coats := hs.c
  have nD : dl < 1000000 := hd.d
  have nW : wl < 1000000 := hd.w
  have nC : cl < 1000000 := hd.c
  have l1 := hD.isLoc dk
  have l2 := hW.isLoc wk
  have l3 := hC.isLoc ck
  simp (maxDischargeDepth := 8) only [↓SD, SU, SV, SW, simprocAttr, Int.cast_ofNat_Int, small, resV,  B38, R38, N38, b38,  l1, l2, l3]
  refine loop_ind (G := (Yes · (QS H' 1 encI (lows s)))) (fun j σ => ∃ T S H1 a m lim, σ = ⟨T, S, [], H1, lim, 22, false⟩ ∧ get T 1 = .pointer (some ⟨1, 0, some 1⟩) ∧ get T 3 = .slice a j m ∧ get T 4 = .int .i64 (j : Nat) ∧ sget S 1 = (1, .cells [.slice da dl dk, .slice wa wl wk, .slice ca cl ck]) ∧ (Bld H'.length H1 1 a j m (cells encI ((lows s).take j)) ∧ Up H' H1 ∧ H'.length ≤ lim)) (dl) ?_ ?_ 0 _ (Nat.zero_le _) ⟨_, _, _, _, _, _, rfl, rfl, rfl, rfl, rfl, ⟨Bld.nil _ _ _, Up.refl _, Nat.le_refl _⟩⟩
  · rintro c' j s hj ⟨T, S, H1, a, m, lim, rfl, t1, t3, t4, s0, hp⟩ ih
    obtain ⟨g1, hu, hlim⟩ := hp
    obtain ⟨b, off, x, rfl, hx', e0, f1, f2⟩ := hD.s2 hj
    have hw1 := wrap_succ j (by omega)
    have hg1 := hg.trans hu.grow
    obtain ⟨H2, q1, q2, q3, q4⟩ := g1.app (by decide) (by decide) (by omega) hu.len [.int .i64 x.1] rfl
    have u2 := q3.up g1 hu (Nat.le_refl _)
    have l4 := g1.isLoc j m
    simp (maxDischargeDepth := 8) only [↓SD, SU, SV, SW, simprocAttr, Int.cast_ofNat_Int, small, resV,  q38x0, t1, t3, t4, s0,  lt_nat, hj, l1, l2, l3, l4, f1, hg1, hw1, q1]
    exact ih _ ⟨_, _, (H2), (some ⟨H1.length, 0, none⟩), (1), (_), rfl, (by first | (simp [get_set, t1]; done) | (simp [get_set, t1]; omega)), (by first | (simp [get_set, t3]; done) | (simp [get_set, t3]; omega)), (by first | (simp [get_set, t4]; done) | (simp [get_set, t4]; omega)), by simp [sget_sset, s0], ⟨by rw [List.take_succ_eq_append_getElem (by rw [lows_len, hD.len]; exact hj), cells_app]; have := lows_get hx'; rw [List.getElem?_eq_some_iff] at this; rw [this.2]; exact q2, u2, by omega⟩⟩
  · rintro c' s ⟨T, S, H1, a, m, lim, rfl, t1, t3, t4, s0, hp⟩
    obtain ⟨g1, hu, hlim⟩ := hp
    rw [List.take_of_length_le (by rw [lows_len, hD.len]; exact Nat.le_refl _)] at g1
    have l4 := g1.isLoc dl m
    simp (maxDischargeDepth := 8) only [↓SD, SU, SV, SW, simprocAttr, Int.cast_ofNat_Int, small, resV,  q38x0, t1, t3, t4, s0,  lt_nat, Nat.lt_irrefl, l1, l2, l3, l4, R38, N38]
    rw [yes_some]
    exact gc_sl (g1.sl encI_len (by decide)) hu hlim
theorem c39 {H : Heap} {r : ShR} {s : Sheet} (hs : ShOk H r s) (hd : Small r) : ∀ H', Grow H H' → Yes (R (.func 39) [.agg #[.slice r.da r.dl r.dk, .slice r.wa r.wl r.wk, .slice r.ca r.cl r.ck]] H') (QS H' 1 encI (highs s)) := by
  intro H' hg
  refine run_y (pr 39) P39 (by simp [p39]) rfl ?_
  obtain ⟨da, dl, dk, wa, wl, wk, ca, cl, ck⟩ := r
  have hD : Spans H da dl s.dry := hs.d
  have hW : Ints H wa wl s.work := hs.w
  have hC : Spans H ca cl s.coats := hs.c
  have nD : dl < 1000000 := hd.d
  have nW : wl < 1000000 := hd.w
  have nC : cl < 1000000 := hd.c
  have l1 := hD.isLoc dk
  have l2 := hW.isLoc wk
  have l3 := hC.isLoc ck
  simp (maxDischargeDepth := 8) only [↓SD, SU, SV, SW, simprocAttr, Int.cast_ofNat_Int, small, resV,  B39, R39, N39, b39,  l1, l2, l3]
  refine loop_ind (G := (Yes · (QS H' 1 encI (highs s)))) (fun j σ => ∃ T S H1 a m lim, σ = ⟨T, S, [], H1, lim, 22, false⟩ ∧ get T 1 = .pointer (some ⟨1, 0, some 1⟩) ∧ get T 3 = .slice a j m ∧ get T 4 = .int .i64 (j : Nat) ∧ sget S 1 = (1, .cells [.slice da dl dk, .slice wa wl wk, .slice ca cl ck]) ∧ (Bld H'.length H1 1 a j m (cells encI ((highs s).take j)) ∧ Up H' H1 ∧ H'.length ≤ lim)) (dl) ?_ ?_ 0 _ (Nat.zero_le _) ⟨_, _, _, _, _, _, rfl, rfl, rfl, rfl, rfl, ⟨Bld.nil _ _ _, Up.refl _, Nat.le_refl _⟩⟩
  · rintro c' j s hj ⟨T, S, H1, a, m, lim, rfl, t1, t3, t4, s0, hp⟩ ih
    obtain ⟨g1, hu, hlim⟩ := hp
    obtain ⟨b, off, x, rfl, hx', e0, f1, f2⟩ := hD.s2 hj
    have hw1 := wrap_succ j (by omega)
    have hg1 := hg.trans hu.grow
    obtain ⟨H2, q1, q2, q3, q4⟩ := g1.app (by decide) (by decide) (by omega) hu.len [.int .i64 x.2] rfl
    have u2 := q3.up g1 hu (Nat.le_refl _)
    have l4 := g1.isLoc j m
    simp (maxDischargeDepth := 8) only [↓SD, SU, SV, SW, simprocAttr, Int.cast_ofNat_Int, small, resV,  q39x0, t1, t3, t4, s0,  lt_nat, hj, l1, l2, l3, l4, f2, hg1, hw1, q1]
    exact ih _ ⟨_, _, (H2), (some ⟨H1.length, 0, none⟩), (1), (_), rfl, (by first | (simp [get_set, t1]; done) | (simp [get_set, t1]; omega)), (by first | (simp [get_set, t3]; done) | (simp [get_set, t3]; omega)), (by first | (simp [get_set, t4]; done) | (simp [get_set, t4]; omega)), by simp [sget_sset, s0], ⟨by rw [List.take_succ_eq_append_getElem (by rw [highs_len, hD.len]; exact hj), cells_app]; have := highs_get hx'; rw [List.getElem?_eq_some_iff] at this; rw [this.2]; exact q2, u2, by omega⟩⟩
  · rintro c' s ⟨T, S, H1, a, m, lim, rfl, t1, t3, t4, s0, hp⟩
    obtain ⟨g1, hu, hlim⟩ := hp
    rw [List.take_of_length_le (by rw [highs_len, hD.len]; exact Nat.le_refl _)] at g1
    have l4 := g1.isLoc dl m
    simp (maxDischargeDepth := 8) only [↓SD, SU, SV, SW, simprocAttr, Int.cast_ofNat_Int, small, resV,  q39x0, t1, t3, t4, s0,  lt_nat, Nat.lt_irrefl, l1, l2, l3, l4, R39, N39]
    rw [yes_some]
    exact gc_sl (g1.sl encI_len (by decide)) hu hlim
def failsV (x : Option (Nat × Int)) : Value := match x with | some (i, w) => .tuple #[.int .i64 i, .int .i64 w, .bool true] | none => .tuple #[.int .i64 0, .int .i64 0, .bool false]
theorem c33 {H : Heap} {r : ShR} {s : Sheet} (hs : ShOk H r s) (hd : Small r) (hS : ShFine s) {pa : Option Addr} {pl pk : Nat} {plan : List Int} (hq : Ints H pa pl plan) (hP : PlFine s plan) :
    ∀ H', Grow H H' → R (.func 33) [.agg #[.slice r.da r.dl r.dk, .slice r.wa r.wl r.wk, .slice r.ca r.cl r.ck], .slice pa pl pk] H' = some ⟨.ok (failsV (fails s 0 s.coats plan)), H', H'.length⟩ := by
  intro H' hg
  refine run_k (pr 33) P33 (by simp [p33]) rfl ?_
  have hpl : pl = s.coats.length := by rw [← hq.len]; exact hP.len
  have hpl2 : pl < 1000 := by have := hS.c2; omega
  have hdl : r.dl = s.dry.length := hs.d.len.symm
  have hdl2 : r.dl < 1000 := by have := hS.d2; omega
  have k38 := fun H2 g => c38 hs hd H2 g
  have k39 := fun H2 g => c39 hs hd H2 g
  have k83 := fun H2 (g : Grow H H2) wa' wk' w hw hb i d t c h1 h2 h3 h4 h5 => c83 (pk := pk) (wa' := wa') (wk' := wk') (w := w) (i := i) (d := d) (t := t) (c := c) (hs.grow g) hd (Sl.grow hq g) hpl2 hw hdl2 hb h1 h2 h3 h4 h5 H2 (Grow.refl _)
  have k84 := fun H2 (g : Grow H H2) wa' wk' w hw hb i d t c h1 h2 h3 h4 h5 => c84 (pk := pk) (wa' := wa') (wk' := wk') (w := w) (i := i) (d := d) (t := t) (c := c) (hs.grow g) hd (Sl.grow hq g) hpl2 hw hdl2 hb h1 h2 h3 h4 h5 H2 (Grow.refl _)
  obtain ⟨da, dl, dk, wa, wl, wk, ca, cl, ck⟩ := r
  have hD : Spans H da dl s.dry := hs.d
  have hW : Ints H wa wl s.work := hs.w
  have hC : Spans H ca cl s.coats := hs.c
  have nD : dl < 1000000 := hd.d
  have nW : wl < 1000000 := hd.w
  have nC : cl < 1000000 := hd.c
  have l1 := hD.isLoc dk
  have l2 := hW.isLoc wk
  have l3 := hC.isLoc ck
  simp only at k38 k39 k83 k84 hdl hdl2
  have l4 := hq.isLoc pk
  simp (maxDischargeDepth := 8) only [↓SD, SU, SV, SW, simprocAttr, Int.cast_ofNat_Int, small, resV,  B33, R33, N33, b33,  l1, l2, l3, l4]
  refine loop_ind (G := (· = _)) (fun j σ => ∃ T H1 lim, σ = ⟨T, sset [] 2 (1, .cells [.slice da dl dk, .slice wa wl wk, .slice ca cl ck]), [], H1, lim, 28, false⟩ ∧ get T 1 = .slice pa pl pk ∧ get T 2 = .pointer (some ⟨2, 0, some 1⟩) ∧ get T 7 = .int .i64 (j : Nat) ∧ (fails s j (s.coats.drop j) (plan.drop j) = fails s 0 s.coats plan ∧ Up H' H1 ∧ H'.length ≤ lim)) (pl) ?_ ?_ 0 _ (Nat.zero_le _) ⟨_, _, _, rfl, rfl, rfl, rfl, ⟨by simp, Up.refl _, Nat.le_refl _⟩⟩
  · rintro c' j s hj ⟨T, H1, lim, rfl, t1, t2, t7, hp⟩ ih
    obtain ⟨hp, hu, hlim⟩ := hp
    obtain ⟨b, off, x, rfl, hx', f0⟩ := hq.i1 hj
    have hw1 := wrap_succ j (by omega)
    have hcj : j < s.coats.length := by omega
    have hc : s.coats[j]? = some s.coats[j] := List.getElem?_eq_getElem hcj
    obtain ⟨d, t, rfl, hti, hdt, htd⟩ := hP.span hx'
    have ht2 : (plan[j + 1]?).getD (dl : Int) = (t : Int) := by rw [hdl, ← til_drop]; exact hti
    have hg1 := hg.trans hu.grow
    obtain ⟨o2, ho2, a2, m2, H2, lo2, rfl, u2, hlo2, z2⟩ := k38 H1 hg1
    have hg2 := hg1.trans u2.grow
    rw [lows_len, ← hdl] at ho2 z2
    have q83 := k83 H2 hg2 a2 m2 (lows s) z2 (fun y hy => by have := lows_bound hS y hy; omega) j d t _ hx' hc ht2 (by omega) (by omega)
    obtain ⟨o3, ho3, a3, m3, H3, lo3, rfl, u3, hlo3, z3⟩ := k39 H2 hg2
    have hg3 := hg2.trans u3.grow
    rw [highs_len, ← hdl] at ho3 z3
    have q84 := k84 H3 hg3 a3 m3 (highs s) z3 (fun y hy => by have := highs_bound hS y hy; omega) j d t _ hx' hc ht2 (by omega) (by omega)
    have n1 := hu.len
    have n2 := u2.len
    have n3 := u3.len
    have l5 := z2.isLoc m2
    have l6 := z3.isLoc m3
    have n4 : H1.length ≤ lo2 := hlo2
    have n5 : H2.length ≤ lo3 := hlo3
    have n6 : H'.length ≤ H2.length := by omega
    have n7 : H'.length ≤ H3.length := by omega
    have n8 : H'.length ≤ lo2 := by omega
    have n9 : H'.length ≤ lo3 := by omega
    rw [drop_cons hx', drop_cons hc, fails, hti] at hp
    simp only [drop_ne, hq.len] at hp
    by_cases z1 : seg (lows s) d t < s.coats[j].1
    · rw [if_pos z1] at hp
      simp (maxDischargeDepth := 8) only [↓SD, SU, SV, SW, simprocAttr, Int.cast_ofNat_Int, small, resV,  q33x0, t1, t2, t7,  lt_nat, hj, l1, l2, l3, l4, l5, ho2, n4, q83, z1, R33, N33, ← hp, failsV, hlim, n1, n6, n8]
    · by_cases z4 : j + 1 < pl ∧ s.coats[j].2 < seg (highs s) d t
      · rw [if_neg z1, if_pos z4] at hp
        simp (maxDischargeDepth := 8) only [↓SD, SU, SV, SW, simprocAttr, Int.cast_ofNat_Int, small, resV,  q33x0, t1, t2, t7,  lt_nat, hj, l1, l2, l3, l4, l5, l6, ho2, n4, q83, z1, ho3, n5, q84, z4.1, z4.2, R33, N33, ← hp, failsV, hlim, n1, n6, n7, n8, n9]
      · rw [if_neg z1, if_neg z4] at hp
        have z5 : (decide (j + 1 < pl) && decide (s.coats[j].2 < seg (highs s) d t)) = false := by
          rw [Bool.and_eq_false_iff]
          simp only [decide_eq_false_iff_not]
          exact (Classical.not_and_iff_not_or_not.1 z4)
        simp (maxDischargeDepth := 8) only [↓SD, SU, SV, SW, simprocAttr, Int.cast_ofNat_Int, small, resV,  q33x0, t1, t2, t7,  lt_nat, hj, l1, l2, l3, l4, l5, l6, ho2, n4, q83, z1, ho3, n5, q84, z5, hw1]
        exact ih _ ⟨_, (H3), (_), rfl, (by first | (simp [get_set, t1]; done) | (simp [get_set, t1]; omega)), (by first | (simp [get_set, t2]; done) | (simp [get_set, t2]; omega)), (by first | (simp [get_set, t7]; done) | (simp [get_set, t7]; omega)), ⟨hp, (hu.trans u2).trans u3, by omega⟩⟩
  · rintro c' s ⟨T, H1, lim, rfl, t1, t2, t7, hp⟩
    obtain ⟨hp, hu, hlim⟩ := hp
    rw [drop_all hq.len, hpl, List.drop_eq_nil_of_le (Nat.le_refl _)] at hp
    replace hp : none = fails s 0 s.coats plan := hp
    simp (maxDischargeDepth := 8) only [↓SD, SU, SV, SW, simprocAttr, Int.cast_ofNat_Int, small, resV,  q33x0, t1, t2, t7,  lt_nat, Nat.lt_irrefl, l1, l2, l3, l4, R33, N33, ← hp, failsV, hlim]
end Go.Pi.L.Coa
set_option maxRecDepth 100000
namespace Go.Pi.L.Coa
open Go Go.Pi Go.Pi.L Go.Pi.Coa CM

theorem never_step {s : Sheet} {j : Nat} {d : Int} {c : Int × Int} {t : Int} {plan : List Int} {n : Nat} (hn : plan.length = n) (h1 : plan[j]? = some d) (h2 : s.coats[j]? = some c) (h3 : til s (plan.drop (j + 1)) = t) :
    never s (s.coats.drop j) (plan.drop j) = if seg (highs s) d t < c.1 ∨ (j + 1 < n ∧ c.2 < seg (lows s) d t) then true else never s (s.coats.drop (j + 1)) (plan.drop (j + 1)) := by
  rw [drop_cons h1, drop_cons h2, never, h3]
  simp only [drop_ne, hn]
theorem c32 {H : Heap} {r : ShR} {s : Sheet} (hs : ShOk H r s) (hd : Small r) {pa : Option Addr} {pl pk : Nat} {plan : List Int} (hq : Ints H pa pl plan) (hpl : pl < 1000000) :
    ∀ H', Grow H H' → R (.func 32) [.agg #[.slice r.da r.dl r.dk, .slice r.wa r.wl r.wk, .slice r.ca r.cl r.ck], .slice pa pl pk] H' =
      some ⟨.ok (if isSheet s = true ∧ isPlan s plan = true then (match fails s 0 s.coats plan with | some (i, w) => .tuple #[.int .i64 i, .int .i64 w, .int .i64 0] | none => .tuple #[.int .i64 0, .int .i64 0, .int .i64 5]) else .tuple #[.int .i64 0, .int .i64 0, .int .i64 2]), H', H'.length⟩ := by
  intro H' hg
  refine run_k (pr 32) P32 (by simp [p32]) rfl ?_
  have k1 := c75 hs hd H' hg
  have k2 := c76 (kk := pk) hs hd hq hpl H' hg
  cases e1 : isSheet s with
  | false =>
    rw [if_neg (by simp)]
    simp (maxDischargeDepth := 8) only [↓SD, SU, SV, SW, simprocAttr, Int.cast_ofNat_Int, small, resV,  B32, R32, N32, b32,  hs.d.isLoc, hs.w.isLoc, hs.c.isLoc, hq.isLoc, k1, e1]
  | true =>
  cases e2 : isPlan s plan with
  | false =>
    rw [if_neg (by simp)]
    simp (maxDischargeDepth := 8) only [↓SD, SU, SV, SW, simprocAttr, Int.cast_ofNat_Int, small, resV,  B32, R32, N32, b32,  hs.d.isLoc, hs.w.isLoc, hs.c.isLoc, hq.isLoc, k1, e1, k2, e2]
  | true =>
  rw [if_pos ⟨rfl, rfl⟩]
  have hS := fine_of e1
  have hP := plan_of hS e2
  have hdl : r.dl = s.dry.length := hs.d.len.symm
  obtain ⟨o, ho, la, lc, ha, hc, H1, lo, rfl, hu, hlo, i1, i2⟩ := c78 hs hd hS H' hg
  have hg1 := hg.trans hu.grow
  rw [hdl] at i1 i2
  have k3 := c85 (p := ⟨la, _, lc, ha, _, hc⟩) (pk := pk) ⟨hs.grow hg1, i1, i2⟩ hS (Sl.grow hq hg1) hP H1 (Grow.refl _)
  obtain ⟨da, dl, dk, wa, wl, wk, ca, cl, ck⟩ := r
  have hD : Spans H da dl s.dry := hs.d
  have hW : Ints H wa wl s.work := hs.w
  have hC : Spans H ca cl s.coats := hs.c
  have nD : dl < 1000000 := hd.d
  have nW : wl < 1000000 := hd.w
  have nC : cl < 1000000 := hd.c
  have l1 := hD.isLoc dk
  have l2 := hW.isLoc wk
  have l3 := hC.isLoc ck
  simp only at k1 k2 k3 ho i1 i2 hdl
  rw [hdl] at ho
  have l4 := hq.isLoc pk
  have l6 := i1.isLoc lc
  have l7 := i2.isLoc hc
  have n1 := hu.len
  have n2 : H'.length ≤ lo := hlo
  cases hf : fails s 0 s.coats plan with
  | none =>
    simp only [fails2, hf, Option.map_none, attOf, ← hdl] at k3 ho
    simp (maxDischargeDepth := 8) only [↓SD, SU, SV, SW, simprocAttr, Int.cast_ofNat_Int, small, resV,  B32, R32, N32, b32,  l1, l2, l3, l4, l6, l7, k1, e1, k2, e2, ho, k3, n1, n2]
  | some x =>
    obtain ⟨i, w⟩ := x
    simp only [fails2, hf, Option.map_some, attOf, ← hdl] at k3 ho
    simp (maxDischargeDepth := 8) only [↓SD, SU, SV, SW, simprocAttr, Int.cast_ofNat_Int, small, resV,  B32, R32, N32, b32,  l1, l2, l3, l4, l6, l7, k1, e1, k2, e2, ho, k3, n1, n2]
end Go.Pi.L.Coa
set_option maxRecDepth 100000
namespace Go.Pi.L.Coa
open Go Go.Pi Go.Pi.L Go.Pi.Coa CM

theorem c30 {H : Heap} {r : ShR} {s : Sheet} (hs : ShOk H r s) (hd : Small r) {pa : Option Addr} {pl pk : Nat} {plan : List Int} (hq : Ints H pa pl plan) (hpl : pl < 1000000) :
    ∀ H', Grow H H' → R (.func 30) [.agg #[.slice r.da r.dl r.dk, .slice r.wa r.wl r.wk, .slice r.ca r.cl r.ck], .slice pa pl pk] H' =
      some ⟨.ok (if isSheet s = true ∧ isPlan s plan = true then .tuple #[.int .i64 (word s plan), .int .i64 0] else .tuple #[.int .i64 0, .int .i64 2]), H', H'.length⟩ := by
  intro H' hg
  refine run_k (pr 30) P30 (by simp [p30]) rfl ?_
  have k1 := c75 hs hd H' hg
  have k2 := c76 (kk := pk) hs hd hq hpl H' hg
  cases e1 : isSheet s with
  | false =>
    rw [if_neg (by simp)]
    simp (maxDischargeDepth := 8) only [↓SD, SU, SV, SW, simprocAttr, Int.cast_ofNat_Int, small, resV,  B30, R30, N30, b30,  hs.d.isLoc, hs.w.isLoc, hs.c.isLoc, hq.isLoc, k1, e1]
  | true =>
  cases e2 : isPlan s plan with
  | false =>
    rw [if_neg (by simp)]
    simp (maxDischargeDepth := 8) only [↓SD, SU, SV, SW, simprocAttr, Int.cast_ofNat_Int, small, resV,  B30, R30, N30, b30,  hs.d.isLoc, hs.w.isLoc, hs.c.isLoc, hq.isLoc, k1, e1, k2, e2]
  | true =>
  rw [if_pos ⟨rfl, rfl⟩]
  have hS := fine_of e1
  have hP := plan_of hS e2
  have hpl' : pl = s.coats.length := by rw [← hq.len]; exact hP.len
  have hpl2 : pl < 1000 := by have := hS.c2; omega
  have hdl : r.dl = s.dry.length := hs.d.len.symm
  obtain ⟨o, ho, la, lc, ha, hc, H1, lo, rfl, hu, hlo, i1, i2⟩ := c78 hs hd hS H' hg
  have hg1 := hg.trans hu.grow
  have i1' := i1
  have i2' := i2
  rw [hdl] at i1' i2'
  have hsp : SpOk H1 r ⟨la, _, lc, ha, _, hc⟩ s := ⟨hs.grow hg1, i1', i2'⟩
  have k3 := c85 (pk := pk) hsp hS (Sl.grow hq hg1) hP H1 (Grow.refl _)
  have k4 := fun d t hdt ht => c86 hsp hS (d := d) (t := t) hdt ht H1 (Grow.refl _)
  obtain ⟨da, dl, dk, wa, wl, wk, ca, cl, ck⟩ := r
  have hD : Spans H da dl s.dry := hs.d
  have hW : Ints H wa wl s.work := hs.w
  have hC : Spans H ca cl s.coats := hs.c
  have nD : dl < 1000000 := hd.d
  have nW : wl < 1000000 := hd.w
  have nC : cl < 1000000 := hd.c
  have l1 := hD.isLoc dk
  have l2 := hW.isLoc wk
  have l3 := hC.isLoc ck
  simp only at k1 k2 k3 k4 ho i1 i2 hdl
  rw [← hdl] at k3 k4
  have l4 := hq.isLoc pk
  have l6 := i1.isLoc lc
  have l7 := i2.isLoc hc
  have n1 := hu.len
  have n2 : H'.length ≤ lo := hlo
  unfold word surely
  cases hf : fails s 0 s.coats plan with
  | none =>
    simp only [fails2, hf, Option.map_none, attOf] at k3
    simp only [Option.isNone_none, ↓reduceIte]
    simp (maxDischargeDepth := 8) only [↓SD, SU, SV, SW, simprocAttr, Int.cast_ofNat_Int, small, resV,  B30, R30, N30, b30,  l1, l2, l3, l4, l6, l7, k1, e1, k2, e2, ho, k3, n1, n2]
  | some x =>
  obtain ⟨i, w⟩ := x
  simp only [fails2, hf, Option.map_some, attOf] at k3
  rw [if_neg (by simp)]
  simp (maxDischargeDepth := 8) only [↓SD, SU, SV, SW, simprocAttr, Int.cast_ofNat_Int, small, resV,  B30, R30, N30, b30,  l1, l2, l3, l4, l6, l7, k1, e1, k2, e2, ho, k3]
  refine loop_ind (G := (· = _)) (fun j σ => ∃ T S lim, σ = ⟨T, S, [], H1, lim, 75, false⟩ ∧ get T 1 = .slice pa pl pk ∧ get T 2 = .pointer (some ⟨2, 0, some 1⟩) ∧ get T 6 = .pointer (some ⟨6, 0, some 1⟩) ∧ get T 33 = .slice pa pl pk ∧ get T 34 = .int .i64 pl ∧ get T 35 = .int .i64 (j : Nat) ∧ sget S 2 = (1, .cells [.slice da dl dk, .slice wa wl wk, .slice ca cl ck]) ∧ sget S 6 = (1, .cells [.slice da dl dk, .slice wa wl wk, .slice ca cl ck, .slice la (dl + 1) lc, .slice ha (dl + 1) hc]) ∧ (never s (s.coats.drop j) (plan.drop j) = never s s.coats plan ∧ H'.length ≤ lim)) (pl) ?_ ?_ 0 _ (Nat.zero_le _) ⟨_, _, _, rfl, rfl, rfl, rfl, rfl, rfl, rfl, rfl, rfl, ⟨by simp, by omega⟩⟩
  · rintro c' j s hj ⟨T, S, lim, rfl, t1, t2, t6, t33, t34, t35, s0, s1, hp⟩ ih
    obtain ⟨hp, hlim⟩ := hp
    obtain ⟨b, off, x, rfl, hx', f0⟩ := hq.i1 hj
    have hw1 := wrap_succ j (by omega)
    have hcj : j < s.coats.length := by omega
    have hcj2 : j < cl := by rw [← hC.len]; exact hcj
    obtain ⟨b2, off2, c, rfl, hc', _, f1, f2⟩ := hC.s2 hcj2
    obtain ⟨d, t, rfl, hti, hdt, htd⟩ := hP.span hx'
    have ht2 : (plan[j + 1]?).getD (dl : Int) = (t : Int) := by rw [hdl, ← til_drop]; exact hti
    have q1 := c79 (H := H) (pk := pk) (dk := dk) (d1 := undef) (w1 := .slice wa wl wk) (c1 := .slice (some ⟨b2, off2, none⟩) cl ck) (h1 := .slice la (dl + 1) lc) (h2 := .slice ha (dl + 1) hc) hq hpl2 l1 l2 rfl l3 rfl l6 rfl l7 rfl hx' ht2 H1 hg1
    have q2 := k4 d t (by omega) (by omega)
    rw [never_step hq.len hx' hc' hti] at hp
    by_cases z1 : seg (highs s) d t < c.1
    · rw [if_pos (.inl z1)] at hp
      simp (maxDischargeDepth := 8) only [↓SD, SU, SV, SW, simprocAttr, Int.cast_ofNat_Int, small, resV,  q30x0, t1, t2, t6, t33, t34, t35, s0, s1,  s0, s1, lt_nat, hj, hcj2, l1, l2, l3, l4, l6, l7, hg1, f0, f1, f2, q1, q2, z1, R30, N30, ← hp, hlim, n1]
    · by_cases z0 : j + 1 < pl
      · by_cases z2 : c.2 < seg (lows s) d t
        · rw [if_pos (.inr ⟨z0, z2⟩)] at hp
          simp (maxDischargeDepth := 8) only [↓SD, SU, SV, SW, simprocAttr, Int.cast_ofNat_Int, small, resV,  q30x0, t1, t2, t6, t33, t34, t35, s0, s1,  s0, s1, lt_nat, hj, hcj2, l1, l2, l3, l4, l6, l7, hg1, f0, f1, f2, q1, q2, z1, z2, z0, R30, N30, ← hp, hlim, n1]
        · rw [if_neg (fun h => h.elim z1 (fun h => z2 h.2))] at hp
          simp (maxDischargeDepth := 8) only [↓SD, SU, SV, SW, simprocAttr, Int.cast_ofNat_Int, small, resV,  q30x0, t1, t2, t6, t33, t34, t35, s0, s1,  s0, s1, lt_nat, hj, hcj2, l1, l2, l3, l4, l6, l7, hg1, f0, f1, f2, q1, q2, z1, z2, z0, hw1]
          exact ih _ ⟨_, _, _, rfl, (by first | (simp [get_set, t1]; done) | (simp [get_set, t1]; omega)), (by first | (simp [get_set, t2]; done) | (simp [get_set, t2]; omega)), (by first | (simp [get_set, t6]; done) | (simp [get_set, t6]; omega)), (by first | (simp [get_set, t33]; done) | (simp [get_set, t33]; omega)), (by first | (simp [get_set, t34]; done) | (simp [get_set, t34]; omega)), (by first | (simp [get_set, t35]; done) | (simp [get_set, t35]; omega)), by simp [sget_sset, s0], by simp [sget_sset, s1], ⟨hp, by omega⟩⟩
      · rw [if_neg (fun h => h.elim z1 (fun h => z0 h.1))] at hp
        simp (maxDischargeDepth := 8) only [↓SD, SU, SV, SW, simprocAttr, Int.cast_ofNat_Int, small, resV,  q30x0, t1, t2, t6, t33, t34, t35, s0, s1,  s0, s1, lt_nat, hj, hcj2, l1, l2, l3, l4, l6, l7, hg1, f0, f1, f2, q1, q2, z1, z0, hw1]
        exact ih _ ⟨_, _, _, rfl, (by first | (simp [get_set, t1]; done) | (simp [get_set, t1]; omega)), (by first | (simp [get_set, t2]; done) | (simp [get_set, t2]; omega)), (by first | (simp [get_set, t6]; done) | (simp [get_set, t6]; omega)), (by first | (simp [get_set, t33]; done) | (simp [get_set, t33]; omega)), (by first | (simp [get_set, t34]; done) | (simp [get_set, t34]; omega)), (by first | (simp [get_set, t35]; done) | (simp [get_set, t35]; omega)), by simp [sget_sset, s0], by simp [sget_sset, s1], ⟨hp, by omega⟩⟩
  · rintro c' s ⟨T, S, lim, rfl, t1, t2, t6, t33, t34, t35, s0, s1, hp⟩
    obtain ⟨hp, hlim⟩ := hp
    rw [drop_all hq.len, hpl', List.drop_eq_nil_of_le (Nat.le_refl _)] at hp
    replace hp : false = never s s.coats plan := hp
    simp (maxDischargeDepth := 8) only [↓SD, SU, SV, SW, simprocAttr, Int.cast_ofNat_Int, small, resV,  q30x0, t1, t2, t6, t33, t34, t35, s0, s1,  s0, s1, lt_nat, Nat.lt_irrefl, l1, l2, l3, l4, R30, N30, ← hp, hlim, n1]
end Go.Pi.L.Coa
