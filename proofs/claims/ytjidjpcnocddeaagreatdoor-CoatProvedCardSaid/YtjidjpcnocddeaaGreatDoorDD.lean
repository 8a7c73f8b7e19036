/- Coats: which list comes before another; the theorem of proofs. -/
import Derived.Test.YtjidjpcnocddeaaGreatDoorDC
set_option linter.all false
set_option linter.unusedVariables false
set_option linter.unusedSimpArgs false
set_option linter.unusedSectionVars false
set_option maxRecDepth 100000
namespace Go.Pi.L.Coa
open Go Go.Pi Go.Pi.L Go.Pi.Coa CM

theorem bef_end {xs ys : List Int} {a b : Nat} (ha : xs.length = a) (hb : ys.length = b) : bef (xs.drop (min a b)) (ys.drop (min a b)) = decide (a < b) := by
  rcases Nat.lt_trichotomy a b with h | h | h
  · rw [Nat.min_eq_left (by omega), drop_all ha, drop_cons (List.getElem?_eq_getElem (show a < ys.length by omega))]
    simp [bef, h]
  · subst h
    rw [Nat.min_self, drop_all ha, drop_all hb]
    simp [bef]
  · rw [Nat.min_eq_right (by omega), drop_all hb, drop_cons (List.getElem?_eq_getElem (show b < xs.length by omega))]
    have : ¬ a < b := by omega
    simp [bef, this]
theorem c40 {H : Heap} {a b : Option Addr} {la lb ka kb : Nat} {xs ys : List Int} (hx : Ints H a la xs) (hy : Ints H b lb ys) (na : la < 1000000) (nb : lb < 1000000) :
    ∀ H', Grow H H' → R (.func 40) [.slice a la ka, .slice b lb kb] H' = some ⟨.ok (.bool (bef xs ys)), H', H'.length⟩ := by
  intro H' hg
  refine run_k (pr 40) P40 (by simp [p40]) rfl ?_
  have l1 := hx.isLoc ka
  have l2 := hy.isLoc kb
  simp (maxDischargeDepth := 8) (maxSteps := 4000000) only [↓SD, SU, SV, SW, Nat.reduceEqDiff, Int.reduceLE, Int.reduceEq, Int.reduceLT, Int.reduceNeg, Int.reduceAdd, Int.reduceSub, Int.reduceToNat, Int.cast_ofNat_Int, Nat.reduceLT, small, resV, ↓reduceIte, Nat.reduceAdd, Nat.reduceLeDiff, Nat.reduceMul,  B40, R40, N40, b40,  l1, l2]
  refine loop_ind (G := (· = _)) (fun j σ => ∃ T, σ = ⟨T, [], [], H', (H').length, 41, false⟩ ∧ get T 0 = .slice a la ka ∧ get T 1 = .slice b lb kb ∧ get T 5 = .int .i64 (j : Nat) ∧ (bef (xs.drop j) (ys.drop j) = bef xs ys)) (min la lb) ?_ ?_ 0 _ (Nat.zero_le _) ⟨_, rfl, rfl, rfl, rfl, by simp⟩
  · rintro c' j s hj ⟨T, rfl, t0, t1, t5, hp⟩ ih
    have h1 : j < la := by omega
    have h2 : j < lb := by omega
    obtain ⟨b1, off1, x, rfl, hx', f0⟩ := hx.i1 h1
    obtain ⟨b2, off2, y, rfl, hy', g0⟩ := hy.i1 h2
    have hw1 := wrap_succ j (by omega)
    rw [drop_cons hx', drop_cons hy', bef] at hp
    by_cases e : x = y
    · subst e
      rw [if_pos rfl] at hp
      simp (maxDischargeDepth := 8) (maxSteps := 4000000) only [↓SD, SU, SV, SW, Nat.reduceEqDiff, Int.reduceLE, Int.reduceEq, Int.reduceLT, Int.reduceNeg, Int.reduceAdd, Int.reduceSub, Int.reduceToNat, Int.cast_ofNat_Int, Nat.reduceLT, small, resV, ↓reduceIte, Nat.reduceAdd, Nat.reduceLeDiff, Nat.reduceMul,  q40x0, t0, t1, t5,  lt_nat, h1, h2, l1, l2, hg, f0, g0, hw1]
      exact ih _ ⟨_, rfl, (by first | (simp [get_set, t0]; done) | (simp [get_set, t0]; omega)), (by first | (simp [get_set, t1]; done) | (simp [get_set, t1]; omega)), (by first | (simp [get_set, t5]; done) | (simp [get_set, t5]; omega)), hp⟩
    · rw [if_neg e] at hp
      simp (maxDischargeDepth := 8) (maxSteps := 4000000) only [↓SD, SU, SV, SW, Nat.reduceEqDiff, Int.reduceLE, Int.reduceEq, Int.reduceLT, Int.reduceNeg, Int.reduceAdd, Int.reduceSub, Int.reduceToNat, Int.cast_ofNat_Int, Nat.reduceLT, small, resV, ↓reduceIte, Nat.reduceAdd, Nat.reduceLeDiff, Nat.reduceMul,  q40x0, t0, t1, t5,  lt_nat, h1, h2, l1, l2, hg, f0, g0, e, R40, N40, ← hp]
  · rintro c' s ⟨T, rfl, t0, t1, t5, hp⟩
    rw [bef_end hx.len hy.len] at hp
    by_cases h1 : la ≤ lb
    · rw [Nat.min_eq_left h1] at t5
      simp (maxDischargeDepth := 8) (maxSteps := 4000000) only [↓SD, SU, SV, SW, Nat.reduceEqDiff, Int.reduceLE, Int.reduceEq, Int.reduceLT, Int.reduceNeg, Int.reduceAdd, Int.reduceSub, Int.reduceToNat, Int.cast_ofNat_Int, Nat.reduceLT, small, resV, ↓reduceIte, Nat.reduceAdd, Nat.reduceLeDiff, Nat.reduceMul,  q40x0, t0, t1, t5,  lt_nat, Nat.lt_irrefl, l1, l2, R40, N40, ← hp]
    · rw [Nat.min_eq_right (by omega)] at t5
      have h2 : lb < la := by omega
      simp (maxDischargeDepth := 8) (maxSteps := 4000000) only [↓SD, SU, SV, SW, Nat.reduceEqDiff, Int.reduceLE, Int.reduceEq, Int.reduceLT, Int.reduceNeg, Int.reduceAdd, Int.reduceSub, Int.reduceToNat, Int.cast_ofNat_Int, Nat.reduceLT, small, resV, ↓reduceIte, Nat.reduceAdd, Nat.reduceLeDiff, Nat.reduceMul,  q40x0, t0, t1, t5,  lt_nat, Nat.lt_irrefl, h2, l1, l2, R40, N40, ← hp]
end Go.Pi.L.Coa
set_option maxRecDepth 100000
namespace Go.Pi.L.Coa
open Go Go.Pi Go.Pi.L Go.Pi.Coa CM
set_option maxHeartbeats 4000000 in
theorem c6 {H : Heap} {r : ShR} {s : Sheet} (hs : ShOk H r s) {pa wa' : Option Addr} {pl pk wl' wk' : Nat} {plan w : List Int} {other : Int} (hq : Ints H pa pl plan) (hw : Ints H wa' wl' w) (hF : Fam H) :
    R (.func 6) [.agg #[.slice r.da r.dl r.dk, .slice r.wa r.wl r.wk, .slice r.ca r.cl r.ck], .slice pa pl pk, .slice wa' wl' wk', .int .i64 other] H = some ⟨.ok (.bool true), H, H.length⟩ := by
  refine run_k (pr 6) P6 (by simp [p6]) rfl ?_
  have l1 := hs.d.isLoc r.dk
  have l2 := hs.w.isLoc r.wk
  have l3 := hs.c.isLoc r.ck
  have l4 := hq.isLoc pk
  have l5 := hw.isLoc wk'
  have k29 := c29 (pk := pk) hs hq H (Grow.refl _)
  cases e1 : isRight r s pl plan with
  | false => simp (maxDischargeDepth := 8) (maxSteps := 4000000) only [↓SD, SU, SV, SW, Nat.reduceEqDiff, Int.reduceLE, Int.reduceEq, Int.reduceLT, Int.reduceNeg, Int.reduceAdd, Int.reduceSub, Int.reduceToNat, Int.cast_ofNat_Int, Nat.reduceLT, small, resV, ↓reduceIte, Nat.reduceAdd, Nat.reduceLeDiff, Nat.reduceMul,  B6, R6, N6, b6,  l1, l2, l3, l4, l5, k29, e1, c23]
  | true =>
  obtain ⟨e2, e3, e4, e5⟩ := right_of e1
  have hd := short_small e2
  have hS := fine_of e4
  have hP := plan_of hS e5
  have z2 : ((14 : Int) < wl') = (14 < wl') := propext (by omega)
  by_cases e6 : 14 < wl'
  · simp (maxDischargeDepth := 8) (maxSteps := 4000000) only [↓SD, SU, SV, SW, Nat.reduceEqDiff, Int.reduceLE, Int.reduceEq, Int.reduceLT, Int.reduceNeg, Int.reduceAdd, Int.reduceSub, Int.reduceToNat, Int.cast_ofNat_Int, Nat.reduceLT, small, resV, ↓reduceIte, Nat.reduceAdd, Nat.reduceLeDiff, Nat.reduceMul,  B6, R6, N6, b6,  l1, l2, l3, l4, l5, k29, e1, c23, z2, e6]
  have k27 := c27 (kk := wk') hs hd hw (by omega) H (Grow.refl _)
  cases e7 : isWeather s w with
  | false => simp (maxDischargeDepth := 8) (maxSteps := 4000000) only [↓SD, SU, SV, SW, Nat.reduceEqDiff, Int.reduceLE, Int.reduceEq, Int.reduceLT, Int.reduceNeg, Int.reduceAdd, Int.reduceSub, Int.reduceToNat, Int.cast_ofNat_Int, Nat.reduceLT, small, resV, ↓reduceIte, Nat.reduceAdd, Nat.reduceLeDiff, Nat.reduceMul,  B6, R6, N6, b6,  l1, l2, l3, l4, l5, k29, e1, c23, z2, e6, k27, e7]
  | true =>
  have k36 := c36 hs hd.c other H (Grow.refl _)
  cases e8 : isCoat s other with
  | false => simp (maxDischargeDepth := 8) (maxSteps := 4000000) only [↓SD, SU, SV, SW, Nat.reduceEqDiff, Int.reduceLE, Int.reduceEq, Int.reduceLT, Int.reduceNeg, Int.reduceAdd, Int.reduceSub, Int.reduceToNat, Int.cast_ofNat_Int, Nat.reduceLT, small, resV, ↓reduceIte, Nat.reduceAdd, Nat.reduceLeDiff, Nat.reduceMul,  B6, R6, N6, b6,  l1, l2, l3, l4, l5, k29, e1, c23, z2, e6, k27, e7, k36, e8]
  | true =>
  have hcl : pl = s.coats.length := by rw [← hq.len]; exact hP.len
  obtain ⟨o, rfl, ho⟩ : ∃ o : Nat, other = o ∧ o < pl := by
    simp only [isCoat, inL_iff] at e8
    exact ⟨other.toNat, by omega, by omega⟩
  have hpl2 : pl < 1000 := by omega
  have hdl : r.dl = s.dry.length := hs.d.len.symm
  have hdl2 : r.dl < 1000 := by have := hS.d2; omega
  have hd12 := hS.d2
  obtain ⟨bp, offp, x, rfl, hx', fp⟩ := hq.i1 ho
  obtain ⟨d, t, rfl, hti, hdt, htd⟩ := hP.span hx'
  have ht2 : (plan[o + 1]?).getD (r.dl : Int) = (t : Int) := by rw [hdl, ← til_drop]; exact hti
  have hoc : o < r.cl := by have := hs.c.len; omega
  obtain ⟨bc, offc, c, hcb, hc, _, f1, f2⟩ := hs.c.s2 hoc
  have k32 := c32 (pk := pk) hs hd hq (by omega) H (Grow.refl _)
  rw [if_pos ⟨e4, e5⟩] at k32
  have k24 := fun H2 g => c24 (pk := pk) (wk' := wk') hs hd hq (by omega) hw (by omega) H2 g
  rw [if_pos ⟨e4, e5, e7⟩] at k24
  have k38 := fun H2 g => c38 hs hd H2 g
  have k39 := fun H2 g => c39 hs hd H2 g
  have k37 := fun H2 (g : Grow H H2) wa' wk' w hw hb => c37 (pk := pk) (wa := wa') (wk := wk') (wl := r.dl) (w := w) (i := o) (d := d) (t := t) (Sl.grow hq g) hpl2 hw hdl2 hb hx' ht2 (by omega) (by omega) H2 (Grow.refl _)
  have hw1 := wrap_succ o (by omega)
  have spec := fails_spec (s := s) s.coats 0 plan
  simp only [hti, hq.len] at spec
  have g0 := Grow.refl H
  cases hsv : fails s 0 s.coats plan with
  | none =>
    have e9 : surely s plan = true := by unfold surely; rw [hsv]; rfl
    have k31 := c31s (pk := pk) hs hd hq (by omega) e4 e5 e9 H (Grow.refl _)
    have e10 := (surely_iff hS plan).1 e9 w e7
    have sp := spec.1 hsv o c d hc hx'
    rw [hti] at sp
    rw [hsv] at k32
    simp only [e10] at k24
    obtain ⟨o2, ho2, a2, m2, H2, lo2, rfl, u2, hlo2, z2'⟩ := k38 H g0
    have hg2 := u2.grow
    rw [lows_len, ← hdl] at ho2 z2'
    have q1 := k37 H2 hg2 a2 m2 (lows s) z2' (fun y hy => by have := lows_bound hS y hy; omega)
    obtain ⟨o3, ho3, a3, m3, H3, lo3, rfl, u3, hlo3, z3⟩ := k39 H2 hg2
    have hg3 := hg2.trans u3.grow
    rw [highs_len, ← hdl] at ho3 z3
    have q2 := k37 H3 hg3 a3 m3 (highs s) z3 (fun y hy => by have := highs_bound hS y hy; omega)
    have l6 := z2'.isLoc m2
    have l7 := z3.isLoc m3
    have n2 := u2.len
    have n3 := u3.len
    have n4 : H.length ≤ lo2 := hlo2
    have n5 : H2.length ≤ lo3 := hlo3
    have n6 : H.length ≤ H3.length := by omega
    have n9 : H.length ≤ lo3 := by omega
    obtain ⟨da, dl, dk, wa, wl, wk, ca, cl, ck⟩ := r
    have hD : Spans H da dl s.dry := hs.d
    have hW : Ints H wa wl s.work := hs.w
    have hC : Spans H ca cl s.coats := hs.c
    have nD : dl < 1000000 := hd.d
    have nW : wl < 1000000 := hd.w
    have nC : cl < 1000000 := hd.c
    have l1 := hD.isLoc dk
    have l2 := hW.isLoc wk
    have l3 := hC.isLoc ck
    simp only at k24 k31 k32 k29 k27 k36 k38 k39 k37 ho2 ho3 q1 q2 hoc hcb e1 hdl f1 f2
    subst hcb
    by_cases b2 : o + 1 < pl
    · by_cases b3 : c.2 < seg (highs s) d t
      · exact absurd ⟨b2, b3⟩ sp.2
      · simp (maxDischargeDepth := 8) (maxSteps := 4000000) only [↓SD, SU, SV, SW, Nat.reduceEqDiff, Int.reduceLE, Int.reduceEq, Int.reduceLT, Int.reduceNeg, Int.reduceAdd, Int.reduceSub, Int.reduceToNat, Int.cast_ofNat_Int, Nat.reduceLT, small, resV, ↓reduceIte, Nat.reduceAdd, Nat.reduceLeDiff, Nat.reduceMul,  B6, R6, N6, b6,  l1, l2, l3, l4, l5, l6, l7, k29, e1, c23, z2, e6, k27, e7, k36, e8, k32, k31, k24, g0, hg2, hg3, ho2, ho3, q1, q2, lt_nat, hoc, f1, f2, sp.1, hw1, b2, b3, n2, n3, n4, n5, n6, n9]
    · simp (maxDischargeDepth := 8) (maxSteps := 4000000) only [↓SD, SU, SV, SW, Nat.reduceEqDiff, Int.reduceLE, Int.reduceEq, Int.reduceLT, Int.reduceNeg, Int.reduceAdd, Int.reduceSub, Int.reduceToNat, Int.cast_ofNat_Int, Nat.reduceLT, small, resV, ↓reduceIte, Nat.reduceAdd, Nat.reduceLeDiff, Nat.reduceMul,  B6, R6, N6, b6,  l1, l2, l3, l4, l5, l6, l7, k29, e1, c23, z2, e6, k27, e7, k36, e8, k32, k31, k24, g0, hg2, hg3, ho2, ho3, q1, q2, lt_nat, hoc, f1, f2, sp.1, hw1, b2, n2, n3, n4, n5, n6, n9]
  | some y =>
    obtain ⟨n, why⟩ := y
    have e9 : surely s plan = false := by unfold surely; rw [hsv]; rfl
    obtain ⟨n', cn, dn, hn0, hcn, hdn, hwhy, hbefore⟩ := spec.2 n why hsv
    obtain rfl : n' = n := by omega
    have hno := hbefore o c d
    rw [hti] at hno
    have hnp : n' < pl := by rw [← hq.len]; exact (List.getElem?_eq_some_iff.1 hdn).1
    rw [hsv] at k32
    obtain ⟨oo, k31, p, hp, a, m, H1, lo1, rfl, u1, hlo1, hpl⟩ := c31 (pk := pk) hs hd hq (by omega) e4 e5 e9 H (Grow.refl _) hF
    have hg1 := u1.grow
    have hplen := (weather_bound hS hp.is).1
    have k36n := fun H2 (g : Grow H1 H2) => c36 hs hd.c (n' : Int) H2 (hg1.trans g)
    rw [show isCoat s (n' : Int) = true by simp [isCoat, inL]; omega] at k36n
    have k27p := fun H2 (g : Grow H1 H2) => c27 (kk := m) (hs.grow (hg1.trans g)) hd (Sl.grow hpl g) (by omega) H2 (Grow.refl _)
    rw [hp.is] at k27p
    have k24p := fun H2 (g : Grow H1 H2) => c24 (pk := pk) (wk' := m) (hs.grow (hg1.trans g)) hd (Sl.grow hq (hg1.trans g)) (by omega) (Sl.grow hpl g) (by omega) H2 (Grow.refl _)
    rw [if_pos ⟨e4, e5, hp.is⟩, hp.bad] at k24p
    have k40 := fun H2 (g : Grow H1 H2) => c40 (ka := wk') (kb := m) (Sl.grow hw (hg1.trans g)) (Sl.grow hpl g) (by omega) (by omega) H2 (Grow.refl _)
    obtain ⟨o2, ho2, a2, m2, H2, lo2, rfl, u2, hlo2, z2'⟩ := k38 H1 hg1
    have g2 := u2.grow
    have hg2 := hg1.trans g2
    rw [lows_len, ← hdl] at ho2 z2'
    have q1 := k37 H2 hg2 a2 m2 (lows s) z2' (fun y hy => by have := lows_bound hS y hy; omega)
    obtain ⟨o3, ho3, a3, m3, H3, lo3, rfl, u3, hlo3, z3⟩ := k39 H2 hg2
    have g3 := g2.trans u3.grow
    have hg3 := hg2.trans u3.grow
    rw [highs_len, ← hdl] at ho3 z3
    have q2 := k37 H3 hg3 a3 m3 (highs s) z3 (fun y hy => by have := highs_bound hS y hy; omega)
    have l6 := z2'.isLoc m2
    have l7 := z3.isLoc m3
    have l8 := hpl.isLoc m
    have n1 := u1.len
    have n2 := u2.len
    have n3 := u3.len
    have n0 : H.length ≤ lo1 := hlo1
    have n4 : H1.length ≤ lo2 := hlo2
    have n5 : H2.length ≤ lo3 := hlo3
    have n6 : H.length ≤ H3.length := by omega
    have n7 : H.length ≤ H2.length := by omega
    have n8 : H.length ≤ lo2 := by omega
    have n9 : H.length ≤ lo3 := by omega
    obtain ⟨da, dl, dk, wa, wl, wk, ca, cl, ck⟩ := r
    have hD : Spans H da dl s.dry := hs.d
    have hW : Ints H wa wl s.work := hs.w
    have hC : Spans H ca cl s.coats := hs.c
    have nD : dl < 1000000 := hd.d
    have nW : wl < 1000000 := hd.w
    have nC : cl < 1000000 := hd.c
    have l1 := hD.isLoc dk
    have l2 := hW.isLoc wk
    have l3 := hC.isLoc ck
    simp only at k24 k31 k32 k29 k27 k36 k38 k39 k37 ho2 ho3 q1 q2 hoc hcb e1 hdl f1 f2 k36n k27p k24p
    subst hcb
    have hmin := hp.min w e7
    have tri : (¬ o + 1 < pl ∧ True) ∨ (o + 1 < pl ∧ c.2 < seg (highs s) d t) ∨ (o + 1 < pl ∧ ¬ c.2 < seg (highs s) d t) := by
      by_cases h : o + 1 < pl
      · by_cases h2 : c.2 < seg (highs s) d t
        · exact .inr (.inl ⟨h, h2⟩)
        · exact .inr (.inr ⟨h, h2⟩)
      · exact .inl ⟨h, trivial⟩
    have y3 : (why = 1 ∨ why = 2) := by rcases hwhy with h | h; exact .inl h.1; exact .inr h.1
    have key : (n' < o ∧ (seg (lows s) d t < c.1 ∨ ¬ seg (lows s) d t < c.1)) ∨ (n' = o ∧ ((why = 1 ∧ seg (lows s) d t < c.1) ∨ (why = 2 ∧ ¬ seg (lows s) d t < c.1 ∧ o + 1 < pl ∧ c.2 < seg (highs s) d t))) ∨ (o < n' ∧ ¬ seg (lows s) d t < c.1 ∧ ¬ (o + 1 < pl ∧ c.2 < seg (highs s) d t)) := by
      rcases Nat.lt_trichotomy n' o with b0 | b0 | b0
      · exact .inl ⟨b0, Classical.em _⟩
      · subst b0
        rw [hc] at hcn; rw [hx'] at hdn
        cases hcn; cases hdn
        rw [hti] at hwhy
        exact .inr (.inl ⟨rfl, hwhy⟩)
      · exact .inr (.inr ⟨b0, hno b0 hc hx'⟩)
    simp (maxDischargeDepth := 8) (maxSteps := 4000000) only [↓SD, SU, SV, SW, Nat.reduceEqDiff, Int.reduceLE, Int.reduceEq, Int.reduceLT, Int.reduceNeg, Int.reduceAdd, Int.reduceSub, Int.reduceToNat, Int.cast_ofNat_Int, Nat.reduceLT, small, resV, ↓reduceIte, Nat.reduceAdd, Nat.reduceLeDiff, Nat.reduceMul,  B6, R6, N6, b6,  l1, l2, l3, l4, l5, l6, l7, l8, k29, e1, c23, z2, e6, k27, e7, k36, e8, k32, k31, k24, g0, g2, g3, hg1, hg2, hg3, ho2, q1, lt_nat, hoc, f1, f2, hw1, n0, n1, n2, n4, n7, n8]
    have z3 : ∀ b : Bool, (b == true) = b := by decide
    rcases tri with ⟨b2, b3⟩ | ⟨b2, b3⟩ | ⟨b2, b3⟩ <;> simp (maxDischargeDepth := 8) (maxSteps := 4000000) only [↓SD, SU, SV, SW, Nat.reduceEqDiff, Int.reduceLE, Int.reduceEq, Int.reduceLT, Int.reduceNeg, Int.reduceAdd, Int.reduceSub, Int.reduceToNat, Int.cast_ofNat_Int, Nat.reduceLT, small, resV, ↓reduceIte, Nat.reduceAdd, Nat.reduceLeDiff, Nat.reduceMul,  l1, l2, l3, l4, l5, l6, l7, l8, c23, k36n, k27p, k24p, k40, g0, g2, g3, hg1, hg2, hg3, lt_nat, hoc, f1, f2, n0, n1, n2, n3, n4, n5, n6, n7, n8, n9, b2, b3, ho3, q2]
    all_goals rcases y3 with rfl | rfl <;> simp (maxDischargeDepth := 8) (maxSteps := 4000000) only [↓SD, SU, SV, SW, Nat.reduceEqDiff, Int.reduceLE, Int.reduceEq, Int.reduceLT, Int.reduceNeg, Int.reduceAdd, Int.reduceSub, Int.reduceToNat, Int.cast_ofNat_Int, Nat.reduceLT, small, resV, ↓reduceIte, Nat.reduceAdd, Nat.reduceLeDiff, Nat.reduceMul,  l1, l2, l3, l4, l5, l6, l7, l8, c23, k36n, k27p, k24p, k40, g0, g2, g3, hg1, hg2, hg3, lt_nat, hoc, f1, f2, n0, n1, n2, n3, n4, n5, n6, n7, n8, n9]
    all_goals cases e10 : holds s w s.coats plan <;> simp (maxDischargeDepth := 8) (maxSteps := 4000000) only [↓SD, SU, SV, SW, Nat.reduceEqDiff, Int.reduceLE, Int.reduceEq, Int.reduceLT, Int.reduceNeg, Int.reduceAdd, Int.reduceSub, Int.reduceToNat, Int.cast_ofNat_Int, Nat.reduceLT, small, resV, ↓reduceIte, Nat.reduceAdd, Nat.reduceLeDiff, Nat.reduceMul,  l1, l2, l3, l4, l5, l6, l7, l8, c23, k36n, k27p, k24p, k40, g0, g2, g3, hg1, hg2, hg3, lt_nat, hoc, f1, f2, n0, n1, n2, n3, n4, n5, n6, n7, n8, n9, e10, hmin]
    all_goals generalize hT : (@List.cons Value _ _) = T0
    all_goals have t1 : _ = get T0 1 := congrArg (fun T => get T 1) hT
    all_goals have t3 : _ = get T0 3 := congrArg (fun T => get T 3) hT
    all_goals have t4 : _ = get T0 4 := congrArg (fun T => get T 4) hT
    all_goals have t9 : _ = get T0 9 := congrArg (fun T => get T 9) hT
    all_goals have t10 : _ = get T0 10 := congrArg (fun T => get T 10) hT
    all_goals have t12 : _ = get T0 12 := congrArg (fun T => get T 12) hT
    all_goals have t16 : _ = get T0 16 := congrArg (fun T => get T 16) hT
    all_goals have t17 : _ = get T0 17 := congrArg (fun T => get T 17) hT
    all_goals have t154 : _ = get T0 154 := congrArg (fun T => get T 154) hT
    all_goals have t156 : _ = get T0 156 := congrArg (fun T => get T 156) hT
    all_goals simp only [get, List.getElem?_cons_succ, List.getElem?_cons_zero, Option.getD_some] at t1 t3 t4 t9 t10 t12 t16 t17 t154 t156
    all_goals clear hT
    all_goals rcases key with ⟨b0, b1⟩ | ⟨b0, b1⟩ | ⟨b0, b1, b4⟩
    all_goals first
      | (have y1 : ¬ o < n' := by omega
         have y2 : ((n' : Int) = (o : Int)) = False := by simp; omega
         have y5 : n' < o := b0
         rcases b1 with b1 | b1 <;> simp (maxDischargeDepth := 8) (maxSteps := 4000000) only [↓SD, SU, SV, SW, Nat.reduceEqDiff, Int.reduceLE, Int.reduceEq, Int.reduceLT, Int.reduceNeg, Int.reduceAdd, Int.reduceSub, Int.reduceToNat, Int.cast_ofNat_Int, Nat.reduceLT, small, resV, ↓reduceIte, Nat.reduceAdd, Nat.reduceLeDiff, Nat.reduceMul,  l1, l2, l3, l4, l5, l6, l7, l8, c23, k24p, g2, g3, lt_nat, n0, n1, n2, n3, n4, n5, n6, n7, n8, n9, R6, N6, ← t1, ← t3, ← t4, ← t9, ← t10, ← t12, ← t16, ← t17, ← t154, ← t156, b0, b1, b2, b3, y1, y2]
         done)
      | (subst b0
         have y1 := Nat.lt_irrefl n'
         rcases b1 with ⟨h1, b1⟩ | ⟨h1, b1, b4, b5⟩ <;> first | exact absurd h1 (by decide) | exact absurd b4 b2 | exact absurd b5 b3 | simp (maxDischargeDepth := 8) (maxSteps := 4000000) only [↓SD, SU, SV, SW, Nat.reduceEqDiff, Int.reduceLE, Int.reduceEq, Int.reduceLT, Int.reduceNeg, Int.reduceAdd, Int.reduceSub, Int.reduceToNat, Int.cast_ofNat_Int, Nat.reduceLT, small, resV, ↓reduceIte, Nat.reduceAdd, Nat.reduceLeDiff, Nat.reduceMul,  l1, l2, l3, l4, l5, l6, l7, l8, c23, k24p, g2, g3, lt_nat, n0, n1, n2, n3, n4, n5, n6, n7, n8, n9, R6, N6, ← t1, ← t3, ← t4, ← t9, ← t10, ← t12, ← t16, ← t17, ← t154, ← t156, b1, b2, b3, y1]
         done)
      | (refine absurd ?_ b4; constructor <;> assumption)
      | (have y2 : ((n' : Int) = (o : Int)) = False := by simp; omega
         simp (maxDischargeDepth := 8) (maxSteps := 4000000) only [↓SD, SU, SV, SW, Nat.reduceEqDiff, Int.reduceLE, Int.reduceEq, Int.reduceLT, Int.reduceNeg, Int.reduceAdd, Int.reduceSub, Int.reduceToNat, Int.cast_ofNat_Int, Nat.reduceLT, small, resV, ↓reduceIte, Nat.reduceAdd, Nat.reduceLeDiff, Nat.reduceMul,  l1, l2, l3, l4, l5, l6, l7, l8, c23, k24p, g2, g3, lt_nat, n0, n1, n2, n3, n4, n5, n6, n7, n8, n9, R6, N6, ← t1, ← t3, ← t4, ← t9, ← t10, ← t12, ← t16, ← t17, ← t154, ← t156, b0, b1, b2, b3, y2]
         done)
end Go.Pi.L.Coa
