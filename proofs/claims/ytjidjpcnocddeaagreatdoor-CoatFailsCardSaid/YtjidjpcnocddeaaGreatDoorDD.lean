/- Coats: which list comes before another; the theorem of proofs. -/
import Derived.Test.YtjidjpcnocddeaaGreatDoorDC
set_option linter.all false
set_option linter.unusedVariables false
set_option linter.unusedSimpArgs false
set_option linter.unusedSectionVars false
set_option maxRecDepth 100000
namespace Go.Pi.L.Coa
open Go Go.Pi Go.Pi.L Go.Pi.Coa CM

theorem bef_end {xs ys : List Int} {a b : Nat} (ha : xs.length = a) (hb : ys.length = b) : bef (xs.drop (min a b)) (ys.drop (min a b)) = decide (a < b) := by
  rcases Nat.lt_trichotomy a b with h | h | h
  · rw [Nat.min_eq_left (by omega), drop_all ha, drop_cons (List.getElem?_eq_getElem (show a < ys.length by omega))]
    simp [bef, h]
  · subst h
    rw [Nat.min_self, drop_all ha, drop_all hb]
    simp [bef]
  · rw [Nat.min_eq_right (by omega), drop_all hb, drop_cons (List.getElem?_eq_getElem (show b < xs.length by omega))]
    have : ¬ a < b := by omega
    simp [bef, this]
theorem c40 {H : Heap} {a b : Option Addr} {la lb ka kb : Nat} {xs ys : List Int} (hx : Ints H a la xs) (hy : Ints H b lb ys) (na : la < 1000000) (nb : lb < 1000000) :
    ∀ H', Grow H H' → R (.func 40) [.slice a la ka, .slice b lb kb] H' = some ⟨.ok (.bool (bef xs ys)), H', H'.length⟩ := by
  intro H' hg
  refine run_k (pr 40) P40 (by simp [p40]) rfl ?_
  have l1 := hx.isLoc ka
  have l2 := hy.isLoc kb
  simp (maxDischargeDepth := 8) only [↓SD, SU, SV, SW, simprocAttr, Int.cast_ofNat_Int, small, resV,  B40, R40, N40, b40,  l1, l2]
  refine loop_ind (G := (· = _)) (fun j σ => ∃ T, σ = ⟨T, [], [], H', (H').length, 41, false⟩ ∧ get T 0 = .slice a la ka ∧ get T 1 = .slice b lb kb ∧ get T 5 = .int .i64 (j : Nat) ∧ (bef (xs.drop j) (ys.drop j) = bef xs ys)) (min la lb) ?_ ?_ 0 _ (Nat.zero_le _) ⟨_, rfl, rfl, rfl, rfl, by simp⟩
  · rintro c' j s hj ⟨T, rfl, t0, t1, t5, hp⟩ ih
    have h1 : j < la := by omega
    have h2 : j < lb := by omega
    obtain ⟨b1, off1, x, rfl, hx', f0⟩ := hx.i1 h1
    obtain ⟨b2, off2, y, rfl, hy', g0⟩ := hy.i1 h2
    have hw1 := wrap_succ j (by omega)
    rw [drop_cons hx', drop_cons hy', bef] at hp
    by_cases e : x = y
    · subst e
      rw [if_pos rfl] at hp
      simp (maxDischargeDepth := 8) only [↓SD, SU, SV, SW, simprocAttr, Int.cast_ofNat_Int, small, resV,  q40x0, t0, t1, t5,  lt_nat, h1, h2, l1, l2, hg, f0, g0, hw1]
      exact ih _ ⟨_, rfl, (by first | (simp [get_set, t0]; done) | (simp [get_set, t0]; omega)), (by first | (simp [get_set, t1]; done) | (simp [get_set, t1]; omega)), (by first | (simp [get_set, t5]; done) | (simp [get_set, t5]; omega)), hp⟩
    · rw [if_neg e] at hp
      simp (maxDischargeDepth := 8) only [↓SD, SU, SV, SW, simprocAttr, Int.cast_ofNat_Int, small, resV,  q40x0, t0, t1, t5,  lt_nat, h1, h2, l1, l2, hg, f0, g0, e, R40, N40, ← hp]
  · rintro c' s ⟨T, rfl, t0, t1, t5, hp⟩
    rw [bef_end hx.len hy.len] at hp
    by_cases h1 : la ≤ lb
    · rw [Nat.min_eq_left h1] at t5
      simp (maxDischargeDepth := 8) only [↓SD, SU, SV, SW, simprocAttr, Int.cast_ofNat_Int, small, resV,  q40x0, t0, t1, t5,  lt_nat, Nat.lt_irrefl, l1, l2, R40, N40, ← hp]
    · rw [Nat.min_eq_right (by omega)] at t5
      have h2 : lb < la := by omega
      simp (maxDischargeDepth := 8) only [↓SD, SU, SV, SW, simprocAttr, Int.cast_ofNat_Int, small, resV,  q40x0, t0, t1, t5,  lt_nat, Nat.lt_irrefl, h2, l1, l2, R40, N40, ← hp]
end Go.Pi.L.Coa
namespace CM

def raise : List (Int × Int) → Int → List Int × Int
  | [], m => ([], m)
  | d :: ds, m => ((d.1 + min (raise ds m).2 (d.2 - d.1)) :: (raise ds m).1, (raise ds m).2 - min (raise ds m).2 (d.2 - d.1))
theorem raise_len : ∀ (ds : List (Int × Int)) (m : Int), (raise ds m).1.length = ds.length
  | [], _ => rfl
  | d :: ds, m => by simp [raise, raise_len ds m]
theorem raise_sum : ∀ (ds : List (Int × Int)) (m : Int), sm (raise ds m).1 + (raise ds m).2 = sm (ds.map (·.1)) + m
  | [], m => by simp [raise, sm]
  | d :: ds, m => by have := raise_sum ds m; simp only [raise, sm, List.map_cons]; omega
theorem raise_ok : ∀ {ds : List (Int × Int)} {m : Int}, (∀ x ∈ ds, x.1 ≤ x.2) → 0 ≤ m → 0 ≤ (raise ds m).2 ∧ (raise ds m).2 ≤ m ∧ spans ds (raise ds m).1 = true ∧ (0 < (raise ds m).2 → (raise ds m).1 = ds.map (·.2))
  | [], m, _, hm => ⟨hm, Int.le_refl _, rfl, fun _ => rfl⟩
  | d :: ds, m, hd, hm => by
    obtain ⟨h1, h2, h3, h4⟩ := raise_ok (ds := ds) (m := m) (fun x hx => hd x (List.mem_cons_of_mem _ hx)) hm
    have h5 := hd d (List.mem_cons_self ..)
    simp only [raise, spans, Bool.and_eq_true, inL_iff, List.map_cons, List.cons.injEq]
    refine ⟨by omega, by omega, ⟨by omega, h3⟩, fun h => ⟨by omega, h4 (by omega)⟩⟩
theorem spans_sum : ∀ {ds : List (Int × Int)} {w : List Int}, spans ds w = true → sm (ds.map (·.1)) ≤ sm w ∧ sm w ≤ sm (ds.map (·.2))
  | ds, w, h => ⟨le_sm (spans_le h).1, le_sm (spans_le h).2⟩
theorem raise_min : ∀ {ds : List (Int × Int)} {m : Int} {w : List Int}, (∀ x ∈ ds, x.1 ≤ x.2) → 0 ≤ m → spans ds w = true → sm (raise ds m).1 ≤ sm w → bef w (raise ds m).1 = false
  | [], m, [], _, _, _, _ => rfl
  | [], m, _ :: _, _, _, h, _ => by simp [spans] at h
  | _ :: _, m, [], _, _, h, _ => by simp [spans] at h
  | d :: ds, m, x :: w, hd, hm, h, hs => by
    have hd' : ∀ x ∈ ds, x.1 ≤ x.2 := fun x hx => hd x (List.mem_cons_of_mem _ hx)
    obtain ⟨h1, h2, h3, h4⟩ := raise_ok (ds := ds) (m := m) hd' hm
    simp only [spans, Bool.and_eq_true, inL_iff] at h
    simp only [raise, sm] at hs
    simp only [raise, bef]
    split
    · rename_i e
      exact raise_min hd' hm h.2 (by omega)
    · rename_i e
      rw [decide_eq_false_iff_not]
      intro hlt
      have := h4 (by omega)
      have h6 := (spans_sum h.2).2
      rw [← this] at h6
      omega

theorem bef_app : ∀ {a a' b b' : List Int}, le a' a → bef b b' = false → bef (a ++ b) (a' ++ b') = false
  | [], [], b, b', _, h => h
  | x :: a, y :: a', b, b', h, hb => by
    simp only [List.cons_append, bef]
    split
    · exact bef_app h.2 hb
    · rw [decide_eq_false_iff_not]; have := h.1; omega
  | [], _ :: _, _, _, h, _ => h.elim
  | _ :: _, [], _, _, h, _ => h.elim
theorem bef_le {a a' : List Int} (h : le a' a) : bef a a' = false := by
  have := bef_app (b := []) (b' := []) h rfl
  simpa using this
theorem bef_end' : ∀ {b b' c c' : List Int}, b.length = b'.length → bef b b' = false → le c' c → bef (b ++ c) (b' ++ c') = false
  | [], [], c, c', _, _, h => bef_le h
  | x :: b, y :: b', c, c', hl, hb, h => by
    simp only [bef] at hb
    simp only [List.cons_append, bef]
    split
    · rename_i e; rw [if_pos e] at hb; exact bef_end' (by simpa using hl) hb h
    · rename_i e; rw [if_neg e] at hb; exact hb
  | [], _ :: _, _, _, hl, _, _ => by simp at hl
  | _ :: _, [], _, _, hl, _, _ => by simp at hl
theorem bef_trans : ∀ {a b c : List Int}, bef a b = true → bef b c = true → bef a c = true
  | [], _ :: _, _ :: _, _, _ => rfl
  | [], [], _, h, _ => by cases h
  | _ :: _, [], _, h, _ => by cases h
  | _, _ :: _, [], _, h => by cases h
  | x :: a, y :: b, z :: c, h1, h2 => by
    simp only [bef] at h1 h2 ⊢
    by_cases e1 : x = y
    · subst e1
      rw [if_pos rfl] at h1
      by_cases e2 : x = z
      · subst e2; rw [if_pos rfl] at h2 ⊢; exact bef_trans h1 h2
      · rw [if_neg e2] at h2 ⊢; exact h2
    · rw [if_neg e1] at h1
      by_cases e2 : y = z
      · subst e2; rw [if_neg e1]; exact h1
      · rw [if_neg e2] at h2
        simp only [decide_eq_true_eq] at h1 h2
        rw [if_neg (by omega)]; simp; omega

theorem holds_false {s : Sheet} {w : List Int} : ∀ {cs : List (Int × Int)} {l : List Int}, holds s w cs l = false ↔ ∃ (i : Nat) (c : Int × Int) (d : Int), cs[i]? = some c ∧ l[i]? = some d ∧
    (seg w d (til s (l.drop (i + 1))) < c.1 ∨ (i + 1 < l.length ∧ c.2 < seg w d (til s (l.drop (i + 1)))))
  | [], l => by cases l <;> simp [holds]
  | _ :: _, [] => by simp [holds]
  | c :: cs, d :: l => by
    have ih := holds_false (s := s) (w := w) (cs := cs) (l := l)
    have hl : (l ≠ []) = (0 < l.length) := by rw [List.length_pos_iff]
    simp only [holds]
    by_cases h : seg w d (til s l) < c.1 ∨ (l ≠ [] ∧ c.2 < seg w d (til s l))
    · rw [if_pos h]
      refine ⟨fun _ => ⟨0, c, d, rfl, rfl, ?_⟩, fun _ => rfl⟩
      rcases h with h | h
      · exact .inl h
      · rw [hl] at h; exact .inr ⟨by simp; omega, h.2⟩
    · rw [if_neg h, ih]
      constructor
      · rintro ⟨i, c', d', h1, h2, h3⟩
        exact ⟨i + 1, c', d', h1, h2, h3.imp id (fun h => ⟨by simp; omega, h.2⟩)⟩
      · rintro ⟨i, c', d', h1, h2, h3⟩
        cases i with
        | zero =>
          simp at h1 h2; subst h1; subst h2
          refine absurd ?_ h
          rcases h3 with h3 | h3
          · exact .inl h3
          · exact .inr ⟨by rw [hl]; have := h3.1; simp at this; omega, h3.2⟩
        | succ i => exact ⟨i, c', d', h1, h2, h3.imp id (fun h => ⟨by have := h.1; simp at this; omega, h.2⟩)⟩

def raised (s : Sheet) (d t : Nat) (m : Int) : List Int := (lows s).take d ++ (raise ((s.dry.drop d).take (t - d)) m).1 ++ (lows s).drop t
theorem cut3 {β : Type} (w : List β) {d t : Nat} (h : d ≤ t) : w = w.take d ++ (w.drop d).take (t - d) ++ w.drop t := by
  have : w.take t = w.take d ++ (w.drop d).take (t - d) := by rw [← List.take_add, show d + (t - d) = t by omega]
  rw [← this, List.take_append_drop]
theorem spans_app : ∀ {a b : List (Int × Int)} {x y : List Int}, spans a x = true → spans b y = true → spans (a ++ b) (x ++ y) = true
  | [], _, [], _, _, h => h
  | d :: a, _, x :: xs, _, h1, h2 => by
    simp only [spans, Bool.and_eq_true, List.cons_append] at h1 ⊢
    exact ⟨h1.1, spans_app h1.2 h2⟩
  | [], _, _ :: _, _, h, _ => by simp [spans] at h
  | _ :: _, _, [], _, h, _ => by simp [spans] at h
theorem spans_drop : ∀ (n : Nat) {a : List (Int × Int)} {x : List Int}, spans a x = true → spans (a.drop n) (x.drop n) = true
  | 0, _, _, h => h
  | n + 1, [], [], h => by simp [spans]
  | n + 1, d :: a, x :: xs, h => by simp only [spans, Bool.and_eq_true] at h; exact spans_drop n h.2
  | _ + 1, [], _ :: _, h => by simp [spans] at h
  | _ + 1, _ :: _, [], h => by simp [spans] at h
theorem spans_take : ∀ (n : Nat) {a : List (Int × Int)} {x : List Int}, spans a x = true → spans (a.take n) (x.take n) = true
  | 0, _, _, h => by simp [spans]
  | n + 1, [], [], h => by simp [spans]
  | n + 1, d :: a, x :: xs, h => by simp only [spans, Bool.and_eq_true, List.take_succ_cons] at h ⊢; exact ⟨h.1, spans_take n h.2⟩
  | _ + 1, [], _ :: _, h => by simp [spans] at h
  | _ + 1, _ :: _, [], h => by simp [spans] at h
theorem mid3 {β : Type} {a b c : List β} {d t : Nat} (ha : a.length = d) (hb : b.length = t - d) : ((a ++ b ++ c).drop d).take (t - d) = b := by
  rw [List.append_assoc, List.drop_append, List.drop_eq_nil_of_le (by omega), List.nil_append, ha, Nat.sub_self, List.drop_zero, List.take_append_of_le_length (by omega), List.take_of_length_le (by omega)]
theorem seg_lows {s : Sheet} (d t : Nat) : seg (lows s) d t = sm (((s.dry.drop d).take (t - d)).map (·.1)) := by rw [seg_nat]; simp [lows, List.map_take, List.map_drop]
theorem seg_highs {s : Sheet} (d t : Nat) : seg (highs s) d t = sm (((s.dry.drop d).take (t - d)).map (·.2)) := by rw [seg_nat]; simp [highs, List.map_take, List.map_drop]
structure Raised (s : Sheet) (d t : Nat) (p : Int) (l : List Int) : Prop where
  is : isWeather s l = true
  sum : seg l d t = p + 1
  min : ∀ w, isWeather s w = true → p < seg w d t → bef w l = false
theorem raised_ok {s : Sheet} (hS : ShFine s) {d t : Nat} {p : Int} (hdt : d ≤ t) (ht : t ≤ s.dry.length) (h1 : seg (lows s) d t ≤ p) (h2 : p < seg (highs s) d t) : Raised s d t p (raised s d t (p + 1 - seg (lows s) d t)) := by
  have hx : ∀ x ∈ (s.dry.drop d).take (t - d), x.1 ≤ x.2 := fun x hx => (hS.dry x (List.mem_of_mem_drop (List.mem_of_mem_take hx))).2.1
  obtain ⟨r1, r2, r3, r4⟩ := raise_ok (m := p + 1 - seg (lows s) d t) hx (by omega)
  have rs := raise_sum ((s.dry.drop d).take (t - d)) (p + 1 - seg (lows s) d t)
  rw [← seg_lows] at rs
  have rl := raise_len ((s.dry.drop d).take (t - d)) (p + 1 - seg (lows s) d t)
  have rl2 : (raise ((s.dry.drop d).take (t - d)) (p + 1 - seg (lows s) d t)).1.length = t - d := by rw [rl]; simp; omega
  have hl0 : (lows s).length = s.dry.length := by simp [lows]
  have hla : ((lows s).take d).length = d := by rw [List.length_take]; omega
  have h0 : (raise ((s.dry.drop d).take (t - d)) (p + 1 - seg (lows s) d t)).2 = 0 := by
    rcases Int.lt_or_eq_of_le r1 with h | h
    · have := r4 h
      rw [this, ← seg_highs] at rs
      omega
    · exact h.symm
  have lw := lows_weather hS
  refine ⟨?_, ?_, fun w hw hp => ?_⟩
  · unfold isWeather raised at *
    have e := cut3 s.dry hdt
    have h := spans_app (spans_app (spans_take d lw) r3) (spans_drop t lw)
    rw [← e] at h
    exact h
  · rw [seg_nat]
    unfold raised
    rw [mid3 hla rl2]
    omega
  · unfold isWeather at hw
    have e := cut3 w hdt
    rw [e]
    have hwl := (weather_bound hS hw).1
    have hle := (weather_le hw).1
    unfold raised
    rw [seg_nat] at hp
    refine bef_end' ?_ (bef_app (le_take d hle) (raise_min hx (by omega) (spans_take _ (spans_drop d hw)) (by omega))) (le_drop t hle)
    simp only [List.length_append, List.length_take, List.length_drop, rl]; omega
end CM
namespace CM
theorem least_lows {s : Sheet} (hS : ShFine s) {plan : List Int} (h : holds s (lows s) s.coats plan = false) : Least s plan (lows s) :=
  ⟨lows_weather hS, h, fun _ hw _ => bef_le (weather_le hw).1⟩
structure PSome (s : Sheet) (plan : List Int) (j : Nat) (x : List Int) : Prop where
  is : isWeather s x = true
  bad : holds s x s.coats plan = false
  min : ∀ (i : Nat) c d, i < j → s.coats[i]? = some c → plan[i]? = some d → i + 1 < plan.length → ∀ w, isWeather s w = true → c.2 < seg w d (til s (plan.drop (i + 1))) → bef w x = false
def PNone (s : Sheet) (plan : List Int) (j : Nat) : Prop :=
  ∀ (i : Nat) c d, i < j → s.coats[i]? = some c → plan[i]? = some d → i + 1 < plan.length → ¬ c.2 < seg (highs s) d (til s (plan.drop (i + 1)))
theorem PNone.zero (s : Sheet) (plan : List Int) : PNone s plan 0 := fun i _ _ h => by omega
theorem PNone.no {s : Sheet} {plan : List Int} {j : Nat} (h : PNone s plan j) {c : Int × Int} {d : Int} (hc : s.coats[j]? = some c) (hd : plan[j]? = some d) (hn : j + 1 < plan.length → ¬ c.2 < seg (highs s) d (til s (plan.drop (j + 1)))) : PNone s plan (j + 1) :=
  fun i c' d' hi h1 h2 h3 => by
    by_cases e : i = j
    · subst e; rw [hc] at h1; rw [hd] at h2; cases h1; cases h2; exact hn h3
    · exact h i c' d' (by omega) h1 h2 h3
theorem PSome.no {s : Sheet} {plan x : List Int} {j : Nat} (h : PSome s plan j x) {c : Int × Int} {d : Int} (hc : s.coats[j]? = some c) (hd : plan[j]? = some d) (hn : j + 1 < plan.length → ¬ c.2 < seg (highs s) d (til s (plan.drop (j + 1)))) : PSome s plan (j + 1) x :=
  ⟨h.is, h.bad, fun i c' d' hi h1 h2 h3 w hw hp => by
    by_cases e : i = j
    · subst e; rw [hc] at h1; rw [hd] at h2; cases h1; cases h2
      have := seg_le (weather_le hw).2 d (til s (plan.drop (i + 1)))
      exact absurd (by omega) (hn h3)
    · exact h.min i c' d' (by omega) h1 h2 h3 w hw hp⟩
theorem bad_of {s : Sheet} {plan w : List Int} {j : Nat} {c : Int × Int} {d : Int} (hc : s.coats[j]? = some c) (hd : plan[j]? = some d) (hj : j + 1 < plan.length) (h : c.2 < seg w d (til s (plan.drop (j + 1)))) : holds s w s.coats plan = false :=
  holds_false.2 ⟨j, c, d, hc, hd, .inr ⟨hj, h⟩⟩
theorem PNone.yes {s : Sheet} {plan l : List Int} {j : Nat} (h : PNone s plan j) {c : Int × Int} {d t : Nat} (hc : s.coats[j]? = some c) (hd : plan[j]? = some (d : Int)) (hj : j + 1 < plan.length) (ht : til s (plan.drop (j + 1)) = (t : Int)) (hl : Raised s d t c.2 l) : PSome s plan (j + 1) l :=
  ⟨hl.is, bad_of hc hd hj (by rw [ht, hl.sum]; omega), fun i c' d' hi h1 h2 h3 w hw hp => by
    by_cases e : i = j
    · subst e; rw [hc] at h1; rw [hd] at h2; cases h1; cases h2
      rw [ht] at hp
      exact hl.min w hw hp
    · have := seg_le (weather_le hw).2 d' (til s (plan.drop (i + 1)))
      exact absurd (by omega) (h i c' d' (by omega) h1 h2 h3)⟩
theorem PSome.lt {s : Sheet} {plan x l : List Int} {j : Nat} (h : PSome s plan j x) {c : Int × Int} {d t : Nat} (hc : s.coats[j]? = some c) (hd : plan[j]? = some (d : Int)) (hj : j + 1 < plan.length) (ht : til s (plan.drop (j + 1)) = (t : Int)) (hl : Raised s d t c.2 l) (hb : bef l x = true) : PSome s plan (j + 1) l :=
  ⟨hl.is, bad_of hc hd hj (by rw [ht, hl.sum]; omega), fun i c' d' hi h1 h2 h3 w hw hp => by
    by_cases e : i = j
    · subst e; rw [hc] at h1; rw [hd] at h2; cases h1; cases h2
      rw [ht] at hp
      exact hl.min w hw hp
    · have h4 := h.min i c' d' (by omega) h1 h2 h3 w hw hp
      cases h5 : bef w l with
      | false => rfl
      | true => rw [bef_trans h5 hb] at h4; cases h4⟩
theorem PSome.ge {s : Sheet} (hS : ShFine s) {plan x l : List Int} {j : Nat} (h : PSome s plan j x) {c : Int × Int} {d t : Nat} (hc : s.coats[j]? = some c) (hd : plan[j]? = some (d : Int)) (hj : j + 1 < plan.length) (ht : til s (plan.drop (j + 1)) = (t : Int)) (hl : Raised s d t c.2 l) (hb : bef l x = false) : PSome s plan (j + 1) x :=
  ⟨h.is, h.bad, fun i c' d' hi h1 h2 h3 w hw hp => by
    by_cases e : i = j
    · subst e; rw [hc] at h1; rw [hd] at h2; cases h1; cases h2
      rw [ht] at hp
      have h4 := hl.min w hw hp
      cases h5 : bef w x with
      | false => rfl
      | true =>
        have hlen : l.length = x.length := (weather_bound hS hl.is).1.trans (weather_bound hS h.is).1.symm
        cases h6 : bef x l with
        | true => rw [bef_trans h5 h6] at h4; cases h4
        | false =>
          have := bef_tot hlen hb h6
          subst this
          rw [h4] at h5; cases h5
    · exact h.min i c' d' (by omega) h1 h2 h3 w hw hp⟩
theorem PNone.done {s : Sheet} {plan : List Int} {j : Nat} (h : PNone s plan j) (hj : plan.length ≤ j) (h0 : holds s (lows s) s.coats plan = true) : surely s plan = true := by
  unfold surely
  cases hf : fails s 0 s.coats plan with
  | none => rfl
  | some y =>
    obtain ⟨n, w⟩ := y
    obtain ⟨m, c, d, hn, hc, hd, hw, _⟩ := (fails_spec s.coats 0 plan).2 n w hf
    have hm := (List.getElem?_eq_some_iff.1 hd).1
    rcases hw with ⟨_, hw⟩ | ⟨_, _, h1, h2⟩
    · rw [holds_false.2 ⟨m, c, d, hc, hd, .inl hw⟩] at h0; cases h0
    · exact absurd h2 (h m c d (by omega) hc hd h1)
theorem PSome.done {s : Sheet} {plan x : List Int} {j : Nat} (h : PSome s plan j x) (hj : plan.length ≤ j) (h0 : holds s (lows s) s.coats plan = true) : Least s plan x :=
  ⟨h.is, h.bad, fun w hw hb => by
    obtain ⟨i, c, d, hc, hd, hp⟩ := holds_false.1 hb
    have hi := (List.getElem?_eq_some_iff.1 hd).1
    rcases hp with hp | hp
    · have := seg_le (weather_le hw).1 d (til s (plan.drop (i + 1)))
      rw [holds_false.2 ⟨i, c, d, hc, hd, .inl (by omega)⟩] at h0; cases h0
    · exact h.min i c d (by omega) hc hd hp.1 w hw hp.2⟩
theorem raise_app : ∀ (a b : List (Int × Int)) (m : Int), raise (a ++ b) m = ((raise a (raise b m).2).1 ++ (raise b m).1, (raise a (raise b m).2).2)
  | [], b, m => rfl
  | x :: a, b, m => by simp only [List.cons_append, raise, raise_app a b m]
theorem raise_zero : ∀ {ds : List (Int × Int)}, (∀ x ∈ ds, x.1 ≤ x.2) → raise ds 0 = (ds.map (·.1), 0)
  | [], _ => rfl
  | d :: ds, h => by
    have h1 := h d (List.mem_cons_self ..)
    simp only [raise, raise_zero fun x hx => h x (List.mem_cons_of_mem _ hx), List.map_cons]
    rw [show min (0 : Int) (d.2 - d.1) = 0 by omega]; simp
end CM
namespace CM
def rz (s : Sheet) (t j : Nat) (m : Int) : List Int × Int := raise ((s.dry.drop (t - j)).take j) m
def cur (s : Sheet) (t j : Nat) (m : Int) : List Int := (lows s).take (t - j) ++ ((rz s t j m).1 ++ (lows s).drop t)
theorem lows_at {s : Sheet} {j : Nat} {x : Int × Int} (h : s.dry[j]? = some x) : (lows s)[j]? = some x.1 := by simp [lows, h]
theorem rz_len {s : Sheet} {t j : Nat} (m : Int) (hj : j ≤ t) (ht : t ≤ s.dry.length) : (rz s t j m).1.length = j := by
  unfold rz; rw [raise_len]; simp; omega
theorem cur_len {s : Sheet} {t j : Nat} (m : Int) (hj : j ≤ t) (ht : t ≤ s.dry.length) : (cur s t j m).length = s.dry.length := by
  have := rz_len m hj ht
  have hl : (lows s).length = s.dry.length := by simp [lows]
  unfold cur; simp only [List.length_append, List.length_take, List.length_drop]; omega
theorem cur_zero (s : Sheet) (t : Nat) (m : Int) : cur s t 0 m = lows s ∧ (rz s t 0 m).2 = m := by
  refine ⟨?_, by simp [rz, raise]⟩
  unfold cur rz; simp [raise]
theorem cur_step {s : Sheet} {t j e : Nat} {m : Int} {x : Int × Int} (he : e + j + 1 = t) (hx : s.dry[e]? = some x) :
    (cur s t j m)[e]? = some x.1 ∧ (rz s t (j + 1) m).2 = (rz s t j m).2 - min (rz s t j m).2 (x.2 - x.1) ∧ cur s t (j + 1) m = (cur s t j m).set e (x.1 + min (rz s t j m).2 (x.2 - x.1)) := by
  have h1 : t - (j + 1) = e := by omega
  have h2 : t - j = e + 1 := by omega
  have hlt := (List.getElem?_eq_some_iff.1 hx).1
  have hl : (lows s).length = s.dry.length := by simp [lows]
  have h3 : rz s t (j + 1) m = ((x.1 + min (rz s t j m).2 (x.2 - x.1)) :: (rz s t j m).1, (rz s t j m).2 - min (rz s t j m).2 (x.2 - x.1)) := by
    unfold rz
    rw [h1, h2, drop_cons hx, List.take_succ_cons, raise]
  have h4 : (lows s).take (e + 1) = (lows s).take e ++ [x.1] := take_snoc (lows_at hx)
  refine ⟨?_, by rw [h3], ?_⟩
  · unfold cur
    rw [h2, h4, List.append_assoc, List.getElem?_append_right (by simp; omega)]
    simp; rw [show e - min e (lows s).length = 0 by omega]; rfl
  · unfold cur
    rw [h1, h2, h3, h4, List.append_assoc, List.set_append_right _ _ (by simp; omega)]
    rw [List.length_take, Nat.min_eq_left (by omega), Nat.sub_self]
    rfl
theorem cur_end {s : Sheet} {d t j : Nat} {m : Int} (hx : ∀ x ∈ s.dry, x.1 ≤ x.2) (hj : d + j ≤ t) (ht : t ≤ s.dry.length) (h : d + j = t ∨ (rz s t j m).2 = 0) : cur s t j m = raised s d t m := by
  rcases h with h | h
  · unfold cur raised rz
    rw [show t - j = d by omega, show t - d = j by omega, List.append_assoc]
  · have e1 : (s.dry.drop d).take (t - d) = (s.dry.drop d).take (t - j - d) ++ (s.dry.drop (t - j)).take j := by
      rw [show t - d = (t - j - d) + j by omega, List.take_add, List.drop_drop, show d + (t - j - d) = t - j by omega]
    unfold raised
    rw [e1, raise_app]
    unfold rz at h
    rw [h, raise_zero (fun x hx' => hx x (List.mem_of_mem_drop (List.mem_of_mem_take hx')))]
    unfold cur rz
    have e2 : (lows s).take (t - j) = (lows s).take d ++ ((s.dry.drop d).take (t - j - d)).map (·.1) := by
      rw [List.map_take, List.map_drop]
      have : t - j = d + (t - j - d) := by omega
      conv => lhs; rw [this, List.take_add]
      rfl
    rw [e2]
    simp only [List.append_assoc]
end CM
set_option maxRecDepth 100000
namespace Go.Pi.L
open Go Go.Pi
def QB {β : Type} (H : Heap) (k : Nat) (enc : β → List Value) (xs : List β) (o : Out) : Prop :=
  ∃ a m H1 lo, o = ⟨.ok (.slice a xs.length m), H1, lo⟩ ∧ Up H H1 ∧ H.length ≤ lo ∧ Bld H.length H1 k a xs.length m (cells enc xs)
theorem gc_bl {β : Type} {H H1 : Heap} {k m lo : Nat} {enc : β → List Value} {a : Option Addr} {l : Nat} {xs : List β} (hs : Bld H.length H1 k a l m (cells enc xs)) (hx : xs.length = l) (hu : Up H H1) (h : H.length ≤ lo) : QB H k enc xs (gcR H (.ok (.slice a l m)) H1 lo) := by
  subst hx
  rw [gc_ite h]
  split
  · rename_i hf
    obtain ⟨rfl, h1, rfl⟩ := flat_sl hf
    have : xs = [] := List.eq_nil_of_length_eq_zero h1
    subst this
    exact ⟨none, 0, H, H.length, rfl, Up.refl H, Nat.le_refl _, Bld.nil _ _ _⟩
  · exact ⟨a, m, H1, lo, rfl, hu, h, hs⟩
end Go.Pi.L
namespace Go.Pi.L.Coa
open Go Go.Pi Go.Pi.L Go.Pi.Coa CM

theorem c38b {H : Heap} {r : ShR} {s : Sheet} (hs : ShOk H r s) (hd : Small r) : ∀ H', Grow H H' → Yes (R (.func 38) [.agg #[.slice r.da r.dl r.dk, .slice r.wa r.wl r.wk, .slice r.ca r.cl r.ck]] H') (QB H' 1 encI (lows s)) := by
  intro H' hg
  refine run_y (pr 38) P38 (by simp [p38]) rfl ?_
  obtain ⟨da, dl, dk, wa, wl, wk, ca, cl, ck⟩ := r
  have hD : Spans H da dl s.dry := hs.d
  have hW : Ints H wa wl s.work := hs.w
  have hC : Spans H ca cl s.coats := hs.c
  have nD : dl < 1000000 := hd.d
  have nW : wl < 1000000 := hd.w
  have nC : cl < 1000000 := hd.c
  have l1 := hD.isLoc dk
  have l2 := hW.isLoc wk
  have l3 := hC.isLoc ck
  simp (maxDischargeDepth := 8) only [↓SD, SU, SV, SW, simprocAttr, Int.cast_ofNat_Int, small, resV,  B38, R38, N38, b38,  l1, l2, l3]
  refine loop_ind (G := (Yes · (QB H' 1 encI (lows s)))) (fun j σ => ∃ T S H1 a m lim, σ = ⟨T, S, [], H1, lim, 22, false⟩ ∧ get T 1 = .pointer (some ⟨1, 0, some 1⟩) ∧ get T 3 = .slice a j m ∧ get T 4 = .int .i64 (j : Nat) ∧ sget S 1 = (1, .cells [.slice da dl dk, .slice wa wl wk, .slice ca cl ck]) ∧ (Bld H'.length H1 1 a j m (cells encI ((lows s).take j)) ∧ Up H' H1 ∧ H'.length ≤ lim)) (dl) ?_ ?_ 0 _ (Nat.zero_le _) ⟨_, _, _, _, _, _, rfl, rfl, rfl, rfl, rfl, ⟨Bld.nil _ _ _, Up.refl _, Nat.le_refl _⟩⟩
  · rintro c' j s hj ⟨T, S, H1, a, m, lim, rfl, t1, t3, t4, s0, hp⟩ ih
    obtain ⟨g1, hu, hlim⟩ := hp
    obtain ⟨b, off, x, rfl, hx', e0, f1, f2⟩ := hD.s2 hj
    have hw1 := wrap_succ j (by omega)
    have hg1 := hg.trans hu.grow
    obtain ⟨H2, q1, q2, q3, q4⟩ := g1.app (by decide) (by decide) (by omega) hu.len [.int .i64 x.1] rfl
    have u2 := q3.up g1 hu (Nat.le_refl _)
    have l4 := g1.isLoc j m
    simp (maxDischargeDepth := 8) only [↓SD, SU, SV, SW, simprocAttr, Int.cast_ofNat_Int, small, resV,  q38x0, t1, t3, t4, s0,  lt_nat, hj, l1, l2, l3, l4, f1, hg1, hw1, q1]
    exact ih _ ⟨_, _, (H2), (some ⟨H1.length, 0, none⟩), (1), (_), rfl, (by first | (simp [get_set, t1]; done) | (simp [get_set, t1]; omega)), (by first | (simp [get_set, t3]; done) | (simp [get_set, t3]; omega)), (by first | (simp [get_set, t4]; done) | (simp [get_set, t4]; omega)), by simp [sget_sset, s0], ⟨by rw [List.take_succ_eq_append_getElem (by rw [lows_len, hD.len]; exact hj), cells_app]; have := lows_get hx'; rw [List.getElem?_eq_some_iff] at this; rw [this.2]; exact q2, u2, by omega⟩⟩
  · rintro c' s ⟨T, S, H1, a, m, lim, rfl, t1, t3, t4, s0, hp⟩
    obtain ⟨g1, hu, hlim⟩ := hp
    rw [List.take_of_length_le (by rw [lows_len, hD.len]; exact Nat.le_refl _)] at g1
    have l4 := g1.isLoc dl m
    simp (maxDischargeDepth := 8) only [↓SD, SU, SV, SW, simprocAttr, Int.cast_ofNat_Int, small, resV,  q38x0, t1, t3, t4, s0,  lt_nat, Nat.lt_irrefl, l1, l2, l3, l4, R38, N38]
    rw [yes_some]
    exact gc_bl g1 (by rw [lows_len, hD.len]) hu hlim
theorem c88 {H : Heap} {r : ShR} {s : Sheet} (hs : ShOk H r s) (hd : Small r) (hS : ShFine s) {pa : Option Addr} {pl pk : Nat} {plan : List Int} (hq : Ints H pa pl plan) (hpl2 : pl < 1000) (hpd : pl = plan.length)
    {i d t : Nat} {c : Int × Int} (hi : plan[i]? = some (d : Int)) (hc : s.coats[i]? = some c) (ht : (plan[i + 1]?).getD (r.dl : Int) = (t : Int)) (hdt : d ≤ t) (htw : t ≤ s.dry.length) (hlow : i + 1 < pl → seg (lows s) d t ≤ c.2) :
    ∀ H', Grow H H' → Fam H' → Yes (R (.func 88) [.agg #[.slice r.da r.dl r.dk, .slice r.wa r.wl r.wk, .slice r.ca r.cl r.ck], .slice pa pl pk, .int .i64 i] H') (fun o =>
      if i + 1 < pl ∧ c.2 < seg (highs s) d t then QP H' 1 encI (CM.raised s d t (c.2 + 1 - seg (lows s) d t)) (.bool true) o else o = ⟨.ok (.tuple #[.slice none 0 0, .bool false]), H', H'.length⟩) := by
  intro H' hg hF
  refine run_y (pr 88) P88 (by simp [p88]) rfl ?_
  have hdl : r.dl = s.dry.length := hs.d.len.symm
  have hdl2 : r.dl < 1000 := by have := hS.d2; omega
  have hi2 : i < pl := by rw [hpd]; exact (List.getElem?_eq_some_iff.1 hi).1
  have hd12 := hS.d2
  obtain ⟨o1, ho1, a1, m1, H1, lo1, rfl, u1, hlo1, z1⟩ := c38b hs hd H' hg
  have hg1 := hg.trans u1.grow
  have hF1 : Fam H1 := famR ho1 hF
  obtain ⟨o2, ho2, a2, m2, H2, lo2, rfl, u2, hlo2, z2⟩ := c39 hs hd H1 hg1
  have hg2 := hg1.trans u2.grow
  have hF2 : Fam H2 := famR ho2 hF1
  rw [lows_len, ← hdl] at ho1 z1
  rw [highs_len, ← hdl] at ho2 z2
  have k84 := c84 (pk := pk) (wk' := m2) (hs.grow hg2) hd (Sl.grow hq hg2) hpl2 z2 hdl2 (fun y hy => by have := highs_bound hS y hy; omega) hi hc ht (by omega) (by omega) H2 (Grow.refl _)
  have z1s := Sl.grow (z1.sl encI_len (by decide)) u2.grow
  have k37 := c37 (pk := pk) (wk := m1) (Sl.grow hq hg2) hpl2 z1s hdl2 (fun y hy => by have := lows_bound hS y hy; omega) hi ht hdt (by omega) H2 (Grow.refl _)
  have hcc : i < r.cl := by rw [← hs.c.len]; exact (List.getElem?_eq_some_iff.1 hc).1
  obtain ⟨bc, offc, c', hcb, hc', _, f1, f2⟩ := hs.c.s2 hcc
  rw [hc] at hc'; cases hc'
  have hcb2 := hS.coats c (List.mem_of_getElem? hc)
  have tb1 : 0 ≤ seg (lows s) d t ∧ seg (lows s) d t ≤ 288 := by
    rw [← seg_sub _ hdt]
    have b1 := take_bound (lows_bound hS) (j := t) (by omega)
    have b2 := take_bound (lows_bound hS) (j := d) (by omega)
    have b3 := le_sm (le_take (a := lows s) (b := lows s) t (by have := (weather_le (lows_weather hS)).1; exact this))
    have b4 : 0 ≤ seg (lows s) d t := by
      rw [seg_nat]
      exact (sm_bound (m := 24) fun y hy => lows_bound hS y (List.mem_of_mem_drop (List.mem_of_mem_take hy))).1
    rw [← seg_sub _ hdt] at b4
    omega
  have w1 : IntKind.wrap .i64 (c.2 + 1) = c.2 + 1 := wrap_id _ (by omega) (by omega)
  obtain ⟨mm, hmm⟩ : ∃ mm, c.2 + 1 - seg (lows s) d t = mm := ⟨_, rfl⟩
  have w2 : IntKind.wrap .i64 (c.2 + 1 - seg (lows s) d t) = mm := by rw [hmm]; exact wrap_id _ (by omega) (by omega)
  have w3 : IntKind.wrap .i64 ((t : Int) - 1) = (t : Int) - 1 - ((0 : Nat) : Int) := by rw [wrap_id _ (by omega) (by omega)]; omega
  have n1 := u1.len
  have n2 := u2.len
  have n3 : H'.length ≤ lo1 := hlo1
  have n4 : H1.length ≤ lo2 := hlo2
  have n5 : H'.length ≤ lo2 := by omega
  have n6 : H'.length ≤ H1.length := by omega
  have n7 : H'.length ≤ H2.length := by omega
  have ha := add1 i (by omega)
  obtain ⟨da, dl, dk, wa, wl, wk, ca, cl, ck⟩ := r
  have hD : Spans H da dl s.dry := hs.d
  have hW : Ints H wa wl s.work := hs.w
  have hC : Spans H ca cl s.coats := hs.c
  have nD : dl < 1000000 := hd.d
  have nW : wl < 1000000 := hd.w
  have nC : cl < 1000000 := hd.c
  have l1 := hD.isLoc dk
  have l2 := hW.isLoc wk
  have l3 := hC.isLoc ck
  simp only at ho1 ho2 k84 k37 z1 z1s z2 hcc hcb hdl hdl2 f1 f2
  subst hcb
  have l4 := hq.isLoc pk
  have l5 := z1.isLoc dl m1
  have l6 := z2.isLoc m2
  by_cases hcond : i + 1 < pl ∧ c.2 < seg (highs s) d t
  case neg =>
    have z5 : (decide (i + 1 < pl) && decide (c.2 < seg (highs s) d t)) = false := by
      rw [Bool.and_eq_false_iff]
      simp only [decide_eq_false_iff_not]
      exact (Classical.not_and_iff_not_or_not.1 hcond)
    simp (maxDischargeDepth := 8) only [↓SD, SU, SV, SW, simprocAttr, Int.cast_ofNat_Int, small, resV,  B88, R88, N88, b88,  l1, l2, l3, l4, l5, l6, ho1, ho2, k84, z5, n1, n2, n3, n4, n5, n6, n7, R88, N88]
    rw [yes_some, if_neg hcond]
  simp only [if_pos hcond]
  obtain ⟨hc1, hc2⟩ := hcond
  have hm := hlow hc1
  rw [hmm]
  obtain ⟨bx, offx, x, hxb, hx, fx⟩ := hq.i1 hi2
  rw [hi] at hx; cases hx
  obtain ⟨by', offy, y, hyb, hy, fy⟩ := hq.i1 hc1
  rw [hxb] at hyb; cases hyb
  subst hxb
  rw [hy] at ht
  simp only [Option.getD_some] at ht
  subst ht
  have g2 := z1.up u2
  obtain ⟨b1, rfl⟩ : ∃ b1, a1 = some ⟨b1, 0, none⟩ := by
    rcases z1.ok with ⟨_, h, _⟩ | ⟨b, f, h, _⟩
    · have := hS.d1; omega
    · exact ⟨b, h⟩
  have hxs : ∀ x ∈ s.dry, x.1 ≤ x.2 := fun x hx => (hS.dry x hx).2.1
  have hmm0 : 0 ≤ mm := by omega
  have rzb : ∀ j, 0 ≤ (rz s t j mm).2 ∧ (rz s t j mm).2 ≤ mm := fun j => by
    have := raise_ok (ds := (s.dry.drop (t - j)).take j) (m := mm) (fun x hx => hxs x (List.mem_of_mem_drop (List.mem_of_mem_take hx))) hmm0
    exact ⟨this.1, this.2.1⟩
  have g2' : Bld H'.length H2 1 (some ⟨b1, 0, none⟩) dl m1 (cells encI (cur s t 0 mm)) := by rw [(cur_zero s t mm).1]; exact g2
  simp (maxDischargeDepth := 8) only [↓SD, SU, SV, SW, simprocAttr, Int.cast_ofNat_Int, small, resV,  B88, R88, N88, b88,  l1, l2, l3, l4, l5, l6, ho1, ho2, k84, hc1, hc2, n1, n2, n3, n4, n5, n6, n7, k37, f2, fx, fy, hg2, lt_nat, hi2, hcc, ha, w1, w2, w3]
  refine loop_ind (G := (Yes · (QP H' 1 encI (CM.raised s d t mm) (.bool true)))) (fun j σ => ∃ T S H3 lim, σ = ⟨T, S, [], H3, lim, 79, false⟩ ∧ get T 1 = .slice (some ⟨bx, offx, none⟩) pl pk ∧ get T 2 = .int .i64 (i : Nat) ∧ get T 3 = .pointer (some ⟨3, 0, some 1⟩) ∧ get T 8 = .slice (some ⟨b1, 0, none⟩) dl m1 ∧ get T 9 = .int .i64 (rz s t j mm).2 ∧ get T 10 = .int .i64 ((t : Int) - 1 - (j : Nat)) ∧ sget S 3 = (1, .cells [.slice da dl dk, .slice wa wl wk, .slice (some ⟨bc, offc, none⟩) cl ck]) ∧ (Bld H'.length H3 1 (some ⟨b1, 0, none⟩) dl m1 (cells encI (cur s t j mm)) ∧ Up H' H3 ∧ Fam H3 ∧ H'.length ≤ lim)) (t - d) ?_ ?_ 0 _ (Nat.zero_le _) ⟨_, _, _, _, rfl, rfl, rfl, rfl, rfl, rfl, rfl, rfl, ⟨g2', u1.trans u2, hF2, by omega⟩⟩
  · rintro c' j s hj ⟨T, S, H3, lim, rfl, t1, t2, t3, t8, t9, t10, s0, hp⟩ ih
    obtain ⟨gL, hu, hF3, hlim⟩ := hp
    obtain ⟨e, he⟩ : ∃ e, e + j + 1 = t := ⟨t - 1 - j, by omega⟩
    have hed : e < s.dry.length := by omega
    have hedl : e < dl := by omega
    obtain ⟨b5, off5, x, hb5, hx5, f50, f51, f52⟩ := hD.s2 hedl
    obtain ⟨k1, k2, k3⟩ := cur_step (m := mm) he hx5
    have hr := rzb j
    have hr2 := rzb (j + 1)
    have xb := hS.dry x (List.mem_of_getElem? hx5)
    have e10 : ((t : Int) - 1 - (j : Nat)) = ((e : Nat) : Int) := by omega
    rw [e10] at t10
    have c1 : d ≤ e := by omega
    have hg3 := hg.trans hu.grow
    have l7 := gL.isLoc dl m1
    generalize hmo : (rz s t j mm).2 = mo at *
    by_cases hz : 0 < mo
    · obtain ⟨n, hn⟩ : ∃ n, min mo (x.2 - x.1) = n := ⟨_, rfl⟩
      rw [hn] at k2 k3
      have hmn : (if x.2 - x.1 < mo then x.2 - x.1 else mo) = n := by rw [← hn]; split <;> omega
      have v1 : IntKind.wrap .i64 (x.2 - x.1) = x.2 - x.1 := wrap_id _ (by omega) (by omega)
      have v2 : IntKind.wrap .i64 (x.1 + n) = x.1 + n := wrap_id _ (by omega) (by omega)
      have v3 : IntKind.wrap .i64 (mo - n) = (rz s t (j + 1) mm).2 := by rw [k2]; exact wrap_id _ (by omega) (by omega)
      have v4 : IntKind.wrap .i64 ((e : Int) - 1) = (t : Int) - 1 - ((j + 1 : Nat) : Int) := by rw [wrap_id _ (by omega) (by omega)]; omega
      have rd1 := Ints.rd (gL.sl encI_len (by decide)) k1 H3 (Grow.refl _)
      obtain ⟨H4, f, hf1, hf2, q1, gL2, hF4, hup, hlen, _⟩ := gL.put hF3 (i := e) (v := .int .i64 (x.1 + n)) hedl rfl (by rfl) rfl
      have hsp : splice (cells encI (cur s t j mm)) (e * 1) (Value.int .i64 (x.1 + n)).cells.toList = cells encI (cur s t (j + 1) mm) := by
        rw [k3]; exact splice_cells (enc := encI) encI_len (x.1 + n) (by rw [cur_len mm (by omega) htw]; exact hed)
      rw [hsp] at gL2
      have hu2 := hup H' hu (Nat.le_refl _)
      have n8 := hu.len
      subst hb5
      simp (maxDischargeDepth := 8) only [↓SD, SU, SV, SW, simprocAttr, Int.cast_ofNat_Int, small, resV,  q88x0, t1, t2, t3, t8, t9, t10, s0,  s0, lt_nat, le_nat, hj, hedl, hi2, l1, l2, l3, l4, l7, fx, hg3, c1, hz, f51, f52, rd1, hmn, v1, v2, v3, v4, q1]
      exact ih _ ⟨_, _, (H4), (_), rfl, (by first | (simp [get_set, t1]; done) | (simp [get_set, t1]; omega)), (by first | (simp [get_set, t2]; done) | (simp [get_set, t2]; omega)), (by first | (simp [get_set, t3]; done) | (simp [get_set, t3]; omega)), (by first | (simp [get_set, t8]; done) | (simp [get_set, t8]; omega)), (by first | (simp [get_set, t9]; done) | (simp [get_set, t9]; omega)), (by first | (simp [get_set, t10]; done) | (simp [get_set, t10]; omega)), by simp [sget_sset, s0], ⟨gL2, hu2, hF4, by omega⟩⟩
    · have hz0 : mo = 0 := by omega
      have fin := cur_end (m := mm) hxs (show d + j ≤ t by omega) htw (.inr (hmo.trans hz0))
      rw [fin] at gL
      simp (maxDischargeDepth := 8) only [↓SD, SU, SV, SW, simprocAttr, Int.cast_ofNat_Int, small, resV,  q88x0, t1, t2, t3, t8, t9, t10, s0,  s0, lt_nat, le_nat, hj, hi2, l1, l2, l3, l4, l7, fx, hg3, c1, hz, R88, N88]
      rw [yes_some]
      exact gc_sp (gL.sl encI_len (by decide)) hu hlim
  · rintro c' s ⟨T, S, H3, lim, rfl, t1, t2, t3, t8, t9, t10, s0, hp⟩
    obtain ⟨gL, hu, hF3, hlim⟩ := hp
    have hg3 := hg.trans hu.grow
    have l7 := gL.isLoc dl m1
    have e10 : ((t : Int) - 1 - ((t - d : Nat) : Int)) = (d : Int) - 1 := by omega
    rw [e10] at t10
    have c1 : ((d : Int) ≤ (d : Int) - 1) = False := by simp; omega
    have fin := cur_end (m := mm) hxs (show d + (t - d) ≤ t by omega) htw (.inl (by omega))
    rw [fin] at gL
    simp (maxDischargeDepth := 8) only [↓SD, SU, SV, SW, simprocAttr, Int.cast_ofNat_Int, small, resV,  q88x0, t1, t2, t3, t8, t9, t10, s0,  s0, lt_nat, le_nat, hi2, l1, l2, l3, l4, l7, fx, hg3, c1, R88, N88]
    rw [yes_some]
    exact gc_sp (gL.sl encI_len (by decide)) hu hlim
def First (s : Sheet) (plan : List Int) (j : Nat) (H : Heap) (a : Option Addr) (l m : Nat) : Prop :=
  (a = none ∧ l = 0 ∧ m = 0 ∧ PNone s plan j) ∨ ∃ b off x, a = some ⟨b, off, none⟩ ∧ Ints H a l x ∧ PSome s plan j x
theorem First.isLoc {s : Sheet} {plan : List Int} {j : Nat} {H : Heap} {a : Option Addr} {l m : Nat} (h : First s plan j H a l m) (x y : Nat) : Go.Pi.isLoc (.slice a x y) = false := by
  rcases h with ⟨rfl, _⟩ | ⟨b, off, x, rfl, _⟩ <;> rfl
theorem First.no {s : Sheet} {plan : List Int} {j : Nat} {H H' : Heap} {a : Option Addr} {l m : Nat} (h : First s plan j H a l m) (g : Grow H H') {c : Int × Int} {d : Int} (hc : s.coats[j]? = some c) (hd : plan[j]? = some d) (hn : j + 1 < plan.length → ¬ c.2 < seg (highs s) d (til s (plan.drop (j + 1)))) : First s plan (j + 1) H' a l m := by
  rcases h with ⟨h1, h2, h3, h⟩ | ⟨b, off, x, rfl, hx, h⟩
  · exact .inl ⟨h1, h2, h3, h.no hc hd hn⟩
  · exact .inr ⟨b, off, x, rfl, Sl.grow hx g, h.no hc hd hn⟩
theorem c34 {H : Heap} {r : ShR} {s : Sheet} (hs : ShOk H r s) (hd : Small r) (hS : ShFine s) {pa : Option Addr} {pl pk : Nat} {plan : List Int} (hq : Ints H pa pl plan) (hP : PlFine s plan) (e3 : surely s plan = false) :
    ∀ H', Grow H H' → Fam H' → Yes (R (.func 34) [.agg #[.slice r.da r.dl r.dk, .slice r.wa r.wl r.wk, .slice r.ca r.cl r.ck], .slice pa pl pk] H') (fun o => ∃ p, Least s plan p ∧ QP H' 1 encI p (.bool true) o) := by
  intro H' hg hF
  refine run_y (pr 34) P34 (by simp [p34]) rfl ?_
  have hdl : r.dl = s.dry.length := hs.d.len.symm
  have hd12 := hS.d2
  have hpl : pl = s.coats.length := by rw [← hq.len]; exact hP.len
  have hpl2 : pl < 1000 := by have := hS.c2; omega
  obtain ⟨o1, ho1, a1, m1, H1, lo1, rfl, u1, hlo1, z1⟩ := c38 hs hd H' hg
  have hg1 := hg.trans u1.grow
  have hF1 : Fam H1 := famR ho1 hF
  rw [lows_len, ← hdl] at ho1 z1
  have k28 := c28 (pk := pk) (wk' := m1) (hs.grow hg1) hd hS (Sl.grow hq hg1) hP z1 hdl (fun y hy => by have := lows_bound hS y hy; omega) H1 (Grow.refl _)
  have n1 := u1.len
  have n2 : H'.length ≤ lo1 := hlo1
  have k88 := fun i d t c h1 h2 h3 h4 h5 h6 => c88 (pk := pk) (i := i) (d := d) (t := t) (c := c) hs hd hS hq hpl2 hq.len.symm h1 h2 h3 h4 h5 h6
  obtain ⟨da, dl, dk, wa, wl, wk, ca, cl, ck⟩ := r
  have hD : Spans H da dl s.dry := hs.d
  have hW : Ints H wa wl s.work := hs.w
  have hC : Spans H ca cl s.coats := hs.c
  have nD : dl < 1000000 := hd.d
  have nW : wl < 1000000 := hd.w
  have nC : cl < 1000000 := hd.c
  have l1 := hD.isLoc dk
  have l2 := hW.isLoc wk
  have l3 := hC.isLoc ck
  simp only at ho1 z1 k28 k88 hdl
  have l4 := hq.isLoc pk
  have l5 := z1.isLoc m1
  cases h0 : holds s (lows s) s.coats plan with
  | false =>
    obtain ⟨o2, ho2, a2, m2, H2, lo2, rfl, u2, hlo2, z2⟩ := c38 hs hd H1 hg1
    rw [lows_len, ← hdl] at ho2 z2
    simp only at ho2
    have l6 := z2.isLoc m2
    have n3 := u2.len
    have n4 : H1.length ≤ lo2 := hlo2
    have n5 : H'.length ≤ lo2 := by omega
    simp (maxDischargeDepth := 8) only [↓SD, SU, SV, SW, simprocAttr, Int.cast_ofNat_Int, small, resV,  B34, R34, N34, b34,  l1, l2, l3, l4, l5, l6, ho1, k28, h0, ho2, n1, n2, n3, n4, n5, R34, N34]
    rw [yes_some]
    exact ⟨lows s, least_lows hS h0, gc_sp z2 (u1.trans u2) (by omega)⟩
  | true =>
    simp (maxDischargeDepth := 8) only [↓SD, SU, SV, SW, simprocAttr, Int.cast_ofNat_Int, small, resV,  B34, R34, N34, b34,  l1, l2, l3, l4, l5, ho1, k28, h0, n1, n2]
    refine loop_ind (G := (Yes · (fun o => ∃ p, Least s plan p ∧ QP H' 1 encI p (.bool true) o))) (fun j σ => ∃ T S H2 a l m lim, σ = ⟨T, S, [], H2, lim, 45, false⟩ ∧ get T 1 = .slice pa pl pk ∧ get T 2 = .pointer (some ⟨2, 0, some 1⟩) ∧ get T 6 = .slice a l m ∧ get T 7 = .int .i64 (j : Nat) ∧ sget S 2 = (1, .cells [.slice da dl dk, .slice wa wl wk, .slice ca cl ck]) ∧ (First s plan j H2 a l m ∧ Up H' H2 ∧ Fam H2 ∧ H'.length ≤ lim)) (pl) ?_ ?_ 0 _ (Nat.zero_le _) ⟨_, _, _, _, _, _, _, rfl, rfl, rfl, rfl, rfl, rfl, ⟨.inl ⟨rfl, rfl, rfl, PNone.zero s plan⟩, u1, hF1, by omega⟩⟩
    · rintro c' j s hj ⟨T, S, H2, a, l, m, lim, rfl, t1, t2, t6, t7, s0, hp⟩ ih
      obtain ⟨hf, hu, hF2, hlim⟩ := hp
      obtain ⟨b, off, x, rfl, hx', f0⟩ := hq.i1 hj
      have hw1 := wrap_succ j (by omega)
      have hcj : j < s.coats.length := by omega
      have hc : s.coats[j]? = some s.coats[j] := List.getElem?_eq_getElem hcj
      generalize s.coats[j] = c at hc
      obtain ⟨d, t, rfl, hti, hdt, htd⟩ := hP.span hx'
      have ht2 : (plan[j + 1]?).getD (dl : Int) = (t : Int) := by rw [hdl, ← til_drop]; exact hti
      have hlow : j + 1 < pl → seg (lows s) d t ≤ c.2 := fun h => by
        refine Classical.byContradiction fun hc2 => ?_
        rw [holds_false.2 ⟨j, c, d, hc, hx', .inr ⟨by rw [hq.len]; exact h, by rw [hti]; omega⟩⟩] at h0; cases h0
      have hg2 := hg.trans hu.grow
      obtain ⟨o, ho, hQ⟩ := k88 j d t c hx' hc ht2 (by omega) htd hlow H2 hg2 hF2
      have hF3 : Fam o.H := famR ho hF2
      have n3 := hu.len
      have l6 := hf.isLoc l m
      by_cases hcond : j + 1 < pl ∧ c.2 < seg (highs s) d t
      · rw [if_pos hcond] at hQ
        obtain ⟨a3, m3, H3, lo3, rfl, u3, hlo3, z3⟩ := hQ
        have hR := raised_ok hS (show d ≤ t by omega) htd (hlow hcond.1) hcond.2
        generalize CM.raised s d t (c.2 + 1 - seg (lows s) d t) = y at *
        have hyl := (weather_bound hS hR.is).1
        obtain ⟨b3, off3, rfl⟩ : ∃ b3 off3, a3 = some ⟨b3, off3, none⟩ := by
          rcases z3.loc with h | h
          · have := z3.len; have := hS.d1
            obtain ⟨b4, off4, x4, h4, _⟩ := z3.i1 (j := 0) (by omega)
            rw [h] at h4; cases h4
          · exact h
        have l7 := z3.isLoc m3
        have hF3' : Fam H3 := hF3
        have n4 := u3.len
        have n5 : H2.length ≤ lo3 := hlo3
        have hj1 : j + 1 < plan.length := by rw [hq.len]; exact hcond.1
        rcases hf with ⟨rfl, rfl, rfl, h⟩ | ⟨b4, off4, x, rfl, hx, h⟩
        · have h2 := h.yes hc hx' hj1 hti hR
          simp (maxDischargeDepth := 8) only [↓SD, SU, SV, SW, simprocAttr, Int.cast_ofNat_Int, small, resV,  q34x0, t1, t2, t6, t7, s0,  s0, lt_nat, hj, l1, l2, l3, l4, l6, l7, ho, n3, n5, hw1, vv_nl_s0]
          exact ih _ ⟨_, _, (H3), (some ⟨b3, off3, none⟩), (y.length), (m3), (_), rfl, (by first | (simp [get_set, t1]; done) | (simp [get_set, t1]; omega)), (by first | (simp [get_set, t2]; done) | (simp [get_set, t2]; omega)), (by first | (simp [get_set, t6]; done) | (simp [get_set, t6]; omega)), (by first | (simp [get_set, t7]; done) | (simp [get_set, t7]; omega)), by simp [sget_sset, s0], ⟨.inr ⟨b3, off3, y, rfl, z3, h2⟩, hu.trans u3, hF3', by omega⟩⟩
        · have hxg := Sl.grow hx u3.grow
          have hxl := (weather_bound hS h.is).1
          have hl := hx.len
          have k40 := c40 (ka := m3) (kb := m) z3 hxg (by omega) (by omega) H3 (Grow.refl _)
          cases hb : bef y x with
          | true =>
            rw [hb] at k40
            have h2 := h.lt hc hx' hj1 hti hR hb
            simp (maxDischargeDepth := 8) only [↓SD, SU, SV, SW, simprocAttr, Int.cast_ofNat_Int, small, resV,  q34x0, t1, t2, t6, t7, s0,  s0, lt_nat, hj, l1, l2, l3, l4, l6, l7, ho, n3, n4, n5, hw1, vv_nl_s, k40]
            exact ih _ ⟨_, _, (H3), (some ⟨b3, off3, none⟩), (y.length), (m3), (_), rfl, (by first | (simp [get_set, t1]; done) | (simp [get_set, t1]; omega)), (by first | (simp [get_set, t2]; done) | (simp [get_set, t2]; omega)), (by first | (simp [get_set, t6]; done) | (simp [get_set, t6]; omega)), (by first | (simp [get_set, t7]; done) | (simp [get_set, t7]; omega)), by simp [sget_sset, s0], ⟨.inr ⟨b3, off3, y, rfl, z3, h2⟩, hu.trans u3, hF3', by omega⟩⟩
          | false =>
            rw [hb] at k40
            have h2 := h.ge hS hc hx' hj1 hti hR hb
            simp (maxDischargeDepth := 8) only [↓SD, SU, SV, SW, simprocAttr, Int.cast_ofNat_Int, small, resV,  q34x0, t1, t2, t6, t7, s0,  s0, lt_nat, hj, l1, l2, l3, l4, l6, l7, ho, n3, n4, n5, hw1, vv_nl_s, k40]
            exact ih _ ⟨_, _, (H3), (some ⟨b4, off4, none⟩), (l), (m), (_), rfl, (by first | (simp [get_set, t1]; done) | (simp [get_set, t1]; omega)), (by first | (simp [get_set, t2]; done) | (simp [get_set, t2]; omega)), (by first | (simp [get_set, t6]; done) | (simp [get_set, t6]; omega)), (by first | (simp [get_set, t7]; done) | (simp [get_set, t7]; omega)), by simp [sget_sset, s0], ⟨.inr ⟨b4, off4, x, rfl, hxg, h2⟩, hu.trans u3, hF3', by omega⟩⟩
      · rw [if_neg hcond] at hQ
        subst hQ
        have hn : j + 1 < plan.length → ¬ c.2 < seg (highs s) d (til s (plan.drop (j + 1))) := fun h1 h2 => hcond ⟨by rw [← hq.len]; exact h1, by rw [← hti]; exact h2⟩
        have hf2 := hf.no (Grow.refl H2) hc hx' hn
        simp (maxDischargeDepth := 8) only [↓SD, SU, SV, SW, simprocAttr, Int.cast_ofNat_Int, small, resV,  q34x0, t1, t2, t6, t7, s0,  s0, lt_nat, hj, l1, l2, l3, l4, l6, ho, n3, hw1]
        exact ih _ ⟨_, _, (H2), (a), (l), (m), (_), rfl, (by first | (simp [get_set, t1]; done) | (simp [get_set, t1]; omega)), (by first | (simp [get_set, t2]; done) | (simp [get_set, t2]; omega)), (by first | (simp [get_set, t6]; done) | (simp [get_set, t6]; omega)), (by first | (simp [get_set, t7]; done) | (simp [get_set, t7]; omega)), by simp [sget_sset, s0], ⟨hf2, hu, hF2, by omega⟩⟩
    · rintro c' s ⟨T, S, H2, a, l, m, lim, rfl, t1, t2, t6, t7, s0, hp⟩
      obtain ⟨hf, hu, hF2, hlim⟩ := hp
      have l6 := hf.isLoc l m
      rcases hf with ⟨_, _, _, h⟩ | ⟨b, off, x, rfl, hx, h⟩
      · rw [h.done (by rw [hq.len]; exact Nat.le_refl _) h0] at e3; cases e3
      · have l7 := hx.isLoc m
        simp (maxDischargeDepth := 8) only [↓SD, SU, SV, SW, simprocAttr, Int.cast_ofNat_Int, small, resV,  q34x0, t1, t2, t6, t7, s0,  s0, lt_nat, Nat.lt_irrefl, l1, l2, l3, l4, l7, vv_nl_s, R34, N34]
        rw [yes_some]
        exact ⟨x, h.done (by rw [hq.len]; exact Nat.le_refl _) h0, gc_sp hx hu hlim⟩
end Go.Pi.L.Coa
set_option maxRecDepth 100000
namespace Go.Pi.L.Coa
open Go Go.Pi Go.Pi.L Go.Pi.Coa CM

theorem same_refl : ∀ l : List Int, same l l = true
  | [] => rfl
  | x :: l => by simp [same, same_refl l]
theorem c5 {H : Heap} {r : ShR} {s : Sheet} (hs : ShOk H r s) {pa : Option Addr} {pl pk : Nat} {plan : List Int} (hq : Ints H pa pl plan) (hF : Fam H) :
    R (.func 5) [.agg #[.slice r.da r.dl r.dk, .slice r.wa r.wl r.wk, .slice r.ca r.cl r.ck], .slice pa pl pk] H = some ⟨.ok (.bool true), H, H.length⟩ := by
  refine run_k (pr 5) P5 (by simp [p5]) rfl ?_
  have l1 := hs.d.isLoc r.dk
  have l2 := hs.w.isLoc r.wk
  have l3 := hs.c.isLoc r.ck
  have l4 := hq.isLoc pk
  have k22 := c22 hs H
  cases e1 : isShort r with
  | false => simp (maxDischargeDepth := 8) only [↓SD, SU, SV, SW, simprocAttr, Int.cast_ofNat_Int, small, resV,  B5, R5, N5, b5,  l1, l2, l3, l4, k22, e1, c23]
  | true =>
  have hd := short_small e1
  have z1 : ((7 : Int) < pl) = (7 < pl) := propext (by omega)
  by_cases e2 : 7 < pl
  · simp (maxDischargeDepth := 8) only [↓SD, SU, SV, SW, simprocAttr, Int.cast_ofNat_Int, small, resV,  B5, R5, N5, b5,  l1, l2, l3, l4, k22, e1, c23, z1, e2]
  have k32 := c32 (pk := pk) hs hd hq (by omega) H (Grow.refl _)
  have k25 := c25 hs hd H (Grow.refl _)
  have nil31 := fun hn => c31n (pk := pk) hs hd hq (by omega) hn H (Grow.refl _)
  cases q1 : isSheet s with
  | false =>
    rw [if_neg (by simp [q1])] at k32
    have k31 := nil31 (by simp [q1])
    simp (maxDischargeDepth := 8) only [↓SD, SU, SV, SW, simprocAttr, Int.cast_ofNat_Int, small, resV,  B5, R5, N5, b5,  l1, l2, l3, l4, k22, e1, c23, z1, e2, k32, k31, k25, q1]
  | true =>
  have k26 := c26 (kk := pk) hs hd hq (by omega) H (Grow.refl _)
  rw [isPlanR_eq q1] at k26
  cases q2 : isPlan s plan with
  | false =>
    rw [if_neg (by simp [q2])] at k32
    have k31 := nil31 (by simp [q2])
    simp (maxDischargeDepth := 8) only [↓SD, SU, SV, SW, simprocAttr, Int.cast_ofNat_Int, small, resV,  B5, R5, N5, b5,  l1, l2, l3, l4, k22, e1, c23, z1, e2, k32, k31, k25, q1, k26, q2]
  | true =>
  rw [if_pos ⟨q1, q2⟩] at k32
  have hS := fine_of q1
  have hP := plan_of hS q2
  have k33 := c33 (pk := pk) hs hd hS hq hP
  cases hf : fails s 0 s.coats plan with
  | none =>
    have e9 : surely s plan = true := by unfold surely; rw [hf]; rfl
    have k31 := c31s (pk := pk) hs hd hq (by omega) q1 q2 e9 H (Grow.refl _)
    have k33 := k33 H (Grow.refl _)
    rw [hf] at k32 k33
    simp only [failsV] at k33
    simp (maxDischargeDepth := 8) only [↓SD, SU, SV, SW, simprocAttr, Int.cast_ofNat_Int, small, resV,  B5, R5, N5, b5,  l1, l2, l3, l4, k22, e1, c23, z1, e2, k32, k31, k25, q1, k26, q2, k33]
  | some y =>
    obtain ⟨i, w⟩ := y
    have e9 : surely s plan = false := by unfold surely; rw [hf]; rfl
    obtain ⟨o, k31, p, hp, a, m, H1, lo, rfl, hu, hlo, hpl⟩ := c31 (pk := pk) hs hd hq (by omega) q1 q2 e9 H (Grow.refl _) hF
    have hF1 : Fam H1 := famR k31 hF
    have hg := hu.grow
    have k25 := c25 hs hd H1 hg
    have k26 := c26 (kk := pk) hs hd hq (by omega) H1 hg
    rw [isPlanR_eq q1] at k26
    have k33 := k33 H1 hg
    rw [hf] at k32 k33
    simp only [failsV] at k33
    obtain ⟨o2, k34, p2, hp2, a2, m2, H2, lo2, rfl, u2, hlo2, hpl2⟩ := c34 (pk := pk) hs hd hS hq hP e9 H1 hg hF1
    obtain rfl := hp.one hS hp2
    have k35 := c35 (kk := m) (km := m2) (Sl.grow hpl u2.grow) hpl2 (by have := (weather_bound hS hp.is).1; have := hS.d2; omega) H2 (Grow.refl _)
    rw [same_refl] at k35
    have l5 := hpl.isLoc m
    have l6 := hpl2.isLoc m2
    have n1 := hu.len
    have n2 := u2.len
    have n3 : H.length ≤ lo := hlo
    have n4 : H1.length ≤ lo2 := hlo2
    have n5 : H.length ≤ lo2 := by omega
    have n6 : H.length ≤ H2.length := by omega
    simp (maxDischargeDepth := 8) only [↓SD, SU, SV, SW, simprocAttr, Int.cast_ofNat_Int, small, resV,  B5, R5, N5, b5,  l1, l2, l3, l4, l5, l6, k22, e1, c23, z1, e2, k32, k31, k25, q1, k26, q2, k33, k34, k35, n1, n2, n3, n4, n5, n6]
end Go.Pi.L.Coa
