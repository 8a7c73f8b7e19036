/- Walking the small language's code: values. -/
import Derived.Test.YtjgmlngcknehhaaPiJ
set_option linter.all false
set_option linter.unusedVariables false
set_option linter.unusedSimpArgs false
set_option linter.unusedSectionVars false
namespace Go.Pi
open Go

theorem nrfl {α : Sort _} {a b : α} (h : a = b) : a = b := h
theorem loc_int (k n) : isLoc (.int k n) = false := nrfl rfl
theorem loc_bool (b) : isLoc (.bool b) = false := nrfl rfl
theorem loc_str (b) : isLoc (.string b) = false := nrfl rfl
theorem loc_agg (b) : isLoc (.agg b) = false := nrfl rfl
theorem loc_tuple (b) : isLoc (.tuple b) = false := nrfl rfl
theorem loc_undef : isLoc undef = false := nrfl rfl
theorem loc_func (f a c) : isLoc (.func f a c) = false := nrfl rfl
theorem loc_ptr (b off) : isLoc (.pointer (some ⟨b, off, none⟩)) = false := nrfl rfl
theorem loc_ptr0 : isLoc (.pointer none) = false := nrfl rfl
theorem loc_sl (b off l c) : isLoc (.slice (some ⟨b, off, none⟩) l c) = false := nrfl rfl
theorem loc_sl0 (l c) : isLoc (.slice none l c) = false := nrfl rfl
theorem loc_map (x) : isLoc (.map x) = false := nrfl rfl
theorem loc_iface (t v) : isLoc (.iface t v) = false := nrfl rfl
theorem loc_nilF : isLoc .nilFunc = false := nrfl rfl
theorem loc_nilI : isLoc .nilIface = false := nrfl rfl

theorem vv_of {f : VOp} {vs : List Value} (h : (vs.all fun v => !isLoc v) = true) : vv f vs = f.ev vs := by
  unfold vv; rw [h]; simp
theorem vv_addr {f : VOp} {vs : List Value} (h : f.addr = true) : vv f vs = f.ev vs := by
  unfold vv; rw [h]; simp
theorem vv_mv (x) (h : isLoc x = false) : vv .mv [x] = some x := by rw [vv_of (by simp [h])]; rfl
theorem vv_pick_t (a b) (ha : isLoc a = false) (hb : isLoc b = false) : vv .pick [.bool true, a, b] = some a := by rw [vv_of (by simp [ha, hb, loc_bool])]; rfl
theorem vv_pick_f (a b) (ha : isLoc a = false) (hb : isLoc b = false) : vv .pick [.bool false, a, b] = some b := by rw [vv_of (by simp [ha, hb, loc_bool])]; rfl
theorem vv_add (k a b) : vv (.ib .add) [.int k a, .int k b] = some (.int k (k.wrap (a + b))) := by rw [vv_of rfl]; simp [VOp.ev, intBin]
theorem vv_sub (k a b) : vv (.ib .sub) [.int k a, .int k b] = some (.int k (k.wrap (a - b))) := by rw [vv_of rfl]; simp [VOp.ev, intBin]
theorem vv_mul (k a b) : vv (.ib .mul) [.int k a, .int k b] = some (.int k (k.wrap (a * b))) := by rw [vv_of rfl]; simp [VOp.ev, intBin]
theorem vv_quo (k a b) (h : b ≠ 0) : vv (.ib .quo) [.int k a, .int k b] = some (.int k (k.wrap (a.tdiv b))) := by rw [vv_of rfl]; simp [VOp.ev, intBin, h]
theorem vv_rem (k a b) (h : b ≠ 0) : vv (.ib .rem) [.int k a, .int k b] = some (.int k (a.tmod b)) := by rw [vv_of rfl]; simp [VOp.ev, intBin, h]
theorem vv_eql (k a b) : vv (.ib .eql) [.int k a, .int k b] = some (.bool (decide (a = b))) := by rw [vv_of rfl]; simp [VOp.ev, intBin]; exact Bool.eq_iff_iff.2 (by simp)
theorem vv_neq (k a b) : vv (.ib .neq) [.int k a, .int k b] = some (.bool (!decide (a = b))) := by rw [vv_of rfl]; simp [VOp.ev, intBin]; exact Bool.eq_iff_iff.2 (by simp)
theorem vv_lss (k a b) : vv (.ib .lss) [.int k a, .int k b] = some (.bool (decide (a < b))) := by rw [vv_of rfl]; simp [VOp.ev, intBin]
theorem vv_leq (k a b) : vv (.ib .leq) [.int k a, .int k b] = some (.bool (decide (a ≤ b))) := by rw [vv_of rfl]; simp [VOp.ev, intBin]
theorem vv_gtr (k a b) : vv (.ib .gtr) [.int k a, .int k b] = some (.bool (decide (b < a))) := by rw [vv_of rfl]; simp [VOp.ev, intBin]
theorem vv_geq (k a b) : vv (.ib .geq) [.int k a, .int k b] = some (.bool (decide (b ≤ a))) := by rw [vv_of rfl]; simp [VOp.ev, intBin]
theorem vv_no (a) : vv .no [.bool a] = some (.bool (!a)) := by rw [vv_of rfl]; rfl
theorem vv_bb (ne a b) : vv (.bb ne) [.bool a, .bool b] = some (.bool ((a == b) != ne)) := by rw [vv_of rfl]; rfl
theorem vv_cv (k j n) : vv (.cv k) [.int j n] = some (.int k (k.wrap n)) := by rw [vv_of rfl]; rfl
theorem vv_len (a l c) (h : isLoc (.slice a l c) = false) : vv .len [.slice a l c] = some (.int .i64 l) := by rw [vv_of (by simp [h])]; rfl
theorem vv_ia (k b off : Nat) (l c : Nat) (j) (i : Int) (h0 : 0 ≤ i) (h1 : i < l) : vv (.ia k) [.slice (some ⟨b, off, none⟩) l c, .int j i] = some (.pointer (some ⟨b, off + i.toNat * k, none⟩)) := by rw [vv_of rfl]; simp [VOp.ev, h0, h1]
theorem vv_fa (off b o sp) : vv (.fa off) [.pointer (some ⟨b, o, sp⟩)] = some (.pointer (some ⟨b, o + off, sp⟩)) := by rw [vv_addr rfl]; rfl
theorem vv_iaa (k n b o : Nat) (sp j) (i : Int) (h0 : 0 ≤ i) (h1 : i < n) : vv (.iaa k n) [.pointer (some ⟨b, o, sp⟩), .int j i] = some (.pointer (some ⟨b, o + i.toNat * k, sp⟩)) := by rw [vv_addr rfl]; simp [VOp.ev, h0, h1]
theorem vv_fld1 (off) (l : List Value) : vv (.fld off none) [.agg l.toArray] = l[off]? := by rw [vv_of rfl]; simp [VOp.ev]
theorem vv_fldn (off n) (l : List Value) (h : off + n ≤ l.length) : vv (.fld off (some n)) [.agg l.toArray] = some (.agg ((l.drop off).take n).toArray) := by
  rw [vv_of rfl]
  simp only [VOp.ev, List.size_toArray, if_pos h]
  congr 2
  apply Array.toList_inj.1
  simp [List.take_drop, Nat.add_comm]
theorem vv_ext (i) (l : List Value) : vv (.ext i) [.tuple l.toArray] = l[i]? := by rw [vv_of rfl]; simp [VOp.ev]
theorem vv_mki (t x) (h : isLoc x = false) : vv (.mki t) [x] = some (.iface t x) := by rw [vv_of (by simp [h])]; rfl
theorem vv_tas_eq (t z x) : vv (.tas t z) [.iface t x] = some (.tuple #[x, .bool true]) := by rw [vv_of rfl]; simp [VOp.ev]
theorem vv_tas_ne (t u z x) (h : u ≠ t) : vv (.tas t z) [.iface u x] = some (.tuple #[z, .bool false]) := by rw [vv_of rfl]; simp [VOp.ev, h]
theorem vv_tas_nil (t z) : vv (.tas t z) [.nilIface] = some (.tuple #[z, .bool false]) := by rw [vv_of rfl]; rfl
theorem vv_mkf (fn n vs) (hl : (vs.all fun v => !isLoc v) = true) (hn : n ≤ vs.length) : vv (.mkf fn n) vs = some (.func fn (vs.take n).toArray (vs.drop n).toArray) := by rw [vv_of hl]; simp [VOp.ev, hn]
theorem vv_nl_i0 (ne) : vv (.nl .iface ne) [.nilIface] = some (.bool (true != ne)) := by rw [vv_of rfl]; rfl
theorem vv_nl_i (ne t v) : vv (.nl .iface ne) [.iface t v] = some (.bool (false != ne)) := by rw [vv_of rfl]; rfl
theorem vv_mx (k a j b) : vv .mx [.int k a, .int j b] = some (.int k (if a < b then b else a)) := by rw [vv_of rfl]; rfl
theorem vv_mn (k a j b) : vv .mn [.int k a, .int j b] = some (.int k (if b < a then b else a)) := by rw [vv_of rfl]; rfl

theorem wrap_id (x : Int) (h0 : -9223372036854775808 ≤ x) (h1 : x ≤ 9223372036854775807) : IntKind.wrap .i64 x = x := by
  simp only [IntKind.wrap, IntKind.bits, IntKind.signed]
  simp
  omega
theorem hc_app {H l : Heap} {i : Nat} (h : i < H.length) : hcells (H ++ l) i = hcells H i := by simp only [hcells, List.getElem?_append_left h]
theorem hc_new {H : Heap} (c t f) : hcells (H ++ [⟨.cells c, true, t, f⟩]) H.length = some c := by simp [hcells]
theorem hc_lt {H : Heap} {i : Nat} {c} (h : hcells H i = some c) : i < H.length := by
  unfold hcells at h
  split at h
  · rename_i hx; exact (List.getElem?_eq_some_iff.1 hx).1
  · cases h
theorem arr_list (l : List Value) : l.toArray.toList = l := by simp
theorem arr_size (l : List Value) : l.toArray.size = l.length := by simp
theorem c_agg (a) : Value.cells (.agg a) = a := nrfl rfl
theorem c_int (k n) : Value.cells (.int k n) = [.int k n].toArray := nrfl rfl
theorem c_bool (b) : Value.cells (.bool b) = [.bool b].toArray := nrfl rfl
theorem c_sl (a l c) : Value.cells (.slice a l c) = [.slice a l c].toArray := nrfl rfl
theorem c_str (s) : Value.cells (.string s) = [.string s].toArray := nrfl rfl
theorem c_map (s) : Value.cells (.map s) = [.map s].toArray := nrfl rfl
theorem c_func (f a c) : Value.cells (.func f a c) = [.func f a c].toArray := nrfl rfl
theorem c_ptr (p) : Value.cells (.pointer p) = [.pointer p].toArray := nrfl rfl
theorem c_if (t v) : Value.cells (.iface t v) = [.iface t v].toArray := nrfl rfl
theorem c_nilI : Value.cells .nilIface = [.nilIface].toArray := nrfl rfl
theorem c_nilF : Value.cells .nilFunc = [.nilFunc].toArray := nrfl rfl
theorem one_int (k n) : one (.int k n) = true := nrfl rfl
theorem one_bool (b) : one (.bool b) = true := nrfl rfl
theorem one_sl (a l c) : one (.slice a l c) = true := nrfl rfl
theorem one_str (s) : one (.string s) = true := nrfl rfl
theorem one_map (s) : one (.map s) = true := nrfl rfl
theorem one_func (f a c) : one (.func f a c) = true := nrfl rfl
theorem one_ptr (p) : one (.pointer p) = true := nrfl rfl
theorem one_if (t v) : one (.iface t v) = true := nrfl rfl
theorem one_nilI : one .nilIface = true := nrfl rfl
theorem one_nilF : one .nilFunc = true := nrfl rfl
theorem fl_bool (n b) : flat (n + 1) (.bool b) = true := nrfl rfl
theorem fl_int (n k i) : flat (n + 1) (.int k i) = true := nrfl rfl
theorem fl_str (n i) : flat (n + 1) (.string i) = true := nrfl rfl
theorem fl_tuple (n) (l : List Value) (h : l.all (flat n) = true) : flat (n + 1) (.tuple l.toArray) = true := by simp only [flat]; simpa using h
theorem fl_agg (n) (l : List Value) (h : l.all (flat n) = true) : flat (n + 1) (.agg l.toArray) = true := by simp only [flat]; simpa using h
theorem fl_iface (n t v) (h : flat n v = true) : flat (n + 1) (.iface t v) = true := by simp only [flat]; exact h
theorem al_nil (p : Value → Bool) : [].all p = true := nrfl rfl
theorem len0 : ([] : List Value).length = 0 := nrfl rfl
theorem len1 (x : Value) (l) : (x :: l).length = l.length + 1 := nrfl rfl
theorem iE (x : Value) (l) : (x :: l).isEmpty = false := nrfl rfl
theorem mm (a b : Nat) : min (min a b) b = min a b := by omega
theorem gc_keep {H H1 : Heap} {v : Value} {lo : Nat} (hf : flat 4 v = false) : gcR H (.ok v) H1 lo = ⟨.ok v, H1, lo⟩ := by
  unfold gcR; rw [if_neg]; rintro ⟨_, h⟩; dsimp only at h; rw [hf] at h; cases h
theorem fl_nil (n) : flat (n + 1) (.tuple #[]) = true := nrfl rfl
theorem fl_sl (n) : flat (n + 1) (.slice none 0 0) = true := nrfl rfl
theorem all_nil (p : Value → Bool) : [].all p = true := nrfl rfl
theorem all_cons (p : Value → Bool) (x l) (h : p x = true) (h' : l.all p = true) : (x :: l).all p = true := by simp [h, h']

section
variable {α : Type} {call : CallT} {m : Nat} {F : Ex → St → Option α} {k : List It} {s : St}
theorem nl_some (o v d T S D H lo n rnd) : nlal call m F (some o) v (some d) k ⟨T, S, D, H, lo, n, rnd⟩ = nxt call m F (some (v d ((sget S d).1 + 1))) (some d) k ⟨T, sset S d ((sget S d).1 + 1, o), D, H, lo, n, rnd⟩ := rfl
theorem cO (v) (h : isLoc v = false) (h1 : v.cells.toList.all one = true) : cellsO v = some (.cells v.cells.toList) := by unfold cellsO; rw [if_neg (by simp [h, h1])]
theorem bA (v) (h : isLoc v = false) (h1 : v.cells.toList.all one = true) : boxA v = some ⟨.cells v.cells.toList, false, ptrA⟩ := by unfold boxA; rw [if_neg (by simp [h, h1])]
theorem nn_some (a d T S D H lo n rnd) : nnew call m F (some a) d k ⟨T, S, D, H, lo, n, rnd⟩ = nxt call m F (some (a.val H.length)) d k ⟨T, S, D, H ++ [a.blk H.length], lo, n, rnd⟩ := rfl
def rdL (x : Nat × PObj) (g off : Nat) (nn : Option Nat) : Option Value := match x with | (g', .cells c) => if g' = g then rd c off nn else none | _ => none
theorem rdv_loc (T S D H lo n rnd nn b off g) : rdv ⟨T, S, D, H, lo, n, rnd⟩ nn (.pointer (some ⟨b, off, some g⟩)) = rdL (sget S b) g off nn := by
  simp only [rdv, cellsAt, rdL]
  obtain ⟨g', o⟩ := sget S b
  cases o with
  | cells c => by_cases h : g' = g <;> simp [h]
  | _ => rfl
theorem rdL_ok (g c off nn) : rdL (g, .cells c) g off nn = rd c off nn := by simp [rdL]
def rdO (o : Option (List Value)) (off : Nat) (nn : Option Nat) : Option Value := o.bind fun c => rd c off nn
theorem rdv_heap (T S D H lo n rnd nn b off) : rdv ⟨T, S, D, H, lo, n, rnd⟩ nn (.pointer (some ⟨b, off, none⟩)) = rdO (hcells H b) off nn := rfl
theorem rdO_some (c off nn) : rdO (some c) off nn = rd c off nn := rfl
theorem rd_one (c off) : rd c off none = c[off]? := rfl
theorem rd_n (c off n) (h : off + n ≤ c.length) : rd c off (some n) = some (.agg ((c.drop off).take n).toArray) := by simp [rd, h]
def stL (call : CallT) (m : Nat) (F : Ex → St → Option α) (x : Nat × PObj) (n b off g : Nat) (v : Value) (d : Option Tmp) (k : List It) (s : St) : Option α :=
  match x with
  | (g', .cells c) => if g' = g ∧ isLoc v = false ∧ v.cells.toList.all one = true ∧ v.cells.size = n ∧ off + n ≤ c.length then nxt call m F (some undef) d k { s with S := sset s.S b (g, .cells (splice c off v.cells.toList)) } else none
  | _ => none
theorem sto_loc (n b off g v d T S D H lo nn rnd) : sto call m F n (.pointer (some ⟨b, off, some g⟩)) v d k ⟨T, S, D, H, lo, nn, rnd⟩ = stL call m F (sget S b) n b off g v d k ⟨T, S, D, H, lo, nn, rnd⟩ := by
  simp only [sto, stCells, stL]
  obtain ⟨g', o⟩ := sget S b
  by_cases hc : (isLoc v || v.cells.size != n || !v.cells.toList.all one) = true
  · rw [if_pos hc]
    simp only [Bool.or_eq_true, bne_iff_ne, ne_eq, Bool.not_eq_true'] at hc
    cases o with
    | cells c =>
      simp only
      rw [if_neg]
      rintro ⟨_, h1, h2, h3, _⟩
      rcases hc with (hc | hc) | hc
      · rw [h1] at hc; cases hc
      · exact hc h3
      · rw [h2] at hc; cases hc
    | _ => rfl
  · rw [if_neg hc]
    simp only [Bool.or_eq_true, bne_iff_ne, ne_eq, Bool.not_eq_true', not_or, Bool.not_eq_true, Decidable.not_not, Bool.not_eq_false] at hc
    cases o with
    | cells c =>
      simp only
      by_cases hg : g' = g ∧ off + v.cells.toList.length ≤ c.length
      · rw [if_pos hg, if_pos ⟨hg.1, hc.1.1, hc.2, hc.1.2, by have := hg.2; rw [← hc.1.2]; simpa using this⟩]
        
      · rw [if_neg hg, if_neg]
        rintro ⟨h1, _, _, h3, h4⟩
        exact hg ⟨h1, by rw [← h3] at h4; simpa using h4⟩
    | _ => rfl
theorem stL_ok (c n b off g v d T S D H lo nn rnd) (hl : isLoc v = false) (h1 : v.cells.toList.all one = true) (hn : v.cells.size = n) (ho : off + n ≤ c.length) :
    stL call m F (g, .cells c) n b off g v d k ⟨T, S, D, H, lo, nn, rnd⟩ = nxt call m F (some undef) d k ⟨T, sset S b (g, .cells (splice c off v.cells.toList)), D, H, lo, nn, rnd⟩ := by
  simp only [stL]; rw [if_pos ⟨trivial, hl, h1, hn, ho⟩]
theorem res_nil (s : St) : resR s [] = some [] := rfl
theorem res_t (s : St) (t r) (h : isLoc (get s.T t) = false) : resR s ((t, none) :: r) = (resR s r).map fun l => get s.T t :: l := by simp [resR, h]
def resC (v : Option Value) (r : Option (List Value)) : Option (List Value) := match v with | some v => r.map fun l => v :: l | none => none
theorem res_c (s : St) (t n r) : resR s ((t, some n) :: r) = resC (rdv s n (get s.T t)) (resR s r) := by
  simp only [resR, rdv, resC]
  cases get s.T t with
  | pointer p =>
    cases p with
    | none => rfl
    | some p =>
      simp only
      cases (cellsAt s p).bind fun c => rd c p.off n <;> rfl
  | _ => rfl
theorem resC_some (v r) : resC (some v) r = r.map fun l => v :: l := rfl
theorem ldc_l (b off g) : ldc (b + 2) (.pointer (some ⟨b, off, some g⟩)) = true := by simp [ldc]
theorem ldc_h (b off) : ldc 1 (.pointer (some ⟨b, off, none⟩)) = true := nrfl rfl
def elL (x : Nat × PObj) (g n : Nat) : Option (List Value) := match x with | (g', .cells c) => if g' = g ∧ c.length = n then some c else none | _ => none
theorem eL_loc (T S D H lo n rnd kk d g l) : elemsL ⟨T, S, D, H, lo, n, rnd⟩ kk (.slice (some ⟨d, 0, some g⟩) l 0) = elL (sget S d) g (l * kk) := by
  simp only [elemsL, elL]
  rfl
theorem eL_ok (g c n) (h : c.length = n) : elL (g, .cells c) g n = some c := by simp [elL, h]
def stH (call : CallT) (m : Nat) (F : Ex → St → Option α) (x : Option Blk) (n b off : Nat) (v : Value) (d : Option Tmp) (k : List It) (s : St) : Option α :=
  match x with
  | some ⟨.cells c, true, true, none⟩ => if isLoc v = false ∧ v.cells.toList.all one = true ∧ v.cells.size = n ∧ off + n ≤ c.length then nxt call m F (some undef) d k { s with H := s.H.set b { obj := .cells (splice c off v.cells.toList) }, lo := min s.lo b } else none
  | _ => sto call m F n (.pointer (some ⟨b, off, none⟩)) v d k s
theorem sto_heap (n b off v d T S D H lo nn rnd) : sto call m F n (.pointer (some ⟨b, off, none⟩)) v d k ⟨T, S, D, H, lo, nn, rnd⟩ = stH call m F (H[b]?) n b off v d k ⟨T, S, D, H, lo, nn, rnd⟩ := by
  unfold stH
  split
  · rename_i c hx
    simp only [sto, stCells, hx]
    by_cases hc : (isLoc v || v.cells.size != n || !v.cells.toList.all one) = true
    · rw [if_pos hc]
      simp only [Bool.or_eq_true, bne_iff_ne, ne_eq, Bool.not_eq_true'] at hc
      rw [if_neg]
      rintro ⟨h1, h2, h3, _⟩
      rcases hc with (hc | hc) | hc
      · rw [h1] at hc; cases hc
      · exact hc h3
      · rw [h2] at hc; cases hc
    · rw [if_neg hc]
      simp only [Bool.or_eq_true, bne_iff_ne, ne_eq, Bool.not_eq_true', not_or, Bool.not_eq_true, Decidable.not_not, Bool.not_eq_false] at hc
      by_cases hg : off + v.cells.toList.length ≤ c.length
      · rw [if_pos hg, if_pos ⟨hc.1.1, hc.2, hc.1.2, by rw [← hc.1.2]; simpa using hg⟩]
        rfl
      · rw [if_neg hg, if_neg]
        rintro ⟨_, _, h3, h4⟩
        exact hg (by rw [← h3] at h4; simpa using h4)
  · rfl
theorem stH_ok (c n b off v d T S D H lo nn rnd) (hl : isLoc v = false) (h1 : v.cells.toList.all one = true) (hn : v.cells.size = n) (ho : off + n ≤ c.length) :
    stH call m F (some ⟨.cells c, true, true, none⟩) n b off v d k ⟨T, S, D, H, lo, nn, rnd⟩ = nxt call m F (some undef) d k ⟨T, S, D, H.set b { obj := .cells (splice c off v.cells.toList) }, min lo b, nn, rnd⟩ := by
  simp only [stH]; rw [if_pos ⟨hl, h1, hn, ho⟩]
theorem pan_i (F : Ex → St → Option α) (t v s) : pan F (.iface t v) s = F (.panic (.iface t v)) s := rfl
theorem so_loc (d off g l c) : slotOk (.tmp d) (.slice (some ⟨d, off, some g⟩) l c) = true := by simp [slotOk]
theorem so_heap (x b off l c) : slotOk x (.slice (some ⟨b, off, none⟩) l c) = true := nrfl rfl
theorem bsO_ok (kk zero len ps vs) (hl : (vs.all fun v => !isLoc v) = true) : bsO kk zero len ps vs = fillP (rep len zero) ps vs := by unfold bsO; rw [if_pos hl]
theorem fill_nil (cs) : fillP cs [] [] = some cs := rfl
theorem fill_cons (cs off n ps v vs) (hn : v.cells.size = n) (ho : off + n ≤ cs.length) (h1 : v.cells.toList.all one = true) : fillP cs ((off, n) :: ps) (v :: vs) = fillP (cs.take off ++ v.cells.toList ++ cs.drop (off + n)) ps vs := by
  simp only [fillP]; rw [if_pos ⟨hn, ho, h1⟩]
theorem bsA_eq (kk zero len ps T) : bsA kk zero len ps T = (bsO kk zero len (ps.map fun p => (p.1 * kk, kk)) (ps.map fun p => ev T p.2)).map fun cs => ⟨.cells cs, true, fun i => .slice (some ⟨i, 0, none⟩) len kk⟩ := by
  simp only [bsA, bsO]
  by_cases hc : ((ps.map fun p => ev T p.2).all fun v => !isLoc v) = true
  · simp only [if_pos hc]
    cases fillP (rep len zero) (ps.map fun p => (p.1 * kk, kk)) (ps.map fun p => ev T p.2) <;> rfl
  · simp only [if_neg hc]; rfl
theorem vv_bld (zero ps vs) (hl : (vs.all fun v => !isLoc v) = true) : vv (.bld zero ps) vs = (fillP zero ps vs).map fun l => .agg l.toArray := by rw [vv_of hl]; rfl
theorem fE_t (PP : FuncId → Option PFunc) (prims : Prims) (pf : PFunc) (H T S H1 lo n rnd t) (hr : pf.res = [(t, none)]) (hl : isLoc (get T t) = false) : fE PP prims call m pf H none ⟨T, S, [], H1, lo, n, rnd⟩ = some (gcR H (.ok (get T t)) H1 lo) := by
  rw [fE_ok, hr]; simp [resR, hl, resV]
theorem fE_tt (PP : FuncId → Option PFunc) (prims : Prims) (pf : PFunc) (H T S H1 lo n rnd t u) (hr : pf.res = [(t, none), (u, none)]) (hl : isLoc (get T t) = false) (hu : isLoc (get T u) = false) : fE PP prims call m pf H none ⟨T, S, [], H1, lo, n, rnd⟩ = some (gcR H (.ok (.tuple [get T t, get T u].toArray)) H1 lo) := by
  rw [fE_ok, hr]; simp [resR, hl, hu, resV]
theorem fE_0 (PP : FuncId → Option PFunc) (prims : Prims) (pf : PFunc) (H T S H1 lo n rnd) (hr : pf.res = []) : fE PP prims call m pf H none ⟨T, S, [], H1, lo, n, rnd⟩ = some (gcR H (.ok (.tuple [].toArray)) H1 lo) := by
  rw [fE_ok, hr]; rfl
theorem fa_func (f vs) (hl : (vs.all fun v => !isLoc v) = true) : fargs (.func (.func f) #[] #[]) vs = some (.func f, vs) := by simp [fargs, hl, fnArgs]
theorem fa_clo (f) (a c : List Value) (vs) (hl : (vs.all fun v => !isLoc v) = true) : fargs (.func (.func f) a.toArray c.toArray) vs = some (.func f, a ++ vs ++ c) := by simp [fargs, hl, fnArgs]
theorem nl_true : (!false) = true := rfl
end

end Go.Pi
