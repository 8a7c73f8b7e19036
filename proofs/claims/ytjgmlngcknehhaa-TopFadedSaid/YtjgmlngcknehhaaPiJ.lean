/- Without fuel: what is computed with enough of it. -/
import Derived.Test.YtjgmlngcknehhaaPiI
set_option linter.all false
set_option linter.unusedVariables false
set_option linter.unusedSimpArgs false
set_option linter.unusedSectionVars false
namespace Go.Pi
open Go

/-! ### more fuel computes as much -/
def Le (call call' : CallT) : Prop := ∀ fn args H out, call fn args H = some out → call' fn args H = some out

section
variable {call call' : CallT} {PP : FuncId → Option PFunc} {prims : Prims}

theorem callR_mono (h : Le call call') {o : PIns} {s : St} {f : Value} {vs : List Value} {r : Ex × St} (hr : opR.callR call o s f vs = some r) : opR.callR call' o s f vs = some r := by
  unfold opR.callR at hr ⊢
  split at hr
  · rename_i hl
    rw [if_pos hl]
    split at hr
    · rename_i fn args hfa
      cases hc : call fn args s.H with
      | none => rw [hc] at hr; cases hr
      | some out =>
        rw [hc] at hr
        simp only [hfa, h _ _ _ _ hc]
        exact hr
    · cases hr
  · cases hr

theorem opR_mono (h : Le call call') {o : PIns} {s : St} {r : Ex × St} (hr : opR call o s = some r) : opR call' o s = some r := by
  obtain ⟨d, p, g⟩ := o
  cases p with
  | call f xs => simp only [opR] at hr ⊢; exact callR_mono h hr
  | inv x tb xs =>
    simp only [opR] at hr ⊢
    split at hr
    · split at hr
      · exact callR_mono h hr
      · cases hr
    · cases hr
  | _ => exact hr

theorem opsR_mono (h : Le call call') : ∀ {ops : List PIns} {s : St} {r : Ex × St}, opsR call ops s = some r → opsR call' ops s = some r
  | [], _, _, hr => hr
  | o :: ops, s, r, hr => by
    simp only [opsR] at hr ⊢
    split at hr
    · rename_i hw
      cases ho : opR call o s with
      | none => rw [ho] at hr; cases hr
      | some x =>
        obtain ⟨e, s1⟩ := x
        rw [ho] at hr
        rw [opR_mono h ho]
        cases e with
        | normal => exact opsR_mono h hr
        | _ => exact hr
    · rename_i hw
      split at hr
      · exact opsR_mono h hr
      · cases hr
    · cases hr

theorem opsD_mono (h : Le call call') : ∀ {ops : List PIns} {fs : List Flag} {s : St} {r : Ex × St}, opsD call ops fs s = some r → opsD call' ops fs s = some r
  | [], _, _, _, hr => hr
  | o :: ops, [], s, r, hr => by simp [opsD] at hr
  | o :: ops, f :: fs, s, r, hr => by
    simp only [opsD] at hr ⊢
    split at hr
    · split at hr
      · rename_i hw hcl
        rw [if_pos hcl]
        cases ho : opR call o { s with lo := s.H.length } with
        | none => rw [ho] at hr; cases hr
        | some x =>
          obtain ⟨e, s1⟩ := x
          rw [ho] at hr
          rw [opR_mono h ho]
          cases e with
          | normal =>
            simp only at hr ⊢
            split at hr
            · rename_i hlo
              rw [if_pos hlo]; exact opsD_mono h hr
            · cases hr
          | _ => exact hr
      · cases hr
    · split at hr
      · exact opsD_mono h hr
      · cases hr
    · cases hr

theorem loopN_mono {b b' : St → Option (Ex × St)} (hb : ∀ s r, b s = some r → b' s = some r) : ∀ {n n' : Nat} {s : St} {r : Ex × St}, n ≤ n' → loopN b n s = some r → loopN b' n' s = some r
  | 0, _, _, _, _, hr => by simp [loopN] at hr
  | n + 1, 0, _, _, hn, _ => by omega
  | n + 1, n' + 1, s, r, hn, hr => by
    simp only [loopN] at hr ⊢
    cases hx : b s with
    | none => rw [hx] at hr; cases hr
    | some x =>
      obtain ⟨e, s1⟩ := x
      rw [hx] at hr
      rw [hb _ _ hx]
      cases e with
      | normal => exact loopN_mono hb (by omega) hr
      | _ => exact hr

theorem codeR_mono (h : Le call call') : ∀ {c : PCode} {m m' : Nat} {s : St} {r : Ex × St}, m ≤ m' → codeR call m c s = some r → codeR call' m' c s = some r := by
  intro c
  induction c with
  | skip => intro m m' s r _ hr; exact hr
  | reg ops => intro m m' s r _ hr; simp only [codeR] at hr ⊢; exact opsR_mono h hr
  | dreg ops fs => intro m m' s r _ hr; simp only [codeR] at hr ⊢; exact opsD_mono h hr
  | seq a b iha ihb =>
    intro m m' s r hm hr
    simp only [codeR] at hr ⊢
    cases hx : codeR call m a s with
    | none => rw [hx] at hr; cases hr
    | some x =>
      obtain ⟨e, s1⟩ := x
      rw [hx] at hr
      rw [iha hm hx]
      cases e with
      | normal => exact ihb hm hr
      | _ => exact hr
  | cond c a b iha ihb =>
    intro m m' s r hm hr
    simp only [codeR] at hr ⊢
    split at hr
    · exact iha hm hr
    · exact ihb hm hr
    · cases hr
  | blk id c ih =>
    intro m m' s r hm hr
    simp only [codeR] at hr ⊢
    cases hx : codeR call m c s with
    | none => rw [hx] at hr; cases hr
    | some x =>
      obtain ⟨e, s1⟩ := x
      rw [hx] at hr
      rw [ih hm hx]
      exact hr
  | loop c ih =>
    intro m m' s r hm hr
    simp only [codeR] at hr ⊢
    exact loopN_mono (fun s r hr => ih hm hr) hm hr
  | rf f ps a b iha ihb =>
    intro m m' s r hm hr
    simp only [codeR] at hr ⊢
    split at hr
    · cases hr
    · rename_i hrnd
      rw [if_neg hrnd]
      split at hr
      · rename_i g args hfa
        split at hr
        · rename_i v H lo hcall
          simp only [hfa, h _ _ _ _ hcall]
          exact hr
        · cases hr
      · cases hr
  | exit id => intro m m' s r _ hr; exact hr
  | ret => intro m m' s r _ hr; exact hr

theorem drun_mono (h : Le call call') {m m' : Nat} (hm : m ≤ m') {fn : Fn} {args : List Value} {H : Heap} {pv : Option Value} {r : Heap × Nat × Option Value} (hr : drun PP prims call m fn args H pv = some r) : drun PP prims call' m' fn args H pv = some r := by
  cases fn with
  | func f =>
    simp only [drun] at hr ⊢
    cases hp : prims f with
    | some g => rw [hp] at hr; cases hr
    | none =>
      rw [hp] at hr
      cases hpp : PP f with
      | none => rw [hpp] at hr; cases hr
      | some pf =>
        rw [hpp] at hr
        simp only at hr ⊢
        split at hr
        · rename_i hn
          rw [if_pos hn]
          have fin : ∀ (T : List Value) (pv' : Option Value), (match codeR call m pf.body ⟨T, [], [], H, H.length, pf.n, false⟩ with
              | some (e, s) => (match endR e, s.D, resR s pf.res with | some none, [], some _ => some (s.H, s.lo, pv') | _, _, _ => none)
              | none => none) = some r → (match codeR call' m' pf.body ⟨T, [], [], H, H.length, pf.n, false⟩ with
              | some (e, s) => (match endR e, s.D, resR s pf.res with | some none, [], some _ => some (s.H, s.lo, pv') | _, _, _ => none)
              | none => none) = some r := by
            intro T pv' hr
            cases hc : codeR call m pf.body ⟨T, [], [], H, H.length, pf.n, false⟩ with
            | none => rw [hc] at hr; cases hr
            | some x =>
              rw [hc] at hr
              rw [codeR_mono h hm hc]
              exact hr
          cases hrc : pf.rc with
          | none => rw [hrc] at hr; exact fin _ _ hr
          | some d =>
            rw [hrc] at hr
            by_cases hd : d < pf.n
            · simp only [if_pos hd] at hr ⊢; exact fin _ _ hr
            · simp only [if_neg hd] at hr; cases hr
        · cases hr
  | _ => simp [drun] at hr

theorem unw_mono (h : Le call call') {m m' : Nat} (hm : m ≤ m') : ∀ {ds : List PD} {pv : Option Value} {s : St} {r : Option Value × St}, unw PP prims call m ds pv s = some r → unw PP prims call' m' ds pv s = some r
  | [], _, _, _, hr => hr
  | .call fn args :: ds, pv, s, r, hr => by
    simp only [unw] at hr ⊢
    split at hr
    · rename_i H lo pv' hd
      rw [drun_mono h hm hd]
      exact unw_mono h hm hr
    · cases hr
  | .coll i :: ds, pv, s, r, hr => by
    simp only [unw] at hr ⊢
    split at hr
    · exact unw_mono h hm hr
    · cases hr

theorem run_mono : ∀ m, Le (run PP prims m) (run PP prims (m + 1))
  | 0 => fun fn args H out h => by cases fn <;> simp [run] at h
  | m + 1 => fun fn args H out h => by
    have ih := run_mono m
    cases fn with
    | func f =>
      unfold run at h ⊢
      split at h
      · exact h
      · split at h
        · cases h
        · rename_i pf hpf
          split at h
          · rename_i hn
            rw [if_pos hn]
            cases hc : codeR (run PP prims m) m pf.body ⟨args, [], [], H, H.length, pf.n, false⟩ with
            | none => rw [hc] at h; cases h
            | some x =>
              obtain ⟨e, s⟩ := x
              rw [hc] at h
              rw [codeR_mono ih (Nat.le_succ m) hc]
              simp only at h ⊢
              cases hpv : endR e with
              | none => rw [hpv] at h; cases h
              | some pv =>
                rw [hpv] at h
                simp only at h ⊢
                cases hu : unw PP prims (run PP prims m) m s.D pv s with
                | none => rw [hu] at h; cases h
                | some x =>
                  rw [hu] at h
                  rw [unw_mono ih (Nat.le_succ m) hu]
                  exact h
          · cases h
    | yield l =>
      unfold run at h ⊢
      split at h
      · rename_i nn T ps as bd d pend hH
        split at h
        · rename_i hlen
          simp only [if_pos hlen]
          split at h
          · rename_i s1 hc1
            rw [codeR_mono ih (Nat.le_succ m) hc1]
            simp only
            split at h
            · rename_i n2 T2 ps2 as2 bd2 d2 pend2 hH2
              split at h
              · cases h
              · rename_i e s2 hnp hc2
                simp only [codeR_mono ih (Nat.le_succ m) hc2]
                split at h
                · rename_i n3 T3 ps3 as3 bd3 d3 st3 pend3 hH3
                  cases e <;> first | exact absurd rfl (hnp _) | exact h
                · cases h
              · cases h
            · cases h
          · cases h
        · cases h
      · cases h
    | _ => simp [run] at h

theorem run_le {m m' : Nat} (h : m ≤ m') : Le (run PP prims m) (run PP prims m') := by
  induction m' with
  | zero => rw [Nat.le_zero.1 h]; exact fun _ _ _ _ h => h
  | succ m' ih =>
    rcases Nat.lt_or_ge m (m' + 1) with hlt | hge
    · exact fun fn args H out hr => run_mono m' _ _ _ _ (ih (by omega) _ _ _ _ hr)
    · rw [Nat.le_antisymm h hge]; exact fun _ _ _ _ h => h

end
end Go.Pi
namespace Go.Pi
open Go

inductive It
  | code (c : PCode)
  | ops (l : List PIns)
  | dops (l : List PIns) (fs : List Flag)
  | blk (id : Nat)
  | fix (lo len : Nat) (hb : Bool)
  | loop (c : PCode) (n : Nat)

section
variable {PP : FuncId → Option PFunc} {prims : Prims} {α : Type}

/-- What is left to do; the exit under way. -/
def mach (call : CallT) (m : Nat) (F : Ex → St → Option α) : List It → Option Nat → St → Option α
  | [], none, s => F .normal s
  | [], some i, s => F (.exit i) s
  | .blk _ :: k, none, s => mach call m F k none s
  | .blk j :: k, some i, s => if i = j then mach call m F k none s else mach call m F k (some i) s
  | .code c :: k, none, s =>
    match codeR call m c s with
    | some (.normal, s1) => mach call m F k none s1
    | some (.exit i, s1) => mach call m F k (some i) s1
    | some (e, s1) => F e s1
    | none => none
  | .loop c n :: k, none, s =>
    match loopN (codeR call m c) n s with
    | some (.normal, s1) => mach call m F k none s1
    | some (.exit i, s1) => mach call m F k (some i) s1
    | some (e, s1) => F e s1
    | none => none
  | .loop _ _ :: k, some i, s => mach call m F k (some i) s
  | .ops l :: k, none, s =>
    match opsR call l s with
    | some (.normal, s1) => mach call m F k none s1
    | some (e, s1) => F e s1
    | none => none
  | .dops l fs :: k, none, s =>
    match opsD call l fs s with
    | some (.normal, s1) => mach call m F k none s1
    | some (e, s1) => F e s1
    | none => none
  | .fix lo len hb :: k, none, s => if len ≤ s.lo ∨ hb = true then mach call m F k none { s with lo := min lo s.lo } else none
  | .fix _ _ _ :: k, some i, s => mach call m F k (some i) s
  | .code _ :: k, some i, s => mach call m F k (some i) s
  | .ops _ :: k, some i, s => mach call m F k (some i) s
  | .dops _ _ :: k, some i, s => mach call m F k (some i) s

variable {call : CallT} {m : Nat} {F : Ex → St → Option α} {k : List It} {s : St}

theorem opR_ex {o : PIns} {e : Ex} {s1 : St} (h : opR call o s = some (e, s1)) : e = .normal ∨ ∃ v, e = .panic v := by
  obtain ⟨d, p, g⟩ := o
  have hp : ∀ {s2 : St} {d : Option Tmp} {v : Value}, putO s2 d v = some (e, s1) → e = .normal ∨ ∃ v, e = .panic v := fun h => .inl (putO_put h).1
  have hn : ∀ {d : Option Tmp} {al : Option Alc}, newO s d al = some (e, s1) → e = .normal ∨ ∃ v, e = .panic v := fun {d al} h => by
    cases al with
    | none => cases h
    | some al => exact hp h
  have hc : ∀ {f : Value} {vs : List Value}, opR.callR call ⟨d, p, g⟩ s f vs = some (e, s1) → e = .normal ∨ ∃ v, e = .panic v := fun {f vs} h => by
    unfold opR.callR at h
    split at h
    · split at h
      · split at h
        · exact hp h
        · cases h; exact .inr ⟨_, rfl⟩
        · cases h
      · cases h
    · cases h
  cases p <;> simp only [opR] at h
  case box => exact hn h
  case alloc => exact hn h
  case bs => exact hn h
  case mks => exact hn h
  case s2b => exact hn h
  case mkm => exact hn h
  case rng => exact hn h
  case call => exact hc h
  case inv =>
    split at h
    · split at h
      · exact hc h
      · cases h
    · cases h
  all_goals
    repeat' split at h
    all_goals first | exact hp h | (cases h; done) | (cases h; exact .inr ⟨_, rfl⟩) | (cases h; exact .inl rfl)

/-! ### the machine's steps -/
theorem k_nil : mach call m F [] none s = F .normal s := rfl
theorem k_blk (j) : mach call m F (.blk j :: k) none s = mach call m F k none s := rfl
theorem k_skip : mach call m F (.code .skip :: k) none s = mach call m F k none s := rfl
theorem opsR_exit {l : List PIns} {s s1 : St} {i : Nat} : opsR call l s ≠ some (.exit i, s1) := by
  intro h
  induction l generalizing s with
  | nil => simp [opsR] at h
  | cons o l ih =>
    simp only [opsR] at h
    split at h
    · cases ho : opR call o s with
      | none => rw [ho] at h; cases h
      | some x =>
        obtain ⟨e, s2⟩ := x
        rw [ho] at h
        rcases opR_ex ho with rfl | ⟨v, rfl⟩
        · exact ih h
        · simp at h
    · split at h
      · exact ih h
      · cases h
    · cases h
theorem opsD_exit {l : List PIns} {fs : List Flag} {s s1 : St} {i : Nat} : opsD call l fs s ≠ some (.exit i, s1) := by
  intro h
  induction l generalizing s fs with
  | nil => simp [opsD] at h
  | cons o l ih =>
    cases fs with
    | nil => simp [opsD] at h
    | cons f fs =>
      simp only [opsD] at h
      split at h
      · split at h
        · cases ho : opR call o { s with lo := s.H.length } with
          | none => rw [ho] at h; cases h
          | some x =>
            obtain ⟨e, s2⟩ := x
            rw [ho] at h
            rcases opR_ex ho with rfl | ⟨v, rfl⟩
            · simp only at h
              split at h
              · exact ih h
              · cases h
            · simp only at h
              split at h <;> simp at h
        · cases h
      · split at h
        · exact ih h
        · cases h
      · cases h
theorem k_reg (l) : mach call m F (.code (.reg l) :: k) none s = mach call m F (.ops l :: k) none s := by
  simp only [mach, codeR]
  cases h : opsR call l s with
  | none => rfl
  | some x =>
    obtain ⟨e, s1⟩ := x
    cases e with
    | exit i => exact absurd h opsR_exit
    | _ => rfl
theorem k_dreg (l fs) : mach call m F (.code (.dreg l fs) :: k) none s = mach call m F (.dops l fs :: k) none s := by
  simp only [mach, codeR]
  cases h : opsD call l fs s with
  | none => rfl
  | some x =>
    obtain ⟨e, s1⟩ := x
    cases e with
    | exit i => exact absurd h opsD_exit
    | _ => rfl
theorem k_seq (a b) : mach call m F (.code (.seq a b) :: k) none s = mach call m F (.code a :: .code b :: k) none s := by
  simp only [mach, codeR]
  cases codeR call m a s with
  | none => rfl
  | some x => obtain ⟨e, s1⟩ := x; cases e <;> rfl
theorem k_cblk (j c) : mach call m F (.code (.blk j c) :: k) none s = mach call m F (.code c :: .blk j :: k) none s := by
  simp only [mach, codeR]
  cases codeR call m c s with
  | none => rfl
  | some x =>
    obtain ⟨e, s1⟩ := x
    cases e with
    | exit i => by_cases h : i = j <;> simp [h]
    | _ => rfl

theorem k_loop (c) : mach call m F (.code (.loop c) :: k) none s = mach call m F (.loop c m :: k) none s := rfl
theorem l_succ (c n) : mach call m F (.loop c (n + 1) :: k) none s = mach call m F (.code c :: .loop c n :: k) none s := by
  simp only [mach, loopN]
  cases codeR call m c s with
  | none => rfl
  | some x => obtain ⟨e, s1⟩ := x; cases e <;> rfl
theorem x_loop (i c n) : mach call m F (.loop c n :: k) (some i) s = mach call m F k (some i) s := rfl

/-- A branch. -/
def bra (call : CallT) (m : Nat) (F : Ex → St → Option α) (v : Value) (a b : PCode) (k : List It) (s : St) : Option α :=
  match v with
  | .bool true => mach call m F (.code a :: k) none s
  | .bool false => mach call m F (.code b :: k) none s
  | _ => none
theorem k_cond (c a b) : mach call m F (.code (.cond c a b) :: k) none s = bra call m F (ev s.T c) a b k s := by
  simp only [mach, codeR, bra]
  cases ev s.T c with
  | bool x => cases x <;> rfl
  | _ => rfl
theorem bra_t (a b) : bra call m F (.bool true) a b k s = mach call m F (.code a :: k) none s := rfl
theorem bra_f (a b) : bra call m F (.bool false) a b k s = mach call m F (.code b :: k) none s := rfl
theorem k_ret : mach call m F (.code .ret :: k) none s = F .ret s := rfl
theorem k_exit (i) : mach call m F (.code (.exit i) :: k) none s = mach call m F k (some i) s := rfl
theorem x_blk (i) : mach call m F (.blk i :: k) (some i) s = mach call m F k none s := by simp [mach]
theorem x_blk' (i j) (h : i ≠ j) : mach call m F (.blk j :: k) (some i) s = mach call m F k (some i) s := by simp [mach, h]
theorem x_code (i c) : mach call m F (.code c :: k) (some i) s = mach call m F k (some i) s := rfl
theorem x_nil (i) : mach call m F [] (some i) s = F (.exit i) s := rfl
/-- A piece of code whose end is known. -/
theorem k_code {c : PCode} {s1 : St} (h : codeR call m c s = some (.normal, s1)) : mach call m F (.code c :: k) none s = mach call m F k none s1 := by simp only [mach, h]
theorem k_code_x {c : PCode} {s1 : St} {i : Nat} (h : codeR call m c s = some (.exit i, s1)) : mach call m F (.code c :: k) none s = mach call m F k (some i) s1 := by simp only [mach, h]
theorem k_code_ret {c : PCode} {s1 : St} (h : codeR call m c s = some (.ret, s1)) : mach call m F (.code c :: k) none s = F .ret s1 := by simp only [mach, h]
theorem k_code_panic {c : PCode} {s1 : St} {v : Value} (h : codeR call m c s = some (.panic v, s1)) : mach call m F (.code c :: k) none s = F (.panic v) s1 := by simp only [mach, h]

/-! ### operations -/
/-- A result is put. -/
def nxt (call : CallT) (m : Nat) (F : Ex → St → Option α) (v : Option Value) (d : Option Tmp) (k : List It) (s : St) : Option α :=
  match v with
  | some v => (match put s d v with | some s => mach call m F k none s | none => none)
  | none => none

/-- One operation, and on. -/
def go (call : CallT) (m : Nat) (F : Ex → St → Option α) (d : Option Tmp) (p : POp) (k : List It) (s : St) : Option α :=
  match opR call ⟨d, p, none⟩ s with
  | some (.normal, s1) => mach call m F k none s1
  | some (e, s1) => F e s1
  | none => none

def gd (call : CallT) (m : Nat) (F : Ex → St → Option α) (w : Option Bool) (d : Option Tmp) (p : POp) (k : List It) (s : St) : Option α :=
  match w with
  | some true => go call m F d p k s
  | some false => nxt call m F (some undef) d k s
  | none => none

theorem o_nil : mach call m F (.ops [] :: k) none s = mach call m F k none s := rfl
theorem o_go (d p r) : mach call m F (.ops (⟨d, p, none⟩ :: r) :: k) none s = go call m F d p (.ops r :: k) s := by
  simp only [mach, opsR, wanted, go]
  cases opR call ⟨d, p, none⟩ s with
  | none => rfl
  | some x => obtain ⟨e, s1⟩ := x; cases e <;> rfl
theorem opR_guard (d p g) : opR call ⟨d, p, g⟩ s = opR call ⟨d, p, none⟩ s := by cases p <;> rfl
theorem o_if (d p t w r) : mach call m F (.ops (⟨d, p, some (t, w)⟩ :: r) :: k) none s = gd call m F (wanted ⟨d, p, some (t, w)⟩ s.T) d p (.ops r :: k) s := by
  simp only [mach, opsR, gd, go, nxt]
  cases wanted ⟨d, p, some (t, w)⟩ s.T with
  | none => rfl
  | some b =>
    cases b with
    | true =>
      simp only
      rw [opR_guard]
      cases opR call ⟨d, p, none⟩ s with
      | none => rfl
      | some x => obtain ⟨e, s1⟩ := x; cases e <;> rfl
    | false =>
      simp only
      cases put s d undef <;> rfl
theorem gd_t (d p) : gd call m F (some true) d p k s = go call m F d p k s := rfl
theorem gd_f (d p) : gd call m F (some false) d p k s = nxt call m F (some undef) d k s := rfl
def wv (v : Value) (w : Bool) : Option Bool := match v with | .bool b => some (b == w) | .tuple ⟨[]⟩ => some false | _ => none
theorem wanted_v (T d p t w) : wanted ⟨d, p, some (t, w)⟩ T = wv (get T t) w := rfl
theorem wv_b (b w) : wv (.bool b) w = some (b == w) := rfl
theorem wv_u (w) : wv undef w = some false := rfl
theorem n_some (v d T S D H lo n rnd) (h : d < n) : nxt call m F (some v) (some d) k ⟨T, S, D, H, lo, n, rnd⟩ = mach call m F k none ⟨set T d v, S, D, H, lo, n, rnd⟩ := by simp only [nxt, put, if_pos h]
theorem n_none (v) : nxt call m F (some v) none k s = mach call m F k none s := rfl

theorem go_putO {d : Option Tmp} {v : Value} {s2 : St} : (match putO s2 d v with | some (.normal, s1) => mach call m F k none s1 | some (e, s1) => F e s1 | none => none) = nxt call m F (some v) d k s2 := by
  simp only [putO, nxt]
  cases put s2 d v <;> rfl

/-- An operation on values alone. -/
def vv (f : VOp) (vs : List Value) : Option Value := if (f.addr || vs.all fun v => !isLoc v) = true then f.ev vs else none
theorem g_v (d f xs) : go call m F d (.v f xs) k s = nxt call m F (vv f (xs.map (ev s.T))) d k s := by
  simp only [go, opR, vv]
  by_cases hc : (f.addr || (xs.map (ev s.T)).all (fun v => !isLoc v)) = true
  · simp only [if_pos hc]
    cases h : f.ev (xs.map (ev s.T)) with
    | none => rfl
    | some v => exact go_putO
  · simp only [if_neg hc]; rfl

/-- What is read. -/
def rdv (s : St) (n : Option Nat) (v : Value) : Option Value :=
  match v with
  | .pointer (some p) => (cellsAt s p).bind fun c => rd c p.off n
  | _ => none
theorem g_ld (d n a) : go call m F d (.ld n a) k s = nxt call m F (rdv s n (ev s.T a)) d k s := by
  simp only [go, opR, rdv]
  cases ev s.T a with
  | pointer p =>
    cases p with
    | none => rfl
    | some p =>
      simp only
      cases cellsAt s p with
      | none => rfl
      | some c =>
        simp only [Option.bind_some]
        cases rd c p.off n with
        | none => rfl
        | some v => exact go_putO
  | _ => rfl

/-- A store. -/
def sto (call : CallT) (m : Nat) (F : Ex → St → Option α) (n : Nat) (a v : Value) (d : Option Tmp) (k : List It) (s : St) : Option α :=
  match a with
  | .pointer (some p) =>
    if isLoc v || v.cells.size != n || !v.cells.toList.all one then none else
    match stCells s p v.cells.toList with
    | some s => nxt call m F (some undef) d k s
    | none => none
  | _ => none
theorem g_st (d n a x) : go call m F d (.st n a x) k s = sto call m F n (ev s.T a) (ev s.T x) d k s := by
  simp only [go, opR, sto]
  cases ev s.T a with
  | pointer p =>
    cases p with
    | none => rfl
    | some p =>
      simp only
      by_cases hc : (isLoc (ev s.T x) || (ev s.T x).cells.size != n || !(ev s.T x).cells.toList.all one) = true
      · simp only [if_pos hc]
      · simp only [if_neg hc]
        cases stCells s p (ev s.T x).cells.toList with
        | none => rfl
        | some s2 => exact go_putO
  | _ => rfl

/-- A new variable of the frame's own. -/
def nlal (call : CallT) (m : Nat) (F : Ex → St → Option α) (o : Option PObj) (v : Tmp → Nat → Value) (d : Option Tmp) (k : List It) (s : St) : Option α :=
  match o, d with
  | some o, some d => nxt call m F (some (v d ((sget s.S d).1 + 1))) (some d) k { s with S := sset s.S d ((sget s.S d).1 + 1, o) }
  | _, _ => none
def cellsO (v : Value) : Option PObj := if isLoc v || !v.cells.toList.all one then none else some (.cells v.cells.toList)
theorem g_lbox (d t x) : go call m F d (.lbox t x) k s = nlal call m F (cellsO (ev s.T x)) lptr d k s := by
  simp only [go, opR, nlal, cellsO]
  cases d with
  | none =>
    by_cases hc : (isLoc (ev s.T x) || !(ev s.T x).cells.toList.all one) = true
    · simp only [if_pos hc]
    · simp only [if_neg hc]
  | some d =>
    simp only
    by_cases hc : (isLoc (ev s.T x) || !(ev s.T x).cells.toList.all one) = true
    · simp only [if_pos hc]
    · simp only [if_neg hc]; exact go_putO
theorem g_lalloc (d t z) : go call m F d (.lalloc t z) k s = nlal call m F (some (.cells z.cells.toList)) lptr d k s := by
  simp only [go, opR, nlal]
  cases d with
  | none => rfl
  | some d => exact go_putO
def bsO (k : Nat) (zero : List Value) (len : Nat) (ps : List (Nat × Nat)) (vs : List Value) : Option (List Value) :=
  if (vs.all fun v => !isLoc v) = true then fillP (rep len zero) ps vs else none
theorem g_lbs (d t kk zero len ps) : go call m F d (.lbs t kk zero len ps) k s = nlal call m F ((bsO kk zero len (ps.map fun p => (p.1 * kk, kk)) (ps.map fun p => ev s.T p.2)).map .cells) (fun d g => .slice (some ⟨d, 0, some g⟩) len 0) d k s := by
  simp only [go, opR, nlal, bsO]
  cases d with
  | none =>
    by_cases hc : ((ps.map fun p => ev s.T p.2).all fun v => !isLoc v) = true
    · simp only [if_pos hc]; cases fillP (rep len zero) (ps.map fun p => (p.1 * kk, kk)) (ps.map fun p => ev s.T p.2) <;> rfl
    · simp only [if_neg hc]; rfl
  | some d =>
    simp only
    by_cases hc : ((ps.map fun p => ev s.T p.2).all fun v => !isLoc v) = true
    · simp only [if_pos hc]
      cases fillP (rep len zero) (ps.map fun p => (p.1 * kk, kk)) (ps.map fun p => ev s.T p.2) with
      | none => rfl
      | some c => exact go_putO
    · simp only [if_neg hc]; rfl

/-- A new block. -/
def nnew (call : CallT) (m : Nat) (F : Ex → St → Option α) (al : Option Alc) (d : Option Tmp) (k : List It) (s : St) : Option α :=
  match al with
  | some a => nxt call m F (some (a.val s.H.length)) d k { s with H := s.H ++ [a.blk s.H.length] }
  | none => none
theorem go_new {d : Option Tmp} {al : Option Alc} : (match newO s d al with | some (.normal, s1) => mach call m F k none s1 | some (e, s1) => F e s1 | none => none) = nnew call m F al d k s := by
  cases al with
  | none => rfl
  | some a => exact go_putO
theorem g_box (d t x) : go call m F d (.box t x) k s = nnew call m F (boxA (ev s.T x)) d k s := go_new
theorem g_alloc (d t z) : go call m F d (.alloc t z) k s = nnew call m F (some ⟨.cells z.cells.toList, false, ptrA⟩) d k s := by
  simp only [go, opR]; exact go_new
theorem g_bs (d t kk zero len ps) : go call m F d (.bs t kk zero len ps) k s = nnew call m F (bsA kk zero len ps s.T) d k s := go_new
theorem g_mks (d t kk zero b l c) : go call m F d (.mks t kk zero b l c) k s = nnew call m F (mksA kk zero b (ev s.T l) (ev s.T c)) d k s := go_new
theorem g_mkm (d sh) : go call m F d (.mkm sh) k s = nnew call m F (some ⟨.map sh [], false, fun k => .map (some k)⟩) d k s := by
  simp only [go, opR]; exact go_new

/-- What a call hands back. -/
def ret (call : CallT) (m : Nat) (F : Ex → St → Option α) (o : Option Out) (d : Option Tmp) (k : List It) (s : St) : Option α :=
  match o with
  | some ⟨.ok v, H, lo⟩ => nxt call m F (some v) d k { s with H := H, lo := min s.lo lo }
  | some ⟨.panic v, H, lo⟩ => F (.panic v) { s with H := H, lo := min s.lo lo }
  | none => none
def cal (call : CallT) (m : Nat) (F : Ex → St → Option α) (fa : Option (Fn × List Value)) (d : Option Tmp) (k : List It) (s : St) : Option α :=
  match fa with
  | some (fn, args) => ret call m F (call fn args s.H) d k s
  | none => none
def fargs (f : Value) (vs : List Value) : Option (Fn × List Value) := if (vs.all fun v => !isLoc v) = true then fnArgs f vs else none
theorem go_callR {d : Option Tmp} {p : POp} {g : Option (Tmp × Bool)} {f : Value} {vs : List Value} : (match opR.callR call ⟨d, p, g⟩ s f vs with | some (.normal, s1) => mach call m F k none s1 | some (e, s1) => F e s1 | none => none) = cal call m F (fargs f vs) d k s := by
  simp only [opR.callR, cal, fargs]
  by_cases hc : (vs.all fun v => !isLoc v) = true
  · simp only [if_pos hc]
    cases fnArgs f vs with
    | none => rfl
    | some x =>
      obtain ⟨fn, args⟩ := x
      simp only [ret]
      cases call fn args s.H with
      | none => rfl
      | some out =>
        obtain ⟨r, H, lo⟩ := out
        cases r with
        | ok v => exact go_putO
        | panic v => rfl
  · simp only [if_neg hc]
theorem g_call (d f xs) : go call m F d (.call f xs) k s = cal call m F (fargs (ev s.T f) (xs.map (ev s.T))) d k s := go_callR
theorem c_some (fn args d) : cal call m F (some (fn, args)) d k s = ret call m F (call fn args s.H) d k s := rfl
theorem r_ok (v H lo T S D H0 lo0 n rnd d) : ret call m F (some ⟨.ok v, H, lo⟩) d k ⟨T, S, D, H0, lo0, n, rnd⟩ = nxt call m F (some v) d k ⟨T, S, D, H, min lo0 lo, n, rnd⟩ := rfl
theorem r_panic (v H lo T S D H0 lo0 n rnd d) : ret call m F (some ⟨.panic v, H, lo⟩) d k ⟨T, S, D, H0, lo0, n, rnd⟩ = F (.panic v) ⟨T, S, D, H, min lo0 lo, n, rnd⟩ := rfl
def dfv (call : CallT) (m : Nat) (F : Ex → St → Option α) (fa : Option (Fn × List Value)) (d : Option Tmp) (k : List It) (s : St) : Option α :=
  match fa with
  | some (.func g, args) => if s.rnd then none else nxt call m F (some undef) d k { s with D := .call (.func g) args :: s.D }
  | _ => none
theorem g_dfr (d f xs) : go call m F d (.dfr f xs) k s = dfv call m F (fargs (ev s.T f) (xs.map (ev s.T))) d k s := by
  simp only [go, opR, dfv, fargs]
  by_cases hl : ((xs.map (ev s.T)).all fun v => !isLoc v) = true
  · cases hr : s.rnd with
    | true =>
      simp only [hl, hr, Bool.true_or, if_true]
      cases fnArgs (ev s.T f) (xs.map (ev s.T)) with
      | none => rfl
      | some x => obtain ⟨g, args⟩ := x; cases g <;> rfl
    | false =>
      simp only [hl, hr, Bool.not_true, Bool.or_self, Bool.false_eq_true, if_false, if_true]
      cases fnArgs (ev s.T f) (xs.map (ev s.T)) with
      | none => rfl
      | some x =>
        obtain ⟨g, args⟩ := x
        cases g with
        | func g => exact go_putO
        | _ => rfl
  · have : ((xs.map (ev s.T)).all fun v => !isLoc v) = false := by simpa using hl
    simp [this]
theorem dfv_some (g args d T S D H lo n) : dfv call m F (some (.func g, args)) d k ⟨T, S, D, H, lo, n, false⟩ = nxt call m F (some undef) d k ⟨T, S, .call (.func g) args :: D, H, lo, n, false⟩ := rfl
def pan (F : Ex → St → Option α) (v : Value) (s : St) : Option α := match v with | .iface t v => F (.panic (.iface t v)) s | _ => none
theorem g_pnc (d x) : go call m F d (.pnc x) k s = pan F (ev s.T x) s := by
  simp only [go, opR, pan]
  cases ev s.T x <;> rfl

/-! ### regions whose order is open -/
theorem k_fix (lo len hb T S D H l n rnd) (h : len ≤ l) : mach call m F (.fix lo len hb :: k) none ⟨T, S, D, H, l, n, rnd⟩ = mach call m F k none ⟨T, S, D, H, min lo l, n, rnd⟩ := by
  simp only [mach]; rw [if_pos (.inl h)]
theorem k_fixb (lo len T S D H l n rnd) : mach call m F (.fix lo len true :: k) none ⟨T, S, D, H, l, n, rnd⟩ = mach call m F k none ⟨T, S, D, H, min lo l, n, rnd⟩ := by
  simp only [mach]; rw [if_pos (.inr trivial)]
theorem d_nil (fs) : mach call m F (.dops [] fs :: k) none s = mach call m F k none s := rfl
def goD (call : CallT) (m : Nat) (F : Ex → St → Option α) (d : Option Tmp) (p : POp) (f : Flag) (k : List It) (s : St) : Option α :=
  if clsOk ⟨d, p, none⟩ f.cls s = true then
    match opR call ⟨d, p, none⟩ { s with lo := s.H.length } with
    | some (.normal, s1) => if s.H.length ≤ s1.lo ∨ f.hb = true then mach call m F k none { s1 with lo := min s.lo s1.lo } else none
    | some (e, s1) => if f.tb = true then F e { s1 with lo := min s.lo s1.lo } else none
    | none => none
  else none
def gdD (call : CallT) (m : Nat) (F : Ex → St → Option α) (w : Option Bool) (d : Option Tmp) (p : POp) (f : Flag) (k : List It) (s : St) : Option α :=
  match w with
  | some true => goD call m F d p f k s
  | some false => nxt call m F (some undef) d k s
  | none => none
theorem gdD_t (d p f) : gdD call m F (some true) d p f k s = goD call m F d p f k s := rfl
theorem gdD_f (d p f) : gdD call m F (some false) d p f k s = nxt call m F (some undef) d k s := rfl
theorem d_go (d p r f fs) : mach call m F (.dops (⟨d, p, none⟩ :: r) (f :: fs) :: k) none s = goD call m F d p f (.dops r fs :: k) s := by
  simp only [mach, opsD, wanted, goD]
  by_cases hc : clsOk ⟨d, p, none⟩ f.cls s = true
  · simp only [if_pos hc]
    cases opR call ⟨d, p, none⟩ { s with lo := s.H.length } with
    | none => rfl
    | some x =>
      obtain ⟨e, s1⟩ := x
      cases e with
      | normal =>
        simp only
        by_cases hl : s.H.length ≤ s1.lo ∨ f.hb = true
        · simp only [if_pos hl]
        · simp only [if_neg hl]
      | _ =>
        simp only
        by_cases hl : f.tb = true
        · simp only [if_pos hl]
        · simp only [if_neg hl]
  · simp only [if_neg hc]
theorem clsOk_g (d p g c) : clsOk ⟨d, p, g⟩ c s = clsOk ⟨d, p, none⟩ c s := by cases p <;> rfl
theorem d_if (d p t w r f fs) : mach call m F (.dops (⟨d, p, some (t, w)⟩ :: r) (f :: fs) :: k) none s = gdD call m F (wanted ⟨d, p, some (t, w)⟩ s.T) d p f (.dops r fs :: k) s := by
  simp only [mach, opsD, gdD]
  cases wanted ⟨d, p, some (t, w)⟩ s.T with
  | none => rfl
  | some b =>
    cases b with
    | true =>
      simp only [goD]
      rw [clsOk_g, opR_guard]
      by_cases hc : clsOk ⟨d, p, none⟩ f.cls s = true
      · simp only [if_pos hc]
        cases opR call ⟨d, p, none⟩ { s with lo := s.H.length } with
        | none => rfl
        | some x =>
          obtain ⟨e, s1⟩ := x
          cases e with
          | normal =>
            simp only
            by_cases hl : s.H.length ≤ s1.lo ∨ f.hb = true
            · simp only [if_pos hl]; rfl
            · simp only [if_neg hl]
          | _ =>
            simp only
            by_cases hl : f.tb = true
            · simp only [if_pos hl]
            · simp only [if_neg hl]
      · simp only [if_neg hc]
    | false =>
      simp only [nxt]
      cases put s d undef <;> rfl
/-- One that doesn't panic. -/
theorem goD_go (d p f T S D H lo n rnd) (hc : clsOk ⟨d, p, none⟩ f.cls ⟨T, S, D, H, lo, n, rnd⟩ = true) (hp : match p with | .call _ _ | .inv _ _ _ | .pnc _ => False | _ => True) :
    goD call m F d p f k ⟨T, S, D, H, lo, n, rnd⟩ = go call m F d p (.fix lo H.length f.hb :: k) ⟨T, S, D, H, H.length, n, rnd⟩ := by
  have key : ∀ {e s1}, opR call ⟨d, p, none⟩ ⟨T, S, D, H, H.length, n, rnd⟩ = some (e, s1) → e = .normal := by
    intro e s1 h
    rcases opR_ex h with rfl | ⟨v, rfl⟩
    · rfl
    · exfalso
      have hpu : ∀ {s2 : St} {d : Option Tmp} {v' : Value}, putO s2 d v' ≠ some (.panic v, s1) := fun h => by have := (putO_put h).1; cases this
      have hn : ∀ {s2 : St} {d : Option Tmp} {al : Option Alc}, newO s2 d al ≠ some (.panic v, s1) := fun {s2 d al} h => by
        cases al with
        | none => cases h
        | some al => exact hpu h
      cases p <;> simp only [opR] at h hp
      case box => exact hn h
      case alloc => exact hn h
      case bs => exact hn h
      case mks => exact hn h
      case s2b => exact hn h
      case mkm => exact hn h
      case rng => exact hn h
      all_goals
        repeat' split at h
        all_goals first | exact hpu h | (cases h; done)
  simp only [goD, if_pos hc, go]
  cases h : opR call ⟨d, p, none⟩ ⟨T, S, D, H, H.length, n, rnd⟩ with
  | none => rfl
  | some x =>
    obtain ⟨e, s1⟩ := x
    have he := key h
    subst he
    simp only [mach]
def retD (call : CallT) (m : Nat) (F : Ex → St → Option α) (o : Option Out) (f : Flag) (d : Option Tmp) (k : List It) (s : St) : Option α :=
  match o with
  | some ⟨.ok v, H, lo⟩ => if s.H.length ≤ min s.H.length lo ∨ f.hb = true then nxt call m F (some v) d k { s with H := H, lo := min s.lo (min s.H.length lo) } else none
  | some ⟨.panic v, H, lo⟩ => if f.tb = true then F (.panic v) { s with H := H, lo := min s.lo (min s.H.length lo) } else none
  | none => none
theorem goD_call (d f xs c hb tb) : goD call m F d (.call f xs) ⟨c, hb, tb⟩ k s = if c = 1 then (match fargs (ev s.T f) (xs.map (ev s.T)) with | some (fn, args) => retD call m F (call fn args s.H) ⟨c, hb, tb⟩ d k s | none => none) else none := by
  simp only [goD, clsOk, beq_iff_eq]
  by_cases hc : c = 1
  · simp only [if_pos hc, opR, opR.callR, fargs]
    by_cases hl : ((xs.map (ev s.T)).all fun v => !isLoc v) = true
    · simp only [if_pos hl]
      cases fnArgs (ev s.T f) (xs.map (ev s.T)) with
      | none => rfl
      | some x =>
        obtain ⟨fn, args⟩ := x
        simp only
        cases call fn args s.H with
        | none => rfl
        | some out =>
          obtain ⟨r, H, lo⟩ := out
          cases r with
          | ok v =>
            simp only [retD, putO, nxt]
            cases d with
            | none => simp only [put, Option.map]
            | some d =>
              simp only [put]
              by_cases hd : d < s.n
              · simp only [if_pos hd, Option.map]
              · simp only [if_neg hd, Option.map]; split <;> rfl
          | panic v => rfl
    · simp only [if_neg hl]
  · simp only [if_neg hc]

theorem goD_v (d f xs hb tb T S D H lo n rnd) : goD call m F d (.v f xs) ⟨0, hb, tb⟩ k ⟨T, S, D, H, lo, n, rnd⟩ = nxt call m F (vv f (xs.map (ev T))) d k ⟨T, S, D, H, min lo H.length, n, rnd⟩ := by
  rw [goD_go _ _ _ _ _ _ _ _ _ _ rfl trivial, g_v]
  simp only [nxt]
  cases vv f (xs.map (ev T)) with
  | none => rfl
  | some v =>
    simp only
    cases d with
    | none => simp only [put]; rw [k_fix _ _ _ _ _ _ _ _ _ _ (Nat.le_refl _)]
    | some d =>
      simp only [put]
      by_cases hd : d < n
      · simp only [if_pos hd]; rw [k_fix _ _ _ _ _ _ _ _ _ _ (Nat.le_refl _)]
      · simp only [if_neg hd]
def ldc (c : Nat) (v : Value) : Bool := match v with | .pointer (some ⟨b, _, some _⟩) => c == b + 2 | _ => c == 1
theorem goD_ld (d nn a c hb tb T S D H lo n rnd) (h : ldc c (ev T a) = true) : goD call m F d (.ld nn a) ⟨c, hb, tb⟩ k ⟨T, S, D, H, lo, n, rnd⟩ = nxt call m F (rdv ⟨T, S, D, H, lo, n, rnd⟩ nn (ev T a)) d k ⟨T, S, D, H, min lo H.length, n, rnd⟩ := by
  have h' : clsOk ⟨d, .ld nn a, none⟩ (Flag.cls ⟨c, hb, tb⟩) ⟨T, S, D, H, lo, n, rnd⟩ = true := h
  rw [goD_go _ _ _ _ _ _ _ _ _ _ h' trivial, g_ld]
  have hr : rdv ⟨T, S, D, H, H.length, n, rnd⟩ nn (ev T a) = rdv ⟨T, S, D, H, lo, n, rnd⟩ nn (ev T a) := rfl
  simp only [nxt]
  show (match rdv ⟨T, S, D, H, H.length, n, rnd⟩ nn (ev T a) with | some v => _ | none => none) = _
  rw [hr]
  cases rdv ⟨T, S, D, H, lo, n, rnd⟩ nn (ev T a) with
  | none => rfl
  | some v =>
    simp only
    cases d with
    | none => simp only [put]; rw [k_fix _ _ _ _ _ _ _ _ _ _ (Nat.le_refl _)]
    | some d =>
      simp only [put]
      by_cases hd : d < n
      · simp only [if_pos hd]; rw [k_fix _ _ _ _ _ _ _ _ _ _ (Nat.le_refl _)]
      · simp only [if_neg hd]
theorem goD_st (d nn a x c hb tb T S D H lo n rnd) (h : ldc c (ev T a) = true) : goD call m F d (.st nn a x) ⟨c, hb, tb⟩ k ⟨T, S, D, H, lo, n, rnd⟩ = sto call m F nn (ev T a) (ev T x) d (.fix lo H.length hb :: k) ⟨T, S, D, H, H.length, n, rnd⟩ := by
  have h' : clsOk ⟨d, .st nn a x, none⟩ (Flag.cls ⟨c, hb, tb⟩) ⟨T, S, D, H, lo, n, rnd⟩ = true := h
  rw [goD_go _ _ _ _ _ _ _ _ _ _ h' trivial, g_st]
theorem goD_lbox (d t x hb tb T S D H lo n rnd) : goD call m F (some d) (.lbox t x) ⟨d + 2, hb, tb⟩ k ⟨T, S, D, H, lo, n, rnd⟩ = nlal call m F (cellsO (ev T x)) lptr (some d) (.fix lo H.length hb :: k) ⟨T, S, D, H, H.length, n, rnd⟩ := by
  rw [goD_go _ _ _ _ _ _ _ _ _ _ (by simp [clsOk]) trivial, g_lbox]
theorem goD_lalloc (d t z hb tb T S D H lo n rnd) : goD call m F (some d) (.lalloc t z) ⟨d + 2, hb, tb⟩ k ⟨T, S, D, H, lo, n, rnd⟩ = nlal call m F (some (.cells z.cells.toList)) lptr (some d) (.fix lo H.length hb :: k) ⟨T, S, D, H, H.length, n, rnd⟩ := by
  rw [goD_go _ _ _ _ _ _ _ _ _ _ (by simp [clsOk]) trivial, g_lalloc]
theorem goD_lbs (d t kk zero len ps hb tb T S D H lo n rnd) : goD call m F (some d) (.lbs t kk zero len ps) ⟨d + 2, hb, tb⟩ k ⟨T, S, D, H, lo, n, rnd⟩ =
    nlal call m F ((bsO kk zero len (ps.map fun p => (p.1 * kk, kk)) (ps.map fun p => ev T p.2)).map .cells) (fun d g => .slice (some ⟨d, 0, some g⟩) len 0) (some d) (.fix lo H.length hb :: k) ⟨T, S, D, H, H.length, n, rnd⟩ := by
  rw [goD_go _ _ _ _ _ _ _ _ _ _ (by simp [clsOk]) trivial, g_lbs]
theorem goD_mks (d t kk zero b l c hb tb T S D H lo n rnd) : goD call m F d (.mks t kk zero b l c) ⟨1, hb, tb⟩ k ⟨T, S, D, H, lo, n, rnd⟩ = nnew call m F (mksA kk zero b (ev T l) (ev T c)) d (.fix lo H.length hb :: k) ⟨T, S, D, H, H.length, n, rnd⟩ := by
  rw [goD_go _ _ _ _ _ _ _ _ _ _ (by simp [clsOk]) trivial, g_mks]
theorem goD_bs (d t kk zero len ps hb tb T S D H lo n rnd) : goD call m F d (.bs t kk zero len ps) ⟨1, hb, tb⟩ k ⟨T, S, D, H, lo, n, rnd⟩ = nnew call m F (bsA kk zero len ps T) d (.fix lo H.length hb :: k) ⟨T, S, D, H, H.length, n, rnd⟩ := by
  rw [goD_go _ _ _ _ _ _ _ _ _ _ (by simp [clsOk]) trivial, g_bs]
def calD (call : CallT) (m : Nat) (F : Ex → St → Option α) (fa : Option (Fn × List Value)) (f : Flag) (d : Option Tmp) (k : List It) (s : St) : Option α :=
  match fa with
  | some (fn, args) => retD call m F (call fn args s.H) f d k s
  | none => none
theorem goD_call1 (d f xs hb tb) : goD call m F d (.call f xs) ⟨1, hb, tb⟩ k s = calD call m F (fargs (ev s.T f) (xs.map (ev s.T))) ⟨1, hb, tb⟩ d k s := by
  rw [goD_call, if_pos rfl]; unfold calD
  cases fargs (ev s.T f) (xs.map (ev s.T)) <;> rfl
theorem cD_some (fn args f d) : calD call m F (some (fn, args)) f d k s = retD call m F (call fn args s.H) f d k s := rfl
theorem rD_ok (v H' lo' f d T S D H lo n rnd) (h : H.length ≤ lo') : retD call m F (some ⟨.ok v, H', lo'⟩) f d k ⟨T, S, D, H, lo, n, rnd⟩ = nxt call m F (some v) d k ⟨T, S, D, H', min lo (min H.length lo'), n, rnd⟩ := by
  simp only [retD]; rw [if_pos (.inl (by simp only [Nat.le_min]; exact ⟨Nat.le_refl _, h⟩))]

/-- Elements are appended. -/
def appB (s : St) (k : Nat) (new : List Value) (a : Option Addr) (l m : Nat) (d : Option Tmp) : Option (Ex × St) :=
      if isLoc (.slice a l m) then none else
      if new.length % k ≠ 0 ∨ l + new.length ≥ small then none else
      if new.isEmpty then putO s d (.slice a l m) else
      match a with
      | none => if l = 0 then putO (newA s new) d (.slice (some ⟨s.H.length, 0, none⟩) (new.length / k) k) else none
      | some a =>
        match a.spot, s.H[a.block]? with
        | none, some ⟨.cells c, true, true, some f⟩ =>
          if m = k ∧ 0 < k ∧ a.off + l * k ≤ c.length then
            let child : Blk := ⟨.cells ((c.drop a.off).take (l * k) ++ new), true, true, some f⟩
            putO (if a.off + l * k = c.length then { s with H := s.H.set a.block ⟨.cells c, true, false, some f⟩ ++ [child] }
              else { s with H := (kill f s.H).set a.block ⟨.cells c, false, false, some f⟩ ++ [child], lo := min s.lo (min f a.block) }) d
              (.slice (some ⟨s.H.length, 0, none⟩) (l + new.length / k) k)
          else none
        | _, _ => none
def ap1 (call : CallT) (m : Nat) (F : Ex → St → Option α) (o : Option (List Value)) (x : Value) (kk : Nat) (d : Option Tmp) (k : List It) (s : St) : Option α :=
  match o, x with
  | some new, .slice a l mm =>
    (match appB s kk new a l mm d with
    | some (.normal, s1) => mach call m F k none s1
    | some (e, s1) => F e s1
    | none => none)
  | _, _ => none
theorem g_app (d t kk x y) : go call m F d (.app t kk x y) k s = ap1 call m F (elemsL s kk (ev s.T y)) (ev s.T x) kk d k s := by
  simp only [go, opR, ap1]
  cases elemsL s kk (ev s.T y) with
  | none => cases ev s.T x <;> rfl
  | some new =>
    cases ev s.T x with
    | slice a l mm => cases a <;> rfl
    | _ => rfl
def ap2 (call : CallT) (m : Nat) (F : Ex → St → Option α) (b : Option Blk) (new : List Value) (p l kk : Nat) (d : Option Tmp) (k : List It) (s : St) : Option α :=
  match b with
  | some ⟨.cells c, true, true, some f⟩ =>
    if new.length % kk = 0 ∧ l + new.length < small ∧ new.isEmpty = false ∧ 0 < kk ∧ l * kk = c.length then
      nxt call m F (some (.slice (some ⟨s.H.length, 0, none⟩) (l + new.length / kk) kk)) d k { s with H := s.H.set p ⟨.cells c, true, false, some f⟩ ++ [⟨.cells (c ++ new), true, true, some f⟩] }
    else ap1 call m F (some new) (.slice (some ⟨p, 0, none⟩) l kk) kk d k s
  | _ => ap1 call m F (some new) (.slice (some ⟨p, 0, none⟩) l kk) kk d k s
theorem apA_tip (new p l kk d) : ap1 call m F (some new) (.slice (some ⟨p, 0, none⟩) l kk) kk d k s = ap2 call m F (s.H[p]?) new p l kk d k s := by
  unfold ap2
  split
  · rename_i c f hH
    by_cases hc : new.length % kk = 0 ∧ l + new.length < small ∧ new.isEmpty = false ∧ 0 < kk ∧ l * kk = c.length
    · rw [if_pos hc]
      obtain ⟨h1, h2, h3, h4, h5⟩ := hc
      have hop : appB s kk new (some ⟨p, 0, none⟩) l kk d = putO { s with H := s.H.set p ⟨.cells c, true, false, some f⟩ ++ [⟨.cells (c ++ new), true, true, some f⟩] } d (.slice (some ⟨s.H.length, 0, none⟩) (l + new.length / kk) kk) := by
        unfold appB
        rw [if_neg (by simp [isLoc]), if_neg (by simp only [not_or, Decidable.not_not]; exact ⟨h1, by omega⟩), if_neg (by simp [h3])]
        simp only [hH]
        rw [if_pos ⟨trivial, h4, by omega⟩, if_pos (by omega)]
        simp only [List.drop_zero]
        rw [List.take_of_length_le (by omega)]
      simp only [ap1, hop]
      exact go_putO
    · rw [if_neg hc]
  · rfl
theorem apB_ok (c f new p l kk d T S D H lo n rnd) (h1 : new.length % kk = 0) (h2 : l + new.length < 1048576) (h3 : new.isEmpty = false) (h4 : 0 < kk) (h5 : l * kk = c.length) :
    ap2 call m F (some ⟨.cells c, true, true, some f⟩) new p l kk d k ⟨T, S, D, H, lo, n, rnd⟩ = nxt call m F (some (.slice (some ⟨H.length, 0, none⟩) (l + new.length / kk) kk)) d k ⟨T, S, D, H.set p ⟨.cells c, true, false, some f⟩ ++ [⟨.cells (c ++ new), true, true, some f⟩], lo, n, rnd⟩ := by
  have h2 : l + new.length < small := h2
  simp only [ap2]; rw [if_pos ⟨h1, h2, h3, h4, h5⟩]
theorem apA_nil (new kk d T S D H lo n rnd) (h1 : new.length % kk = 0) (h2 : new.length < 1048576) (h3 : new.isEmpty = false) :
    ap1 call m F (some new) (.slice none 0 0) kk d k ⟨T, S, D, H, lo, n, rnd⟩ = nxt call m F (some (.slice (some ⟨H.length, 0, none⟩) (new.length / kk) kk)) d k ⟨T, S, D, H ++ [⟨.cells new, true, true, some H.length⟩], lo, n, rnd⟩ := by
  have h2 : new.length < small := h2
  have hop : appB ⟨T, S, D, H, lo, n, rnd⟩ kk new none 0 0 d = putO ⟨T, S, D, H ++ [⟨.cells new, true, true, some H.length⟩], lo, n, rnd⟩ d (.slice (some ⟨H.length, 0, none⟩) (new.length / kk) kk) := by
    unfold appB
    rw [if_neg (by simp [isLoc]), if_neg (by simp only [not_or, Decidable.not_not]; exact ⟨h1, by omega⟩), if_neg (by simp [h3])]
    rfl
  simp only [ap1, hop]
  exact go_putO
theorem goD_app (d t kk x y hb tb T S D H lo n rnd) (h : slotOk y (ev T y) = true) : goD call m F d (.app t kk x y) ⟨1, hb, tb⟩ k ⟨T, S, D, H, lo, n, rnd⟩ = go call m F d (.app t kk x y) (.fix lo H.length hb :: k) ⟨T, S, D, H, H.length, n, rnd⟩ := by
  have h' : clsOk ⟨d, .app t kk x y, none⟩ (Flag.cls ⟨1, hb, tb⟩) ⟨T, S, D, H, lo, n, rnd⟩ = true := by simp [clsOk, h]
  rw [goD_go _ _ _ _ _ _ _ _ _ _ h' trivial]

/-! ### a function -/
variable {F : Ex → St → Option Out}
theorem codeR_mach {c : PCode} : codeR call m c s = mach call m (fun e s => some (e, s)) [.code c] none s := by
  simp only [mach]
  cases codeR call m c s with
  | none => rfl
  | some x => obtain ⟨e, s1⟩ := x; cases e <;> rfl
def fin (pf : PFunc) (H : Heap) (r : Option (Option Value × St)) : Option Out :=
  match r with
  | some (some v, s) => some (gcR H (.panic v) s.H s.lo)
  | some (none, s) => (resR s pf.res).map fun vs => gcR H (.ok (resV vs)) s.H s.lo
  | none => none
def fE (PP : FuncId → Option PFunc) (prims : Prims) (call : CallT) (m : Nat) (pf : PFunc) (H : Heap) (pv : Option Value) (s : St) : Option Out :=
  fin pf H (unw PP prims call m s.D pv s)
def fEnd (PP : FuncId → Option PFunc) (prims : Prims) (call : CallT) (m : Nat) (pf : PFunc) (H : Heap) (e : Ex) (s : St) : Option Out :=
  match endR e with
  | some pv => fE PP prims call m pf H pv s
  | none => none
theorem f_ret (pf H) : fEnd PP prims call m pf H .ret s = fE PP prims call m pf H none s := rfl
theorem f_normal (pf H) : fEnd PP prims call m pf H .normal s = fE PP prims call m pf H none s := rfl
theorem f_panic (pf H v) : fEnd PP prims call m pf H (.panic v) s = fE PP prims call m pf H (some v) s := rfl
theorem fE_ok (pf H T S H1 lo n rnd) : fE PP prims call m pf H none ⟨T, S, [], H1, lo, n, rnd⟩ = (resR ⟨T, S, [], H1, lo, n, rnd⟩ pf.res).map fun vs => gcR H (.ok (resV vs)) H1 lo := rfl
theorem fE_panic (pf H v T S H1 lo n rnd) : fE PP prims call m pf H (some v) ⟨T, S, [], H1, lo, n, rnd⟩ = some (gcR H (.panic v) H1 lo) := rfl

theorem fE_def (pf H pv T S d D H1 lo n rnd) : fE PP prims call m pf H pv ⟨T, S, d :: D, H1, lo, n, rnd⟩ = fin pf H (unw PP prims call m (d :: D) pv ⟨T, S, d :: D, H1, lo, n, rnd⟩) := rfl
theorem fin_ok (pf H T S D H1 lo n rnd) : fin pf H (some (none, ⟨T, S, D, H1, lo, n, rnd⟩)) = (resR ⟨T, S, D, H1, lo, n, rnd⟩ pf.res).map fun vs => gcR H (.ok (resV vs)) H1 lo := rfl
theorem fin_panic (pf H v T S D H1 lo n rnd) : fin pf H (some (some v, ⟨T, S, D, H1, lo, n, rnd⟩)) = some (gcR H (.panic v) H1 lo) := rfl
theorem unw_nil (pv) : unw PP prims call m [] pv s = some (pv, s) := rfl
def unwD (PP : FuncId → Option PFunc) (prims : Prims) (call : CallT) (m : Nat) (r : Option (Heap × Nat × Option Value)) (ds : List PD) (s : St) : Option (Option Value × St) :=
  match r with
  | some (H, lo, pv) => unw PP prims call m ds pv { s with H := H, lo := min s.lo lo }
  | none => none
theorem unw_call (fn args ds pv T S D H lo n rnd) : unw PP prims call m (.call fn args :: ds) pv ⟨T, S, D, H, lo, n, rnd⟩ = unwD PP prims call m (drun PP prims call m fn args H pv) ds ⟨T, S, D, H, lo, n, rnd⟩ := by
  simp only [unw, unwD]
  cases drun PP prims call m fn args H pv <;> rfl
theorem unwD_some (H lo pv ds T S D H0 lo0 n rnd) : unwD PP prims call m (some (H, lo, pv)) ds ⟨T, S, D, H0, lo0, n, rnd⟩ = unw PP prims call m ds pv ⟨T, S, D, H, min lo0 lo, n, rnd⟩ := rfl
def dfin (pf : PFunc) (pv : Option Value) (r : Option (Ex × St)) : Option (Heap × Nat × Option Value) :=
  match r with
  | some (e, s) =>
    match endR e, s.D, resR s pf.res with
    | some none, [], some _ => some (s.H, s.lo, pv)
    | _, _, _ => none
  | none => none
theorem drun_rc {f : FuncId} {pf : PFunc} {d : Tmp} (hp : prims f = none) (hPP : PP f = some pf) {args : List Value} (hn : args.length ≤ pf.n) (hrc : pf.rc = some d) (hd : d < pf.n) (H : Heap) (pv : Option Value) :
    drun PP prims call m (.func f) args H pv = dfin pf none (mach call m (fun e s => some (e, s)) [.code pf.body] none ⟨set args d (pv.getD .nilIface), [], [], H, H.length, pf.n, false⟩) := by
  simp only [drun, hp, hPP, hrc, if_pos hn, if_pos hd, dfin]
  rw [codeR_mach]
  rfl
theorem dfin_n (pf pv T S H lo n rnd) (h : pf.res = []) : dfin pf pv (some (.normal, ⟨T, S, [], H, lo, n, rnd⟩)) = some (H, lo, pv) := by simp [dfin, endR, h, resR]
theorem dfin_r (pf pv T S H lo n rnd) (h : pf.res = []) : dfin pf pv (some (.ret, ⟨T, S, [], H, lo, n, rnd⟩)) = some (H, lo, pv) := by simp [dfin, endR, h, resR]

theorem run_k {f : FuncId} {pf : PFunc} (hp : prims f = none) (hPP : PP f = some pf) {args : List Value} (hn : args.length ≤ pf.n) (hrc : pf.rc = none) (H : Heap) :
    run PP prims (m + 1) (.func f) args H = mach (run PP prims m) m (fEnd PP prims (run PP prims m) m pf H) [.code pf.body] none ⟨args, [], [], H, H.length, pf.n, false⟩ := by
  rw [run]
  simp only [hp, hPP, hrc]
  rw [if_pos ⟨hn, rfl⟩]
  simp only [mach]
  cases codeR (run PP prims m) m pf.body ⟨args, [], [], H, H.length, pf.n, false⟩ with
  | none => rfl
  | some x =>
    obtain ⟨e, s⟩ := x
    cases e <;> rfl

theorem gc_flat {H H1 : Heap} {v : Value} {lo : Nat} (hf : flat 4 v = true) (h : H.length ≤ lo) : gcR H (.ok v) H1 lo = ⟨.ok v, H, H.length⟩ := by
  unfold gcR; rw [if_pos ⟨h, hf⟩]
theorem gc_panic {H H1 : Heap} {v : Value} {lo : Nat} (hf : flat 4 v = true) (h : H.length ≤ lo) : gcR H (.panic v) H1 lo = ⟨.panic v, H, H.length⟩ := by
  unfold gcR; rw [if_pos ⟨h, hf⟩]

end
end Go.Pi
