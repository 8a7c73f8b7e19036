/- What stands outside the layer of benches. -/
import Derived.Test.YtfndfpbdgjoilaaGreatDoorCPb
import Derived.Test.YtfndfpbdgjoilaaGreatDoorPiN
set_option linter.all false
namespace Go.Pi.Ben
open Go Go.Pi Go.Pi.Q

def prims:Prims:=fun f =>
 if f=126 then some (lp pItoa) else if f=127 then some lJoin else if f=165 then some (lp pCount) else if f=166 then some (lp pIndex) else none
def fp (B:Base):FPrims:=fun f =>
 bif Nat.blt f 126 then none else bif Nat.beq f 126 then some (qp pItoa) else bif Nat.beq f 127 then some (qJoin B) else bif Nat.beq f 165 then some (qp pCount) else bif Nat.beq f 166 then some (qp pIndex) else none

theorem pr (f:FuncId)(h1:f≠126:=by decide)(h2:f≠127:=by decide)(h3:f≠165:=by decide)(h4:f≠166:=by decide):prims f=none:=by
 unfold prims; rw [if_neg h1,if_neg h2,if_neg h3,if_neg h4]

theorem prel (B:Base)(Hb:Heap)(g:Q.Good B Hb):PRel B Hb (fp B) prims:=by
 have key:∀f:Nat,fp B f=(if f=126 then some (qp pItoa) else if f=127 then some (qJoin B) else if f=165 then some (qp pCount) else if f=166 then some (qp pIndex) else none):=by
  intro f
  unfold fp
  rw [blt_dec]
  by_cases h:(f:Nat) < 126
  ·have h1:f≠126:=by omega
   have h2:¬(f:Nat)=127:=fun e=>by rw [e] at h; exact absurd h (by decide)
   have h3:¬(f:Nat)=165:=fun e=>by rw [e] at h; exact absurd h (by decide)
   have h4:¬(f:Nat)=166:=fun e=>by rw [e] at h; exact absurd h (by decide)
   simp [h,h1,h2,h3,h4]
  ·simp only [h,decide_false,cond_false,beq_dec]
   by_cases h1:f=126 <;> by_cases h2:f=127 <;> by_cases h3:f=165 <;> by_cases h4:f=166 <;> simp [h1,h2,h3,h4]
 refine ⟨fun f hf=>?_,fun f q hf=>?_⟩
 ·rw [key] at hf
  unfold prims
  by_cases h1:f=126
  ·rw [if_pos h1] at hf; cases hf
  by_cases h2:f=127
  ·rw [if_neg h1,if_pos h2] at hf; cases hf
  by_cases h3:f=165
  ·rw [if_neg h1,if_neg h2,if_pos h3] at hf; cases hf
  by_cases h4:f=166
  ·rw [if_neg h1,if_neg h2,if_neg h3,if_pos h4] at hf; cases hf
  rw [if_neg h1,if_neg h2,if_neg h3,if_neg h4]
 ·rw [key] at hf
  unfold prims
  by_cases h1:f=126
  ·rw [if_pos h1] at hf ⊢; cases hf; exact ⟨_,rfl,lp_rel _⟩
  by_cases h2:f=127
  ·rw [if_neg h1,if_pos h2] at hf ⊢; cases hf; exact ⟨_,rfl,lJoin_rel g⟩
  by_cases h3:f=165
  ·rw [if_neg h1,if_neg h2,if_pos h3] at hf ⊢; cases hf; exact ⟨_,rfl,lp_rel _⟩
  by_cases h4:f=166
  ·rw [if_neg h1,if_neg h2,if_neg h3,if_pos h4] at hf ⊢; cases hf; exact ⟨_,rfl,lp_rel _⟩
  rw [if_neg h1,if_neg h2,if_neg h3,if_neg h4] at hf
  cases hf

theorem pkeeps:∀f g,prims f=some g→∀args H out,g args H=some out→Fam H→Fam out.H∧Same out.lo H out.H:=by
 intro f g hf
 unfold prims at hf
 by_cases h1:f=126
 ·rw [if_pos h1] at hf; cases hf; exact lp_keeps _
 by_cases h2:f=127
 ·rw [if_neg h1,if_pos h2] at hf; cases hf; exact lJoin_keeps
 by_cases h3:f=165
 ·rw [if_neg h1,if_neg h2,if_pos h3] at hf; cases hf; exact lp_keeps _
 by_cases h4:f=166
 ·rw [if_neg h1,if_neg h2,if_neg h3,if_pos h4] at hf; cases hf; exact lp_keeps _
 rw [if_neg h1,if_neg h2,if_neg h3,if_neg h4] at hf
 cases hf
end Go.Pi.Ben
