/- Benches: the specification's hours, as they are kept. -/
import Derived.Test.YtfndfpbdgjoilaaGreatDoorDC
set_option linter.all false
set_option maxRecDepth 100000
namespace Go.Pi.L.Ben
open Go Go.Pi Go.Pi.L Go.Pi.E Go.Pi.Ben BM

theorem map_set {β:Type}{f g:Nat→β}{l j:Nat}{x:β}(hj:g j=x)(ho:∀i,i≠j→g i=f i):((List.range l).map f).set j x=(List.range l).map g:=by
 apply List.ext_getElem?
 intro i
 rw [List.getElem?_set]
 by_cases e:j=i
 ·subst e
  rw [if_pos rfl]
  by_cases h:j < l
  ·simp [h,hj]
  ·simp [h]
 ·rw [if_neg e]
  by_cases h:i < l
  ·simp [h,ho i (Ne.symm e)]
  ·simp [h]
theorem rep_cells {β:Type}(enc:β→List Value)(x:β):∀n,rep n (enc x)=cells enc (List.replicate n x)
 | 0=>rfl
 | n+1=>by rw [rep,rep_cells enc x n,List.replicate_succ]; rfl
theorem mks_ok {k:Nat}{z:List Value}{bytes n:Nat}(hn:n < 1000000)(hb:bytes < 1000):mksA k z bytes (.int .i64 n) (.int .i64 n)=some ⟨.cells (rep n z),true,fun i=>.slice (some ⟨i,0,none⟩) n k⟩:=by
 unfold mksA small
 simp only
 rw [if_pos (by omega)]; simp
end Go.Pi.L.Ben
set_option maxRecDepth 100000
namespace Go.Pi.L.Ben
open Go Go.Pi Go.Pi.L Go.Pi.E Go.Pi.Ben BM

end Go.Pi.L.Ben
set_option maxRecDepth 100000
namespace Go.Pi.L.Ben
open Go Go.Pi Go.Pi.L Go.Pi.E Go.Pi.Ben BM

end Go.Pi.L.Ben
set_option maxRecDepth 100000
namespace Go.Pi.L.Ben
open Go Go.Pi Go.Pi.L Go.Pi.E Go.Pi.Ben BM

end Go.Pi.L.Ben
