/- Benches: Check, Ends, Waits, Late, Done. -/
import Derived.Test.YtfndfpbdgjoilaaGreatDoorDB
import Derived.Test.YtfndfpbdgjoilaaGreatDoorLB
set_option linter.all false
set_option maxRecDepth 100000
namespace Go.Pi.L.Ben
open Go Go.Pi Go.Pi.L Go.Pi.E Go.Pi.Ben BM

def encP (x:Int×Int):List Value:=[.int .i64 x.1,.int .i64 x.2]
theorem encP_len (x:Int×Int):(encP x).length=2:=rfl
abbrev en (b:Bench)(p:List Int)(g:Bool)(n:Nat):Int:=vE b p (-1) 0 g n
abbrev be (b:Bench)(p:List Int)(g:Bool)(n:Nat):Int:=vB b p (-1) 0 g n
end Go.Pi.L.Ben
set_option maxRecDepth 100000
namespace Go.Pi.L.Ben
open Go Go.Pi Go.Pi.L Go.Pi.E Go.Pi.Ben BM

end Go.Pi.L.Ben
set_option maxRecDepth 100000
namespace Go.Pi.L.Ben
open Go Go.Pi Go.Pi.L Go.Pi.E Go.Pi.Ben BM

end Go.Pi.L.Ben
set_option maxRecDepth 100000
namespace Go.Pi.L.Ben
open Go Go.Pi Go.Pi.L Go.Pi.E Go.Pi.Ben BM

theorem keepL:∀f g,primsL f=some g→∀args H out,g args H=some out→Fam H→Fam out.H∧Same out.lo H out.H:=by
 intro f g hf
 unfold primsL at hf
 by_cases h:f=25
 ·rw [if_pos h] at hf
  cases hf
  intro args H out ho hF
  dsimp only at ho
  split at ho
  ·cases ho; exact ⟨hF,Same.refl _ _⟩
  ·cases ho
 ·rw [if_neg h] at hf
  by_cases h2:f=96
  ·rw [if_pos h2] at hf
   cases hf
   exact fun args H out ho hF=>Go.Pi.Q.sort_keep ho hF
  ·rw [if_neg h2] at hf
   by_cases h3:f=97
   ·rw [if_pos h3] at hf
    cases hf
    exact fun args H out ho hF=>Go.Pi.Q.compact_keep ho hF
   ·rw [if_neg h3] at hf; exact Go.Pi.Ben.pkeeps f g hf
theorem famR {fn:Fn}{args:List Value}{H:Heap}{o:Out}(h:R fn args H=some o)(hF:Fam H):Fam o.H:=runL_fam keepL h hF

theorem _root_.Go.Pi.L.Bld.grown' {n0:Nat}{H H1:Heap}{k l m:Nat}{a a':Option Addr}{c:List Value}(h:Bld n0 H k a l m c)(g:Grown H H1 a')(hne:a=a'→a=none):Bld n0 H1 k a l m c:=by
 by_cases e:a=a'
 ·have:=hne e
  subst e; subst this
  refine ⟨h.len,?_⟩
  rcases h.ok with h | ⟨b,f,h1,_⟩
  ·exact .inl h
  ·cases h1
 ·exact h.grown g e
end Go.Pi.L.Ben
