/- Benches: hours that hands wait and work. -/
import Derived.Test.YtfndfpbdgjoilaaGreatDoorDE
set_option linter.all false
set_option maxRecDepth 100000
namespace Go.Pi.L.Ben
open Go Go.Pi Go.Pi.L Go.Pi.E Go.Pi.Ben BM

theorem en_b {b:Bench}(hf:Fine b)(p:List Int)(g:Bool){n:Nat}(hn:n < b.strokes.length):0≤en b p g n∧en b p g n≤36:=by
 have hd:∀n,durW b (-1) 0 g n≤6:=fun n=>by
  have:=hf.dur n
  unfold durW
  cases g <;> simp only [cond_true,cond_false]
  ·omega
  ·split <;> omega
 refine ⟨(vE_b hf (by decide) (by decide) g n).1,?_⟩
 have:=eN_le (F:=follows b p) (dur:=durW b (-1) 0 g) (D:=6) (by decide) hd n
 have:=hf.n6
 show eN _ _ _≤36
 omega
theorem lastH_mono {f g:Nat→Int}(h:∀n,f n≤g n)(l:List Nat):lastH (l.map f)≤lastH (l.map g):=by
 obtain ⟨_,_,h3⟩:=lastH_spec (l.map f)
 obtain ⟨g1,g2,_⟩:=lastH_spec (l.map g)
 rcases h3 with h3 | h3
 ·omega
 ·obtain ⟨n,hn,e⟩:=List.mem_map.1 h3
  have:=g2 (g n) (List.mem_map.2 ⟨n,hn,rfl⟩)
  have:=h n
  omega
theorem ends_get {b:Bench}{p:List Int}{N j:Nat}(h:j < N):(endsL b p N)[j]?=some (en b p false j,en b p true j):=by simp [endsL,h]
end Go.Pi.L.Ben
set_option maxRecDepth 100000
namespace Go.Pi.L
open Go Go.Pi
end Go.Pi.L
namespace Go.Pi.L.Ben
open Go Go.Pi Go.Pi.L Go.Pi.E Go.Pi.Ben BM

end Go.Pi.L.Ben
