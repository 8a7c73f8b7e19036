/- Benches: a plan at work: what is noted, the stroke before, when a hand is free. -/
import Derived.Test.YtfndfpbdgjoilaaGreatDoorDA
import Derived.Test.YtfndfpbdgjoilaaGreatDoorLB
set_option linter.all false
set_option maxRecDepth 100000
namespace Go.Pi.L
open Go Go.Pi
theorem Grown.at {H H1:Heap}{n0 k l m i:Nat}{a:Option Addr}{c:List Value}(h:Bld n0 H k a l m c)(g:Grown H H1 a)(hi:i < n0)(hl:i < H.length):H1[i]?=H[i]? :=
 g.old i hl (fun b hb=>by
  rcases h.ok with ⟨h,_⟩ | ⟨b',f,h1,_,h3,_⟩
  ·rw [hb] at h; cases h
  ·rw [hb] at h1; cases h1; omega)
end Go.Pi.L
namespace Go.Pi.L.Ben
open Go Go.Pi Go.Pi.L Go.Pi.E Go.Pi.Ben BM

def wI:Bool→Int | false=>0 | true=>1
def keyOf (i d:Int):Value:=.agg #[.int .i64 i,.int .i64 d]
def Memo (V:Bool→Nat→Int)(es:List (Value×Value)):Prop:=∀e∈es,∃(n:Nat) (g:Bool),e=(keyOf n (wI g),.int .i64 (V g n))
theorem Memo.upd {V:Bool→Nat→Int}{es:List (Value×Value)}(h:Memo V es)(n:Nat)(g:Bool):Memo V (Go.Pi.L.upd (keyOf n (wI g)) (.int .i64 (V g n)) es):=by
 intro e he
 unfold Go.Pi.L.upd at he
 split at he
 ·rcases List.mem_or_eq_of_mem_set he with h1 | h1
  ·exact h e h1
  ·exact ⟨n,g,h1⟩
 ·rcases List.mem_append.1 he with h1 | h1
  ·exact h e h1
  ·exact ⟨n,g,by simpa using h1⟩
abbrev mSh:Shape:=.agg [.i .i64,.i .i64]
def Mp (V:Bool→Nat→Int)(H:Heap)(mb:Nat):Prop:=∃es,H[mb]?=some ⟨.map mSh es,true,true,none⟩∧Memo V es
section
variable {V:Bool→Nat→Int} {H H':Heap} {mb:Nat}
theorem Mp.lt (h:Mp V H mb):mb < H.length:=by obtain ⟨es,h,_⟩:=h; exact (List.getElem?_eq_some_iff.1 h).1
theorem Mp.hc (h:Mp V H mb):hcells H mb=none:=by obtain ⟨es,h,_⟩:=h; simp [hcells,h]
theorem Mp.same (h:Mp V H mb)(e:H'[mb]?=H[mb]?):Mp V H' mb:=by obtain ⟨es,h,h'⟩:=h; exact ⟨es,e.trans h,h'⟩
theorem Mp.up (h:Mp V H mb)(u:Up H H'):Mp V H' mb:=h.same (u.old _ h.lt)
end
structure WkR where
 be:BeR
 pa:Option Addr
 pl:Nat
 pk:Nat
 mb:Nat
 lg:Int
 by_:Int
def durW (b:Bench)(lg by_:Int)(g:Bool)(n:Nat):Int:=bif g then (if (n:Int)=lg then high b n+by_ else high b n) else low b n
def vE (b:Bench)(p:List Int)(lg by_:Int)(g:Bool)(n:Nat):Int:=eN (follows b p) (durW b lg by_ g) n
def vB (b:Bench)(p:List Int)(lg by_:Int)(g:Bool)(n:Nat):Int:=bN (follows b p) (durW b lg by_ g) n
abbrev V (b:Bench)(p:List Int)(r:WkR):Bool→Nat→Int:=vE b p r.lg r.by_
end Go.Pi.L.Ben
set_option maxRecDepth 100000
namespace Go.Pi.L
open Go Go.Pi
theorem app_get {H:Heap}{b:Blk}:(H++[b])[H.length]?=some b:=by simp
end Go.Pi.L
namespace Go.Pi.L.Ben
open Go Go.Pi Go.Pi.L Go.Pi.E Go.Pi.Ben BM

theorem kept_of {V:Bool→Nat→Int}{H H1:Heap}{mb:Nat}(hc:Chg (·=mb) H H1)(hm:Mp V H mb)(hm1:Mp V H1 mb):Kept H H1:=by
 intro b x hx
 by_cases hb:b=mb
 ·subst hb
  obtain ⟨es,h1,_⟩:=hm
  obtain ⟨es1,h2,_⟩:=hm1
  rw [h1] at hx
  cases hx
  exact ⟨_,h2,.inr ⟨rfl,rfl⟩⟩
 ·exact ⟨x,by rw [hc.old b (List.getElem?_eq_some_iff.1 hx).1 hb]; exact hx,.inl ⟨rfl,rfl⟩⟩
theorem take_get {β:Type}{l:List β}{j:Nat}{x:β}(h:l[j]?=some x):l.take (j+1)=l.take j++[x]:=by
 rw [List.take_add_one,h]; rfl
end Go.Pi.L.Ben
set_option maxRecDepth 100000
namespace Go.Pi.L.Ben
open Go Go.Pi Go.Pi.L Go.Pi.E Go.Pi.Ben BM

theorem gc_keep {H H1:Heap}{v:Value}{lo:Nat}(h:flat 4 v=false):gcR H (.ok v) H1 lo=⟨.ok v,H1,lo⟩:=by
 simp [gcR,h]
end Go.Pi.L.Ben
