/- Benches: a plan at work: what is noted, the stroke before, when a hand is free. -/
import Derived.Test.YtjgmlngcknehhaaGreatVA
set_option linter.all false
set_option maxRecDepth 100000
namespace Go.Pi.L
open Go Go.Pi
theorem Chg.grow_map {i:Nat}{H H':Heap}(h:Chg (·=i) H H')(hm:hcells H i=none):Grow H H':=⟨h.len,fun {b c} hb=>by
 by_cases e:b=i
 ·subst e; rw [hm] at hb; cases hb
 ·have hl:=hc_lt hb
  unfold hcells at hb ⊢
  rw [h.old b hl e]; exact hb⟩
theorem Bld.chg {A:Nat→Prop}{n0:Nat}{H H1:Heap}{k l m:Nat}{a:Option Addr}{c:List Value}(h:Bld n0 H k a l m c)(hc:Chg A H H1)(ha:∀i,A i→i < n0):Bld n0 H1 k a l m c :=
 ⟨h.len,by
  rcases h.ok with h | ⟨b,f,h1,h2,h3,h4,h5⟩
  ·exact .inl h
  ·exact .inr ⟨b,f,h1,h2,h3,h4,by rw [hc.old b (List.getElem?_eq_some_iff.1 h5).1 (fun hA=>by have:=ha b hA; omega)]; exact h5⟩⟩
theorem Grown.chg {A:Nat→Prop}{H0 H H1:Heap}{n0 k l m:Nat}{a:Option Addr}{c:List Value}(h:Bld n0 H k a l m c)(g:Grown H H1 a)(hc:Chg A H0 H)(hn:H0.length≤n0):Chg A H0 H1 :=
 ⟨by have:=hc.len; have:=g.len; omega,fun i hi hA=>by
  rw [g.old i (Nat.lt_of_lt_of_le hi hc.len) (fun b hb=>by
   rcases h.ok with ⟨h,_⟩ | ⟨b',f,h1,_,h3,_⟩
   ·rw [hb] at h; cases h
   ·rw [hb] at h1; cases h1; omega),hc.old i hi hA]⟩
theorem Grown.at {H H1:Heap}{n0 k l m i:Nat}{a:Option Addr}{c:List Value}(h:Bld n0 H k a l m c)(g:Grown H H1 a)(hi:i < n0)(hl:i < H.length):H1[i]?=H[i]? :=
 g.old i hl (fun b hb=>by
  rcases h.ok with ⟨h,_⟩ | ⟨b',f,h1,_,h3,_⟩
  ·rw [hb] at h; cases h
  ·rw [hb] at h1; cases h1; omega)
end Go.Pi.L
namespace Go.Pi.L.Ch
open Go Go.Pi Go.Pi.L Go.Pi.E Go.Pi.Top BM

def wI:Bool→Int | false=>0 | true=>1
theorem wI_inj {g g':Bool}(h:wI g=wI g'):g=g':=by cases g <;> cases g' <;> simp [wI] at h ⊢
def keyOf (i d:Int):Value:=.agg #[.int .i64 i,.int .i64 d]
theorem eqk_key {a b c d:Int}(h:eqk (keyOf a b) (keyOf c d)=true):a=c∧b=d:=by
 simpa [eqk,keyOf,eqs,eqv] using h
theorem kfind_mem {key v:Value}:∀{es:List (Value×Value)} {j:Nat},kfind key es=some (j,v)→∃k,(k,v)∈es∧eqk key k=true
 | [],_,h=>by cases h
 | (k,w) :: es,j,h=>by
  simp only [kfind] at h
  split at h
  ·rename_i hk
   cases h
   exact ⟨k,List.mem_cons_self ..,hk⟩
  ·rw [Option.map_eq_some_iff] at h
   obtain ⟨⟨j',w'⟩,h1,h2⟩:=h
   cases h2
   obtain ⟨k',h3,h4⟩:=kfind_mem h1
   exact ⟨k',List.mem_cons_of_mem _ h3,h4⟩
def Memo (V:Bool→Nat→Int)(es:List (Value×Value)):Prop:=∀e∈es,∃(n:Nat) (g:Bool),e=(keyOf n (wI g),.int .i64 (V g n))
theorem Memo.find {V:Bool→Nat→Int}{es:List (Value×Value)}(h:Memo V es){n j:Nat}{g:Bool}{v:Value}(hk:kfind (keyOf n (wI g)) es=some (j,v)):v=.int .i64 (V g n):=by
 obtain ⟨k,h1,h2⟩:=kfind_mem hk
 obtain ⟨n',g',he⟩:=h _ h1
 cases he
 obtain ⟨h3,h4⟩:=eqk_key h2
 have h3:n=n':=by omega
 have h4:=wI_inj h4
 subst h3; subst h4; rfl
theorem Memo.upd {V:Bool→Nat→Int}{es:List (Value×Value)}(h:Memo V es)(n:Nat)(g:Bool):Memo V (Go.Pi.L.upd (keyOf n (wI g)) (.int .i64 (V g n)) es):=by
 intro e he
 unfold Go.Pi.L.upd at he
 split at he
 ·rcases List.mem_or_eq_of_mem_set he with h1 | h1
  ·exact h e h1
  ·exact ⟨n,g,h1⟩
 ·rcases List.mem_append.1 he with h1 | h1
  ·exact h e h1
  ·exact ⟨n,g,by simpa using h1⟩
abbrev mSh:Shape:=.agg [.i .i64,.i .i64]
def Mp (V:Bool→Nat→Int)(H:Heap)(mb:Nat):Prop:=∃es,H[mb]?=some ⟨.map mSh es,true,true,none⟩∧Memo V es
section
variable {V:Bool→Nat→Int} {H H':Heap} {mb:Nat}
theorem Mp.lt (h:Mp V H mb):mb < H.length:=by obtain ⟨es,h,_⟩:=h; exact (List.getElem?_eq_some_iff.1 h).1
theorem Mp.hc (h:Mp V H mb):hcells H mb=none:=by obtain ⟨es,h,_⟩:=h; simp [hcells,h]
theorem Mp.same (h:Mp V H mb)(e:H'[mb]?=H[mb]?):Mp V H' mb:=by obtain ⟨es,h,h'⟩:=h; exact ⟨es,e.trans h,h'⟩
theorem Mp.up (h:Mp V H mb)(u:Up H H'):Mp V H' mb:=h.same (u.old _ h.lt)
end
def QG (V:Bool→Nat→Int)(H:Heap)(mb:Nat)(x:Int)(o:Out):Prop:=∃H1 lo,o=⟨.ok (.int .i64 x),H1,lo⟩∧Chg (·=mb) H H1∧Mp V H1 mb∧mb≤lo
theorem gc_i {V:Bool→Nat→Int}{H H1:Heap}{x:Int}{lo mb:Nat}(hc:Chg (·=mb) H H1)(hm:Mp V H mb)(hm1:Mp V H1 mb)(hl:mb≤lo):QG V H mb x (gcR H (.ok (.int .i64 x)) H1 lo):=by
 simp only [gcR]
 split
 ·exact ⟨H,H.length,rfl,Chg.refl _ _,hm,Nat.le_of_lt hm.lt⟩
 ·exact ⟨H1,lo,rfl,hc,hm1,hl⟩

structure WkR where
 be:BeR
 pa:Option Addr
 pl:Nat
 pk:Nat
 mb:Nat
 lg:Int
 by_:Int
structure WkOk (H:Heap)(r:WkR)(b:Bench)(p:List Int):Prop where
 be:BeOk H r.be b
 pl:Ints H r.pa r.pl p
 fi:Fine b
 len:p.length=b.strokes.length
 by0:0≤r.by_
 by9:r.by_≤9
theorem WkOk.grow {H H':Heap}{r:WkR}{b:Bench}{p:List Int}(h:WkOk H r b p)(g:Grow H H'):WkOk H' r b p:=⟨h.be.grow g,h.pl.grow g,h.fi,h.len,h.by0,h.by9⟩
theorem WkOk.sl {H:Heap}{r:WkR}{b:Bench}{p:List Int}(h:WkOk H r b p):r.be.sl=b.strokes.length:=h.be.len.symm
theorem WkOk.pln {H:Heap}{r:WkR}{b:Bench}{p:List Int}(h:WkOk H r b p):r.pl=b.strokes.length:=by rw [←h.len]; exact h.pl.len.symm
def durW (b:Bench)(lg by_:Int)(g:Bool)(n:Nat):Int:=bif g then (if (n:Int)=lg then high b n+by_ else high b n) else low b n
def vE (b:Bench)(p:List Int)(lg by_:Int)(g:Bool)(n:Nat):Int:=eN (follows b p) (durW b lg by_ g) n
def vB (b:Bench)(p:List Int)(lg by_:Int)(g:Bool)(n:Nat):Int:=bN (follows b p) (durW b lg by_ g) n
theorem durW_b {b:Bench}(h:Fine b){lg by_:Int}(h0:0≤by_)(h9:by_≤9)(g:Bool)(n:Nat):1≤durW b lg by_ g n∧durW b lg by_ g n≤15:=by
 have:=h.dur n
 unfold durW
 cases g <;> simp only [cond_true,cond_false]
 ·omega
 ·split <;> omega
theorem vE_b {b:Bench}(h:Fine b){p:List Int}{lg by_:Int}(h0:0≤by_)(h9:by_≤9)(g:Bool)(n:Nat):0≤vE b p lg by_ g n∧vE b p lg by_ g n≤15*((n:Int)+1) :=
 ⟨eN_pos (fun n=>by have:=(durW_b h h0 h9 (lg:=lg) g n).1; omega) n,eN_le (by decide) (fun n=>(durW_b h h0 h9 g n).2) n⟩

theorem getD_of {p:List Int}{i:Nat}{x:Int}(h:p[i]?=some x):p.getD i 0=x:=by rw [List.getD_eq_getElem?_getD,h]; rfl
def bfV:Option Nat→Value
 | some k=>.tuple #[.int .i64 (k:Nat),.bool true]
 | none=>.tuple #[.int .i64 0,.bool false]
theorem c169 {H:Heap}{r:WkR}{b:Bench}{p:List Int}(hw:WkOk H r b p){n:Nat}(hn:n < b.strokes.length) :
  ∀H',Grow H H'→R (.func 169) [.agg #[.int .i64 r.be.app,.slice r.be.ba r.be.bl r.be.bk,.slice r.be.sa r.be.sl r.be.sk,.slice r.pa r.pl r.pk,.map (some r.mb),.int .i64 r.lg,.int .i64 r.by_],.int .i64 n] H'=some ⟨.ok (bfV (beforeN p n n)),H',H'.length⟩:=by
 intro H' hg
 refine run_k (pr 169) P169 (by simp [p169]) rfl ?_
 have hpl:=hw.pln
 have n6:=hw.fi.n6
 obtain ⟨⟨app,ba,bl,bk,sa,sl,sk,xs⟩,pa,pl,pk,mb,lg,by_⟩:=r
 have hB:Ints H ba bl b.boards:=hw.be.br
 have hS:Sl H 5 eK sa sl xs:=hw.be.st
 have hP:Ints H pa pl p:=hw.pl
 have l1:=hB.isLoc bk
 have l2:=hS.isLoc sk
 have l3:=hP.isLoc pk
 simp only at hpl ⊢
 have lm:isLoc (.map (some mb))=false:=rfl
 obtain ⟨b2,o2,y,hpa,hy,f1⟩:=hP.i1 (j:=n) (by omega)
 have f1:=f1 H' hg
 have hn':n < pl:=by omega
 have w0:IntKind.wrap .i64 ((n:Int) - 1)=(n:Int) - 1 - ((0:Nat):Int):=by rw [wrap_id _ (by omega) (by omega)]; omega
 simp (maxDischargeDepth:=8) only [↓SD,SU,SV,SW,simprocAttr,Int.cast_ofNat_Int,small,resV, B169,R169,N169,b169, l1,l2,l3,lm,w0]
 refine loop_ind (G:=(·=_)) (fun j σ=>∃T S,σ=⟨T,S,[],H',(H').length,25,false⟩∧get T 1=.int .i64 n∧get T 2=.pointer (some ⟨2,0,some 1⟩)∧get T 6=.int .i64 ((n:Int) - 1 - (j:Nat))∧sget S 2=(1,.cells [.int .i64 app,.slice ba bl bk,.slice sa sl sk,.slice pa pl pk,.map (some mb),.int .i64 lg,.int .i64 by_])∧(beforeN p n (n - j)=beforeN p n n)) (n) ?_ ?_ 0 _ (Nat.zero_le _) ⟨_,_,rfl,rfl,rfl,rfl,rfl,rfl⟩
 ·rintro c' j s hj ⟨T,S,rfl,t1,t2,t6,s0,hp⟩ ih
  obtain ⟨i,hi⟩:∃i:Nat,n=i+1+j:=⟨n - 1 - j,by omega⟩
  have e0:(n:Int) - 1 - (j:Nat)=(i:Nat):=by omega
  rw [e0] at t6
  have e1:(0:Int)≤(i:Nat):=by omega
  obtain ⟨b3,o3,x,hpa',hx,f2⟩:=hP.i1 (j:=i) (by omega)
  have f2:=f2 H' hg
  rw [hpa] at hpa'
  cases hpa'
  have hip:i < pl:=by omega
  have w1:IntKind.wrap .i64 ((i:Int) - 1)=(n:Int) - 1 - ((j+1:Nat):Int):=by rw [wrap_id _ (by omega) (by omega)]; omega
  rw [show n - j=i+1 by omega,beforeN,getD_of hx,getD_of hy] at hp
  by_cases q:x=y
  ·rw [if_pos q] at hp
   simp (maxDischargeDepth:=8) only [↓SD,SU,SV,SW,simprocAttr,Int.cast_ofNat_Int,small,resV, q169x0,t1,t2,t6,s0, lt_nat,l1,l2,l3,lm,e1,hpa,hn',hip,f1,f2,Int.toNat_natCast,q,R169,N169,←hp,bfV]
  ·rw [if_neg q] at hp
   simp (maxDischargeDepth:=8) only [↓SD,SU,SV,SW,simprocAttr,Int.cast_ofNat_Int,small,resV, q169x0,t1,t2,t6,s0, lt_nat,l1,l2,l3,lm,e1,hpa,hn',hip,f1,f2,Int.toNat_natCast,q,w1]
   exact ih _ ⟨_,_,rfl,(by simp [get_set,t1] <;> omega),(by simp [get_set,t2] <;> omega),(by simp [get_set,t6] <;> omega),by simp [sget_sset,s0],by rw [show n - (j+1)=i by omega]; exact hp⟩
 ·rintro c' s ⟨T,S,rfl,t1,t2,t6,s0,hp⟩
  have e1:¬(0:Int)≤(n:Int) - 1 - (n:Nat):=by omega
  rw [Nat.sub_self,beforeN] at hp
  simp (maxDischargeDepth:=8) only [↓SD,SU,SV,SW,simprocAttr,Int.cast_ofNat_Int,small,resV, q169x0,t1,t2,t6,s0, lt_nat,l1,l2,l3,lm,e1,R169,N169,←hp,bfV]
theorem c95 {H:Heap}{a:Option Addr}{l kk:Nat}{xs:List Int}(hs:Ints H a l xs)(hl:l < 1000000) :
  ∀H',Grow H H'→R (.func 95) [.slice a l kk] H'=some ⟨.ok (.int .i64 (lastH xs)),H',H'.length⟩:=by
 intro H' hg
 refine run_k (pr 95) P95 (by simp [p95]) rfl ?_
 have l1:=hs.isLoc kk
 simp (maxDischargeDepth:=8) only [↓SD,SU,SV,SW,simprocAttr,Int.cast_ofNat_Int,small,resV, B95,R95,N95,b95, l1]
 refine loop_ind (G:=(·=_)) (fun j σ=>∃T m,σ=⟨T,[],[],H',(H').length,17,false⟩∧get T 3=.int .i64 m∧get T 6=.slice a l kk∧get T 7=.int .i64 l∧get T 8=.int .i64 (j:Nat)∧((xs.drop j).foldl max m=lastH xs)) (l) ?_ ?_ 0 _ (Nat.zero_le _) ⟨_,_,rfl,rfl,rfl,rfl,rfl,rfl⟩
 ·rintro c' j s hj ⟨T,m,rfl,t3,t6,t7,t8,hp⟩ ih
  obtain ⟨b1,o1,x,hxa,hx,e1⟩:=hs.i1 hj
  have e1:=e1 H' hg
  have hw:=wrap_succ j (by omega)
  rw [drop_cons hx,List.foldl_cons] at hp
  simp (maxDischargeDepth:=8) only [↓SD,SU,SV,SW,simprocAttr,Int.cast_ofNat_Int,small,resV, q95x0,t3,t6,t7,t8, lt_nat,hj,l1,hxa,e1,hw]
  exact ih _ ⟨_,(_),rfl,(by simp [get_set,t3] <;> omega),(by simp [get_set,t6] <;> omega),(by simp [get_set,t7] <;> omega),(by simp [get_set,t8] <;> omega),hp⟩
 ·rintro c' s ⟨T,m,rfl,t3,t6,t7,t8,hp⟩
  rw [drop_all hs.len,List.foldl_nil] at hp
  simp (maxDischargeDepth:=8) only [↓SD,SU,SV,SW,simprocAttr,Int.cast_ofNat_Int,small,resV, q95x0,t3,t6,t7,t8, lt_nat,Nat.lt_irrefl,l1,R95,N95,hp]

abbrev V (b:Bench)(p:List Int)(r:WkR):Bool→Nat→Int:=vE b p r.lg r.by_
def EndsTo (H:Heap)(r:WkR)(b:Bench)(p:List Int)(n:Nat):Prop:=∀k,k < n→∀g H',Grow H H'→Mp (V b p r) H' r.mb→Yes (R (.func 94) [.agg #[.int .i64 r.be.app,.slice r.be.ba r.be.bl r.be.bk,.slice r.be.sa r.be.sl r.be.sk,.slice r.pa r.pl r.pk,.map (some r.mb),.int .i64 r.lg,.int .i64 r.by_],.int .i64 k,.int .i64 (wI g)] H') (QG (V b p r) H' r.mb (vE b p r.lg r.by_ g k))
theorem loc_m (i:Nat):isLoc (.map (some i))=false:=rfl
theorem c157 {H:Heap}{r:WkR}{b:Bench}{p:List Int}(hw:WkOk H r b p){n:Nat}(hn:n < b.strokes.length)(IH:EndsTo H r b p n)(g:Bool) :
  ∀H',Grow H H'→Mp (V b p r) H' r.mb→Yes (R (.func 157) [.agg #[.int .i64 r.be.app,.slice r.be.ba r.be.bl r.be.bk,.slice r.be.sa r.be.sl r.be.sk,.slice r.pa r.pl r.pk,.map (some r.mb),.int .i64 r.lg,.int .i64 r.by_],.int .i64 n,.int .i64 (wI g)] H') (QG (V b p r) H' r.mb (freeN p (vE b p r.lg r.by_ g) n)):=by
 intro H' hg hm
 refine run_y (pr 157) P157 (by simp [p157]) rfl ?_
 have k1:=c169 hw hn H' hg
 have IH:=IH
 unfold EndsTo V at IH
 unfold freeN
 unfold V at hm ⊢
 obtain ⟨⟨app,ba,bl,bk,sa,sl,sk,xs⟩,pa,pl,pk,mb,lg,by_⟩:=r
 have hB:Ints H ba bl b.boards:=hw.be.br
 have hS:Sl H 5 eK sa sl xs:=hw.be.st
 have hP:Ints H pa pl p:=hw.pl
 have l1:=hB.isLoc bk
 have l2:=hS.isLoc sk
 have l3:=hP.isLoc pk
 simp only at k1 IH hm ⊢
 cases hb:beforeN p n n with
 | none =>
  rw [hb] at k1
  simp only [bfV] at k1
  simp (maxDischargeDepth:=8) only [↓SD,SU,SV,SW,simprocAttr,Int.cast_ofNat_Int,small,resV, B157,R157,N157,b157, l1,l2,l3,loc_m,k1,R157,N157]
  rw [yes_some]
  exact ⟨_,_,rfl,Chg.refl _ _,hm,Nat.le_of_lt hm.lt⟩
 | some k =>
  rw [hb] at k1
  simp only [bfV] at k1
  obtain ⟨o,ho,H3,lo3,rfl,ch3,hm3,hl3⟩:=IH k (before_some hb).1 g H' hg hm
  simp (maxDischargeDepth:=8) only [↓SD,SU,SV,SW,simprocAttr,Int.cast_ofNat_Int,small,resV, B157,R157,N157,b157, l1,l2,l3,loc_m,k1,ho,R157,N157]
  rw [yes_some]
  exact gc_i ch3 hm hm3 (by have:=hm.lt; omega)
end Go.Pi.L.Ch
set_option maxRecDepth 100000
namespace Go.Pi.L
open Go Go.Pi
theorem app_set {H:Heap}{b b':Blk}:(H++[b]).set H.length b'=H++[b']:=by simp
theorem app_get {H:Heap}{b:Blk}:(H++[b])[H.length]?=some b:=by simp
end Go.Pi.L
namespace Go.Pi.L.Ch
open Go Go.Pi Go.Pi.L Go.Pi.E Go.Pi.Top BM

theorem kept_of {V:Bool→Nat→Int}{H H1:Heap}{mb:Nat}(hc:Chg (·=mb) H H1)(hm:Mp V H mb)(hm1:Mp V H1 mb):Kept H H1:=by
 intro b x hx
 by_cases hb:b=mb
 ·subst hb
  obtain ⟨es,h1,_⟩:=hm
  obtain ⟨es1,h2,_⟩:=hm1
  rw [h1] at hx
  cases hx
  exact ⟨_,h2,.inr ⟨rfl,rfl⟩⟩
 ·exact ⟨x,by rw [hc.old b (List.getElem?_eq_some_iff.1 hx).1 hb]; exact hx,.inl ⟨rfl,rfl⟩⟩
theorem needs_get {nd:List Nat}{l:List Int}(h:l=nd.map fun k:Nat=>(k:Int)){j:Nat}{x:Int}(hx:l[j]?=some x):∃k,nd[j]?=some k∧x=(k:Nat):=by
 rw [h,List.getElem?_map,Option.map_eq_some_iff] at hx
 obtain ⟨k,h1,h2⟩:=hx
 exact ⟨k,h1,h2.symm⟩
theorem take_get {β:Type}{l:List β}{j:Nat}{x:β}(h:l[j]?=some x):l.take (j+1)=l.take j++[x]:=by
 rw [List.take_add_one,h]; rfl
theorem pw_len:∀{l:List Nat} {n:Nat},l.Pairwise (· < ·)→(∀x∈l,x < n)→l.length≤n:=by
 intro l n h hl
 have:∀(l:List Nat) (m:Nat),l.Pairwise (· < ·)→(∀x∈l,m≤x∧x < n)→l.length+m≤max n m:=by
  intro l
  induction l with
  | nil=>intro m _ _; simp; omega
  | cons x l ih =>
   intro m hp hx
   obtain ⟨h1,h2⟩:=List.pairwise_cons.1 hp
   have h3:=hx x (List.mem_cons_self ..)
   have:=ih (x+1) h2 (fun y hy=>⟨h1 y hy,(hx y (List.mem_cons_of_mem _ hy)).2⟩)
   simp only [List.length_cons]; omega
 have:=this l 0 h (fun x hx=>⟨Nat.zero_le _,hl x hx⟩)
 omega
theorem c129 {H:Heap}{r:WkR}{b:Bench}{p:List Int}(hw:WkOk H r b p){n:Nat}(hn:n < b.strokes.length)(IH:EndsTo H r b p n)(g:Bool) :
  ∀H',Grow H H'→Mp (V b p r) H' r.mb→Yes (R (.func 129) [.agg #[.int .i64 r.be.app,.slice r.be.ba r.be.bl r.be.bk,.slice r.be.sa r.be.sl r.be.sk,.slice r.pa r.pl r.pk,.map (some r.mb),.int .i64 r.lg,.int .i64 r.by_],.int .i64 n,.int .i64 (wI g)] H') (QG (V b p r) H' r.mb (vB b p r.lg r.by_ g n)):=by
 intro H' hg hm
 refine run_y (pr 129) P129 (by simp [p129]) rfl ?_
 have n6:=hw.fi.n6
 have hsl:=hw.sl
 obtain ⟨o,ho,H1,lo1,rfl,ch1,hm1,hl1⟩:=c157 hw hn IH g H' hg hm
 obtain ⟨b1,o1,x,hsa,hx,e4⟩:=hw.be.st.k5 (j:=n) (by omega)
 have e4:=e4.v4
 have hN:=hw.be.nd x (mem_drop hx)
 obtain ⟨nd,hnd,hlt,hpw⟩:=hw.fi.needs n x.s (hw.be.at hx)
 have hB:=prog_begins (plan:=p) (dur:=durW b r.lg r.by_ g) (fun n=>by have:=(durW_b hw.fi hw.by0 hw.by9 (lg:=r.lg) g n).1; omega) (hw.be.at hx) hnd hlt
 have hnl:nd.length=x.l:=by rw [←hN.len,hnd,List.length_map]
 have hnl6:x.l≤6:=by
  rw [←hnl]
  have:=pw_len hpw hlt
  omega
 have l4:=hN.isLoc x.m
 unfold EndsTo V at IH
 unfold V at hm hm1 ⊢
 unfold vB
 rw [←hB]
 change Yes _ (QG _ _ _ (lastH (freeN p (vE b p r.lg r.by_ g) n :: nd.map (vE b p r.lg r.by_ g))))
 generalize hF:freeN p (vE b p r.lg r.by_ g) n=fr at ho ⊢
 have hmb:=hm.lt
 have hg1:Grow H' H1:=ch1.grow_map hm.hc
 obtain ⟨⟨app,ba,bl,bk,sa,sl,sk,xs⟩,pa,pl,pk,mb,lg,by_⟩:=r
 have hB:Ints H ba bl b.boards:=hw.be.br
 have hS:Sl H 5 eK sa sl xs:=hw.be.st
 have hP:Ints H pa pl p:=hw.pl
 have l1:=hB.isLoc bk
 have l2:=hS.isLoc sk
 have l3:=hP.isLoc pk
 simp only at ho IH hm hm1 hg1 ch1 hl1 hsl hsa hmb ⊢
 subst hsa
 have hns:n < sl:=by omega
 generalize hH2:H1++[({ obj:=.cells [.int .i64 fr],fam:=some H1.length }:Blk)]=H2
 have u12:Up H1 H2:=by rw [←hH2]; exact (Up.refl _).app
 have hl2:H1.length < H2.length:=by rw [←hH2]; simp
 have bd:Bld H1.length H2 1 (some ⟨H1.length,0,none⟩) 1 1 (cells encI (fr :: (nd.take 0).map (vE b p lg by_ g))):=by
  rw [←hH2]; exact bld_one (c:=[.int .i64 fr]) rfl (Nat.le_refl _)
 have e40:=e4 H2 (hg.trans (hg1.trans u12.grow))
 simp (maxDischargeDepth:=8) only [↓SD,SU,SV,SW,simprocAttr,Int.cast_ofNat_Int,small,resV, B129,R129,N129,b129, l1,l2,l3,l4,loc_m,ho,hns,lt_nat,hH2,e40]
 refine loop_ind (G:=(Yes · (QG (vE b p lg by_) H' mb (lastH (fr :: nd.map (vE b p lg by_ g)))))) (fun j σ=>∃T S H3 a m lim,σ=⟨T,S,[],H3,lim,37,false⟩∧get T 2=.int .i64 (wI g)∧get T 3=.pointer (some ⟨3,0,some 1⟩)∧get T 7=.slice a (j+1) m∧get T 21=.slice x.a x.l x.m∧get T 22=.int .i64 x.l∧get T 23=.int .i64 (j:Nat)∧sget S 3=(1,.cells [.int .i64 app,.slice ba bl bk,.slice (some ⟨b1,o1,none⟩) sl sk,.slice pa pl pk,.map (some mb),.int .i64 lg,.int .i64 by_])∧(Bld H1.length H3 1 a (j+1) m (cells encI (fr :: (nd.take j).map (vE b p lg by_ g)))∧Chg (·=mb) H' H3∧Mp (vE b p lg by_) H3 mb∧mb≤lim∧H1.length≤H3.length)) (x.l) ?_ ?_ 0 _ (Nat.zero_le _) ⟨_,_,_,_,_,_,rfl,rfl,rfl,rfl,rfl,rfl,rfl,rfl,⟨bd,ch1.trans u12.chg (fun _ _ h=>h),hm1.up u12,by omega,by omega⟩⟩
 ·rintro c' j s hj ⟨T,S,H3,a,m,lim,rfl,t2,t3,t7,t21,t22,t23,s0,hp⟩ ih
  obtain ⟨hbd,hch,hm3,hlim,hle⟩:=hp
  obtain ⟨b2,o2,y,hxa,hy,f1⟩:=hN.i1 hj
  obtain ⟨k,hk,rfl⟩:=needs_get hnd hy
  have hg3:Grow H' H3:=hch.grow_map hm.hc
  have f1:=f1 H3 (hg.trans hg3)
  have hw1:=wrap_succ j (by omega)
  obtain ⟨o,ho2,H4,lo4,rfl,ch4,hm4,hl4⟩:=IH k (hlt k (List.mem_of_getElem? hk)) g H3 (hg.trans hg3) hm3
  have hmb1:mb < H1.length:=hm1.lt
  have bd4:=hbd.chg ch4 (fun i hi=>by subst hi; exact hmb1)
  have h34:=ch4.len
  have hml3:=hm3.lt
  have hml4:=hm4.lt
  obtain ⟨H5,q1,q2,q3,q4⟩:=bd4.app (by decide) (by decide) (by omega) (by omega) [.int .i64 (vE b p lg by_ g k)] rfl
  have ch5:=q3.chg bd4 (hch.trans ch4 (fun _ _ h=>h)) (by have:=ch1.len; omega)
  have hm5:=hm4.same (q3.at bd4 hmb1 hm4.lt)
  have h45:=q3.len
  have l7:isLoc (.slice a (j+1) m)=false:=hbd.isLoc _ _
  simp (maxDischargeDepth:=8) only [↓SD,SU,SV,SW,simprocAttr,Int.cast_ofNat_Int,small,resV, q129x0,t2,t3,t7,t21,t22,t23,s0, lt_nat,hj,l1,l2,l3,l4,l7,loc_m,hxa,f1,hw1,ho2,q1]
  exact ih _ ⟨_,_,(H5),(some ⟨H4.length,0,none⟩),(1),(_),rfl,(by simp [get_set,t2] <;> omega),(by simp [get_set,t3] <;> omega),(by simp [get_set,t7] <;> omega),(by simp [get_set,t21] <;> omega),(by simp [get_set,t22] <;> omega),(by simp [get_set,t23] <;> omega),by simp [sget_sset,s0],⟨by rw [take_get hk,List.map_append,←List.cons_append,List.map_singleton,cells_app]; exact q2,ch5,hm5,by omega,by omega⟩⟩
 ·rintro c' s ⟨T,S,H3,a,m,lim,rfl,t2,t3,t7,t21,t22,t23,s0,hp⟩
  obtain ⟨hbd,hch,hm3,hlim,hle⟩:=hp
  rw [List.take_of_length_le (by omega)] at hbd
  have l7:isLoc (.slice a (x.l+1) m)=false:=hbd.isLoc _ _
  have k2:=c95 (kk:=m) (hbd.sl encI_len (by decide)) (by omega) H3 (Grow.refl _)
  simp (maxDischargeDepth:=8) only [↓SD,SU,SV,SW,simprocAttr,Int.cast_ofNat_Int,small,resV, q129x0,t2,t3,t7,t21,t22,t23,s0, lt_nat,Nat.lt_irrefl,l1,l2,l3,l4,l7,loc_m,k2,R129,N129]
  rw [yes_some]
  exact gc_i hch hm hm3 (by have:=hm3.lt; omega)
theorem c127 (bd:Int)(rd:Bool)(lo hi:Int)(a:Option Addr)(l m:Nat)(hl:isLoc (.slice a l m)=false)(H:Heap):R (.func 127) [.agg #[.int .i64 bd,.bool rd,.int .i64 lo,.int .i64 hi,.slice a l m]] H=some ⟨.ok (.int .i64 lo),H,H.length⟩:=by
 refine run_k (pr 127) P127 (by simp [p127]) rfl ?_
 simp (maxDischargeDepth:=8) only [↓SD,SU,SV,SW,simprocAttr,Int.cast_ofNat_Int,small,resV, B127,R127,N127,b127, hl,R127,N127]
theorem c128 (bd:Int)(rd:Bool)(lo hi:Int)(a:Option Addr)(l m:Nat)(hl:isLoc (.slice a l m)=false)(H:Heap):R (.func 128) [.agg #[.int .i64 bd,.bool rd,.int .i64 lo,.int .i64 hi,.slice a l m]] H=some ⟨.ok (.int .i64 hi),H,H.length⟩:=by
 refine run_k (pr 128) P128 (by simp [p128]) rfl ?_
 simp (maxDischargeDepth:=8) only [↓SD,SU,SV,SW,simprocAttr,Int.cast_ofNat_Int,small,resV, B128,R128,N128,b128, hl,R128,N128]

theorem has_key (n:Int)(g:Bool):Shape.has mSh (keyOf n (wI g))=true:=rfl
theorem c94 {H:Heap}{r:WkR}{b:Bench}{p:List Int}(hw:WkOk H r b p):∀n,n≤b.strokes.length→EndsTo H r b p n:=by
 intro n
 induction n with
 | zero=>intro _ k hk; omega
 | succ n IH0 =>
 intro hn k hk g H' hg hm
 have IH:=IH0 (by omega)
 by_cases hkn:k < n
 ·exact IH k hkn g H' hg hm
 obtain rfl:k=n:=by omega
 clear hkn
 refine run_y (pr 94) P94 (by simp [p94]) rfl ?_
 have n6:=hw.fi.n6
 have hsl:=hw.sl
 have hB:=c129 hw (n:=k) (by omega) IH g
 obtain ⟨b1,o1,x,hsa,hx,e5⟩:=hw.be.st.k5 (j:=k) (by omega)
 have e5:=e5.all
 have hN:=hw.be.nd x (mem_drop hx)
 have l4:=hN.isLoc x.m
 have hbx:=hw.be.at hx
 have hdur:=durW_b hw.fi hw.by0 hw.by9 (lg:=r.lg) g k
 have hEb:=vE_b hw.fi (p:=p) (lg:=r.lg) hw.by0 hw.by9 g k
 have hEq:vE b p r.lg r.by_ g k=vB b p r.lg r.by_ g k+durW b r.lg r.by_ g k:=rfl
 have hhr:=hw.fi.hours k x.s hbx
 have by0:=hw.by0
 have by9:=hw.by9
 have hlo:low b k=x.s.lo:=by unfold low; rw [hbx]
 have hhi:high b k=x.s.hi:=by unfold high; rw [hbx]
 unfold V at hm hB ⊢
 have hmb:=hm.lt
 obtain ⟨⟨app,ba,bl,bk,sa,sl,sk,xs⟩,pa,pl,pk,mb,lg,by_⟩:=r
 have hB:Ints H ba bl b.boards:=hw.be.br
 have hS:Sl H 5 eK sa sl xs:=hw.be.st
 have hP:Ints H pa pl p:=hw.pl
 have l1:=hB.isLoc bk
 have l2:=hS.isLoc sk
 have l3:=hP.isLoc pk
 simp only at hB hm hsl hsa hmb hdur hEb hEq by0 by9 ⊢
 subst hsa
 have hks:k < sl:=by omega
 have hm':=hm
 obtain ⟨es,hes,hmemo⟩:=hm'
 have hmk:mlkR (mesL H' mSh (.map (some mb))) mSh (.int .i64 0) true (keyOf k (wI g))=some (mlkV (.int .i64 0) true (kfind (keyOf k (wI g)) es)):=by rw [mes_ok hes]; exact mlkR_ok _ _ _ _ _ (has_key _ _)
 unfold keyOf at hmk
 cases hkf:kfind (keyOf k (wI g)) es with
 | some y =>
  obtain ⟨j,v⟩:=y
  have hv:=hmemo.find hkf
  subst hv
  unfold keyOf at hkf
  simp only [hkf,mlkV,if_true] at hmk
  simp (maxDischargeDepth:=8) only [↓SD,SU,SV,SW,simprocAttr,Int.cast_ofNat_Int,small,resV, B94,R94,N94,b94, l1,l2,l3,loc_m,hmk,g_mlk,R94,N94]
  rw [yes_some]
  exact ⟨H',H'.length,rfl,Chg.refl _ _,hm,Nat.le_of_lt hmb⟩
 | none =>
 unfold keyOf at hkf
 simp only [hkf,mlkV,if_true] at hmk
 obtain ⟨o,ho,H3,lo3,rfl,ch3,hm3,hl3⟩:=hB H' hg hm
 have hg3:Grow H' H3:=ch3.grow_map hm.hc
 have e13:=e5 H3 (hg.trans hg3)
 have hl3:mb≤lo3:=hl3
 have hkept:=kept_of ch3 hm hm3
 obtain ⟨es3,hes3,hmemo3⟩:=hm3
 have hml3:mb < H3.length:=(List.getElem?_eq_some_iff.1 hes3).1
 have hk2:Shape.has (.agg [.i .i64,.i .i64]) (.agg #[.int .i64 k,.int .i64 (wI g)])=true:=rfl
 have fin:∀lo,mb≤lo→QG (vE b p lg by_) H' mb (vE b p lg by_ g k) (gcR H' (.ok (.int .i64 (vE b p lg by_ g k))) (H3.set mb { obj:=.map mSh (Go.Pi.L.upd (.agg #[.int .i64 k,.int .i64 (wI g)]) (.int .i64 (vE b p lg by_ g k)) es3) }) lo):=by
  intro lo hlo
  exact gc_i (ch3.trans (Chg.set (A:=(·=mb)) _ rfl) (fun _ _ h=>h)) hm ⟨_,List.getElem?_set_self hml3,hmemo3.upd k g⟩ hlo
 have wE:IntKind.wrap .i64 (vE b p lg by_ g k)=vE b p lg by_ g k:=wrap_id _ (by omega) (by omega)
 cases g with
 | false =>
  have e1:vB b p lg by_ false k+x.s.lo=vE b p lg by_ false k:=by rw [hEq,durW,cond_false,hlo]
  simp only [wI] at hmk ho fin hk2 ⊢
  have q1:((0:Int)=1)=False:=by decide
  by_cases q:lg=(k:Int)
  ·subst q
   simp (maxDischargeDepth:=8) only [↓SD,SU,SV,SW,simprocAttr,Int.cast_ofNat_Int,small,resV, B94,R94,N94,b94, l1,l2,l3,l4,loc_m,hmk,g_mlk,ho,hks,lt_nat,e13,c127,e1,wE,rD_kept,hkept,q1,g_mup,mup_v,hes3,mup_ok,hk2,R94,N94]
   rw [yes_some]
   exact fin _ (by omega)
  ·have q:¬(k:Int)=lg:=fun h=>q h.symm
   simp (maxDischargeDepth:=8) only [↓SD,SU,SV,SW,simprocAttr,Int.cast_ofNat_Int,small,resV, B94,R94,N94,b94, l1,l2,l3,l4,loc_m,hmk,g_mlk,ho,hks,lt_nat,e13,c127,e1,wE,rD_kept,hkept,q,q1,g_mup,mup_v,hes3,mup_ok,hk2,R94,N94]
   rw [yes_some]
   exact fin _ (by omega)
 | true =>
  simp only [wI] at hmk ho fin hk2 ⊢
  by_cases q:lg=(k:Int)
  ·subst q
   have e1:vB b p (k:Int) by_ true k+x.s.hi+by_=vE b p (k:Int) by_ true k:=by rw [hEq,durW,cond_true,if_pos rfl,hhi]; omega
   have e2:IntKind.wrap .i64 (vB b p (k:Int) by_ true k+x.s.hi)=vB b p (k:Int) by_ true k+x.s.hi:=wrap_id _ (by omega) (by omega)
   simp (maxDischargeDepth:=8) only [↓SD,SU,SV,SW,simprocAttr,Int.cast_ofNat_Int,small,resV, B94,R94,N94,b94, l1,l2,l3,l4,loc_m,hmk,g_mlk,ho,hks,lt_nat,e13,c128,e1,e2,wE,rD_kept,hkept,g_mup,mup_v,hes3,mup_ok,hk2,R94,N94]
   rw [yes_some]
   exact fin _ (by omega)
  ·have q:¬(k:Int)=lg:=fun h=>q h.symm
   have e1:vB b p lg by_ true k+x.s.hi=vE b p lg by_ true k:=by rw [hEq,durW,cond_true,if_neg q,hhi]
   simp (maxDischargeDepth:=8) only [↓SD,SU,SV,SW,simprocAttr,Int.cast_ofNat_Int,small,resV, B94,R94,N94,b94, l1,l2,l3,l4,loc_m,hmk,g_mlk,ho,hks,lt_nat,e13,c128,e1,wE,rD_kept,hkept,q,g_mup,mup_v,hes3,mup_ok,hk2,R94,N94]
   rw [yes_some]
   exact fin _ (by omega)
end Go.Pi.L.Ch
