/- Benches: boards that are done, how long a plan takes, a plan at work. -/
import Derived.Test.YtjgmlngcknehhaaGreatVB
set_option linter.all false
set_option maxRecDepth 100000
namespace Go.Pi.L.Ch
open Go Go.Pi Go.Pi.L Go.Pi.E Go.Pi.Top BM

theorem gc_keep {H H1:Heap}{v:Value}{lo:Nat}(h:flat 4 v=false):gcR H (.ok v) H1 lo=⟨.ok v,H1,lo⟩:=by
 simp [gcR,h]
theorem c94' {H:Heap}{r:WkR}{b:Bench}{p:List Int}(hw:WkOk H r b p){n:Nat}(hn:n < b.strokes.length)(g:Bool) :
  ∀H',Grow H H'→Mp (V b p r) H' r.mb→Yes (R (.func 94) [.agg #[.int .i64 r.be.app,.slice r.be.ba r.be.bl r.be.bk,.slice r.be.sa r.be.sl r.be.sk,.slice r.pa r.pl r.pk,.map (some r.mb),.int .i64 r.lg,.int .i64 r.by_],.int .i64 n,.int .i64 (wI g)] H') (QG (V b p r) H' r.mb (vE b p r.lg r.by_ g n)):=c94 hw _ (Nat.le_refl _) n hn g
def takesN (b:Bench)(e:Nat→Int):Int:=lastH ((List.range b.strokes.length).map e)
theorem c51 {H:Heap}{r:WkR}{b:Bench}{p:List Int}(hw:WkOk H r b p) :
  ∀H',Grow H H'→Mp (V b p r) H' r.mb→Yes (R (.func 51) [.agg #[.int .i64 r.be.app,.slice r.be.ba r.be.bl r.be.bk,.slice r.be.sa r.be.sl r.be.sk,.slice r.pa r.pl r.pk,.map (some r.mb),.int .i64 r.lg,.int .i64 r.by_]] H') (QG (V b p r) H' r.mb (takesN b (vE b p r.lg r.by_ true))):=by
 intro H' hg hm
 refine run_y (pr 51) P51 (by simp [p51]) rfl ?_
 have n6:=hw.fi.n6
 have hsl:=hw.sl
 have hE:=fun n hn=>c94' hw (n:=n) hn true
 have hmb:=hm.lt
 unfold V at hm hE ⊢
 unfold takesN
 obtain ⟨⟨app,ba,bl,bk,sa,sl,sk,xs⟩,pa,pl,pk,mb,lg,by_⟩:=r
 have hB:Ints H ba bl b.boards:=hw.be.br
 have hS:Sl H 5 eK sa sl xs:=hw.be.st
 have hP:Ints H pa pl p:=hw.pl
 have l1:=hB.isLoc bk
 have l2:=hS.isLoc sk
 have l3:=hP.isLoc pk
 simp only [wI] at hE hm hmb hsl ⊢
 rw [←hsl]
 simp (maxDischargeDepth:=8) only [↓SD,SU,SV,SW,simprocAttr,Int.cast_ofNat_Int,small,resV, B51,R51,N51,b51, l1,l2,l3,loc_m]
 refine loop_ind (G:=(Yes · (QG (vE b p lg by_) H' mb (lastH ((List.range sl).map (vE b p lg by_ true)))))) (fun j σ=>∃T S H3 a m lim,σ=⟨T,S,[],H3,lim,21,false⟩∧get T 1=.pointer (some ⟨1,0,some 1⟩)∧get T 3=.slice a j m∧get T 8=.int .i64 sl∧get T 9=.int .i64 (j:Nat)∧sget S 1=(1,.cells [.int .i64 app,.slice ba bl bk,.slice sa sl sk,.slice pa pl pk,.map (some mb),.int .i64 lg,.int .i64 by_])∧(Bld H'.length H3 1 a j m (cells encI ((List.range j).map (vE b p lg by_ true)))∧Chg (·=mb) H' H3∧Mp (vE b p lg by_) H3 mb∧mb≤lim)) (sl) ?_ ?_ 0 _ (Nat.zero_le _) ⟨_,_,_,_,_,_,rfl,rfl,rfl,rfl,rfl,rfl,⟨Bld.nil _ _ _,Chg.refl _ _,hm,by omega⟩⟩
 ·rintro c' j s hj ⟨T,S,H3,a,m,lim,rfl,t1,t3,t8,t9,s0,hp⟩ ih
  obtain ⟨hbd,hch,hm3,hlim⟩:=hp
  have hg3:Grow H' H3:=hch.grow_map hm.hc
  have hw1:=wrap_succ j (by omega)
  have hl3:=hm3.lt
  have l7:isLoc (.slice a j m)=false:=hbd.isLoc _ _
  obtain ⟨o,ho2,H4,lo4,rfl,ch4,hm4,hl4⟩:=hE j (by omega) H3 (hg.trans hg3) hm3
  have hl4:mb≤lo4:=hl4
  have bd4:=hbd.chg ch4 (fun i hi=>by subst hi; exact hmb)
  have h34:=ch4.len
  have h03:=hch.len
  obtain ⟨H5,q1,q2,q3,q4⟩:=bd4.app (by decide) (by decide) (by omega) (by omega) [.int .i64 (vE b p lg by_ true j)] rfl
  have ch5:=q3.chg bd4 (hch.trans ch4 (fun _ _ h=>h)) (Nat.le_refl _)
  have hm5:=hm4.same (q3.at bd4 hmb hm4.lt)
  have h45:=q3.len
  simp (maxDischargeDepth:=8) only [↓SD,SU,SV,SW,simprocAttr,Int.cast_ofNat_Int,small,resV, q51x0,t1,t3,t8,t9,s0, lt_nat,hj,l1,l2,l3,l7,loc_m,hw1,ho2,q1]
  exact ih _ ⟨_,_,(H5),(some ⟨H4.length,0,none⟩),(1),(_),rfl,(by simp [get_set,t1] <;> omega),(by simp [get_set,t3] <;> omega),(by simp [get_set,t8] <;> omega),(by simp [get_set,t9] <;> omega),by simp [sget_sset,s0],⟨by rw [List.range_succ,List.map_append,List.map_singleton,cells_app]; exact q2,ch5,hm5,by omega⟩⟩
 ·rintro c' s ⟨T,S,H3,a,m,lim,rfl,t1,t3,t8,t9,s0,hp⟩
  obtain ⟨hbd,hch,hm3,hlim⟩:=hp
  have l7:isLoc (.slice a sl m)=false:=hbd.isLoc _ _
  have k2:=c95 (kk:=m) (hbd.sl encI_len (by decide)) (by omega) H3 (Grow.refl _)
  simp (maxDischargeDepth:=8) only [↓SD,SU,SV,SW,simprocAttr,Int.cast_ofNat_Int,small,resV, q51x0,t1,t3,t8,t9,s0, lt_nat,Nat.lt_irrefl,l1,l2,l3,l7,loc_m,k2,R51,N51]
  rw [yes_some]
  exact gc_i hch hm hm3 (by have:=hm3.lt; omega)
theorem c50 {H:Heap}{r:BeR}{b:Bench}{a:Option Addr}{l kk:Nat}{p:List Int}(hb:BeOk H r b)(hx:Ints H a l p) :
  ∀H',Grow H H'→R (.func 50) [.agg #[.int .i64 r.app,.slice r.ba r.bl r.bk,.slice r.sa r.sl r.sk],.slice a l kk] H'=some ⟨.ok (.agg #[.int .i64 r.app,.slice r.ba r.bl r.bk,.slice r.sa r.sl r.sk,.slice a l kk,.map (some H'.length),.int .i64 (-1),.int .i64 0]),H'++[{ obj:=.map mSh [] }],H'.length⟩:=by
 intro H' hg
 refine run_k (pr 50) P50 (by simp [p50]) rfl ?_
 have l3:=hx.isLoc kk
 obtain ⟨app,ba,bl,bk,sa,sl,sk,xs⟩:=r
 have hB:Ints H ba bl b.boards:=hb.br
 have hS:Sl H 5 eK sa sl xs:=hb.st
 have l1:=hB.isLoc bk
 have l2:=hS.isLoc sk
 simp only
 simp (maxDischargeDepth:=8) only [↓SD,SU,SV,SW,simprocAttr,Int.cast_ofNat_Int,small,resV, B50,R50,N50,b50, l1,l2,l3,loc_m,g_mkm,R50,N50]
 rw [gc_keep (by simp [flat])]
end Go.Pi.L.Ch
set_option maxRecDepth 100000
namespace Go.Pi.L.Ch
open Go Go.Pi Go.Pi.L Go.Pi.E Go.Pi.Top BM

def encP (x:Int×Int):List Value:=[.int .i64 x.1,.int .i64 x.2]
theorem encP_len (x:Int×Int):(encP x).length=2:=rfl
theorem mp_new (V:Bool→Nat→Int)(H:Heap):Mp V (H++[{ obj:=.map mSh [] }]) H.length:=⟨[],by simp,fun e he=>by cases he⟩
abbrev be (b:Bench)(p:List Int)(g:Bool)(n:Nat):Int:=vB b p (-1) 0 g n
end Go.Pi.L.Ch
set_option maxRecDepth 100000
namespace Go.Pi.L.Ch
open Go Go.Pi Go.Pi.L Go.Pi.E Go.Pi.Top BM

end Go.Pi.L.Ch
set_option maxRecDepth 100000
namespace Go.Pi.L.Ch
open Go Go.Pi Go.Pi.L Go.Pi.E Go.Pi.Top BM

end Go.Pi.L.Ch
set_option maxRecDepth 100000
namespace Go.Pi.L
open Go Go.Pi
end Go.Pi.L
namespace Go.Pi.L.Ch
open Go Go.Pi Go.Pi.L Go.Pi.E Go.Pi.Top BM

theorem _root_.Go.Pi.L.Sl.p2 {H:Heap}{a:Option Addr}{l:Nat}{xs:List (Int×Int)}(h:Sl H 2 encP a l xs){j:Nat}(hj:j < l) :
  ∃b off x,a=some ⟨b,off,none⟩∧xs[j]?=some x∧(∀H',Grow H H'→rdO (hcells H' b) (off+j*2) (some 2)=some (.agg #[.int .i64 x.1,.int .i64 x.2])) ∧
   (∀H',Grow H H'→rdO (hcells H' b) (off+j*2) none=some (.int .i64 x.1))∧(∀H',Grow H H'→rdO (hcells H' b) (off+j*2+1) none=some (.int .i64 x.2)):=by
 obtain ⟨b,off,x,h1,h2,h3⟩:=h.at encP_len (by decide) hj
 exact ⟨b,off,x,h1,h2,h3.all,At.v0 h3,At.v1 h3⟩
end Go.Pi.L.Ch
set_option maxRecDepth 100000
namespace Go.Pi.L
open Go Go.Pi
theorem vv_nl_s0 (ne l m):vv (.nl .slice ne) [.slice none l m]=some (.bool (true != ne)):=by rw [vv_of rfl]; rfl
theorem vv_nl_s (ne b o l m):vv (.nl .slice ne) [.slice (some ⟨b,o,none⟩) l m]=some (.bool (false != ne)):=by rw [vv_of rfl]; rfl
theorem Sl.elems {β:Type}{H:Heap}{k:Nat}{enc:β→List Value}{a:Option Addr}{l:Nat}{xs:List β}(h:Sl H k enc a l xs)(hk:∀x,(enc x).length=k)(k0:0 < k)(m:Nat)(T S D lo n rnd):elemsL ⟨T,S,D,H,lo,n,rnd⟩ k (.slice a l m)=some (cells enc xs):=by
 obtain rfl:=h.len
 have e0:elemsL ⟨T,S,D,H,lo,n,rnd⟩ k (.slice a xs.length m)=Go.Pi.elems H k (.slice a xs.length m):=by
  rcases h.loc with rfl | ⟨b,off,rfl⟩
  ·rfl
  ·unfold elemsL; split
   ·rename_i he; cases he
   ·rfl
 rw [e0]
 by_cases h0:xs.length=0
 ·have:xs=[]:=List.eq_nil_of_length_eq_zero h0
  subst this
  rcases h.loc with rfl | ⟨b,off,rfl⟩ <;> rfl
 ·obtain ⟨b,off,c,ha,hc,_⟩:=h.rd 0 xs[0] (List.getElem?_eq_getElem (by omega))
  subst ha
  have key:∀n,n≤xs.length→(n≠0→off+n*k≤c.length)∧(c.drop off).take (n*k)=cells enc (xs.take n):=by
   intro n
   induction n with
   | zero=>intro _; simp [cells]
   | succ n ih =>
    intro hn
    obtain ⟨i1,i2⟩:=ih (by omega)
    obtain ⟨b',off',c',h1,h2,h3⟩:=h.rd n xs[n] (List.getElem?_eq_getElem (by omega))
    cases h1
    rw [hc] at h2; cases h2
    have h4:=congrArg List.length h3
    rw [hk,List.length_take,List.length_drop] at h4
    refine ⟨fun _=>?_,?_⟩
    ·rw [Nat.add_mul]; omega
    ·rw [List.take_succ_eq_append_getElem (by omega),cells_app,←i2,←h3,Nat.add_mul,Nat.one_mul,List.take_add,List.drop_drop]
  obtain ⟨k1,k2⟩:=key xs.length (Nat.le_refl _)
  rw [List.take_length] at k2
  simp only [Go.Pi.elems,if_neg h0,hc]
  rw [if_pos (k1 h0),k2]
end Go.Pi.L
namespace Go.Pi.L.Ch
open Go Go.Pi Go.Pi.L Go.Pi.E Go.Pi.Top BM
end Go.Pi.L.Ch
set_option maxRecDepth 100000
namespace Go.Pi.L
open Go Go.Pi
section
variable {α:Type} {call:CallT} {F:Ex→St→Option α} {k:List It}
end
end Go.Pi.L
namespace Go.Pi.L.Ch
open Go Go.Pi Go.Pi.L Go.Pi.E Go.Pi.Top BM

abbrev nothing:Value:=.tuple #[]
end Go.Pi.L.Ch
set_option maxRecDepth 100000
namespace Go.Pi.L.Ch
open Go Go.Pi Go.Pi.L Go.Pi.E Go.Pi.Top BM

theorem c49 {H:Heap}{r:BeR}{b:Bench}(hb:BeOk H r b)(x:Int)(H':Heap):R (.func 49) [.agg #[.int .i64 r.app,.slice r.ba r.bl r.bk,.slice r.sa r.sl r.sk],.int .i64 x] H'=some ⟨.ok (.agg #[.int .i64 x,.slice r.ba r.bl r.bk,.slice r.sa r.sl r.sk]),H',H'.length⟩:=by
 refine run_k (pr 49) P49 (by simp [p49]) rfl ?_
 obtain ⟨app,ba,bl,bk,sa,sl,sk,xs⟩:=r
 have hB:Ints H ba bl b.boards:=hb.br
 have hS:Sl H 5 eK sa sl xs:=hb.st
 have l1:=hB.isLoc bk
 have l2:=hS.isLoc sk
 simp only
 simp (maxDischargeDepth:=8) only [↓SD,SU,SV,SW,simprocAttr,Int.cast_ofNat_Int,small,resV, B49,R49,N49,b49, l1,l2,R49,N49]
 by_cases h:flat 4 (.agg #[.int .i64 x,.slice ba bl bk,.slice sa sl sk])=true
 ·rw [gc_ite (Nat.le_refl _),if_pos h]
 ·rw [gc_ite (Nat.le_refl _),if_neg h]
theorem c82 (a1 a2:Option Addr)(l1 m1 l2 m2:Nat)(x y:Int)(h1:isLoc (.slice a1 l1 m1)=false)(h2:isLoc (.slice a2 l2 m2)=false)(H:Heap) :
  R (.func 82) [.agg #[.slice a1 l1 m1,.int .i64 x],.agg #[.slice a2 l2 m2,.int .i64 y]] H=some ⟨.ok (.bool (decide (x < y))),H,H.length⟩:=by
 refine run_k (pr 82) P82 (by simp [p82]) rfl ?_
 simp (maxDischargeDepth:=8) only [↓SD,SU,SV,SW,simprocAttr,Int.cast_ofNat_Int,small,resV, B82,R82,N82,b82, h1,h2,R82,N82]
end Go.Pi.L.Ch
set_option maxRecDepth 100000
namespace Go.Pi.L.Ch
open Go Go.Pi Go.Pi.L Go.Pi.E Go.Pi.Top BM

structure Tm where
 p:List Int
 a:Option Addr
 l:Nat
 m:Nat
 t:Int
def eT (x:Tm):List Value:=[.slice x.a x.l x.m,.int .i64 x.t]
theorem eT_len (x:Tm):(eT x).length=2:=rfl
def dropW (x:Tm):List Tm→List Tm
 | []=>[]
 | y :: l=>if x.t < y.t then [] else y :: l
def addW (x:Tm):List Tm→List Tm
 | []=>[x]
 | y :: l=>if y.t < x.t then y :: l else y :: l++[x]
def bestP (xs:List Tm):List Tm:=xs.foldl (fun o x=>addW x (dropW x o)) []
theorem bestP_sub:∀(xs o:List Tm),(∀y∈xs.foldl (fun o x=>addW x (dropW x o)) o,y∈o∨y∈xs)
 | [],o,y,h=>.inl h
 | x :: xs,o,y,h=>by
  rcases bestP_sub xs _ y h with h | h
  ·have h1:∀z∈dropW x o,z∈o:=fun z hz=>by
    cases o with
    | nil=>cases hz
    | cons w o=>simp only [dropW] at hz; split at hz; cases hz; exact hz
   have h2:∀(o':List Tm),y∈addW x o'→y∈o'∨y=x:=fun o' hy=>by
    cases o' with
    | nil=>simp [addW] at hy; exact .inr hy
    | cons w o' =>
     simp only [addW] at hy
     split at hy
     ·exact .inl hy
     ·rcases List.mem_append.1 hy with hy | hy
      ·exact .inl hy
      ·exact .inr (List.mem_singleton.1 hy)
   rcases h2 _ h with h | rfl
   ·exact .inl (h1 _ h)
   ·exact .inr (List.mem_cons_self ..)
  ·exact .inr (List.mem_cons_of_mem _ h)
theorem take_fold (xs:List Tm){j:Nat}{x:Tm}(h:xs[j]?=some x):bestP (xs.take (j+1))=addW x (dropW x (bestP (xs.take j))):=by
 unfold bestP; rw [take_get h,List.foldl_append]; rfl
theorem c81 {H:Heap}{a:Option Addr}{l kk:Nat}{xs:List Tm}(hx:Sl H 2 eT a l xs)(hl:l < 100000)(hloc:∀x∈xs,isLoc (.slice x.a x.l x.m)=false) :
  ∀H',Grow H H'→Yes (R (.func 81) [.slice a l kk,.func (.func 82) #[] #[]] H') (QS H' 2 eT (bestP xs)):=by
 intro H' hg
 refine run_y (pr 81) P81 (by simp [p81]) rfl ?_
 have l1:=hx.isLoc kk
 simp (maxDischargeDepth:=8) only [↓SD,SU,SV,SW,simprocAttr,Int.cast_ofNat_Int,small,resV, B81,R81,N81,b81, l1,loc_func]
 refine loop_ind (G:=(Yes · (QS H' 2 eT (bestP xs)))) (fun j σ=>∃T S H3 al c m lim,σ=⟨T,S,[],H3,lim,43,false⟩∧get T 1=.func (.func 82) #[] #[]∧get T 5=.slice al c m∧get T 8=.slice a l kk∧get T 9=.int .i64 l∧get T 10=.int .i64 (j:Nat)∧(Bld H'.length H3 2 al c m (cells eT (bestP (xs.take j)))∧Up H' H3∧H'.length≤lim∧c≤j)) (l) ?_ ?_ 0 _ (Nat.zero_le _) ⟨_,_,_,_,_,_,_,rfl,rfl,rfl,rfl,rfl,rfl,⟨Bld.nil _ _ _,Up.refl _,Nat.le_refl _,Nat.le_refl _⟩⟩
 ·rintro c' j s hj ⟨T,S,H3,al,c,m,lim,rfl,t1,t5,t8,t9,t10,hp⟩ ih
  obtain ⟨hbd,hu,hlim,hcj⟩:=hp
  have hw:=wrap_succ j (by omega)
  have hul:=hu.len
  obtain ⟨b1,o1,x,hxa,hx1,hat⟩:=hx.at eT_len (by decide) hj
  have e1:=hat.all H3 (hg.trans hu.grow)
  have lx:=hloc x (mem_drop hx1)
  have hb:=hbd.sl eT_len (by decide)
  have l5:isLoc (.slice al c m)=false:=hbd.isLoc _ _
  have hts:=take_fold xs hx1
  have e1:rdO (hcells H3 b1) (o1+j*2) (some 2)=some (.agg #[.slice x.a x.l x.m,.int .i64 x.t]):=e1
  cases ho:bestP (xs.take j) with
  | nil =>
   rw [ho] at hbd hts hb
   have hc0:c=0:=by rw [←hb.len]; rfl
   subst hc0
   obtain ⟨H6,q1,q2,q3,q4⟩:=hbd.app (by decide) (by decide) (by omega) hul (eT x) rfl
   have u6:=q3.up hbd hu (Nat.le_refl _)
   have h6:=u6.len
   unfold eT at q1
   have z0:¬(0:Int) < ((0:Nat):Int):=by omega
   have z1:(((0:Nat):Int)=0)=True:=by simp
   simp (maxDischargeDepth:=8) only [↓SD,SU,SV,SW,simprocAttr,Int.cast_ofNat_Int,small,resV, q81x0,t1,t5,t8,t9,t10, lt_nat,hj,l1,l5,lx,loc_func,hxa,e1,hw,q1,z0,z1]
   exact ih _ ⟨_,_,(H6),(some ⟨H3.length,0,none⟩),(1),(2),(_),rfl,(by simp [get_set,t1] <;> omega),(by simp [get_set,t5] <;> omega),(by simp [get_set,t8] <;> omega),(by simp [get_set,t9] <;> omega),(by simp [get_set,t10] <;> omega),⟨by rw [hts]; exact q2,u6,by omega,by omega⟩⟩
  | cons y o =>
   rw [ho] at hbd hts hb
   have hc0:0 < c:=by rw [←hb.len]; simp
   have hc0':(0:Int) < ((c:Nat):Int):=by omega
   have hcn:¬((c:Int)=0):=by omega
   obtain ⟨b2,o2,y',hya,hy1,hat2⟩:=hb.at eT_len (by decide) hc0
   simp only [List.getElem?_cons_zero,Option.some.injEq] at hy1
   subst hy1
   have e2:=hat2.all H3 (Grow.refl _)
   have e2:rdO (hcells H3 b2) (o2+0*2) (some 2)=some (.agg #[.slice y.a y.l y.m,.int .i64 y.t]):=e2
   rw [Nat.zero_mul,Nat.add_zero] at e2
   have ly:isLoc (.slice y.a y.l y.m)=false:=by
    have hy:y∈bestP (xs.take j):=by rw [ho]; exact List.mem_cons_self ..
    rcases bestP_sub _ _ y hy with h | h
    ·cases h
    ·exact hloc y (List.mem_of_mem_take h)
   subst hya
   have k1:=c82 x.a y.a x.l x.m y.l y.m x.t y.t lx ly H3
   have k2:=c82 y.a x.a y.l y.m x.l x.m y.t x.t ly lx H3
   by_cases q1:x.t < y.t
   ·simp only [dropW,if_pos q1,addW] at hts
    obtain ⟨H6,p1,p2,p3,p4⟩:=(Bld.nil H'.length H3 2).app (by decide) (by decide) (by omega) hul (eT x) rfl
    have u6:=p3.up (Bld.nil H'.length H3 2) hu (Nat.le_refl _)
    have h6:=u6.len
    unfold eT at p1
    simp (maxDischargeDepth:=8) only [↓SD,SU,SV,SW,simprocAttr,Int.cast_ofNat_Int,small,resV, q81x0,t1,t5,t8,t9,t10, lt_nat,hj,l1,l5,lx,ly,loc_func,hxa,e1,e2,hc0,hc0',hcn,k1,q1,hw,p1,Int.toNat_zero,k_fixb]
    exact ih _ ⟨_,_,(H6),(some ⟨H3.length,0,none⟩),(1),(2),(_),rfl,(by simp [get_set,t1] <;> omega),(by simp [get_set,t5] <;> omega),(by simp [get_set,t8] <;> omega),(by simp [get_set,t9] <;> omega),(by simp [get_set,t10] <;> omega),⟨by rw [hts]; exact p2,u6,by omega,by omega⟩⟩
   ·by_cases q2:y.t < x.t
    ·simp only [dropW,if_neg q1,addW,if_pos q2] at hts
     simp (maxDischargeDepth:=8) only [↓SD,SU,SV,SW,simprocAttr,Int.cast_ofNat_Int,small,resV, q81x0,t1,t5,t8,t9,t10, lt_nat,hj,l1,l5,lx,ly,loc_func,hxa,e1,e2,hc0,hc0',hcn,k1,k2,q1,q2,hw,Int.toNat_zero,k_fixb]
     exact ih _ ⟨_,_,(H3),(some ⟨b2,o2,none⟩),(c),(m),(_),rfl,(by simp [get_set,t1] <;> omega),(by simp [get_set,t5] <;> omega),(by simp [get_set,t8] <;> omega),(by simp [get_set,t9] <;> omega),(by simp [get_set,t10] <;> omega),⟨by rw [hts]; exact hbd,hu,by omega,by omega⟩⟩
    ·simp only [dropW,if_neg q1,addW,if_neg q2] at hts
     obtain ⟨H6,p1,p2,p3,p4⟩:=hbd.app (by decide) (by decide) (by omega) hul (eT x) rfl
     have u6:=p3.up hbd hu (Nat.le_refl _)
     have h6:=u6.len
     unfold eT at p1
     simp (maxDischargeDepth:=8) only [↓SD,SU,SV,SW,simprocAttr,Int.cast_ofNat_Int,small,resV, q81x0,t1,t5,t8,t9,t10, lt_nat,hj,l1,l5,lx,ly,loc_func,hxa,e1,e2,hc0,hc0',hcn,k1,k2,q1,q2,hw,p1,Int.toNat_zero,k_fixb]
     exact ih _ ⟨_,_,(H6),(some ⟨H3.length,0,none⟩),(c+1),(2),(_),rfl,(by simp [get_set,t1] <;> omega),(by simp [get_set,t5] <;> omega),(by simp [get_set,t8] <;> omega),(by simp [get_set,t9] <;> omega),(by simp [get_set,t10] <;> omega),⟨by rw [hts,cells_app]; exact p2,u6,by omega,by omega⟩⟩
 ·rintro c' s ⟨T,S,H3,al,c,m,lim,rfl,t1,t5,t8,t9,t10,hp⟩
  obtain ⟨hbd,hu,hlim,hcj⟩:=hp
  rw [List.take_of_length_le (by rw [hx.len]; exact Nat.le_refl _)] at hbd
  have l5:isLoc (.slice al c m)=false:=hbd.isLoc _ _
  simp (maxDischargeDepth:=8) only [↓SD,SU,SV,SW,simprocAttr,Int.cast_ofNat_Int,small,resV, q81x0,t1,t5,t8,t9,t10, lt_nat,Nat.lt_irrefl,l1,l5,loc_func,R81,N81]
  rw [yes_some]
  exact gc_sl (hbd.sl eT_len (by decide)) hu (by omega)
end Go.Pi.L.Ch
