/- Letters: the rows of a setting. -/
import Derived.Test.YtjgmlngcknehhaaGreatTD
set_option linter.all false
set_option maxRecDepth 100000
namespace Go.Pi.L.Top
open Go Go.Pi Go.Pi.L Go.Pi.Top LM

structure LR where
 ga:Option Addr
 gl:Nat
 gk:Nat
 l:Line
def eL (y:LR):List Value:=[.slice y.ga y.gl y.gk,.bool y.l.cut]
theorem eL_len (y:LR):(eL y).length=2:=rfl
def QN (H:Heap)(s:Sheet)(ls:List Line)(o:Out):Prop :=
 ∃a m ys H1 lo,o=⟨.ok (.slice a ls.length m),H1,lo⟩∧Up H H1∧H.length≤lo∧Sl H1 2 eL a ls.length ys∧(∀y∈ys,LnOk H1 s y.ga y.gl y.l)∧ys.map (·.l)=ls
structure Ou (T:List Value)(S:List (Nat×PObj))(r:LeR)(s:Sheet)(mb:Nat)(al:Value)(ea:Option Addr)(el ek j word at_:Nat):Prop where
 t2:get T 2=.pointer (some ⟨2,0,some 1⟩)
 t3:get T 3=.pointer (some ⟨3,0,some 1⟩)
 t5:get T 5=al
 t6:get T 6=.int .i64 (word:Nat)
 t7:get T 7=.int .i64 (at_:Nat)
 t12:get T 12=.slice ea el ek
 t13:get T 13=.int .i64 el
 t14:get T 14=.int .i64 (j:Nat)
 s2:sget S 2=(1,.cells [.slice r.wa r.wl r.wk,.slice r.pa r.pl r.pk,.int .i64 s.other.1,.int .i64 s.other.2,.int .i64 s.gap.1,.int .i64 s.gap.2,.int .i64 s.hyphen,.slice r.na r.nl r.nk,.int .i64 s.wide,.int .i64 s.rows,.map (some mb)])
 s3:sget S 3=(1,.cells [.slice none 0 0,.slice ea el ek])
theorem lines_len (s:Sheet):∀(x:List LM.End) (a:Nat),(lines s a x).length=x.length
 | [],_=>rfl
 | e :: x,a=>by simp only [lines,List.length_cons,lines_len s x]
theorem c111 {H:Heap}{r:LeR}{mb:Nat}{s:Sheet}(hr:FrOk H r mb s)(hf:Fine s){ea:Option Addr}{el ek:Nat}{x:List LM.End}(hes:Sl H 2 encG ea el x)(hx:EOk s x)(hel:el≤1000) :
  ∀H',Up H H'→Yes (R (.func 111) [.agg #[.slice r.wa r.wl r.wk,.slice r.pa r.pl r.pk,.int .i64 s.other.1,.int .i64 s.other.2,.int .i64 s.gap.1,.int .i64 s.gap.2,.int .i64 s.hyphen,.slice r.na r.nl r.nk,.int .i64 s.wide,.int .i64 s.rows,.map (some mb)],.agg #[.slice none 0 0,.slice ea el ek]] H') (QN H' s (lines s 0 x)):=by
 intro H' hu0
 have hr:=hr.le
 have n1:=hf.n1
 have lE:=hes.isLoc ek
 have L1:=hr.wd.isLoc r.wk
 have L2:=hr.pr.isLoc r.pk
 have L3:=hr.ws.isLoc r.nk
 have Lm:isLoc (.map (some mb))=false:=rfl
 obtain ⟨w0,hw0⟩:∃w,s.words[0]?=some w:=⟨_,List.getElem?_eq_getElem (by omega)⟩
 refine run_y (pr 111) P111 (by simp [p111]) rfl ?_
 simp (maxDischargeDepth:=8) only [↓SD,SU,SV,SW,simprocAttr,Int.cast_ofNat_Int,small,resV, B111,R111,N111,b111, L1,L2,L3,Lm,lE]
 refine loop_ind (G:=(Yes · (QN H' s (lines s 0 x)))) (fun j σ=>∃T S H3 al m word at_ lim w ys,σ=⟨T,S,[],H3,lim,81,false⟩∧Ou T S r s mb (.slice al j m) ea el ek j word at_∧Bld H'.length H3 2 al j m (cells eL ys)∧ys.length=j∧(∀y∈ys,LnOk H3 s y.ga y.gl y.l)∧Up H' H3∧H'.length≤lim∧s.words[word]?=some w∧at_≤w.signs.length∧(∀e∈x.drop j,place s.words word at_≤placeE s e)∧ys.map (·.l)++lines s (place s.words word at_) (x.drop j)=lines s 0 x) el ?_ ?_ 0 _ (Nat.zero_le _) ⟨_,_,H',none,0,0,0,_,w0,[],rfl,⟨rfl,rfl,rfl,rfl,rfl,rfl,rfl,rfl,rfl,rfl⟩,Bld.nil _ _ _,rfl,fun _ h=>(by cases h),Up.refl _,Nat.le_refl _,hw0,Nat.zero_le _,fun e _=>by rw [place_zero]; exact Nat.zero_le _,by rw [place_zero]; rfl⟩
 ·rintro c' j σ hj ⟨T,S,H3,al,m,word,at_,lim,w,ys,rfl,h,hbd,hyl,hyw,hu,hlim,hw,hat,hpl,hli⟩ ih
  obtain ⟨t2,t3,t5,t6,t7,t12,t13,t14,s2,s3⟩:=h
  have hul:=hu.len
  have l8:isLoc (.slice al j m)=false:=hbd.isLoc _ _
  obtain ⟨b,off,e,hea,he,e1,_⟩:=hes.g2 hj
  have e1:=e1 H3 (hu0.trans hu).grow
  have ia:=ia_of (kk:=ek) (k:=2) hea hj
  have hwj:=wrap_succ j (by omega)
  obtain ⟨n,L,W,rfl,hW,hL1,hL⟩:=hx.ve e (mem_drop he)
  have hnl:n < r.nl:=by rw [←hr.len]; exact (List.getElem?_eq_some_iff.1 hW).1
  obtain ⟨b1,o1,v,hva,hv,f1⟩:=hr.ws.w3 hnl
  have hvw:=hr.at hv
  rw [hW] at hvw
  cases hvw
  have f1:=f1.v0 H3 (hu0.trans hu).grow
  have ia2:=ia_of (kk:=r.nk) (k:=3) hva hnl
  have hvS:=(hr.wt v (mem_drop hv)).sg
  have l4:=hvS.isLoc v.sk
  have hsl:=hvS.len
  rw [drop_cons he] at hpl hli
  have hle:=hpl _ (List.mem_cons_self ..)
  rw [placeE_eq] at hle
  obtain ⟨cut,hcut⟩:∃cut:Bool,decide (L < v.sl)=cut:=⟨_,rfl⟩
  have hcut2:decide (((L:Nat):Int) < ((wordAt s ((n:Nat):Int)).signs.length:Nat))=cut:=by
   rw [←hcut,decide_eq_decide]
   unfold wordAt
   rw [Int.toNat_natCast,List.getD_eq_getElem?_getD,hW,Option.getD_some]; omega
  simp (maxDischargeDepth:=8) only [↓SD,SU,SV,SW,simprocAttr,Int.cast_ofNat_Int,small,resV, q111x1,t2,t3,t5,t6,t7,t12,t13,t14,s2,s3,lt_nat,hj,l8,lE,L1,L2,L3,Lm,l4,ia,ia2,e1,f1,hcut]
  refine lp111 (mb:=mb) hr hf (hu0.trans hu).grow (g9:=(sget S 9).fst+1) (g10:=(sget S 10).fst+1) (E1:=n) (E2:=L) (jj:=j) (ea:=ea) (el:=el) (ek:=ek) (al:=.slice al j m) (cut:=cut) (word:=word) (at_:=at_) ⟨by simp [get_set,t2],by simp [get_set,t3],by simp [get_set,t5],by simp [get_set,t6],by simp [get_set,t7],by simp [get_set],by simp [get_set],by simp [get_set,t12],by simp [get_set,t13],by simp [get_set,t14],by simp [sget_sset,s2],by simp [sget_sset,s3],by simp [sget_sset],by simp [sget_sset]⟩ l8 lE hw hat hW hL hle ?_
  intro T' S' H6 ga gl gk lim' h' hb6 hu6 hlim'
  obtain ⟨t2,t3,t5,t6,t7,t9,t10,t12,t13,t14,s2,s3,s9,s10⟩:=h'
  have l46:=hu6.len
  have hu36:=hu.trans hu6
  have bd6:=hbd.up hu6
  obtain ⟨y,hy⟩:∃y:LR,y=⟨ga,gl,gk,lineOf s (place s.words word at_) ((n:Int),(L:Int))⟩:=⟨_,rfl⟩
  have hey:eL y=[.slice ga gl gk,.bool cut]:=by rw [hy]; unfold eL lineOf; simp only [hcut2]
  obtain ⟨H7,q1,q2,q3,q4⟩:=bd6.app (by decide) (by decide) (by omega) hu36.len (eL y) rfl
  rw [hey] at q1
  rw [←cells_app] at q2
  have hl7:=q3.len
  have u7:=q3.up bd6 hu36 (Nat.le_refl _)
  have l9:isLoc (.slice ga gl gk)=false:=hb6.isLoc _ _
  have hgl:gl=(gls s (place s.words word at_) (place s.words n L - place s.words word at_)).length:=by
   have:=hb6.len
   rw [cells_len (k:=2) encG_len] at this; omega
  have hyok:LnOk H7 s y.ga y.gl y.l:=by
   rw [hy]
   refine ⟨?_,?_,by rw [hgl]; exact gls_len hf _ _⟩
   ·have h1:=(hb6.sl encG_len (by decide)).grow q3.grow
    simp only [lineOf,rowG,placeE_eq]
    exact h1
   ·simp only [lineOf,rowG,placeE_eq]
    exact gls_ok
  simp (maxDischargeDepth:=8) only [↓SD,SU,SV,SW,simprocAttr,Int.cast_ofNat_Int,small,resV, t2,t3,t5,t6,t7,t9,t10,t12,t13,t14,s2,s3,s9,s10,l8,l9,lE,q1,hwj]
  have hpw:∀e∈x.drop (j+1),placeE s ((n:Int),(L:Int)) < placeE s e:=by
   have h1:=hx.pw
   rw [←List.take_append_drop j x,drop_cons he] at h1
   exact (List.pairwise_cons.1 (List.pairwise_append.1 h1).2.1).1
  refine ih _ ⟨_,_,H7,some ⟨H6.length,0,none⟩,2,n,L,_,v.w,ys++[y],rfl,⟨by simp [get_set,t2],by simp [get_set,t3],by simp [get_set],by simp [get_set,t6],by simp [get_set,t7],by simp [get_set,t12],by simp [get_set,t13],by simp [get_set],by simp [sget_sset,s2],by simp [sget_sset,s3]⟩,q2,by simp [hyl],fun z hz=>?_,u7,by omega,hW,hL,fun e he'=>?_,?_⟩
  ·rcases List.mem_append.1 hz with h | h
   ·exact (hyw z h).grow (hu6.grow.trans q3.grow)
   ·rw [List.mem_singleton.1 h]; exact hyok
  ·have:=hpw e he'; rw [placeE_eq] at this; omega
  ·rw [List.map_append,List.map_singleton,List.append_assoc,←hli,lines,placeE_eq,hy]; rfl
 ·rintro c' σ ⟨T,S,H3,al,m,word,at_,lim,w,ys,rfl,h,hbd,hyl,hyw,hu,hlim,hw,hat,hpl,hli⟩
  obtain ⟨t2,t3,t5,t6,t7,t12,t13,t14,s2,s3⟩:=h
  have l8:isLoc (.slice al el m)=false:=hbd.isLoc _ _
  rw [drop_all hes.len] at hli
  simp only [lines,List.append_nil] at hli
  simp (maxDischargeDepth:=8) only [↓SD,SU,SV,SW,simprocAttr,Int.cast_ofNat_Int,small,resV, q111x1,t2,t3,t5,t6,t7,t12,t13,t14,s2,s3,lt_nat,Nat.lt_irrefl,l8,lE,R111,N111]
  rw [yes_some]
  have hxl:=lines_len s x 0
  rw [hes.len] at hxl
  have hsl:Sl H3 2 eL al el ys:=hbd.sl eL_len (by decide)
  by_cases hfl:flat 4 (.slice al el m)=true
  ·obtain ⟨rfl,rfl,rfl⟩:=flat_sl hfl
   have:ys=[]:=List.eq_nil_of_length_eq_zero hyl
   subst this
   rw [gc_ite hlim,if_pos hfl]
   exact ⟨none,0,[],H',H'.length,by rw [hxl],Up.refl _,Nat.le_refl _,by rw [hxl]; exact Sl.none,fun _ h=>(by cases h),hli⟩
  ·rw [gc_nf (by simpa using hfl)]
   exact ⟨al,m,ys,H3,lim,by rw [hxl],hu,hlim,by rw [hxl]; exact hsl,hyw,hli⟩
end Go.Pi.L.Top
set_option maxRecDepth 100000
namespace Go.Pi.L.Top
open Go Go.Pi Go.Pi.L Go.Pi.Top LM

def nothing:Value:=.tuple #[]
def fault (i:Nat):Value:=.iface 186 (.agg #[.int .i64 (i:Nat)])
theorem d146n (call:CallT)(a:Nat)(H:Heap):drunL PP primsL call (.func 146) [.pointer (some ⟨a,0,none⟩)] H none=some (H,H.length,none):=by
 rw [drun_rc (d:=5) (pr 146) P146 (by simp [p146]) rfl (by simp [p146])]
 simp (maxDischargeDepth:=8) only [↓SD,SU,SV,SW,simprocAttr,Int.cast_ofNat_Int,small,resV, B146,R146,N146,b146, Option.getD_none]
 exact dfin_n _ _ _ _ _ _ _ _ R146
theorem d146p (call:CallT)(a:Nat)(i:Nat)(H:Heap)(ha:H[a]?=some ⟨.cells [.int .i64 0],true,true,none⟩) :
  drunL PP primsL call (.func 146) [.pointer (some ⟨a,0,none⟩)] H (some (fault i))=some (H.set a { obj:=.cells [.int .i64 5] },min H.length a,none):=by
 rw [drun_rc (d:=5) (pr 146) P146 (by simp [p146]) rfl (by simp [p146])]
 simp (maxDischargeDepth:=8) only [↓SD,SU,SV,SW,simprocAttr,Int.cast_ofNat_Int,small,resV, B146,R146,N146,b146, Option.getD_some,fault,ha]
 exact dfin_n _ _ _ _ _ _ _ _ R146
def outOf (H:Heap):Option Nat→Out
 | some i=>⟨.panic (fault i),H,H.length⟩
 | none=>⟨.ok nothing,H,H.length⟩
def attOf:Option Nat→Int
 | some _=>5
 | none=>0
theorem c109 {g:FuncId}{caps:List Value}{H:Heap}{res:Option Nat}(hc:(caps.all fun v=>!isLoc v)=true)(hf:∀H2,Up H H2→R (.func g) caps H2=some (outOf H2 res)) :
  R (.func 109) [.func (.func g) #[] caps.toArray] H=some ⟨.ok (.int .i64 (attOf res)),H,H.length⟩:=by
 generalize hH:H++[({ obj:=.cells [.int .i64 0] }:Blk)]=H1
 have u1:Up H H1:=by rw [←hH]; exact (Up.refl H).app
 have a0:H1.length=H.length+1:=by rw [←hH]; simp
 have aA:H1[H.length]?=some ⟨.cells [.int .i64 0],true,true,none⟩:=by rw [←hH]; simp
 have k1:=hf H1 u1
 have lA:H.length < H1.length:=by omega
 have rd:∀x,hcells (H1.set H.length { obj:=.cells x }) H.length=some x:=fun x=>by
  unfold hcells; rw [List.getElem?_set_self lA]
 have le2:H.length≤H.length+1:=by omega
 refine run_k (pr 109) P109 (by simp [p109]) rfl ?_
 cases res with
 | some i =>
  simp only [outOf] at k1
  simp (maxDischargeDepth:=8) only [↓SD,SU,SV,SW,simprocAttr,Int.cast_ofNat_Int,small,resV, B109,R109,N109,b109, List.length_singleton,hH,hc,k1,d146p,aA,rd,a0,le2,attOf]
 | none =>
  simp only [outOf] at k1
  simp (maxDischargeDepth:=8) only [↓SD,SU,SV,SW,simprocAttr,Int.cast_ofNat_Int,small,resV, B109,R109,N109,b109, List.length_singleton,hH,hc,k1,d146n,aA,rd,a0,le2,nothing,List.length_set,attOf]
def tooW (s:Sheet)(st:Int):List Line→Nat→Option Nat
 | [],_=>none
 | l :: ls,j=>if s.wide < wideP s l st then some j else tooW s st ls (j+1)
theorem tooW_all (s:Sheet)(st:Int):∀(ls:List Line) (j:Nat),(attOf (tooW s st ls j)=0)↔(ls.all fun l=>decide (wideP s l st≤s.wide))=true
 | [],_=>by simp [tooW,attOf]
 | l :: ls,j=>by
  have ih:=tooW_all s st ls (j+1)
  rw [tooW,List.all_cons]
  by_cases h:s.wide < wideP s l st
  ·rw [if_pos h,show decide (wideP s l st≤s.wide)=false by simp; omega]; simp [attOf]
  ·rw [if_neg h,show decide (wideP s l st≤s.wide)=true by simp; omega,Bool.true_and]; exact ih
theorem _root_.Go.Pi.L.Sl.l2 {H:Heap}{a:Option Addr}{l:Nat}{xs:List LR}(h:Sl H 2 eL a l xs){j:Nat}(hj:j < l) :
  ∃b off x,a=some ⟨b,off,none⟩∧xs[j]?=some x∧(∀H',Grow H H'→rdO (hcells H' b) (off+j*2) (some 2)=some (.agg #[.slice x.ga x.gl x.gk,.bool x.l.cut])):=by
 obtain ⟨b,off,x,h1,h2,h3⟩:=h.at eL_len (by decide) hj
 exact ⟨b,off,x,h1,h2,h3.all⟩
theorem c110 {H:Heap}{r:LeR}{mb:Nat}{s:Sheet}(hr:FrOk H r mb s)(hf:Fine s){ea:Option Addr}{el ek:Nat}{x:List LM.End}(hes:Sl H 2 encG ea el x)(hx:EOk s x)(hel:el≤1000){st:Int}(h3:0≤st)(h4:st≤10){fb xb sb:Nat}
  (hfb:hcells H fb=some [.slice r.wa r.wl r.wk,.slice r.pa r.pl r.pk,.int .i64 s.other.1,.int .i64 s.other.2,.int .i64 s.gap.1,.int .i64 s.gap.2,.int .i64 s.hyphen,.slice r.na r.nl r.nk,.int .i64 s.wide,.int .i64 s.rows,.map (some mb)])
  (hxb:hcells H xb=some [.slice none 0 0,.slice ea el ek]) (hsb:hcells H sb=some [.int .i64 st]) :
  ∀H',Up H H'→R (.func 110) [.pointer (some ⟨fb,0,none⟩),.pointer (some ⟨xb,0,none⟩),.pointer (some ⟨sb,0,none⟩)] H'=some (outOf H' (tooW s st (lines s 0 x) 0)):=by
 intro H' hu
 obtain ⟨_,k111,a,m,ys,H1,lo1,rfl,u1,hlo1,sl1,yok,ymap⟩:=c111 hr hf (ek:=ek) hes hx hel H' hu
 have hll:=lines_len s x 0
 rw [hes.len] at hll
 rw [hll] at k111 sl1
 have hu1:=hu.trans u1
 have hfb1:=hu1.grow.hc hfb
 have hxb1:=hu1.grow.hc hxb
 have hsb1:=hu1.grow.hc hsb
 have hfb0:=hu.grow.hc hfb
 have hxb0:=hu.grow.hc hxb
 have lE:=hes.isLoc ek
 have L1:=hr.le.wd.isLoc r.wk
 have L2:=hr.le.pr.isLoc r.pk
 have L3:=hr.le.ws.isLoc r.nk
 have Lm:isLoc (.map (some mb))=false:=rfl
 have l8:=sl1.isLoc m
 have hul:=u1.len
 have k112:=fun y hy=>c112 (hr.up hu1) hf (gk:=y.gk) (yok y hy) h3 h4 H1 (Up.refl _)
 refine run_k (pr 110) P110 (by simp [p110]) rfl ?_
 simp (maxDischargeDepth:=8) only [↓SD,SU,SV,SW,simprocAttr,Int.cast_ofNat_Int,small,resV, B110,R110,N110,b110, hfb0,hxb0,lE,L1,L2,L3,Lm,k111,l8]
 refine loop_ind (G:=(·=_)) (fun j σ=>∃T S lim,σ=⟨T,S,[],H1,lim,26,false⟩∧get T 0=.pointer (some ⟨fb,0,none⟩)∧get T 1=.pointer (some ⟨xb,0,none⟩)∧get T 2=.pointer (some ⟨sb,0,none⟩)∧get T 7=.slice a el m∧get T 8=.int .i64 el∧get T 9=.int .i64 (j:Nat)∧(tooW s st ((lines s 0 x).drop j) j=tooW s st (lines s 0 x) 0∧H'.length≤lim)) (el) ?_ ?_ 0 _ (Nat.zero_le _) ⟨_,_,_,rfl,rfl,rfl,rfl,rfl,rfl,rfl,⟨rfl,by omega⟩⟩
 ·rintro c' j s hj ⟨T,S,lim,rfl,t0,t1,t2,t7,t8,t9,hp⟩ ih
  obtain ⟨hp,hlim⟩:=hp
  obtain ⟨b,off,y,hya,hy,e1⟩:=sl1.l2 hj
  have e1:=e1 H1 (Grow.refl _)
  have ia:=ia_of (kk:=m) (k:=2) hya hj
  have hw:=wrap_succ j (by omega)
  have k2:=k112 y (mem_drop hy)
  have hyl:(lines s 0 x)[j]?=some y.l:=by rw [←ymap,List.getElem?_map,hy]; rfl
  have l9:=(yok y (mem_drop hy)).gs.isLoc y.gk
  rw [drop_cons hyl,tooW] at hp
  by_cases hwide:s.wide < wideP s y.l st
  ·rw [if_pos hwide] at hp
   have hm:H'.length≤min lim H1.length:=Nat.le_min.2 ⟨hlim,hul⟩
   have hm2:H'.length≤min lim (min H1.length H1.length):=by omega
   simp (maxDischargeDepth:=8) only [↓SD,SU,SV,SW,simprocAttr,Int.cast_ofNat_Int,small,resV, q110x0,t0,t1,t2,t7,t8,t9, lt_nat,hj,hfb1,hsb1,L1,L2,L3,Lm,l8,l9,ia,e1,k2,hwide,hm,hm2,hlim]
   simp [outOf,←hp,fault]
  ·rw [if_neg hwide] at hp
   simp (maxDischargeDepth:=8) only [↓SD,SU,SV,SW,simprocAttr,Int.cast_ofNat_Int,small,resV, q110x0,t0,t1,t2,t7,t8,t9, lt_nat,hj,hfb1,hsb1,L1,L2,L3,Lm,l8,l9,ia,e1,k2,hwide,hw]
   exact ih _ ⟨_,_,(_),rfl,(by simp [get_set,t0] <;> omega),(by simp [get_set,t1] <;> omega),(by simp [get_set,t2] <;> omega),(by simp [get_set,t7] <;> omega),(by simp [get_set,t8] <;> omega),(by simp [get_set,t9] <;> omega),⟨hp,by omega⟩⟩
 ·rintro c' s ⟨T,S,lim,rfl,t0,t1,t2,t7,t8,t9,hp⟩
  obtain ⟨hp,hlim⟩:=hp
  rw [drop_all hll] at hp
  replace hp:none=tooW s st (lines s 0 x) 0:=hp
  simp (maxDischargeDepth:=8) only [↓SD,SU,SV,SW,simprocAttr,Int.cast_ofNat_Int,small,resV, q110x0,t0,t1,t2,t7,t8,t9, lt_nat,Nat.lt_irrefl,l8,hlim,R110,N110]
  simp [outOf,←hp,nothing]
theorem c69 {H:Heap}{r:LeR}{mb:Nat}{s:Sheet}(hr:FrOk H r mb s)(hf:Fine s){ea:Option Addr}{el ek:Nat}{x:List LM.End}(hes:Sl H 2 encG ea el x)(hx:EOk s x)(hel:el≤1000){st:Int}(h3:0≤st)(h4:st≤10) :
  ∀H',Up H H'→R (.func 69) [.agg #[.slice r.wa r.wl r.wk,.slice r.pa r.pl r.pk,.int .i64 s.other.1,.int .i64 s.other.2,.int .i64 s.gap.1,.int .i64 s.gap.2,.int .i64 s.hyphen,.slice r.na r.nl r.nk,.int .i64 s.wide,.int .i64 s.rows,.map (some mb)],.agg #[.slice none 0 0,.slice ea el ek],.int .i64 st] H'=some ⟨.ok (.bool (fitsP s st x)),H',H'.length⟩:=by
 intro H' hu
 generalize hH:H'++[({ obj:=.cells [.slice r.wa r.wl r.wk,.slice r.pa r.pl r.pk,.int .i64 s.other.1,.int .i64 s.other.2,.int .i64 s.gap.1,.int .i64 s.gap.2,.int .i64 s.hyphen,.slice r.na r.nl r.nk,.int .i64 s.wide,.int .i64 s.rows,.map (some mb)] }:Blk)]++[({ obj:=.cells [.slice none 0 0,.slice ea el ek] }:Blk)]++[({ obj:=.cells [.int .i64 st] }:Blk)]=H1
 have u1:Up H' H1:=by rw [←hH]; exact (Up.refl H').app.app.app
 have a0:H1.length=H'.length+3:=by rw [←hH]; simp
 have aA:hcells H1 H'.length=some [.slice r.wa r.wl r.wk,.slice r.pa r.pl r.pk,.int .i64 s.other.1,.int .i64 s.other.2,.int .i64 s.gap.1,.int .i64 s.gap.2,.int .i64 s.hyphen,.slice r.na r.nl r.nk,.int .i64 s.wide,.int .i64 s.rows,.map (some mb)]:=by rw [←hH]; simp [hcells]
 have aB:hcells H1 (H'.length+1)=some [.slice none 0 0,.slice ea el ek]:=by rw [←hH]; simp [hcells]
 have aC:hcells H1 (H'.length+2)=some [.int .i64 st]:=by rw [←hH]; simp [hcells]
 have hu1:=hu.trans u1
 have k1:=c109 (g:=110) (caps:=[.pointer (some ⟨H'.length,0,none⟩),.pointer (some ⟨H'.length+1,0,none⟩),.pointer (some ⟨H'.length+2,0,none⟩)]) (H:=H1) rfl (fun H2 u2=>c110 (hr.up hu1) hf (hes.grow hu1.grow) hx hel h3 h4 aA aB aC H2 u2)
 have lE:=hes.isLoc ek
 have L1:=hr.le.wd.isLoc r.wk
 have L2:=hr.le.pr.isLoc r.pk
 have L3:=hr.le.ws.isLoc r.nk
 have Lm:isLoc (.map (some mb))=false:=rfl
 have le1:H'.length≤H'.length+3:=by omega
 have hfit:fitsP s st x=(decide ((el:Int)≤s.rows)&&decide (attOf (tooW s st (lines s 0 x) 0)=0)):=by
  unfold fitsP
  rw [hes.len]
  congr 1
  rw [Bool.eq_iff_iff,decide_eq_true_iff]
  exact (tooW_all s st _ 0).symm
 rw [hfit]
 refine run_k (pr 69) P69 (by simp [p69]) rfl ?_
 by_cases hrow:(el:Int)≤s.rows
 ·simp (maxDischargeDepth:=8) only [↓SD,SU,SV,SW,simprocAttr,Int.cast_ofNat_Int,small,resV, B69,R69,N69,b69, lE,L1,L2,L3,Lm,List.length_singleton,List.length_append,List.length_nil,hH,aA,aB,aC,k1,a0,le1,hrow,decide_true,Bool.true_and]
 ·simp (maxDischargeDepth:=8) only [↓SD,SU,SV,SW,simprocAttr,Int.cast_ofNat_Int,small,resV, B69,R69,N69,b69, lE,L1,L2,L3,Lm,List.length_singleton,List.length_append,List.length_nil,hH,aA,aB,aC,a0,le1,hrow,decide_false,Bool.false_and]
end Go.Pi.L.Top
namespace LM
open Go Go.Pi Go.Pi.L

theorem inc_len:∀(l:List Int) (n b:Int),l.Pairwise (· < ·)→(∀y∈l,n≤y∧y < b)→n≤b→(l.length:Int)≤b - n
 | [],n,b,_,_,h=>by simp; omega
 | a :: l,n,b,h1,h2,h3=>by
  rw [List.pairwise_cons] at h1
  have h4:=h2 a (List.mem_cons_self ..)
  have:=inc_len l (a+1) b h1.2 (fun y hy=>⟨by have:=h1.1 y hy; omega,(h2 y (List.mem_cons_of_mem _ hy)).2⟩) (by omega)
  simp only [List.length_cons]; omega
theorem cuts_len {m:Nat}{w:Word}(h:FWord m w):w.cuts.length≤5:=by
 have:=inc_len w.cuts 1 6 h.pw (fun y hy=>by have:=h.ct y hy; have:=h.l6; omega) (by omega)
 omega
theorem endsW_len (n:Nat)(w:Word):(endsW n w).length=w.cuts.length+1:=by simp [endsW]
theorem endsL_len {m:Nat}:∀(ws:List Word) (k:Nat),(∀w∈ws,FWord m w)→(endsL k ws).length≤6*ws.length
 | [],_,_=>Nat.le_refl _
 | w :: ws,k,h=>by
  have h1:=cuts_len (h w (List.mem_cons_self ..))
  have h2:=endsL_len ws (k+1) fun x hx=>h x (List.mem_cons_of_mem _ hx)
  simp only [endsL,List.length_append,endsW_len,List.length_cons]; omega
theorem ends_len {s:Sheet}(h:Fine s):(ends s).length≤24:=by
 have:=endsL_len s.words 0 h.ws
 have:=h.n4
 unfold ends; omega
theorem ends_ne {s:Sheet}(h:Fine s):ends s≠[]:=by
 unfold ends
 cases hw:s.words with
 | nil=>have:=h.n1; rw [hw] at this; simp at this
 | cons w ws=>simp [endsL,endsW]
theorem endsW_mem {m n:Nat}{w:Word}(h:FWord m w):∀e∈endsW n w,∃L:Nat,e=((n:Int),(L:Int))∧1≤L∧L≤w.signs.length:=fun e he=>by
 unfold endsW at he
 rcases List.mem_append.1 he with he | he
 ·obtain ⟨k,hk,rfl⟩:=List.mem_map.1 he
  have:=h.ct k hk
  exact ⟨k.toNat,by rw [Int.toNat_of_nonneg (by omega)],by omega,by omega⟩
 ·simp at he; subst he
  exact ⟨w.signs.length,rfl,h.l1,Nat.le_refl _⟩
def lexE (a b:End):Prop:=a.1 < b.1∨(a.1=b.1∧a.2 < b.2)
theorem endsW_pw {m n:Nat}{w:Word}(h:FWord m w):(endsW n w).Pairwise lexE:=by
 unfold endsW
 rw [List.pairwise_append]
 refine ⟨?_,by simp,fun a ha b hb=>?_⟩
 ·rw [List.pairwise_map]
  exact h.pw.imp fun hab=>.inr ⟨rfl,hab⟩
 ·obtain ⟨k,hk,rfl⟩:=List.mem_map.1 ha
  simp at hb; subst hb
  have:=h.ct k hk
  exact .inr ⟨rfl,this.2⟩
theorem endsL_mem {m:Nat}:∀(ws:List Word) (k:Nat),(∀w∈ws,FWord m w)→∀e∈endsL k ws,∃(n L:Nat) (w:Word),e=(((k+n:Nat):Int),(L:Int))∧ws[n]?=some w∧1≤L∧L≤w.signs.length
 | [],_,_,e,he=>by cases he
 | w :: ws,k,h,e,he=>by
  rw [endsL] at he
  rcases List.mem_append.1 he with he | he
  ·obtain ⟨L,h1,h2,h3⟩:=endsW_mem (h w (List.mem_cons_self ..)) e he
   exact ⟨0,L,w,by rw [h1]; simp,rfl,h2,h3⟩
  ·obtain ⟨n,L,v,h1,h2,h3,h4⟩:=endsL_mem ws (k+1) (fun x hx=>h x (List.mem_cons_of_mem _ hx)) e he
   exact ⟨n+1,L,v,by rw [h1]; congr 2; omega,by simpa using h2,h3,h4⟩
theorem endsL_pw {m:Nat}:∀(ws:List Word) (k:Nat),(∀w∈ws,FWord m w)→(endsL k ws).Pairwise lexE
 | [],_,_=>.nil
 | w :: ws,k,h=>by
  rw [endsL,List.pairwise_append]
  refine ⟨endsW_pw (h w (List.mem_cons_self ..)),endsL_pw ws (k+1) fun x hx=>h x (List.mem_cons_of_mem _ hx),fun a ha b hb=>?_⟩
  obtain ⟨L,rfl,_⟩:=endsW_mem (h w (List.mem_cons_self ..)) a ha
  obtain ⟨n,L',v,rfl,_⟩:=endsL_mem ws (k+1) (fun x hx=>h x (List.mem_cons_of_mem _ hx)) b hb
  left; simp only; omega
theorem ends_ok {s:Sheet}(h:Fine s):EOk s (ends s):=by
 have hve:∀e∈ends s,VE s e:=fun e he=>by
  obtain ⟨n,L,w,h1,h2,h3,h4⟩:=endsL_mem s.words 0 h.ws e he
  exact ⟨n,L,w,by rw [h1]; simp,h2,h3,h4⟩
 refine ⟨hve,List.Pairwise.imp_of_mem (fun {a b} ha hb hab=>?_) (endsL_pw s.words 0 h.ws)⟩
 obtain ⟨n,L,w,rfl,h2,h3,h4⟩:=hve a ha
 obtain ⟨n',L',w',rfl,h2',h3',h4'⟩:=hve b hb
 rw [placeE_eq,placeE_eq,place_lt h2 h4 h2' h4']
 unfold lexE at hab
 simp only at hab
 omega
theorem EOk.sub {s:Sheet}{x y:List End}(h:EOk s y)(hs:x.Sublist y):EOk s x:=⟨fun e he=>h.ve e (hs.subset he),h.pw.sublist hs⟩
def setsR (rows:Int)(T now:List End):List (List End):=match T with | []=>[] | _ :: _=>sets rows T now
theorem sets_cons (rows:Int)(e:End)(T now:List End):sets rows (e :: T) now=if ((now.length:Nat):Int) < rows then sets rows T (now++[e])++setsR rows T now else []:=by
 cases T <;> rfl
theorem sets_mem (rows:Int):∀(T now x:List End),x∈sets rows T now→∃y,x=now++y∧y.Sublist T∧(T≠[]→y≠[])∧(((now.length:Nat):Int)≤rows→((x.length:Nat):Int)≤rows)
 | [],now,x,h=>by
  simp only [sets,List.mem_singleton] at h
  subst h
  exact ⟨[],by simp,List.Sublist.refl _,fun h=>(h rfl).elim,fun h=>h⟩
 | e :: T,now,x,h=>by
  rw [sets_cons] at h
  split at h
  ·rename_i hr
   rcases List.mem_append.1 h with h | h
   ·obtain ⟨y,rfl,h2,_,h4⟩:=sets_mem rows T (now++[e]) x h
    exact ⟨e :: y,by simp,h2.cons₂ e,fun _=>by simp,fun _=>h4 (by simp; omega)⟩
   ·cases T with
    | nil=>cases h
    | cons e' T =>
     obtain ⟨y,rfl,h2,h3,h4⟩:=sets_mem rows (e' :: T) now x h
     exact ⟨y,rfl,h2.cons e,fun _=>h3 (by simp),h4⟩
  ·cases h
theorem setsP_mem {s:Sheet}(h:Fine s){x:List End}(hx:x∈setsP s):EOk s x∧x≠[]∧x.length≤3:=by
 obtain ⟨y,rfl,h2,h3,h4⟩:=sets_mem s.rows (ends s) [] x hx
 have hr:=h.ro
 exact ⟨(ends_ok h).sub h2,h3 (ends_ne h),by have:=h4 (by simp; omega); omega⟩
theorem sets_len (rows:Int):∀(T now:List End) (k:Nat),rows≤((now.length:Nat):Int)+k→(sets rows T now).length≤(T.length+1) ^ k
 | [],now,k,_=>by simp [sets]
 | e :: T,now,k,h=>by
  rw [sets_cons]
  split
  ·rename_i hr
   cases k with
   | zero=>omega
   | succ k =>
    have h1:=sets_len rows T (now++[e]) k (by simp; omega)
    have h2:(setsR rows T now).length≤(T.length+1) ^ (k+1):=by
     cases T with
     | nil=>simp [setsR]
     | cons e' T=>exact sets_len rows (e' :: T) now (k+1) h
    rw [List.length_append]
    have h3:(T.length+1) ^ k≤(T.length+1+1) ^ k:=Nat.pow_le_pow_left (by omega) k
    have h4:(T.length+1) ^ (k+1)+(T.length+1) ^ k≤(T.length+1+1) ^ (k+1):=by
     have e1:(T.length+1) ^ (k+1)+(T.length+1) ^ k=(T.length+1) ^ k*(T.length+1+1):=by rw [Nat.pow_succ,Nat.mul_succ ((T.length+1) ^ k) (T.length+1)]
     rw [e1,Nat.pow_succ]
     exact Nat.mul_le_mul_right _ h3
    simp only [List.length_cons]
    omega
  ·simp
theorem setsP_len {s:Sheet}(h:Fine s):(setsP s).length≤15625:=by
 have h1:=sets_len s.rows (ends s) [] 3 (by have:=h.ro; simp; omega)
 have h2:((ends s).length+1) ^ 3≤25 ^ 3:=Nat.pow_le_pow_left (by have:=ends_len h; omega) 3
 unfold setsP
 omega
end LM
set_option maxRecDepth 100000
namespace Go.Pi.L.Top
open Go Go.Pi Go.Pi.L Go.Pi.Top LM

structure En (T:List Value)(S:List (Nat×PObj))(r:LeR)(s:Sheet)(al:Value)(n:Nat):Prop where
 t1:get T 1=.slice none 0 0
 t2:get T 2=.pointer (some ⟨2,0,some 1⟩)
 t5:get T 5=al
 t6:get T 6=.int .i64 (n:Nat)
 t11:get T 11=.int .i64 (r.nl:Nat)
 t12:get T 12=.int .i64 (n:Nat)
 s2:sget S 2=(1,.cells [.slice r.wa r.wl r.wk,.slice r.pa r.pl r.pk,.int .i64 s.other.1,.int .i64 s.other.2,.int .i64 s.gap.1,.int .i64 s.gap.2,.int .i64 s.hyphen,.slice r.na r.nl r.nk,.int .i64 s.wide,.int .i64 s.rows])
theorem lp106 {H' Hs:Heap}{r:LeR}{s:Sheet}{F:Ex→St→Option Out}{k:List It}{Q:Out→Prop}{ca al:Option Addr}{cl ck q m n lim:Nat}{xs:List Int}{zs:List LM.End}{T:List Value}{S:List (Nat×PObj)}
  (hin:En T S r s (.slice al q m) n) (h23:get T 23=.slice ca cl ck) (h24:get T 24=.int .i64 cl) (h25:get T 25=.int .i64 0) (hx:Ints Hs ca cl xs) (hcl:cl < 1000)
  (hbd:Bld H'.length Hs 2 al q m (cells encG zs)) (hq:zs.length=q) (hq2:q < 1000) (hu:Up H' Hs) (hlim:H'.length≤lim)
  (hend:∀T' S' H6 al' m' lim',En T' S' r s (.slice al' (q+cl) m') n→Bld H'.length H6 2 al' (q+cl) m' (cells encG (zs++xs.map fun k=>(((n:Nat):Int),k)))→Up H' H6→Grow Hs H6→H'.length≤lim'→Yes (mach R F k none ⟨T',S',[],H6,lim',50,false⟩) Q) :
  Yes (mach R F (.loop q106x0 :: .blk 2 :: k) none ⟨T,S,[],Hs,lim,50,false⟩) Q:=by
 refine loop_ind (G:=(Yes · Q)) (fun j σ=>∃T S H3 al m lim',σ=⟨T,S,[],H3,lim',50,false⟩∧En T S r s (.slice al (q+j) m) n∧get T 23=.slice ca cl ck∧get T 24=.int .i64 cl∧get T 25=.int .i64 (j:Nat)∧Bld H'.length H3 2 al (q+j) m (cells encG (zs++(xs.take j).map fun k=>(((n:Nat):Int),k)))∧Up H' H3∧Grow Hs H3∧H'.length≤lim') cl ?_ ?_ 0 _ (Nat.zero_le _) ⟨T,S,Hs,al,m,lim,rfl,hin,h23,h24,h25,by simpa using hbd,hu,Grow.refl _,hlim⟩
 ·rintro c' j σ hj ⟨T,S,H3,al,m,lim',rfl,h,t23,t24,t25,hbd,hu,hgs,hlim⟩ ih
  obtain ⟨t1,t2,t5,t6,t11,t12,s2⟩:=h
  have l8:isLoc (.slice al (q+j) m)=false:=hbd.isLoc _ _
  have lc:=hx.isLoc ck
  obtain ⟨b,off,x,hca,hxx,e1⟩:=hx.i1 hj
  have e1:=e1 H3 hgs
  have ia:=ia_of (kk:=ck) (k:=1) hca hj
  have hw:=wrap_succ j (by omega)
  obtain ⟨H6,q1,q2,q3,q4⟩:=hbd.app (by decide) (by decide) (by omega) hu.len [.int .i64 (n:Nat),.int .i64 x] rfl
  have q2':Bld H'.length H6 2 (some ⟨H3.length,0,none⟩) (q+(j+1)) 2 (cells encG (zs++(xs.take (j+1)).map fun k=>(((n:Nat):Int),k))):=by
   rw [take_get hxx,List.map_append,List.map_singleton,←List.append_assoc,cells_app]; exact q2
  have hl6:=q3.len
  have hul:=hu.len
  simp (maxDischargeDepth:=8) only [↓SD,SU,SV,SW,simprocAttr,Int.cast_ofNat_Int,small,resV, q106x0,t1,t2,t5,t6,t11,t12,s2,t23,t24,t25,lt_nat,hj,l8,lc,ia,e1,q1,hw]
  exact ih _ ⟨_,_,H6,_,2,_,rfl,⟨by simp [get_set,t1],by simp [get_set,t2],by simp [get_set]; omega,by simp [get_set,t6],by simp [get_set,t11],by simp [get_set,t12],by simp [sget_sset,s2]⟩,by simp [get_set,t23],by simp [get_set,t24],by simp [get_set],q2',q3.up hbd hu (Nat.le_refl _),hgs.trans q3.grow,by omega⟩
 ·rintro c' σ ⟨T,S,H3,al,m,lim',rfl,h,t23,t24,t25,hbd,hu,hgs,hlim⟩
  obtain ⟨t1,t2,t5,t6,t11,t12,s2⟩:=h
  have hle:xs.take cl=xs:=List.take_of_length_le (by rw [hx.len]; exact Nat.le_refl _)
  rw [hle] at hbd
  have lc:=hx.isLoc ck
  simp (maxDischargeDepth:=8) only [↓SD,SU,SV,SW,simprocAttr,Int.cast_ofNat_Int,small,resV, q106x0,t1,t2,t5,t6,t11,t12,s2,t23,t24,t25,lt_nat,Nat.lt_irrefl,lc,x_blk]
  exact hend _ _ H3 al m _ ⟨by simp [get_set,t1],by simp [get_set,t2],by simp [get_set,t5],by simp [get_set,t6],by simp [get_set,t11],by simp [get_set,t12],by simp [sget_sset,s2]⟩ hbd hu hgs hlim
def QE (H:Heap)(xs:List LM.End)(o:Out):Prop :=
 ∃a m H1 lo,o=⟨.ok (.slice a xs.length m),H1,lo⟩∧Up H H1∧H.length≤lo∧Sl H1 2 encG a xs.length xs∧∀b off,a=some ⟨b,off,none⟩→H.length≤b
theorem c106 {H:Heap}{r:LeR}{s:Sheet}(hr:LeOk H r s)(hf:Fine s) :
  ∀H',Grow H H'→Yes (R (.func 106) [.agg #[.slice r.wa r.wl r.wk,.slice r.pa r.pl r.pk,.int .i64 s.other.1,.int .i64 s.other.2,.int .i64 s.gap.1,.int .i64 s.gap.2,.int .i64 s.hyphen,.slice r.na r.nl r.nk,.int .i64 s.wide,.int .i64 s.rows],.slice none 0 0] H') (QE H' (ends s)):=by
 intro H' hg
 have n4:=hf.n4
 have hlen:=hr.len
 have L1:=hr.wd.isLoc r.wk
 have L2:=hr.pr.isLoc r.pk
 have L3:=hr.ws.isLoc r.nk
 have hel:=ends_len hf
 refine run_y (pr 106) P106 (by simp [p106]) rfl ?_
 simp (maxDischargeDepth:=8) only [↓SD,SU,SV,SW,simprocAttr,Int.cast_ofNat_Int,small,resV, B106,R106,N106,b106, L1,L2,L3]
 refine loop_ind (G:=(Yes · (QE H' (ends s)))) (fun j σ=>∃T S H3 al q m lim zs,σ=⟨T,S,[],H3,lim,50,false⟩∧(get T 1=.slice none 0 0∧get T 2=.pointer (some ⟨2,0,some 1⟩)∧get T 5=.slice al q m∧get T 11=.int .i64 (r.nl:Nat)∧get T 12=.int .i64 (j:Nat)∧sget S 2=(1,.cells [.slice r.wa r.wl r.wk,.slice r.pa r.pl r.pk,.int .i64 s.other.1,.int .i64 s.other.2,.int .i64 s.gap.1,.int .i64 s.gap.2,.int .i64 s.hyphen,.slice r.na r.nl r.nk,.int .i64 s.wide,.int .i64 s.rows]))∧Bld H'.length H3 2 al q m (cells encG zs)∧zs.length=q∧Up H' H3∧H'.length≤lim∧zs++endsL j (s.words.drop j)=ends s) r.nl ?_ ?_ 0 _ (Nat.zero_le _) ⟨_,_,H',none,0,0,_,[],rfl,⟨rfl,rfl,rfl,rfl,rfl,rfl⟩,Bld.nil _ _ _,rfl,Up.refl _,Nat.le_refl _,rfl⟩
 ·rintro c' j σ hj ⟨T,S,H3,al,q,m,lim,zs,rfl,⟨t1,t2,t5,t11,t12,s2⟩,hbd,hq,hu,hlim,hz⟩ ih
  have l8:isLoc (.slice al q m)=false:=hbd.isLoc _ _
  obtain ⟨b1,o1,x,hxa,hx,e1⟩:=hr.ws.w3 hj
  have hgu:=hg.trans hu.grow
  have e0:=e1.v0
  have e1:=e1.v1 H3 hgu
  have ia:=ia_of (kk:=r.nk) (k:=3) hxa hj
  have hxm:=mem_drop hx
  have hxC:=(hr.wt x hxm).ct
  have hxS:=(hr.wt x hxm).sg
  have lC:=hxC.isLoc x.ck
  have lS:=hxS.isLoc x.sk
  have hw:=wrap_succ j (by omega)
  have hxw:=hr.at hx
  have hfx:=hr.fw hf hxm
  have hcl:=cuts_len hfx
  rw [hxC.len] at hcl
  rw [drop_cons hxw,endsL] at hz
  have hqz:q≤24:=by
   have:=congrArg List.length hz
   rw [List.length_append] at this
   omega
  simp (maxDischargeDepth:=8) only [↓SD,SU,SV,SW,simprocAttr,Int.cast_ofNat_Int,small,resV, q106x1,t1,t2,t5,t11,t12,s2,lt_nat,hj,l8,L1,L2,L3,c145n,lC,ia,e1]
  refine lp106 (H':=H') (r:=r) (s:=s) (al:=al) (q:=q) (m:=m) (n:=j) (ca:=x.ca) (cl:=x.cl) (ck:=x.ck) (zs:=zs) ⟨by simp [get_set,t1],by simp [get_set,t2],by simp [get_set,t5],by simp [get_set],by simp [get_set,t11],by simp [get_set,t12],by simp [sget_sset,s2]⟩ (by simp [get_set]) (by simp [get_set]) (by simp [get_set]) (hxC.grow hgu) (by omega) hbd hq (by omega) hu (by have:=hu.len; omega) ?_
  intro T' S' H6 al' m' lim' h' hb6 hu6 hg6 hlim'
  obtain ⟨t1,t2,t5,t6,t11,t12,s2⟩:=h'
  have l9:isLoc (.slice al' (q+x.cl) m')=false:=hb6.isLoc _ _
  have e0:=e0 H6 (hg.trans hu6.grow)
  obtain ⟨H7,q1,q2,q3,q4⟩:=hb6.app (by decide) (by decide) (by omega) hu6.len [.int .i64 (j:Nat),.int .i64 (x.sl:Nat)] rfl
  have hl7:=q3.len
  have hul:=hu6.len
  have q2':Bld H'.length H7 2 (some ⟨H6.length,0,none⟩) (q+x.cl+1) 2 (cells encG (zs++endsW j x.w)):=by
   have:zs++endsW j x.w=(zs++x.w.cuts.map fun k=>(((j:Nat):Int),k))++[(((j:Nat):Int),((x.w.signs.length:Nat):Int))]:=by unfold endsW; simp
   rw [this,cells_app,hxS.len]; exact q2
  simp (maxDischargeDepth:=8) only [↓SD,SU,SV,SW,simprocAttr,Int.cast_ofNat_Int,small,resV, t1,t2,t5,t6,t11,t12,s2,l9,L1,L2,L3,lS,ia,e0,q1,hw]
  exact ih _ ⟨_,_,H7,some ⟨H6.length,0,none⟩,q+x.cl+1,2,_,zs++endsW j x.w,rfl,⟨by simp [get_set,t1],by simp [get_set,t2],by simp [get_set],by simp [get_set,t11],by simp [get_set],by simp [sget_sset,s2]⟩,q2',by rw [List.length_append,endsW_len,hxC.len]; omega,q3.up hb6 hu6 (Nat.le_refl _),by omega,by rw [List.append_assoc]; exact hz⟩
 ·rintro c' σ ⟨T,S,H3,al,q,m,lim,zs,rfl,⟨t1,t2,t5,t11,t12,s2⟩,hbd,hq,hu,hlim,hz⟩
  have l8:isLoc (.slice al q m)=false:=hbd.isLoc _ _
  rw [drop_all hlen] at hz
  simp only [endsL,List.append_nil] at hz
  subst hz
  simp (maxDischargeDepth:=8) only [↓SD,SU,SV,SW,simprocAttr,Int.cast_ofNat_Int,small,resV, q106x1,t1,t2,t5,t11,t12,s2,lt_nat,Nat.lt_irrefl,l8,R106,N106]
  rw [yes_some]
  subst hq
  have hsl:Sl H3 2 encG al (ends s).length (ends s):=hbd.sl encG_len (by decide)
  by_cases hfl:flat 4 (.slice al (ends s).length m)=true
  ·rw [gc_ite (by omega),if_pos hfl]
   exact ⟨al,m,H',H'.length,rfl,Up.refl _,Nat.le_refl _,hsl.flat hfl,fun b off h=>by rw [(flat_sl hfl).1] at h; cases h⟩
  ·rw [gc_nf (by simpa using hfl)]
   refine ⟨al,m,H3,_,rfl,hu,by omega,hsl,fun b off h=>?_⟩
   rcases hbd.ok with ⟨h1,_⟩ | ⟨b',f,h1,_,h3,_⟩
   ·rw [h1] at h; cases h
   ·rw [h1] at h; cases h; exact h3
end Go.Pi.L.Top
