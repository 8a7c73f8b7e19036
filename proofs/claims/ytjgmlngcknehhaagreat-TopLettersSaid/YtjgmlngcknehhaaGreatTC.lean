/- Letters: how wide a row's letters are. -/
import Derived.Test.YtjgmlngcknehhaaGreatTB
set_option linter.all false
set_option maxRecDepth 100000
namespace Go.Pi.L.Top
open Go Go.Pi Go.Pi.L Go.Pi.Top LM

theorem sumI_app (a b:List Int):sumI (a++b)=sumI a+sumI b:=by
 induction a with
 | nil=>simp [sumI]
 | cons x a ih=>simp only [List.cons_append,sumI,ih]; omega
theorem sumI_in {xs:List Int}(h:∀x∈xs,0≤x∧x≤1000):0≤sumI xs∧sumI xs≤1000*(xs.length:Nat):=by
 induction xs with
 | nil=>simp [sumI]
 | cons x xs ih =>
  have:=h x (List.mem_cons_self ..)
  have:=ih fun y hy=>h y (List.mem_cons_of_mem _ hy)
  simp only [sumI,List.length_cons]; omega
theorem take_get {β:Type}{l:List β}{j:Nat}{x:β}(h:l[j]?=some x):l.take (j+1)=l.take j++[x]:=by rw [List.take_add_one,h]; rfl
theorem c166 {H:Heap}{a:Option Addr}{l kk:Nat}{xs:List Int}(hs:Ints H a l xs)(hl:l≤1000)(hb:∀x∈xs,0≤x∧x≤1000) :
  ∀H',Grow H H'→R (.func 166) [.slice a l kk] H'=some ⟨.ok (.int .i64 (sumI xs)),H',H'.length⟩:=by
 intro H' hg
 refine run_k (pr 166) P166 (by simp [p166]) rfl ?_
 have lo:=hs.isLoc kk
 simp (maxDischargeDepth:=8) only [↓SD,SU,SV,SW,simprocAttr,Int.cast_ofNat_Int,small,resV, B166,R166,N166,b166, lo]
 refine loop_ind (G:=(·=_)) (fun j σ=>∃T,σ=⟨T,[],[],H',(H').length,17,false⟩∧get T 3=.int .i64 (sumI (xs.take j))∧get T 6=.slice a l kk∧get T 7=.int .i64 l∧get T 8=.int .i64 (j:Nat)∧(True)) (l) ?_ ?_ 0 _ (Nat.zero_le _) ⟨_,rfl,rfl,rfl,rfl,rfl,by simp⟩
 ·rintro c' j s hj ⟨T,rfl,t3,t6,t7,t8,hp⟩ ih
  obtain ⟨b,off,x,hxa,hx,e1⟩:=hs.i1 hj
  have e1:=e1 H' hg
  have ia:=ia_of (kk:=kk) (k:=1) hxa hj
  have hw:=wrap_succ j (by omega)
  have h1:=sumI_in (xs:=xs.take (j+1)) fun y hy=>hb y (List.mem_of_mem_take hy)
  have h2:(xs.take (j+1)).length≤1000:=by rw [List.length_take]; omega
  have h3:sumI (xs.take (j+1))=sumI (xs.take j)+x:=by rw [take_get hx,sumI_app]; simp [sumI]
  have w2:IntKind.wrap .i64 (sumI (xs.take j)+x)=sumI (xs.take (j+1)):=by rw [←h3]; exact wrap_id _ (by omega) (by omega)
  simp (maxDischargeDepth:=8) only [↓SD,SU,SV,SW,simprocAttr,Int.cast_ofNat_Int,small,resV, q166x0,t3,t6,t7,t8, lt_nat,hj,lo,ia,e1,hw,w2]
  exact ih _ ⟨_,rfl,(by simp [get_set,t3] <;> omega),(by simp [get_set,t6] <;> omega),(by simp [get_set,t7] <;> omega),(by simp [get_set,t8] <;> omega),trivial⟩
 ·rintro c' s ⟨T,rfl,t3,t6,t7,t8,hp⟩
  have hle:xs.take l=xs:=List.take_of_length_le (by rw [hs.len]; exact Nat.le_refl _)
  rw [hle] at t3
  simp (maxDischargeDepth:=8) only [↓SD,SU,SV,SW,simprocAttr,Int.cast_ofNat_Int,small,resV, q166x0,t3,t6,t7,t8, lt_nat,Nat.lt_irrefl,lo,R166,N166]
theorem _root_.Go.Pi.L.Sl.g2 {H:Heap}{a:Option Addr}{l:Nat}{xs:List (Int×Int)}(h:Sl H 2 encG a l xs){j:Nat}(hj:j < l) :
  ∃b off x,a=some ⟨b,off,none⟩∧xs[j]?=some x∧(∀H',Grow H H'→rdO (hcells H' b) (off+j*2) (some 2)=some (.agg #[.int .i64 x.1,.int .i64 x.2])) ∧
   (∀H',Grow H H'→rdO (hcells H' b) (off+j*2) none=some (.int .i64 x.1))∧(∀H',Grow H H'→rdO (hcells H' b) (off+j*2+1) none=some (.int .i64 x.2)):=by
 obtain ⟨b,off,x,h1,h2,h3⟩:=h.at encG_len (by decide) hj
 exact ⟨b,off,x,h1,h2,h3.all,At.v0 h3,At.v1 h3⟩
structure LnOk (H:Heap)(s:Sheet)(ga:Option Addr)(gl:Nat)(l:Line):Prop where
 gs:Sl H 2 encG ga gl l.gl
 ok:∀g∈l.gl,GOk s g
 n:gl≤900
theorem LnOk.grow {H H':Heap}{s:Sheet}{ga:Option Addr}{gl:Nat}{l:Line}(h:LnOk H s ga gl l)(g:Grow H H'):LnOk H' s ga gl l:=⟨h.gs.grow g,h.ok,h.n⟩
def lw (s:Sheet)(g:Int×Int):Int:=s.widths.getD (signOf s g).toNat 0
theorem lw_in {s:Sheet}(hf:Fine s){g:Int×Int}(hg:GOk s g):1≤lw s g∧lw s g≤20:=by
 have h:=signOf_in hf hg
 unfold lw
 rw [List.getD_eq_getElem?_getD,List.getElem?_eq_getElem (by omega)]
 exact hf.wd _ (List.getElem_mem _)
theorem c147 {H:Heap}{r:LeR}{mb:Nat}{s:Sheet}(hr:FrOk H r mb s)(hf:Fine s){ga:Option Addr}{gl gk:Nat}{l:Line}(hl:LnOk H s ga gl l)(st:Int) :
  ∀H',Up H H'→R (.func 147) [.agg #[.slice r.wa r.wl r.wk,.slice r.pa r.pl r.pk,.int .i64 s.other.1,.int .i64 s.other.2,.int .i64 s.gap.1,.int .i64 s.gap.2,.int .i64 s.hyphen,.slice r.na r.nl r.nk,.int .i64 s.wide,.int .i64 s.rows,.map (some mb)],.agg #[.slice ga gl gk,.bool l.cut],.int .i64 st] H'=some ⟨.ok (.int .i64 (sumI (lettersL s l))),H',H'.length⟩:=by
 intro H' hu
 have hG:=hl.gs
 have hok:=hl.ok
 have hn:=hl.n
 have hy:=hf.hy
 have hwl:=hr.le.wd.len
 have k165:=fun g hg H2 (u:Up H' H2)=>c165 hr (g:=g) hg H2 (hu.trans u)
 have hr:=hr.le
 have lm:isLoc (.map (some mb))=false:=rfl
 have l4:=hG.isLoc gk
 refine run_k (pr 147) P147 (by simp [p147]) rfl ?_
 obtain ⟨wa,wl,wk,pa,pl,pk,na,nl,nk,xs⟩:=r
 have hW:Ints H wa wl s.widths:=hr.wd
 have hP:Sl H 4 eP pa pl s.pairs:=hr.pr
 have hN:Sl H 3 eW na nl xs:=hr.ws
 have l1:=hW.isLoc wk
 have l2:=hP.isLoc pk
 have l3:=hN.isLoc nk
 simp only at k165 hwl ⊢
 simp (maxDischargeDepth:=8) only [↓SD,SU,SV,SW,simprocAttr,Int.cast_ofNat_Int,small,resV, B147,R147,N147,b147, l1,l2,l3,l4,lm]
 refine loop_ind (G:=(·=_)) (fun j σ=>∃T S H3 al m lim,σ=⟨T,S,[],H3,lim,39,false⟩∧get T 3=.pointer (some ⟨3,0,some 1⟩)∧get T 4=.pointer (some ⟨4,0,some 1⟩)∧get T 7=.slice al j m∧get T 11=.slice ga gl gk∧get T 12=.int .i64 gl∧get T 13=.int .i64 (j:Nat)∧sget S 3=(1,.cells [.slice wa wl wk,.slice pa pl pk,.int .i64 s.other.1,.int .i64 s.other.2,.int .i64 s.gap.1,.int .i64 s.gap.2,.int .i64 s.hyphen,.slice na nl nk,.int .i64 s.wide,.int .i64 s.rows,.map (some mb)])∧sget S 4=(1,.cells [.slice ga gl gk,.bool l.cut])∧(Bld H'.length H3 1 al j m (cells encI ((l.gl.take j).map (lw s)))∧Up H' H3∧H'.length≤lim)) (gl) ?_ ?_ 0 _ (Nat.zero_le _) ⟨_,_,_,_,_,_,rfl,rfl,rfl,rfl,rfl,rfl,rfl,rfl,rfl,⟨Bld.nil _ _ _,Up.refl _,Nat.le_refl _⟩⟩
 ·rintro c' j s hj ⟨T,S,H3,al,m,lim,rfl,t3,t4,t7,t11,t12,t13,s0,s1,hp⟩ ih
  obtain ⟨hbd,hu3,hlim⟩:=hp
  have l8:isLoc (.slice al j m)=false:=hbd.isLoc _ _
  have hul:=hu3.len
  have hw:=wrap_succ j (by omega)
  obtain ⟨b,off,g,hga,hg,e1,_⟩:=hG.g2 hj
  have e1:=e1 H3 (hu.trans hu3).grow
  have ia:=ia_of (kk:=gk) (k:=2) hga hj
  have hgok:=hok g (mem_drop hg)
  have k1:=k165 g hgok H3 hu3
  have hsi:=signOf_in hf hgok
  obtain ⟨y,hy'⟩:∃y:Nat,signOf s g=(y:Int):=⟨(signOf s g).toNat,by omega⟩
  have hyl:y < wl:=by omega
  obtain ⟨b2,off2,z,hwa,hz,e2⟩:=hW.i1 hyl
  have e2:=e2 H3 (hu.trans hu3).grow
  have ia2:=ia_of (kk:=wk) (k:=1) hwa hyl
  have hlw:lw s g=z:=by unfold lw; rw [hy',List.getD_eq_getElem?_getD]; simp [hz]
  rw [hy'] at k1
  obtain ⟨H6,q1,q2,q3,q4⟩:=hbd.app (by decide) (by decide) (by omega) hul [.int .i64 z] rfl
  have q2':Bld H'.length H6 1 (some ⟨H3.length,0,none⟩) (j+1) 1 (cells encI ((l.gl.take (j+1)).map (lw s))):=by rw [take_get hg,List.map_append,List.map_singleton,cells_app,hlw]; exact q2
  have hl6:=q3.len
  simp (maxDischargeDepth:=8) only [↓SD,SU,SV,SW,simprocAttr,Int.cast_ofNat_Int,small,resV, q147x0,t3,t4,t7,t11,t12,t13,s0,s1, lt_nat,hj,l1,l2,l3,l4,l8,lm,ia,ia2,e1,e2,k1,hw,q1]
  exact ih _ ⟨_,_,(H6),(some ⟨H3.length,0,none⟩),(1),(_),rfl,(by simp [get_set,t3] <;> omega),(by simp [get_set,t4] <;> omega),(by simp [get_set,t7] <;> omega),(by simp [get_set,t11] <;> omega),(by simp [get_set,t12] <;> omega),(by simp [get_set,t13] <;> omega),by simp [sget_sset,s0],by simp [sget_sset,s1],⟨q2',q3.up hbd hu3 (Nat.le_refl _),by omega⟩⟩
 ·rintro c' s ⟨T,S,H3,al,m,lim,rfl,t3,t4,t7,t11,t12,t13,s0,s1,hp⟩
  obtain ⟨hbd,hu3,hlim⟩:=hp
  have hul:=hu3.len
  have l8:isLoc (.slice al gl m)=false:=hbd.isLoc _ _
  have hle:l.gl.take gl=l.gl:=List.take_of_length_le (by rw [hG.len]; exact Nat.le_refl _)
  rw [hle] at hbd
  have hbound:∀x∈l.gl.map (lw s),0≤x∧x≤1000:=fun x hx=>by
   obtain ⟨g,hg,rfl⟩:=List.mem_map.1 hx
   have:=lw_in hf (hok g hg); omega
  have hll:lettersL s l=l.gl.map (lw s)++(if l.cut=true then [s.hyphen] else []):=rfl
  rw [hll]
  cases hcut:l.cut with
  | false =>
   have k2:=c166 (kk:=m) (hbd.sl encI_len (by decide)) (by omega) hbound H3 (Grow.refl _)
   rw [hcut] at s1
   have hm1:H'.length≤min lim H3.length:=Nat.le_min.2 ⟨hlim,hul⟩
   simp (maxDischargeDepth:=8) only [↓SD,SU,SV,SW,simprocAttr,Int.cast_ofNat_Int,small,resV, q147x0,t3,t4,t7,t11,t12,t13,s0,s1, lt_nat,Nat.lt_irrefl,l1,l2,l3,l4,l8,lm,hm1,k2,R147,N147,Bool.false_eq_true,if_false,List.append_nil]
  | true =>
   obtain ⟨H6,q1,q2,q3,q4⟩:=hbd.app (by decide) (by decide) (by omega) hul [.int .i64 s.hyphen] rfl
   have q2':Bld H'.length H6 1 (some ⟨H3.length,0,none⟩) (gl+1) 1 (cells encI (l.gl.map (lw s)++[s.hyphen])):=by rw [cells_app]; exact q2
   have k2:=c166 (kk:=1) (q2'.sl encI_len (by decide)) (by omega) (fun x hx=>(List.mem_append.1 hx).elim (hbound x) fun h=>by simp at h; subst h; omega) H6 (Grow.refl _)
   rw [hcut] at s1
   have hl6:=q3.len
   have hm1:H'.length≤min lim H6.length:=Nat.le_min.2 ⟨hlim,by omega⟩
   simp (maxDischargeDepth:=8) only [↓SD,SU,SV,SW,simprocAttr,Int.cast_ofNat_Int,small,resV, q147x0,t3,t4,t7,t11,t12,t13,s0,s1, lt_nat,Nat.lt_irrefl,l1,l2,l3,l4,l8,lm,hm1,q1,k2,R147,N147,if_true]
end Go.Pi.L.Top
set_option maxRecDepth 100000
namespace Go.Pi.L.Top
open Go Go.Pi Go.Pi.L Go.Pi.Top LM

theorem gapsP_snoc (s:Sheet)(st:Int)(a b:Int×Int):∀l:List (Int×Int),gapsP s st (l++[a,b])=gapsP s st (l++[a])++[spaceP s a b st]
 | []=>rfl
 | [x]=>rfl
 | x :: y :: l=>by
  have ih:=gapsP_snoc s st a b (y :: l)
  simp only [List.cons_append,gapsP] at ih ⊢
  rw [ih]
theorem gapsP_in {s:Sheet}(hf:Fine s){st:Int}(h3:0≤st)(h4:st≤10):∀l:List (Int×Int),∀x∈gapsP s st l,0≤x∧x≤1000
 | [],x,h=>by cases h
 | [_],x,h=>by cases h
 | a :: b :: l,x,h=>by
  rw [gapsP] at h
  rcases List.mem_cons.1 h with rfl | h
  ·have:=space_in hf a b h3 h4; omega
  ·exact gapsP_in hf h3 h4 (b :: l) x h
theorem c148 {H:Heap}{r:LeR}{mb:Nat}{s:Sheet}(hr:FrOk H r mb s)(hf:Fine s){ga:Option Addr}{gl gk:Nat}{l:Line}(hl:LnOk H s ga gl l){st:Int}(h3:0≤st)(h4:st≤10) :
  ∀H',Up H H'→R (.func 148) [.agg #[.slice r.wa r.wl r.wk,.slice r.pa r.pl r.pk,.int .i64 s.other.1,.int .i64 s.other.2,.int .i64 s.gap.1,.int .i64 s.gap.2,.int .i64 s.hyphen,.slice r.na r.nl r.nk,.int .i64 s.wide,.int .i64 s.rows,.map (some mb)],.agg #[.slice ga gl gk,.bool l.cut],.int .i64 st] H'=some ⟨.ok (.int .i64 (sumI (gapsL s l st))),H',H'.length⟩:=by
 intro H' hu
 have hG:=hl.gs
 have hok:=hl.ok
 have hn:=hl.n
 have hot:=hf.ot
 have bI:=between_in (p:=s.other) (st:=st) (by omega) (by omega) (by omega) h3 h4
 have k168:=c168 s.other st (by omega) (by omega) (by omega) h3 h4
 have k167:=fun a ha b hb H2 (u:Up H' H2)=>c167 hr hf (a:=a) ha (b:=b) hb h3 h4 H2 (hu.trans u)
 have hr:=hr.le
 have lm:isLoc (.map (some mb))=false:=rfl
 have l4:=hG.isLoc gk
 refine run_k (pr 148) P148 (by simp [p148]) rfl ?_
 obtain ⟨wa,wl,wk,pa,pl,pk,na,nl,nk,xs⟩:=r
 have hW:Ints H wa wl s.widths:=hr.wd
 have hP:Sl H 4 eP pa pl s.pairs:=hr.pr
 have hN:Sl H 3 eW na nl xs:=hr.ws
 have l1:=hW.isLoc wk
 have l2:=hP.isLoc pk
 have l3:=hN.isLoc nk
 simp only at k167 ⊢
 simp (maxDischargeDepth:=8) only [↓SD,SU,SV,SW,simprocAttr,Int.cast_ofNat_Int,small,resV, B148,R148,N148,b148, l1,l2,l3,l4,lm]
 refine loop_ind (G:=(·=_)) (fun j σ=>∃T S H3 al q m lim,σ=⟨T,S,[],H3,lim,46,false⟩∧get T 2=.int .i64 st∧get T 3=.pointer (some ⟨3,0,some 1⟩)∧get T 4=.pointer (some ⟨4,0,some 1⟩)∧get T 7=.slice al q m∧get T 11=.slice ga gl gk∧get T 12=.int .i64 gl∧get T 13=.int .i64 (j:Nat)∧sget S 3=(1,.cells [.slice wa wl wk,.slice pa pl pk,.int .i64 s.other.1,.int .i64 s.other.2,.int .i64 s.gap.1,.int .i64 s.gap.2,.int .i64 s.hyphen,.slice na nl nk,.int .i64 s.wide,.int .i64 s.rows,.map (some mb)])∧sget S 4=(1,.cells [.slice ga gl gk,.bool l.cut])∧(q=j - 1∧Bld H'.length H3 1 al q m (cells encI (gapsP s st (l.gl.take j)))∧Up H' H3∧H'.length≤lim)) (gl) ?_ ?_ 0 _ (Nat.zero_le _) ⟨_,_,_,_,_,_,_,rfl,rfl,rfl,rfl,rfl,rfl,rfl,rfl,rfl,rfl,⟨rfl,Bld.nil _ _ _,Up.refl _,Nat.le_refl _⟩⟩
 ·rintro c' j s hj ⟨T,S,H3,al,q,m,lim,rfl,t2,t3,t4,t7,t11,t12,t13,s0,s1,hp⟩ ih
  obtain ⟨hq,hbd,hu3,hlim⟩:=hp
  have l8:isLoc (.slice al q m)=false:=hbd.isLoc _ _
  have hul:=hu3.len
  have hw:=wrap_succ j (by omega)
  obtain ⟨b,off,g,hga,hg,e1,_⟩:=hG.g2 hj
  have e1:=e1 H3 (hu.trans hu3).grow
  have ia:=ia_of (kk:=gk) (k:=2) hga hj
  have hgok:=hok g (mem_drop hg)
  by_cases hj0:j=0
  ·have e4:¬(0:Int) < (j:Int):=by omega
   simp (maxDischargeDepth:=8) only [↓SD,SU,SV,SW,simprocAttr,Int.cast_ofNat_Int,small,resV, q148x0,t2,t3,t4,t7,t11,t12,t13,s0,s1, lt_nat,hj,l1,l2,l3,l4,l8,lm,ia,e1,e4,hw]
   have hbd':Bld H'.length H3 1 al q m (cells encI (gapsP s st (l.gl.take (j+1)))):=by
    subst hj0; rw [take_get hg,List.take_zero]; exact hbd
   exact ih _ ⟨_,_,(_),(_),(_),(_),(_),rfl,(by simp [get_set,t2] <;> omega),(by simp [get_set,t3] <;> omega),(by simp [get_set,t4] <;> omega),(by simp [get_set,t7] <;> omega),(by simp [get_set,t11] <;> omega),(by simp [get_set,t12] <;> omega),(by simp [get_set,t13] <;> omega),by simp [sget_sset,s0],by simp [sget_sset,s1],⟨by omega,hbd',hu3,by omega⟩⟩
  ·obtain ⟨j,rfl⟩:∃i,j=i+1:=⟨j - 1,by omega⟩
   obtain ⟨b2,off2,g2,hga',hg2,e2,_⟩:=hG.g2 (j:=j) (by omega)
   rw [hga] at hga'
   cases hga'
   have e2:=e2 H3 (hu.trans hu3).grow
   have ia2:=ia_of (kk:=gk) (k:=2) (j:=j) (l:=gl) hga (by omega)
   have w3:IntKind.wrap .i64 (((j+1:Nat):Int) - 1)=(j:Nat):=by rw [wrap_id _ (by omega) (by omega)]; omega
   have e4:(0:Int) < ((j+1:Nat):Int):=by omega
   have k1:=k167 g2 (hok g2 (mem_drop hg2)) g hgok H3 hu3
   obtain rfl:q=j:=by omega
   obtain ⟨H6,q1,q2,q3,q4⟩:=hbd.app (by decide) (by decide) (by omega) hul [.int .i64 (spaceP s g2 g st)] rfl
   have q2':Bld H'.length H6 1 (some ⟨H3.length,0,none⟩) (q+1) 1 (cells encI (gapsP s st (l.gl.take (q+1+1)))):=by
    rw [take_get hg,take_get hg2,List.append_assoc,List.singleton_append,gapsP_snoc,cells_app,←take_get hg2]; exact q2
   have hl6:=q3.len
   simp (maxDischargeDepth:=8) only [↓SD,SU,SV,SW,simprocAttr,Int.cast_ofNat_Int,small,resV, q148x0,t2,t3,t4,t7,t11,t12,t13,s0,s1, lt_nat,hj,l1,l2,l3,l4,l8,lm,ia,ia2,e1,e2,e4,w3,k1,hw,q1]
   exact ih _ ⟨_,_,(H6),(some ⟨H3.length,0,none⟩),(q+1),(1),(_),rfl,(by simp [get_set,t2] <;> omega),(by simp [get_set,t3] <;> omega),(by simp [get_set,t4] <;> omega),(by simp [get_set,t7] <;> omega),(by simp [get_set,t11] <;> omega),(by simp [get_set,t12] <;> omega),(by simp [get_set,t13] <;> omega),by simp [sget_sset,s0],by simp [sget_sset,s1],⟨by omega,q2',q3.up hbd hu3 (Nat.le_refl _),by omega⟩⟩
 ·rintro c' s ⟨T,S,H3,al,q,m,lim,rfl,t2,t3,t4,t7,t11,t12,t13,s0,s1,hp⟩
  obtain ⟨hq,hbd,hu3,hlim⟩:=hp
  have hul:=hu3.len
  have l8:isLoc (.slice al q m)=false:=hbd.isLoc _ _
  have hle:l.gl.take gl=l.gl:=List.take_of_length_le (by rw [hG.len]; exact Nat.le_refl _)
  rw [hle] at hbd
  have hbound:=gapsP_in hf h3 h4 l.gl
  have hll:gapsL s l st=gapsP s st l.gl++(if l.cut=true then [between s.other st] else []):=rfl
  rw [hll]
  cases hcut:l.cut with
  | false =>
   have k2:=c166 (kk:=m) (hbd.sl encI_len (by decide)) (by omega) hbound H3 (Grow.refl _)
   rw [hcut] at s1
   have hm1:H'.length≤min lim H3.length:=Nat.le_min.2 ⟨hlim,hul⟩
   simp (maxDischargeDepth:=8) only [↓SD,SU,SV,SW,simprocAttr,Int.cast_ofNat_Int,small,resV, q148x0,t2,t3,t4,t7,t11,t12,t13,s0,s1, lt_nat,Nat.lt_irrefl,l1,l2,l3,l4,l8,lm,hm1,k2,R148,N148,Bool.false_eq_true,if_false,List.append_nil]
  | true =>
   obtain ⟨H6,q1,q2,q3,q4⟩:=hbd.app (by decide) (by decide) (by omega) hul [.int .i64 (between s.other st)] rfl
   have q2':Bld H'.length H6 1 (some ⟨H3.length,0,none⟩) (q+1) 1 (cells encI (gapsP s st l.gl++[between s.other st])):=by rw [cells_app]; exact q2
   have k2:=c166 (kk:=1) (q2'.sl encI_len (by decide)) (by omega) (fun x hx=>(List.mem_append.1 hx).elim (hbound x) fun h=>by simp at h; subst h; omega) H6 (Grow.refl _)
   rw [hcut] at s1
   have hl6:=q3.len
   have hm1:H'.length≤min lim H6.length:=Nat.le_min.2 ⟨hlim,by omega⟩
   have hm2:min (min lim H3.length) H6.length=min lim H3.length:=by omega
   have hm3:H'.length≤min lim H3.length:=by omega
   simp (maxDischargeDepth:=8) only [↓SD,SU,SV,SW,simprocAttr,Int.cast_ofNat_Int,small,resV, q148x0,t2,t3,t4,t7,t11,t12,t13,s0,s1, lt_nat,Nat.lt_irrefl,l1,l2,l3,l4,l8,lm,hm1,hm2,hm3,k168,q1,k2,R148,N148,if_true]
theorem lettersL_in {s:Sheet}(hf:Fine s){l:Line}(hok:∀g∈l.gl,GOk s g):∀x∈lettersL s l,0≤x∧x≤1000:=fun x hx=>by
 have hy:=hf.hy
 rcases List.mem_append.1 hx with hx | hx
 ·obtain ⟨g,hg,rfl⟩:=List.mem_map.1 hx
  have:1≤lw s g∧lw s g≤20:=lw_in hf (hok g hg)
  unfold lw at this; omega
 ·cases h:l.cut with
  | true=>rw [h] at hx; simp at hx; subst hx; omega
  | false=>rw [h] at hx; simp at hx
theorem gapsL_in {s:Sheet}(hf:Fine s)(l:Line){st:Int}(h3:0≤st)(h4:st≤10):∀x∈gapsL s l st,0≤x∧x≤1000:=fun x hx=>by
 have hot:=hf.ot
 have bI:=between_in (p:=s.other) (st:=st) (by omega) (by omega) (by omega) h3 h4
 rcases List.mem_append.1 hx with hx | hx
 ·exact gapsP_in hf h3 h4 _ x hx
 ·cases h:l.cut with
  | true=>rw [h] at hx; simp at hx; subst hx; omega
  | false=>rw [h] at hx; simp at hx
theorem gapsP_len (s:Sheet)(st:Int):∀l:List (Int×Int),(gapsP s st l).length≤l.length
 | []=>Nat.le_refl _
 | [_]=>Nat.zero_le _
 | a :: b :: l=>by have:=gapsP_len s st (b :: l); simp only [gapsP,List.length_cons] at this ⊢; omega
theorem vv_ixb0 (a b:Value)(h:([.agg #[a,b],.int .i64 0].all fun v=>!isLoc v)=true:=by rfl):vv (.ixa 1 2 none) [.agg #[a,b],.int .i64 0]=some a:=by rw [vv_of h]; rfl
theorem vv_ixb1 (a b:Value)(h:([.agg #[a,b],.int .i64 1].all fun v=>!isLoc v)=true:=by rfl):vv (.ixa 1 2 none) [.agg #[a,b],.int .i64 1]=some b:=by rw [vv_of h]; rfl
theorem c112 {H:Heap}{r:LeR}{mb:Nat}{s:Sheet}(hr:FrOk H r mb s)(hf:Fine s){ga:Option Addr}{gl gk:Nat}{l:Line}(hl:LnOk H s ga gl l){st:Int}(h3:0≤st)(h4:st≤10) :
  ∀H',Up H H'→R (.func 112) [.agg #[.slice r.wa r.wl r.wk,.slice r.pa r.pl r.pk,.int .i64 s.other.1,.int .i64 s.other.2,.int .i64 s.gap.1,.int .i64 s.gap.2,.int .i64 s.hyphen,.slice r.na r.nl r.nk,.int .i64 s.wide,.int .i64 s.rows,.map (some mb)],.agg #[.slice ga gl gk,.bool l.cut],.int .i64 st] H'=some ⟨.ok (.int .i64 (wideP s l st)),H',H'.length⟩:=by
 intro H' hu
 have k1:=c147 hr hf (gk:=gk) hl st H' hu
 have k2:=c148 hr hf (gk:=gk) hl h3 h4 H' hu
 have b1:=sumI_in (lettersL_in hf hl.ok)
 have b2:=sumI_in (gapsL_in hf l h3 h4)
 have n1:(lettersL s l).length≤l.gl.length+1:=by unfold lettersL; rw [List.length_append,List.length_map]; split <;> simp
 have n2:(gapsL s l st).length≤l.gl.length+1:=by unfold gapsL; rw [List.length_append]; have:=gapsP_len s st l.gl; split <;> simp <;> omega
 have n3:=hl.gs.len
 have n4:=hl.n
 have hr:=hr.le
 have l4:=hl.gs.isLoc gk
 have lm:isLoc (.map (some mb))=false:=rfl
 have w1:IntKind.wrap .i64 (0+sumI (lettersL s l))=sumI (lettersL s l):=by rw [Int.zero_add]; exact wrap_id _ (by omega) (by omega)
 have w2:IntKind.wrap .i64 (sumI (lettersL s l)+sumI (gapsL s l st))=sumI (lettersL s l)+sumI (gapsL s l st):=wrap_id _ (by omega) (by omega)
 refine run_k (pr 112) P112 (by simp [p112]) rfl ?_
 obtain ⟨wa,wl,wk,pa,pl,pk,na,nl,nk,xs⟩:=r
 have hW:Ints H wa wl s.widths:=hr.wd
 have hP:Sl H 4 eP pa pl s.pairs:=hr.pr
 have hN:Sl H 3 eW na nl xs:=hr.ws
 have l1:=hW.isLoc wk
 have l2:=hP.isLoc pk
 have l3:=hN.isLoc nk
 simp only at k1 k2 ⊢
 simp (maxDischargeDepth:=8) only [↓SD,SU,SV,SW,simprocAttr,Int.cast_ofNat_Int,small,resV, B112,R112,N112,b112, l1,l2,l3,l4,lm,l_succ,q112x0,vv_ixb0,vv_ixb1,k1,k2,w1,w2,wideP]
end Go.Pi.L.Top
set_option maxRecDepth 100000
namespace Go.Pi.L.Top
open Go Go.Pi Go.Pi.L Go.Pi.Top LM

def QF (H:Heap)(r:LeR)(s:Sheet)(o:Out):Prop :=
 ∃mb H1 lo,o=⟨.ok (.agg #[.slice r.wa r.wl r.wk,.slice r.pa r.pl r.pk,.int .i64 s.other.1,.int .i64 s.other.2,.int .i64 s.gap.1,.int .i64 s.gap.2,.int .i64 s.hyphen,.slice r.na r.nl r.nk,.int .i64 s.wide,.int .i64 s.rows,.map (some mb)]),H1,lo⟩∧Up H H1∧H.length≤lo∧FrOk H1 r mb s
theorem app_get1 (H:Heap)(b:Blk):(H++[b])[H.length]?=some b:=by simp
theorem app_set1 (H:Heap)(b c:Blk):(H++[b]).set H.length c=H++[c]:=by simp
theorem c27 {H:Heap}{r:LeR}{s:Sheet}(hr:LeOk H r s)(hf:Fine s) :
  ∀H',Grow H H'→Yes (R (.func 27) [.agg #[.slice r.wa r.wl r.wk,.slice r.pa r.pl r.pk,.int .i64 s.other.1,.int .i64 s.other.2,.int .i64 s.gap.1,.int .i64 s.gap.2,.int .i64 s.hyphen,.slice r.na r.nl r.nk,.int .i64 s.wide,.int .i64 s.rows]] H') (QF H' r s):=by
 intro H' hg
 have p6:=hf.p6
 rw [hr.pr.len] at p6
 have hpw:=pairs_pw hf.pb
 have hr0:=hr
 have lm:∀b,isLoc (.map (some b))=false:=fun b=>rfl
 refine run_y (pr 27) P27 (by simp [p27]) rfl ?_
 obtain ⟨wa,wl,wk,pa,pl,pk,na,nl,nk,xs⟩:=r
 have hW:Ints H wa wl s.widths:=hr.wd
 have hP:Sl H 4 eP pa pl s.pairs:=hr.pr
 have hN:Sl H 3 eW na nl xs:=hr.ws
 have l1:=hW.isLoc wk
 have l2:=hP.isLoc pk
 have l3:=hN.isLoc nk
 simp only at p6 hr0 ⊢
 simp (maxDischargeDepth:=8) only [↓SD,SU,SV,SW,simprocAttr,Int.cast_ofNat_Int,small,resV, B27,R27,N27,b27, l1,l2,l3,g_mkm,nn_some,lm]
 refine loop_ind (G:=(Yes · _)) (fun j σ=>∃T S lim,σ=⟨T,S,[],H'++[({ obj:=.map mSh ((s.pairs.take j).map encP) }:Blk)],lim,27,false⟩∧get T 3=.pointer (some ⟨3,0,some 1⟩)∧get T 2=.pointer (some ⟨2,0,some 1⟩)∧get T 10=.slice pa pl pk∧get T 11=.int .i64 pl∧get T 12=.int .i64 (j:Nat)∧sget S 3=(1,.cells [.slice wa wl wk,.slice pa pl pk,.int .i64 s.other.1,.int .i64 s.other.2,.int .i64 s.gap.1,.int .i64 s.gap.2,.int .i64 s.hyphen,.slice na nl nk,.int .i64 s.wide,.int .i64 s.rows,.map (some H'.length)])∧sget S 2=(1,.cells [.slice none 0 0,.slice none 0 0,.int .i64 0,.int .i64 0,.int .i64 0,.int .i64 0,.int .i64 0,.slice none 0 0,.int .i64 0,.int .i64 0,.map none])∧(H'.length≤lim)) (pl) ?_ ?_ 0 _ (Nat.zero_le _) ⟨_,_,_,rfl,rfl,rfl,rfl,rfl,rfl,rfl,rfl,Nat.le_refl _⟩
 ·rintro c' j s hj ⟨T,S,lim,rfl,t3,t2,t10,t11,t12,s0,s1,hp⟩ ih
  obtain ⟨b1,o1,p,hpa,hpx,e1⟩:=hP.p4 hj
  have hu:Up H' (H'++[({ obj:=.map mSh ((s.pairs.take j).map encP) }:Blk)]):=(Up.refl H').app
  have e1:=e1.all _ (hg.trans hu.grow)
  have ia:=ia_of (kk:=pk) (k:=4) hpa hj
  have hw:=wrap_succ j (by omega)
  have lm:∀b,isLoc (.map (some b))=false:=fun b=>rfl
  have hup:=upd_enc (ps:=s.pairs.take j) (p:=p) (fun q hq=>by
   have h1:s.pairs=s.pairs.take j++s.pairs.drop j:=(List.take_append_drop j _).symm
   rw [h1,drop_cons hpx] at hpw
   exact (List.pairwise_append.1 hpw).2.2 q hq p (List.mem_cons_self ..))
  rw [←take_get hpx] at hup
  unfold keyV spanV at hup
  have hk2:mSh.has (.agg #[.int .i64 p.left,.int .i64 p.right])=true:=rfl
  simp (maxDischargeDepth:=8) only [↓SD,SU,SV,SW,simprocAttr,Int.cast_ofNat_Int,small,resV, q27x0,t3,t2,t10,t11,t12,s0,s1, lt_nat,hj,l1,l2,l3,lm,ia,e1,g_mup,mup_v,app_get1,mup_ok,hk2,app_set1,hup,hw]
  exact ih _ ⟨_,_,(_),rfl,(by simp [get_set,t3] <;> omega),(by simp [get_set,t2] <;> omega),(by simp [get_set,t10] <;> omega),(by simp [get_set,t11] <;> omega),(by simp [get_set,t12] <;> omega),by simp [sget_sset,s0],by simp [sget_sset,s1],by omega⟩
 ·rintro c' s ⟨T,S,lim,rfl,t3,t2,t10,t11,t12,s0,s1,hp⟩
  have hle:s.pairs.take pl=s.pairs:=List.take_of_length_le (by rw [hP.len]; exact Nat.le_refl _)
  rw [hle]
  have lm:∀b,isLoc (.map (some b))=false:=fun b=>rfl
  simp (maxDischargeDepth:=8) only [↓SD,SU,SV,SW,simprocAttr,Int.cast_ofNat_Int,small,resV, q27x0,t3,t2,t10,t11,t12,s0,s1, lt_nat,Nat.lt_irrefl,l1,l2,l3,lm,R27,N27]
  rw [yes_some,gc_ite (by omega),if_neg (by simp [flat])]
  exact ⟨H'.length,_,_,rfl,(Up.refl H').app,by omega,hr0.grow (hg.trans (Up.refl H').app.grow),by simp⟩
end Go.Pi.L.Top
set_option maxRecDepth 100000
namespace Go.Pi.L
open Go Go.Pi
theorem vv_nl_s0 (ne l m):vv (.nl .slice ne) [.slice none l m]=some (.bool (true != ne)):=by rw [vv_of rfl]; rfl
theorem vv_nl_s (ne b o l m):vv (.nl .slice ne) [.slice (some ⟨b,o,none⟩) l m]=some (.bool (false != ne)):=by rw [vv_of rfl]; rfl
theorem Sl.elems {β:Type}{H:Heap}{k:Nat}{enc:β→List Value}{a:Option Addr}{l:Nat}{xs:List β}(h:Sl H k enc a l xs)(hk:∀x,(enc x).length=k)(k0:0 < k)(m:Nat)(T S D lo n rnd):elemsL ⟨T,S,D,H,lo,n,rnd⟩ k (.slice a l m)=some (cells enc xs):=by
 obtain rfl:=h.len
 have e0:elemsL ⟨T,S,D,H,lo,n,rnd⟩ k (.slice a xs.length m)=Go.Pi.elems H k (.slice a xs.length m):=by
  rcases h.loc with rfl | ⟨b,off,rfl⟩
  ·rfl
  ·unfold elemsL; split
   ·rename_i he; cases he
   ·rfl
 rw [e0]
 by_cases h0:xs.length=0
 ·have:xs=[]:=List.eq_nil_of_length_eq_zero h0
  subst this
  rcases h.loc with rfl | ⟨b,off,rfl⟩ <;> rfl
 ·obtain ⟨b,off,c,ha,hc,_⟩:=h.rd 0 xs[0] (List.getElem?_eq_getElem (by omega))
  subst ha
  have key:∀n,n≤xs.length→(n≠0→off+n*k≤c.length)∧(c.drop off).take (n*k)=cells enc (xs.take n):=by
   intro n
   induction n with
   | zero=>intro _; simp [cells]
   | succ n ih =>
    intro hn
    obtain ⟨i1,i2⟩:=ih (by omega)
    obtain ⟨b',off',c',h1,h2,h3⟩:=h.rd n xs[n] (List.getElem?_eq_getElem (by omega))
    cases h1
    rw [hc] at h2; cases h2
    have h4:=congrArg List.length h3
    rw [hk,List.length_take,List.length_drop] at h4
    refine ⟨fun _=>?_,?_⟩
    ·rw [Nat.add_mul]; omega
    ·rw [List.take_succ_eq_append_getElem (by omega),cells_app,←i2,←h3,Nat.add_mul,Nat.one_mul,List.take_add,List.drop_drop]
  obtain ⟨k1,k2⟩:=key xs.length (Nat.le_refl _)
  rw [List.take_length] at k2
  simp only [Go.Pi.elems,if_neg h0,hc]
  rw [if_pos (k1 h0),k2]
section
variable {α:Type} {call:CallT} {F:Ex→St→Option α} {k:List It}
theorem apA_none (kk a l m d T S D H lo n rnd)(h:isLoc (.slice a l m)=false)(hl:l < 1000000):ap1 call F (some []) (.slice a l m) kk d k ⟨T,S,D,H,lo,n,rnd⟩=nxt call F (some (.slice a l m)) d k ⟨T,S,D,H,lo,n,rnd⟩:=by
 have h2:l < small:=by unfold small; omega
 have hop:appB ⟨T,S,D,H,lo,n,rnd⟩ kk [] a l m d=putO ⟨T,S,D,H,lo,n,rnd⟩ d (.slice a l m):=by
  unfold appB
  rw [if_neg (by simp [h]),if_neg (by simp only [List.length_nil,Nat.zero_mod,not_or,Decidable.not_not]; exact ⟨trivial,by omega⟩),if_pos (show ([]:List Value).isEmpty=true from rfl)]
 simp only [ap1,hop]
 exact go_putO
theorem apB_none (b p l kk d T S D H lo n rnd)(hl:l < 1000000):ap2 call F b [] p l kk d k ⟨T,S,D,H,lo,n,rnd⟩=nxt call F (some (.slice (some ⟨p,0,none⟩) l kk)) d k ⟨T,S,D,H,lo,n,rnd⟩:=by
 unfold ap2
 split
 ·rw [if_neg (by simp)]; exact apA_none _ _ _ _ _ _ _ _ _ _ _ _ rfl hl
 ·exact apA_none _ _ _ _ _ _ _ _ _ _ _ _ rfl hl
noncomputable def clrV (call:CallT)(F:Ex→St→Option α)(zero:List Value)(v:Value)(d:Option Tmp)(k:List It)(s:St):Option α :=
 match v with
 | .slice none _ _=>nxt call F (some (.tuple #[])) d k s
 | .slice (some ⟨b,off,none⟩) l _ =>
  if l=0 then nxt call F (some (.tuple #[])) d k s else
  match stCells s ⟨b,off,none⟩ (rep l zero) with
  | some s=>nxt call F (some (.tuple #[])) d k s
  | none=>none
 | _=>none
theorem g_clr (d zero a s):go call F d (.clr zero a) k s=clrV call F zero (ev s.T a) d k s:=by
 simp only [go,opR,clrV]
 cases ev s.T a with
 | slice p l m =>
  cases p with
  | none=>exact go_putO
  | some p =>
   obtain ⟨b,off,g⟩:=p
   cases g with
   | some g=>rfl
   | none =>
    simp only
    by_cases hl:l=0
    ·simp only [if_pos hl]; exact go_putO
    ·simp only [if_neg hl]
     cases stCells s ⟨b,off,none⟩ (rep l zero) with
     | none=>rfl
     | some s2=>exact go_putO
 | _=>rfl
theorem clr_ok (zero b off l m d T S D H lo n rnd){c:List Value}{f:Nat}(hb:H[b]?=some ⟨.cells c,true,true,some f⟩)(hl:l≠0)(hc:off+(rep l zero).length≤c.length) :
  clrV call F zero (.slice (some ⟨b,off,none⟩) l m) d k ⟨T,S,D,H,lo,n,rnd⟩=nxt call F (some (.tuple #[])) d k ⟨T,S,D,(kill f H).set b ⟨.cells (splice c off (rep l zero)),true,true,some f⟩,min lo (min f b),n,rnd⟩:=by
 simp only [clrV,if_neg hl,stCells,hb,if_pos hc]
end
end Go.Pi.L
namespace Go.Pi.L.Top
open Go Go.Pi Go.Pi.L Go.Pi.Top LM

def QC (H:Heap)(l:Nat)(xs:List Int)(o:Out):Prop :=
 ∃a m H1 lo,o=⟨.ok (.slice a l m),H1,lo⟩∧Up H H1∧H.length≤lo∧Fam H1∧Sl H1 1 encI a l xs∧(0 < l→∃b,a=some ⟨b,0,none⟩∧m=1∧Bld H.length H1 1 (some ⟨b,0,none⟩) l 1 (cells encI xs))
theorem c66 {H:Heap}{a:Option Addr}{l k:Nat}{xs:List Int}(hx:Ints H a l xs)(hl:l < 1000) :
  ∀H',Grow H H'→Fam H'→Yes (R (.func 66) [.slice a l k] H') (QC H' l xs):=by
 intro H' hg hF
 have l1:=hx.isLoc k
 have g0:Bld H'.length (H'++[({ obj:=.cells [],fam:=some H'.length }:Blk)]) 1 (some ⟨H'.length,0,none⟩) 0 1 []:=⟨rfl,.inr ⟨_,_,rfl,rfl,Nat.le_refl _,Nat.le_refl _,by simp⟩⟩
 have hF1:Fam (H'++[({ obj:=.cells [],fam:=some H'.length }:Blk)]):=Fam.app1 hF (Nat.le_refl _)
 have hg1:=hg.trans ((Up.refl H').app (l:=[({ obj:=.cells [],fam:=some H'.length }:Blk)])).grow
 have q0:=fun T S D lo n rnd=>(hx.grow hg1).elems (fun _=>rfl) (by decide) k T S D lo n rnd
 by_cases h0:l=0
 ·subst h0
  have hxs:xs=[]:=List.eq_nil_of_length_eq_zero hx.len
  subst hxs
  rcases hx.loc with rfl | ⟨b,off,rfl⟩
  ·refine run_y (pr 66) P66 (by simp [p66]) rfl ?_
   simp (maxDischargeDepth:=8) only [↓SD,SU,SV,SW,simprocAttr,Int.cast_ofNat_Int,small,resV, B66,R66,N66,b66, l1,vv_nl_s0]
   rw [yes_some]
   exact ⟨none,0,H',H'.length,rfl,Up.refl _,Nat.le_refl _,hF,Sl.none,fun h=>absurd h (by omega)⟩
  ·refine run_y (pr 66) P66 (by simp [p66]) rfl ?_
   have lf:isLoc (.slice (some ⟨H'.length,0,none⟩) 0 1)=false:=rfl
   have z:(0:Nat) < 1000000:=by omega
   have q0':∀T S D lo n rnd,elemsL ⟨T,S,D,H'++[({ obj:=.cells [],fam:=some H'.length }:Blk)],lo,n,rnd⟩ 1 (.slice (some ⟨b,off,none⟩) 0 k)=some []:=q0
   simp (maxDischargeDepth:=8) only [↓SD,SU,SV,SW,simprocAttr,Int.cast_ofNat_Int,small,resV, B66,R66,N66,b66, l1,vv_nl_s,q0',apB_none,lf,z]
   rw [yes_some,gc_ite (Nat.le_refl _),if_neg (by simp [flat])]
   exact ⟨_,_,_,_,rfl,(Up.refl _).app,Nat.le_refl _,hF1,g0.sl (xs:=[]) encI_len (by decide),fun h=>absurd h (by omega)⟩
 ·obtain ⟨H1,q1,g1,q3,f1⟩:=g0.apps hF1 (by decide) (by decide) (by simp) (cells encI xs) (Nat.pos_of_ne_zero h0) (by rw [cells_len (k:=1) (fun _=>rfl),hx.len]) (by omega)
  have hu:Up H' H1:=q3.up g0 (Up.refl _).app (Nat.le_refl _)
  rw [Nat.zero_add] at g1
  rw [List.nil_append,show (H'++[({ obj:=.cells [],fam:=some H'.length }:Blk)]).length=H'.length+1 by simp] at g1
  refine run_y (pr 66) P66 (by simp [p66]) rfl ?_
  obtain ⟨b,off,x,rfl,hx',f0⟩:=hx.at (fun _=>rfl) (by decide) (Nat.pos_of_ne_zero h0)
  simp (maxDischargeDepth:=8) only [↓SD,SU,SV,SW,simprocAttr,Int.cast_ofNat_Int,small,resV, B66,R66,N66,b66, l1,vv_nl_s,q0,q1]
  rw [yes_some,gc_ite (Nat.le_refl _),if_neg (by simp [flat])]
  exact ⟨_,_,_,_,rfl,hu,Nat.le_refl _,f1,g1.sl encI_len (by decide),fun _=>⟨_,rfl,rfl,g1⟩⟩
end Go.Pi.L.Top
