/- Benches: all best plans. -/
import Derived.Test.YtjgmlngcknehhaaGreatVE
set_option linter.all false
set_option maxRecDepth 100000
namespace Go.Pi.L
open Go Go.Pi
section
variable {PP:FuncId→Option PFunc} {prims:Prims} {α:Type} {call:CallT} {F:Ex→St→Option α} {k:List It}
theorem rfA_some (g args ps a b T S D H lo n rnd):rfA call F (some (.func g,args)) ps a b k ⟨T,S,D,H,lo,n,rnd⟩=rfR call F (call (.func g) args (H++[{ obj:=.dfr false }]++[{ obj:=.loop n (T.map deloc) ps a b H.length .ready none }])) k ⟨T,S,D,H,lo,n,rnd⟩:=rfl
theorem rfR_n (v H' lo' T S D H lo n rnd){n' T' ps a b d}(h:H'[H.length+1]?=some ⟨.loop n' T' ps a b d .ready none,true,true,none⟩):rfR call F (some ⟨.ok v,H',lo'⟩) k ⟨T,S,D,H,lo,n,rnd⟩ =
  mach call F k none ⟨T,S,.coll H.length :: D,H'.set (H.length+1) { obj:=.loop n' T' ps a b d .exhausted none },min lo lo',n,rnd⟩:=by
 simp only [rfR,h,rfS]; rfl
theorem unw_coll (r ds pv T S D H lo n rnd)(h:H[r]?=some ⟨.dfr false,true,true,none⟩):unwL PP prims call (.coll r :: ds) pv ⟨T,S,D,H,lo,n,rnd⟩=unwL PP prims call ds pv ⟨T,S,D,H.set r { obj:=.dfr true },min lo r,n,rnd⟩:=by
 simp only [unwL,h,setB]
theorem fa_clo1 (f v y)(hl:isLoc v=false):fnArgs (.func (.func f) #[] #[y]) [v]=some (.func f,[v,y]):=rfl
end
end Go.Pi.L
namespace Go.Pi.L.Ch
open Go Go.Pi Go.Pi.L Go.Pi.E Go.Pi.Top BM

def Ok (b:Bench)(L:List (List Int)):Prop:=(∀xs∈L,xs∈plans b)∧L.length≤90000
theorem plans_len {b:Bench}(hf:Fine b):(plans b).length≤4096:=by
 have h1:=hf.a0
 have h2:=hf.a3
 have h3:=hf.n6
 have:=plansL_len (app:=b.app.toNat) (by omega) (rounds b)
 have h4:(rounds b).length≤6:=by simp [rounds]; exact h3
 have h5:4 ^ (rounds b).length≤4 ^ 6:=Nat.pow_le_pow_right (by decide) h4
 unfold plans
 omega
theorem ok_all {b:Bench}(hf:Fine b):∀L1 L2,plans b=L1++L2→Ok b L1:=fun L1 L2 h=>by
 refine ⟨fun xs hx=>by rw [h]; exact List.mem_append_left _ hx,?_⟩
 have:=plans_len hf
 rw [h,List.length_append] at this
 omega
theorem consB {X:BX}(hX:BXOk X):ConsB PP primsL X.l X.H0.length (fun i=>i < X.H0.length∨i=X.yb) (Ok X.b) (fun acc A H=>∃a m ts,CI X as37 bd37 19 acc A H a m ts) (fun _ _ _=>False) where
 own:=fun acc A H H' ⟨a,m,ts,h⟩ c=>⟨a,m,ts,h.own c⟩
 less:=fun acc A B H ⟨a,m,ts,h⟩ hab=>⟨a,m,ts,h.less hab⟩
 step:=fun acc A H p b hok ⟨a,m,ts,h⟩ hA hF hs hb=>by
  obtain ⟨H',lo,m',ts',h1,h2,h3,h4,h5,a',h6⟩:=CI.step hX (hok.1 p (by simp)) (by have:=hok.2; simp at this; omega) h hA hF hs hb
  exact ⟨true,H',lo,h1,h2,h3,h4,h5,fun _=>⟨a',m',ts',h6⟩,fun h=>by cases h⟩
def TmAt (b:Bench)(H:Heap)(x:Tm):Prop:=∃bb,x.a=some ⟨bb,0,none⟩∧x.l=x.p.length∧0 < x.l∧x.m=1∧Ints H x.a x.l x.p∧x.t=tk b x.p
theorem TmAt.grow {b:Bench}{H H':Heap}{x:Tm}(h:TmAt b H x)(g:Grow H H'):TmAt b H' x:=by
 obtain ⟨bb,h1,h2,h3,h4,h5,h6⟩:=h
 exact ⟨bb,h1,h2,h3,h4,h5.grow g,h6⟩
def QBs (b:Bench)(H:Heap)(o:Out):Prop:=∃bb off m H1 lo xs,o=⟨.ok (.slice (some ⟨bb,off,none⟩) xs.length m),H1,lo⟩∧Up H H1∧H.length≤lo∧Sl H1 2 eT (some ⟨bb,off,none⟩) xs.length xs∧xs.map (·.p)=bests b∧0 < xs.length∧xs.length≤4096∧∀x∈xs,TmAt b H1 x
set_option maxHeartbeats 1000000 in
theorem c37 {H:Heap}{r:BeR}{b:Bench}(hb:BeOk H r b)(hf:Fine b) :
  ∀H',Grow H H'→Fam H'→Yes (R (.func 37) [.agg #[.int .i64 r.app,.slice r.ba r.bl r.bk,.slice r.sa r.sl r.sk]] H') (QBs b H'):=by
 intro H' hg hF
 replace hb:=hb.grow hg
 clear hg
 refine run_y (pr 37) P37 (by simp [p37]) rfl ?_
 have l1:=hb.br.isLoc r.bk
 have l2:=hb.st.isLoc r.sk
 obtain ⟨Ha,hHa⟩:∃Ha,H'++[({ obj:=.cells [.int .i64 r.app,.slice r.ba r.bl r.bk,.slice r.sa r.sl r.sk] }:Blk)]=Ha:=⟨_,rfl⟩
 obtain ⟨Hb,hHb⟩:∃Hb,Ha++[({ obj:=.cells [.slice none 0 0] }:Blk)]=Hb:=⟨_,rfl⟩
 have la:Ha.length=H'.length+1:=by rw [←hHa]; simp
 have lb:Hb.length=H'.length+2:=by rw [←hHb]; simp [la]
 have ua:Up H' Ha:=by rw [←hHa]; exact (Up.refl _).app
 have ub:Up Ha Hb:=by rw [←hHb]; exact (Up.refl _).app
 have k48:=c48 r l1 l2 Hb
 obtain ⟨Hc,hHc⟩:∃Hc,Hb++[({ obj:=.cells [.int .i64 r.app,.slice r.ba r.bl r.bk,.slice r.sa r.sl r.sk] }:Blk)]=Hc:=⟨_,rfl⟩
 rw [hHc] at k48
 have lc:Hc.length=H'.length+3:=by rw [←hHc]; simp [lb]
 have uc:Up Hb Hc:=by rw [←hHc]; exact (Up.refl _).app
 have xa:Ha[H'.length]?=some (benB r):=by rw [←hHa]; exact app_get
 have xb:Hb[Ha.length]?=some (bx (.slice none 0 0)):=by rw [←hHb]; exact app_get
 have xc:Hc[Hb.length]?=some (benB r):=by rw [←hHc]; exact app_get
 obtain ⟨T,hT⟩:∃T,List.map deloc [.agg #[.int .i64 r.app,.slice r.ba r.bl r.bk,.slice r.sa r.sl r.sk],.pointer (some ⟨H'.length,0,none⟩),.slice none 0 0,.pointer (some ⟨Ha.length,0,none⟩),undef,.agg #[.int .i64 r.app,.slice r.ba r.bl r.bk,.slice r.sa r.sl r.sk],.func (.func 92) #[] #[.pointer (some ⟨Hb.length,0,none⟩)]]=T:=⟨_,rfl⟩
 obtain ⟨Hl,hHl⟩:∃Hl,Hc++[({ obj:=.dfr false }:Blk)]++[({ obj:=.loop 19 T [7] as37 bd37 Hc.length .ready none }:Blk)]=Hl:=⟨_,rfl⟩
 have ll:Hl.length=Hc.length+2:=by rw [←hHl]; simp
 have ul:Up Hc Hl:=by rw [←hHl]; exact (Up.refl _).app.app
 have u:=((ua.trans ub).trans uc).trans ul
 have hFl:Fam Hl:=by
  rw [←hHl,←hHc,←hHb,←hHa]
  exact ((((hF.append (fun f h=>by cases h)).append (fun f h=>by cases h)).append (fun f h=>by cases h)).append (fun f h=>by cases h)).append (fun f h=>by cases h)
 have bd:Hl[Hc.length]?=some ⟨.dfr false,true,true,none⟩:=by rw [←hHl,List.append_assoc,List.getElem?_append_right (Nat.le_refl _)]; simp
 have bl:Hl[Hc.length+1]?=some (lpB 19 T [7] as37 bd37 Hc.length .ready none):=by rw [←hHl,List.append_assoc,List.getElem?_append_right (by omega),Nat.add_sub_cancel_left]; rfl
 let X:BX:=⟨r,b,H',H'.length,Ha.length,Hb.length,Hc.length,Hc.length+1,T⟩
 have hX:BXOk X:=⟨by show get T 1=_; rw [←hT]; rfl,by show get T 3=_; rw [←hT]; rfl,by show H'.length≤Ha.length; omega,Nat.le_refl _,by show H'.length≤Hb.length; omega,by show H'.length≤Hc.length; omega,by show H'.length≤Hc.length+1; omega,
  by show Ha.length≠Hc.length+1; omega,by show Hc.length≠Hc.length+1; omega,by show Ha.length≠Hc.length; omega,by show H'.length≠Ha.length; omega,by show H'.length≠Hc.length+1; omega,by show Hb.length≠Ha.length; omega,by show Hb.length≠Hc.length+1; omega,hb,hf⟩
 have hI:CI X as37 bd37 19 [] (fun _=>False) Hl none 0 []:={
  cell:=by show Hl[Ha.length]?=_; rw [ul.old _ (by omega),uc.old _ (by omega)]; exact xb
  nb2:=id
  col:=Col.nil _ _ _ _
  eq:=rfl
  ok:=fun x hx=>by cases hx
  lp:=bl
  nl:=id
  df:=bd
  nd:=id
  xc:=by show Hl[H'.length]?=_; rw [ul.old _ (by omega),uc.old _ (by omega),ub.old _ (by omega)]; exact xa
  nx:=id
  yc:=by show Hl[Hb.length]?=_; rw [ul.old _ (by omega)]; exact xc
  ny:=id
  up:=u
  lo:=fun i hi=>hi.elim }
 have yc:hcells Hl Hb.length=some [.int .i64 r.app,.slice r.ba r.bl r.bk,.slice r.sa r.sl r.sk]:=by simp [hcells,show Hl[Hb.length]?=some (benB r) from hI.yc,benB,benC]
 obtain ⟨o,ho,H1,lo1,A1,rfl,w1,w2,w3,w4,w5,w6⟩:=c92 (r:=r) (xb:=Hb.length) hf (consB hX) (ok_all hf) hFl ⟨_,_,_,hI⟩ (by show Hc.length+1 < Hl.length; omega) hX.hl (fun i hi=>by
  rcases hi with hi | hi
  ·exact Nat.lt_of_lt_of_le hi u.len
  ·have e:i=Hb.length:=hi
   omega) (.inr rfl) yc (hb.st.grow u.grow) (fun h0 b off he=>.inl (Sl.inR hb.st h0 b off he)) hb.eq hb.app
 obtain ⟨a,m,ts,hI1⟩:=w6.resolve_right (fun ⟨_,_,_,_,h⟩=>h)
 have w1':H'.length≤lo1:=w1
 replace ho:R (.func 92) [.func (.yield (Hc.length+1)) #[] #[],.pointer (some ⟨Hb.length,0,none⟩)] Hl=some ⟨.ok nothing,H1,lo1⟩:=ho
 have lp1:H1[Hc.length+1]?=some ⟨.loop 19 T [7] as37 bd37 Hc.length .ready none,true,true,none⟩:=hI1.lp
 have df1:H1[Hc.length]?=some ⟨.dfr false,true,true,none⟩:=hI1.df
 obtain ⟨H2,hH2⟩:∃H2,H1.set (Hc.length+1) { obj:=.loop 19 T [7] as37 bd37 Hc.length .exhausted none }=H2:=⟨_,rfl⟩
 have hF2:Fam H2:=by rw [←hH2]; exact w5.set lp1 rfl
 have old2:∀i,i≠Hc.length+1→H2[i]?=H1[i]?:=fun i hi=>by rw [←hH2,List.getElem?_set_ne (fun e=>hi e.symm)]
 have g2:∀{i:Nat} {c:List Value},hcells H1 i=some c→hcells H2 i=some c:=fun {i c} h=>by
  rw [hc_kept (old2 i (fun e=>by subst e; simp [hcells,lp1] at h))]; exact h
 have len2:H2.length=H1.length:=by rw [←hH2]; simp
 have cell2:hcells H2 Ha.length=some [.slice a (plans b).length m]:=g2 (bx_hc hI1.cell)
 have hpl:=plans_len hf
 have hts:ts.length=(plans b).length:=by rw [←hI1.eq,List.length_map]
 have sl2:Sl H2 2 eT a (plans b).length ts:=by
  rcases hI1.col.ok with ⟨h,h0,_⟩ | ⟨bb,f,h1,_,_,_,_,h7⟩
  ·have:ts=[]:=List.eq_nil_of_length_eq_zero (by omega)
   subst this
   rw [h0,h]; exact Sl.none
  ·rw [←hts,h1]
   exact Sl.of_cells eT_len (g2 (by simp [hcells,h7]))
 have tok:∀x∈ts,TmAt b H2 x:=fun x hx=>by
  obtain ⟨bb,h1,h2,h3,h4,h5,h6,h7⟩:=hI1.ok x hx
  refine ⟨bb,h1,h2,h3,h4,?_,h7⟩
  rw [h1] at h6 ⊢
  exact Sl.mv h6 fun c hc=>g2 hc
 obtain ⟨o,ho99,a2,m2,H3,lo3,rfl,u3,hlo3,sl3⟩:=c81 (kk:=m) sl2 (by omega) (fun x hx=>by obtain ⟨bb,h1,_⟩:=tok x hx; rw [h1]; rfl) H2 (Grow.refl _)
 have l9:isLoc (.slice a (plans b).length m)=false:=sl2.isLoc _
 have l10:isLoc (.slice a2 (bestP ts).length m2)=false:=sl3.isLoc _
 have spec:=bestP_spec (T:=tk b) ts fun x hx=>by obtain ⟨bb,_,_,_,_,_,h⟩:=tok x hx; exact h
 rw [hI1.eq] at spec
 have hbe:(bestP ts).map (·.p)=bests b:=spec
 have hne:0 < (bestP ts).length:=by
  have:(bestP ts)≠[]:=fun h=>bests_ne b (by rw [←hbe,h]; rfl)
  exact List.length_pos_iff.2 this
 have hle:(bestP ts).length≤4096:=by
  have h1:(bests b).length≤(plans b).length:=List.length_filter_le _ _
  have h2:(bestP ts).length=(bests b).length:=by rw [←hbe,List.length_map]
  omega
 obtain ⟨bb,off,rfl⟩:∃bb off,a2=some ⟨bb,off,none⟩:=by
  rcases sl3.loc with h | ⟨bb,off,h⟩
  ·subst h
   obtain ⟨b',off',c,e1,_⟩:=sl3.rd 0 _ (List.getElem?_eq_getElem hne)
   cases e1
  ·exact ⟨bb,off,h⟩
 have df3:H3[Hc.length]?=some ⟨.dfr false,true,true,none⟩:=by rw [u3.old _ (by rw [len2]; exact lt_of_get df1),old2 _ (by omega)]; exact df1
 obtain ⟨H4,hH4⟩:∃H4,H3.set Hc.length { obj:=.dfr true }=H4:=⟨_,rfl⟩
 have old4:∀i,i≠Hc.length→H4[i]?=H3[i]?:=fun i hi=>by rw [←hH4,List.getElem?_set_ne (fun e=>hi e.symm)]
 have g4:∀{i:Nat} {c:List Value},hcells H3 i=some c→hcells H4 i=some c:=fun {i c} h=>by
  rw [hc_kept (old4 i (fun e=>by subst e; simp [hcells,df3] at h))]; exact h
 have len3:=u3.len
 have u4:Up H' H4:=⟨by rw [←hH4,List.length_set]; have:=u.len; omega,fun i hi=>by
  rw [old4 i (by omega),u3.old i (by have:=u.len; omega),old2 i (by omega),w4 i (.inl hi),u.old i hi]⟩
 have lo3':H2.length≤lo3:=hlo3
 have fin:∀lo,H'.length≤lo→QBs b H' (gcR H' (.ok (.slice (some ⟨bb,off,none⟩) (bestP ts).length m2)) H4 lo):=fun lo h=>by
  rw [gc_keep (by simp [flat])]
  refine ⟨bb,off,m2,H4,lo,bestP ts,rfl,u4,h,Sl.mv sl3 fun c hc=>g4 hc,hbe,hne,hle,fun x hx=>?_⟩
  have hx2:x∈ts:=by
   rcases bestP_sub ts [] x hx with h1 | h1
   ·cases h1
   ·exact h1
  obtain ⟨cb,h1,h2,h3,h4,h5,h6⟩:=(tok x hx2).grow u3.grow
  refine ⟨cb,h1,h2,h3,h4,?_,h6⟩
  rw [h1] at h5 ⊢
  exact Sl.mv h5 fun c hc=>g4 hc
 have hHl':=hHl
 unfold as37 bd37 at hHl'
 have xb1:hcells Hb H'.length=some [.int .i64 r.app,.slice r.ba r.bl r.bk,.slice r.sa r.sl r.sk]:=by
  unfold hcells
  rw [ub.old _ (by omega),xa]; rfl
 simp (maxDischargeDepth:=8) only [↓SD,SU,SV,SW,simprocAttr,Int.cast_ofNat_Int,small,resV, B37,R37,N37,b37, l1,l2,hHa,hHb,xb1,k48,k_rf,rfA_some,fa_clo1,hT,hHl',ho,rfR_n _ _ _ _ _ _ _ _ _ _ lp1,hH2,cell2,l9,ho99,l10,R37,N37,unw_coll,df3,hH4]
 rw [yes_some]
 exact fin _ (by omega)
end Go.Pi.L.Ch
set_option maxRecDepth 100000
namespace Go.Pi.L
open Go Go.Pi
section
variable {α:Type} {call:CallT} {F:Ex→St→Option α} {k:List It}
end
end Go.Pi.L
namespace Go.Pi.L.Ch
open Go Go.Pi Go.Pi.L Go.Pi.E Go.Pi.Top BM

end Go.Pi.L.Ch
set_option maxRecDepth 100000
namespace Go.Pi.L.Ch
open Go Go.Pi Go.Pi.L Go.Pi.E Go.Pi.Top BM

def QBest (b:Bench)(H:Heap)(o:Out):Prop:=∃bb m H1 lo q,o=⟨.ok (.tuple #[.slice (some ⟨bb,0,none⟩) q.length m,.int .i64 (tk b q),.int .i64 0]),H1,lo⟩∧Up H H1∧H.length≤lo∧Ints H1 (some ⟨bb,0,none⟩) q.length q∧(bests b)[0]?=some q
theorem c13 {H:Heap}{r:BeR}{b:Bench}(hb:BeOk H r b)(hd:SmB r)(hB:isBench b=true) :
  ∀H',Grow H H'→Fam H'→Yes (R (.func 13) [.agg #[.int .i64 r.app,.slice r.ba r.bl r.bk,.slice r.sa r.sl r.sk]] H') (QBest b H'):=by
 intro H' hg hF
 refine run_y (pr 13) P13 (by simp [p13]) rfl ?_
 have k1:=c36 hb hd H' hg
 rw [hB] at k1
 have hf:=fine_of hB
 have l1:=hb.br.isLoc r.bk
 have l2:=hb.st.isLoc r.sk
 obtain ⟨o,ho,bb,off,m,H1,lo,xs,rfl,u1,hlo,s1,h1,h2,h3,h4⟩:=c37 hb hf H' hg hF
 have l3:=s1.isLoc m
 obtain ⟨b',o',x,e1,hx,hat⟩:=s1.at eT_len (by decide) h2
 cases e1
 obtain ⟨cb,x1,x2,x3,x4,x5,x6⟩:=h4 x (List.mem_of_getElem? hx)
 have f0:rdO (hcells H1 bb) (off+0*2) none=some (.slice x.a x.l x.m):=At.v0 hat H1 (Grow.refl _)
 have f1:rdO (hcells H1 bb) (off+0*2+1) none=some (.int .i64 x.t):=At.v1 hat H1 (Grow.refl _)
 have ia0:vv (.ia 2) [.slice (some ⟨bb,off,none⟩) xs.length m,.int .i64 0]=some (.pointer (some ⟨bb,off+0*2,none⟩)):=vv_iaN 2 bb off 0 _ _ _ h2
 rw [Nat.zero_mul,Nat.add_zero] at f0 f1 ia0
 have hq:(bests b)[0]?=some x.p:=by rw [←h1,List.getElem?_map,hx]; rfl
 have lx:isLoc (.slice x.a x.l x.m)=false:=by rw [x1]; rfl
 have hlo':H'.length≤lo:=hlo
 have ul:=u1.len
 simp (maxDischargeDepth:=8) only [↓SD,SU,SV,SW,simprocAttr,Int.cast_ofNat_Int,small,resV, B13,R13,N13,b13, l1,l2,l3,lx,k1,ho,ia0,f0,f1,R13,N13]
 rw [yes_some,gc_keep (by rw [x1]; simp [flat])]
 rw [x1,x2,x6]
 rw [x1,x2] at x5
 exact ⟨cb,x.m,H1,_,x.p,rfl,u1,by omega,x5,hq⟩
end Go.Pi.L.Ch
