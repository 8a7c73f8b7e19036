/- Prices: the prices of all boards are told, and what is paid. -/
import Derived.Test.YtjgmlngcknehhaaGreatTJ
set_option linter.all false
set_option maxRecDepth 100000
namespace Go.Pi.L.Top
open Go Go.Pi Go.Pi.L Go.Pi.Top LM

theorem pricesP_len (t:Int×Int)(xs:List Int):(pricesP t xs).length=xs.length:=by unfold pricesP; simp
theorem pricesP_in {t:Int×Int}{xs:List Int}(h1:0≤t.1∧t.1≤500)(hx:∀x∈xs,0≤x∧x≤60):∀x∈pricesP t xs,0≤x∧x≤30000:=fun x h=>by
 unfold pricesP at h
 obtain ⟨y,hy,rfl⟩:=List.mem_map.1 h
 exact mul_in (hx y hy).1 (hx y hy).2 h1.1 h1.2
theorem c35 {H:Heap}{oa ba ta ha:Option Addr}{ok bk tk hk mb:Nat}{xs:List Int}{t:Int×Int}(h:PrOk H oa ba ta xs t)(hh:Ints H ha xs.length (xs.map fun _=>0)) :
  ∀H',Grow H H'→MpP t H' mb→Yes (R (.func 35) [argB oa ba ta ha ok xs.length bk tk xs.length hk mb,argT t] H') (QP t H' mb (sumI (pricesP t xs))):=by
 intro H' hg hm
 have l1:=h.of.isLoc ok
 have l2:=h.bd.isLoc bk
 have l3:=h.tr.isLoc tk
 have l4:=hh.isLoc hk
 have n4:=h.n4
 have lm:isLoc (.map (some mb))=false:=rfl
 have hlen:=pricesP_len t xs
 obtain ⟨_,k34,a1,m1,H1,lo1,rfl,ch1,hm1,hl1,hi1⟩:=c34 (ok:=ok) (bk:=bk) (tk:=tk) (hk:=hk) h hh H' hg hm
 have k78:=c78 (kk:=m1) hi1 (by omega) (pricesP_in h.t1 h.xi) H1 (Grow.refl _)
 have l5:=hi1.isLoc m1
 have hmb1:=hm1.lt
 unfold argB argT at k34 ⊢
 refine run_y (pr 35) P35 (by simp [p35]) rfl ?_
 simp (maxDischargeDepth:=8) only [↓SD,SU,SV,SW,simprocAttr,Int.cast_ofNat_Int,small,resV, B35,R35,N35,b35, l1,l2,l3,l4,l5,lm,k34,k78,R35,N35]
 rw [yes_some]
 refine gc_p ch1 hm hm1 ?_
 have:=ch1.len
 have:=hm.lt
 omega
theorem c11 {H:Heap}{oa ba ta ha:Option Addr}{ok bk tk hk:Nat}{xs:List Int}{t:Int×Int}(h:PrOk H oa ba ta xs t)(hh:Ints H ha xs.length (xs.map fun _=>0)) :
  ∀H',Grow H H'→Yes (R (.func 11) [.agg #[.slice oa 1 ok,.slice ba xs.length bk,.slice ta 1 tk],.int .i64 0,.slice ha xs.length hk] H')
   (fun o=>∃a m H1 lo,o=⟨.ok (.tuple #[.slice a xs.length m,.int .i64 0]),H1,lo⟩∧Up H' H1∧H'.length≤lo∧Ints H1 a xs.length (pricesP t xs)):=by
 intro H' hg
 have l1:=h.of.isLoc ok
 have l2:=h.bd.isLoc bk
 have l3:=h.tr.isLoc tk
 have l4:=hh.isLoc hk
 have n1:=h.n1
 have hlen:=pricesP_len t xs
 have k31:=c31 (ok:=ok) (bk:=bk) (tk:=tk) h H' hg
 have k32:=c32 (ok:=ok) (bk:=bk) (tk:=tk) (hk:=hk) h hh H' hg
 have k33:=c33 l1 l2 l3 l4 H'
 have u1:Up H' (H'++[({ obj:=.map pSh [] }:Blk)]):=(Up.refl H').app
 have hm:MpP t (H'++[({ obj:=.map pSh [] }:Blk)]) H'.length:=⟨[],by simp,fun e he=>by cases he⟩
 obtain ⟨b,o,x,hta,hx,e1⟩:=h.tr.t5 (j:=0) (by decide)
 have hxt:x=t:=by simpa using hx.symm
 subst hxt
 have e1:=e1 _ (hg.trans u1.grow)
 have ia:vv (.ia 5) [.slice ta 1 tk,.int .i64 0]=some (.pointer (some ⟨b,o,none⟩)):=by
  have:=ia_of (l:=1) (kk:=tk) (k:=5) hta (j:=0) (by decide)
  simpa using this
 simp only [Nat.zero_mul,Nat.add_zero] at e1
 obtain ⟨_,k34,a1,m1,H1,lo1,rfl,ch1,hm1,hl1,hi1⟩:=c34 (ok:=ok) (bk:=bk) (tk:=tk) (hk:=hk) h hh _ (hg.trans u1.grow) hm
 have l5:=hi1.isLoc m1
 have hu1:Up H' H1:=ch1.up' u1 (fun i hi he=>by omega)
 unfold argB at k33 k34
 unfold argT at k34
 refine run_y (pr 11) P11 (by simp [p11]) rfl ?_
 simp (maxDischargeDepth:=8) only [↓SD,SU,SV,SW,simprocAttr,Int.cast_ofNat_Int,small,resV, B11,R11,N11,b11, l1,l2,l3,l4,l5,loc_mm,k31,k32,k33,k34,ia,e1,rD_hb,R11,N11]
 obtain ⟨b5,o5,x5,ha5,_,_⟩:=hi1.i1 (j:=0) (by omega)
 subst ha5
 rw [yes_some,gc_nf (by simp [flat])]
 have:=ch1.len
 rw [hlen] at hi1 ⊢
 refine ⟨_,m1,H1,_,rfl,hu1,?_,hi1⟩
 simp only [List.length_append,List.length_cons,List.length_nil] at this
 omega
theorem c12 {H:Heap}{oa ba ta ha:Option Addr}{ok bk tk hk:Nat}{xs:List Int}{t:Int×Int}(h:PrOk H oa ba ta xs t)(hh:Ints H ha xs.length (xs.map fun _=>0)) :
  ∀H',Grow H H'→Yes (R (.func 12) [.agg #[.slice oa 1 ok,.slice ba xs.length bk,.slice ta 1 tk],.int .i64 0,.slice ha xs.length hk] H')
   (·=⟨.ok (.tuple #[.int .i64 (sumI (pricesP t xs)),.int .i64 0]),H',H'.length⟩):=by
 intro H' hg
 have l1:=h.of.isLoc ok
 have l2:=h.bd.isLoc bk
 have l3:=h.tr.isLoc tk
 have l4:=hh.isLoc hk
 have n1:=h.n1
 have hlen:=pricesP_len t xs
 have k31:=c31 (ok:=ok) (bk:=bk) (tk:=tk) h H' hg
 have k32:=c32 (ok:=ok) (bk:=bk) (tk:=tk) (hk:=hk) h hh H' hg
 have k33:=c33 l1 l2 l3 l4 H'
 have u1:Up H' (H'++[({ obj:=.map pSh [] }:Blk)]):=(Up.refl H').app
 have hm:MpP t (H'++[({ obj:=.map pSh [] }:Blk)]) H'.length:=⟨[],by simp,fun e he=>by cases he⟩
 obtain ⟨b,o,x,hta,hx,e1⟩:=h.tr.t5 (j:=0) (by decide)
 have hxt:x=t:=by simpa using hx.symm
 subst hxt
 have e1:=e1 _ (hg.trans u1.grow)
 have ia:vv (.ia 5) [.slice ta 1 tk,.int .i64 0]=some (.pointer (some ⟨b,o,none⟩)):=by
  have:=ia_of (l:=1) (kk:=tk) (k:=5) hta (j:=0) (by decide)
  simpa using this
 simp only [Nat.zero_mul,Nat.add_zero] at e1
 obtain ⟨_,k35,H1,lo1,rfl,ch1,hm1,hl1⟩:=c35 (ok:=ok) (bk:=bk) (tk:=tk) (hk:=hk) h hh _ (hg.trans u1.grow) hm
 have hu1:Up H' H1:=ch1.up' u1 (fun i hi he=>by omega)
 have hul:=hu1.len
 unfold argB at k33 k35
 unfold argT at k35
 refine run_y (pr 12) P12 (by simp [p12]) rfl ?_
 simp (maxDischargeDepth:=8) only [↓SD,SU,SV,SW,simprocAttr,Int.cast_ofNat_Int,small,resV, B12,R12,N12,b12, l1,l2,l3,l4,loc_mm,k31,k32,k33,k35,ia,e1,rD_hb,R12,N12]
 rw [yes_some,gc_ite (by omega),if_pos (by rfl)]
end Go.Pi.L.Top
set_option maxRecDepth 100000
namespace Go.Pi.L.Top
open Go Go.Pi Go.Pi.L Go.Pi.Top LM

theorem c7 (H:Heap):R (.func 7) [] H=some ⟨.ok (.bool true),H,H.length⟩:=runL_prim (by unfold primsL; rw [if_pos rfl]) rfl
theorem yes_true (H:Heap):Yes (some (⟨.ok (.bool true),H,H.length⟩:Out)) (·=(⟨.ok (.bool true),H,H.length⟩:Out)):=by rw [yes_some]
theorem sl_blk {β:Type}{H:Heap}{k:Nat}{enc:β→List Value}(hk:∀x,(enc x).length=k){b:Nat}{xs:List β}(hc:hcells H b=some (cells enc xs)):Sl H k enc (some ⟨b,0,none⟩) xs.length xs :=
 ⟨rfl,.inr ⟨b,0,rfl⟩,fun j x hx=>⟨b,0,_,rfl,hc,by rw [Nat.zero_add]; exact cells_get hk hx⟩⟩
theorem hcb {H:Heap}{b:Blk}{c:List Value}(hb:b=⟨.cells c,true,true,some H.length⟩):hcells (H++[b]) H.length=some c:=by subst hb; exact hc_new _ _ _
theorem c3 {H:Heap}{r:LeR}{s:Sheet}(hr:LeOk H r s)(hws:∀x∈r.xs,x.sl < 9223372036854775808)(hwc:∀x∈r.xs,x.cl < 9223372036854775808)(coins rule:Int)(hF:Fam H) :
  Yes (R (.func 3) [.agg #[.slice r.wa r.wl r.wk,.slice r.pa r.pl r.pk,.int .i64 s.other.1,.int .i64 s.other.2,.int .i64 s.gap.1,.int .i64 s.gap.2,.int .i64 s.hyphen,.slice r.na r.nl r.nk,.int .i64 s.wide,.int .i64 s.rows],.int .i64 coins,.int .i64 rule] H) (·=⟨.ok (.bool true),H,H.length⟩):=by
 have k7:=c7 (H)
 have k6:=c6 (coins) 0 500 H
 have k6b:=c6 ((overP s:Nat):Int) 0 ((allN s:Nat):Int) H
 have L1:=hr.wd.isLoc r.wk
 have L2:=hr.pr.isLoc r.pk
 have L3:=hr.ws.isLoc r.nk
 by_cases a1:(8:Int) < (r.wl:Nat)
 ·refine run_y (pr 3) P3 (by simp [p3]) rfl ?_
  simp (maxDischargeDepth:=8) only [↓SD,SU,SV,SW,simprocAttr,Int.cast_ofNat_Int,small,resV, B3,R3,N3,b3, L1,L2,L3,a1,k7,R3,N3]
  exact yes_true H
 by_cases a2:(8:Int) < (r.pl:Nat)
 ·refine run_y (pr 3) P3 (by simp [p3]) rfl ?_
  simp (maxDischargeDepth:=8) only [↓SD,SU,SV,SW,simprocAttr,Int.cast_ofNat_Int,small,resV, B3,R3,N3,b3, L1,L2,L3,a1,a2,k7,R3,N3]
  exact yes_true H
 by_cases a3:(6:Int) < (r.nl:Nat)
 ·refine run_y (pr 3) P3 (by simp [p3]) rfl ?_
  simp (maxDischargeDepth:=8) only [↓SD,SU,SV,SW,simprocAttr,Int.cast_ofNat_Int,small,resV, B3,R3,N3,b3, L1,L2,L3,a1,a2,a3,k7,R3,N3]
  exact yes_true H
 have hd:Sm r:=⟨by omega,by omega,by omega,hws,hwc⟩
 obtain ⟨_,k5,b5,rfl,hfine⟩:=c5 hr hd H (Grow.refl _)
 cases b5 with
 | false =>
  refine run_y (pr 3) P3 (by simp [p3]) rfl ?_
  simp (maxDischargeDepth:=8) only [↓SD,SU,SV,SW,simprocAttr,Int.cast_ofNat_Int,small,resV, B3,R3,N3,b3, L1,L2,L3,a1,a2,a3,k5,k7,R3,N3]
  exact yes_true H
 | true =>
 have hf:=hfine rfl
 cases a4:inL coins 0 500 with
 | false =>
  refine run_y (pr 3) P3 (by simp [p3]) rfl ?_
  simp (maxDischargeDepth:=8) only [↓SD,SU,SV,SW,simprocAttr,Int.cast_ofNat_Int,small,resV, B3,R3,N3,b3, L1,L2,L3,a1,a2,a3,k5,k6,k6b,a4,k7,R3,N3]
  exact yes_true H
 | true =>
 by_cases a5:rule < 1
 ·refine run_y (pr 3) P3 (by simp [p3]) rfl ?_
  simp (maxDischargeDepth:=8) only [↓SD,SU,SV,SW,simprocAttr,Int.cast_ofNat_Int,small,resV, B3,R3,N3,b3, L1,L2,L3,a1,a2,a3,k5,k6,k6b,a4,a5,k7,R3,N3]
  exact yes_true H
 by_cases a6:4 < rule
 ·refine run_y (pr 3) P3 (by simp [p3]) rfl ?_
  simp (maxDischargeDepth:=8) only [↓SD,SU,SV,SW,simprocAttr,Int.cast_ofNat_Int,small,resV, B3,R3,N3,b3, L1,L2,L3,a1,a2,a3,k5,k6,k6b,a4,a5,a6,k7,R3,N3]
  exact yes_true H
 have k8:=c8 hr hf H (Grow.refl _)
 have k9:=c9 hr hf H (Grow.refl _) hF
 obtain ⟨_,k9,rfl⟩:=k9
 obtain ⟨_,k10,n10,rfl⟩:=c10 hr hf H (Grow.refl _) hF
 obtain ⟨ho1,ho2⟩:=over_zero hf
 have hall:=all_pos hf
 have q1:inL (overP s:Nat) 0 (allN s:Nat)=true:=inL_t (by omega) (by omega)
 have w1:IntKind.wrap .i64 (((allN s:Nat):Int) - (overP s:Nat))=((allN s - overP s:Nat):Int):=by rw [wrap_id _ (by omega) (by omega)]; omega
 have hcs:=inL_s a4
 obtain ⟨Ha,hHa⟩:∃Ha,H++[({ obj:=.cells [.int .i64 0],fam:=some H.length }:Blk)]=Ha:=⟨_,rfl⟩
 obtain ⟨Hb,hHb⟩:∃Hb,Ha++[({ obj:=.cells [.int .i64 (allN s:Nat),.int .i64 0,.int .i64 0,.int .i64 0,.int .i64 0,.int .i64 (allN s - overP s:Nat),.int .i64 0,.int .i64 0,.int .i64 0,.int .i64 0],fam:=some Ha.length }:Blk)]=Hb:=⟨_,rfl⟩
 obtain ⟨Hc,hHc⟩:∃Hc,Hb++[({ obj:=.cells [.int .i64 1,.int .i64 coins,.int .i64 1,.int .i64 rule,.bool true],fam:=some Hb.length }:Blk)]=Hc:=⟨_,rfl⟩
 obtain ⟨Hd,hHd⟩:∃Hd,Hc++[({ obj:=.cells [.int .i64 0,.int .i64 0],fam:=some Hc.length }:Blk)]=Hd:=⟨_,rfl⟩
 have ua:Up H Ha:=by rw [←hHa]; exact (Up.refl _).app
 have ub:Up Ha Hb:=by rw [←hHb]; exact (Up.refl _).app
 have uc:Up Hb Hc:=by rw [←hHc]; exact (Up.refl _).app
 have ud:Up Hc Hd:=by rw [←hHd]; exact (Up.refl _).app
 have ba:hcells Ha H.length=some (cells encI [0]):=by rw [←hHa]; exact hcb rfl
 have bb:hcells Hb Ha.length=some (cells eB [((allN s:Nat):Int),((allN s - overP s:Nat):Int)]):=by rw [←hHb]; exact hcb rfl
 have bc:hcells Hc Hb.length=some (cells eT [(coins,rule)]):=by rw [←hHc]; exact hcb rfl
 have bd:hcells Hd Hc.length=some (cells encI [0,0]):=by rw [←hHd]; exact hcb rfl
 have pk:PrOk Hc (some ⟨H.length,0,none⟩) (some ⟨Ha.length,0,none⟩) (some ⟨Hb.length,0,none⟩) [((allN s:Nat):Int),((allN s - overP s:Nat):Int)] (coins,rule) :=
  ⟨sl_blk encI_len ((ub.trans uc).grow.hc ba),sl_blk eB_len (uc.grow.hc bb),sl_blk eT_len bc,by
   intro x hx
   simp at hx
   rcases hx with rfl | rfl <;> omega,by simp,by simp,hcs,by simp only; omega⟩
 have hh:Ints Hd (some ⟨Hc.length,0,none⟩) 2 ([((allN s:Nat):Int),((allN s - overP s:Nat):Int)].map fun _=>0):=sl_blk encI_len bd
 obtain ⟨_,k11,a11,m11,H1,lo1,rfl,u1,hlo1,hi1⟩:=c11 (ok:=1) (bk:=5) (tk:=5) (hk:=1) (pk.grow ud.grow) hh Hd (Grow.refl _)
 obtain ⟨H2,hH2⟩:∃H2,H1++[({ obj:=.cells [.int .i64 0,.int .i64 0],fam:=some H1.length }:Blk)]=H2:=⟨_,rfl⟩
 have u2:Up H1 H2:=by rw [←hH2]; exact (Up.refl _).app
 have b2:hcells H2 H1.length=some (cells encI [0,0]):=by rw [←hH2]; exact hcb rfl
 have hh2:Ints H2 (some ⟨H1.length,0,none⟩) 2 ([((allN s:Nat):Int),((allN s - overP s:Nat):Int)].map fun _=>0):=sl_blk encI_len b2
 obtain ⟨_,k12,rfl⟩:=c12 (ok:=1) (bk:=5) (tk:=5) (hk:=1) (pk.grow (ud.trans (u1.trans u2)).grow) hh2 H2 (Grow.refl _)
 simp only [List.length_cons,List.length_nil,Nat.zero_add,Nat.reduceAdd] at k11 k12 hi1
 have l5:=hi1.isLoc m11
 obtain ⟨b1,o1,y0,hya,hy0,e0⟩:=hi1.i1 (j:=0) (by decide)
 obtain ⟨b1',o1',y1,hya',hy1,e1⟩:=hi1.i1 (j:=1) (by decide)
 rw [hya] at hya'
 cases hya'
 have ia0:vv (.ia 1) [.slice a11 2 m11,.int .i64 0]=some (.pointer (some ⟨b1,o1,none⟩)):=by
  have:=ia_of (l:=2) (kk:=m11) (k:=1) hya (j:=0) (by decide)
  simpa using this
 have ia1:vv (.ia 1) [.slice a11 2 m11,.int .i64 1]=some (.pointer (some ⟨b1,o1+1,none⟩)):=by
  have:=ia_of (l:=2) (kk:=m11) (k:=1) hya (j:=1) (by decide)
  simpa using this
 have e0:=e0 H2 u2.grow
 have e1:=e1 H2 u2.grow
 simp only [Nat.zero_mul,Nat.add_zero,Nat.one_mul] at e0 e1
 simp only [pricesP,List.map_cons,List.map_nil,List.getElem?_cons_zero,List.getElem?_cons_succ,Option.some.injEq] at hy0 hy1
 subst hy0
 subst hy1
 obtain ⟨v1,v2⟩:=mul_in (q:=((allN s:Nat):Int)) (by omega) (by omega) hcs.1 hcs.2
 obtain ⟨v3,v4⟩:=mul_in (q:=((allN s - overP s:Nat):Int)) (by omega) (by omega) hcs.1 hcs.2
 obtain ⟨v5,v6⟩:=mul_in (q:=((overP s:Nat):Int)) (by omega) (by omega) hcs.1 hcs.2
 have v7:((allN s:Nat):Int)*coins - ((allN s - overP s:Nat):Int)*coins=((overP s:Nat):Int)*coins:=by rw [←Int.sub_mul]; congr 1; omega
 have m1:IntKind.wrap .i64 (coins*((allN s:Nat):Int))=((allN s:Nat):Int)*coins:=by rw [Int.mul_comm]; exact wrap_id _ (by omega) (by omega)
 have m2:IntKind.wrap .i64 (((allN s:Nat):Int)*coins - ((allN s - overP s:Nat):Int)*coins)=((overP s:Nat):Int)*coins:=by rw [v7]; exact wrap_id _ (by omega) (by omega)
 have m3:IntKind.wrap .i64 (coins*((overP s:Nat):Int))=((overP s:Nat):Int)*coins:=by rw [Int.mul_comm]; exact wrap_id _ (by omega) (by omega)
 have m4:IntKind.wrap .i64 (((allN s:Nat):Int)*coins+((allN s - overP s:Nat):Int)*coins)=sumI (pricesP (coins,rule) [((allN s:Nat):Int),((allN s - overP s:Nat):Int)]):=by
  simp only [pricesP,List.map_cons,List.map_nil,sumI,Int.add_zero]
  exact wrap_id _ (by omega) (by omega)
 have k7':=c7 H2
 have hlH:H.length≤H2.length:=(ua.trans ub).trans ((uc.trans ud).trans (u1.trans u2)) |>.len
 have hl1:=((ua.trans ub).trans (uc.trans ud)).len
 refine run_y (pr 3) P3 (by simp [p3]) rfl ?_
 by_cases hfit:fitP s=[]
 ·rw [if_pos hfit] at k10
  have h0:¬overP s=0:=fun e=>(ho2.1 e) hfit
  have h0':((overP s:Nat):Int)=0↔False:=⟨fun e=>h0 (by omega),fun e=>e.elim⟩
  simp (maxDischargeDepth:=8) only [↓SD,SU,SV,SW,simprocAttr,Int.cast_ofNat_Int,small,resV, B3,R3,N3,b3, L1,L2,L3,a1,a2,a3,k5,k6,k6b,a4,a5,a6,k8,k9,k10,q1,h0',w1,hHa,hHb,hHc,hHd,k11,hH2,k12,l5,ia0,ia1,e0,e1,m1,m2,m3,m4,eq_self,k7',R3,N3]
  rw [yes_some,gc_ite (by omega),if_pos (by rfl)]
 ·rw [if_neg hfit] at k10
  have h0:overP s=0:=ho2.2 hfit
  have h0':((overP s:Nat):Int)=0↔True:=⟨fun _=>trivial,fun _=>by omega⟩
  simp (maxDischargeDepth:=8) only [↓SD,SU,SV,SW,simprocAttr,Int.cast_ofNat_Int,small,resV, B3,R3,N3,b3, L1,L2,L3,a1,a2,a3,k5,k6,k6b,a4,a5,a6,k8,k9,k10,q1,h0',w1,hHa,hHb,hHc,hHd,k11,hH2,k12,l5,ia0,ia1,e0,e1,m1,m2,m3,m4,eq_self,k7',R3,N3]
  rw [yes_some,gc_ite (by omega),if_pos (by rfl)]
end Go.Pi.L.Top
