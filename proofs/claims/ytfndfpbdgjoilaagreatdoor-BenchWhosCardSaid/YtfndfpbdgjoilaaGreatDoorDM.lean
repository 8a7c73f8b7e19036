/- Benches: a stroke is given to a hand. -/
import Derived.Test.YtfndfpbdgjoilaaGreatDoorDJ
import Derived.Test.YtfndfpbdgjoilaaGreatDoorDL
import Derived.Test.YtfndfpbdgjoilaaGreatDoorDE
set_option linter.all false
set_option maxRecDepth 100000
namespace Go.Pi.L.Ben
open Go Go.Pi Go.Pi.L Go.Pi.E Go.Pi.Ben BM

theorem c58 {H:Heap}{a:Option Addr}{l kk:Nat}{p:List Int}(hx:Ints H a l p){st:Nat}(hst:st < l)(hl:l < 1000)(h:Int) :
  ∀H',Grow H H'→Fam H'→R (.func 58) [.slice a l kk,.int .i64 (st:Nat),.int .i64 h] H'=some ⟨.ok (.slice (some ⟨H'.length,0,none⟩) l 1),H'++[⟨.cells (cells encI (p.set st h)),true,true,some H'.length⟩],H'.length⟩:=by
 intro H' hg hF
 have l1:=hx.isLoc kk
 have hpl:=hx.len
 have hcl:(cells encI p).length=l:=by rw [cells_len encI_len,hpl,Nat.mul_one]
 have qe:=fun T S D lo n rnd=>(hx.grow hg).elems encI_len (by decide) kk T S D lo n rnd
 obtain ⟨Ha,hHa⟩:∃Ha,H'++[(⟨.cells (cells encI p),true,true,some H'.length⟩:Blk)]=Ha:=⟨_,rfl⟩
 have qa:∀{α:Type} (call:CallT) (F:Ex→St→Option α) d kk T S D lo n rnd,ap1 call F (some (cells encI p)) (.slice none 0 0) 1 d kk ⟨T,S,D,H',lo,n,rnd⟩=nxt call F (some (.slice (some ⟨H'.length,0,none⟩) l 1)) d kk ⟨T,S,D,Ha,lo,n,rnd⟩:=fun call F d kk T S D lo n rnd=>by
  rw [apA_nil _ _ _ _ _ _ _ _ _ _ (Nat.mod_one _) (by omega) (by cases hxs:cells encI p with | nil=>rw [hxs] at hcl; simp at hcl; omega | cons=>rfl),hcl,Nat.div_one,hHa]
 have hsp:splice (cells encI p) (st*1) (Value.int .i64 h).cells.toList=cells encI (p.set st h):=splice_cells (enc:=encI) encI_len h (by omega)
 have qs:=fun (F:Ex→St→Option Out) d kk T S D lo n rnd=>st_new (call:=runL PP primsL) (F:=F) (k:=kk) (v:=.int .i64 h) (off:=st*1) (d:=d) (T:=T) (S:=S) (D:=D) (lo:=lo) (nn:=n) (rnd:=rnd) (n:=1) hF hHa rfl rfl rfl (by omega)
 rw [hsp] at qs
 have ian:vv (.ia 1) [.slice (some ⟨H'.length,0,none⟩) l 1,.int .i64 (st:Nat)]=some (.pointer (some ⟨H'.length,0+st*1,none⟩)):=vv_iaN 1 _ 0 st _ _ _ hst
 have hcl2:∀c:Blk,(H'++[c]).length=H'.length+1:=fun c=>by simp
 refine run_k (pr 58) P58 (by simp [p58]) rfl ?_
 simp (maxDischargeDepth:=8) only [↓SD,SU,SV,SW,simprocAttr,Int.cast_ofNat_Int,small,resV, B58,R58,N58,b58, l1,qe,qa,ian,qs,k_fixb,R58,N58]
 rw [gc_keep (by simp [flat])]
 first | done | (congr 2; omega)
theorem col_sl {n0:Nat}{A:Nat→Prop}{H:Heap}{a:Option Addr}{l m:Nat}{xs:List Tm}(h:Col n0 A H 2 a l m (cells eT xs)):Sl H 2 eT a l xs:=by
 have hl:=h.len
 rw [cells_len eT_len] at hl
 obtain rfl:l=xs.length:=by omega
 rcases h.ok with ⟨rfl,h0,_⟩ | ⟨b,f,rfl,_,_,_,_,h7⟩
 ·have:xs=[]:=List.eq_nil_of_length_eq_zero h0
  subst this; exact Sl.none
 ·exact of_cells0 eT_len (by simp [hcells,h7])
def candJ (b:Bench)(p:List Int)(st j:Nat):List (List Int):=((List.range j).map fun h:Nat=>p.set st (h:Int)).filter (isPlan b)
theorem candJ_succ (b:Bench)(p:List Int)(st j:Nat):candJ b p st (j+1)=candJ b p st j++(if isPlan b (p.set st (j:Int))=true then [p.set st (j:Int)] else []):=by
 unfold candJ
 rw [List.range_succ,List.map_append,List.filter_append]
 congr 1
 simp only [List.map_cons,List.map_nil,List.filter_cons,List.filter_nil]
structure GvAt (b:Bench)(H:Heap)(x:Tm):Prop where
 t:x.t=tk b x.p
 a:∃cb,x.a=some ⟨cb,0,none⟩
 s:Ints H x.a x.l x.p
theorem cand_ne {b:Bench}{p:List Int}{st:Nat}(hf:Fine b)(hP:isPlan b p=true)(hst:st < b.strokes.length):p∈candJ b p st (b.app.toNat+1):=by
 simp only [isPlan,Bool.and_eq_true,decide_eq_true_eq] at hP
 have hP':=hP.2
 rw [handsOk_iff hP.1] at hP'
 have h1:p[st]?=some p[st]:=List.getElem?_eq_getElem (by omega)
 have h2:b.strokes[st]?=some b.strokes[st]:=List.getElem?_eq_getElem hst
 obtain ⟨h3,h4,_⟩:=hP' st _ _ h1 h2
 refine List.mem_filter.2 ⟨List.mem_map.2 ⟨(p[st]).toNat,List.mem_range.2 (by omega),?_⟩,by simp only [isPlan,Bool.and_eq_true,decide_eq_true_eq]; exact hP⟩
 rw [Int.toNat_of_nonneg h3]
 exact List.set_getElem_self ..
set_option maxHeartbeats 2000000 in
theorem c55 {H:Heap}{r:BeR}{b:Bench}{a:Option Addr}{l kk:Nat}{p:List Int}(hb:BeOk H r b)(hd:SmB r)(hx:Ints H a l p)(hl:l < 1000)(hB:isBench b=true)(hP:isPlan b p=true){st:Nat}(hst:st < b.strokes.length) :
  ∀H',Grow H H'→Fam H'→∃q,(bestOf (tk b) (candJ b p st (b.app.toNat+1)))[0]?=some q∧R (.func 55) [.agg #[.int .i64 r.app,.slice r.ba r.bl r.bk,.slice r.sa r.sl r.sk],.slice a l kk,.int .i64 (st:Nat)] H'=some ⟨.ok (.tuple #[.int .i64 (q.getD st 0),.int .i64 (tk b q),.int .i64 0]),H',H'.length⟩:=by
 intro H' hg hF
 have hf:=fine_of hB
 have n6:=hf.n6
 have hlen:p.length=b.strokes.length:=by simp only [isPlan,Bool.and_eq_true,decide_eq_true_eq] at hP; exact hP.1
 have hlb:b.strokes.length=l:=by rw [←hlen]; exact hx.len
 have ha0:=hf.a0
 have ha3:=hf.a3
 have hne:bestOf (tk b) (candJ b p st (b.app.toNat+1))≠[]:=bestOf_ne _ (List.ne_nil_of_mem (cand_ne hf hP hst))
 obtain ⟨q,hq⟩:∃q,(bestOf (tk b) (candJ b p st (b.app.toNat+1)))[0]?=some q:=⟨_,List.getElem?_eq_getElem (by
  cases hh:bestOf (tk b) (candJ b p st (b.app.toNat+1)) with
  | nil=>exact absurd hh hne
  | cons=>simp)⟩
 refine ⟨q,hq,?_⟩
 have l1:=hb.br.isLoc r.bk
 have l2:=hb.st.isLoc r.sk
 have l3:=hx.isLoc kk
 have k74:=c74 hb hd H' hg
 have k75:=c75 (kk:=kk) hb hx (by omega) H' hg
 have k87:=c87 hb hd (st:Int) H' hg
 have hS:isStroke b ((st:Nat):Int)=true:=by unfold isStroke; rw [inL_iff]; omega
 rw [hB] at k74
 rw [hP] at k75
 rw [hS] at k87
 have happ:=hb.app
 obtain ⟨N,hN⟩:∃N,b.app.toNat+1=N:=⟨_,rfl⟩
 have hNa:r.app+1=((N:Nat):Int):=by omega
 have hwa:IntKind.wrap .i64 (r.app+1)=((N:Nat):Int):=by rw [wrap_id _ (by omega) (by omega),hNa]
 have ll:∀n,isLoc (.slice (some ⟨n,0,none⟩) l 1)=false:=fun n=>rfl
 rw [hN] at hq
 refine run_k (pr 55) P55 (by simp [p55]) rfl ?_
 simp (maxDischargeDepth:=8) only [↓SD,SU,SV,SW,simprocAttr,Int.cast_ofNat_Int,small,resV, B55,R55,N55,b55, l1,l2,l3,k74,k75,k87,hwa]
 refine loop_ind (G:=(·=_)) (fun j σ=>∃T S H3 al c m lim xs,σ=⟨T,S,[],H3,lim,64,false⟩∧get T 1=.slice a l kk∧get T 2=.int .i64 (st:Nat)∧get T 3=.pointer (some ⟨3,0,some 1⟩)∧get T 9=.slice al c m∧get T 30=.int .i64 (N:Nat)∧get T 31=.int .i64 (j:Nat)∧sget S 3=(1,.cells [.int .i64 r.app,.slice r.ba r.bl r.bk,.slice r.sa r.sl r.sk])∧(Col H'.length (fun _=>False) H3 2 al c m (cells eT xs)∧xs.map (·.p)=candJ b p st j∧(∀x∈xs,GvAt b H3 x)∧Up H' H3∧Fam H3∧H'.length≤lim∧c≤j)) (N) ?_ ?_ 0 _ (Nat.zero_le _) ⟨_,_,_,_,_,_,_,_,rfl,rfl,rfl,rfl,rfl,rfl,rfl,rfl,⟨Col.nil _ _ _ _,(rfl:List.map (·.p) ([]:List Tm)=_),fun x h=>(by cases h),Up.refl _,hF,by omega,Nat.le_refl _⟩⟩
 ·rintro c' j s hj ⟨T,S,H3,al,c,m,lim,xs,rfl,t1,t2,t3,t9,t30,t31,s0,hp⟩ ih
  obtain ⟨hcol,hxs,hgv,u3,hF3,hlim,hc⟩:=hp
  have hg3:=hg.trans u3.grow
  obtain ⟨cb,H4,lo4,k98,u4,hlo4,bd4,hF4⟩:=c98 (k:=kk) hx (by omega) hl H3 hg3 hF3
  obtain ⟨H5,f,f1,f2,qs,bd5,hF5,up5,len5,_⟩:=bd4.put hF4 (i:=st) (by omega) (v:=.int .i64 (j:Nat)) rfl rfl rfl
  have hsp:splice (cells encI p) (st*1) (Value.int .i64 (j:Nat)).cells.toList=cells encI (p.set st (j:Int)):=splice_cells (enc:=encI) encI_len (j:Int) (by omega)
  rw [hsp] at bd5
  have u5:Up H3 H5:=up5 H3 u4 (Nat.le_refl _)
  have s5:Ints H5 (some ⟨cb,0,none⟩) l (p.set st (j:Int)):=bd5.sl encI_len (by decide)
  have hg5:=hg3.trans u5.grow
  have k75j:=c75 (kk:=1) (hb.grow hg5) s5 (by omega) H5 (Grow.refl _)
  have ian:vv (.ia 1) [.slice (some ⟨cb,0,none⟩) l 1,.int .i64 (st:Nat)]=some (.pointer (some ⟨cb,0+st*1,none⟩)):=vv_iaN 1 _ 0 st _ _ _ (by omega)
  have hw:=wrap_succ j (by omega)
  have l4:=hcol.isLoc c m
  have h34:=u4.len
  have h35:=u5.len
  have h03:=u3.len
  have hcs:=candJ_succ b p st j
  cases hPj:isPlan b (p.set st (j:Int)) with
  | false =>
   rw [hPj] at k75j hcs
   rw [if_neg (by decide),List.append_nil] at hcs
   simp (maxDischargeDepth:=8) only [↓SD,SU,SV,SW,simprocAttr,Int.cast_ofNat_Int,small,resV, q55x0,t1,t2,t3,t9,t30,t31,s0, s0,lt_nat,hj,l1,l2,l3,l4,ll,k98,ian,qs,k75j,k_fixb,hw]
   exact ih _ ⟨_,_,(H5),(al),(c),(m),(_),(xs),rfl,(by simp [get_set,t1] <;> omega),(by simp [get_set,t2] <;> omega),(by simp [get_set,t3] <;> omega),(by simp [get_set,t9] <;> omega),(by simp [get_set,t30] <;> omega),(by simp [get_set,t31] <;> omega),by simp [sget_sset,s0],⟨hcol.same fun i b f hi _=>by rw [u5.old i (lt_of_get hi)]; exact hi,by rw [hcs]; exact hxs,fun x h=>⟨(hgv x h).t,(hgv x h).a,(hgv x h).s.grow u5.grow⟩,u3.trans u5,hF5,by omega,by omega⟩⟩
  | true =>
   rw [hPj] at k75j hcs
   rw [if_pos rfl] at hcs
   have hbe5:=hb.grow hg5
   have k76:=c76 (kk:=1) hbe5 s5 H5 (Grow.refl _)
   obtain ⟨H6,hH6⟩:∃H6,H5++[({ obj:=.map mSh [] }:Blk)]=H6:=⟨_,rfl⟩
   have u6:Up H5 H6:=by rw [←hH6]; exact (Up.refl _).app
   have len6:H6.length=H5.length+1:=by rw [←hH6]; simp
   have hwk:WkOk H6 (⟨r,some ⟨cb,0,none⟩,l,1,H5.length,-1,0⟩:WkR) b (p.set st (j:Int)):=⟨hbe5.grow u6.grow,s5.grow u6.grow,hf,by simp [hlen],by simp,by simp⟩
   have hm6:Mp (vE b (p.set st (j:Int)) (-1) 0) H6 H5.length:=by rw [←hH6]; exact mp_new _ _
   obtain ⟨o,ho,H7,lo7,rfl,ch7,hm7,hlo7⟩:=c88 hwk H6 (Grow.refl _) hm6
   have hlo7:H5.length≤lo7:=hlo7
   have hkp:=kept_of ch7 hm6 hm7
   rw [tk_eq] at ho
   rw [hH6] at k76
   have hF6:Fam H6:=by rw [←hH6]; exact hF5.append (fun f h=>by cases h)
   have hF7:Fam H7:=famR ho hF6
   have u7:Up H5 H7:=⟨by have:=ch7.len; omega,fun i hi=>by rw [ch7.old i (by omega) (fun e=>by have:i=H5.length:=e; omega),u6.old i hi]⟩
   have h57:=u7.len
   have col7:=hcol.same (H':=H7) fun i b f hi _=>by rw [(u5.trans u7).old i (lt_of_get hi)]; exact hi
   obtain ⟨H8,q1,c8',g8,len8,a8,o8,f8,hF8⟩:=col7.app (fun i h=>h.elim) hF7 (by omega) (by decide) (by decide) (by omega) [.slice (some ⟨cb,0,none⟩) l 1,.int .i64 (tk b (p.set st (j:Int)))] rfl
   have g38:=(u5.grow.trans u7.grow).trans g8
   have u8:Up H' H8:=⟨by omega,fun i hi=>by rw [o8 i hi,(u3.trans (u5.trans u7)).old i hi]⟩
   have lm:isLoc (.map (some H5.length))=false:=rfl
   have hgv8:∀x∈xs++[⟨p.set st (j:Int),some ⟨cb,0,none⟩,l,1,tk b (p.set st (j:Int))⟩],GvAt b H8 x:=fun x h=>by
    rcases List.mem_append.1 h with h | h
    ·exact ⟨(hgv x h).t,(hgv x h).a,(hgv x h).s.grow g38⟩
    ·obtain rfl:=List.mem_singleton.1 h
     exact ⟨rfl,⟨cb,rfl⟩,s5.grow (u7.grow.trans g8)⟩
   simp (maxDischargeDepth:=8) only [↓SD,SU,SV,SW,simprocAttr,Int.cast_ofNat_Int,small,resV, q55x0,t1,t2,t3,t9,t30,t31,s0, s0,lt_nat,hj,l1,l2,l3,l4,ll,lm,k98,ian,qs,k75j,k76,ho,rD_kept,hkp,q1,k_fixb,hw]
   exact ih _ ⟨_,_,(H8),(some ⟨H7.length,0,none⟩),(c+1),(2),(_),(xs++[⟨p.set st (j:Int),some ⟨cb,0,none⟩,l,1,tk b (p.set st (j:Int))⟩]),rfl,(by simp [get_set,t1] <;> omega),(by simp [get_set,t2] <;> omega),(by simp [get_set,t3] <;> omega),(by simp [get_set,t9] <;> omega),(by simp [get_set,t30] <;> omega),(by simp [get_set,t31] <;> omega),by simp [sget_sset,s0],⟨by rw [cells_app]; exact c8',by rw [List.map_append,hxs,hcs]; rfl,hgv8,u8,hF8,by omega,by omega⟩⟩
 ·rintro c' s ⟨T,S,H3,al,c,m,lim,xs,rfl,t1,t2,t3,t9,t30,t31,s0,hp⟩
  obtain ⟨hcol,hxs,hgv,u3,hF3,hlim,hc⟩:=hp
  have sl:=col_sl hcol
  obtain ⟨o,ho,a9,m9,H9,lo9,rfl,u9,hlo9,s9⟩:=c99 (kk:=m) sl (by omega) (fun x hx=>by obtain ⟨cb,e⟩:=(hgv x hx).a; rw [e]; rfl) H3 (Grow.refl _)
  have hspc:=bestP_spec (T:=tk b) xs (fun x hx=>(hgv x hx).t)
  rw [hxs] at hspc
  rw [←hspc,List.getElem?_map,Option.map_eq_some_iff] at hq
  obtain ⟨x0,hx0,rfl⟩:=hq
  have hl0:=(List.getElem?_eq_some_iff.1 hx0).1
  have hm0:x0∈xs:=(bestP_sub xs [] x0 (List.mem_of_getElem? hx0)).resolve_left (fun h=>by cases h)
  obtain ⟨gt,⟨cb,ga⟩,gs⟩:=hgv x0 hm0
  have hmc:x0.p∈candJ b p st N:=by rw [←hxs]; exact List.mem_map.2 ⟨x0,hm0,rfl⟩
  have hpc:=(List.mem_filter.1 hmc).2
  have hlc:x0.p.length=b.strokes.length:=by simp only [isPlan,Bool.and_eq_true,decide_eq_true_eq] at hpc; exact hpc.1
  have hlx:=gs.len
  obtain ⟨bb,oo,x',e1,hx',hat⟩:=s9.at eT_len (by decide) hl0
  obtain rfl:x'=x0:=by rw [hx0] at hx'; cases hx'; rfl
  have f0:rdO (hcells H9 bb) (oo+0*2) (some 2)=some (.agg #[.slice x'.a x'.l x'.m,.int .i64 x'.t]):=hat.all H9 (Grow.refl _)
  have ia0:vv (.ia 2) [.slice a9 (bestP xs).length m9,.int .i64 0]=some (.pointer (some ⟨bb,oo+0*2,none⟩)):=by rw [e1]; exact vv_iaN 2 bb oo 0 _ _ _ hl0
  rw [Nat.zero_mul,Nat.add_zero] at f0 ia0
  obtain ⟨pb,po,v,hpa,hpv,fv⟩:=gs.i1 (j:=st) (by omega)
  have fv1:=fv H9 u9.grow
  have iap:vv (.ia 1) [.slice x'.a x'.l x'.m,.int .i64 (st:Nat)]=some (.pointer (some ⟨pb,po+st*1,none⟩)):=by rw [hpa]; exact vv_iaN 1 pb po st _ _ _ (by omega)
  have lx:isLoc (.slice x'.a x'.l x'.m)=false:=by rw [ga]; rfl
  have l4:=hcol.isLoc c m
  have l9:=s9.isLoc m9
  have h39:=u9.len
  have h03:=u3.len
  have hlo9':H3.length≤lo9:=hlo9
  rw [getD_of hpv,←gt]
  simp (maxDischargeDepth:=8) only [↓SD,SU,SV,SW,simprocAttr,Int.cast_ofNat_Int,small,resV, q55x0,t1,t2,t3,t9,t30,t31,s0, s0,lt_nat,Nat.lt_irrefl,l1,l2,l3,l4,l9,lx,loc_func,ho,ia0,f0,iap,fv1,k_fixb,R55,N55]
  rw [gc_ite (by omega)]; simp [flat]
end Go.Pi.L.Ben
set_option maxRecDepth 100000
namespace Go.Pi.L.Ben
open Go Go.Pi Go.Pi.L Go.Pi.E Go.Pi.Ben BM

theorem set_getD {p:List Int}{st:Nat}(h:st < p.length)(x:Int):(p.set st x).getD st 0=x:=getD_of (List.getElem?_set_self h)
theorem gv58 {H:Heap}{a:Option Addr}{l kk:Nat}{p:List Int}(hx:Ints H a l p){st:Nat}(hst:st < l)(hl:l < 1000)(h:Int){H':Heap}(hg:Grow H H')(hF:Fam H') :
  ∃H1,R (.func 58) [.slice a l kk,.int .i64 (st:Nat),.int .i64 h] H'=some ⟨.ok (.slice (some ⟨H'.length,0,none⟩) l 1),H1,H'.length⟩∧Up H' H1∧Fam H1∧Ints H1 (some ⟨H'.length,0,none⟩) l (p.set st h):=by
 have k:=c58 (kk:=kk) hx hst hl h H' hg hF
 refine ⟨_,k,(Up.refl _).app,famR k hF,?_⟩
 have:l=(p.set st h).length:=by rw [List.length_set]; exact hx.len.symm
 rw [this]
 exact of_cells0 encI_len (by simp [hcells])
end Go.Pi.L.Ben
