/- The theorem of chains. -/
import Derived.Test.YtjgmlngcknehhaaGreatVJ
set_option linter.all false
set_option maxRecDepth 100000
namespace Go.Pi.L.Ch
open Go Go.Pi Go.Pi.L Go.Pi.E Go.Pi.Top BM UP

structure Pre (j:Nat)(xs:List Int)(k:Nat)(ns:List Nat):Prop where
 len:ns.length=k
 eq:xs.take k=ns.map fun a:Nat=>(a:Int)
 pw:ns.Pairwise (· < ·)
 lt:∀x∈ns,x < j
 le:∀y∈ns,∀z,xs[k - 1]?=some z→(y:Int)≤z
theorem Pre.nil (j:Nat)(xs:List Int):Pre j xs 0 []:=⟨rfl,rfl,.nil,fun _ h=>(by cases h),fun _ h=>(by cases h)⟩
theorem Pre.snoc {j:Nat}{xs:List Int}{k:Nat}{ns:List Nat}(h:Pre j xs k ns){x:Nat}(hx:xs[k]?=some (x:Int))(hj:x < j)(hk:0 < k→∃z,xs[k - 1]?=some z∧z < (x:Int)):Pre j xs (k+1) (ns++[x]):=by
 have hlt:∀y∈ns,y < x:=fun y hy=>by
  have h0:0 < k:=by rw [←h.len]; exact List.length_pos_of_mem hy
  obtain ⟨z,h1,h2⟩:=hk h0
  have:=h.le y hy z h1
  omega
 refine ⟨by simp [h.len],?_,List.pairwise_append.2 ⟨h.pw,List.pairwise_singleton _ _,fun y hy z hz=>by rw [List.mem_singleton.1 hz]; exact hlt y hy⟩,fun y hy=>?_,fun y hy z hz=>?_⟩
 ·obtain ⟨hk',e⟩:=List.getElem?_eq_some_iff.1 hx
  rw [List.take_succ_eq_append_getElem hk',h.eq,e]; simp
 ·rcases List.mem_append.1 hy with hy | hy
  ·exact h.lt y hy
  ·rw [List.mem_singleton.1 hy]; exact hj
 ·rw [Nat.add_sub_cancel,hx] at hz
  cases hz
  rcases List.mem_append.1 hy with hy | hy
  ·have:=hlt y hy; omega
  ·rw [List.mem_singleton.1 hy]; exact Int.le_refl _
theorem copyI {H:Heap}{a:Option Addr}{l:Nat}{xs:List Int}(h:Ints H a l xs)(hl:l < 1000)(hF:Fam H) :
  ∃H2 a2 m2,(∀{α:Type} (call:CallT) (F:Ex→St→Option α) d kk T S D lo n rnd,ap1 call F (some (cells encI xs)) (.slice none 0 0) 1 d kk ⟨T,S,D,H,lo,n,rnd⟩=nxt call F (some (.slice a2 l m2)) d kk ⟨T,S,D,H2,lo,n,rnd⟩)∧Ints H2 a2 l xs∧Up H H2∧Fam H2:=by
 have hlen:=h.len
 by_cases h0:l=0
 ·subst h0
  have hx:xs=[]:=List.eq_nil_of_length_eq_zero hlen
  subst hx
  refine ⟨H,none,0,fun call F d kk T S D lo n rnd=>?_,⟨rfl,.inl rfl,fun j x hx=>by simp at hx⟩,Up.refl _,hF⟩
  exact apA_nn 1 d T S D H lo n rnd
 ·obtain ⟨H2,q1,q2,q3,q4⟩:=(Bld.nil H.length H 1).apps hF (by decide) (by decide) (Nat.le_refl _) (cells encI xs) (i:=l) (by omega) (by rw [cells_len encI_len,hlen]) (by omega)
  rw [Nat.zero_add] at q1 q2
  rw [List.nil_append] at q2
  exact ⟨H2,_,_,q1,q2.sl encI_len (by decide),q3.up (Bld.nil H.length H 1) (Up.refl _) (Nat.le_refl _),q4⟩
theorem needs_len:∀{n:Nat} {c:List (List Nat)},c∈needs n→c.length=n
 | 0,c,h=>by rw [needs,List.mem_singleton] at h; rw [h]; rfl
 | n+1,c,h=>by
  rw [needs,List.mem_flatMap] at h
  obtain ⟨d,hd,h⟩:=h
  obtain ⟨l,_,rfl⟩:=List.mem_map.1 h
  simp [needs_len hd]
theorem cells_ints:∀xs:List Int,cells encI xs=xs.map fun x=>.int .i64 x
 | []=>rfl
 | x :: xs=>by
  have h:=cells_ints xs
  simp only [cells,List.map_cons,List.flatten_cons] at h ⊢
  rw [h]; rfl
theorem ordB_eq (l:Nat):ordB l=⟨.cells (cells encI (idP l)),true,false,none⟩:=by rw [cells_ints]; unfold ordB idP; rw [List.map_map]; rfl
theorem idP_succ (i:Nat):idP (i+1)=idP i++[(i:Int)]:=by simp [idP,List.range_succ]
structure OI (H0 H1:Heap)(j:Nat)(H3:Heap)(lim:Nat)(c:List (List Nat))(spa:Option Addr)(spl spm:Nat)(sta:Option Addr)(stm:Nat)(oda:Option Addr)(odm:Nat)(qs:List SpR)(ks:List Sk):Prop where
 ls:LS H1 H3 spa spl spm sta j stm oda j odm qs ks (idP j)
 mem:c∈needs j
 qe:(qs.map fun q=>(q.x,q.y))=edges c
 ke:(ks.map fun k=>k.s)=c.map strC
 sl:spl≤10*j
 lim:H0.length≤lim
structure JI (H0 H1:Heap)(i:Nat)(xs:List Int)(k:Nat)(H3:Heap)(lim:Nat)(c:List (List Nat))(spa:Option Addr)(spl spm:Nat)(sta:Option Addr)(stm:Nat)(oda:Option Addr)(odm:Nat)(qs:List SpR)(ks:List Sk)(ns:List Nat):Prop where
 ls:LS H1 H3 spa spl spm sta i stm oda i odm qs ks (idP i)
 mem:c∈needs i
 qe:(qs.map fun q=>(q.x,q.y))=edges c++ns.map fun a=>(a,i)
 ke:(ks.map fun k=>k.s)=c.map strC
 pre:Pre i xs k ns
 sl:spl≤10*i+k
 lim:H0.length≤lim
set_option maxHeartbeats 4000000 in
theorem c4 {H:Heap}{a:Option Addr}{l:Nat}(m:Nat){rs:List NdR}(hs:Sl H 1 eNd a l rs)(hi:∀r∈rs,Ints H r.a r.l r.xs)(hF:Fam H) :
  R (.func 4) [.slice a l m] H=some ⟨.ok (.bool true),H,H.length⟩:=by
 refine run_k (pr 4) P4 (by simp [p4]) rfl ?_
 have l1:=hs.isLoc m
 cases q0:inL (l:Int) 1 4 with
 | false =>
  simp (maxDischargeDepth:=8) only [↓SD,SU,SV,SW,simprocAttr,Int.cast_ofNat_Int,small,resV, B4,R4,N4,b4, l1,c6,q0,c7,R4,N4]
 | true =>
  have hl4:1≤l∧l≤4:=by simp only [inL,Bool.and_eq_true,decide_eq_true_eq] at q0; omega
  obtain ⟨h1,h4⟩:=hl4
  obtain ⟨H1,hH1⟩:∃H1,H++[(⟨.cells [.int .i64 60],true,true,some H.length⟩:Blk)]=H1:=⟨_,rfl⟩
  have u1:Up H H1:=by rw [←hH1]; exact (Up.refl _).app
  have f1:Fam H1:=by rw [←hH1]; exact Fam.app1 hF (Nat.le_refl _)
  have n1:H1.length=H.length+1:=by rw [←hH1]; simp
  have w0:LS H1 H1 none 0 0 none 0 0 none 0 0 [] [] []:=⟨Up.refl _,f1,Bld.nil _ _ _,Bld.nil _ _ _,Bld.nil _ _ _,fun _=>rfl,fun _=>rfl,fun _=>rfl,fun _=>⟨rfl,rfl⟩,fun _ h=>(by cases h),fun _ h=>(by cases h)⟩
  simp (maxDischargeDepth:=8) only [↓SD,SU,SV,SW,simprocAttr,Int.cast_ofNat_Int,small,resV, B4,R4,N4,b4, l1,c6,q0,hH1]
  refine loop_ind (G:=(·=_)) (fun j σ=>∃T S H3 lim c spa spl spm sta stm oda odm qs ks,σ=⟨T,S,[],H3,lim,174,false⟩∧get T 0=.slice a l m∧get T 3=.int .i64 (l:Nat)∧get T 4=.pointer (some ⟨4,0,some 1⟩)∧get T 5=.pointer (some ⟨5,0,some 1⟩)∧get T 6=.slice oda j odm∧get T 7=.int .i64 (j:Nat)∧sget S 4=(1,.cells [.int .i64 3,.slice (some ⟨H.length,0,none⟩) 1 1,.slice sta j stm])∧sget S 5=(1,.cells [.int .i64 (l:Nat),.slice spa spl spm])∧(OI H H1 j H3 lim c spa spl spm sta stm oda odm qs ks)) (l) ?_ ?_ 0 _ (Nat.zero_le _) ⟨_,_,_,_,_,_,_,_,_,_,_,_,_,_,rfl,rfl,rfl,rfl,rfl,rfl,rfl,rfl,rfl,⟨w0,List.mem_singleton.2 rfl,rfl,rfl,Nat.le_refl _,Nat.le_refl _⟩⟩
  ·rintro c' j s hj ⟨T,S,H3,lim,c,spa,spl,spm,sta,stm,oda,odm,qs,ks,rfl,t0,t3,t4,t5,t6,t7,s0,s1,hp⟩ ih
   obtain ⟨i,hij⟩:∃i,i=j:=⟨_,rfl⟩
   subst hij
   have ihO:=ih
   have hil:=hj
   have gg:=u1.grow.trans hp.ls.up.grow
   obtain ⟨b1,o1,r,hra,hrx,e1⟩:=hs.at eNd_len (by decide) hj
   have e1:=At.v0 e1 H3 gg
   have ia:vv (.ia 1) [.slice a l m,.int .i64 (i:Nat)]=some (.pointer (some ⟨b1,o1+i*1,none⟩)):=by rw [hra]; exact vv_iaN 1 b1 o1 i _ _ _ hj
   have hmem:=List.mem_of_getElem? hrx
   have hI:=hi r hmem
   have l2:=hI.isLoc r.m
   have lH3:H.length≤H3.length:=gg.len
   have hlim:=hp.lim
   by_cases hri:i < r.l
   ·simp (maxDischargeDepth:=8) only [↓SD,SU,SV,SW,simprocAttr,Int.cast_ofNat_Int,small,resV, q4x1,t0,t3,t4,t5,t6,t7,s0,s1, lt_nat,hj,l1,l2,ia,e1,hri,c7,hlim,lH3,R4,N4]
   ·have hri':r.l≤i:=by omega
    simp (maxDischargeDepth:=8) only [↓SD,SU,SV,SW,simprocAttr,Int.cast_ofNat_Int,small,resV, q4x1,t0,t3,t4,t5,t6,t7,s0,s1, lt_nat,hj,l1,l2,ia,e1,hri]
    refine loop_ind (G:=(·=_)) (fun j σ=>∃T S H4 lim spa spl spm sta stm oda odm qs ks ns,σ=⟨T,S,[],H4,lim,174,false⟩∧get T 0=.slice a l m∧get T 3=.int .i64 (l:Nat)∧get T 4=.pointer (some ⟨4,0,some 1⟩)∧get T 5=.pointer (some ⟨5,0,some 1⟩)∧get T 6=.slice oda i odm∧get T 7=.int .i64 (i:Nat)∧get T 8=.int .i64 (j:Nat)∧sget S 4=(1,.cells [.int .i64 3,.slice (some ⟨H.length,0,none⟩) 1 1,.slice sta i stm])∧sget S 5=(1,.cells [.int .i64 (l:Nat),.slice spa spl spm])∧(JI H H1 i r.xs j H4 lim c spa spl spm sta stm oda odm qs ks ns)) (r.l) ?_ ?_ 0 _ (Nat.zero_le _) ⟨_,_,_,_,_,_,_,_,_,_,_,_,_,_,rfl,(by first | rfl | simp [get_set,t0,t3,t4,t5,t6,t7]),(by first | rfl | simp [get_set,t0,t3,t4,t5,t6,t7]),(by first | rfl | simp [get_set,t0,t3,t4,t5,t6,t7]),(by first | rfl | simp [get_set,t0,t3,t4,t5,t6,t7]),(by first | rfl | simp [get_set,t0,t3,t4,t5,t6,t7]),(by first | rfl | simp [get_set,t0,t3,t4,t5,t6,t7]),(by first | rfl | simp [get_set,t0,t3,t4,t5,t6,t7]),(by first | rfl | exact s0),(by first | rfl | exact s1),⟨hp.ls,hp.mem,by rw [hp.qe]; simp,hp.ke,Pre.nil _ _,hp.sl,hp.lim⟩⟩
    ·rintro c' j s hj ⟨T,S,H4,lim,spa,spl,spm,sta,stm,oda,odm,qs,ks,ns,rfl,t0,t3,t4,t5,t6,t7,t8,s0,s1,hp⟩ ih
     have gg4:=u1.grow.trans hp.ls.up.grow
     have lH4:H.length≤H4.length:=gg4.len
     have hlim:=hp.lim
     obtain ⟨b1,o1,r',hra,hrx',e1⟩:=hs.at eNd_len (by decide) hil
     rw [hrx] at hrx'
     cases hrx'
     have e1:=At.v0 e1 H4 gg4
     have ia:vv (.ia 1) [.slice a l m,.int .i64 (i:Nat)]=some (.pointer (some ⟨b1,o1+i*1,none⟩)):=by rw [hra]; exact vv_iaN 1 b1 o1 i _ _ _ hil
     obtain ⟨b2,o2,x,hxa,hx,e2⟩:=hI.i1 hj
     have e2:=e2 H4 gg4
     have ib:vv (.ia 1) [.slice r.a r.l r.m,.int .i64 (j:Nat)]=some (.pointer (some ⟨b2,o2+j*1,none⟩)):=by rw [hxa]; exact vv_iaN 1 b2 o2 j _ _ _ hj
     have w1:IntKind.wrap .i64 ((i:Int) - 1)=(i:Int) - 1:=wrap_id _ (by omega) (by omega)
     have hw:=wrap_succ j (by omega)
     have lsp:=hp.ls.sp.isLoc spl spm
     have hsl:=hp.sl
     cases qa:inL x 0 ((i:Int) - 1) with
     | false =>
      simp (maxDischargeDepth:=8) only [↓SD,SU,SV,SW,simprocAttr,Int.cast_ofNat_Int,small,resV, q4x0,t0,t3,t4,t5,t6,t7,t8,s0,s1, lt_nat,hj,l1,l2,ia,ib,e1,e2,w1,c6,qa,c7,hlim,lH4,R4,N4]
     | true =>
      have hx0:0≤x∧x≤(i:Int) - 1:=by simpa only [inL,Bool.and_eq_true,decide_eq_true_eq] using qa
      obtain ⟨xn,rfl⟩:∃xn:Nat,x=(xn:Int):=⟨x.toNat,by omega⟩
      obtain ⟨H5,q1,ls5,len5⟩:=hp.ls.spot (by omega) xn i
      by_cases hj0:j=0
      ·have e4:¬(0:Int) < (j:Int):=by omega
       have hpre:=hp.pre.snoc hx (by omega) (fun h=>absurd hj0 (by omega))
       simp (maxDischargeDepth:=8) only [↓SD,SU,SV,SW,simprocAttr,Int.cast_ofNat_Int,small,resV, q4x0,t0,t3,t4,t5,t6,t7,t8,s0,s1, lt_nat,hj,l1,l2,lsp,ia,ib,e1,e2,w1,c6,qa,e4,q1,hw]
       exact ih _ ⟨_,_,(H5),(_),(some ⟨H4.length+1,0,none⟩),(spl+1),(1),(sta),(stm),(oda),(odm),(qs++[⟨some ⟨H4.length,0,none⟩,1,xn,i⟩]),(ks),(ns++[xn]),rfl,(by simp [get_set,t0] <;> omega),(by simp [get_set,t3] <;> omega),(by simp [get_set,t4] <;> omega),(by simp [get_set,t5] <;> omega),(by simp [get_set,t6] <;> omega),(by simp [get_set,t7] <;> omega),(by simp [get_set,t8] <;> omega),by simp [sget_sset,s0],by simp [sget_sset,s1],⟨ls5,hp.mem,by rw [List.map_append,hp.qe,List.map_append,List.append_assoc]; rfl,hp.ke,hpre,by omega,by omega⟩⟩
      ·have e4:(0:Int) < (j:Int):=by omega
       have wp:IntKind.wrap .i64 ((j:Int) - 1)=((j - 1:Nat):Int):=by rw [wrap_id _ (by omega) (by omega)]; omega
       obtain ⟨b3,o3,z,hxa3,hz,e3⟩:=hI.i1 (show j - 1 < r.l by omega)
       have e3:=e3 H4 gg4
       have ic:vv (.ia 1) [.slice r.a r.l r.m,.int .i64 ((j - 1:Nat):Int)]=some (.pointer (some ⟨b3,o3+(j - 1)*1,none⟩)):=by rw [hxa3]; exact vv_iaN 1 b3 o3 (j - 1) _ _ _ (by omega)
       by_cases hz0:(xn:Int)≤z
       ·simp (maxDischargeDepth:=8) only [↓SD,SU,SV,SW,simprocAttr,Int.cast_ofNat_Int,small,resV, q4x0,t0,t3,t4,t5,t6,t7,t8,s0,s1, lt_nat,hj,l1,l2,ia,ib,e1,e2,w1,c6,qa,e4,wp,ic,e3,hz0,c7,hlim,lH4,R4,N4]
       ·have hpre:=hp.pre.snoc hx (by omega) (fun h=>⟨z,hz,by omega⟩)
        simp (maxDischargeDepth:=8) only [↓SD,SU,SV,SW,simprocAttr,Int.cast_ofNat_Int,small,resV, q4x0,t0,t3,t4,t5,t6,t7,t8,s0,s1, lt_nat,hj,l1,l2,lsp,ia,ib,e1,e2,w1,c6,qa,e4,wp,ic,e3,hz0,q1,hw]
        exact ih _ ⟨_,_,(H5),(_),(some ⟨H4.length+1,0,none⟩),(spl+1),(1),(sta),(stm),(oda),(odm),(qs++[⟨some ⟨H4.length,0,none⟩,1,xn,i⟩]),(ks),(ns++[xn]),rfl,(by simp [get_set,t0] <;> omega),(by simp [get_set,t3] <;> omega),(by simp [get_set,t4] <;> omega),(by simp [get_set,t5] <;> omega),(by simp [get_set,t6] <;> omega),(by simp [get_set,t7] <;> omega),(by simp [get_set,t8] <;> omega),by simp [sget_sset,s0],by simp [sget_sset,s1],⟨ls5,hp.mem,by rw [List.map_append,hp.qe,List.map_append,List.append_assoc]; rfl,hp.ke,hpre,by omega,by omega⟩⟩
    ·rintro c' s ⟨T,S,H4,lim,spa,spl,spm,sta,stm,oda,odm,qs,ks,ns,rfl,t0,t3,t4,t5,t6,t7,t8,s0,s1,hp⟩
     have gg4:=u1.grow.trans hp.ls.up.grow
     have lH4:H.length≤H4.length:=gg4.len
     have hlim:=hp.lim
     obtain ⟨b1,o1,r',hra,hrx',e1⟩:=hs.at eNd_len (by decide) hil
     rw [hrx] at hrx'
     cases hrx'
     have e1:=At.v0 e1 H4 gg4
     have ia:vv (.ia 1) [.slice a l m,.int .i64 (i:Nat)]=some (.pointer (some ⟨b1,o1+i*1,none⟩)):=by rw [hra]; exact vv_iaN 1 b1 o1 i _ _ _ hil
     have hw:=wrap_succ i (by omega)
     have hI4:=hI.grow gg4
     have hel:=fun T S D lo n rnd=>hI4.elems encI_len (by decide) r.m T S D lo n rnd
     obtain ⟨H5,a5,m5,q5,s5,u5,f5⟩:=copyI hI4 (by omega) hp.ls.fam
     have l5:=s5.isLoc m5
     have ls5:=hp.ls.more u5 f5
     have len5:=u5.len
     have hns:=hp.pre.eq
     rw [←hI.len,List.take_length] at hns
     obtain ⟨H6,q6,ls6,len6⟩:=ls5.stroke (by omega) ⟨strC ns,a5,r.l,m5⟩ (by show Ints H5 a5 r.l (strC ns).needs; have:(strC ns).needs=r.xs:=hns.symm; rw [this]; exact s5) (by show r.l < 1000; omega)
     have hek:eK ⟨strC ns,a5,r.l,m5⟩=[.int .i64 0,.bool false,.int .i64 1,.int .i64 1,.slice a5 r.l m5]:=rfl
     rw [hek] at q6
     obtain ⟨H7,q7,ls7,len7⟩:=ls6.order (by omega) (i:Int)
     have lst:=hp.ls.st.isLoc i stm
     have lod:=hp.ls.od.isLoc i odm
     simp (maxDischargeDepth:=8) only [↓SD,SU,SV,SW,simprocAttr,Int.cast_ofNat_Int,small,resV, q4x0,t0,t3,t4,t5,t6,t7,t8,s0,s1, lt_nat,Nat.lt_irrefl,l1,l2,l5,lst,lod,slot_nl,ia,e1,hel,q5,q6,q7,hw]
     exact ihO _ ⟨_,_,H7,_,c++[ns],spa,spl,spm,some ⟨H5.length,0,none⟩,5,some ⟨H6.length,0,none⟩,1,qs,ks++[⟨strC ns,a5,r.l,m5⟩],rfl,(by simp [get_set,t0] <;> omega),(by simp [get_set,t3] <;> omega),(by simp [get_set,t4] <;> omega),(by simp [get_set,t5] <;> omega),(by simp [get_set,t6] <;> omega),(by simp [get_set,t7] <;> omega),by simp [sget_sset,s0],by simp [sget_sset,s1],⟨by rw [idP_succ]; exact ls7,needs_mem hp.mem (subs_mem i ns hp.pre.pw hp.pre.lt),by rw [hp.qe]; unfold edges; rw [edgesF_snoc,needs_len hp.mem,Nat.zero_add],by rw [List.map_append,hp.ke,List.map_append]; rfl,by have:=hp.sl; omega,by omega⟩⟩
  ·rintro c' s ⟨T,S,H3,lim,c,spa,spl,spm,sta,stm,oda,odm,qs,ks,rfl,t0,t3,t4,t5,t6,t7,s0,s1,hp⟩
   have cl:=needs_len hp.mem
   have ha:=all_mem hp.mem h1 h4
   have g:=good_of ha
   have gg:=u1.grow.trans hp.ls.up.grow
   have lH3:H.length≤H3.length:=gg.len
   have hlim:=hp.lim
   have lsp:=hp.ls.sp.isLoc spl spm
   have lst:=hp.ls.st.isLoc l stm
   have lod:=hp.ls.od.isLoc l odm
   have hbd:Ints H1 (some ⟨H.length,0,none⟩) 1 [60]:=⟨rfl,.inr ⟨_,0,rfl⟩,fun j v hv=>⟨H.length,0,cells encI [60],rfl,by rw [←hH1]; simp [hcells,cells,encI],by rw [Nat.zero_add]; exact cells_get encI_len hv⟩⟩
   have hbe:BeOk H3 ⟨3,some ⟨H.length,0,none⟩,1,1,sta,l,stm,ks⟩ (bC 3 c):=⟨rfl,hbd.grow hp.ls.up.grow,hp.ls.st.sl eK_len (by decide),fun k hk=>(hp.ls.kb k hk).1,hp.ke.symm⟩
   have hsm:SmB ⟨3,some ⟨H.length,0,none⟩,1,1,sta,l,stm,ks⟩:=⟨(by decide:1 < 1000000),(by omega:l < 1000000),fun k hk=>by have:=(hp.ls.kb k hk).2; omega⟩
   obtain ⟨o,ho,bb,mm,H4,lo4,q,rfl,u4,hlo4,s4,hq⟩:=c13 hbe hsm g.bench H3 (Grow.refl _) hp.ls.fam
   rw [best_c g (by omega) hq] at ho
   simp only at ho
   have f4:Fam H4:=famR ho hp.ls.fam
   have ls4:=hp.ls.more u4 f4
   have lH4:=u4.len
   have hql:qs.length=spl:=by have:=ls4.sp.len; rw [cells_len eQ_len] at this; omega
   have hbo:Board H4 (.agg #[.int .i64 (l:Nat),.slice spa spl spm]) c:=⟨spa,spm,qs,by rw [cl,hql],ls4.nn,by rw [hql]; exact ls4.sp.sl eQ_len (by decide),ls4.qb,hp.qe.symm⟩
   have k14:=c14 ha hbo
   have k15:=c15 ha hbo
   rw [cl] at k15
   obtain ⟨H5,hH5⟩:∃H5,H4++[ordB l]=H5:=⟨_,rfl⟩
   rw [hH5] at k15
   have f5:Fam H5:=famR k15 f4
   have u5:Up H4 H5:=by rw [←hH5]; exact (Up.refl _).app
   have lH5:=u5.len
   have si:Ints H5 (some ⟨H4.length,0,none⟩) l (idP l):=⟨by simp [idP],.inr ⟨_,0,rfl⟩,fun j v hv=>⟨H4.length,0,cells encI (idP l),rfl,by rw [←hH5,ordB_eq]; simp [hcells],by rw [Nat.zero_add]; exact cells_get encI_len hv⟩⟩
   have so:Ints H5 oda l (idP l):=(ls4.od.up u5).sl encI_len (by decide)
   have k16:=c16 (k:=0) (m:=odm) si so (by omega) H5 (Grow.refl _)
   obtain ⟨k,hk,hlk⟩:=least_c g (by omega) (by omega)
   have k17:=c17 hbe hsm (owners c:Int) H5 (u4.grow.trans u5.grow) f5
   rw [lst_c g (by omega) hlk] at k17
   simp only at k17
   have o1:=g.o1
   have on:=g.on
   have i1:inL (owners c:Int) 1 (l:Int)=true:=by simp only [inL,Bool.and_eq_true,decide_eq_true_eq]; omega
   have i2:inL (k:Int) 0 ((l:Int) - 1)=true:=by simp only [inL,Bool.and_eq_true,decide_eq_true_eq]; omega
   have w1:IntKind.wrap .i64 ((l:Int) - 1)=(l:Int) - 1:=wrap_id _ (by omega) (by omega)
   simp (maxDischargeDepth:=8) only [↓SD,SU,SV,SW,simprocAttr,Int.cast_ofNat_Int,small,resV, q4x1,t0,t3,t4,t5,t6,t7,s0,s1,lt_nat,Nat.lt_irrefl,l1,lsp,lst,lod,ho,k14,k15,k16,k17,c6,i1,i2,w1,c7,hlim,lH3,hlo4,lH4,lH5,R4,N4]
   rw [gc_ite (by omega),if_pos (by simp [flat])]
end Go.Pi.L.Ch
