/- Benches: a text is read by the program. -/
import Derived.Test.YtfndfpbdgjoilaaGreatDoorDL
import Derived.Test.YtfndfpbdgjoilaaGreatDoorDF
set_option linter.all false
set_option maxRecDepth 100000
namespace Go.Pi.L.Ben
open Go Go.Pi Go.Pi.L Go.Pi.E Go.Pi.Ben BM Go.Pi.Q

structure PB (n0:Nat)(H:Heap)(ba:Option Addr)(bl bm:Nat)(sa:Option Addr)(sl sm:Nat)(b:Bench)(xs:List Sk):Prop where
 bo:Bld n0 H 1 ba bl bm (cells encI b.boards)
 st:Bld n0 H 5 sa sl sm (cells eK xs)
 eq:b.strokes=xs.map (·.s)
 nd:∀k∈xs,Ints H k.a k.l k.s.needs∧Nw n0 k.a
 ne:ba=sa→ba=none
theorem PB.up {n0:Nat}{H H1:Heap}{ba:Option Addr}{bl bm:Nat}{sa:Option Addr}{sl sm:Nat}{b:Bench}{xs:List Sk}(h:PB n0 H ba bl bm sa sl sm b xs)(u:Up H H1):PB n0 H1 ba bl bm sa sl sm b xs :=
 ⟨h.bo.up u,h.st.up u,h.eq,fun k hk=>⟨(h.nd k hk).1.grow u.grow,(h.nd k hk).2⟩,h.ne⟩
def QPa (H:Heap)(t:List UInt8)(o:Out):Prop :=
 match parseP t with
 | none=>∃w,o=⟨.panic (.iface 142 (.agg #[.string w])),H,H.length⟩
 | some b=>∃(r:BeR) (H1:Heap) (lo:Nat),o=⟨.ok (.agg #[.int .i64 r.app,.slice r.ba r.bl r.bk,.slice r.sa r.sl r.sk]),H1,lo⟩∧Up H H1∧H.length≤lo∧BeOk H1 r b∧NuB b∧Nw H.length r.ba∧Nw H.length r.sa∧∀k∈r.xs,Nw H.length k.a
theorem spl_len1 (c:UInt8)(l:List UInt8):1≤(spl c l).length:=by rw [spl_len]; omega
theorem s_at {H:Heap}{a:Option Addr}{l m:Nat}{xs:List (List UInt8)}(hs:Sl H 1 encS a l xs){i:Nat}(hi:i < l):∃b off,vv (.ia 1) [.slice a l m,.int .i64 ((i:Nat):Int)]=some (.pointer (some ⟨b,off,none⟩))∧∀H',Grow H H'→rdO (hcells H' b) off none=some (.string ⟨(xs.getD i []).toArray⟩):=by
 obtain ⟨b,o,w,hwa,hw1,hat⟩:=hs.at encS_len (by decide) hi
 refine ⟨b,o+i*1,by rw [hwa]; exact vv_iaN 1 b o i _ _ _ hi,fun H' g=>?_⟩
 have e:xs.getD i []=w:=by rw [List.getD_eq_getElem?_getD,hw1]; rfl
 rw [e]
 exact At.v0 hat H' g
theorem n_at {H:Heap}{a:Option Addr}{l m:Nat}{xs:List Int}(hs:Ints H a l xs){i:Nat}(hi:i < l):∃b off,vv (.ia 1) [.slice a l m,.int .i64 ((i:Nat):Int)]=some (.pointer (some ⟨b,off,none⟩))∧∀H',Grow H H'→rdO (hcells H' b) off none=some (.int .i64 (xs.getD i 0)):=by
 obtain ⟨b,o,w,hwa,hw1,hat⟩:=hs.i1 hi
 refine ⟨b,o+i*1,by rw [hwa]; exact vv_iaN 1 b o i _ _ _ hi,fun H' g=>?_⟩
 have e:xs.getD i 0=w:=by rw [List.getD_eq_getElem?_getD,hw1]; rfl
 rw [e]
 exact hat H' g
set_option maxHeartbeats 2000000 in
theorem c105 (t:List UInt8)(ht:t.length≤290)(hsome:parseP t≠none)(H':Heap)(hF:Fam H'):Yes (R (.func 105) [.string ⟨t.toArray⟩] H') (QPa H' t):=by
 have fin:parseP t=none→∀w H5 lo,H'.length≤lo→Yes (some (gcR H' (.panic (.iface 142 (.agg #[.string w]))) H5 lo)) (QPa H' t):=fun e w H5 lo h=>by
  rw [yes_some]
  unfold QPa
  rw [e]
  exact ⟨w,by simp [gcR,flat]; omega⟩
 refine run_y (pr 105) P105 (by simp [p105]) rfl ?_
 obtain ⟨o,ho1,a1,m1,H1,lo1,rfl,u1,hlo1,s1⟩:=c128 t 10 (by omega) H' hF
 have hF1:Fam H1:=famR ho1 hF
 have la1:=s1.isLoc m1
 have hn1:=spl_len1 10 t
 have hnl:(spl 10 t).length≤291:=by rw [spl_len]; have:=List.count_le_length (a:=10) (l:=t); omega
 have hpl:=(spl_parts (c:=10) t).2
 have h1:=u1.len
 obtain ⟨n,hn⟩:∃n,(spl 10 t).length=n:=⟨_,rfl⟩
 rw [hn] at ho1 s1 la1 hn1 hnl
 by_cases h3:3≤n
 case neg =>
  have z1:((3:Int)≤((n:Nat):Int))=False:=eq_false (by omega)
  have z1':(((n:Nat):Int)≥3)=False:=z1
  have k129:=c129f ⟨t.toArray⟩ H1
  simp (maxDischargeDepth:=8) only [↓SD,SU,SV,SW,simprocAttr,Int.cast_ofNat_Int,small,resV, B105,R105,N105,b105, ho1,la1,z1,z1',k129]
  exact fin (by unfold parseP; rw [hn,if_neg h3]) _ _ _ (by omega)
 have z1:((3:Int)≤((n:Nat):Int))=True:=eq_true (by omega)
 have z1':(((n:Nat):Int)≥3)=True:=z1
 have k129:=c129t ⟨t.toArray⟩ H1
 obtain ⟨b0,off0,ia0,f0⟩:=s_at (m:=m1) s1 (i:=0) (by omega)
 have f0:=f0 H1 (Grow.refl _)
 replace ia0:vv (.ia 1) [.slice a1 n m1,.int .i64 0]=some (.pointer (some ⟨b0,off0,none⟩)):=ia0
 obtain ⟨r0,hr0⟩:∃r0,(spl 10 t).getD 0 []=r0:=⟨_,rfl⟩
 rw [hr0] at f0
 have hr0l:r0.length≤290:=by
  rw [←hr0,List.getD_eq_getElem?_getD]
  cases e:(spl 10 t)[0]? with
  | none=>simp
  | some p=>have:=hpl p (List.mem_of_getElem? e); simp; omega
 obtain ⟨o,ho2,a2,m2,H2,lo2,rfl,u2,hlo2,s2⟩:=c128 r0 32 (by omega) H1 hF1
 have hF2:Fam H2:=famR ho2 hF1
 have la2:=s2.isLoc m2
 have h2:=u2.len
 have hw1:=spl_len1 32 r0
 have hwl:(spl 32 r0).length≤291:=by rw [spl_len]; have:=List.count_le_length (a:=32) (l:=r0); omega
 obtain ⟨w0,hw0⟩:∃w0,(spl 32 r0).length=w0:=⟨_,rfl⟩
 rw [hw0] at ho2 s2 la2 hw1 hwl
 obtain ⟨a3,m3,c3,s3⟩:=s2.cut m2 1 w0 hw1 (Nat.le_refl _)
 have hdt:((spl 32 r0).drop 1).take (w0 - 1)=(spl 32 r0).drop 1:=List.take_of_length_le (by rw [List.length_drop]; omega)
 rw [hdt] at s3
 have c3':VOp.ev.slc 1 a2 w0 m2 1 ((w0:Nat):Int)=some (.slice a3 (w0 - 1) m3):=c3
 have la3:=s3.isLoc m3
 obtain ⟨o,ho4,q4⟩:=c130 (kk:=m3) s3 (by omega) H2 (Grow.refl _)
 have hpar:parseP t=parseQ (numsW ((spl 32 r0).drop 1)) (rowsP t) t:=by
  unfold parseP; rw [hn,if_pos h3,hr0]
 unfold QN at q4
 cases hns:numsW ((spl 32 r0).drop 1) with
 | none =>
  rw [hns] at q4 hpar
  obtain ⟨w,rfl⟩:=q4
  simp (maxDischargeDepth:=8) only [↓SD,SU,SV,SW,simprocAttr,Int.cast_ofNat_Int,small,resV, B105,R105,N105,b105, ho1,la1,z1,z1',k129,ia0,f0,ho2,la2,vv_sll',c3',la3,ho4]
  exact fin hpar _ _ _ (by omega)
 | some ns =>
 rw [hns] at q4 hpar
 obtain ⟨a4,m4,H4,lo4,rfl,u4,hlo4,s4,_⟩:=q4
 have hF4:Fam H4:=famR ho4 hF2
 have la4:=s4.isLoc m4
 have h4:=u4.len
 by_cases hn1':ns.length=1
 case neg =>
  have z2:(((ns.length:Nat):Int)=1)=False:=eq_false (by omega)
  have k129':=c129f ⟨t.toArray⟩ H4
  simp (maxDischargeDepth:=8) only [↓SD,SU,SV,SW,simprocAttr,Int.cast_ofNat_Int,small,resV, B105,R105,N105,b105, ho1,la1,z1,z1',k129,ia0,f0,ho2,la2,vv_sll',c3',la3,ho4,la4,z2,k129']
  have hq:parseQ (some ns) (rowsP t) t=none:=by
   match ns,hn1' with
   | [],_=>rfl
   | [x],h=>exact (h rfl).elim
   | _ :: _ :: _,_=>rfl
  exact fin (hpar.trans hq) _ _ _ (by omega)
 obtain ⟨A,rfl⟩:∃A,ns=[A]:=by
  match ns,hn1' with
  | [x],_=>exact ⟨x,rfl⟩
 rw [List.length_singleton] at ho4 s4 la4
 have z2:(((1:Nat):Int)=1)=True:=eq_true rfl
 have k129':=c129t ⟨t.toArray⟩ H4
 obtain ⟨bA,offA,iaA,fA⟩:=n_at (m:=m4) s4 (i:=0) (by decide)
 replace iaA:vv (.ia 1) [.slice a4 1 m4,.int .i64 0]=some (.pointer (some ⟨bA,offA,none⟩)):=iaA
 have fA:rdO (hcells H4 bA) offA none=some (.int .i64 A):=fA H4 (Grow.refl _)
 have hA:=(numsW_b hns).2 A (List.mem_singleton.2 rfl)
 obtain ⟨a5,m5,c5,s5⟩:=s1.cut m1 1 (n - 2) (by omega) (by omega)
 have hR:((spl 10 t).drop 1).take (n - 2 - 1)=rowsP t:=by unfold rowsP; rw [hn]; rfl
 rw [hR] at s5
 obtain ⟨N,hN⟩:∃N,n - 2 - 1=N:=⟨_,rfl⟩
 rw [hN] at c5 s5
 have c5':VOp.ev.slc 1 a1 n m1 1 ((n - 2:Nat):Int)=some (.slice a5 N m5):=c5
 have la5:=s5.isLoc m5
 have hwn:IntKind.wrap .i64 (((n:Nat):Int) - 2)=((n - 2:Nat):Int):=by rw [wrap_id _ (by omega) (by omega)]; omega
 have bldA:vv (.bld [.int .i64 0,.slice none 0 0,.slice none 0 0] [(0,1)]) [.int .i64 A]=some (.agg #[.int .i64 A,.slice none 0 0,.slice none 0 0]):=by rw [vv_of (by rfl)]; rfl
 simp (maxDischargeDepth:=8) only [↓SD,SU,SV,SW,simprocAttr,Int.cast_ofNat_Int,small,resV, B105,R105,N105,b105, ho1,la1,z1,z1',k129,ia0,f0,ho2,la2,vv_sll',c3',la3,ho4,la4,z2,k129',iaA,fA,bldA,hwn,vv_slc,c5',la5]
 obtain ⟨K,hK,hpre,hend⟩:=fold_cut ⟨A,[],[]⟩ (rowsP t)
 have hRN:(rowsP t).length=N:=by rw [←hN]; exact s5.len.trans hN.symm
 have hRl:∀r∈rowsP t,r.length≤290:=fun r hr=>by
  unfold rowsP at hr
  have:=hpl r (List.mem_of_mem_drop (List.mem_of_mem_take hr)); omega
 have g4:Grow H1 H4:=u2.grow.trans u4.grow
 have pb0:PB H4.length H4 none 0 0 none 0 0 ⟨A,[],[]⟩ []:=⟨Bld.nil _ _ _,Bld.nil _ _ _,rfl,fun k hk=>(by cases hk),fun _=>rfl⟩
 have np0:NuP ⟨A,[],[]⟩ 0:=⟨hA.1,hA.2,fun z hz=>(by cases hz),fun s hs=>(by cases hs),rfl⟩
 refine loop_ind (G:=(Yes · (QPa H' t))) (fun j σ=>∃T S H5 ba bl bm sa sl sm lim,σ=⟨T,S,[],H5,lim,112,false⟩∧get T 0=.string ⟨t.toArray⟩∧get T 2=.pointer (some ⟨2,0,some 1⟩)∧get T 5=.pointer (some ⟨5,0,some 1⟩)∧get T 37=.slice a5 N m5∧get T 38=.int .i64 N∧get T 39=.int .i64 (j:Nat)∧sget S 2=(1,.cells [.int .i64 0,.slice none 0 0,.slice none 0 0])∧sget S 5=(1,.cells [.int .i64 A,.slice ba bl bm,.slice sa sl sm])∧((∃b xs,foldP ⟨A,[],[]⟩ ((rowsP t).take j)=some b∧PB H4.length H5 ba bl bm sa sl sm b xs∧NuP b j∧b.app=A)∧Up H4 H5∧Fam H5∧H'.length≤lim)) (K) ?_ ?_ 0 _ (Nat.zero_le _) ⟨_,_,_,_,_,_,_,_,_,_,rfl,rfl,rfl,rfl,rfl,rfl,rfl,rfl,rfl,⟨⟨_,[],rfl,pb0,np0,rfl⟩,Up.refl _,hF4,by omega⟩⟩
 ·rintro c' j s hj ⟨T,S,H5,ba,bl,bm,sa,sl,sm,lim,rfl,t0,t2,t5,t37,t38,t39,s0,s1,hp⟩ ih
  obtain ⟨⟨b,xs,hfo,hpb,hnp,hbA⟩,hu,hF5,hlim⟩:=hp
  have hw:=wrap_succ j (by omega)
  have hjN:j < N:=by omega
  have hul:=hu.len
  obtain ⟨r,hr⟩:∃r,(rowsP t)[j]?=some r:=⟨_,List.getElem?_eq_getElem (by omega)⟩
  have hrl:=hRl r (List.mem_of_getElem? hr)
  obtain ⟨b',hb'⟩:=hpre (j+1) (by omega)
  rw [take_get hr,foldP_snoc,hfo] at hb'
  have hrow:rowP b r=some b':=hb'
  have hfo':foldP ⟨A,[],[]⟩ ((rowsP t).take (j+1))=some b':=by rw [take_get hr,foldP_snoc,hfo]; exact hrow
  have hnp':=rowP_nu hnp hrl hrow
  obtain ⟨br,offr,iar,fr⟩:=s_at (m:=m5) s5 (i:=j) hjN
  have fr:=fr H5 (g4.trans hu.grow)
  have er:(rowsP t).getD j []=r:=by rw [List.getD_eq_getElem?_getD,hr]; rfl
  rw [er] at fr
  obtain ⟨o,ho6,a6,m6,H6,lo6,rfl,u6,hlo6,s6⟩:=c128 r 32 (by omega) H5 hF5
  have hF6:Fam H6:=famR ho6 hF5
  have la6:=s6.isLoc m6
  have h6:=u6.len
  obtain ⟨W,hW⟩:∃W,spl 32 r=W:=⟨_,rfl⟩
  have hWne:=spl_len1 32 r
  have hWl:W.length≤291:=by rw [←hW,spl_len]; have:=List.count_le_length (a:=32) (l:=r); omega
  rw [hW] at ho6 s6 la6 hWne
  unfold rowP at hrow
  rw [hW] at hrow
  obtain ⟨nW,hnW⟩:∃nW,W.length=nW:=⟨_,rfl⟩
  rw [hnW] at ho6 s6 la6 hWne hWl
  obtain ⟨bw,offw,iaw,fw⟩:=s_at (m:=m6) s6 (i:=0) (by omega)
  replace iaw:vv (.ia 1) [.slice a6 nW m6,.int .i64 0]=some (.pointer (some ⟨bw,offw,none⟩)):=iaw
  have fw:=fw H6 (Grow.refl _)
  have k131:=c131 H6
  have seq1:=vv_seq' (W.getD 0 []) [98,111,97,114,100]
  have lba:∀x y,isLoc (.slice ba x y)=false:=hpb.bo.isLoc
  have lsa:∀x y,isLoc (.slice sa x y)=false:=hpb.st.isLoc
  by_cases hbd:W.getD 0 []=wBoard
  ·rw [if_pos hbd] at hrow
   rw [decide_eq_true (show W.getD 0 []=[98,111,97,114,100] from hbd)] at seq1
   split at hrow
   ·rename_i hl2
    have hnWtwo:nW=2:=by omega
    subst hnWtwo
    rw [Option.map_eq_some_iff] at hrow
    obtain ⟨ns,hns2,rfl⟩:=hrow
    obtain ⟨hnl1,_⟩:=numsW_b hns2
    rw [List.length_drop,hl2] at hnl1
    obtain ⟨z,rfl⟩:∃z,ns=[z]:=by
     match ns,hnl1 with
     | [x],_=>exact ⟨x,rfl⟩
    have z3:(((2:Nat):Int)=2)=True:=eq_true rfl
    have k129b:=c129t ⟨r.toArray⟩ H6
    obtain ⟨a7,m7,c7,s7⟩:=s6.cut m6 1 2 (by omega) (Nat.le_refl _)
    have hd7:(W.drop 1).take (2 - 1)=W.drop 1:=List.take_of_length_le (by rw [List.length_drop]; omega)
    rw [hd7] at s7
    have c7':VOp.ev.slc 1 a6 2 m6 1 2=some (.slice a7 1 m7):=c7
    have la7:isLoc (.slice a7 1 m7)=false:=s7.isLoc m7
    obtain ⟨o,ho8,q8⟩:=c130 (kk:=m7) s7 (by omega) H6 (Grow.refl _)
    unfold QN at q8
    rw [hns2] at q8
    obtain ⟨a8,m8,H8,lo8,rfl,u8,hlo8,s8,_⟩:=q8
    have hF8:Fam H8:=famR ho8 hF6
    have la8:isLoc (.slice a8 1 m8)=false:=s8.isLoc m8
    have h8:=u8.len
    have ho8':R (.func 130) [.slice a7 1 m7] H6=some ⟨.ok (.slice a8 1 m8),H8,lo8⟩:=ho8
    have qe:=fun T S D lo n rnd=>s8.elems encI_len (by decide) m8 T S D lo n rnd
    have u58:=u6.trans u8
    have hpb8:=hpb.up u58
    have hbl:bl=b.boards.length:=(hpb.bo.sl encI_len (by decide)).len.symm
    have hln:=hnp.ln
    obtain ⟨H9,p1,p2,p3,p4⟩:=hpb8.bo.appF hF8 (by decide) (by decide) (by omega) (by omega) [.int .i64 z] rfl
    have u9:Up H4 H9:=p3.up hpb8.bo (hu.trans u58) (Nat.le_refl _)
    have h9:=u9.len
    have hpb9:PB H4.length H9 (some ⟨H8.length,0,none⟩) (bl+1) 1 sa sl sm ⟨b.app,b.boards++[z],b.strokes⟩ xs:=by
     refine ⟨by rw [cells_app]; exact p2,hpb8.st.grown' p3 (fun e=>by
      have:=hpb.ne e.symm; rw [e]; exact this),hpb.eq,fun k hk=>⟨(hpb8.nd k hk).1.grow p3.grow,(hpb8.nd k hk).2⟩,fun e=>?_⟩
     rcases hpb8.st.ok with ⟨h,_⟩ | ⟨b2,f2,h,_,_,_,h5⟩
     ·rw [h] at e; cases e
     ·rw [h] at e; cases e
      have:=(List.getElem?_eq_some_iff.1 h5).1; omega
    have so8:slotOk (.tmp 60) (.slice a8 1 m8)=true:=by rcases s8.loc with h | ⟨b,o,h⟩ <;> rw [h] <;> rfl
    have ce:cells encI [z]=[.int .i64 z]:=rfl
    simp only [ce,List.length_singleton] at qe
    simp (maxDischargeDepth:=8) only [↓SD,SU,SV,SW,simprocAttr,Int.cast_ofNat_Int,small,resV, q105x0,t0,t2,t5,t37,t38,t39,s0,s1, lt_nat,hjN,la5,iar,fr,ho6,la6,hlo6,iaw,fw,k131,vv_ixa1,seq1,z3,k129b,vv_sll',c7',la7,ho8',la8,hlo8,so8,qe,p1,lba,lsa,hw,k_fixb,sget_sset]
    exact ih _ ⟨_,_,(H9),(some ⟨H8.length,0,none⟩),(bl+1),(1),(sa),(sl),(sm),(_),rfl,(by simp [get_set,t0] <;> omega),(by simp [get_set,t2] <;> omega),(by simp [get_set,t5] <;> omega),(by simp [get_set,t37] <;> omega),(by simp [get_set,t38] <;> omega),(by simp [get_set,t39] <;> omega),by simp [sget_sset,s0],by simp [sget_sset,s1],⟨⟨_,xs,hfo',hpb9,hnp',hbA⟩,u9,p4,by omega⟩⟩
   ·cases hrow
  ·rw [if_neg hbd] at hrow
   rw [decide_eq_false (show ¬W.getD 0 []=[98,111,97,114,100] from hbd)] at seq1
   split at hrow
   ·rename_i hl5
    have hnWfive:nW=5:=by omega
    subst hnWfive
    split at hrow
    ·rename_i l3 nd hl3 hnd
     cases hrow
     obtain ⟨hl3l,_⟩:=numsW_b hl3
     have hl33:l3.length=3:=by rw [hl3l,List.length_take,List.length_drop]; omega
     have z3:(((5:Nat):Int)=5)=True:=eq_true rfl
     have k129b:=c129t ⟨r.toArray⟩ H6
     obtain ⟨a7,m7,c7,s7⟩:=s6.cut m6 1 4 (by omega) (by omega)
     have c7':VOp.ev.slc 1 a6 5 m6 1 4=some (.slice a7 3 m7):=c7
     have la7:isLoc (.slice a7 3 m7)=false:=s7.isLoc m7
     obtain ⟨o,ho8,q8⟩:=c130 (kk:=m7) s7 (by omega) H6 (Grow.refl _)
     unfold QN at q8
     rw [hl3] at q8
     obtain ⟨a8,m8,H8,lo8,rfl,u8,hlo8,s8,_⟩:=q8
     have hF8:Fam H8:=famR ho8 hF6
     rw [hl33] at ho8 s8
     have ho8':R (.func 130) [.slice a7 3 m7] H6=some ⟨.ok (.slice a8 3 m8),H8,lo8⟩:=ho8
     have la8:=s8.isLoc m8
     have h8:=u8.len
     have u58:=u6.trans u8
     obtain ⟨e0b,e0o,ie0,fe0⟩:=n_at (m:=m8) s8 (i:=0) (by decide)
     replace ie0:vv (.ia 1) [.slice a8 3 m8,.int .i64 0]=some (.pointer (some ⟨e0b,e0o,none⟩)):=ie0
     have fe0:=fe0 H8 (Grow.refl _)
     obtain ⟨e1b,e1o,ie1,fe1⟩:=n_at (m:=m8) s8 (i:=1) (by decide)
     replace ie1:vv (.ia 1) [.slice a8 3 m8,.int .i64 1]=some (.pointer (some ⟨e1b,e1o,none⟩)):=ie1
     have fe1:=fe1 H8 (Grow.refl _)
     obtain ⟨e2b,e2o,ie2,fe2⟩:=n_at (m:=m8) s8 (i:=2) (by decide)
     replace ie2:vv (.ia 1) [.slice a8 3 m8,.int .i64 2]=some (.pointer (some ⟨e2b,e2o,none⟩)):=ie2
     have fe2:=fe2 H8 (Grow.refl _)
     obtain ⟨wb,wo,iwf,fwf⟩:=s_at (m:=m6) s6 (i:=0) (by omega)
     have fw8:rdO (hcells H8 bw) offw none=some (.string ⟨(W.getD 0 []).toArray⟩):=by
      obtain ⟨b',o',i',f'⟩:=s_at (m:=m6) s6 (i:=0) (by omega)
      have i'':vv (.ia 1) [.slice a6 5 m6,.int .i64 0]=some (.pointer (some ⟨b',o',none⟩)):=i'
      rw [iaw] at i''
      cases i''
      exact f' H8 u8.grow
     obtain ⟨n4b,n4o,in4,fn4⟩:=s_at (m:=m6) s6 (i:=4) (by omega)
     replace in4:vv (.ia 1) [.slice a6 5 m6,.int .i64 4]=some (.pointer (some ⟨n4b,n4o,none⟩)):=in4
     have fn4:=fn4 H8 u8.grow
     have k131b:=c131 H8
     have seq3:=vv_seq' (W.getD 0 []) [114,111,117,110,100]
     have bl1:∀x y:Int,vv (.bld [.int .i64 0,.int .i64 0] [(0,1),(1,1)]) [.int .i64 x,.int .i64 y]=some (.agg #[.int .i64 x,.int .i64 y]):=fun x y=>by rw [vv_of (by rfl)]; rfl
     have bl2:∀(x y z:Int) (q:Bool),vv (.bld [.int .i64 0,.bool false,.int .i64 0,.int .i64 0,.slice none 0 0] [(0,1),(2,2),(1,1)]) [.int .i64 x,.agg #[.int .i64 y,.int .i64 z],.bool q]=some (.agg #[.int .i64 x,.bool q,.int .i64 y,.int .i64 z,.slice none 0 0]):=fun x y z q=>by rw [vv_of (by rfl)]; rfl
     have sne:=vv_sne' (W.getD 4 []) [45]
     have hsl:sl=b.strokes.length:=by rw [hpb.eq,List.length_map]; exact (hpb.st.sl eK_len (by decide)).len.symm
     have hln:=hnp.ln
     have hR:decide (W.getD 0 []=[114,111,117,110,100])=decide (W.getD 0 []=wRound):=rfl
     rw [hR] at seq3
     obtain ⟨RR,hRR⟩:∃RR,decide (W.getD 0 []=wRound)=RR:=⟨_,rfl⟩
     rw [hRR] at seq3
     by_cases hdash:W.getD 4 []=[45]
     ·rw [decide_eq_true hdash] at sne
      have hnd0:nd=[]:=by unfold needW at hnd; rw [if_pos hdash] at hnd; cases hnd; rfl
      subst hnd0
      have hpb8:=hpb.up u58
      obtain ⟨H9,p1,p2,p3,p4⟩:=hpb8.st.appF hF8 (by decide) (by decide) (by omega) (by omega) [.int .i64 (l3.getD 0 0),.bool RR,.int .i64 (l3.getD 1 0),.int .i64 (l3.getD 2 0),.slice none 0 0] rfl
      have u9:Up H4 H9:=p3.up hpb8.st (hu.trans u58) (Nat.le_refl _)
      have h9:=u9.len
      have hpb9:PB H4.length H9 ba bl bm (some ⟨H8.length,0,none⟩) (sl+1) 5 ⟨b.app,b.boards,b.strokes++[strokeW W l3 []]⟩ (xs++[⟨strokeW W l3 [],none,0,0⟩]):=by
       refine ⟨hpb8.bo.grown' p3 hpb.ne,by rw [cells_app,show eK (⟨strokeW W l3 [],none,0,0⟩:Sk)=[.int .i64 (l3.getD 0 0),.bool RR,.int .i64 (l3.getD 1 0),.int .i64 (l3.getD 2 0),.slice none 0 0] by unfold eK strokeW; simp only; rw [hRR]]; exact p2,by rw [List.map_append,←hpb.eq]; rfl,fun k hk=>?_,fun e=>?_⟩
       ·rcases List.mem_append.1 hk with hk | hk
        ·exact ⟨(hpb8.nd k hk).1.grow p3.grow,(hpb8.nd k hk).2⟩
        ·rw [List.mem_singleton.1 hk]; exact ⟨Sl.none,.inl rfl⟩
       ·rcases hpb8.bo.ok with ⟨h,_⟩ | ⟨b2,f2,h,_,_,_,h5⟩
        ·exact h
        ·rw [h] at e; cases e
         have:=(List.getElem?_eq_some_iff.1 h5).1; omega
      simp (maxDischargeDepth:=8) only [↓SD,SU,SV,SW,simprocAttr,Int.cast_ofNat_Int,small,resV, q105x0,t0,t2,t5,t37,t38,t39,s0,s1, lt_nat,hjN,la5,iar,fr,ho6,la6,hlo6,iaw,fw,fw8,k131,k131b,vv_ixa1,vv_ixa3,seq1,seq3,z3,k129b,vv_slc,c7',la7,ho8',la8,hlo8,ie0,fe0,ie1,fe1,ie2,fe2,in4,fn4,bl1,bl2,sne,p1,lba,lsa,hw,so_loc,k_fixb,sget_sset]
      exact ih _ ⟨_,_,(H9),(ba),(bl),(bm),(some ⟨H8.length,0,none⟩),(sl+1),(5),(_),rfl,(by simp [get_set,t0] <;> omega),(by simp [get_set,t2] <;> omega),(by simp [get_set,t5] <;> omega),(by simp [get_set,t37] <;> omega),(by simp [get_set,t38] <;> omega),(by simp [get_set,t39] <;> omega),by simp [sget_sset,s0],by simp [sget_sset,s1],⟨⟨_,_,hfo',hpb9,hnp',hbA⟩,u9,p4,by omega⟩⟩
     ·rw [decide_eq_false hdash] at sne
      have hnd':numsW (spl 44 (W.getD 4 []))=some nd:=by unfold needW at hnd; rw [if_neg hdash] at hnd; exact hnd
      have hW4:(W.getD 4 []).length≤290:=by
       rw [List.getD_eq_getElem?_getD]
       cases e:W[4]? with
       | none=>simp
       | some p=>have:=(spl_parts (c:=32) r).2 p (by rw [hW]; exact List.mem_of_getElem? e); simp; omega
      obtain ⟨o,hoA,aA,mA,HA,loA,rfl,uA,hloA,sA⟩:=c128 (W.getD 4 []) 44 (by omega) H8 hF8
      have hFA:Fam HA:=famR hoA hF8
      have laA:=sA.isLoc mA
      have hAl:=uA.len
      have hsA:(spl 44 (W.getD 4 [])).length≤291:=by rw [spl_len]; have:=List.count_le_length (a:=44) (l:=W.getD 4 []); omega
      obtain ⟨o,hoB,qB⟩:=c130 (kk:=mA) sA (by omega) HA (Grow.refl _)
      unfold QN at qB
      rw [hnd'] at qB
      obtain ⟨aB,mB,HB,loB,rfl,uB,hloB,sB,nB⟩:=qB
      have hFB:Fam HB:=famR hoB hFA
      have laB:=sB.isLoc mB
      have hBl:=uB.len
      have u5B:=(u58.trans uA).trans uB
      have hpb8:=hpb.up u5B
      obtain ⟨H9,p1,p2,p3,p4⟩:=hpb8.st.appF hFB (by decide) (by decide) (by omega) (by omega) [.int .i64 (l3.getD 0 0),.bool RR,.int .i64 (l3.getD 1 0),.int .i64 (l3.getD 2 0),.slice aB nd.length mB] rfl
      have u9:Up H4 H9:=p3.up hpb8.st (hu.trans u5B) (Nat.le_refl _)
      have h9:=u9.len
      have hpb9:PB H4.length H9 ba bl bm (some ⟨HB.length,0,none⟩) (sl+1) 5 ⟨b.app,b.boards,b.strokes++[strokeW W l3 nd]⟩ (xs++[⟨strokeW W l3 nd,aB,nd.length,mB⟩]):=by
       refine ⟨hpb8.bo.grown' p3 hpb.ne,by rw [cells_app,show eK (⟨strokeW W l3 nd,aB,nd.length,mB⟩:Sk)=[.int .i64 (l3.getD 0 0),.bool RR,.int .i64 (l3.getD 1 0),.int .i64 (l3.getD 2 0),.slice aB nd.length mB] by unfold eK strokeW; simp only; rw [hRR]]; exact p2,by rw [List.map_append,←hpb.eq]; rfl,fun k hk=>?_,fun e=>?_⟩
       ·rcases List.mem_append.1 hk with hk | hk
        ·exact ⟨(hpb8.nd k hk).1.grow p3.grow,(hpb8.nd k hk).2⟩
        ·rw [List.mem_singleton.1 hk]; exact ⟨sB.grow p3.grow,nB.less (by omega)⟩
       ·rcases hpb8.bo.ok with ⟨h,_⟩ | ⟨b2,f2,h,_,_,_,h5⟩
        ·exact h
        ·rw [h] at e; cases e
         have:=(List.getElem?_eq_some_iff.1 h5).1; omega
      simp (maxDischargeDepth:=8) only [↓SD,SU,SV,SW,simprocAttr,Int.cast_ofNat_Int,small,resV, q105x0,t0,t2,t5,t37,t38,t39,s0,s1, lt_nat,hjN,la5,iar,fr,ho6,la6,hlo6,iaw,fw,fw8,k131,k131b,vv_ixa1,vv_ixa3,seq1,seq3,z3,k129b,vv_slc,c7',la7,ho8',la8,hlo8,ie0,fe0,ie1,fe1,ie2,fe2,in4,fn4,bl1,bl2,sne,hoA,laA,hoB,laB,p1,lba,lsa,hw,so_loc,k_fixb,sget_sset]
      exact ih _ ⟨_,_,(H9),(ba),(bl),(bm),(some ⟨HB.length,0,none⟩),(sl+1),(5),(_),rfl,(by simp [get_set,t0] <;> omega),(by simp [get_set,t2] <;> omega),(by simp [get_set,t5] <;> omega),(by simp [get_set,t37] <;> omega),(by simp [get_set,t38] <;> omega),(by simp [get_set,t39] <;> omega),by simp [sget_sset,s0],by simp [sget_sset,s1],⟨⟨_,_,hfo',hpb9,hnp',hbA⟩,u9,p4,by omega⟩⟩
    ·cases hrow
   ·cases hrow
 ·rintro c' s ⟨T,S,H5,ba,bl,bm,sa,sl,sm,lim,rfl,t0,t2,t5,t37,t38,t39,s0,s1,⟨b,xs,hfo,hpb,hnp,hbA⟩,hu,hF5,hlim⟩
  rcases hend with e | ⟨b',r,hr,hfo',hrow,hnone⟩
  ·have z0:(((K:Nat):Int) < ((N:Nat):Int))=False:=eq_false (by omega)
   rw [List.take_of_length_le (by omega)] at hfo
   have hpar2:parseP t=parseT (some b) t:=by
    rw [hpar]
    show parseT (foldP ⟨A,[],[]⟩ (rowsP t)) t=_
    rw [hfo]
   have htx:textT b=t:=Classical.byContradiction fun h=>hsome (by rw [hpar2]; unfold parseT; simp only; rw [if_neg h])
   have hpar3:parseP t=some b:=by rw [hpar2]; unfold parseT; simp only; rw [if_pos htx]
   have hbl:bl=b.boards.length:=(hpb.bo.sl encI_len (by decide)).len.symm
   have hbe:BeOk H5 ⟨A,ba,bl,bm,sa,sl,sm,xs⟩ b:=⟨hbA.symm,hpb.bo.sl encI_len (by decide),hpb.st.sl eK_len (by decide),fun k hk=>(hpb.nd k hk).1,hpb.eq⟩
   have hnw:Nw H'.length ba∧Nw H'.length sa∧∀k∈xs,Nw H'.length k.a:=⟨(bld_nw hpb.bo).less (by omega),(bld_nw hpb.st).less (by omega),fun k hk=>(hpb.nd k hk).2.less (by omega)⟩
   have hnb:=hnp.nub (by omega)
   have k103:=c103 hbe hnb H5 (Grow.refl _)
   rw [htx] at k103
   have seq:=vv_seq' t t
   rw [decide_eq_true rfl] at seq
   have k129c:=c129t ⟨t.toArray⟩ H5
   have lba:∀x y,isLoc (.slice ba x y)=false:=hpb.bo.isLoc
   have lsa:∀x y,isLoc (.slice sa x y)=false:=hpb.st.isLoc
   have hul:=hu.len
   simp (maxDischargeDepth:=8) only [↓SD,SU,SV,SW,simprocAttr,Int.cast_ofNat_Int,small,resV, q105x0,t0,t2,t5,t37,t38,t39,s0,s1,z0,k103,seq,k129c,lba,lsa,sget_sset,R105,N105]
   rw [yes_some]
   unfold QPa
   rw [hpar3]
   have u5:Up H' H5:=(u1.trans u2).trans (u4.trans hu)
   by_cases hfl:flat 4 (.agg #[.int .i64 A,.slice ba bl bm,.slice sa sl sm])=true
   ·rw [gc_ite (by omega),if_pos hfl]
    have hfl':flat 3 (.slice ba bl bm)=true∧flat 3 (.slice sa sl sm)=true:=by simpa [flat] using hfl
    have hx0:xs=[]:=by
     rcases hpb.st.ok with ⟨_,h,_⟩ | ⟨b2,f2,h,_⟩
     ·have:=hbe.st.len; exact List.eq_nil_of_length_eq_zero (by show xs.length=0; simp only at this; omega)
     ·rw [h] at hfl'; simp [flat] at hfl'
    exact ⟨⟨A,ba,bl,bm,sa,sl,sm,xs⟩,H',H'.length,rfl,Up.refl _,Nat.le_refl _,⟨hbA.symm,hbe.br.flat hfl'.1,hbe.st.flat hfl'.2,fun k hk=>(by rw [hx0] at hk; cases hk),hpb.eq⟩,hnb,hnw⟩
   ·rw [gc_ite (by omega),if_neg hfl]
    exact ⟨⟨A,ba,bl,bm,sa,sl,sm,xs⟩,H5,_,rfl,u5,by omega,hbe,hnb,hnw⟩
  ·exact (hsome (by
    rw [hpar]
    show parseT (foldP ⟨A,[],[]⟩ (rowsP t)) t=none
    rw [hnone]; rfl)).elim
end Go.Pi.L.Ben
set_option maxRecDepth 100000
namespace Go.Pi.L.Ben
open Go Go.Pi Go.Pi.L Go.Pi.E Go.Pi.Ben BM Go.Pi.Q

theorem Nw.mv {β:Type}{H:Heap}{n y k l:Nat}{enc:β→List Value}{a:Option Addr}{xs:List β}(h:Sl H k enc a l xs)(hn:Nw n a)(hy:y < n)(c:Blk):Sl (H.set y c) k enc a l xs:=by
 rcases hn with rfl | ⟨b,off,rfl,hb⟩
 ·exact ⟨h.len,.inl rfl,fun j x hx=>by obtain ⟨b,off,c,h1,_⟩:=h.rd j x hx; cases h1⟩
 ·refine ⟨h.len,h.loc,fun j x hx=>?_⟩
  obtain ⟨b',off',c',h1,h2,h3⟩:=h.rd j x hx
  refine ⟨b',off',c',h1,?_,h3⟩
  cases h1
  unfold hcells at h2 ⊢
  rw [List.getElem?_set_ne (by omega)]; exact h2
theorem gc_not {H H1:Heap}{lo:Nat}{v:Value}(h:lo < H.length):gcR H (.ok v) H1 lo=⟨.ok v,H1,lo⟩:=by
 unfold gcR; rw [if_neg (fun h'=>by have:=h'.1; omega)]
theorem c104 {H:Heap}{x y:Nat}{t:List UInt8}{b:Bench}(hx:hcells H x=some [.string ⟨t.toArray⟩])(hy:H[y]?=some ⟨.cells [.int .i64 0,.slice none 0 0,.slice none 0 0],true,true,none⟩)(ht:t.length≤290)(hp:parseP t=some b)(hF:Fam H) :
  ∃(r:BeR) (H1:Heap) (lo:Nat),R (.func 104) [.pointer (some ⟨x,0,none⟩),.pointer (some ⟨y,0,none⟩)] H=some ⟨.ok (.tuple #[]),H1.set y { obj:=.cells [.int .i64 r.app,.slice r.ba r.bl r.bk,.slice r.sa r.sl r.sk] },lo⟩∧Up H H1∧lo=y∧BeOk (H1.set y { obj:=.cells [.int .i64 r.app,.slice r.ba r.bl r.bk,.slice r.sa r.sl r.sk] }) r b∧NuB b∧isLoc (.slice r.ba r.bl r.bk)=false∧isLoc (.slice r.sa r.sl r.sk)=false:=by
 obtain ⟨o,ho,hq⟩:=c105 t ht (by rw [hp]; simp) H hF
 unfold QPa at hq
 rw [hp] at hq
 obtain ⟨r,H1,lo1,rfl,u1,hlo1,hbe,hnb,n1,n2,n3⟩:=hq
 have hyl:=lt_of_get hy
 have l1:=hbe.br.isLoc r.bk
 have l2:=hbe.st.isLoc r.sk
 have hy1:H1[y]?=some ⟨.cells [.int .i64 0,.slice none 0 0,.slice none 0 0],true,true,none⟩:=by rw [u1.old _ hyl]; exact hy
 obtain ⟨H2,hH2⟩:∃H2,H1.set y { obj:=.cells [.int .i64 r.app,.slice r.ba r.bl r.bk,.slice r.sa r.sl r.sk] }=H2:=⟨_,rfl⟩
 have hul:=u1.len
 have key:Yes (R (.func 104) [.pointer (some ⟨x,0,none⟩),.pointer (some ⟨y,0,none⟩)] H) (fun o=>∃lo,o=⟨.ok (.tuple #[]),H2,lo⟩∧lo=y):=by
  refine run_y (pr 104) P104 (by simp [p104]) rfl ?_
  simp (maxDischargeDepth:=8) only [↓SD,SU,SV,SW,simprocAttr,Int.cast_ofNat_Int,small,resV, B104,R104,N104,b104, hx,ho,l1,l2,hy1,stH_ok,hH2,R104,N104]
  rw [yes_some]
  refine ⟨min (min H.length lo1) y,?_,by omega⟩
  unfold gcR
  rw [if_neg (by simp; omega)]
 obtain ⟨o,ho2,lo,rfl,hlo⟩:=key
 refine ⟨r,H1,lo,by rw [hH2]; exact ho2,u1,hlo,?_,hnb,l1,l2⟩
 exact ⟨hbe.app,Nw.mv hbe.br n1 hyl _,Nw.mv hbe.st n2 hyl _,fun k hk=>Nw.mv (hbe.nd k hk) (n3 k hk) hyl _,hbe.eq⟩
theorem d119n (call:CallT)(x y:Nat)(H:Heap) :
  drunL PP primsL call (.func 119) [.pointer (some ⟨x,0,none⟩),.pointer (some ⟨y,0,none⟩)] H none=some (H,H.length,none):=by
 rw [drun_rc (d:=6) (pr 119) P119 (by simp [p119]) rfl (by simp [p119])]
 simp (maxDischargeDepth:=8) only [↓SD,SU,SV,SW,simprocAttr,Int.cast_ofNat_Int,small,resV, B119,R119,N119,b119, Option.getD_none]
 exact dfin_n _ _ _ _ _ _ _ _ R119
theorem set_same {H:Heap}{i:Nat}{x:Blk}(h:H[i]?=some x):H.set i x=H:=by
 apply List.ext_getElem?
 intro j
 by_cases e:i=j
 ·subst e; rw [List.getElem?_set_self (lt_of_get h),h]
 ·rw [List.getElem?_set_ne e]
theorem c84n {g:FuncId}{caps:List Value}{H H3:Heap}{lo3:Nat}{v:Value}(hc:(caps.all fun v=>!isLoc v)=true)
  (hf:R (.func g) caps (H++[({ obj:=.cells [.slice none 0 0] }:Blk)]++[({ obj:=.cells [.int .i64 0] }:Blk)])=some ⟨.ok v,H3,lo3⟩)
  (hA:H3[H.length]?=some ⟨.cells [.slice none 0 0],true,true,none⟩) (hB:H3[H.length+1]?=some ⟨.cells [.int .i64 0],true,true,none⟩) :
  Yes (R (.func 84) [.func (.func g) #[] caps.toArray] H) (fun o=>∃lo,min lo3 H.length≤lo∧lo≤lo3∧o=gcR H (.ok (.tuple #[.slice none 0 0,.int .i64 0])) H3 lo):=by
 generalize hH:H++[({ obj:=.cells [.slice none 0 0] }:Blk)]++[({ obj:=.cells [.int .i64 0] }:Blk)]=H1 at hf
 have a0:H1.length=H.length+2:=by rw [←hH]; simp
 have rd1:hcells H3 H.length=some [.slice none 0 0]:=by unfold hcells; rw [hA]
 have rd2:hcells H3 (H.length+1)=some [.int .i64 0]:=by unfold hcells; rw [hB]
 have e1:H3.set H.length { obj:=.cells [.slice none 0 0] }=H3:=set_same hA
 have e2:H3.set (H.length+1) { obj:=.cells [.int .i64 0] }=H3:=set_same hB
 have d1:=fun call H=>d119n call H.length (H.length+1) H
 have d2:=fun call=>d119n call H.length (H.length+1) H3
 refine run_y (pr 84) P84 (by simp [p84]) rfl ?_
 simp (maxDischargeDepth:=8) only [↓SD,SU,SV,SW,simprocAttr,Int.cast_ofNat_Int,small,resV, B84,R84,N84,b84, List.length_singleton,hH,hc,hf,hA,hB,stH_ok,e1,e2,d2,rd1,rd2,a0,R84,N84]
 rw [yes_some]
 have hB3:=lt_of_get hB
 exact ⟨min (min (min (min H.length lo3) H.length) (H.length+1)) H3.length,by omega,by omega,rfl⟩
theorem c68 {t:List UInt8}{b:Bench}(ht:t.length≤180)(hp:parseP t=some b)(hB:isBench b=true)(H':Heap)(hF:Fam H') :
  ∃(r:BeR) (H1:Heap) (lo:Nat),R (.func 68) [.string ⟨t.toArray⟩] H'=some ⟨.ok (.tuple #[.agg #[.int .i64 r.app,.slice r.ba r.bl r.bk,.slice r.sa r.sl r.sk],.int .i64 0]),H1,lo⟩∧Up H' H1∧H'.length≤lo∧BeOk H1 r b:=by
 obtain ⟨Ha,hHa⟩:∃Ha,H'++[({ obj:=.cells [.string ⟨t.toArray⟩] }:Blk)]=Ha:=⟨_,rfl⟩
 obtain ⟨Hb,hHb⟩:∃Hb,Ha++[({ obj:=.cells [.int .i64 0,.slice none 0 0,.slice none 0 0] }:Blk)]=Hb:=⟨_,rfl⟩
 obtain ⟨Hc,hHc⟩:∃Hc,Hb++[({ obj:=.cells [.slice none 0 0] }:Blk)]++[({ obj:=.cells [.int .i64 0] }:Blk)]=Hc:=⟨_,rfl⟩
 have la:Ha.length=H'.length+1:=by rw [←hHa]; simp
 have lb:Hb.length=H'.length+2:=by rw [←hHb]; simp [la]
 have lc:Hc.length=H'.length+4:=by rw [←hHc]; simp [lb]
 have ua:Up H' Ha:=by rw [←hHa]; exact (Up.refl _).app
 have ub:Up Ha Hb:=by rw [←hHb]; exact (Up.refl _).app
 have uc:Up Hb Hc:=by rw [←hHc]; exact (Up.refl _).app.app
 have hFc:Fam Hc:=by
  rw [←hHc,←hHb,←hHa]
  exact (((hF.append (fun f h=>by cases h)).append (fun f h=>by cases h)).append (fun f h=>by cases h)).append (fun f h=>by cases h)
 have xa:Ha[H'.length]?=some ⟨.cells [.string ⟨t.toArray⟩],true,true,none⟩:=by rw [←hHa]; exact app_get
 have xb:Hb[Ha.length]?=some ⟨.cells [.int .i64 0,.slice none 0 0,.slice none 0 0],true,true,none⟩:=by rw [←hHb]; exact app_get
 have ya:Hc[H'.length]?=some ⟨.cells [.string ⟨t.toArray⟩],true,true,none⟩:=by rw [uc.old _ (by omega),ub.old _ (by omega)]; exact xa
 have yb:Hc[Ha.length]?=some ⟨.cells [.int .i64 0,.slice none 0 0,.slice none 0 0],true,true,none⟩:=by rw [uc.old _ (by omega)]; exact xb
 have yA:Hc[Hb.length]?=some ⟨.cells [.slice none 0 0],true,true,none⟩:=by rw [←hHc,List.append_assoc,List.getElem?_append_right (Nat.le_refl _)]; simp
 have yB:Hc[Hb.length+1]?=some ⟨.cells [.int .i64 0],true,true,none⟩:=by rw [←hHc,List.append_assoc,List.getElem?_append_right (by omega),Nat.add_sub_cancel_left]; rfl
 have hca:hcells Ha H'.length=some [.string ⟨t.toArray⟩]:=by unfold hcells; rw [xa]
 obtain ⟨r,H1,lo,k104,u1,hlo,hbe,hnb,l1,l2⟩:=c104 (x:=H'.length) (y:=Ha.length) (by unfold hcells; rw [ya]) yb (by omega) hp hFc
 obtain ⟨H2,hH2⟩:∃H2,H1.set Ha.length { obj:=.cells [.int .i64 r.app,.slice r.ba r.bl r.bk,.slice r.sa r.sl r.sk] }=H2:=⟨_,rfl⟩
 rw [hH2] at k104 hbe
 have h1l:=u1.len
 have e2:H2.length=H1.length:=by rw [←hH2]; simp
 have o2:∀i,i≠Ha.length→H2[i]?=H1[i]?:=fun i hi=>by rw [←hH2,List.getElem?_set_ne (fun e=>hi e.symm)]
 rw [←hHc] at k104
 obtain ⟨o,k84,lo2,hlo2,hlo3,ho⟩:=c84n (g:=104) (caps:=[.pointer (some ⟨H'.length,0,none⟩),.pointer (some ⟨Ha.length,0,none⟩)]) (H:=Hb) (by rfl) k104 (by rw [o2 _ (by omega),u1.old _ (by omega)]; exact yA) (by rw [o2 _ (by omega),u1.old _ (by omega)]; exact yB)
 rw [gc_not (by omega)] at ho
 subst ho
 have k84':R (.func 84) [.func (.func 104) #[] #[.pointer (some ⟨H'.length,0,none⟩),.pointer (some ⟨Ha.length,0,none⟩)]] Hb=some ⟨.ok (.tuple #[.slice none 0 0,.int .i64 0]),H2,lo2⟩:=k84
 have hcy:hcells H2 Ha.length=some [.int .i64 r.app,.slice r.ba r.bl r.bk,.slice r.sa r.sl r.sk]:=by
  unfold hcells; rw [←hH2,List.getElem?_set_self (by omega)]
 have u2:Up H' H2:=by rw [←hH2]; exact (((ua.trans ub).trans uc).trans u1).set (by omega)
 have hnb2:SmB r:=by
  have h1:=hbe.blen
  have h2:=hbe.len
  refine ⟨by have:=hnb.bo.2; omega,by have:=hnb.sl; omega,fun k hk=>?_⟩
  have hk2:k.s∈b.strokes:=by rw [hbe.eq]; exact List.mem_map_of_mem hk
  have:=(hnb.st k.s hk2).nd.2
  have:=(hbe.nd k hk).len
  omega
 have k74:=c74 hbe hnb2 H2 (Grow.refl _)
 rw [hB] at k74
 have sl0:=vv_slen' t
 have z1:((180:Int) < ((t.length:Nat):Int))=False:=eq_false (by omega)
 have key:Yes (R (.func 68) [.string ⟨t.toArray⟩] H') (fun o=>∃(H3:Heap) (lo:Nat),o=⟨.ok (.tuple #[.agg #[.int .i64 r.app,.slice r.ba r.bl r.bk,.slice r.sa r.sl r.sk],.int .i64 0]),H3,lo⟩∧Up H' H3∧H'.length≤lo∧BeOk H3 r b):=by
  refine run_y (pr 68) P68 (by simp [p68]) rfl ?_
  simp (maxDischargeDepth:=8) only [↓SD,SU,SV,SW,simprocAttr,Int.cast_ofNat_Int,small,resV, B68,R68,N68,b68, l1,l2,hHa,hca,sl0,z1,hHb,k84',hcy,k74,R68,N68]
  rw [yes_some]
  have hf:=fine_of hB
  have hsl:=hbe.len
  have hn1:=hf.n1
  obtain ⟨b',o',k,hsa,_,_⟩:=hbe.st.at eK_len (by decide) (j:=0) (by omega)
  rw [gc_keep (by rw [hsa]; simp [flat])]
  exact ⟨H2,_,rfl,u2,by omega,hbe⟩
 obtain ⟨o,ho,H3,lo3,rfl,w1,w2,w3⟩:=key
 exact ⟨r,H3,lo3,ho,w1,w2,w3⟩
end Go.Pi.L.Ben
