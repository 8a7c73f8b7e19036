/- Coats: a text is read by the specification. -/
import Derived.Test.YtjidjpcnocddeaaGreatDoorDF
import Derived.Test.YtjidjpcnocddeaaGreatDoorDE
set_option linter.all false
set_option maxRecDepth 100000
namespace Go.Pi.L.Coa
open Go Go.Pi Go.Pi.L Go.Pi.Coa CM Go.Pi.Q

def QRd (H:Heap)(t:List UInt8)(o:Out):Prop :=
 match readR t with
 | none=>o=⟨.ok (.tuple #[.agg #[.slice none 0 0,.slice none 0 0,.slice none 0 0],.bool false]),H,H.length⟩
 | some s=>∃(r:ShR) (H1:Heap) (lo:Nat),o=⟨.ok (.tuple #[.agg #[.slice r.da r.dl r.dk,.slice r.wa r.wl r.wk,.slice r.ca r.cl r.ck],.bool true]),H1,lo⟩∧Up H H1∧H.length≤lo∧ShOk H1 r s
theorem n_at {H:Heap}{a:Option Addr}{l m:Nat}{xs:List Int}(hs:Ints H a l xs){i:Nat}(hi:i < l):∃b off,vv (.ia 1) [.slice a l m,.int .i64 ((i:Nat):Int)]=some (.pointer (some ⟨b,off,none⟩))∧∀H',Grow H H'→rdO (hcells H' b) off none=some (.int .i64 (xs.getD i 0)):=by
 obtain ⟨b,o,w,hwa,hw1,hat⟩:=hs.i1 hi
 refine ⟨b,o+i*1,by rw [hwa]; exact vv_iaN 1 b o i _ _ _ hi,fun H' g=>?_⟩
 have e:xs.getD i 0=w:=by rw [List.getD_eq_getElem?_getD,hw1]; rfl
 rw [e]
 exact hat H' g
theorem numsR_two (x y:List UInt8):numsR [x,y]=if (numR x).2=true∧(numR y).2=true then some [(numR x).1,(numR y).1] else none:=by
 unfold numsR
 rw [List.mapM_cons,List.mapM_cons,List.mapM_nil]
 cases h1:(numR x).2 with
 | false=>simp
 | true =>
  cases h2:(numR y).2 with
  | false=>simp
  | true=>simp
theorem twoW_R (W:List (List UInt8)):twoW W=(numsR [W.getD 1 [],W.getD 2 []]).bind fun zs=>if 0≤zs.getD 0 0∧0≤zs.getD 1 0 then some (zs.getD 0 0,zs.getD 1 0) else none:=by
 unfold twoW
 rw [numsR_two,numR_W,numR_W]
 obtain ⟨⟨a,p⟩,ha⟩:∃q,numR (W.getD 1 [])=q:=⟨_,rfl⟩
 obtain ⟨⟨b,q⟩,hb⟩:∃q,numR (W.getD 2 [])=q:=⟨_,rfl⟩
 rw [ha,hb]
 cases p <;> cases q <;> by_cases h1:0≤a <;> by_cases h2:0≤b <;> simp [h1,h2]
theorem take_two {W:List (List UInt8)}(h:3≤W.length):(W.drop 1).take (3 - 1)=[W.getD 1 [],W.getD 2 []]:=by
 match W,h with
 | a :: b :: c :: l,_=>rfl
set_option maxHeartbeats 4000000 in
theorem c71 (t:List UInt8)(ht:t.length≤360)(H':Heap)(hF:Fam H'):Yes (R (.func 71) [.string ⟨t.toArray⟩] H') (QRd H' t):=by
 have fin:readR t=none→∀H5 lo,H'.length≤lo→Yes (some (gcR H' (.ok (.tuple #[.agg #[.slice none 0 0,.slice none 0 0,.slice none 0 0],.bool false])) H5 lo)) (QRd H' t):=fun e H5 lo h=>by
  rw [yes_some]
  unfold QRd
  rw [e]
  simp [gcR,flat]; omega
 refine run_y (pr 71) P71 (by simp [p71]) rfl ?_
 obtain ⟨o,ho1,a1,m1,H1,lo1,rfl,u1,hlo1,q1⟩:=c114 t 10 (by omega) H'
 have hF1:Fam H1:=famR ho1 hF
 have la1:=q1.isLoc m1
 have hn1:=spl_len1 10 t
 have hnl:(spl 10 t).length≤361:=by rw [spl_len]; have:=List.count_le_length (a:=10) (l:=t); omega
 have hpl:=(spl_parts (c:=10) t).2
 have h1:=u1.len
 obtain ⟨n,hn⟩:∃n,(spl 10 t).length=n:=⟨_,rfl⟩
 rw [hn] at ho1 q1 la1 hn1 hnl
 have ho1':R (.func 114) [.string ⟨t.toArray⟩,.int .u8 10] H'=some ⟨.ok (.slice a1 n m1),H1,lo1⟩:=ho1
 have hwn:IntKind.wrap .i64 (((n:Nat):Int) - 2)=((n:Nat):Int) - 2:=wrap_id _ (by omega) (by omega)
 simp (maxDischargeDepth:=8) only [↓SD,SU,SV,SW,simprocAttr,Int.cast_ofNat_Int,small,resV, B71,R71,N71,b71, ho1',la1]
 obtain ⟨K,hK,hpre,hend⟩:=foldR_cut s0' (rowsP t)
 have hRN:(rowsP t).length=n - 2:=by rw [rowsP_len,hn]
 have hRl:∀r∈rowsP t,r.length≤360:=fun r hr=>by
  unfold rowsP at hr
  have:=hpl r (List.mem_of_mem_take hr); omega
 have hget:∀j r,(rowsP t)[j]?=some r→(spl 10 t).getD j []=r:=fun j r hr=>by
  unfold rowsP at hr
  rw [List.getElem?_take] at hr
  split at hr
  ·rw [List.getD_eq_getElem?_getD,hr]; rfl
  ·cases hr
 have bl:vv (.bld [.slice none 0 0,.slice none 0 0,.slice none 0 0] []) []=some (.agg #[.slice none 0 0,.slice none 0 0,.slice none 0 0]):=by rw [vv_of (by rfl)]; rfl
 have bl1:∀x y:Int,vv (.bld [.int .i64 0,.int .i64 0] [(0,1),(1,1)]) [.int .i64 x,.int .i64 y]=some (.agg #[.int .i64 x,.int .i64 y]):=fun x y=>by rw [vv_of (by rfl)]; rfl
 refine loop_ind (G:=(Yes · (QRd H' t))) (fun j σ=>∃T S H5 da dl dm wa wl wm ca cl cm lim,σ=⟨T,S,[],H5,lim,94,false⟩∧get T 0=.string ⟨t.toArray⟩∧get T 2=.pointer (some ⟨2,0,some 1⟩)∧get T 4=.pointer (some ⟨4,0,some 1⟩)∧get T 5=.slice a1 n m1∧get T 6=.int .i64 (j:Nat)∧sget S 2=(1,.cells [.slice none 0 0,.slice none 0 0,.slice none 0 0])∧sget S 4=(1,.cells [.slice da dl dm,.slice wa wl wm,.slice ca cl cm])∧((∃s,foldR s0' ((rowsP t).take j)=some s∧PC H1.length H5 da dl dm wa wl wm ca cl cm s∧NuP s j)∧Up H1 H5∧Fam H5∧H'.length≤lim)) (K) ?_ ?_ 0 _ (Nat.zero_le _) ⟨_,_,_,_,_,_,_,_,_,_,_,_,_,rfl,rfl,rfl,rfl,rfl,rfl,rfl,rfl,⟨⟨_,rfl,PC.nil _ _,NuP.nil⟩,Up.refl _,hF1,by omega⟩⟩
 ·rintro c' j s hj ⟨T,S,H5,da,dl,dm,wa,wl,wm,ca,cl,cm,lim,rfl,t0,t2,t4,t5,t6,s0,s1,hp⟩ ih
  obtain ⟨⟨s,hfo,hpc,hnp⟩,hu,hF5,hlim⟩:=hp
  have hw:=wrap_succ j (by omega)
  have hjN:((j:Nat):Int) < ((n:Nat):Int) - 2:=by omega
  have zN:(((j:Nat):Int) < ((n:Nat):Int) - 2)=True:=eq_true hjN
  have hul:=hu.len
  obtain ⟨r,hr⟩:∃r,(rowsP t)[j]?=some r:=⟨_,List.getElem?_eq_getElem (by omega)⟩
  have hrl:=hRl r (List.mem_of_getElem? hr)
  obtain ⟨s',hs'⟩:=hpre (j+1) (by omega)
  have hfo':=hs'
  rw [take_get hr,foldR_snoc,hfo] at hs'
  have hrow:rowR s r=some s':=hs'
  have hnp':=rowR_nu hnp hrow
  obtain ⟨br,offr,iar,fr⟩:=s_at (m:=m1) q1 (i:=j) (by omega)
  have fr:=fr H5 hu.grow
  rw [hget j r hr] at fr
  obtain ⟨o,ho6,a6,m6,H6,lo6,rfl,u6,hlo6,s6⟩:=c114 r 32 (by omega) H5
  have hF6:Fam H6:=famR ho6 hF5
  have la6:=s6.isLoc m6
  have h6:=u6.len
  have hg1:=getD_len (r:=r) (i:=1)
  have hg2:=getD_len (r:=r) (i:=2)
  obtain ⟨W,hW⟩:∃W,spl 32 r=W:=⟨_,rfl⟩
  have hWl:W.length≤361:=by rw [←hW,spl_len]; have:=List.count_le_length (a:=32) (l:=r); omega
  have hpw:∀w∈W,w.length≤1000:=fun w hw=>by rw [←hW] at hw; have:=(spl_parts (c:=32) r).2 w hw; omega
  rw [hW] at ho6 s6 la6 hg1 hg2
  unfold rowR at hrow
  rw [hW] at hrow
  obtain ⟨nW,hnW⟩:∃nW,W.length=nW:=⟨_,rfl⟩
  rw [hnW] at ho6 s6 la6 hWl hrow
  have ho6':R (.func 114) [.string ⟨r.toArray⟩,.int .u8 32] H5=some ⟨.ok (.slice a6 nW m6),H6,lo6⟩:=ho6
  have lda:∀x y,isLoc (.slice da x y)=false:=hpc.d.isLoc
  have lwa:∀x y,isLoc (.slice wa x y)=false:=hpc.w.isLoc
  have lca:∀x y,isLoc (.slice ca x y)=false:=hpc.c.isLoc
  have hdl:=hpc.ld
  have hwl:=hpc.lw
  have hcl:=hpc.lc
  have hln:=hnp.ln
  have hwln:=hnp.wl
  split at hrow
  ·cases hrow
  rename_i h3
  have z3:(((nW:Nat):Int) < 3)=False:=eq_false (by omega)
  rw [Option.map_eq_some_iff] at hrow
  obtain ⟨p,hp2,hrow⟩:=hrow
  obtain ⟨a7,m7,c7,s7⟩:=s6.cut m6 1 3 (by omega) (by omega)
  rw [take_two (by omega)] at s7
  have c7':VOp.ev.slc 1 a6 nW m6 1 3=some (.slice a7 2 m7):=c7
  have la7:isLoc (.slice a7 2 m7)=false:=s7.isLoc m7
  obtain ⟨o,ho8,a8,m8,zs,ok,H8,lo8,rfl,u8,hlo8,s8,n8,hz8,e8⟩:=c115 (kk:=m7) s7 (by omega) (fun w hw=>by
   rcases List.mem_cons.1 hw with rfl | hw
   ·omega
   ·rw [List.mem_singleton.1 hw]; omega) H6 (Grow.refl _)
  rw [twoW_R] at hp2
  cases hnr:numsR [W.getD 1 [],W.getD 2 []] with
  | none=>rw [hnr] at hp2; cases hp2
  | some ns =>
  rw [hnr] at hp2 e8
  obtain ⟨rfl,rfl⟩:=e8
  have hzl:zs.length=2:=by
   rw [numsR_two] at hnr
   split at hnr
   ·cases hnr; rfl
   ·cases hnr
  obtain ⟨za,zb,rfl⟩:∃za zb,zs=[za,zb]:=by
   match zs,hzl with
   | [x,y],_=>exact ⟨x,y,rfl⟩
  rw [Option.bind_some] at hp2
  simp only [List.getD_cons_zero,List.getD_cons_succ] at hp2
  split at hp2
  case isFalse=>cases hp2
  rename_i hpos
  cases hp2
  have hF8:Fam H8:=famR ho8 hF6
  have ho8':R (.func 115) [.slice a7 2 m7,.int .i64 3] H6=some ⟨.ok (.tuple #[.slice a8 2 m8,.bool true]),H8,lo8⟩:=ho8
  have la8:isLoc (.slice a8 2 m8)=false:=s8.isLoc m8
  have h8:=u8.len
  have u68:=u6.trans u8
  obtain ⟨b1,o1,i1,f1⟩:=n_at (m:=m8) s8 (i:=0) (by simp)
  replace i1:vv (.ia 1) [.slice a8 2 m8,.int .i64 0]=some (.pointer (some ⟨b1,o1,none⟩)):=i1
  replace f1:∀H',Grow H8 H'→rdO (hcells H' b1) o1 none=some (.int .i64 za):=f1
  obtain ⟨b2,o2,i2,f2⟩:=n_at (m:=m8) s8 (i:=1) (by simp)
  replace i2:vv (.ia 1) [.slice a8 2 m8,.int .i64 1]=some (.pointer (some ⟨b2,o2,none⟩)):=i2
  replace f2:∀H',Grow H8 H'→rdO (hcells H' b2) o2 none=some (.int .i64 zb):=f2
  have y1:(za < 0)=False:=eq_false (by omega)
  have y2:(zb < 0)=False:=eq_false (by omega)
  have hpc8:=hpc.up u68
  have u18:=hu.trans u68
  have f18:=f1 H8 (Grow.refl _)
  have f28:=f2 H8 (Grow.refl _)
  split at hrow
  ·rename_i hl3
   cases hrow
   have z4:(((nW:Nat):Int)=3)=True:=eq_true (by omega)
   obtain ⟨H9,p2,hpc9,hF9,g9,q9⟩:=hpc8.addC hF8 (by omega) (by omega) (za,zb)
   have u9:=q9 H1 u18 (Nat.le_refl _)
   have h9:=u9.len
   simp (maxDischargeDepth:=8) only [↓SD,SU,SV,SW,simprocAttr,Int.cast_ofNat_Int,small,resV, q71x0,t0,t2,t4,t5,t6,s0,s1, lt_nat,zN,hwn,la1,iar,fr,ho6',la6,hlo6,z3,vv_slc,c7',la7,ho8',la8,hlo8,i1,f18,i2,f28,y1,y2,z4,bl1,p2,lda,lwa,lca,hw,so_loc,k_fixb,x_blk,x_blk',sget_sset]
   exact ih _ ⟨_,_,(H9),(da),(dl),(dm),(wa),(wl),(wm),(some ⟨H8.length,0,none⟩),(cl+1),(2),(_),rfl,(by simp [get_set,t0] <;> omega),(by simp [get_set,t2] <;> omega),(by simp [get_set,t4] <;> omega),(by simp [get_set,t5] <;> omega),(by simp [get_set,t6] <;> omega),by simp [sget_sset,s0],by simp [sget_sset,s1],⟨⟨_,hfo',hpc9,hnp'⟩,u9,hF9,by omega⟩⟩
  ·rename_i hl3
   cases hrow
   have z4:(((nW:Nat):Int)=3)=False:=eq_false (by omega)
   obtain ⟨b3,o3,i3,f3⟩:=s_at (m:=m6) s6 (i:=3) (by omega)
   replace i3:vv (.ia 1) [.slice a6 nW m6,.int .i64 3]=some (.pointer (some ⟨b3,o3,none⟩)):=i3
   have f3:=f3 H8 u8.grow
   have seq3:=vv_seq' (W.getD 3 []) [121,101,115]
   by_cases hy:W.getD 3 []=wYes
   ·rw [decide_eq_true (show W.getD 3 []=[121,101,115] from hy)] at seq3
    rw [decide_eq_true hy] at hfo' hnp'
    obtain ⟨H9,p1,hpc9,hF9,g9,q9⟩:=hpc8.addW hF8 (by omega) (by omega) ((s.dry.length:Nat):Int)
    have u9:=q9 H1 u18 (Nat.le_refl _)
    have h9:=u9.len
    have f19:=f1 H9 g9
    have f29:=f2 H9 g9
    obtain ⟨HA,p2,hpcA,hFA,gA,qA⟩:=hpc9.addD hF9 (by omega) (by omega) (za,zb)
    have uA:=qA H1 u9 (Nat.le_refl _)
    have hA:=uA.len
    rw [←hdl] at p1
    simp (maxDischargeDepth:=8) only [↓SD,SU,SV,SW,simprocAttr,Int.cast_ofNat_Int,small,resV, q71x0,t0,t2,t4,t5,t6,s0,s1, lt_nat,zN,hwn,la1,iar,fr,ho6',la6,hlo6,z3,vv_slc,c7',la7,ho8',la8,hlo8,i1,f18,i2,f28,f19,f29,y1,y2,z4,i3,f3,seq3,p1,bl1,p2,lda,lwa,lca,hw,so_loc,k_fixb,sget_sset]
    exact ih _ ⟨_,_,(HA),(some ⟨H9.length,0,none⟩),(dl+1),(2),(some ⟨H8.length,0,none⟩),(wl+1),(1),(ca),(cl),(cm),(_),rfl,(by simp [get_set,t0] <;> omega),(by simp [get_set,t2] <;> omega),(by simp [get_set,t4] <;> omega),(by simp [get_set,t5] <;> omega),(by simp [get_set,t6] <;> omega),by simp [sget_sset,s0],by simp [sget_sset,s1],⟨⟨_,hfo',hpcA,hnp'⟩,uA,hFA,by omega⟩⟩
   ·rw [decide_eq_false (show ¬W.getD 3 []=[121,101,115] from hy)] at seq3
    rw [decide_eq_false hy] at hfo' hnp'
    obtain ⟨HA,p2,hpcA,hFA,gA,qA⟩:=hpc8.addD hF8 (by omega) (by omega) (za,zb)
    have uA:=qA H1 u18 (Nat.le_refl _)
    have hA:=uA.len
    simp (maxDischargeDepth:=8) only [↓SD,SU,SV,SW,simprocAttr,Int.cast_ofNat_Int,small,resV, q71x0,t0,t2,t4,t5,t6,s0,s1, lt_nat,zN,hwn,la1,iar,fr,ho6',la6,hlo6,z3,vv_slc,c7',la7,ho8',la8,hlo8,i1,f18,i2,f28,y1,y2,z4,i3,f3,seq3,bl1,p2,lda,lwa,lca,hw,so_loc,k_fixb,sget_sset]
    exact ih _ ⟨_,_,(HA),(some ⟨H8.length,0,none⟩),(dl+1),(2),(wa),(wl),(wm),(ca),(cl),(cm),(_),rfl,(by simp [get_set,t0] <;> omega),(by simp [get_set,t2] <;> omega),(by simp [get_set,t4] <;> omega),(by simp [get_set,t5] <;> omega),(by simp [get_set,t6] <;> omega),by simp [sget_sset,s0],by simp [sget_sset,s1],⟨⟨_,hfo',hpcA,hnp'⟩,uA,hFA,by omega⟩⟩
 ·rintro c' s ⟨T,S,H5,da,dl,dm,wa,wl,wm,ca,cl,cm,lim,rfl,t0,t2,t4,t5,t6,s0,s1,hp⟩
  obtain ⟨⟨s,hfo,hpc,hnp⟩,hu,hF5,hlim⟩:=hp
  have hul:=hu.len
  have lda0:∀x y,isLoc (.slice da x y)=false:=hpc.d.isLoc
  have lwa0:∀x y,isLoc (.slice wa x y)=false:=hpc.w.isLoc
  have lca0:∀x y,isLoc (.slice ca x y)=false:=hpc.c.isLoc
  rcases hend with hend | ⟨s2,r,hr,hfo2,hrow,hnone⟩
  ·have zN:(((K:Nat):Int) < ((n:Nat):Int) - 2)=False:=eq_false (by omega)
   rw [List.take_of_length_le (by omega)] at hfo
   have hpar2:readR t=parseT (some s) t:=by unfold readR; rw [hfo]
   have hsh:=hpc.sh
   have hdl:=hpc.ld
   have hwl:=hpc.lw
   have hcl:=hpc.lc
   have hln:=hnp.ln
   have hwln:=hnp.wl
   have hnu:=hnp.nuc (by omega)
   have k69:=c69 hsh hnu (by show wl < 1000000; omega) H5 (Grow.refl _)
   by_cases htx:textC s=t
   case neg =>
    have hpar3:readR t=none:=by rw [hpar2]; unfold parseT; simp only; rw [if_neg htx]
    have sne:=vv_sne' (textC s) t
    rw [decide_eq_false htx] at sne
    simp (maxDischargeDepth:=8) only [↓SD,SU,SV,SW,simprocAttr,Int.cast_ofNat_Int,small,resV, q71x0,t0,t2,t4,t5,t6,s0,s1, lt_nat,zN,hwn,la1,k69,sne,bl,lda0,lwa0,lca0,sget_sset,R71,N71]
    exact fin hpar3 _ _ (by omega)
   have hpar3:readR t=some s:=by rw [hpar2]; unfold parseT; simp only; rw [if_pos htx]
   rw [htx] at k69
   have sne:=vv_sne' t t
   rw [decide_eq_true rfl] at sne
   simp (maxDischargeDepth:=8) only [↓SD,SU,SV,SW,simprocAttr,Int.cast_ofNat_Int,small,resV, q71x0,t0,t2,t4,t5,t6,s0,s1, lt_nat,zN,hwn,la1,k69,sne,bl,lda0,lwa0,lca0,sget_sset,R71,N71]
   rw [yes_some]
   unfold QRd
   rw [hpar3]
   have u5:Up H' H5:=u1.trans hu
   by_cases hfl:flat 4 (.tuple #[.agg #[.slice da dl dm,.slice wa wl wm,.slice ca cl cm],.bool true])=true
   ·rw [gc_ite (by omega),if_pos hfl]
    have hfl':flat 2 (.slice da dl dm)=true∧flat 2 (.slice wa wl wm)=true∧flat 2 (.slice ca cl cm)=true:=by simpa [flat] using hfl
    exact ⟨⟨da,dl,dm,wa,wl,wm,ca,cl,cm⟩,H',H'.length,rfl,Up.refl _,Nat.le_refl _,⟨hsh.d.flat hfl'.1,hsh.w.flat hfl'.2.1,hsh.c.flat hfl'.2.2⟩⟩
   ·rw [gc_ite (by omega),if_neg hfl]
    exact ⟨⟨da,dl,dm,wa,wl,wm,ca,cl,cm⟩,H5,_,rfl,u5,by omega,hsh⟩
  ·have hno:readR t=none:=by unfold readR; rw [hnone]; rfl
   rw [hfo2] at hfo
   cases hfo
   have hKl:=(List.getElem?_eq_some_iff.1 hr).1
   have zN:(((K:Nat):Int) < ((n:Nat):Int) - 2)=True:=eq_true (by omega)
   have hrl:=hRl r (List.mem_of_getElem? hr)
   obtain ⟨br,offr,iar,fr⟩:=s_at (m:=m1) q1 (i:=K) (by omega)
   have fr:=fr H5 hu.grow
   rw [hget K r hr] at fr
   obtain ⟨o,ho6,a6,m6,H6,lo6,rfl,u6,hlo6,s6⟩:=c114 r 32 (by omega) H5
   have hF6:Fam H6:=famR ho6 hF5
   have la6:=s6.isLoc m6
   have h6:=u6.len
   have hg1:=getD_len (r:=r) (i:=1)
   have hg2:=getD_len (r:=r) (i:=2)
   obtain ⟨W,hW⟩:∃W,spl 32 r=W:=⟨_,rfl⟩
   have hWl:W.length≤361:=by rw [←hW,spl_len]; have:=List.count_le_length (a:=32) (l:=r); omega
   have hpw:∀w∈W,w.length≤1000:=fun w hw=>by rw [←hW] at hw; have:=(spl_parts (c:=32) r).2 w hw; omega
   rw [hW] at ho6 s6 la6 hg1 hg2
   unfold rowR at hrow
   rw [hW] at hrow
   obtain ⟨nW,hnW⟩:∃nW,W.length=nW:=⟨_,rfl⟩
   rw [hnW] at ho6 s6 la6 hWl hrow
   have ho6':R (.func 114) [.string ⟨r.toArray⟩,.int .u8 32] H5=some ⟨.ok (.slice a6 nW m6),H6,lo6⟩:=ho6
   have lda:∀x y,isLoc (.slice da x y)=false:=hpc.d.isLoc
   have lwa:∀x y,isLoc (.slice wa x y)=false:=hpc.w.isLoc
   have lca:∀x y,isLoc (.slice ca x y)=false:=hpc.c.isLoc
   have hdl:=hpc.ld
   have hwl:=hpc.lw
   have hcl:=hpc.lc
   have hln:=hnp.ln
   have hwln:=hnp.wl
   split at hrow
   ·rename_i h3
    have z3:(((nW:Nat):Int) < 3)=True:=eq_true (by omega)
    simp (maxDischargeDepth:=8) only [↓SD,SU,SV,SW,simprocAttr,Int.cast_ofNat_Int,small,resV, q71x0,t0,t2,t4,t5,t6,s0,s1, lt_nat,zN,hwn,la1,iar,fr,ho6',la6,hlo6,z3,bl,lda,lwa,lca,sget_sset,R71,N71]
    exact fin hno _ _ (by omega)
   rename_i h3
   have z3:(((nW:Nat):Int) < 3)=False:=eq_false (by omega)
   rw [Option.map_eq_none_iff] at hrow
   obtain ⟨a7,m7,c7,s7⟩:=s6.cut m6 1 3 (by omega) (by omega)
   rw [take_two (by omega)] at s7
   have c7':VOp.ev.slc 1 a6 nW m6 1 3=some (.slice a7 2 m7):=c7
   have la7:isLoc (.slice a7 2 m7)=false:=s7.isLoc m7
   obtain ⟨o,ho8,a8,m8,zs,ok,H8,lo8,rfl,u8,hlo8,s8,n8,hz8,e8⟩:=c115 (kk:=m7) s7 (by omega) (fun w hw=>by
    rcases List.mem_cons.1 hw with rfl | hw
    ·omega
    ·rw [List.mem_singleton.1 hw]; omega) H6 (Grow.refl _)
   have h8:=u8.len
   have la8:=s8.isLoc m8
   have ho8':R (.func 115) [.slice a7 2 m7,.int .i64 3] H6=some ⟨.ok (.tuple #[.slice a8 zs.length m8,.bool ok]),H8,lo8⟩:=ho8
   rw [twoW_R] at hrow
   cases hnr:numsR [W.getD 1 [],W.getD 2 []] with
   | none =>
    rw [hnr] at e8
    simp only at e8
    subst e8
    simp (maxDischargeDepth:=8) only [↓SD,SU,SV,SW,simprocAttr,Int.cast_ofNat_Int,small,resV, q71x0,t0,t2,t4,t5,t6,s0,s1, lt_nat,zN,hwn,la1,iar,fr,ho6',la6,hlo6,z3,vv_slc,c7',la7,ho8',la8,hlo8,bl,lda,lwa,lca,sget_sset,R71,N71]
    exact fin hno _ _ (by omega)
   | some ns =>
    rw [hnr] at hrow e8
    obtain ⟨rfl,rfl⟩:=e8
    have hzl:zs.length=2:=by
     rw [numsR_two] at hnr
     split at hnr
     ·cases hnr; rfl
     ·cases hnr
    obtain ⟨za,zb,rfl⟩:∃za zb,zs=[za,zb]:=by
     match zs,hzl with
     | [x,y],_=>exact ⟨x,y,rfl⟩
    rw [Option.bind_some] at hrow
    simp only [List.getD_cons_zero,List.getD_cons_succ] at hrow
    split at hrow
    ·cases hrow
    rename_i hpos
    have ho8'':R (.func 115) [.slice a7 2 m7,.int .i64 3] H6=some ⟨.ok (.tuple #[.slice a8 2 m8,.bool true]),H8,lo8⟩:=ho8'
    have la8':isLoc (.slice a8 2 m8)=false:=s8.isLoc m8
    obtain ⟨b1,o1,i1,f1⟩:=n_at (m:=m8) s8 (i:=0) (by simp)
    replace i1:vv (.ia 1) [.slice a8 2 m8,.int .i64 0]=some (.pointer (some ⟨b1,o1,none⟩)):=i1
    replace f1:∀H',Grow H8 H'→rdO (hcells H' b1) o1 none=some (.int .i64 za):=f1
    obtain ⟨b2,o2,i2,f2⟩:=n_at (m:=m8) s8 (i:=1) (by simp)
    replace i2:vv (.ia 1) [.slice a8 2 m8,.int .i64 1]=some (.pointer (some ⟨b2,o2,none⟩)):=i2
    replace f2:∀H',Grow H8 H'→rdO (hcells H' b2) o2 none=some (.int .i64 zb):=f2
    have f18:=f1 H8 (Grow.refl _)
    have f28:=f2 H8 (Grow.refl _)
    by_cases hza:za < 0
    ·have y1:(za < 0)=True:=eq_true hza
     simp (maxDischargeDepth:=8) only [↓SD,SU,SV,SW,simprocAttr,Int.cast_ofNat_Int,small,resV, q71x0,t0,t2,t4,t5,t6,s0,s1, lt_nat,zN,hwn,la1,iar,fr,ho6',la6,hlo6,z3,vv_slc,c7',la7,ho8'',la8',hlo8,i1,f18,y1,bl,lda,lwa,lca,sget_sset,R71,N71]
     exact fin hno _ _ (by omega)
    ·have y1:(za < 0)=False:=eq_false hza
     have y2:(zb < 0)=True:=eq_true (by omega)
     simp (maxDischargeDepth:=8) only [↓SD,SU,SV,SW,simprocAttr,Int.cast_ofNat_Int,small,resV, q71x0,t0,t2,t4,t5,t6,s0,s1, lt_nat,zN,hwn,la1,iar,fr,ho6',la6,hlo6,z3,vv_slc,c7',la7,ho8'',la8',hlo8,i1,f18,i2,f28,y1,y2,bl,lda,lwa,lca,sget_sset,R71,N71]
     exact fin hno _ _ (by omega)
end Go.Pi.L.Coa
set_option maxRecDepth 100000
namespace Go.Pi.L.Coa
open Go Go.Pi Go.Pi.L Go.Pi.Coa CM Go.Pi.Q
theorem spl_set {c d:UInt8}(hd:d≠c):∀(l:List UInt8) (n:Nat) (x:UInt8),l[n]?=some x→x≠c→∃i k r,(spl c l)[i]?=some r∧r[k]?=some x∧spl c (l.set n d)=(spl c l).set i (r.set k d)
 | [],n,x,h,_=>by cases h
 | y :: l,0,x,h,hx=>by
  have e:y=x:=by simpa using h
  subst e
  rw [List.set_cons_zero,spl,spl,if_neg hx,if_neg hd]
  cases hs:spl c l with
  | nil=>exact (spl_ne c l hs).elim
  | cons z zs=>exact ⟨0,0,y :: z,rfl,rfl,rfl⟩
 | y :: l,n+1,x,h,hx=>by
  obtain ⟨i,k,r,h1,h2,h3⟩:=spl_set hd l n x (by simpa using h) hx
  rw [List.set_cons_succ,spl,spl]
  by_cases hy:y=c
  ·rw [if_pos hy,if_pos hy,h3]
   exact ⟨i+1,k,r,by simpa using h1,h2,rfl⟩
  ·rw [if_neg hy,if_neg hy,h3]
   cases hs:spl c l with
   | nil=>exact (spl_ne c l hs).elim
   | cons z zs =>
    rw [hs] at h1
    cases i with
    | zero =>
     have e:z=r:=by simpa using h1
     subst e
     exact ⟨0,k+1,y :: z,rfl,by simpa using h2,rfl⟩
    | succ i=>exact ⟨i+1,k,r,by simpa using h1,h2,rfl⟩
theorem chkR_set (i:Nat){d x:UInt8}:∀(r:List UInt8) (k m:Nat),r[k]?=some x→chkR i m (r.set k d)+x.toNat*((m+k+1)*(i+1))=chkR i m r+d.toNat*((m+k+1)*(i+1))
 | [],k,m,h=>by cases h
 | y :: r,0,m,h=>by
  have e:y=x:=by simpa using h
  subst e
  rw [List.set_cons_zero,chkR,chkR,Nat.mul_assoc,Nat.mul_assoc]; simp only [Nat.add_zero]; omega
 | y :: r,k+1,m,h=>by
  have ih:=chkR_set i r k (m+1) (d:=d) (by simpa using h)
  rw [List.set_cons_succ,chkR,chkR]
  rw [show m+(k+1)+1=m+1+k+1 by omega]; omega
theorem chkL_set {r r':List UInt8}:∀(L:List (List UInt8)) (i j:Nat),L[i]?=some r→chkL j (L.set i r')+chkR (j+i) 0 r=chkL j L+chkR (j+i) 0 r'
 | [],i,j,h=>by cases h
 | y :: L,0,j,h=>by
  have e:y=r:=by simpa using h
  subst e
  rw [List.set_cons_zero,chkL,chkL]; simp only [Nat.add_zero]; omega
 | y :: L,i+1,j,h=>by
  have ih:=chkL_set L i (j+1) (r':=r') (by simpa using h)
  rw [List.set_cons_succ,chkL,chkL]
  rw [show j+(i+1)=j+1+i by omega]; omega
theorem cop181:∀n,n < 181→0 < n→Nat.gcd 181 n=1:=by decide +kernel
theorem not_dvd {a b c:Nat}(ha:0 < a)(ha2:a < 181)(hb:0 < b)(hb2:b < 181)(hc:0 < c)(hc2:c < 181):¬181 ∣ a*(b*c):=by
 intro h
 have h1:181 ∣ b*c:=Nat.Coprime.dvd_of_dvd_mul_left (cop181 a ha2 ha) h
 have h2:181 ∣ c:=Nat.Coprime.dvd_of_dvd_mul_left (cop181 b hb2 hb) h1
 have:=Nat.le_of_dvd hc h2
 omega
def decE (l:List UInt8):Nat:=((l.getD 4 0).toNat - 48)*100+((l.getD 5 0).toNat - 48)*10+((l.getD 6 0).toNat - 48)
theorem endT_inj {c c':Nat}(h:c < 181)(h':c' < 181)(e:endT c=endT c'):c=c':=by
 have key:∀c,c < 181→decE (endT c)=c:=by decide +kernel
 rw [←key c h,←key c' h',e]
theorem spoilt {b:Sheet}(hb:NuC b){k:Nat}{x d:UInt8}(hx:(textC b)[k]?=some x)(hR:(rowsC b).length≤100)(hxd:48≤x.toNat∧x.toNat≤57)(hdd:48≤d.toNat∧d.toNat≤57)(hne:x≠d)
  (hnu:∀b',parseP ((textC b).set k d)=some b'→NuC b'):parseP ((textC b).set k d)=none:=by
 cases hp:parseP ((textC b).set k d) with
 | none=>rfl
 | some b' =>
  exfalso
  have hb':=hnu b' hp
  have ht:=(parse_some hp).2.1
  have hQ:chkL 0 (rowsC b) % 181 < 181:=Nat.mod_lt _ (by decide)
  have hQ':chkL 0 (rowsC b') % 181 < 181:=Nat.mod_lt _ (by decide)
  have hsp:=spl_text hb
  have hsp':=spl_text hb'
  have hrl0:=(rowsC_len hb).2
  have hx10:x≠10:=fun e=>by rw [e] at hxd; exact absurd hxd.1 (by decide)
  have hd10:d≠10:=fun e=>by rw [e] at hdd; exact absurd hdd.1 (by decide)
  obtain ⟨i,m,r,h1,h2,h3⟩:=spl_set hd10 (textC b) k x hx hx10
  have hil:=(List.getElem?_eq_some_iff.1 h1).1
  have hml:=(List.getElem?_eq_some_iff.1 h2).1
  rw [←ht,hsp',hsp] at h3
  rw [hsp] at h1 hil
  have hll:(rowsC b').length=(rowsC b).length:=by
   have:=congrArg List.length h3
   simp only [List.length_append,List.length_set,List.length_cons,List.length_nil] at this; omega
  rcases Nat.lt_or_ge i (rowsC b).length with hi | hi
  ·rw [List.getElem?_append_left hi] at h1
   have hrl:r.length≤20:=hrl0 r (List.mem_of_getElem? h1)
   rw [List.set_append_left _ _ hi] at h3
   obtain ⟨e1,e2⟩:=List.append_inj h3 (by rw [List.length_set]; exact hll)
   have e3:endT (chkL 0 (rowsC b') % 181)=endT (chkL 0 (rowsC b) % 181):=by simpa using e2
   have e4:=endT_inj hQ' hQ e3
   rw [e1] at e4
   have c1:=chkL_set (r':=r.set m d) (rowsC b) i 0 h1
   have c2:=chkR_set (0+i) (d:=d) r m 0 h2
   rw [Nat.zero_add,Nat.zero_add] at c2
   rw [Nat.zero_add] at c1
   have hi2:i+1 < 181:=by omega
   have hm2:m+1 < 181:=by omega
   rcases Nat.lt_or_ge x.toNat d.toNat with hlt | hge
   ·have hd:=not_dvd (a:=d.toNat - x.toNat) (b:=m+1) (c:=i+1) (by omega) (by omega) (by omega) hm2 (by omega) hi2
    rw [Nat.sub_mul] at hd
    generalize d.toNat*((m+1)*(i+1))=P at *
    generalize x.toNat*((m+1)*(i+1))=Q at *
    exact hd (Nat.dvd_of_mod_eq_zero (by omega))
   ·have hne':x.toNat≠d.toNat:=fun e=>hne (UInt8.toNat_inj.1 e)
    have hd:=not_dvd (a:=x.toNat - d.toNat) (b:=m+1) (c:=i+1) (by omega) (by omega) (by omega) hm2 (by omega) hi2
    rw [Nat.sub_mul] at hd
    generalize d.toNat*((m+1)*(i+1))=P at *
    generalize x.toNat*((m+1)*(i+1))=Q at *
    exact hd (Nat.dvd_of_mod_eq_zero (by omega))
  ·rw [List.getElem?_append_right hi] at h1
   rw [List.set_append_right _ _ hi] at h3
   obtain ⟨e1,e2⟩:=List.append_inj h3 hll
   rw [e1] at e2
   obtain ⟨q,hq⟩:∃q,i - (rowsC b).length=q:=⟨_,rfl⟩
   rw [hq] at h1 e2
   match q,h1,e2 with
   | 0,h1,e2 =>
    have er:endT (chkL 0 (rowsC b) % 181)=r:=by simpa using h1
    rw [er] at e2
    simp only [List.set_cons_zero,List.cons.injEq,and_true] at e2
    have h4:(r.set m d)[m]?=some d:=List.getElem?_set_self hml
    rw [←e2,h2] at h4
    cases h4
    exact hne rfl
   | 1,h1,e2 =>
    have er:[]=r:=by simpa using h1
    rw [←er] at h2; cases h2
   | q+2,h1,e2=>simp at h1
end Go.Pi.L.Coa
set_option maxRecDepth 100000
namespace Go.Pi.L.Coa
open Go Go.Pi Go.Pi.L Go.Pi.Coa CM Go.Pi.Q

theorem small_of {H:Heap}{r:ShR}{s:Sheet}{j:Nat}(h:ShOk H r s)(hn:NuP s j)(hj:j≤400):Small r:=by
 have h1:=hn.ln
 have h2:=hn.wl
 exact ⟨by have:=h.d.len; omega,by have:=h.w.len; omega,by have:=h.c.len; omega⟩
theorem c70n (H:Heap):R (.func 70) [.agg #[.slice none 0 0,.slice none 0 0,.slice none 0 0],.agg #[.slice none 0 0,.slice none 0 0,.slice none 0 0]] H=some ⟨.ok (.bool true),H,H.length⟩:=by
 have hb:ShOk H ⟨none,0,0,none,0,0,none,0,0⟩ ⟨[],[],[]⟩:=⟨Sl.none,Sl.none,Sl.none⟩
 exact c70 hb hb ⟨by decide,by decide,by decide⟩ H (Grow.refl _)
set_option maxHeartbeats 2000000 in
theorem c20 (s:ByteArray){H:Heap}(hF:Fam H):R (.func 20) [.string s] H=some ⟨.ok (.bool true),H,H.length⟩:=by
 rw [ba_eta s]
 obtain ⟨l,hl⟩:∃l,s.data.toList=l:=⟨_,rfl⟩
 rw [hl]
 have sl0:=vv_slen' l
 have bnil:vv (.bld [.slice none 0 0,.slice none 0 0,.slice none 0 0] []) []=some (.agg #[.slice none 0 0,.slice none 0 0,.slice none 0 0]):=by rw [vv_of (by rfl)]; rfl
 refine run_k (pr 20) P20 (by simp [p20]) rfl ?_
 by_cases h360:360 < l.length
 ·have z1:((360:Int) < ((l.length:Nat):Int))=True:=eq_true (by omega)
  simp (maxDischargeDepth:=8) only [↓SD,SU,SV,SW,simprocAttr,Int.cast_ofNat_Int,small,resV, B20,R20,N20,b20, sl0,z1,c23,R20,N20]
 have z1:((360:Int) < ((l.length:Nat):Int))=False:=eq_false (by omega)
 have hag:=read_parse (t:=l) (by omega)
 have hsl:=spl_le l
 by_cases h260:260 < l.length
 ·have z2:((260:Int) < ((l.length:Nat):Int))=True:=eq_true (by omega)
  have k68:=c68l h260 H
  obtain ⟨o,k71,hq⟩:=c71 l (by omega) H hF
  unfold QRd at hq
  cases hr:readR l with
  | none =>
   rw [hr] at hq
   subst hq
   have k70:=c70n H
   simp (maxDischargeDepth:=8) only [↓SD,SU,SV,SW,simprocAttr,Int.cast_ofNat_Int,small,resV, B20,R20,N20,b20, sl0,z1,z2,k68,k71,bnil,k70,c23,R20,N20]
  | some b =>
   rw [hr] at hq
   obtain ⟨r,H1,lo1,rfl,u1,hlo1,hbe⟩:=hq
   have l1:=hbe.d.isLoc r.dk
   have l2:=hbe.w.isLoc r.wk
   have l3:=hbe.c.isLoc r.ck
   have h1:=u1.len
   have k70:=c70n H1
   simp (maxDischargeDepth:=8) only [↓SD,SU,SV,SW,simprocAttr,Int.cast_ofNat_Int,small,resV, B20,R20,N20,b20, sl0,z1,z2,k68,k71,l1,l2,l3,bnil,k70,c23,R20,N20]
   first | (rw [gc_ite (by omega)]; simp [flat]; done) | (simp [gcR,flat]; omega)
 have z2:((260:Int) < ((l.length:Nat):Int))=False:=eq_false (by omega)
 cases hp:parseP l with
 | none =>
  have k68:=c68t (by omega) hp H hF
  obtain ⟨o,k71,hq⟩:=c71 l (by omega) H hF
  unfold QRd at hq
  rw [hag,hp] at hq
  subst hq
  have k70:=c70n H
  simp (maxDischargeDepth:=8) only [↓SD,SU,SV,SW,simprocAttr,Int.cast_ofNat_Int,small,resV, B20,R20,N20,b20, sl0,z1,z2,k68,k71,bnil,k70,c23,R20,N20]
 | some b =>
  have hnp:=parse_nup hp
  cases hB:isSheet b with
  | false =>
   have k68:=c68a (by omega) hp hB H hF
   obtain ⟨o,k71,hq⟩:=c71 l (by omega) H hF
   unfold QRd at hq
   rw [hag,hp] at hq
   obtain ⟨r,H1,lo1,rfl,u1,hlo1,hbe⟩:=hq
   have l1:=hbe.d.isLoc r.dk
   have l2:=hbe.w.isLoc r.wk
   have l3:=hbe.c.isLoc r.ck
   have h1:=u1.len
   have k25:=c25 hbe (small_of hbe hnp (by omega)) H1 (Grow.refl _)
   rw [hB] at k25
   have k70:=c70n H1
   simp (maxDischargeDepth:=8) only [↓SD,SU,SV,SW,simprocAttr,Int.cast_ofNat_Int,small,resV, B20,R20,N20,b20, sl0,z1,z2,k68,k71,l1,l2,l3,k25,bnil,k70,c23,R20,N20]
   first | (rw [gc_ite (by omega)]; simp [flat]; done) | (simp [gcR,flat]; omega)
  | true =>
   obtain ⟨rr,H1,lo1,k68,u1,hlo1,hbp⟩:=c68 (by omega) hp hB H hF
   have hF1:Fam H1:=famR k68 hF
   obtain ⟨o,k71,hq⟩:=c71 l (by omega) H1 hF1
   unfold QRd at hq
   rw [hag,hp] at hq
   obtain ⟨r,H2,lo2,rfl,u2,hlo2,hbe⟩:=hq
   have l1:=hbe.d.isLoc r.dk
   have l2:=hbe.w.isLoc r.wk
   have l3:=hbe.c.isLoc r.ck
   have l4:=hbp.d.isLoc rr.dk
   have l5:=hbp.w.isLoc rr.wk
   have l6:=hbp.c.isLoc rr.ck
   have h1:=u1.len
   have h2:=u2.len
   have hbp2:=hbp.grow u2.grow
   have k25:=c25 hbe (small_of hbe hnp (by omega)) H2 (Grow.refl _)
   rw [hB] at k25
   have k67:=c67 hbp2 (small_of hbp2 hnp (by omega)) H2 (Grow.refl _)
   rw [hB,if_pos rfl,(parse_some hp).2.1] at k67
   have k70:=c70 hbp2 hbe (small_of hbp2 hnp (by omega)) H2 (Grow.refl _)
   have seq:=vv_seq' l l
   rw [decide_eq_true rfl] at seq
   simp (maxDischargeDepth:=8) only [↓SD,SU,SV,SW,simprocAttr,Int.cast_ofNat_Int,small,resV, B20,R20,N20,b20, sl0,z1,z2,k68,k71,l1,l2,l3,l4,l5,l6,k25,k67,k70,seq,c23,R20,N20]
   first | (rw [gc_ite (by omega)]; simp [flat]; done) | (simp [gcR,flat]; omega)
end Go.Pi.L.Coa
set_option maxRecDepth 100000
namespace Go.Pi.L.Coa
open Go Go.Pi Go.Pi.L Go.Pi.Coa CM Go.Pi.Q
def encB (b:UInt8):List Value:=[.int .u8 ((b.toNat:Nat):Int)]
theorem encB_len:∀b,(encB b).length=1:=fun _=>rfl
theorem bytes_enc:∀l:List UInt8,bytesOf (cells encB l)=some l
 | []=>rfl
 | x :: l=>by
  have ih:=bytes_enc l
  have e:cells encB (x :: l)=.int .u8 ((x.toNat:Nat):Int) :: cells encB l:=rfl
  rw [e,bytesOf,ih]
  simp
theorem s2b_enc {l:List UInt8}(h:l.length < 1000):s2bA (.string ⟨l.toArray⟩)=some ⟨.cells (cells encB l),true,fun i=>.slice (some ⟨i,0,none⟩) l.length 1⟩:=by
 have hs:(⟨l.toArray⟩:ByteArray).size=l.length:=rfl
 unfold s2bA
 simp only
 rw [if_pos (by rw [hs]; exact Nat.lt_trans h (by decide)),hs]
 have e:∀l:List UInt8,(l.map fun b=>Value.int .u8 ((b.toNat:Nat):Int))=cells encB l:=by
  intro l
  induction l with
  | nil=>rfl
  | cons x l ih=>rw [List.map_cons,ih]; rfl
 rw [←e]
theorem c21 {H:Heap}{r:ShR}{s:Sheet}{at_ dg:Int}(hs:ShOk H r s)(hF:Fam H):R (.func 21) [.agg #[.slice r.da r.dl r.dk,.slice r.wa r.wl r.wk,.slice r.ca r.cl r.ck],.int .i64 at_,.int .i64 dg] H=some ⟨.ok (.bool true),H,H.length⟩:=by
 refine run_k (pr 21) P21 (by simp [p21]) rfl ?_
 have l1:=hs.d.isLoc r.dk
 have l2:=hs.w.isLoc r.wk
 have l3:=hs.c.isLoc r.ck
 have k22:=c22 hs H
 cases q1:isShort r with
 | false=>rw [q1] at k22; simp (maxDischargeDepth:=8) only [↓SD,SU,SV,SW,simprocAttr,Int.cast_ofNat_Int,small,resV, B21,R21,N21,b21, l1,l2,l3,k22,c23,R21,N21]
 | true =>
 rw [q1] at k22
 have hd:=short_small q1
 have k25:=c25 hs hd H (Grow.refl _)
 cases hB:isSheet s with
 | false=>rw [hB] at k25; simp (maxDischargeDepth:=8) only [↓SD,SU,SV,SW,simprocAttr,Int.cast_ofNat_Int,small,resV, B21,R21,N21,b21, l1,l2,l3,k22,k25,c23,R21,N21]
 | true =>
 rw [hB] at k25
 have k67:=c67 hs hd H (Grow.refl _)
 rw [hB,if_pos rfl] at k67
 obtain ⟨hnb,hwk,hT⟩:=sheet_nu hB
 have hRc:(rowsC s).length≤100:=by
  have h1:(rowsC s).length=s.dry.length+s.coats.length:=by unfold rowsC; rw [List.length_map,rws_len]
  unfold isSheet at hB
  simp only [Bool.and_eq_true,inL_iff] at hB
  omega
 by_cases hg0:dg < 0
 ·have z1:(dg < 0)=True:=eq_true hg0
  simp (maxDischargeDepth:=8) only [↓SD,SU,SV,SW,simprocAttr,Int.cast_ofNat_Int,small,resV, B21,R21,N21,b21, l1,l2,l3,k22,k25,z1,c23,R21,N21]
 have z1:(dg < 0)=False:=eq_false hg0
 by_cases hg9:9 < dg
 ·have z2:(9 < dg)=True:=eq_true hg9
  simp (maxDischargeDepth:=8) only [↓SD,SU,SV,SW,simprocAttr,Int.cast_ofNat_Int,small,resV, B21,R21,N21,b21, l1,l2,l3,k22,k25,z1,z2,c23,R21,N21]
 have z2:(9 < dg)=False:=eq_false hg9
 by_cases ha0:at_ < 0
 ·have z3:(at_ < 0)=True:=eq_true ha0
  simp (maxDischargeDepth:=8) only [↓SD,SU,SV,SW,simprocAttr,Int.cast_ofNat_Int,small,resV, B21,R21,N21,b21, l1,l2,l3,k22,k25,z1,z2,k67,z3,c23,R21,N21]
 obtain ⟨k,rfl⟩:∃k:Nat,at_=k:=⟨at_.toNat,by omega⟩
 have z3:(((k:Nat):Int) < 0)=False:=eq_false ha0
 obtain ⟨t,ht⟩:∃t,textC s=t:=⟨_,rfl⟩
 rw [ht] at k67 hT
 have sl0:=vv_slen' t
 by_cases hkl:t.length≤k
 ·have z4:(((t.length:Nat):Int)≤((k:Nat):Int))=True:=eq_true (by omega)
  have z4':(((k:Nat):Int)≥((t.length:Nat):Int))=True:=z4
  simp (maxDischargeDepth:=8) only [↓SD,SU,SV,SW,simprocAttr,Int.cast_ofNat_Int,small,resV, B21,R21,N21,b21, l1,l2,l3,k22,k25,z1,z2,k67,z3,sl0,z4,z4',c23,R21,N21]
 have z4:(((t.length:Nat):Int)≤((k:Nat):Int))=False:=eq_false (by omega)
 have z4':(((k:Nat):Int)≥((t.length:Nat):Int))=False:=z4
 obtain ⟨x,hx⟩:∃x,t[k]?=some x:=⟨_,List.getElem?_eq_getElem (by omega)⟩
 have ix:=vv_ix' t .i64 k x hx
 by_cases h48:x.toNat < 48
 ·have y4:(((x.toNat:Nat):Int) < 48)=True:=eq_true (by omega)
  simp (maxDischargeDepth:=8) only [↓SD,SU,SV,SW,simprocAttr,Int.cast_ofNat_Int,small,resV, B21,R21,N21,b21, l1,l2,l3,k22,k25,z1,z2,k67,z3,sl0,z4,z4',ix,y4,c23,R21,N21]
 have y4:(((x.toNat:Nat):Int) < 48)=False:=eq_false (by omega)
 by_cases h57:57 < x.toNat
 ·have y5:((57:Int) < ((x.toNat:Nat):Int))=True:=eq_true (by omega)
  simp (maxDischargeDepth:=8) only [↓SD,SU,SV,SW,simprocAttr,Int.cast_ofNat_Int,small,resV, B21,R21,N21,b21, l1,l2,l3,k22,k25,z1,z2,k67,z3,sl0,z4,z4',ix,y4,y5,c23,R21,N21]
 have y5:((57:Int) < ((x.toNat:Nat):Int))=False:=eq_false (by omega)
 have m2:=wrap8 (x:=x.toNat) (by omega) x.toNat_lt
 have m3:IntKind.wrap .i64 ((x.toNat - 48:Nat):Int)=((x.toNat - 48:Nat):Int):=wrapN (by omega)
 by_cases heq:((x.toNat - 48:Nat):Int)=dg
 ·have y6:(((x.toNat - 48:Nat):Int)=dg)=True:=eq_true heq
  simp (maxDischargeDepth:=8) only [↓SD,SU,SV,SW,simprocAttr,Int.cast_ofNat_Int,small,resV, B21,R21,N21,b21, l1,l2,l3,k22,k25,z1,z2,k67,z3,sl0,z4,z4',ix,y4,y5,m2,m3,y6,c23,R21,N21]
 have y6:(((x.toNat - 48:Nat):Int)=dg)=False:=eq_false heq
 obtain ⟨g,rfl⟩:∃g:Nat,dg=g:=⟨dg.toNat,by omega⟩
 have w1:IntKind.wrap .i64 (48+((g:Nat):Int))=((48+g:Nat):Int):=by rw [wrap_id _ (by omega) (by omega)]; omega
 have w2:IntKind.wrap .u8 ((48+g:Nat):Int)=((48+g:Nat):Int):=by unfold IntKind.wrap; simp [IntKind.bits,IntKind.signed]; omega
 obtain ⟨d,hd0⟩:∃d:UInt8,d.toNat=48+g:=⟨UInt8.ofNat (48+g),by simp; omega⟩
 have hne:x≠d:=fun e=>by rw [e] at heq; omega
 have s2:=s2b_enc (l:=t) (by omega)
 obtain ⟨Hb,hHb⟩:∃Hb,H++[(⟨.cells (cells encB t),true,true,some H.length⟩:Blk)]=Hb:=⟨_,rfl⟩
 have lb:Hb.length=H.length+1:=by rw [←hHb]; simp
 have hFb:Fam Hb:=by rw [←hHb]; exact Fam.app1 hF (Nat.le_refl _)
 have bd:Bld H.length Hb 1 (some ⟨H.length,0,none⟩) t.length 1 (cells encB t) :=
  ⟨by rw [cells_len encB_len],.inr ⟨H.length,H.length,rfl,rfl,Nat.le_refl _,Nat.le_refl _,by rw [←hHb,List.getElem?_append_right (Nat.le_refl _),Nat.sub_self]; rfl⟩⟩
 obtain ⟨H2,f,hf0,hf1,p1,p2,p3,p4,p5,_⟩:=bd.put hFb (i:=k) (by omega) (v:=.int .u8 ((48+g:Nat):Int)) rfl rfl rfl
 have iap:vv (.ia 1) [.slice (some ⟨H.length,0,none⟩) t.length 1,.int .i64 (k:Nat)]=some (.pointer (some ⟨H.length,0+k*1,none⟩)):=vv_iaN 1 _ 0 k _ _ _ (by omega)
 rw [Nat.zero_add] at iap
 have hset:splice (cells encB t) (k*1) (Value.int .u8 ((48+g:Nat):Int)).cells.toList=cells encB (t.set k d):=by
  have e1:(Value.int .u8 ((48+g:Nat):Int)).cells.toList=encB d:=by unfold encB; rw [hd0]; rfl
  rw [e1,splice_cells encB_len d (by omega)]
 rw [hset] at p2
 have sl2:=p2.sl encB_len (by decide)
 have qe:=fun T S D lo n rnd=>sl2.elems encB_len (by decide) 1 T S D lo n rnd
 have hby:Option.map (fun bs=>Value.string { data:=List.toArray bs }) ((some (cells encB (t.set k d))).bind bytesOf)=some (.string ⟨(t.set k d).toArray⟩):=by
  rw [Option.bind_some,bytes_enc]; rfl
 have hsl:(t.set k d).length≤260:=by rw [List.length_set]; exact hT
 have hno:parseP (t.set k d)=none:=by
  rw [←ht] at hx hT hsl ⊢
  exact spoilt hnb hx hRc ⟨by omega,by omega⟩ ⟨by omega,by omega⟩ hne fun b' hb'=>parse_nu (by rw [List.length_set]; omega) hb'
 have k68:=c68t hsl hno H2 p3
 have k70:=c70n H2
 have bnil:vv (.bld [.slice none 0 0,.slice none 0 0,.slice none 0 0] []) []=some (.agg #[.slice none 0 0,.slice none 0 0,.slice none 0 0]):=by rw [vv_of (by rfl)]; rfl
 simp (maxDischargeDepth:=8) only [↓SD,SU,SV,SW,simprocAttr,Int.cast_ofNat_Int,small,resV, B21,R21,N21,b21, l1,l2,l3,k22,k25,z1,z2,k67,z3,sl0,z4,z4',ix,y4,y5,m2,m3,y6,w1,w2,g_s2b,s2,hHb,iap,p1,g_b2s,b2sV,qe,hby,k68,bnil,k70,c23,R21,N21]
 first | (rw [gc_ite (by omega)]; simp [flat]; done) | (simp [gcR,flat]; omega)
end Go.Pi.L.Coa
