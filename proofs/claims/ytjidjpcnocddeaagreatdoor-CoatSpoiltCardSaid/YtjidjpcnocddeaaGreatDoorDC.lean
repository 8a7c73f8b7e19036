/- Coats: the text of a sheet, as the program writes it. -/
import Derived.Test.YtjidjpcnocddeaaGreatDoorDB
set_option linter.all false
set_option maxRecDepth 100000
namespace Go.Pi.L.Coa
open Go Go.Pi Go.Pi.L Go.Pi.Coa CM Go.Pi.Q

theorem any_mem (v:Int)(xs:List Int):(xs.any fun d=>decide (v=d))=decide (v∈xs):=by
 rw [Bool.eq_iff_iff]; simp
set_option maxHeartbeats 4000000 in
theorem c108 {H:Heap}{r:ShR}{s:Sheet}(hs:ShOk H r s)(hn:NuC s)(hwl:r.wl < 1000000):∀H',Grow H H'→R (.func 108) [.agg #[.slice r.da r.dl r.dk,.slice r.wa r.wl r.wk,.slice r.ca r.cl r.ck]] H'=some ⟨.ok (.string ⟨(textC s).toArray⟩),H',H'.length⟩:=by
 intro H' hg
 obtain ⟨hR1,hR2⟩:=rowsC_len hn
 obtain ⟨da,dl,dk,wa,wl,wk,ca,cl,ck⟩:=r
 have hD:Spans H da dl s.dry:=hs.d
 have hW:Ints H wa wl s.work:=hs.w
 have hC:Spans H ca cl s.coats:=hs.c
 have hdl:=hD.len
 have hcl:=hC.len
 have hnn:=hn.n
 have nW:wl < 1000000:=hwl
 have l1:=hD.isLoc dk
 have l2:=hW.isLoc wk
 have l3:=hC.isLoc ck
 refine run_k (pr 108) P108 (by simp [p108]) rfl ?_
 simp (maxDischargeDepth:=8) only [↓SD,SU,SV,SW,simprocAttr,Int.cast_ofNat_Int,small,resV, B108,R108,N108,b108, l1,l2,l3]
 refine loop_ind (G:=(·=_)) (fun j σ=>∃T S H3 al m lim,σ=⟨T,S,[],H3,lim,97,false⟩∧get T 1=.pointer (some ⟨1,0,some 1⟩)∧get T 3=.slice al j m∧get T 15=.slice da dl dk∧get T 16=.int .i64 dl∧get T 17=.int .i64 (j:Nat)∧sget S 1=(1,.cells [.slice da dl dk,.slice wa wl wk,.slice ca cl ck])∧(Bld H'.length H3 1 al j m (cells encR ((dayR s).take j))∧Up H' H3∧H'.length≤lim)) (dl) ?_ ?_ 0 _ (Nat.zero_le _) ⟨_,_,_,_,_,_,rfl,rfl,rfl,rfl,rfl,rfl,rfl,⟨Bld.nil _ _ _,Up.refl _,Nat.le_refl _⟩⟩
 ·rintro c' j s hj ⟨T,S,H3,al,m,lim,rfl,t1,t3,t15,t16,t17,s0,hp⟩ ih
  obtain ⟨hbd,hu,hlim⟩:=hp
  have hw:=wrap_succ j (by omega)
  have l8:isLoc (.slice al j m)=false:=hbd.isLoc _ _
  have hul:=hu.len
  obtain ⟨b1,o1,d,hda,hd1,fd,fd0,fd1⟩:=hD.s2 hj
  have fd:=fd H3 (hg.trans hu.grow)
  have k126:=c126 (kk:=wk) ((j:Nat):Int) hW nW H3 (hg.trans hu.grow)
  rw [any_mem] at k126
  obtain ⟨y,hy⟩:∃y,decide (((j:Nat):Int)∈s.work)=y:=⟨_,rfl⟩
  rw [hy] at k126
  have hrj:=dayR_get hd1
  rw [hy] at hrj
  have iad:vv (.ia 2) [.slice da dl dk,.int .i64 (j:Nat)]=some (.pointer (some ⟨b1,o1+j*2,none⟩)):=by rw [hda]; exact vv_iaN 2 b1 o1 j _ _ _ hj
  have bld:vv (.bld [.int .i64 0,.int .i64 0,.bool false] [(0,2),(2,1)]) [.agg #[.int .i64 d.1,.int .i64 d.2],.bool y]=some (.agg #[.int .i64 d.1,.int .i64 d.2,.bool y]):=by rw [vv_of (by rfl)]; rfl
  have mk1:vv (.mki 149) [.agg #[.int .i64 d.1,.int .i64 d.2,.bool y]]=some (.iface 149 (.agg #[.int .i64 d.1,.int .i64 d.2,.bool y])):=by rw [vv_of (by rfl)]; rfl
  obtain ⟨H6,p1,p2,p3,p4⟩:=hbd.app (by decide) (by decide) (by omega) hul [.iface 149 (.agg #[.int .i64 d.1,.int .i64 d.2,.bool y])] rfl
  have u6:=p3.up hbd hu (Nat.le_refl _)
  have hl6:=u6.len
  have hcl:cells encR ((dayR s).take (j+1))=cells encR ((dayR s).take j)++[.iface 149 (.agg #[.int .i64 d.1,.int .i64 d.2,.bool y])]:=by
   rw [take_get hrj,cells_app]; rfl
  simp (maxDischargeDepth:=8) only [↓SD,SU,SV,SW,simprocAttr,Int.cast_ofNat_Int,small,resV, q108x3,t1,t3,t15,t16,t17,s0, s0,lt_nat,hj,l1,l2,l3,l8,iad,fd,k126,bld,mk1,hw,p1,sget_sset]
  exact ih _ ⟨_,_,(H6),(some ⟨H3.length,0,none⟩),(1),(_),rfl,(by simp [get_set,t1] <;> omega),(by simp [get_set,t3] <;> omega),(by simp [get_set,t15] <;> omega),(by simp [get_set,t16] <;> omega),(by simp [get_set,t17] <;> omega),by simp [sget_sset,s0],⟨by rw [hcl]; exact p2,u6,by omega⟩⟩
 ·rintro c' s ⟨T,S,H3,al,m,lim,rfl,t1,t3,t15,t16,t17,s0,hp⟩
  obtain ⟨hbd,hu,hlim⟩:=hp
  have l8:isLoc (.slice al dl m)=false:=hbd.isLoc _ _
  rw [List.take_of_length_le (by rw [dayR_len]; omega)] at hbd
  simp (maxDischargeDepth:=8) only [↓SD,SU,SV,SW,simprocAttr,Int.cast_ofNat_Int,small,resV, q108x3,t1,t3,t15,t16,t17,s0, s0,lt_nat,Nat.lt_irrefl,l1,l2,l3,l8,sget_sset]
  have hbd0:Bld H'.length H3 1 al dl m (cells encR (dayR s++(s.coats.take 0).map fun c=>((c,none):Rw))):=by rw [List.take_zero,List.map_nil,List.append_nil]; exact hbd
  refine loop_ind (G:=(·=_)) (fun j σ=>∃T S H4 al2 c m2 lim2,σ=⟨T,S,[],H4,lim2,97,false⟩∧get T 1=.pointer (some ⟨1,0,some 1⟩)∧get T 3=.slice al2 c m2∧get T 34=.slice ca cl ck∧get T 35=.int .i64 cl∧get T 36=.int .i64 (j:Nat)∧sget S 1=(1,.cells [.slice da dl dk,.slice wa wl wk,.slice ca cl ck])∧(c=dl+j∧Bld H'.length H4 1 al2 c m2 (cells encR (dayR s++(s.coats.take j).map fun c=>((c,none):Rw)))∧Up H' H4∧H'.length≤lim2)) (cl) ?_ ?_ 0 _ (Nat.zero_le _) ⟨_,_,_,_,_,_,_,rfl,(by first | (simp [get_set,t1,t3,t15,t16,t17]; done) | rfl),(by first | (simp [get_set,t1,t3,t15,t16,t17]; done) | rfl),(by first | (simp [get_set,t1,t3,t15,t16,t17]; done) | rfl),(by first | (simp [get_set,t1,t3,t15,t16,t17]; done) | rfl),(by first | (simp [get_set,t1,t3,t15,t16,t17]; done) | rfl),(by first | rfl | exact s0),⟨(show dl=dl+0 from rfl),hbd0,hu,by omega⟩⟩
  ·rintro c' j s hj ⟨T,S,H4,al2,c,m2,lim2,rfl,t1,t3,t34,t35,t36,s0,hp⟩ ih
   obtain ⟨rfl,hbd,hu,hlim⟩:=hp
   have hw:=wrap_succ j (by omega)
   have l8:isLoc (.slice al2 (dl+j) m2)=false:=hbd.isLoc _ _
   have hul:=hu.len
   obtain ⟨b1,o1,d,hda,hd1,fd,fd0,fd1⟩:=hC.s2 hj
   have fd:=fd H4 (hg.trans hu.grow)
   have iad:vv (.ia 2) [.slice ca cl ck,.int .i64 (j:Nat)]=some (.pointer (some ⟨b1,o1+j*2,none⟩)):=by rw [hda]; exact vv_iaN 2 b1 o1 j _ _ _ hj
   have bld:vv (.bld [.int .i64 0,.int .i64 0] [(0,2)]) [.agg #[.int .i64 d.1,.int .i64 d.2]]=some (.agg #[.int .i64 d.1,.int .i64 d.2]):=by rw [vv_of (by rfl)]; rfl
   have mk1:vv (.mki 151) [.agg #[.int .i64 d.1,.int .i64 d.2]]=some (.iface 151 (.agg #[.int .i64 d.1,.int .i64 d.2])):=by rw [vv_of (by rfl)]; rfl
   obtain ⟨H6,p1,p2,p3,p4⟩:=hbd.app (by decide) (by decide) (by omega) hul [.iface 151 (.agg #[.int .i64 d.1,.int .i64 d.2])] rfl
   have u6:=p3.up hbd hu (Nat.le_refl _)
   have hl6:=u6.len
   have hcl:cells encR (dayR s++(s.coats.take (j+1)).map fun c=>((c,none):Rw))=cells encR (dayR s++(s.coats.take j).map fun c=>((c,none):Rw))++[.iface 151 (.agg #[.int .i64 d.1,.int .i64 d.2])]:=by
    rw [take_get hd1,List.map_append,List.map_singleton,←List.append_assoc,cells_app]; rfl
   simp (maxDischargeDepth:=8) only [↓SD,SU,SV,SW,simprocAttr,Int.cast_ofNat_Int,small,resV, q108x2,t1,t3,t34,t35,t36,s0, s0,lt_nat,hj,l1,l2,l3,l8,iad,fd,bld,mk1,hw,p1,sget_sset]
   exact ih _ ⟨_,_,(H6),(some ⟨H4.length,0,none⟩),(dl+j+1),(1),(_),rfl,(by simp [get_set,t1] <;> omega),(by simp [get_set,t3] <;> omega),(by simp [get_set,t34] <;> omega),(by simp [get_set,t35] <;> omega),(by simp [get_set,t36] <;> omega),by simp [sget_sset,s0],⟨by omega,by rw [hcl]; exact p2,u6,by omega⟩⟩
  ·rintro c' s ⟨T,S,H4,al2,c,m2,lim2,rfl,t1,t3,t34,t35,t36,s0,hp⟩
   obtain ⟨rfl,hbd,hu,hlim⟩:=hp
   rw [List.take_of_length_le (by omega),show (dayR s++s.coats.map fun c=>((c,none):Rw))=rws s from rfl] at hbd
   obtain ⟨N,hN⟩:∃N,dl+cl=N:=⟨_,rfl⟩
   rw [hN] at hbd
   have hRN:(rws s).length=N:=by rw [←hN,rws_len]; omega
   have hRC:(rowsC s).length=N:=by unfold rowsC; rw [List.length_map,hRN]
   have l9:isLoc (.slice al2 N m2)=false:=hbd.isLoc _ _
   have hrw:=hbd.sl encR_len (by decide)
   have hul:=hu.len
   have hnu:=rws_num hn
   rw [hN] at t3
   simp (maxDischargeDepth:=8) only [↓SD,SU,SV,SW,simprocAttr,Int.cast_ofNat_Int,small,resV, q108x2,t1,t3,t34,t35,t36,s0, s0,lt_nat,Nat.lt_irrefl,l1,l2,l3,l9,sget_sset]
   refine loop_ind (G:=(·=_)) (fun j σ=>∃T S C out lim3,σ=⟨T,S,[],H4,lim3,97,false⟩∧get T 3=.slice al2 N m2∧get T 8=.string ⟨out.toArray⟩∧get T 9=.int .i64 ((C:Nat):Int)∧get T 47=.slice al2 N m2∧get T 48=.int .i64 N∧get T 49=.int .i64 (j:Nat)∧(C=chkL 0 ((rowsC s).take j)∧out=flatT ((rowsC s).take j)∧H'.length≤lim3)) (N) ?_ ?_ 0 _ (Nat.zero_le _) ⟨_,_,_,_,_,rfl,(by first | (simp [get_set,t1,t3,t34,t35,t36]; done) | rfl),(by first | (simp [get_set,t1,t3,t34,t35,t36]; done) | rfl),(by first | (simp [get_set,t1,t3,t34,t35,t36]; done) | rfl),(by first | (simp [get_set,t1,t3,t34,t35,t36]; done) | rfl),(by first | (simp [get_set,t1,t3,t34,t35,t36]; done) | rfl),(by first | (simp [get_set,t1,t3,t34,t35,t36]; done) | rfl),⟨(show 0=chkL 0 ((rowsC s).take 0) from rfl),(show []=flatT ((rowsC s).take 0) from rfl),by omega⟩⟩
   ·rintro c' j s hj ⟨T,S,C,out,lim3,rfl,t3,t8,t9,t47,t48,t49,hp⟩ ih
    obtain ⟨hC0,hout,hlim3⟩:=hp
    have ihO:=ih
    clear ih
    have hw:=wrap_succ j (by omega)
    obtain ⟨b1,o1,x0,hRa,hx0,hat⟩:=hrw.at encR_len (by decide) hj
    have fR:rdO (hcells H4 b1) (o1+j*1) none=some (valR x0):=At.v0 hat H4 (Grow.refl _)
    have iaR:vv (.ia 1) [.slice al2 N m2,.int .i64 (j:Nat)]=some (.pointer (some ⟨b1,o1+j*1,none⟩)):=by rw [hRa]; exact vv_iaN 1 b1 o1 j _ _ _ hj
    have lx0:isLoc (valR x0)=false:=by obtain ⟨p,o⟩:=x0; cases o <;> rfl
    have k140:=c140 (hnu x0 (List.mem_of_getElem? hx0)) H4
    obtain ⟨R0,hR0e⟩:∃R0,rowT x0=R0:=⟨_,rfl⟩
    have hR0:(rowsC s)[j]?=some R0:=by unfold rowsC; rw [List.getElem?_map,hx0,←hR0e]; rfl
    rw [hR0e] at k140
    obtain ⟨vx,hvx⟩:∃vx,valR x0=vx:=⟨_,rfl⟩
    rw [hvx] at fR lx0 k140
    have hRl:=hR2 R0 (List.mem_of_getElem? hR0)
    have hol:out.length≤400*21:=by
     rw [hout]
     refine Nat.le_trans (flatT_len fun x hx=>hR2 x (List.mem_of_mem_take hx)) ?_
     refine Nat.mul_le_mul_right _ ?_
     rw [List.length_take]; omega
    have sl0:=vv_slen' R0
    have s1:=vv_sadd R0 [10] (by simp; omega)
    have s2:=vv_sadd out (R0++[10]) (by simp; omega)
    have hCb:C≤255*1100*700*1100*700:=by
     rw [hC0]
     refine Nat.le_trans (chkL_le _ 0 (fun x hx=>by have:=hR2 x (List.mem_of_mem_take hx); omega) (by rw [List.length_take]; omega)) ?_
     refine Nat.mul_le_mul_left _ ?_
     rw [List.length_take]; omega
    simp (maxDischargeDepth:=8) only [↓SD,SU,SV,SW,simprocAttr,Int.cast_ofNat_Int,small,resV, q108x1,t3,t8,t9,t47,t48,t49, lt_nat,hj,l9,lx0,iaR,fR,k140,sl0,sget_sset]
    obtain ⟨j0,hj0⟩:∃j0,j0=j:=⟨_,rfl⟩
    subst hj0
    obtain ⟨M,hM⟩:∃M,R0.length=M:=⟨_,rfl⟩
    rw [hM]
    refine loop_ind (G:=(·=_)) (fun j σ=>∃T S D lim4,σ=⟨T,S,[],H4,lim4,97,false⟩∧get T 3=.slice al2 N m2∧get T 8=.string ⟨out.toArray⟩∧get T 9=.int .i64 ((D:Nat):Int)∧get T 10=.int .i64 (j0:Nat)∧get T 12=.string ⟨R0.toArray⟩∧get T 47=.slice al2 N m2∧get T 48=.int .i64 N∧get T 49=.int .i64 (j0:Nat)∧get T 57=.int .i64 M∧get T 58=.int .i64 (j:Nat)∧(D=C+chkR j0 0 (R0.take j)∧H'.length≤lim4)) (M) ?_ ?_ 0 _ (Nat.zero_le _) ⟨_,_,_,_,rfl,(by first | (simp [get_set,t3,t8,t9,t47,t48,t49]; done) | rfl),(by first | (simp [get_set,t3,t8,t9,t47,t48,t49]; done) | rfl),(by first | (simp [get_set,t3,t8,t9,t47,t48,t49]; done) | rfl),(by first | (simp [get_set,t3,t8,t9,t47,t48,t49]; done) | rfl),(by first | (simp [get_set,t3,t8,t9,t47,t48,t49]; done) | rfl),(by first | (simp [get_set,t3,t8,t9,t47,t48,t49]; done) | rfl),(by first | (simp [get_set,t3,t8,t9,t47,t48,t49]; done) | rfl),(by first | (simp [get_set,t3,t8,t9,t47,t48,t49]; done) | rfl),(by first | (simp [get_set,t3,t8,t9,t47,t48,t49]; done) | rfl),(by first | (simp [get_set,t3,t8,t9,t47,t48,t49]; done) | rfl),⟨(show C=C+chkR j0 0 (R0.take 0) from rfl),by omega⟩⟩
    ·rintro c' j s hj ⟨T,S,D,lim4,rfl,t3,t8,t9,t10,t12,t47,t48,t49,t57,t58,hp⟩ ih
     obtain ⟨hD0,hlim4⟩:=hp
     have hw2:=wrap_succ j (by omega)
     obtain ⟨x,hx⟩:∃x,R0[j]?=some x:=⟨_,List.getElem?_eq_getElem (by omega)⟩
     have ix:=vv_ix' R0 .i64 j x hx
     have hx8:x.toNat≤255:=by have:=x.toNat_lt; omega
     have hm1:IntKind.wrap .i64 (((x.toNat:Nat):Int)*((j+1:Nat):Int))=((x.toNat*(j+1):Nat):Int):=by
      rw [←Int.natCast_mul]
      exact wrapN (Nat.lt_of_le_of_lt (Nat.mul_le_mul hx8 (show j+1≤1100 by omega)) (by omega))
     have hm2:IntKind.wrap .i64 (((x.toNat*(j+1):Nat):Int)*((j0+1:Nat):Int))=((x.toNat*(j+1)*(j0+1):Nat):Int):=by
      rw [←Int.natCast_mul]
      exact wrapN (Nat.lt_of_le_of_lt (Nat.mul_le_mul (Nat.mul_le_mul hx8 (show j+1≤1100 by omega)) (show j0+1≤700 by omega)) (by omega))
     have hDb:D≤255*1100*700*1100*701:=by
      rw [hD0]
      have h1:=chkR_le j0 (R0.take j) 0 (by rw [List.length_take]; omega) (by omega)
      have h2:(R0.take j).length≤1100:=by rw [List.length_take]; omega
      have h3:=Nat.mul_le_mul_left (255*1100*700) h2
      omega
     have hp1:x.toNat*(j+1)*(j0+1)≤255*1100*700:=Nat.mul_le_mul (Nat.mul_le_mul hx8 (show j+1≤1100 by omega)) (show j0+1≤700 by omega)
     have hp2:IntKind.wrap .i64 (((D:Nat):Int)+((x.toNat*(j+1)*(j0+1):Nat):Int))=((D+x.toNat*(j+1)*(j0+1):Nat):Int):=by
      rw [←Int.natCast_add]
      exact wrapN (Nat.lt_of_le_of_lt (Nat.add_le_add hDb hp1) (by omega))
     have hcv:=vv_cvI .u8 .i64 ((x.toNat:Nat):Int) (wrapN (by omega))
     simp (maxDischargeDepth:=8) only [↓SD,SU,SV,SW,simprocAttr,Int.cast_ofNat_Int,small,resV, q108x0,t3,t8,t9,t10,t12,t47,t48,t49,t57,t58, lt_nat,hj,l9,ix,hcv,hw,hw2,hm1,hm2,hp2,sget_sset]
     exact ih _ ⟨_,_,(D+x.toNat*(j+1)*(j0+1)),(_),rfl,(by simp [get_set,t3] <;> omega),(by simp [get_set,t8] <;> omega),(by simp [get_set,t9] <;> omega),(by simp [get_set,t10] <;> omega),(by simp [get_set,t12] <;> omega),(by simp [get_set,t47] <;> omega),(by simp [get_set,t48] <;> omega),(by simp [get_set,t49] <;> omega),(by simp [get_set,t57] <;> omega),(by simp [get_set,t58] <;> omega),⟨by rw [chkR_take hx,hD0,Nat.add_assoc],by omega⟩⟩
    ·rintro c' s ⟨T,S,D,lim4,rfl,t3,t8,t9,t10,t12,t47,t48,t49,t57,t58,hp⟩
     obtain ⟨hD0,hlim4⟩:=hp
     rw [List.take_of_length_le (by omega)] at hD0
     simp (maxDischargeDepth:=8) only [↓SD,SU,SV,SW,simprocAttr,Int.cast_ofNat_Int,small,resV, q108x0,t3,t8,t9,t10,t12,t47,t48,t49,t57,t58, lt_nat,Nat.lt_irrefl,l9,hw,s1,s2,sget_sset]
     exact ihO _ ⟨_,_,D,out++(R0++[10]),_,rfl,by simp [get_set,t3],by simp [get_set],by simp [get_set,t9],by simp [get_set,t47],by simp [get_set,t48],by simp [get_set],by rw [hD0,hC0,chkL_take hR0],by rw [flatT_take hR0,hout,List.append_assoc],by omega⟩
   ·rintro c' s' ⟨T,S,C,out,lim3,rfl,t3,t8,t9,t47,t48,t49,hC0,hout,hlim3⟩
    rw [List.take_of_length_le (by omega)] at hC0 hout
    obtain ⟨Q,hQ⟩:∃Q,C % 181=Q:=⟨_,rfl⟩
    have hQ9:Q < 181:=by rw [←hQ]; exact Nat.mod_lt _ (by decide)
    have rm1:Int.tmod ((C:Nat):Int) 181=((Q:Nat):Int):=by rw [←hQ]; rfl
    have qu1:Int.tdiv ((Q:Nat):Int) 100=((Q / 100:Nat):Int):=rfl
    have qu2:Int.tdiv ((Q:Nat):Int) 10=((Q / 10:Nat):Int):=rfl
    have rm2:Int.tmod ((Q / 10:Nat):Int) 10=((Q / 10 % 10:Nat):Int):=rfl
    have rm3:Int.tmod ((Q:Nat):Int) 10=((Q % 10:Nat):Int):=rfl
    have w1:IntKind.wrap .i64 ((Q / 100:Nat):Int)=((Q / 100:Nat):Int):=wrapN (by omega)
    have w2:IntKind.wrap .i64 ((Q / 10:Nat):Int)=((Q / 10:Nat):Int):=wrapN (by omega)
    have ka:R (.func 141) [.int .i64 ((Q / 100:Nat):Int)] H4=some ⟨.ok (.string ⟨(dig3 (Q / 100)).toArray⟩),H4,H4.length⟩:=c141 (by omega) (by omega) H4
    have kb:R (.func 141) [.int .i64 ((Q / 10 % 10:Nat):Int)] H4=some ⟨.ok (.string ⟨(dig3 (Q / 10 % 10)).toArray⟩),H4,H4.length⟩:=c141 (by omega) (by omega) H4
    have kc:R (.func 141) [.int .i64 ((Q % 10:Nat):Int)] H4=some ⟨.ok (.string ⟨(dig3 (Q % 10)).toArray⟩),H4,H4.length⟩:=c141 (by omega) (by omega) H4
    have d1:=(dig_len (Q / 100)).1
    have d2:=(dig_len (Q / 10 % 10)).1
    have d3:=(dig_len (Q % 10)).1
    have hol:out.length≤400*21:=by
     rw [hout]
     refine Nat.le_trans (flatT_len hR2) ?_
     exact Nat.mul_le_mul_right _ hR1
    have s0':=vv_sadd out [101,110,100,32] (by simp; omega)
    have s1:=vv_sadd (out++[101,110,100,32]) (dig3 (Q / 100)) (by simp; omega)
    have s2:=vv_sadd (out++[101,110,100,32]++dig3 (Q / 100)) (dig3 (Q / 10 % 10)) (by simp; omega)
    have s3:=vv_sadd (out++[101,110,100,32]++dig3 (Q / 100)++dig3 (Q / 10 % 10)) (dig3 (Q % 10)) (by simp; omega)
    have s4:=vv_sadd (out++[101,110,100,32]++dig3 (Q / 100)++dig3 (Q / 10 % 10)++dig3 (Q % 10)) [10] (by simp; omega)
    have hT:textC s=out++[101,110,100,32]++dig3 (Q / 100)++dig3 (Q / 10 % 10)++dig3 (Q % 10)++[10]:=by unfold textC; rw [←hC0,←hout,hQ]; simp [endT]
    simp (maxDischargeDepth:=8) only [↓SD,SU,SV,SW,simprocAttr,Int.cast_ofNat_Int,small,resV, q108x1,t3,t8,t9,t47,t48,t49,lt_nat,Nat.lt_irrefl,l9,vv_rem,vv_quo,rm1,qu1,qu2,rm2,rm3,w1,w2,ka,kb,kc,s0',s1,s2,s3,s4,sget_sset,R108,N108]
    rw [hT,gc_ite (by omega)]
    simp [flat]
end Go.Pi.L.Coa
set_option maxRecDepth 100000
namespace CM
def spl (c:UInt8):List UInt8→List (List UInt8)
 | []=>[[]]
 | x :: l=>if x=c then [] :: spl c l else match spl c l with | y :: ys=>(x :: y) :: ys | []=>[[x]]
theorem spl_ne (c:UInt8):∀l,spl c l≠[]
 | []=>by simp [spl]
 | x :: l=>by
  unfold spl
  split
  ·simp
  ·split <;> simp
theorem spl_none {c:UInt8}:∀{p:List UInt8},c ∉ p→spl c p=[p]
 | [],_=>rfl
 | x :: p,h=>by
  have h1:x≠c:=fun e=>h (by rw [e]; exact List.mem_cons_self ..)
  have h2:c ∉ p:=fun e=>h (List.mem_cons_of_mem _ e)
  rw [spl,if_neg h1,spl_none h2]
theorem spl_hit {c:UInt8}:∀{p:List UInt8} (r:List UInt8),c ∉ p→spl c (p++c :: r)=p :: spl c r
 | [],r,_=>by simp [spl]
 | x :: p,r,h=>by
  have h1:x≠c:=fun e=>h (by rw [e]; exact List.mem_cons_self ..)
  have h2:c ∉ p:=fun e=>h (List.mem_cons_of_mem _ e)
  rw [List.cons_append,spl,if_neg h1,spl_hit r h2]
theorem spl_len (c:UInt8):∀l:List UInt8,(spl c l).length=l.count c+1
 | []=>rfl
 | x :: l=>by
  rw [spl]
  by_cases h:x=c
  ·rw [if_pos h,List.length_cons,spl_len c l,h,List.count_cons_self]
  ·rw [if_neg h,List.count_cons_of_ne h,←spl_len c l]
   cases hs:spl c l with
   | nil=>exact (spl_ne c l hs).elim
   | cons y ys=>rfl
theorem spl_parts {c:UInt8}:∀(l:List UInt8),(∀p∈spl c l,c ∉ p)∧∀p∈spl c l,p.length≤l.length
 | []=>by simp [spl]
 | x :: l=>by
  obtain ⟨h1,h2⟩:=spl_parts (c:=c) l
  rw [spl]
  by_cases h:x=c
  ·rw [if_pos h]
   refine ⟨fun p hp=>?_,fun p hp=>?_⟩
   ·rcases List.mem_cons.1 hp with hp | hp
    ·rw [hp]; simp
    ·exact h1 p hp
   ·rcases List.mem_cons.1 hp with hp | hp
    ·rw [hp]; simp
    ·have:=h2 p hp; simp; omega
  ·rw [if_neg h]
   cases hs:spl c l with
   | nil=>exact (spl_ne c l hs).elim
   | cons y ys =>
    rw [hs] at h1 h2
    refine ⟨fun p hp=>?_,fun p hp=>?_⟩
    ·rcases List.mem_cons.1 hp with hp | hp
     ·rw [hp]
      intro hc
      rcases List.mem_cons.1 hc with hc | hc
      ·exact h hc.symm
      ·exact h1 y (List.mem_cons_self ..) hc
     ·exact h1 p (List.mem_cons_of_mem _ hp)
    ·rcases List.mem_cons.1 hp with hp | hp
     ·rw [hp]; have:=h2 y (List.mem_cons_self ..); simp; omega
     ·have:=h2 p (List.mem_cons_of_mem _ hp); simp; omega
end CM
namespace Go.Pi.L.Coa
open Go Go.Pi Go.Pi.L Go.Pi.Coa CM Go.Pi.Q

theorem take_drop_step {α:Type}{s:List α}{f j:Nat}{x:α}(hx:s[j]?=some x)(hf:f≤j):s.drop f=(s.take j).drop f++x :: s.drop (j+1):=by
 have hj:=(List.getElem?_eq_some_iff.1 hx).1
 have e:s=s.take j++x :: s.drop (j+1):=by
  have h1:s.drop j=x :: s.drop (j+1):=by
   rw [List.drop_eq_getElem_cons hj]
   congr 1
   have:=(List.getElem?_eq_some_iff.1 hx).2
   exact this
  rw [←h1,List.take_append_drop]
 have hl:(s.take j).length=j:=by rw [List.length_take]; omega
 conv=>lhs; rw [e]
 rw [List.drop_append_of_le_length (by omega)]
set_option maxHeartbeats 1000000 in
theorem c114 (s:List UInt8)(c:UInt8)(hsl:s.length≤100000)(H':Heap):Yes (R (.func 114) [.string ⟨s.toArray⟩,.int .u8 (c.toNat:Nat)] H') (QS H' 1 encT (spl c s)):=by
 refine run_y (pr 114) P114 (by simp [p114]) rfl ?_
 have sl0:=vv_slen' s
 simp (maxDischargeDepth:=8) only [↓SD,SU,SV,SW,simprocAttr,Int.cast_ofNat_Int,small,resV, B114,R114,N114,b114, sl0]
 refine loop_ind (G:=(Yes · (QS H' 1 encT (spl c s)))) (fun j σ=>∃T S H3 al cc m f lim,σ=⟨T,S,[],H3,lim,34,false⟩∧get T 0=.string ⟨s.toArray⟩∧get T 1=.int .u8 (c.toNat:Nat)∧get T 5=.slice al cc m∧get T 6=.int .i64 ((f:Nat):Int)∧get T 7=.int .i64 (j:Nat)∧((∃P,cc=P.length∧Bld H'.length H3 1 al cc m (cells encT P)∧spl c s=P++spl c (s.drop f))∧cc≤j∧f≤j∧c ∉ (s.take j).drop f∧Up H' H3∧H'.length≤lim)) (s.length) ?_ ?_ 0 _ (Nat.zero_le _) ⟨_,_,_,_,_,_,_,_,rfl,rfl,rfl,rfl,rfl,rfl,⟨⟨[],rfl,Bld.nil _ _ _,rfl⟩,Nat.le_refl _,Nat.le_refl 0,by simp,Up.refl _,Nat.le_refl _⟩⟩
 ·rintro c' j s hj ⟨T,S,H3,al,cc,m,f,lim,rfl,t0,t1,t5,t6,t7,hp⟩ ih
  obtain ⟨⟨P,hcc,hbd,hsp⟩,hcj,hfj,hno,hu,hlim⟩:=hp
  have hw:=wrap_succ j (by omega)
  have l8:isLoc (.slice al cc m)=false:=hbd.isLoc _ _
  have hul:=hu.len
  obtain ⟨x,hx⟩:∃x,s[j]?=some x:=⟨_,List.getElem?_eq_getElem (by omega)⟩
  have ix:=vv_ix' s .i64 j x hx
  have hst:=take_drop_step hx hfj
  by_cases hxc:x=c
  ·have z1:(((x.toNat:Nat):Int)=((c.toNat:Nat):Int))=True:=eq_true (by rw [hxc])
   have sls:=vv_slsB s .i64 .i64 f j hfj (by omega)
   obtain ⟨H6,p1,p2,p3,p4⟩:=hbd.app (by decide) (by decide) (by omega) hul [.string ⟨((s.take j).drop f).toArray⟩] rfl
   have u6:=p3.up hbd hu (Nat.le_refl _)
   have hsp2:spl c s=(P++[(s.take j).drop f])++spl c (s.drop (j+1)):=by
    rw [hsp,hst,hxc,spl_hit _ hno]; simp
   have p2':Bld H'.length H6 1 (some ⟨H3.length,0,none⟩) (cc+1) 1 (cells encT (P++[(s.take j).drop f])):=by rw [cells_app]; exact p2
   simp (maxDischargeDepth:=8) only [↓SD,SU,SV,SW,simprocAttr,Int.cast_ofNat_Int,small,resV, q114x0,t0,t1,t5,t6,t7, lt_nat,hj,sl0,l8,ix,z1,sls,hw,p1]
   exact ih _ ⟨_,_,(H6),(some ⟨H3.length,0,none⟩),(cc+1),(1),(j+1),(_),rfl,(by simp [get_set,t0] <;> omega),(by simp [get_set,t1] <;> omega),(by simp [get_set,t5] <;> omega),(by simp [get_set,t6] <;> omega),(by simp [get_set,t7] <;> omega),⟨⟨P++[(s.take j).drop f],by simp [hcc],p2',hsp2⟩,by omega,Nat.le_refl _,by rw [List.drop_eq_nil_of_le (by rw [List.length_take]; omega)]; simp,u6,by omega⟩⟩
  ·have z1:(((x.toNat:Nat):Int)=((c.toNat:Nat):Int))=False:=eq_false (fun h=>hxc (UInt8.toNat_inj.1 (by omega)))
   have hno2:c ∉ (s.take (j+1)).drop f:=by
    rw [take_get hx,List.drop_append_of_le_length (by rw [List.length_take]; omega)]
    intro h
    rcases List.mem_append.1 h with h | h
    ·exact hno h
    ·exact hxc (List.mem_singleton.1 h).symm
   simp (maxDischargeDepth:=8) only [↓SD,SU,SV,SW,simprocAttr,Int.cast_ofNat_Int,small,resV, q114x0,t0,t1,t5,t6,t7, lt_nat,hj,sl0,l8,ix,z1,hw]
   exact ih _ ⟨_,_,(H3),(al),(cc),(m),(f),(_),rfl,(by simp [get_set,t0] <;> omega),(by simp [get_set,t1] <;> omega),(by simp [get_set,t5] <;> omega),(by simp [get_set,t6] <;> omega),(by simp [get_set,t7] <;> omega),⟨⟨P,hcc,hbd,hsp⟩,by omega,by omega,hno2,hu,by omega⟩⟩
 ·rintro c' s ⟨T,S,H3,al,cc,m,f,lim,rfl,t0,t1,t5,t6,t7,hp⟩
  obtain ⟨⟨P,hcc,hbd,hsp⟩,hcj,hfj,hno,hu,hlim⟩:=hp
  have l8:isLoc (.slice al cc m)=false:=hbd.isLoc _ _
  have hul:=hu.len
  rw [List.take_length] at hno
  rw [spl_none hno] at hsp
  have sls:=vv_slsL s .i64 f hfj
  obtain ⟨H6,p1,p2,p3,p4⟩:=hbd.app (by decide) (by decide) (by omega) hul [.string ⟨(s.drop f).toArray⟩] rfl
  have u6:=p3.up hbd hu (Nat.le_refl _)
  have p2':Bld H'.length H6 1 (some ⟨H3.length,0,none⟩) (cc+1) 1 (cells encT (P++[s.drop f])):=by rw [cells_app]; exact p2
  rw [←hsp] at p2'
  have hll:cc+1=(spl c s).length:=by rw [hsp]; simp [hcc]
  have la6:isLoc (.slice (some ⟨H3.length,0,none⟩) (cc+1) 1)=false:=rfl
  simp (maxDischargeDepth:=8) only [↓SD,SU,SV,SW,simprocAttr,Int.cast_ofNat_Int,small,resV, q114x0,t0,t1,t5,t6,t7, lt_nat,Nat.lt_irrefl,sl0,l8,la6,sls,p1,R114,N114]
  rw [yes_some]
  exact gc_sl (p2'.sl encT_len (by decide)) u6 (by omega)
end Go.Pi.L.Coa
set_option maxRecDepth 100000
namespace Go.Pi.L.Coa
open Go Go.Pi Go.Pi.L Go.Pi.Coa CM Go.Pi.Q

theorem c165 (s:List UInt8)(c:UInt8)(H:Heap):R (.func 165) [.string ⟨s.toArray⟩,.string ⟨[c].toArray⟩] H=some ⟨.ok (.int .i64 ((s.count c:Nat):Int)),H,H.length⟩:=by
 refine runL_prim (g:=lp pCount) (by rfl) ?_
 have e:cnt c s=s.count c:=(cnt_eq c s).symm
 show some (⟨.ok (.int .i64 (cnt c s)),H,H.length⟩:Out)=_
 rw [e]
theorem c166 (s:List UInt8)(c:UInt8)(H:Heap):R (.func 166) [.string ⟨s.toArray⟩,.string ⟨[c].toArray⟩] H=some ⟨.ok (.int .i64 (Lib.indexByte s c)),H,H.length⟩:=runL_prim (g:=lp pIndex) (by rfl) rfl
theorem index_at {s:List UInt8}{c:UInt8}(h:0 < s.count c):∃k:Nat,Lib.indexByte s c=k∧k < s.length∧s=s.take k++c :: s.drop (k+1)∧c ∉ s.take k:=by
 have hm:c∈s:=List.count_pos_iff.1 h
 obtain ⟨j,hj,hjc⟩:=List.mem_iff_getElem.1 hm
 have hge:=Lib.indexByte_ge s c
 have hne:Lib.indexByte s c≠-1:=fun e=>Lib.indexByte_none e j (by rw [List.getElem?_eq_getElem hj,hjc])
 obtain ⟨k,hk⟩:∃k:Nat,Lib.indexByte s c=k:=⟨(Lib.indexByte s c).toNat,by omega⟩
 obtain ⟨h1,h2⟩:=Lib.indexByte_some hk
 have hl:=(List.getElem?_eq_some_iff.1 h1).1
 refine ⟨k,hk,hl,?_,fun hc=>?_⟩
 ·have:=take_drop_step (f:=0) h1 (Nat.zero_le _)
  simpa using this
 ·obtain ⟨i,hi,e⟩:=List.mem_iff_getElem.1 hc
  rw [List.length_take] at hi
  refine h2 i (by omega) ?_
  rw [List.getElem_take] at e
  rw [List.getElem?_eq_getElem (by omega),e]
set_option maxHeartbeats 1000000 in
theorem c159 (s:List UInt8)(c:UInt8)(hsl:s.length≤100000)(H':Heap)(hF:Fam H'):Yes (R (.func 159) [.string ⟨s.toArray⟩,.string ⟨[c].toArray⟩,.int .i64 0,.int .i64 (-1)] H') (QS H' 1 encT (spl c s)):=by
 refine run_y (pr 159) P159 (by simp [p159]) rfl ?_
 have sl0:=vv_slen' s
 have sl1:=vv_slen' [c]
 have k165:=c165 s c H'
 have hcl:=List.count_le_length (a:=c) (l:=s)
 have hspl:=spl_len c s
 obtain ⟨K,hK⟩:∃K,s.count c=K:=⟨_,rfl⟩
 rw [hK] at k165 hcl hspl
 have hw1:IntKind.wrap .i64 (((K:Nat):Int)+1)=((K+1:Nat):Int):=wrap_succ K (by omega)
 have hw2:IntKind.wrap .i64 (((s.length:Nat):Int)+1)=((s.length+1:Nat):Int):=wrap_succ _ (by omega)
 have hw3:IntKind.wrap .i64 (((K+1:Nat):Int) - 1)=((K:Nat):Int):=by rw [wrap_id _ (by omega) (by omega)]; omega
 have mn:vv .mn [.int .i64 ((K+1:Nat):Int),.int .i64 ((s.length+1:Nat):Int)]=some (.int .i64 ((K+1:Nat):Int)):=by
  rw [vv_of rfl]; simp only [VOp.ev]; rw [if_neg (by omega)]
 have mk:=mks_ok (k:=1) (z:=[.string ⟨#[]⟩]) (bytes:=16) (n:=K+1) (by omega) (by omega)
 have ne:=vv_seq' [c] []
 rw [decide_eq_false (by simp)] at ne
 obtain ⟨H0,hH0⟩:∃H0,H'++[(⟨.cells (.string ⟨#[]⟩ :: rep K [.string ⟨#[]⟩]),true,true,some H'.length⟩:Blk)]=H0:=⟨_,rfl⟩
 have u0:Up H' H0:=by rw [←hH0]; exact (Up.refl _).app
 have hF0:Fam H0:=by rw [←hH0]; exact Fam.app1 hF (Nat.le_refl _)
 have bd0:Bld H'.length H0 1 (some ⟨H'.length,0,none⟩) (K+1) 1 (cells encT ([]++List.replicate (K+1 - 0) [])):=by
  have er:Value.string ⟨#[]⟩ :: rep K [.string ⟨#[]⟩]=cells encT (List.replicate (K+1) []):=rep_cells encT [] (K+1)
  rw [←hH0,List.nil_append,er]
  refine ⟨by rw [cells_len encT_len]; simp,.inr ⟨H'.length,H'.length,rfl,rfl,Nat.le_refl _,Nat.le_refl _,by simp⟩⟩
 simp (maxDischargeDepth:=8) only [↓SD,SU,SV,SW,simprocAttr,Int.cast_ofNat_Int,small,resV, B159,R159,N159,b159, ne,k165,sl0,hw1,hw2,mn,mk,hH0,hw3]
 refine loop_ind (G:=(Yes · (QS H' 1 encT (spl c s)))) (fun j σ=>∃T S H3 rem lim,σ=⟨T,S,[],H3,lim,66,false⟩∧get T 0=.string ⟨rem.toArray⟩∧get T 1=.string ⟨[c].toArray⟩∧get T 2=.int .i64 0∧get T 3=.int .i64 K∧get T 9=.slice (some ⟨H'.length,0,none⟩) (K+1) 1∧get T 10=.int .i64 (j:Nat)∧((∃P:List (List UInt8),P.length=j∧Bld H'.length H3 1 (some ⟨H'.length,0,none⟩) (K+1) 1 (cells encT (P++List.replicate (K+1 - j) []))∧spl c s=P++spl c rem∧rem.count c=K - j)∧rem.length≤s.length∧Up H' H3∧Fam H3∧H'.length≤lim)) (K) ?_ ?_ 0 _ (Nat.zero_le _) ⟨_,_,_,_,_,rfl,rfl,rfl,rfl,rfl,rfl,rfl,⟨⟨[],rfl,bd0,rfl,hK⟩,Nat.le_refl _,u0,hF0,by omega⟩⟩
 ·rintro c' j s hj ⟨T,S,H3,rem,lim,rfl,t0,t1,t2,t3,t9,t10,hp⟩ ih
  obtain ⟨⟨P,hPl,hbd,hsp,hcn⟩,hrl,hu,hF3,hlim⟩:=hp
  have hw:=wrap_succ j (by omega)
  obtain ⟨k,hk,hkl,hks,hkn⟩:=index_at (s:=rem) (c:=c) (by omega)
  have k166:=c166 rem c H3
  rw [hk] at k166
  have z1:(((k:Nat):Int) < 0)=False:=eq_false (by omega)
  have hwk:IntKind.wrap .i64 (((k:Nat):Int)+0)=((k:Nat):Int):=by rw [wrap_id _ (by omega) (by omega)]; omega
  have hwk':IntKind.wrap .i64 ((k:Nat):Int)=((k:Nat):Int):=by rw [wrap_id _ (by omega) (by omega)]
  have hwk1:IntKind.wrap .i64 (((k:Nat):Int)+1)=((k+1:Nat):Int):=wrap_succ _ (by omega)
  have sh:=vv_slsH rem .i64 k (by omega)
  have slL:=vv_slsL rem .i64 (k+1) (by omega)
  have slc1:vv .slen [.string ⟨[c].toArray⟩]=some (.int .i64 1):=vv_slen' [c]
  obtain ⟨H6,f,q0,q1,q2,q3,q4,q5,q6,_⟩:=hbd.put hF3 (i:=j) (by omega) (v:=.string ⟨(rem.take k).toArray⟩) rfl rfl rfl
  have u6:=q5 H' hu (Nat.le_refl _)
  have iap:vv (.ia 1) [.slice (some ⟨H'.length,0,none⟩) (K+1) 1,.int .i64 (j:Nat)]=some (.pointer (some ⟨H'.length,0+j*1,none⟩)):=vv_iaN 1 _ 0 j _ _ _ (by omega)
  rw [Nat.zero_add] at iap
  have hset:splice (cells encT (P++List.replicate (K+1 - j) [])) (j*1) (Value.string ⟨(rem.take k).toArray⟩).cells.toList=cells encT ((P++[rem.take k])++List.replicate (K+1 - (j+1)) []):=by
   have e1:(Value.string ⟨(rem.take k).toArray⟩).cells.toList=encT (rem.take k):=rfl
   rw [e1,splice_cells encT_len (rem.take k) (by simp [hPl]; omega)]
   congr 1
   rw [List.set_append_right _ _ (by omega),hPl,Nat.sub_self,show K+1 - j=(K+1 - (j+1))+1 by omega,List.replicate_succ,List.set_cons_zero]
   simp
  rw [hset] at q3
  have hsp2:spl c s=(P++[rem.take k])++spl c (rem.drop (k+1)):=by
   conv=>lhs; rw [hsp,hks,spl_hit _ hkn]
   simp
  have hc2:(rem.drop (k+1)).count c=K - (j+1):=by
   have h1:rem.count c=(rem.take k++c :: rem.drop (k+1)).count c:=by rw [←hks]
   rw [List.count_append,List.count_eq_zero.2 hkn,List.count_cons_self] at h1
   omega
  have e3:=hu.len
  simp (maxDischargeDepth:=8) only [↓SD,SU,SV,SW,simprocAttr,Int.cast_ofNat_Int,small,resV, q159x0,t0,t1,t2,t3,t9,t10, lt_nat,hj,k166,z1,hwk,hwk',hwk1,sh,slL,slc1,iap,q2,hw]
  exact ih _ ⟨_,_,(H6),(rem.drop (k+1)),(_),rfl,(by simp [get_set,t0] <;> omega),(by simp [get_set,t1] <;> omega),(by simp [get_set,t2] <;> omega),(by simp [get_set,t3] <;> omega),(by simp [get_set,t9] <;> omega),(by simp [get_set,t10] <;> omega),⟨⟨P++[rem.take k],by simp [hPl],q3,hsp2,hc2⟩,by rw [List.length_drop]; omega,u6,q4,by omega⟩⟩
 ·rintro c' s ⟨T,S,H3,rem,lim,rfl,t0,t1,t2,t3,t9,t10,hp⟩
  obtain ⟨⟨P,hPl,hbd,hsp,hcn⟩,hrl,hu,hF3,hlim⟩:=hp
  have hno:c ∉ rem:=List.count_eq_zero.1 (by omega)
  rw [spl_none hno] at hsp
  obtain ⟨H6,f,q0,q1,q2,q3,q4,q5,q6,_⟩:=hbd.put hF3 (i:=K) (by omega) (v:=.string ⟨rem.toArray⟩) rfl rfl rfl
  have u6:=q5 H' hu (Nat.le_refl _)
  have hw:=wrap_succ K (by omega)
  have iap:vv (.ia 1) [.slice (some ⟨H'.length,0,none⟩) (K+1) 1,.int .i64 (K:Nat)]=some (.pointer (some ⟨H'.length,0+K*1,none⟩)):=vv_iaN 1 _ 0 K _ _ _ (by omega)
  rw [Nat.zero_add] at iap
  have hset:splice (cells encT (P++List.replicate (K+1 - K) [])) (K*1) (Value.string ⟨rem.toArray⟩).cells.toList=cells encT (P++[rem]):=by
   have e1:(Value.string ⟨rem.toArray⟩).cells.toList=encT rem:=rfl
   rw [e1,splice_cells encT_len rem (by simp [hPl])]
   congr 1
   rw [List.set_append_right _ _ (by omega),hPl,Nat.sub_self,show K+1 - K=0+1 by omega,List.replicate_succ,List.set_cons_zero]
   rfl
  rw [hset,←hsp] at q3
  have hs6:=q3.sl encT_len (by decide)
  obtain ⟨a',m',r1,r2⟩:=hs6.cut 1 0 (K+1) (by omega) (Nat.le_refl _)
  have hall:((spl c s).drop 0).take (K+1 - 0)=spl c s:=by rw [List.drop_zero,List.take_of_length_le (by omega)]
  rw [hall,Nat.sub_zero] at r2
  rw [Nat.sub_zero] at r1
  have r1':VOp.ev.slc 1 (some ⟨H'.length,0,none⟩) (K+1) 1 0 ((K+1:Nat):Int)=some (.slice a' (K+1) m'):=r1
  have la:isLoc (.slice a' (K+1) m')=false:=r2.isLoc _
  have e3:=hu.len
  simp (maxDischargeDepth:=8) only [↓SD,SU,SV,SW,simprocAttr,Int.cast_ofNat_Int,small,resV, q159x0,t0,t1,t2,t3,t9,t10, lt_nat,Nat.lt_irrefl,iap,q2,hw,vv_slh,r1',la,R159,N159]
  rw [yes_some]
  exact gc_sl r2 u6 (by omega)
theorem c143 (s:List UInt8)(c:UInt8)(hsl:s.length≤100000)(H':Heap)(hF:Fam H'):Yes (R (.func 143) [.string ⟨s.toArray⟩,.string ⟨[c].toArray⟩] H') (QS H' 1 encT (spl c s)):=by
 refine run_y (pr 143) P143 (by simp [p143]) rfl ?_
 obtain ⟨o,ho,a,m,H1,lo,rfl,u1,hlo,s1⟩:=c159 s c hsl H' hF
 have la:=s1.isLoc m
 simp (maxDischargeDepth:=8) only [↓SD,SU,SV,SW,simprocAttr,Int.cast_ofNat_Int,small,resV, B143,R143,N143,b143, ho,la,R143,N143]
 rw [yes_some]
 exact gc_sl s1 u1 (by omega)
end Go.Pi.L.Coa
set_option maxRecDepth 100000
namespace CM
open Go
def isDig (x:UInt8):Bool:=Nat.ble 48 x.toNat&&Nat.ble x.toNat 57
def valD:List UInt8→Nat→Nat
 | [],n=>n
 | x :: l,n=>valD l (10*n+(x.toNat - 48))
def numW (w:List UInt8):Option Int:=if w≠[]∧w.length≤3∧w.all isDig=true∧Pi.Q.dig3 (valD w 0)=w then some (valD w 0) else none
theorem isDig_iff {x:UInt8}:isDig x=true↔48≤x.toNat∧x.toNat≤57:=by
 unfold isDig; rw [Bool.and_eq_true]; simp [Nat.ble_eq]
theorem valD_snoc:∀(l:List UInt8) (x:UInt8) (n:Nat),valD (l++[x]) n=10*valD l n+(x.toNat - 48)
 | [],x,n=>rfl
 | y :: l,x,n=>by rw [List.cons_append,valD,valD_snoc l x]; rfl
theorem valD_le {w:List UInt8}(h:w.length≤3)(hd:w.all isDig=true):valD w 0≤999:=by
 match w,h with
 | [],_=>decide
 | [x],_ =>
  simp only [List.all_cons,List.all_nil,Bool.and_true,isDig_iff] at hd
  simp only [valD]; omega
 | [x,y],_ =>
  simp only [List.all_cons,List.all_nil,Bool.and_true,Bool.and_eq_true,isDig_iff] at hd
  simp only [valD]; omega
 | [x,y,z],_ =>
  simp only [List.all_cons,List.all_nil,Bool.and_true,Bool.and_eq_true,isDig_iff] at hd
  simp only [valD]; omega
end CM
namespace Go.Pi.L.Coa
open Go Go.Pi Go.Pi.L Go.Pi.Coa CM Go.Pi.Q
theorem dec_lo {l:List UInt8}{i:Nat}{x:UInt8}(h:l[i]?=some x)(hx:x.toNat < 128):Utf8.decode ⟨l.toArray⟩ i=(x.toNat,1):=by
 unfold Utf8.decode
 simp only [Nat.add_zero,ba_get! l i h]
 rw [if_pos (show x.toNat < 0x80 from hx)]
theorem dec_hi {l:List UInt8}{i:Nat}{x:UInt8}(h:l[i]?=some x)(hx:128≤x.toNat):128≤(Utf8.decode ⟨l.toArray⟩ i).1:=by
 unfold Utf8.decode
 simp only [Nat.add_zero,ba_get! l i h]
 rw [if_neg (show ¬x.toNat < 0x80 by omega)]
 have he:128≤Utf8.runeError:=by decide
 repeat' split
 all_goals first | exact he | (simp only; simp only [ge_iff_le,Bool.and_eq_true,decide_eq_true_eq] at *; omega)
theorem good_len (w:List UInt8):∃g,g≤w.length∧(∀j,j < g→∃x,w[j]?=some x∧isDig x=true∧w.length≤3)∧((g=w.length∧w.all isDig=true∧(w=[]∨w.length≤3))∨(numW w=none∧∃x,w[g]?=some x∧(isDig x=false∨¬w.length≤3))):=by
 by_cases h2:w.length≤3
 ·have key:∀v:List UInt8,∃g,g≤v.length∧(∀j,j < g→∃x,v[j]?=some x∧isDig x=true)∧((g=v.length∧v.all isDig=true)∨(v.all isDig=false∧∃x,v[g]?=some x∧isDig x=false)):=by
   intro v
   induction v with
   | nil=>exact ⟨0,Nat.le_refl _,fun j hj=>by omega,.inl ⟨rfl,rfl⟩⟩
   | cons x v ih =>
    cases hx:isDig x with
    | false=>exact ⟨0,Nat.zero_le _,fun j hj=>by omega,.inr ⟨by simp [hx],x,rfl,hx⟩⟩
    | true =>
     obtain ⟨g,a1,a2,a3⟩:=ih
     refine ⟨g+1,by simp; omega,fun j hj=>?_,?_⟩
     ·cases j with
      | zero=>exact ⟨x,rfl,hx⟩
      | succ j=>exact a2 j (by omega)
     ·rcases a3 with ⟨b1,b2⟩ | ⟨b1,y,b2,b3⟩
      ·exact .inl ⟨by simp [b1],by simp [hx,b2]⟩
      ·exact .inr ⟨by simp [hx,b1],y,b2,b3⟩
  obtain ⟨g,a1,a2,a3⟩:=key w
  refine ⟨g,a1,fun j hj=>?_,?_⟩
  ·obtain ⟨x,b1,b2⟩:=a2 j hj; exact ⟨x,b1,b2,h2⟩
  ·rcases a3 with ⟨b1,b2⟩ | ⟨b1,y,b2,b3⟩
   ·exact .inl ⟨b1,b2,.inr h2⟩
   ·refine .inr ⟨?_,y,b2,.inl b3⟩
    unfold numW; rw [if_neg (fun h=>by rw [b1] at h; exact absurd h.2.2.1 (by decide))]
 ·obtain ⟨x,hx⟩:∃x,w[0]?=some x:=⟨_,List.getElem?_eq_getElem (by omega)⟩
  exact ⟨0,Nat.zero_le _,fun j hj=>by omega,.inr ⟨by unfold numW; rw [if_neg (fun h=>h2 h.2.1)],x,hx,.inr h2⟩⟩
theorem wrap32 {n:Nat}(h:n < 1000):IntKind.wrap .i32 ((n:Nat):Int)=((n:Nat):Int):=by unfold IntKind.wrap; simp [IntKind.bits,IntKind.signed]; omega
theorem bad_rune {w:List UInt8}{g:Nat}{x:UInt8}(hx:w[g]?=some x)(hb:isDig x=false∨¬w.length≤3):∃c wd,Utf8.decode ⟨w.toArray⟩ g=(c,wd)∧(c < 48∨57 < c∨¬w.length≤3):=by
 obtain ⟨p,hp⟩:∃p,Utf8.decode ⟨w.toArray⟩ g=p:=⟨_,rfl⟩
 refine ⟨p.1,p.2,hp,?_⟩
 rcases hb with hb | hb
 ·rcases Nat.lt_or_ge x.toNat 128 with h | h
  ·have e:=dec_lo hx h
   rw [hp] at e
   have h2:¬(48≤x.toNat∧x.toNat≤57):=fun hh=>by rw [isDig_iff.2 hh] at hb; cases hb
   rw [e]
   simp only
   omega
  ·have e:=dec_hi hx h
   rw [hp] at e
   omega
 ·exact .inr (.inr hb)
theorem numW_b {w:List UInt8}{z:Int}(h:numW w=some z):0≤z∧z≤999:=by
 unfold numW at h
 split at h
 ·rename_i hc
  cases h
  have:=valD_le hc.2.1 hc.2.2.1
  omega
 ·cases h
theorem dig3_all:∀n,n < 1000→numW (dig3 n)=some (n:Int)∧(dig3 n).all isDig=true∧(n < 100→(dig3 n).length≤2)∧(n < 10→(dig3 n).length=1):=by decide +kernel
theorem dgI_num {z:Int}(h:Num z):numW (dgI z)=some z:=by
 obtain ⟨h0,h9⟩:=h
 have h:=(dig3_all z.toNat (by omega)).1
 rw [Int.toNat_of_nonneg h0] at h; exact h
theorem dgI_no {z:Int}(h:Num z){c:UInt8}(hc:isDig c=false):c ∉ dgI z:=fun hm=>by
 obtain ⟨h0,h9⟩:=h
 have:=List.all_eq_true.1 (dig3_all z.toNat (by omega)).2.1 c hm
 rw [hc] at this; cases this
theorem numW_num {w:List UInt8}{z:Int}(h:numW w=some z):Num z:=numW_b h
theorem spl_join {c:UInt8}:∀{ps:List (List UInt8)} {p:List UInt8},(∀q∈p :: ps,c ∉ q)→spl c (p++(ps.map fun q=>c :: q).flatten)=p :: ps
 | [],p,h=>by simp [spl_none (h p (List.mem_cons_self ..))]
 | q :: ps,p,h=>by
  rw [List.map_cons,List.flatten_cons,List.cons_append,spl_hit _ (h p (List.mem_cons_self ..)),spl_join fun x hx=>h x (List.mem_cons_of_mem _ hx)]
theorem spl_rows {c:UInt8}:∀{rows:List (List UInt8)} {s:List UInt8},(∀r∈rows,c ∉ r)→spl c ((rows.map fun r=>r++[c]).flatten++s)=rows++spl c s
 | [],s,_=>rfl
 | r :: rows,s,h=>by
  rw [List.map_cons,List.flatten_cons,List.append_assoc,List.append_assoc,List.singleton_append,spl_hit _ (h r (List.mem_cons_self ..)),spl_rows fun x hx=>h x (List.mem_cons_of_mem _ hx)]; rfl
end Go.Pi.L.Coa
set_option maxRecDepth 100000
namespace Go.Pi.L.Coa
open Go Go.Pi Go.Pi.L Go.Pi.Coa CM Go.Pi.Q

theorem c144t (w:ByteArray)(H:Heap):R (.func 144) [.bool true,.string w] H=some ⟨.ok (.tuple #[]),H,H.length⟩:=by
 refine run_k (pr 144) P144 (by simp [p144]) rfl ?_
 simp (maxDischargeDepth:=8) only [↓SD,SU,SV,SW,simprocAttr,Int.cast_ofNat_Int,small,resV, B144,R144,N144,b144, R144,N144]
theorem c144f (w:ByteArray)(H:Heap):R (.func 144) [.bool false,.string w] H=some ⟨.panic (.iface 157 (.agg #[.string w])),H,H.length⟩:=by
 refine run_k (pr 144) P144 (by simp [p144]) rfl ?_
 simp (maxDischargeDepth:=8) only [↓SD,SU,SV,SW,simprocAttr,Int.cast_ofNat_Int,small,resV, B144,R144,N144,b144, R144,N144]
def QW (H:Heap)(w:List UInt8)(o:Out):Prop :=
 match numW w with
 | some z=>o=⟨.ok (.int .i64 z),H,H.length⟩
 | none=>∃w,o=⟨.panic (.iface 157 (.agg #[.string w])),H,H.length⟩
set_option maxHeartbeats 4000000 in
theorem c146 (w:List UInt8)(hl:w.length≤100000)(H':Heap):Yes (R (.func 146) [.string ⟨w.toArray⟩] H') (QW H' w):=by
 obtain ⟨g,hg,hpre,hend⟩:=good_len w
 have sl0:=vv_slen' w
 refine run_y (pr 146) P146 (by simp [p146]) rfl ?_
 simp (maxDischargeDepth:=8) only [↓SD,SU,SV,SW,simprocAttr,Int.cast_ofNat_Int,small,resV, B146,R146,N146,b146, g_rng,rng_s,ptrA]
 refine loop_ind (G:=(Yes · (QW H' w))) (fun j σ=>∃T S pos lim2 V2,σ=⟨T,S,[],(H'++[({ obj:=.iter ⟨w.toArray⟩ pos }:Blk)]),lim2,41,false⟩∧get T 0=.string ⟨w.toArray⟩∧get T 3=.int .i64 ((V2:Nat):Int)∧get T 7=.pointer (some ⟨H'.length,0,none⟩)∧(pos=j∧V2=valD (w.take j) 0∧H'.length≤lim2)) (g) ?_ ?_ 0 _ (Nat.zero_le _) ⟨_,_,_,_,_,rfl,rfl,rfl,rfl,⟨(show 0=0 from rfl),(show 0=valD (w.take 0) 0 from rfl),by omega⟩⟩
 ·rintro c' j s hj ⟨T,S,pos,lim2,V2,rfl,t0,t3,t7,hp⟩ ih
  obtain ⟨rfl,hV2,hlim2⟩:=hp
  obtain ⟨x,hx,hxd,hl3⟩:=hpre pos hj
  have hxd0:=hxd
  rw [isDig_iff] at hxd
  have hdec:=dec_lo hx (by omega)
  have hps:pos < (⟨w.toArray⟩:ByteArray).size:=(List.getElem?_eq_some_iff.1 hx).1
  have hV2b:V2≤999:=by
   rw [hV2]
   refine valD_le (by rw [List.length_take]; omega) ?_
   rw [List.all_eq_true]; intro y hy
   obtain ⟨i,hi,e⟩:=List.mem_iff_getElem.1 hy
   rw [List.length_take] at hi
   obtain ⟨y',hy1,hy2,_⟩:=hpre i (by omega)
   rw [List.getElem_take] at e
   rw [List.getElem?_eq_getElem (by omega),e] at hy1
   cases hy1; exact hy2
  have hV3:valD (w.take (pos+1)) 0=10*V2+(x.toNat - 48):=by rw [take_get hx,valD_snoc,hV2]
  have y1:((48:Int)≤((x.toNat:Nat):Int))=True:=eq_true (by omega)
  have y1':(((x.toNat:Nat):Int)≥48)=True:=y1
  have y2:(((x.toNat:Nat):Int)≤57)=True:=eq_true (by omega)
  have z2:(((w.length:Nat):Int)≤3)=True:=eq_true (by omega)
  have k144:=c144t ⟨w.toArray⟩ (H'++[({ obj:=.iter ⟨w.toArray⟩ (pos+1) }:Blk)])
  have m1:IntKind.wrap .i64 (10*((V2:Nat):Int))=((10*V2:Nat):Int):=by rw [wrap_id _ (by omega) (by omega)]; omega
  have m2:IntKind.wrap .i32 (((x.toNat:Nat):Int) - 48)=((x.toNat - 48:Nat):Int):=by
   have e:((x.toNat:Nat):Int) - 48=((x.toNat - 48:Nat):Int):=by omega
   rw [e]; exact wrap32 (by omega)
  have m3:IntKind.wrap .i64 ((x.toNat - 48:Nat):Int)=((x.toNat - 48:Nat):Int):=wrapN (by omega)
  have m4:IntKind.wrap .i64 (((10*V2:Nat):Int)+((x.toNat - 48:Nat):Int))=((10*V2+(x.toNat - 48):Nat):Int):=by
   rw [←Int.natCast_add]; exact wrapN (by omega)
  have nok:∀(k:List It) T S lo d,nxtB (runL PP primsL) (fEnd PP primsL (runL PP primsL) p146 H') (some ⟨.iter ⟨w.toArray⟩ pos,true,true,none⟩) H'.length d k ⟨T,S,[],H'++[({ obj:=.iter ⟨w.toArray⟩ pos }:Blk)],lo,41,false⟩=nxt (runL PP primsL) (fEnd PP primsL (runL PP primsL) p146 H') (some (.tuple #[.bool true,goInt pos,.int .i32 ((x.toNat:Nat):Int)])) d k ⟨T,S,[],H'++[({ obj:=.iter ⟨w.toArray⟩ (pos+1) }:Blk)],min lo H'.length,41,false⟩:=fun k T S lo d=>by
   rw [nxt_ok _ _ _ _ _ _ _ _ _ _ _ hps,hdec,set_last]
  simp (maxDischargeDepth:=8) only [↓SD,SU,SV,SW,simprocAttr,Int.cast_ofNat_Int,small,resV, q146x0,t0,t3,t7, g_nxt,nxt_v,get_last,nok,y1,y1',y2,sl0,z2,k144,m1,m2,m3,m4,goInt]
  exact ih _ ⟨_,_,(pos+1),(_),(10*V2+(x.toNat - 48)),rfl,(by simp [get_set,t0] <;> omega),(by simp [get_set,t3] <;> omega),(by simp [get_set,t7] <;> omega),⟨rfl,hV3.symm,by omega⟩⟩
 ·rintro c' s ⟨T,S,pos,lim2,V2,rfl,t0,t3,t7,hp⟩
  obtain ⟨rfl,hV2,hlim2⟩:=hp
  obtain ⟨Hi,hHi⟩:∃Hi,H'++[({ obj:=.iter ⟨w.toArray⟩ pos }:Blk)]=Hi:=⟨_,rfl⟩
  have gl:Hi[H'.length]?=some ⟨.iter ⟨w.toArray⟩ pos,true,true,none⟩:=by rw [←hHi]; exact get_last
  have hil:Hi.length=H'.length+1:=by rw [←hHi]; simp
  have sne:=vv_sne' w []
  rcases hend with ⟨e1,e2,e3⟩ | ⟨hno,x,hx,hxb⟩
  ·rw [e1,List.take_length] at hV2
   have hps:¬pos < (⟨w.toArray⟩:ByteArray).size:=by rw [e1]; exact Nat.lt_irrefl _
   have nend:∀(k:List It) s d,nxtB (runL PP primsL) (fEnd PP primsL (runL PP primsL) p146 H') (some ⟨.iter ⟨w.toArray⟩ pos,true,true,none⟩) H'.length d k s=nxt (runL PP primsL) (fEnd PP primsL (runL PP primsL) p146 H') (some (.tuple #[.bool false])) d k s:=fun k s d=>nxt_end _ _ _ _ hps
   have k144:=c144t ⟨w.toArray⟩ Hi
   have k144f:=c144f ⟨w.toArray⟩ Hi
   by_cases hw0:w=[]
   ·rw [decide_eq_true hw0] at sne
    have hn:numW w=none:=by unfold numW; rw [if_neg (fun h=>h.1 hw0)]
    simp (maxDischargeDepth:=8) only [↓SD,SU,SV,SW,simprocAttr,Int.cast_ofNat_Int,small,resV, q146x0,t0,t3,t7, g_nxt,nxt_v,hHi,gl,nend,sne,k144f]
    rw [yes_some]
    unfold QW; rw [hn]
    refine ⟨⟨w.toArray⟩,?_⟩
    simp [gcR,flat]; try omega
   ·have c2:w.length≤3:=e3.resolve_left hw0
    have hVb:V2≤999:=by rw [hV2]; exact valD_le c2 e2
    have k141:R (.func 141) [.int .i64 ((V2:Nat):Int)] Hi=some ⟨.ok (.string ⟨(dig3 V2).toArray⟩),Hi,Hi.length⟩:=c141 (by omega) (by omega) Hi
    have seq:=vv_seq' (dig3 V2) w
    rw [decide_eq_false hw0] at sne
    by_cases hne:dig3 V2=w
    ·rw [decide_eq_true hne] at seq
     have hn:numW w=some ((V2:Nat):Int):=by unfold numW; rw [if_pos ⟨hw0,c2,e2,by rw [←hV2]; exact hne⟩,←hV2]
     simp (maxDischargeDepth:=8) only [↓SD,SU,SV,SW,simprocAttr,Int.cast_ofNat_Int,small,resV, q146x0,t0,t3,t7, g_nxt,nxt_v,hHi,gl,nend,sne,k141,seq,k144,R146,N146]
     rw [yes_some]
     unfold QW; rw [hn]
     show gcR H' _ _ _=_
     rw [gc_ite (by omega)]; simp [flat]
    ·rw [decide_eq_false hne] at seq
     have hn:numW w=none:=by unfold numW; rw [if_neg (fun h=>hne (by rw [hV2]; exact h.2.2.2))]
     simp (maxDischargeDepth:=8) only [↓SD,SU,SV,SW,simprocAttr,Int.cast_ofNat_Int,small,resV, q146x0,t0,t3,t7, g_nxt,nxt_v,hHi,gl,nend,sne,k141,seq,k144f]
     rw [yes_some]
     unfold QW; rw [hn]
     refine ⟨⟨w.toArray⟩,?_⟩
     simp [gcR,flat]; try omega
  ·obtain ⟨c,wd,hdec,hcb⟩:=bad_rune hx hxb
   have hps:pos < (⟨w.toArray⟩:ByteArray).size:=(List.getElem?_eq_some_iff.1 hx).1
   obtain ⟨Hj,hHj⟩:∃Hj,H'++[({ obj:=.iter ⟨w.toArray⟩ (pos+wd) }:Blk)]=Hj:=⟨_,rfl⟩
   have hjl:Hj.length=H'.length+1:=by rw [←hHj]; simp
   have nok:∀(k:List It) T S lo d,nxtB (runL PP primsL) (fEnd PP primsL (runL PP primsL) p146 H') (some ⟨.iter ⟨w.toArray⟩ pos,true,true,none⟩) H'.length d k ⟨T,S,[],Hi,lo,41,false⟩=nxt (runL PP primsL) (fEnd PP primsL (runL PP primsL) p146 H') (some (.tuple #[.bool true,goInt pos,.int .i32 ((c:Nat):Int)])) d k ⟨T,S,[],Hj,min lo H'.length,41,false⟩:=fun k T S lo d=>by
    rw [nxt_ok _ _ _ _ _ _ _ _ _ _ _ hps,hdec,←hHi,set_last,hHj]
   have k144f:=c144f ⟨w.toArray⟩ Hj
   have fin:∀v lo,H'.length≤lo→QW H' w (gcR H' (.panic (.iface 157 (.agg #[.string v]))) Hj lo):=by
    intro v lo hlo
    unfold QW; rw [hno]
    refine ⟨v,?_⟩
    simp [gcR,flat,hlo]
   by_cases h1:c < 48
   ·have y1:((48:Int)≤((c:Nat):Int))=False:=eq_false (by omega)
    have y1':(((c:Nat):Int)≥48)=False:=y1
    simp (maxDischargeDepth:=8) only [↓SD,SU,SV,SW,simprocAttr,Int.cast_ofNat_Int,small,resV, q146x0,t0,t3,t7, g_nxt,nxt_v,hHi,gl,nok,y1,y1',k144f,goInt]
    rw [yes_some]
    exact fin _ _ (by omega)
   ·have y1:((48:Int)≤((c:Nat):Int))=True:=eq_true (by omega)
    have y1':(((c:Nat):Int)≥48)=True:=y1
    by_cases h2:57 < c
    ·have y2:(((c:Nat):Int)≤57)=False:=eq_false (by omega)
     simp (maxDischargeDepth:=8) only [↓SD,SU,SV,SW,simprocAttr,Int.cast_ofNat_Int,small,resV, q146x0,t0,t3,t7, g_nxt,nxt_v,hHi,gl,nok,y1,y1',y2,k144f,goInt]
     rw [yes_some]
     exact fin _ _ (by omega)
    ·have y2:(((c:Nat):Int)≤57)=True:=eq_true (by omega)
     have z2:(((w.length:Nat):Int)≤3)=False:=eq_false (by omega)
     simp (maxDischargeDepth:=8) only [↓SD,SU,SV,SW,simprocAttr,Int.cast_ofNat_Int,small,resV, q146x0,t0,t3,t7, g_nxt,nxt_v,hHi,gl,nok,y1,y1',y2,sl0,z2,k144f,goInt]
     rw [yes_some]
     exact fin _ _ (by omega)
end Go.Pi.L.Coa
