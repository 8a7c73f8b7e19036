/- Coats: sheets that are the same; the law of texts that are written. -/
import Derived.Test.YtjidjpcnocddeaaGreatDoorDE
import Derived.Test.YtjidjpcnocddeaaGreatDoorDD
set_option linter.all false
set_option maxRecDepth 100000
namespace Go.Pi.L.Coa
open Go Go.Pi Go.Pi.L Go.Pi.Coa CM Go.Pi.Q

theorem c70 {H:Heap}{r rr:ShR}{s:Sheet}(hs:ShOk H r s)(hs':ShOk H rr s)(hd:Small r):∀H',Grow H H'→R (.func 70) [.agg #[.slice r.da r.dl r.dk,.slice r.wa r.wl r.wk,.slice r.ca r.cl r.ck],.agg #[.slice rr.da rr.dl rr.dk,.slice rr.wa rr.wl rr.wk,.slice rr.ca rr.cl rr.ck]] H'=some ⟨.ok (.bool true),H',H'.length⟩:=by
 intro H' hg
 obtain ⟨da,dl,dk,wa,wl,wk,ca,cl,ck⟩:=r
 obtain ⟨da',dl',dk',wa',wl',wk',ca',cl',ck'⟩:=rr
 have hD:Spans H da dl s.dry:=hs.d
 have hW:Ints H wa wl s.work:=hs.w
 have hC:Spans H ca cl s.coats:=hs.c
 have hD':Spans H da' dl' s.dry:=hs'.d
 have hW':Ints H wa' wl' s.work:=hs'.w
 have hC':Spans H ca' cl' s.coats:=hs'.c
 obtain rfl:dl=dl':=hD.len.symm.trans hD'.len
 obtain rfl:wl=wl':=hW.len.symm.trans hW'.len
 obtain rfl:cl=cl':=hC.len.symm.trans hC'.len
 have nD:dl < 1000000:=hd.d
 have nW:wl < 1000000:=hd.w
 have nC:cl < 1000000:=hd.c
 have l1:=hD.isLoc dk
 have l2:=hW.isLoc wk
 have l3:=hC.isLoc ck
 have l4:=hD'.isLoc dk'
 have l5:=hW'.isLoc wk'
 have l6:=hC'.isLoc ck'
 have k35:=c35 (kk:=wk) (km:=wk') hW hW' nW H' hg
 rw [same_iff.2 rfl] at k35
 refine run_k (pr 70) P70 (by simp [p70]) rfl ?_
 simp (maxDischargeDepth:=8) only [↓SD,SU,SV,SW,simprocAttr,Int.cast_ofNat_Int,small,resV, B70,R70,N70,b70, l1,l2,l3,l4,l5,l6,k35]
 refine loop_ind (G:=(·=_)) (fun j σ=>∃T S lim,σ=⟨T,S,[],H',lim,67,false⟩∧get T 2=.pointer (some ⟨2,0,some 1⟩)∧get T 3=.pointer (some ⟨3,0,some 1⟩)∧get T 5=.int .i64 (j:Nat)∧sget S 2=(1,.cells [.slice da dl dk,.slice wa wl wk,.slice ca cl ck])∧sget S 3=(1,.cells [.slice da' dl dk',.slice wa' wl wk',.slice ca' cl ck'])∧(H'.length≤lim)) (dl) ?_ ?_ 0 _ (Nat.zero_le _) ⟨_,_,_,rfl,rfl,rfl,rfl,rfl,rfl,Nat.le_refl _⟩
 ·rintro c' j s hj ⟨T,S,lim,rfl,t2,t3,t5,s0,s1,hp⟩ ih
  have hw:=wrap_succ j (by omega)
  obtain ⟨b1,o1,x,hxa,hx1,f,_,_⟩:=hD.s2 hj
  obtain ⟨b2,o2,x',hxa',hx1',f',_,_⟩:=hD'.s2 hj
  have f:=f H' hg
  have f':=f' H' hg
  rw [hx1] at hx1'
  cases hx1'
  have ia1:vv (.ia 2) [.slice da dl dk,.int .i64 (j:Nat)]=some (.pointer (some ⟨b1,o1+j*2,none⟩)):=by rw [hxa]; exact vv_iaN 2 b1 o1 j _ _ _ hj
  have ia2:vv (.ia 2) [.slice da' dl dk',.int .i64 (j:Nat)]=some (.pointer (some ⟨b2,o2+j*2,none⟩)):=by rw [hxa']; exact vv_iaN 2 b2 o2 j _ _ _ hj
  have ag:vv (.ag [(.i .i64),(.i .i64)] true) [.agg #[.int .i64 x.1,.int .i64 x.2],.agg #[.int .i64 x.1,.int .i64 x.2]]=some (.bool false):=by
   rw [vv_of (by rfl)]; simp [VOp.ev,hasAll,PK.has,eqs,eqv]
  simp (maxDischargeDepth:=8) only [↓SD,SU,SV,SW,simprocAttr,Int.cast_ofNat_Int,small,resV, q70x1,t2,t3,t5,s0,s1, s0,s1,lt_nat,hj,l1,l2,l3,l4,l5,l6,ia1,ia2,f,f',ag,hw,so_loc,k_fixb,sget_sset]
  exact ih _ ⟨_,_,(_),rfl,(by simp [get_set,t2] <;> omega),(by simp [get_set,t3] <;> omega),(by simp [get_set,t5] <;> omega),by simp [sget_sset,s0],by simp [sget_sset,s1],by omega⟩
 ·rintro c' s ⟨T,S,lim,rfl,t2,t3,t5,s0,s1,hp⟩
  simp (maxDischargeDepth:=8) only [↓SD,SU,SV,SW,simprocAttr,Int.cast_ofNat_Int,small,resV, q70x1,t2,t3,t5,s0,s1, s0,s1,lt_nat,Nat.lt_irrefl,l1,l2,l3,l4,l5,l6,sget_sset]
  refine loop_ind (G:=(·=_)) (fun j σ=>∃T S lim,σ=⟨T,S,[],H',lim,67,false⟩∧get T 2=.pointer (some ⟨2,0,some 1⟩)∧get T 3=.pointer (some ⟨3,0,some 1⟩)∧get T 6=.int .i64 (j:Nat)∧sget S 2=(1,.cells [.slice da dl dk,.slice wa wl wk,.slice ca cl ck])∧sget S 3=(1,.cells [.slice da' dl dk',.slice wa' wl wk',.slice ca' cl ck'])∧(H'.length≤lim)) (cl) ?_ ?_ 0 _ (Nat.zero_le _) ⟨_,_,_,rfl,(by first | (simp [get_set,t2,t3,t5]; done) | rfl),(by first | (simp [get_set,t2,t3,t5]; done) | rfl),(by first | (simp [get_set,t2,t3,t5]; done) | rfl),(by first | rfl | exact s0),(by first | rfl | exact s1),by omega⟩
  ·rintro c' j s hj ⟨T,S,lim,rfl,t2,t3,t6,s0,s1,hp⟩ ih
   have hw:=wrap_succ j (by omega)
   obtain ⟨b1,o1,x,hxa,hx1,f,_,_⟩:=hC.s2 hj
   obtain ⟨b2,o2,x',hxa',hx1',f',_,_⟩:=hC'.s2 hj
   have f:=f H' hg
   have f':=f' H' hg
   rw [hx1] at hx1'
   cases hx1'
   have ia1:vv (.ia 2) [.slice ca cl ck,.int .i64 (j:Nat)]=some (.pointer (some ⟨b1,o1+j*2,none⟩)):=by rw [hxa]; exact vv_iaN 2 b1 o1 j _ _ _ hj
   have ia2:vv (.ia 2) [.slice ca' cl ck',.int .i64 (j:Nat)]=some (.pointer (some ⟨b2,o2+j*2,none⟩)):=by rw [hxa']; exact vv_iaN 2 b2 o2 j _ _ _ hj
   have ag:vv (.ag [(.i .i64),(.i .i64)] true) [.agg #[.int .i64 x.1,.int .i64 x.2],.agg #[.int .i64 x.1,.int .i64 x.2]]=some (.bool false):=by
    rw [vv_of (by rfl)]; simp [VOp.ev,hasAll,PK.has,eqs,eqv]
   simp (maxDischargeDepth:=8) only [↓SD,SU,SV,SW,simprocAttr,Int.cast_ofNat_Int,small,resV, q70x0,t2,t3,t6,s0,s1, s0,s1,lt_nat,hj,l1,l2,l3,l4,l5,l6,ia1,ia2,f,f',ag,hw,so_loc,k_fixb,sget_sset]
   exact ih _ ⟨_,_,(_),rfl,(by simp [get_set,t2] <;> omega),(by simp [get_set,t3] <;> omega),(by simp [get_set,t6] <;> omega),by simp [sget_sset,s0],by simp [sget_sset,s1],by omega⟩
  ·rintro c' s ⟨T,S,lim,rfl,t2,t3,t6,s0,s1,hp⟩
   simp (maxDischargeDepth:=8) only [↓SD,SU,SV,SW,simprocAttr,Int.cast_ofNat_Int,small,resV, q70x0,t2,t3,t6,s0,s1, s0,s1,lt_nat,Nat.lt_irrefl,l1,l2,l3,l4,l5,l6,sget_sset,R70,N70]
   rw [gc_ite hp]; simp [flat]
set_option maxHeartbeats 2000000 in
theorem c19 {H:Heap}{r:ShR}{s:Sheet}(hs:ShOk H r s)(hF:Fam H):R (.func 19) [.agg #[.slice r.da r.dl r.dk,.slice r.wa r.wl r.wk,.slice r.ca r.cl r.ck]] H=some ⟨.ok (.bool true),H,H.length⟩:=by
 refine run_k (pr 19) P19 (by simp [p19]) rfl ?_
 have l1:=hs.d.isLoc r.dk
 have l2:=hs.w.isLoc r.wk
 have l3:=hs.c.isLoc r.ck
 have k22:=c22 hs H
 cases q1:isShort r with
 | false=>rw [q1] at k22; simp (maxDischargeDepth:=8) only [↓SD,SU,SV,SW,simprocAttr,Int.cast_ofNat_Int,small,resV, B19,R19,N19,b19, l1,l2,l3,k22,c23,R19,N19]
 | true =>
 rw [q1] at k22
 have hd:=short_small q1
 have k67:=c67 hs hd H (Grow.refl _)
 have k25:=c25 hs hd H (Grow.refl _)
 cases hB:isSheet s with
 | false =>
  rw [hB] at k67 k25
  simp only [Bool.false_eq_true,if_false] at k67
  have seq:=vv_seq' [] []
  rw [decide_eq_true rfl] at seq
  simp (maxDischargeDepth:=8) only [↓SD,SU,SV,SW,simprocAttr,Int.cast_ofNat_Int,small,resV, B19,R19,N19,b19, l1,l2,l3,k22,k67,k25,seq,c23,R19,N19]
 | true =>
 rw [hB] at k67 k25
 simp only [if_true] at k67
 obtain ⟨hnu,hwk,hT⟩:=sheet_nu hB
 obtain ⟨rr,H1,lo1,k68,u1,hlo1,hbp⟩:=c68 hT (parse_text hnu hwk) hB H hF
 have l4:=hbp.d.isLoc rr.dk
 have l5:=hbp.w.isLoc rr.wk
 have l6:=hbp.c.isLoc rr.ck
 have h1:=u1.len
 have k69:=c69 (hs.grow u1.grow) hnu hd.w H1 (Grow.refl _)
 have hd':Small rr:=⟨by have:=hbp.d.len; have:=hs.d.len; have:=hd.d; omega,by have:=hbp.w.len; have:=hs.w.len; have:=hd.w; omega,by have:=hbp.c.len; have:=hs.c.len; have:=hd.c; omega⟩
 have k70:=c70 hbp (hs.grow u1.grow) hd' H1 (Grow.refl _)
 have seq:=vv_seq' (textC s) (textC s)
 rw [decide_eq_true rfl] at seq
 simp (maxDischargeDepth:=8) only [↓SD,SU,SV,SW,simprocAttr,Int.cast_ofNat_Int,small,resV, B19,R19,N19,b19, l1,l2,l3,l4,l5,l6,k22,k67,k25,k68,k69,k70,seq,c23,R19,N19]
 first | (rw [gc_ite (by omega)]; simp [flat]; done) | (simp [gcR,flat]; omega)
end Go.Pi.L.Coa
set_option maxRecDepth 100000
namespace CM
open Go
def decM (n:Nat):List UInt8:=if n=0 then [48] else 45 :: Pi.Q.dig3 n
def numR (w:List UInt8):Int×Bool :=
 if w.getD 0 0=45 then (if 1≤(w.drop 1).length∧(w.drop 1).length≤3∧(w.drop 1).all isDig=true then (-((valD (w.drop 1) 0:Nat):Int),decide (decM (valD (w.drop 1) 0)=w)) else (0,false))
 else (if 1≤w.length∧w.length≤3∧w.all isDig=true then (((valD w 0:Nat):Int),decide (Pi.Q.dig3 (valD w 0)=w)) else (0,false))
theorem numR_W (w:List UInt8):numW w=if (numR w).2=true∧0≤(numR w).1 then some (numR w).1 else none:=by
 unfold numR
 by_cases h45:w.getD 0 0=45
 ·rw [if_pos h45]
  have hn:numW w=none:=by
   unfold numW
   rw [if_neg]
   rintro ⟨h1,_,h3,_⟩
   cases w with
   | nil=>exact h1 rfl
   | cons x l =>
    have hx:x=45:=h45
    have:=List.all_eq_true.1 h3 x (List.mem_cons_self ..)
    rw [hx] at this; exact absurd this (by decide)
  rw [hn,if_neg]
  split
  ·rename_i hc
   rintro ⟨h1,h2⟩
   simp only at h1 h2
   have h0:valD (w.drop 1) 0=0:=by omega
   rw [h0] at h1
   have hw:=of_decide_eq_true h1
   rw [←hw] at h45
   exact absurd h45 (by decide)
  ·rintro ⟨h1,_⟩; cases h1
 ·rw [if_neg h45]
  unfold numW
  by_cases hc:1≤w.length∧w.length≤3∧w.all isDig=true
  ·rw [if_pos hc]
   by_cases hd:Pi.Q.dig3 (valD w 0)=w
   ·rw [if_pos ⟨fun e=>by rw [e] at hc; exact absurd hc.1 (by decide),hc.2.1,hc.2.2,hd⟩,if_pos ⟨decide_eq_true hd,by omega⟩]
   ·rw [if_neg (fun h=>hd h.2.2.2),if_neg (fun h=>hd (of_decide_eq_true h.1))]
  ·rw [if_neg hc,if_neg (fun h=>hc ⟨by have:=h.1; cases w with | nil=>exact (this rfl).elim | cons=>simp,h.2.1,h.2.2.1⟩),if_neg (by simp)]
end CM
set_option maxRecDepth 100000
namespace CM
open Go
def numsR (xs:List (List UInt8)):Option (List Int):=xs.mapM fun w=>if (numR w).2=true then some (numR w).1 else none
end CM
namespace Go.Pi.L.Coa
open Go Go.Pi Go.Pi.L Go.Pi.Coa CM Go.Pi.Q
theorem mapM_cut (f:List UInt8→Option Int):∀xs:List (List UInt8),∃K ns,K≤xs.length∧ns.length=K∧(∀j,j < K→∃w z,xs[j]?=some w∧ns[j]?=some z∧f w=some z)∧((K=xs.length∧xs.mapM f=some ns)∨(xs.mapM f=none∧∃w,xs[K]?=some w∧f w=none))
 | []=>⟨0,[],Nat.le_refl _,rfl,fun j hj=>by omega,.inl ⟨rfl,rfl⟩⟩
 | w :: xs=>by
  obtain ⟨K,ns,a1,a2,a3,a4⟩:=mapM_cut f xs
  cases hw:f w with
  | none=>exact ⟨0,[],Nat.zero_le _,rfl,fun j hj=>by omega,.inr ⟨by simp [List.mapM_cons,hw],w,rfl,hw⟩⟩
  | some z =>
   refine ⟨K+1,z :: ns,by simp; omega,by simp [a2],fun j hj=>?_,?_⟩
   ·cases j with
    | zero=>exact ⟨w,z,rfl,rfl,hw⟩
    | succ j=>exact a3 j (by omega)
   ·rcases a4 with ⟨b1,b2⟩ | ⟨b1,y,b2,b3⟩
    ·exact .inl ⟨by simp [b1],by rw [List.mapM_cons,hw,b2]; rfl⟩
    ·exact .inr ⟨by rw [List.mapM_cons,hw,b1]; rfl,y,b2,b3⟩
theorem c148m1 {n:Nat}(h0:0 < n)(h:n < 10)(H:Heap):R (.func 148) [.int .i64 (-((n:Nat):Int))] H=some ⟨.ok (.string ⟨([45,UInt8.ofNat (48+n)]:List UInt8).toArray⟩),H,H.length⟩:=by
 refine run_k (pr 148) P148 (by simp [p148]) rfl ?_
 have z1:((-10:Int) < -((n:Nat):Int))=True:=eq_true (by omega)
 have z2:(-((n:Nat):Int) < 0)=True:=eq_true (by omega)
 have w1:IntKind.wrap .i64 (48 - -((n:Nat):Int))=((48+n:Nat):Int):=by rw [wrap_id _ (by omega) (by omega)]; omega
 have w2:IntKind.wrap .u8 ((48+n:Nat):Int)=((48+n:Nat):Int):=by unfold IntKind.wrap; simp [IntKind.bits,IntKind.signed]; omega
 have hb:Option.map (fun bs=>Value.string { data:=List.toArray bs }) ((some [Value.int .u8 ((48+n:Nat):Int)]).bind bytesOf)=some (.string ⟨[UInt8.ofNat (48+n)].toArray⟩):=rfl
 have s1:vv (.sb .add) [.string ⟨#[45]⟩,.string ⟨[UInt8.ofNat (48+n)].toArray⟩]=some (.string ⟨([45,UInt8.ofNat (48+n)]:List UInt8).toArray⟩):=vv_sadd [45] [UInt8.ofNat (48+n)] (by simp)
 simp (maxDischargeDepth:=8) only [↓SD,SU,SV,SW,simprocAttr,Int.cast_ofNat_Int,small,resV, B148,R148,N148,b148, z1,z2,w1,w2,g_b2s,b2sV,hb,s1,R148,N148]
theorem c148mz {n:Nat}(h0:10≤n)(h9:n < 1000)(H:Heap)(l:List UInt8)(hl:l.length≤10)(k0:R (.func 148) [.int .i64 (-((n / 10:Nat):Int))] H=some ⟨.ok (.string ⟨l.toArray⟩),H,H.length⟩):R (.func 148) [.int .i64 (-((n:Nat):Int))] H=some ⟨.ok (.string ⟨(l++[UInt8.ofNat (48+n % 10)]).toArray⟩),H,H.length⟩:=by
 refine run_k (pr 148) P148 (by simp [p148]) rfl ?_
 have z1:((-10:Int) < -((n:Nat):Int))=False:=eq_false (by omega)
 have z2:(-((n:Nat):Int) < 0)=True:=eq_true (by omega)
 have q1:Int.tdiv (-((n:Nat):Int)) 10=-((n / 10:Nat):Int):=by rw [Int.neg_tdiv]; rfl
 have q2:Int.tmod (-((n:Nat):Int)) 10=-((n % 10:Nat):Int):=by rw [Int.neg_tmod]; rfl
 have w0:IntKind.wrap .i64 (-((n / 10:Nat):Int))=-((n / 10:Nat):Int):=wrap_id _ (by omega) (by omega)
 have w1:IntKind.wrap .i64 (48 - -((n % 10:Nat):Int))=((48+n % 10:Nat):Int):=by rw [wrap_id _ (by omega) (by omega)]; omega
 have w2:IntKind.wrap .u8 ((48+n % 10:Nat):Int)=((48+n % 10:Nat):Int):=by unfold IntKind.wrap; simp [IntKind.bits,IntKind.signed]; omega
 have hb:Option.map (fun bs=>Value.string { data:=List.toArray bs }) ((some [Value.int .u8 ((48+n % 10:Nat):Int)]).bind bytesOf)=some (.string ⟨[UInt8.ofNat (48+n % 10)].toArray⟩):=rfl
 have s1:=vv_sadd l [UInt8.ofNat (48+n % 10)] (by simp; omega)
 simp (maxDischargeDepth:=8) only [↓SD,SU,SV,SW,simprocAttr,Int.cast_ofNat_Int,small,resV, B148,R148,N148,b148, z1,z2,vv_quo,vv_rem,q1,q2,w0,k0,w1,w2,goD_b2s,b2sV,hb,s1,so_loc,k_fixb,R148,N148]
theorem c148m {n:Nat}(h0:n≤999)(H:Heap):R (.func 148) [.int .i64 (-((n:Nat):Int))] H=some ⟨.ok (.string ⟨(decM n).toArray⟩),H,H.length⟩:=by
 by_cases hz:n=0
 ·subst hz
  exact c148 (z:=0) (by omega) (by omega) H
 have e:decM n=45 :: dig3 n:=by unfold decM; rw [if_neg hz]
 rw [e]
 have h1:∀m:Nat,0 < m→m < 10→R (.func 148) [.int .i64 (-((m:Nat):Int))] H=some ⟨.ok (.string ⟨(45 :: dig3 m).toArray⟩),H,H.length⟩:=fun m h0 hm=>by
  rw [dig3_one m hm]; exact c148m1 h0 hm H
 have h2:∀m:Nat,0 < m→m < 100→R (.func 148) [.int .i64 (-((m:Nat):Int))] H=some ⟨.ok (.string ⟨(45 :: dig3 m).toArray⟩),H,H.length⟩:=fun m h0 hm=>by
  by_cases h:m < 10
  ·exact h1 m h0 h
  ·have:=c148mz (n:=m) (by omega) (by omega) H _ (by have:=(dig_len (m / 10)).1; simp; omega) (h1 (m / 10) (by omega) (by omega))
   rw [List.cons_append,dig3_step m (by omega) (by omega)] at this
   exact this
 by_cases h:n < 100
 ·exact h2 n (by omega) h
 ·have:=c148mz (n:=n) (by omega) (by omega) H _ (by have:=(dig_len (n / 10)).1; simp; omega) (h2 (n / 10) (by omega) (by omega))
  rw [List.cons_append,dig3_step n (by omega) (by omega)] at this
  exact this
theorem wrap8 {x:Nat}(h1:48≤x)(h2:x < 256):IntKind.wrap .u8 (((x:Nat):Int) - 48)=((x - 48:Nat):Int):=by
 have e:((x:Nat):Int) - 48=((x - 48:Nat):Int):=by omega
 rw [e]; unfold IntKind.wrap; simp [IntKind.bits,IntKind.signed]; omega
theorem c149p {w:List UInt8}(hw0:w.length≤1000)(h45:¬w.getD 0 0=45)(H:Heap):R (.func 149) [.string ⟨w.toArray⟩,.int .i64 3] H=some ⟨.ok (.tuple #[.int .i64 (numR w).1,.bool (numR w).2]),H,H.length⟩:=by
 have eyb:1≤w.length∧w.length≤3∧w.all isDig=true→numR w=(((valD w 0:Nat):Int),decide (dig3 (valD w 0)=w)):=fun h=>by unfold numR; rw [if_neg h45,if_pos h]
 have enb:¬(1≤w.length∧w.length≤3∧w.all isDig=true)→numR w=(0,false):=fun h=>by unfold numR; rw [if_neg h45,if_neg h]
 have sl1:=vv_slen' w
 refine run_k (pr 149) P149 (by simp [p149]) rfl ?_
 by_cases hne:w=[]
 ·have y0:((0:Int) < ((w.length:Nat):Int))=False:=eq_false (by rw [hne]; simp)
  have y2:(((w.length:Nat):Int) < 1)=True:=eq_true (by rw [hne]; simp)
  rw [enb (fun h=>by rw [hne] at h; exact absurd h.1 (by decide))]
  simp (maxDischargeDepth:=8) only [↓SD,SU,SV,SW,simprocAttr,Int.cast_ofNat_Int,small,resV, B149,R149,N149,b149, sl1,y0,y2,R149,N149]
 obtain ⟨x0,hx0,hx45⟩:∃x,w[0]?=some x∧x≠45:=by
  cases w with
  | nil=>exact (hne rfl).elim
  | cons x l=>exact ⟨x,rfl,fun e=>h45 (by rw [e]; rfl)⟩
 have hwl:=(List.getElem?_eq_some_iff.1 hx0).1
 have y0:((0:Int) < ((w.length:Nat):Int))=True:=eq_true (by omega)
 have ix0:vv .ix [.string ⟨w.toArray⟩,.int .i64 0]=some (.int .u8 ((x0.toNat:Nat):Int)):=vv_ix' w .i64 0 x0 hx0
 have y1:(((x0.toNat:Nat):Int)=45)=False:=eq_false (fun h=>hx45 (UInt8.toNat_inj.1 (by show x0.toNat=45; omega)))
 obtain ⟨g,hg,hpre,hend⟩:=good_len w
 by_cases hl2:1≤w.length∧w.length≤3
 case neg =>
  rw [enb (fun h=>hl2 ⟨h.1,h.2.1⟩)]
  by_cases h1:w.length < 1
  ·have y2:(((w.length:Nat):Int) < 1)=True:=eq_true (by omega)
   simp (maxDischargeDepth:=8) only [↓SD,SU,SV,SW,simprocAttr,Int.cast_ofNat_Int,small,resV, B149,R149,N149,b149, y0,ix0,y1,sl1,y2,R149,N149]
  ·have y2:(((w.length:Nat):Int) < 1)=False:=eq_false (by omega)
   have y3:((3:Int) < ((w.length:Nat):Int))=True:=eq_true (by omega)
   simp (maxDischargeDepth:=8) only [↓SD,SU,SV,SW,simprocAttr,Int.cast_ofNat_Int,small,resV, B149,R149,N149,b149, y0,ix0,y1,sl1,y2,y3,R149,N149]
 have y2:(((w.length:Nat):Int) < 1)=False:=eq_false (by omega)
 have y3:((3:Int) < ((w.length:Nat):Int))=False:=eq_false (by omega)
 simp (maxDischargeDepth:=8) only [↓SD,SU,SV,SW,simprocAttr,Int.cast_ofNat_Int,small,resV, B149,R149,N149,b149, y0,ix0,y1,sl1,y2,y3]
 refine loop_ind (G:=(·=_)) (fun j σ=>∃T S V2,σ=⟨T,S,[],H,(H).length,63,false⟩∧get T 0=.string ⟨w.toArray⟩∧get T 6=.int .i64 1∧get T 7=.string ⟨(w).toArray⟩∧get T 8=.int .i64 ((V2:Nat):Int)∧get T 9=.int .i64 (j:Nat)∧(V2=valD (w.take j) 0)) (g) ?_ ?_ 0 _ (Nat.zero_le _) ⟨_,_,_,rfl,rfl,rfl,rfl,rfl,rfl,rfl⟩
 ·rintro c' j s hj ⟨T,S,V2,rfl,t0,t6,t7,t8,t9,hp⟩ ih
  obtain ⟨x,hx,hxd,_⟩:=hpre j hj
  rw [isDig_iff] at hxd
  have hw:=wrap_succ j (by omega)
  have hjl:j < w.length:=by omega
  have ix:=vv_ix' w .i64 j x hx
  have hx8:x.toNat < 256:=x.toNat_lt
  have v9:V2≤999:=by rw [hp]; exact valD_le (by rw [List.length_take]; omega) (by
   rw [List.all_eq_true]; intro y hy
   obtain ⟨i,hi,e⟩:=List.mem_iff_getElem.1 hy
   rw [List.length_take] at hi
   obtain ⟨y',hy1,hy2,_⟩:=hpre i (by omega)
   rw [List.getElem_take] at e
   rw [List.getElem?_eq_getElem (by omega),e] at hy1
   cases hy1; exact hy2)
  have hV3:valD (w.take (j+1)) 0=10*V2+(x.toNat - 48):=by rw [take_get hx,valD_snoc,hp]
  have y4:(((x.toNat:Nat):Int) < 48)=False:=eq_false (by omega)
  have y5:((57:Int) < ((x.toNat:Nat):Int))=False:=eq_false (by omega)
  have m1:IntKind.wrap .i64 (10*((V2:Nat):Int))=((10*V2:Nat):Int):=by rw [wrap_id _ (by omega) (by omega)]; omega
  have m2:=wrap8 (x:=x.toNat) (by omega) hx8
  have m3:IntKind.wrap .i64 ((x.toNat - 48:Nat):Int)=((x.toNat - 48:Nat):Int):=wrapN (by omega)
  have m4:IntKind.wrap .i64 (((10*V2:Nat):Int)+((x.toNat - 48:Nat):Int))=((10*V2+(x.toNat - 48):Nat):Int):=by
   rw [←Int.natCast_add]; exact wrapN (by omega)
  simp (maxDischargeDepth:=8) only [↓SD,SU,SV,SW,simprocAttr,Int.cast_ofNat_Int,small,resV, q149x0,t0,t6,t7,t8,t9, lt_nat,hjl,sl1,ix,y4,y5,m1,m2,m3,m4,hw]
  exact ih _ ⟨_,_,(10*V2+(x.toNat - 48)),rfl,(by simp [get_set,t0] <;> omega),(by simp [get_set,t6] <;> omega),(by simp [get_set,t7] <;> omega),(by simp [get_set,t8] <;> omega),(by simp [get_set,t9] <;> omega),hV3.symm⟩
 ·rintro c' s ⟨T,S,V2,rfl,t0,t6,t7,t8,t9,hp⟩
  rcases hend with ⟨e1,e2,_⟩ | ⟨_,x,hx,hbad⟩
  ·have hc:1≤w.length∧w.length≤3∧w.all isDig=true:=⟨hl2.1,hl2.2,e2⟩
   rw [eyb hc]
   subst e1
   rw [List.take_length] at hp
   subst hp
   have v9:valD w 0≤999:=valD_le hl2.2 e2
   have m1:IntKind.wrap .i64 (1*((valD w 0:Nat):Int))=((valD w 0:Nat):Int):=by rw [wrap_id _ (by omega) (by omega)]; omega
   have k148:R (.func 148) [.int .i64 ((valD w 0:Nat):Int)] H=some ⟨.ok (.string ⟨(dig3 (valD w 0)).toArray⟩),H,H.length⟩:=c148 (z:=((valD w 0:Nat):Int)) (by omega) (by omega) H
   have seq:=vv_seq' (dig3 (valD w 0)) w
   simp (maxDischargeDepth:=8) only [↓SD,SU,SV,SW,simprocAttr,Int.cast_ofNat_Int,small,resV, q149x0,t0,t6,t7,t8,t9, lt_nat,Nat.lt_irrefl,sl1,m1,k148,seq,R149,N149]
  ·have hxd:isDig x=false:=hbad.resolve_right (fun h=>h hl2.2)
   have hall:¬(1≤w.length∧w.length≤3∧w.all isDig=true):=fun h=>by
    have:=List.all_eq_true.1 h.2.2 x (List.mem_of_getElem? hx)
    rw [hxd] at this; cases this
   rw [enb hall]
   have hgl:g < w.length:=(List.getElem?_eq_some_iff.1 hx).1
   have ix:=vv_ix' w .i64 g x hx
   have hx2:¬(48≤x.toNat∧x.toNat≤57):=fun h=>by rw [isDig_iff.2 h] at hxd; cases hxd
   by_cases h48:x.toNat < 48
   ·have y4:(((x.toNat:Nat):Int) < 48)=True:=eq_true (by omega)
    simp (maxDischargeDepth:=8) only [↓SD,SU,SV,SW,simprocAttr,Int.cast_ofNat_Int,small,resV, q149x0,t0,t6,t7,t8,t9, lt_nat,hgl,sl1,ix,y4,R149,N149]
   ·have y4:(((x.toNat:Nat):Int) < 48)=False:=eq_false (by omega)
    have y5:((57:Int) < ((x.toNat:Nat):Int))=True:=eq_true (by omega)
    simp (maxDischargeDepth:=8) only [↓SD,SU,SV,SW,simprocAttr,Int.cast_ofNat_Int,small,resV, q149x0,t0,t6,t7,t8,t9, lt_nat,hgl,sl1,ix,y4,y5,R149,N149]
theorem c149m {s:List UInt8}(hw0:s.length≤1000)(H:Heap):R (.func 149) [.string ⟨(45 :: s).toArray⟩,.int .i64 3] H=some ⟨.ok (.tuple #[.int .i64 (numR (45 :: s)).1,.bool (numR (45 :: s)).2]),H,H.length⟩:=by
 have eyb:1≤s.length∧s.length≤3∧s.all isDig=true→numR (45 :: s)=(-((valD s 0:Nat):Int),decide (decM (valD s 0)=45 :: s)):=fun h=>by unfold numR; rw [if_pos (show (45 :: s).getD 0 0=45 from rfl)]; exact if_pos h
 have enb:¬(1≤s.length∧s.length≤3∧s.all isDig=true)→numR (45 :: s)=(0,false):=fun h=>by unfold numR; rw [if_pos (show (45 :: s).getD 0 0=45 from rfl)]; exact if_neg h
 have sl1:=vv_slen' s
 have sl0:=vv_slen' (45 :: s)
 have y0:((0:Int) < (((45 :: s).length:Nat):Int))=True:=eq_true (by rw [List.length_cons]; omega)
 have ix0:vv .ix [.string ⟨(45 :: s).toArray⟩,.int .i64 0]=some (.int .u8 45):=vv_ix' (45 :: s) .i64 0 45 rfl
 have sls:vv (.sls true false) [.string ⟨(45 :: s).toArray⟩,.int .i64 1]=some (.string ⟨s.toArray⟩):=vv_slsL (45 :: s) .i64 1 (by simp)
 obtain ⟨w,hw⟩:∃w,45 :: s=w:=⟨_,rfl⟩
 rw [hw] at sl0 y0 ix0 sls enb eyb ⊢
 refine run_k (pr 149) P149 (by simp [p149]) rfl ?_
 obtain ⟨g,hg,hpre,hend⟩:=good_len s
 by_cases hl2:1≤s.length∧s.length≤3
 case neg =>
  rw [enb (fun h=>hl2 ⟨h.1,h.2.1⟩)]
  by_cases h1:s.length < 1
  ·have y2:(((s.length:Nat):Int) < 1)=True:=eq_true (by omega)
   simp (maxDischargeDepth:=8) only [↓SD,SU,SV,SW,simprocAttr,Int.cast_ofNat_Int,small,resV, B149,R149,N149,b149, sl0,y0,ix0,sls,sl1,y2,R149,N149]
  ·have y2:(((s.length:Nat):Int) < 1)=False:=eq_false (by omega)
   have y3:((3:Int) < ((s.length:Nat):Int))=True:=eq_true (by omega)
   simp (maxDischargeDepth:=8) only [↓SD,SU,SV,SW,simprocAttr,Int.cast_ofNat_Int,small,resV, B149,R149,N149,b149, sl0,y0,ix0,sls,sl1,y2,y3,R149,N149]
 have y2:(((s.length:Nat):Int) < 1)=False:=eq_false (by omega)
 have y3:((3:Int) < ((s.length:Nat):Int))=False:=eq_false (by omega)
 simp (maxDischargeDepth:=8) only [↓SD,SU,SV,SW,simprocAttr,Int.cast_ofNat_Int,small,resV, B149,R149,N149,b149, sl0,y0,ix0,sls,sl1,y2,y3]
 refine loop_ind (G:=(·=_)) (fun j σ=>∃T S V2,σ=⟨T,S,[],H,(H).length,63,false⟩∧get T 0=.string ⟨w.toArray⟩∧get T 6=.int .i64 (-1)∧get T 7=.string ⟨(s).toArray⟩∧get T 8=.int .i64 ((V2:Nat):Int)∧get T 9=.int .i64 (j:Nat)∧(V2=valD (s.take j) 0)) (g) ?_ ?_ 0 _ (Nat.zero_le _) ⟨_,_,_,rfl,rfl,rfl,rfl,rfl,rfl,rfl⟩
 ·rintro c' j s hj ⟨T,S,V2,rfl,t0,t6,t7,t8,t9,hp⟩ ih
  obtain ⟨x,hx,hxd,_⟩:=hpre j hj
  rw [isDig_iff] at hxd
  have hw:=wrap_succ j (by omega)
  have hjl:j < s.length:=by omega
  have ix:=vv_ix' s .i64 j x hx
  have hx8:x.toNat < 256:=x.toNat_lt
  have v9:V2≤999:=by rw [hp]; exact valD_le (by rw [List.length_take]; omega) (by
   rw [List.all_eq_true]; intro y hy
   obtain ⟨i,hi,e⟩:=List.mem_iff_getElem.1 hy
   rw [List.length_take] at hi
   obtain ⟨y',hy1,hy2,_⟩:=hpre i (by omega)
   rw [List.getElem_take] at e
   rw [List.getElem?_eq_getElem (by omega),e] at hy1
   cases hy1; exact hy2)
  have hV3:valD (s.take (j+1)) 0=10*V2+(x.toNat - 48):=by rw [take_get hx,valD_snoc,hp]
  have y4:(((x.toNat:Nat):Int) < 48)=False:=eq_false (by omega)
  have y5:((57:Int) < ((x.toNat:Nat):Int))=False:=eq_false (by omega)
  have m1:IntKind.wrap .i64 (10*((V2:Nat):Int))=((10*V2:Nat):Int):=by rw [wrap_id _ (by omega) (by omega)]; omega
  have m2:=wrap8 (x:=x.toNat) (by omega) hx8
  have m3:IntKind.wrap .i64 ((x.toNat - 48:Nat):Int)=((x.toNat - 48:Nat):Int):=wrapN (by omega)
  have m4:IntKind.wrap .i64 (((10*V2:Nat):Int)+((x.toNat - 48:Nat):Int))=((10*V2+(x.toNat - 48):Nat):Int):=by
   rw [←Int.natCast_add]; exact wrapN (by omega)
  simp (maxDischargeDepth:=8) only [↓SD,SU,SV,SW,simprocAttr,Int.cast_ofNat_Int,small,resV, q149x0,t0,t6,t7,t8,t9, lt_nat,hjl,sl1,ix,y4,y5,m1,m2,m3,m4,hw]
  exact ih _ ⟨_,_,(10*V2+(x.toNat - 48)),rfl,(by simp [get_set,t0] <;> omega),(by simp [get_set,t6] <;> omega),(by simp [get_set,t7] <;> omega),(by simp [get_set,t8] <;> omega),(by simp [get_set,t9] <;> omega),hV3.symm⟩
 ·rintro c' s ⟨T,S,V2,rfl,t0,t6,t7,t8,t9,hp⟩
  rcases hend with ⟨e1,e2,_⟩ | ⟨_,x,hx,hbad⟩
  ·have hc:1≤s.length∧s.length≤3∧s.all isDig=true:=⟨hl2.1,hl2.2,e2⟩
   rw [eyb hc]
   subst e1
   rw [List.take_length] at hp
   subst hp
   have v9:valD s 0≤999:=valD_le hl2.2 e2
   have m1:IntKind.wrap .i64 ((-1)*((valD s 0:Nat):Int))=(-((valD s 0:Nat):Int)):=by rw [wrap_id _ (by omega) (by omega)]; omega
   have k148:R (.func 148) [.int .i64 (-((valD s 0:Nat):Int))] H=some ⟨.ok (.string ⟨(decM (valD s 0)).toArray⟩),H,H.length⟩:=c148m v9 H
   have seq:=vv_seq' (decM (valD s 0)) w
   simp (maxDischargeDepth:=8) only [↓SD,SU,SV,SW,simprocAttr,Int.cast_ofNat_Int,small,resV, q149x0,t0,t6,t7,t8,t9, lt_nat,Nat.lt_irrefl,sl1,m1,k148,seq,R149,N149]
  ·have hxd:isDig x=false:=hbad.resolve_right (fun h=>h hl2.2)
   have hall:¬(1≤s.length∧s.length≤3∧s.all isDig=true):=fun h=>by
    have:=List.all_eq_true.1 h.2.2 x (List.mem_of_getElem? hx)
    rw [hxd] at this; cases this
   rw [enb hall]
   have hgl:g < s.length:=(List.getElem?_eq_some_iff.1 hx).1
   have ix:=vv_ix' s .i64 g x hx
   have hx2:¬(48≤x.toNat∧x.toNat≤57):=fun h=>by rw [isDig_iff.2 h] at hxd; cases hxd
   by_cases h48:x.toNat < 48
   ·have y4:(((x.toNat:Nat):Int) < 48)=True:=eq_true (by omega)
    simp (maxDischargeDepth:=8) only [↓SD,SU,SV,SW,simprocAttr,Int.cast_ofNat_Int,small,resV, q149x0,t0,t6,t7,t8,t9, lt_nat,hgl,sl1,ix,y4,R149,N149]
   ·have y4:(((x.toNat:Nat):Int) < 48)=False:=eq_false (by omega)
    have y5:((57:Int) < ((x.toNat:Nat):Int))=True:=eq_true (by omega)
    simp (maxDischargeDepth:=8) only [↓SD,SU,SV,SW,simprocAttr,Int.cast_ofNat_Int,small,resV, q149x0,t0,t6,t7,t8,t9, lt_nat,hgl,sl1,ix,y4,y5,R149,N149]
theorem c149 {w:List UInt8}(hw0:w.length≤1000)(H:Heap):R (.func 149) [.string ⟨w.toArray⟩,.int .i64 3] H=some ⟨.ok (.tuple #[.int .i64 (numR w).1,.bool (numR w).2]),H,H.length⟩:=by
 by_cases h45:w.getD 0 0=45
 ·cases w with
  | nil=>exact absurd h45 (by decide)
  | cons x s =>
   have hx:x=45:=h45
   subst hx
   exact c149m (by simp at hw0; omega) H
 ·exact c149p hw0 h45 H
end Go.Pi.L.Coa
set_option maxRecDepth 100000
namespace Go.Pi.L.Coa
open Go Go.Pi Go.Pi.L Go.Pi.Coa CM Go.Pi.Q

def QR (H:Heap)(xs:List (List UInt8))(o:Out):Prop :=
 ∃(a:Option Addr) (m:Nat) (zs:List Int) (ok:Bool) (H1:Heap) (lo:Nat),o=⟨.ok (.tuple #[.slice a zs.length m,.bool ok]),H1,lo⟩∧Up H H1∧H.length≤lo∧Ints H1 a zs.length zs∧Nw H.length a∧zs.length≤xs.length∧(match numsR xs with | some ns=>zs=ns∧ok=true | none=>ok=false)
theorem gc_tup {H H1:Heap}{xs:List (List UInt8)}{m lo:Nat}{a:Option Addr}{zs:List Int}{ok:Bool}(hs:Ints H1 a zs.length zs)(hu:Up H H1)(h:H.length≤lo)(hn:Nw H.length a)(hl:zs.length≤xs.length)(he:match numsR xs with | some ns=>zs=ns∧ok=true | none=>ok=false) :
  QR H xs (gcR H (.ok (.tuple #[.slice a zs.length m,.bool ok])) H1 lo):=by
 rw [gc_ite h]
 split
 ·rename_i hf
  have hf':flat 3 (.slice a zs.length m)=true:=by simpa [flat] using hf
  exact ⟨a,m,zs,ok,H,H.length,rfl,Up.refl H,Nat.le_refl _,hs.flat hf',hn,hl,he⟩
 ·exact ⟨a,m,zs,ok,H1,lo,rfl,hu,h,hs,hn,hl,he⟩
theorem c115 {H:Heap}{a:Option Addr}{l kk:Nat}{xs:List (List UInt8)}(hs:Sl H 1 encT a l xs)(hl:l≤1000)(hx:∀w∈xs,w.length≤1000):∀H',Grow H H'→Yes (R (.func 115) [.slice a l kk,.int .i64 3] H') (QR H' xs):=by
 intro H' hg
 obtain ⟨K,ns,hK,hns,hgood,hend⟩:=mapM_cut (fun w=>if (numR w).2=true then some (numR w).1 else none) xs
 have hlen:=hs.len
 refine run_y (pr 115) P115 (by simp [p115]) rfl ?_
 have l1:=hs.isLoc kk
 simp (maxDischargeDepth:=8) only [↓SD,SU,SV,SW,simprocAttr,Int.cast_ofNat_Int,small,resV, B115,R115,N115,b115, l1]
 refine loop_ind (G:=(Yes · (QR H' xs))) (fun j σ=>∃T S H3 al m lim,σ=⟨T,S,[],H3,lim,32,false⟩∧get T 0=.slice a l kk∧get T 1=.int .i64 3∧get T 6=.slice al j m∧get T 7=.int .i64 (j:Nat)∧(Bld H'.length H3 1 al j m (cells encI (ns.take j))∧Up H' H3∧H'.length≤lim)) (K) ?_ ?_ 0 _ (Nat.zero_le _) ⟨_,_,_,_,_,_,rfl,rfl,rfl,rfl,rfl,⟨Bld.nil _ _ _,Up.refl _,Nat.le_refl _⟩⟩
 ·rintro c' j s hj ⟨T,S,H3,al,m,lim,rfl,t0,t1,t6,t7,hp⟩ ih
  obtain ⟨hbd,hu,hlim⟩:=hp
  have hw:=wrap_succ j (by omega)
  have l8:isLoc (.slice al j m)=false:=hbd.isLoc _ _
  have hul:=hu.len
  have hjl:j < l:=by omega
  obtain ⟨w,z,hwj,hzj,hnw⟩:=hgood j hj
  obtain ⟨b1,o1,w',hwa,hw1,hat⟩:=hs.at encT_len (by decide) hjl
  rw [hwj] at hw1; cases hw1
  have fw:rdO (hcells H3 b1) (o1+j*1) none=some (.string ⟨w.toArray⟩):=At.v0 hat H3 (hg.trans hu.grow)
  have iaw:vv (.ia 1) [.slice a l kk,.int .i64 (j:Nat)]=some (.pointer (some ⟨b1,o1+j*1,none⟩)):=by rw [hwa]; exact vv_iaN 1 b1 o1 j _ _ _ hjl
  split at hnw
  ·rename_i hok
   cases hnw
   have k149:=c149 (hx w (List.mem_of_getElem? hwj)) H3
   rw [hok] at k149
   obtain ⟨z,hz⟩:∃z,(numR w).1=z:=⟨_,rfl⟩
   rw [hz] at k149 hzj
   obtain ⟨H6,p1,p2,p3,p4⟩:=hbd.app (by decide) (by decide) (by omega) hul [.int .i64 z] rfl
   have u6:=p3.up hbd hu (Nat.le_refl _)
   have p2':Bld H'.length H6 1 (some ⟨H3.length,0,none⟩) (j+1) 1 (cells encI (ns.take (j+1))):=by rw [take_get hzj,cells_app]; exact p2
   simp (maxDischargeDepth:=8) only [↓SD,SU,SV,SW,simprocAttr,Int.cast_ofNat_Int,small,resV, q115x0,t0,t1,t6,t7, lt_nat,hjl,l1,l8,iaw,fw,k149,hw,p1]
   exact ih _ ⟨_,_,(H6),(some ⟨H3.length,0,none⟩),(1),(_),rfl,(by simp [get_set,t0] <;> omega),(by simp [get_set,t1] <;> omega),(by simp [get_set,t6] <;> omega),(by simp [get_set,t7] <;> omega),⟨p2',u6,by omega⟩⟩
  ·cases hnw
 ·rintro c' s ⟨T,S,H3,al,m,lim,rfl,t0,t1,t6,t7,hp⟩
  obtain ⟨hbd,hu,hlim⟩:=hp
  have l8:isLoc (.slice al K m)=false:=hbd.isLoc _ _
  have hul:=hu.len
  rcases hend with ⟨e1,e2⟩ | ⟨e1,w,hw,hn⟩
  ·have hKl:K=l:=by omega
   subst hKl
   rw [List.take_of_length_le (by omega)] at hbd
   simp (maxDischargeDepth:=8) only [↓SD,SU,SV,SW,simprocAttr,Int.cast_ofNat_Int,small,resV, q115x0,t0,t1,t6,t7, lt_nat,Nat.lt_irrefl,l1,l8,R115,N115]
   rw [yes_some]
   have hsl:=hbd.sl encI_len (by decide)
   obtain rfl:=hns
   exact gc_tup (zs:=ns) hsl hu (by omega) (bld_nw hbd) hK (by rw [show numsR xs=some ns from e2]; exact ⟨rfl,rfl⟩)
  ·have hKx:=(List.getElem?_eq_some_iff.1 hw).1
   have hjl:K < l:=by omega
   obtain ⟨b1,o1,w',hwa,hw1,hat⟩:=hs.at encT_len (by decide) hjl
   rw [hw] at hw1; cases hw1
   have fw:rdO (hcells H3 b1) (o1+K*1) none=some (.string ⟨w.toArray⟩):=At.v0 hat H3 (hg.trans hu.grow)
   have iaw:vv (.ia 1) [.slice a l kk,.int .i64 (K:Nat)]=some (.pointer (some ⟨b1,o1+K*1,none⟩)):=by rw [hwa]; exact vv_iaN 1 b1 o1 K _ _ _ hjl
   have hok:(numR w).2=false:=by
    cases h:(numR w).2 with
    | false=>rfl
    | true=>rw [if_pos h] at hn; cases hn
   have k149:=c149 (hx w (List.mem_of_getElem? hw)) H3
   rw [hok] at k149
   simp (maxDischargeDepth:=8) only [↓SD,SU,SV,SW,simprocAttr,Int.cast_ofNat_Int,small,resV, q115x0,t0,t1,t6,t7, lt_nat,hjl,l1,l8,iaw,fw,k149,R115,N115]
   rw [yes_some]
   exact gc_tup (zs:=[]) Sl.none hu (by omega) (.inl rfl) (Nat.zero_le _) (by rw [show numsR xs=none from e1])
end Go.Pi.L.Coa
