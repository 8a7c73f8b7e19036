/- Benches: hours that hands wait and work. -/
import Derived.Test.YtfndfpbdgjoilaaGreatDoorDE
set_option linter.all false
set_option maxRecDepth 100000
namespace Go.Pi.L.Ben
open Go Go.Pi Go.Pi.L Go.Pi.E Go.Pi.Ben BM

def lastOf (p:List Int)(e:Nat→Int)(h:Int):Nat→Int
 | 0=>0
 | j+1=>if p.getD j 0=h then e j else lastOf p e h j
theorem before_lastOf (p:List Int)(e:Nat→Int)(n:Nat):∀i,(match beforeN p n i with | some k=>e k | none=>0)=lastOf p e (p.getD n 0) i
 | 0=>rfl
 | i+1=>by
  simp only [beforeN,lastOf]
  by_cases h:p.getD i 0=p.getD n 0
  ·rw [if_pos h,if_pos h]
  ·rw [if_neg h,if_neg h]; exact before_lastOf p e n i
theorem free_lastOf (p:List Int)(e:Nat→Int)(n:Nat):freeN p e n=lastOf p e (p.getD n 0) n:=before_lastOf p e n n
theorem lastOf_b {p:List Int}{e:Nat→Int}{h M:Int}(h0:∀n,0≤e n):∀{j:Nat},(∀n,n < j→e n≤M)→0≤M→0≤lastOf p e h j∧lastOf p e h j≤M
 | 0,_,hM=>⟨Int.le_refl _,hM⟩
 | j+1,hj,hM=>by
  simp only [lastOf]
  split
  ·exact ⟨h0 j,hj j (by omega)⟩
  ·exact lastOf_b h0 (fun n hn=>hj n (by omega)) hM
theorem en_b {b:Bench}(hf:Fine b)(p:List Int)(g:Bool){n:Nat}(hn:n < b.strokes.length):0≤en b p g n∧en b p g n≤36:=by
 have hd:∀n,durW b (-1) 0 g n≤6:=fun n=>by
  have:=hf.dur n
  unfold durW
  cases g <;> simp only [cond_true,cond_false]
  ·omega
  ·split <;> omega
 refine ⟨(vE_b hf (by decide) (by decide) g n).1,?_⟩
 have:=eN_le (F:=follows b p) (dur:=durW b (-1) 0 g) (D:=6) (by decide) hd n
 have:=hf.n6
 show eN _ _ _≤36
 omega
theorem en_sum (b:Bench)(p:List Int)(g:Bool)(n:Nat):en b p g n=be b p g n+durW b (-1) 0 g n:=rfl
theorem durW_hi {b:Bench}{n:Nat}{s:Stroke}(h:b.strokes[n]?=some s):durW b (-1) 0 true n=s.hi:=by
 unfold durW high; rw [cond_true,if_neg (by omega),h]
theorem en_le {b:Bench}(hf:Fine b)(p:List Int)(n:Nat):en b p false n≤en b p true n:=by
 refine eN_mono (fun _ _ _ h=>h) (fun n=>?_) n
 have:=hf.dur n
 unfold durW
 rw [cond_true,cond_false,if_neg (by omega)]; omega
theorem lastH_mono {f g:Nat→Int}(h:∀n,f n≤g n)(l:List Nat):lastH (l.map f)≤lastH (l.map g):=by
 obtain ⟨_,_,h3⟩:=lastH_spec (l.map f)
 obtain ⟨g1,g2,_⟩:=lastH_spec (l.map g)
 rcases h3 with h3 | h3
 ·omega
 ·obtain ⟨n,hn,e⟩:=List.mem_map.1 h3
  have:=g2 (g n) (List.mem_map.2 ⟨n,hn,rfl⟩)
  have:=h n
  omega
theorem dn_le {b:Bench}(hf:Fine b)(p:List Int)(n:Int):dn b p false n≤dn b p true n:=lastH_mono (fun n=>en_le hf p n) _
theorem free_le {b:Bench}(hf:Fine b)(p:List Int)(g:Bool)(n:Nat):freeN p (en b p g) n≤be b p g n:=by
 unfold freeN
 cases hb:beforeN p n n with
 | none=>exact bN_nonneg _ _ _
 | some k =>
  obtain ⟨h1,h2,_⟩:=before_some hb
  refine eN_ge _ _ h1 ?_
  simp only [follows,Bool.or_eq_true,decide_eq_true_eq]
  exact .inl h2
theorem wait_step {b:Bench}{p:List Int}{h:Int}{j:Nat}{s:Stroke}(hs:b.strokes[j]?=some s)(hh:p.getD j 0=h) :
  lastOf p (en b p true) h j+(be b p true j - freeN p (en b p true) j)+s.hi=en b p true j:=by
 rw [free_lastOf,hh,en_sum,durW_hi hs]; omega
theorem waits_get {b:Bench}{p:List Int}{N j:Nat}(h:j < N):(waitsL b p N)[j]?=some (be b p true j - freeN p (en b p true) j):=by simp [waitsL,h]
theorem ends_get {b:Bench}{p:List Int}{N j:Nat}(h:j < N):(endsL b p N)[j]?=some (en b p false j,en b p true j):=by simp [endsL,h]
theorem late_get {b:Bench}{p bs:List Int}{N j:Nat}{d:Int}(h:j < N)(hd:bs[j]?=some d):(lateL b p bs N)[j]?=some (late1 d (dn b p false j) (dn b p true j)):=by
 unfold lateL
 have h2:(bs.take N)[j]?=some d:=by rw [List.getElem?_take_of_lt h]; exact hd
 simp [List.getElem?_zipIdx,h2]
end Go.Pi.L.Ben
set_option maxRecDepth 100000
namespace Go.Pi.L
open Go Go.Pi
theorem vv_bbt (x:Bool):vv (.bb true) [.bool x,.bool x]=some (.bool false):=by cases x <;> rfl
end Go.Pi.L
namespace Go.Pi.L.Ben
open Go Go.Pi Go.Pi.L Go.Pi.E Go.Pi.Ben BM

set_option maxHeartbeats 2000000 in
theorem c5 {H:Heap}{r:BeR}{b:Bench}{a:Option Addr}{l kk:Nat}{p:List Int}{board hand:Int}(hb:BeOk H r b)(hx:Ints H a l p)(hF:Fam H) :
  R (.func 5) [.agg #[.int .i64 r.app,.slice r.ba r.bl r.bk,.slice r.sa r.sl r.sk],.slice a l kk,.int .i64 board,.int .i64 hand] H=some ⟨.ok (.bool true),H,H.length⟩:=by
 refine run_k (pr 5) P5 (by simp [p5]) rfl ?_
 have l1:=hb.br.isLoc r.bk
 have l2:=hb.st.isLoc r.sk
 have l3:=hx.isLoc kk
 have k21:=c21 hb H (Grow.refl _)
 have k22:=c22 (H:=H) a l kk l3
 cases q1:(shortB r.xs r&&isBench b) with
 | false=>rw [q1] at k21; simp (maxDischargeDepth:=8) only [↓SD,SU,SV,SW,simprocAttr,Int.cast_ofNat_Int,small,resV, B5,R5,N5,b5, l1,l2,l3,k21,c25,R5,N5]
 | true =>
 rw [q1] at k21
 obtain ⟨q1a,hB⟩:=Bool.and_eq_true_iff.1 q1
 have hd:=short_sm hb q1a
 by_cases q2:l≤9
 case neg=>simp (maxDischargeDepth:=8) only [↓SD,SU,SV,SW,simprocAttr,Int.cast_ofNat_Int,small,resV, B5,R5,N5,b5, l1,l2,l3,k21,k22,q2,c25,R5,N5]
 have hl:l < 1000000:=by omega
 have k23:=c23 (kk:=kk) hb hx hl H (Grow.refl _)
 cases hP:isPlan b p with
 | false=>rw [hP] at k23; simp (maxDischargeDepth:=8) only [↓SD,SU,SV,SW,simprocAttr,Int.cast_ofNat_Int,small,resV, B5,R5,N5,b5, l1,l2,l3,k21,k22,q2,k23,c25,R5,N5]
 | true =>
 rw [hP] at k23
 have k39:=c39 hb hd board H (Grow.refl _)
 cases hbo:isBoard b board with
 | false=>rw [hbo] at k39; simp (maxDischargeDepth:=8) only [↓SD,SU,SV,SW,simprocAttr,Int.cast_ofNat_Int,small,resV, B5,R5,N5,b5, l1,l2,l3,k21,k22,q2,k23,k39,c25,R5,N5]
 | true =>
 rw [hbo] at k39
 by_cases q5:hand < 0
 case pos=>simp (maxDischargeDepth:=8) only [↓SD,SU,SV,SW,simprocAttr,Int.cast_ofNat_Int,small,resV, B5,R5,N5,b5, l1,l2,l3,k21,k22,q2,k23,k39,q5,c25,R5,N5]
 by_cases q6:r.app < hand
 case pos=>simp (maxDischargeDepth:=8) only [↓SD,SU,SV,SW,simprocAttr,Int.cast_ofNat_Int,small,resV, B5,R5,N5,b5, l1,l2,l3,k21,k22,q2,k23,k39,q5,q6,c25,R5,N5]
 have hf:=fine_of hB
 have hlen:p.length=b.strokes.length:=by simp only [isPlan,Bool.and_eq_true,decide_eq_true_eq] at hP; exact hP.1
 have b3:=hf.b3
 have n6:=hf.n6
 have hpl:l=b.strokes.length:=by rw [←hlen]; exact hx.len.symm
 have hbl:r.bl=b.boards.length:=hb.blen.symm
 obtain ⟨nb,rfl⟩:∃nb:Nat,board=nb:=⟨board.toNat,by unfold isBoard at hbo; rw [inL_iff] at hbo; omega⟩
 have hnb:nb < b.boards.length:=by unfold isBoard at hbo; rw [inL_iff] at hbo; omega
 obtain ⟨due,hdue⟩:∃d,b.boards[nb]?=some d:=⟨_,List.getElem?_eq_getElem hnb⟩
 have hll:(lateL b p b.boards b.boards.length).length=b.boards.length:=lateL_len (Nat.le_refl _)
 have hwl:(waitsL b p b.strokes.length).length=b.strokes.length:=by simp [waitsL]
 have hel:(endsL b p b.strokes.length).length=b.strokes.length:=by simp [endsL]
 obtain ⟨o,ho1,a1,m1,H1,lo1,rfl,u1,hlo1,s1⟩:=c32 (kk:=kk) hb hd hx hl hB hP H (Grow.refl _)
 have k40:=c40 (kk:=kk) hb hd hx hl hB hP hbo H1 u1.grow
 obtain ⟨o,ho2,a2,m2,H2,lo2,rfl,u2,hlo2,s2⟩:=c33 (kk:=kk) hb hd hx hl hB hP H1 u1.grow
 have g2:=u1.grow.trans u2.grow
 obtain ⟨o,ho3,a3,m3,H3,lo3,rfl,u3,hlo3,s3⟩:=c26 (kk:=kk) hb hd hx hl hB hP H2 g2
 have g3:=g2.trans u3.grow
 rw [hll] at ho1 s1
 rw [hwl] at ho2 s2
 rw [hel] at ho3 s3
 have i1:=s1.isLoc m1
 have i2:=s2.isLoc m2
 have i3:=s3.isLoc m3
 have h1:=u1.len
 have h2:=u2.len
 have h3:=u3.len
 obtain ⟨bb,bo,x,hba,hx1,fb⟩:=hb.br.i1 (j:=nb) (by omega)
 rw [hdue] at hx1; cases hx1
 have fb1:=fb H3 g3
 have iab:vv (.ia 1) [.slice r.ba r.bl r.bk,.int .i64 (nb:Nat)]=some (.pointer (some ⟨bb,bo+nb*1,none⟩)):=by rw [hba]; exact vv_iaN 1 bb bo nb _ _ _ (by omega)
 obtain ⟨wb,wo,w,hwa,hw1,fw⟩:=s1.i1 (j:=nb) (by omega)
 rw [late_get hnb hdue] at hw1; cases hw1
 have fw1:=fw H3 (u2.grow.trans u3.grow)
 have iaw:vv (.ia 1) [.slice a1 b.boards.length m1,.int .i64 (nb:Nat)]=some (.pointer (some ⟨wb,wo+nb*1,none⟩)):=by rw [hwa]; exact vv_iaN 1 wb wo nb _ _ _ (by omega)
 have hlh:=dn_le hf p (nb:Int)
 generalize hLo:dn b p false (nb:Int)=Lo at k40 fw1 hlh
 generalize hHi:dn b p true (nb:Int)=Hi at k40 fw1 hlh
 generalize hw:late1 due Lo Hi=w at fw1
 have e1:(w=3)=(due < Lo):=by
  rw [←hw]; unfold late1
  by_cases q1:due < Lo
  ·rw [if_pos q1]; simp [q1]
  ·rw [if_neg q1]; by_cases q2:due < Hi <;> simp [q1,q2]
 have e2:(w=1)=(Hi≤due):=by
  rw [←hw]; unfold late1
  by_cases q1:due < Lo
  ·rw [if_pos q1]
   have:¬Hi≤due:=by omega
   simp [this]
  ·rw [if_neg q1]
   by_cases q2:due < Hi
   ·rw [if_pos q2]
    have:¬Hi≤due:=by omega
    simp [this]
   ·rw [if_neg q2]
    have:Hi≤due:=by omega
    simp [this]
 have e3:(w < 1)=False:=by
  rw [←hw]; unfold late1
  by_cases q1:due < Lo <;> by_cases q2:due < Hi <;> simp [q1,q2]
 have e4:(3 < w)=False:=by
  rw [←hw]; unfold late1
  by_cases q1:due < Lo <;> by_cases q2:due < Hi <;> simp [q1,q2]
 have hbl':((b.boards.length:Nat):Int)=((r.bl:Nat):Int):=by rw [hbl]
 have hsl:((b.strokes.length:Nat):Int)=((l:Nat):Int):=by rw [hpl]
 rw [←hpl] at ho2 ho3 i2 i3 s2 s3
 simp (maxDischargeDepth:=8) only [↓SD,SU,SV,SW,simprocAttr,Int.cast_ofNat_Int,small,resV, B5,R5,N5,b5, l1,l2,l3,i1,i2,i3,k21,k22,q2,k23,k39,q5,q6,ho1,k40,ho2,ho3,hbl',iab,fb1,iaw,fw1,e1,e2,e3,e4,vv_bbt]
 refine loop_ind (G:=(·=_)) (fun j σ=>∃T S lim,σ=⟨T,S,[],H3,lim,211,false⟩∧get T 1=.slice a l kk∧get T 3=.int .i64 hand∧get T 4=.pointer (some ⟨4,0,some 1⟩)∧get T 13=.slice a2 l m2∧get T 15=.slice a3 l m3∧get T 17=.int .i64 (l:Nat)∧get T 19=.int .i64 (lastOf p (en b p true) hand j)∧get T 20=.int .i64 (lastOf p (en b p true) hand j)∧get T 21=.int .i64 (j:Nat)∧sget S 4=(1,.cells [.int .i64 r.app,.slice r.ba r.bl r.bk,.slice r.sa r.sl r.sk])∧(H.length≤lim)) (l) ?_ ?_ 0 _ (Nat.zero_le _) ⟨_,_,_,rfl,rfl,rfl,rfl,rfl,rfl,rfl,rfl,rfl,rfl,rfl,by omega⟩
 ·rintro c' j s hj ⟨T,S,lim,rfl,t1,t3,t4,t13,t15,t17,t19,t20,t21,s0,hp⟩ ih
  have hjs:j < b.strokes.length:=by omega
  obtain ⟨pb,po,x,hpa,hpx,fp⟩:=hx.i1 (j:=j) hj
  have fp1:=fp H3 g3
  have iap:vv (.ia 1) [.slice a l kk,.int .i64 (j:Nat)]=some (.pointer (some ⟨pb,po+j*1,none⟩)):=by rw [hpa]; exact vv_iaN 1 pb po j _ _ _ hj
  obtain ⟨cb,co,w2,hca,hw2,fw2⟩:=s2.i1 (j:=j) hj
  rw [waits_get hj] at hw2; cases hw2
  have fw3:=fw2 H3 u3.grow
  have iac:vv (.ia 1) [.slice a2 l m2,.int .i64 (j:Nat)]=some (.pointer (some ⟨cb,co+j*1,none⟩)):=by rw [hca]; exact vv_iaN 1 cb co j _ _ _ hj
  obtain ⟨eb,eo,x3,hea,hx3,fe⟩:=s3.at encP_len (by decide) hj
  rw [ends_get hj] at hx3; cases hx3
  have fe1:=At.v1 fe H3 (Grow.refl _)
  have iae:vv (.ia 2) [.slice a3 l m3,.int .i64 (j:Nat)]=some (.pointer (some ⟨eb,eo+j*2,none⟩)):=by rw [hea]; exact vv_iaN 2 eb eo j _ _ _ hj
  obtain ⟨sb,so,xk,hsa,hxk,fk⟩:=hb.st.k5 (j:=j) (by have:=hb.len; omega)
  have fk1:rdO (hcells H3 sb) (so+j*5+2+1) none=some (.int .i64 xk.s.hi):=fk.v3 H3 g3
  have ias:vv (.ia 5) [.slice r.sa r.sl r.sk,.int .i64 (j:Nat)]=some (.pointer (some ⟨sb,so+j*5,none⟩)):=by rw [hsa]; exact vv_iaN 5 sb so j _ _ _ (by have:=hb.len; omega)
  have hst:=hb.at hxk
  have hhi:=hf.hours j _ hst
  have hen:=en_b hf p true hjs
  have hfr:=free_le hf p true j
  have hfr0:=lastOf_b (e:=en b p true) (h:=p.getD j 0) (p:=p) (j:=j) (fun n=>(vE_b hf (p:=p) (lg:=-1) (by decide:(0:Int)≤0) (by decide) true n).1) (fun n hn=>(en_b hf p true (by omega)).2) (by decide)
  have hlo0:=lastOf_b (e:=en b p true) (h:=hand) (p:=p) (j:=j) (fun n=>(vE_b hf (p:=p) (lg:=-1) (by decide:(0:Int)≤0) (by decide) true n).1) (fun n hn=>(en_b hf p true (by omega)).2) (by decide)
  have hsum:=en_sum b p true j
  rw [durW_hi hst] at hsum
  have hfl:=free_lastOf p (en b p true) j
  have hgd:p.getD j 0=x:=getD_of hpx
  have hws:=fun h=>wait_step (b:=b) (p:=p) (h:=hand) hst (hgd.trans h)
  generalize hW:be b p true j - freeN p (en b p true) j=W at fw3 hws
  have z1:(W < 0)=False:=by simp; omega
  have z2:((60:Int) < W)=False:=by simp; omega
  have z3:((60:Int) < en b p true j)=False:=by simp; omega
  have hw1:=wrap_succ j (by omega)
  by_cases hh:x=hand
  ·have hws:=hws hh
   have w1:IntKind.wrap .i64 (lastOf p (en b p true) hand j+W)=lastOf p (en b p true) hand j+W:=wrap_id _ (by omega) (by omega)
   have w2:IntKind.wrap .i64 (lastOf p (en b p true) hand j+W+xk.s.hi)=en b p true j:=by rw [wrap_id _ (by omega) (by omega)]; exact hws
   have hn:lastOf p (en b p true) hand (j+1)=en b p true j:=by simp only [lastOf]; rw [if_pos (hgd.trans hh)]
   simp (maxDischargeDepth:=8) only [↓SD,SU,SV,SW,simprocAttr,Int.cast_ofNat_Int,small,resV, q5x0,t1,t3,t4,t13,t15,t17,t19,t20,t21,s0, lt_nat,hj,l1,l2,l3,i2,i3,s0,iap,fp1,iac,fw3,iae,fe1,ias,fk1,z1,z2,z3,hh,w1,w2,hw1]
   exact ih _ ⟨_,_,_,rfl,(by simp [get_set,t1] <;> omega),(by simp [get_set,t3] <;> omega),(by simp [get_set,t4] <;> omega),(by simp [get_set,t13] <;> omega),(by simp [get_set,t15] <;> omega),(by simp [get_set,t17] <;> omega),(by simp [get_set,t19] <;> omega),(by simp [get_set,t20] <;> omega),(by simp [get_set,t21] <;> omega),by simp [sget_sset,s0],by omega⟩
  ·have hn:lastOf p (en b p true) hand (j+1)=lastOf p (en b p true) hand j:=by simp only [lastOf]; rw [if_neg (fun e=>hh (hgd.symm.trans e))]
   simp (maxDischargeDepth:=8) only [↓SD,SU,SV,SW,simprocAttr,Int.cast_ofNat_Int,small,resV, q5x0,t1,t3,t4,t13,t15,t17,t19,t20,t21,s0, lt_nat,hj,l1,l2,l3,i2,i3,s0,iap,fp1,iac,fw3,iae,fe1,ias,fk1,z1,z2,z3,hh,hw1]
   exact ih _ ⟨_,_,_,rfl,(by simp [get_set,t1] <;> omega),(by simp [get_set,t3] <;> omega),(by simp [get_set,t4] <;> omega),(by simp [get_set,t13] <;> omega),(by simp [get_set,t15] <;> omega),(by simp [get_set,t17] <;> omega),(by simp [get_set,t19] <;> omega),(by simp [get_set,t20] <;> omega),(by simp [get_set,t21] <;> omega),by simp [sget_sset,s0],by omega⟩
 ·rintro c' s ⟨T,S,lim,rfl,t1,t3,t4,t13,t15,t17,t19,t20,t21,s0,hp⟩
  simp (maxDischargeDepth:=8) only [↓SD,SU,SV,SW,simprocAttr,Int.cast_ofNat_Int,small,resV, q5x0,t1,t3,t4,t13,t15,t17,t19,t20,t21,s0, lt_nat,Nat.lt_irrefl,c25,R5,N5]
  first | (rw [gc_ite (by omega)]; simp [flat]; done) | (simp [gcR,flat]; omega)
end Go.Pi.L.Ben
