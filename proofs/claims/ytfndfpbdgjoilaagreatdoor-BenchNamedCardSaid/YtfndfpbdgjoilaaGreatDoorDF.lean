/- Benches: lists that are copied, strokes that are linked, hours to spare. -/
import Derived.Test.YtfndfpbdgjoilaaGreatDoorDE
set_option linter.all false
set_option maxRecDepth 100000
namespace Go.Pi.L
open Go Go.Pi
theorem vv_nl_s0 (ne l m):vv (.nl .slice ne) [.slice none l m]=some (.bool (true != ne)):=by rw [vv_of rfl]; rfl
theorem vv_nl_s (ne b o l m):vv (.nl .slice ne) [.slice (some ⟨b,o,none⟩) l m]=some (.bool (false != ne)):=by rw [vv_of rfl]; rfl
theorem Sl.elems {β:Type}{H:Heap}{k:Nat}{enc:β→List Value}{a:Option Addr}{l:Nat}{xs:List β}(h:Sl H k enc a l xs)(hk:∀x,(enc x).length=k)(k0:0 < k)(m:Nat)(T S D lo n rnd):elemsL ⟨T,S,D,H,lo,n,rnd⟩ k (.slice a l m)=some (cells enc xs):=by
 obtain rfl:=h.len
 have e0:elemsL ⟨T,S,D,H,lo,n,rnd⟩ k (.slice a xs.length m)=Go.Pi.elems H k (.slice a xs.length m):=by
  rcases h.loc with rfl | ⟨b,off,rfl⟩
  ·rfl
  ·unfold elemsL; split
   ·rename_i he; cases he
   ·rfl
 rw [e0]
 by_cases h0:xs.length=0
 ·have:xs=[]:=List.eq_nil_of_length_eq_zero h0
  subst this
  rcases h.loc with rfl | ⟨b,off,rfl⟩ <;> rfl
 ·obtain ⟨b,off,c,ha,hc,_⟩:=h.rd 0 xs[0] (List.getElem?_eq_getElem (by omega))
  subst ha
  have key:∀n,n≤xs.length→(n≠0→off+n*k≤c.length)∧(c.drop off).take (n*k)=cells enc (xs.take n):=by
   intro n
   induction n with
   | zero=>intro _; simp [cells]
   | succ n ih =>
    intro hn
    obtain ⟨i1,i2⟩:=ih (by omega)
    obtain ⟨b',off',c',h1,h2,h3⟩:=h.rd n xs[n] (List.getElem?_eq_getElem (by omega))
    cases h1
    rw [hc] at h2; cases h2
    have h4:=congrArg List.length h3
    rw [hk,List.length_take,List.length_drop] at h4
    refine ⟨fun _=>?_,?_⟩
    ·rw [Nat.add_mul]; omega
    ·rw [List.take_succ_eq_append_getElem (by omega),cells_app,←i2,←h3,Nat.add_mul,Nat.one_mul,List.take_add,List.drop_drop]
  obtain ⟨k1,k2⟩:=key xs.length (Nat.le_refl _)
  rw [List.take_length] at k2
  simp only [Go.Pi.elems,if_neg h0,hc]
  rw [if_pos (k1 h0),k2]
end Go.Pi.L
namespace Go.Pi.L.Ben
open Go Go.Pi Go.Pi.L Go.Pi.E Go.Pi.Ben BM
theorem c98 {H:Heap}{a:Option Addr}{l k:Nat}{xs:List Int}(hx:Ints H a l xs)(h0:0 < l)(hl:l < 1000) :
  ∀H',Grow H H'→Fam H'→∃b H1 lo,R (.func 98) [.slice a l k] H'=some ⟨.ok (.slice (some ⟨b,0,none⟩) l 1),H1,lo⟩∧Up H' H1∧H'.length≤lo∧Bld H'.length H1 1 (some ⟨b,0,none⟩) l 1 (cells encI xs)∧Fam H1:=by
 intro H' hg hF
 have g0:Bld H'.length (H'++[({ obj:=.cells [],fam:=some H'.length }:Blk)]) 1 (some ⟨H'.length,0,none⟩) 0 1 []:=⟨rfl,.inr ⟨_,_,rfl,rfl,Nat.le_refl _,Nat.le_refl _,by simp⟩⟩
 have hg1:=hg.trans ((Up.refl H').app (l:=[({ obj:=.cells [],fam:=some H'.length }:Blk)])).grow
 obtain ⟨H1,q1,g1,q3,f1⟩:=g0.apps (Fam.app1 hF (Nat.le_refl _)) (by decide) (by decide) (by simp) (cells encI xs) h0 (by rw [cells_len (k:=1) (fun _=>rfl),hx.len]) (by omega)
 have q0:=fun T S D lo n rnd=>(hx.grow hg1).elems (fun _=>rfl) (by decide) k T S D lo n rnd
 have l1:=hx.isLoc k
 have hu:Up H' H1:=q3.up g0 (Up.refl _).app (Nat.le_refl _)
 rw [Nat.zero_add] at g1
 rw [List.nil_append] at g1
 refine ⟨_,H1,H'.length,?_,hu,Nat.le_refl _,g1,f1⟩
 refine run_k (pr 98) P98 (by simp [p98]) rfl ?_
 obtain ⟨b,off,x,rfl,hx',f0⟩:=hx.at (fun _=>rfl) (by decide) h0
 simp (maxDischargeDepth:=8) only [↓SD,SU,SV,SW,simprocAttr,Int.cast_ofNat_Int,small,resV, B98,R98,N98,b98, l1,vv_nl_s,q0,q1]
 rw [gc_ite (Nat.le_refl _),if_neg (by simp [flat])]

theorem c120 {H:Heap}{r:WkR}{b:Bench}{p:List Int}(hw:WkOk H r b p)(hd:SmB r.be){k n:Nat}(hk:k < b.strokes.length)(hn:n < b.strokes.length) :
  ∀H',Grow H H'→Mp (V b p r) H' r.mb→Yes (R (.func 120) [.agg #[.int .i64 r.be.app,.slice r.be.ba r.be.bl r.be.bk,.slice r.be.sa r.be.sl r.be.sk,.slice r.pa r.pl r.pk,.map (some r.mb),.int .i64 r.lg,.int .i64 r.by_],.int .i64 k,.int .i64 n] H') (fun o=>∃H1 lo,o=⟨.ok (.bool (decide (vE b p r.lg r.by_ true k=vB b p r.lg r.by_ true n)&&follows b p k n)),H1,lo⟩∧Chg (·=r.mb) H' H1∧Mp (V b p r) H1 r.mb∧r.mb≤lo):=by
 intro H' hg hm
 refine run_y (pr 120) P120 (by simp [p120]) rfl ?_
 have hsl:=hw.sl
 have hpl:=hw.pln
 obtain ⟨o,ho1,H1,lo1,rfl,ch1,hm1,hl1⟩:=c77' hw hk true H' hg hm
 have hg1:=hg.trans (ch1.grow_map hm.hc)
 obtain ⟨o,ho2,H2,lo2,rfl,ch2,hm2,hl2⟩:=c79' hw hn true H1 hg1 hm1
 have hg2:=hg1.trans (ch2.grow_map hm1.hc)
 have hkp1:=kept_of ch1 hm hm1
 have hkp2:=kept_of ch2 hm1 hm2
 have ch12:=ch1.trans ch2 (fun _ _ h=>h)
 have hmb:=hm.lt
 have hmb2:=hm2.lt
 have h01:=ch1.len
 have h12:=ch2.len
 obtain ⟨b3,o3,s,hsa,hs1,e3⟩:=hw.be.st.k5 (j:=n) (by omega)
 obtain ⟨b1,o1,x,hxa,hx1,e1⟩:=hw.pl.i1 (j:=k) (by omega)
 obtain ⟨b2,o2,y,hya,hy1,e2⟩:=hw.pl.i1 (j:=n) (by omega)
 rw [hxa] at hya
 cases hya
 have e1:=e1 H2 hg2
 have e2:=e2 H2 hg2
 have e3:=e3.v4 H2 hg2
 have hN:=hw.be.nd s (mem_drop hs1)
 have k1:=c135 (kk:=s.m) (k:Int) hN (hd.n s (mem_drop hs1)) H2 hg2
 have l4:=hN.isLoc s.m
 have hfol:=follows_at hx1 hy1 (hw.be.at hs1)
 have hks:k < r.pl:=by omega
 have hns:n < r.pl:=by omega
 have hnl:n < r.be.sl:=by omega
 have hany:(s.s.needs.any fun x=>decide ((k:Int)=x))=(s.s.needs.any fun z=>decide (z=(k:Int))):=by
  congr 1
  funext z
  exact decide_eq_decide.2 eq_comm
 rw [hany] at k1
 have fin:∀bb lo,bb=(decide (vE b p r.lg r.by_ true k=vB b p r.lg r.by_ true n)&&follows b p k n)→r.mb≤lo→(∃H3 lo3,gcR H' (.ok (.bool bb)) H2 lo=⟨.ok (.bool (decide (vE b p r.lg r.by_ true k=vB b p r.lg r.by_ true n)&&follows b p k n)),H3,lo3⟩∧Chg (·=r.mb) H' H3∧Mp (V b p r) H3 r.mb∧r.mb≤lo3):=by
  intro bb lo hbb hlo
  subst hbb
  simp only [gcR]
  split
  ·exact ⟨H',H'.length,rfl,Chg.refl _ _,hm,Nat.le_of_lt hmb⟩
  ·exact ⟨H2,lo,rfl,ch12,hm2,hlo⟩
 unfold V at hm hm1 hm2 fin ⊢
 obtain ⟨⟨app,ba,bl,bk,sa,sl,sk,xs⟩,pa,pl,pk,mb,lg,by_⟩:=r
 have hB:Ints H ba bl b.boards:=hw.be.br
 have hS:Sl H 5 eK sa sl xs:=hw.be.st
 have hP:Ints H pa pl p:=hw.pl
 have l1:=hB.isLoc bk
 have l2:=hS.isLoc sk
 have l3:=hP.isLoc pk
 simp only [wI] at ho1 ho2 hsa hxa hks hns hnl fin hl1 hl2 hmb hmb2 ⊢
 by_cases q1:vE b p lg by_ true k=vB b p lg by_ true n
 ·have q1':decide (vE b p lg by_ true k=vB b p lg by_ true n)=true:=by simp [q1]
  rw [q1',Bool.true_and] at fin
  rw [hfol] at fin
  rw [q1',Bool.true_and,hfol]
  subst hsa
  subst hxa
  cases q2:(s.s.needs.any fun z=>decide (z=(k:Int))) with
  | true =>
   rw [q2] at k1 fin
   simp (maxDischargeDepth:=8) only [↓SD,SU,SV,SW,simprocAttr,Int.cast_ofNat_Int,small,resV, B120,R120,N120,b120, l1,l2,l3,l4,loc_m,ho1,ho2,rD_kept,hkp1,hkp2,q1,hnl,lt_nat,e3,k1,R120,N120]
   rw [yes_some]
   exact fin _ _ (by simp) (by omega)
  | false =>
   rw [q2] at k1 fin
   simp (maxDischargeDepth:=8) only [↓SD,SU,SV,SW,simprocAttr,Int.cast_ofNat_Int,small,resV, B120,R120,N120,b120, l1,l2,l3,l4,loc_m,ho1,ho2,rD_kept,hkp1,hkp2,q1,hnl,hks,hns,lt_nat,e3,k1,e1,e2,R120,N120]
   rw [yes_some]
   exact fin _ _ (by by_cases q3:x=y <;> simp [q3]) (by omega)
 ·simp (maxDischargeDepth:=8) only [↓SD,SU,SV,SW,simprocAttr,Int.cast_ofNat_Int,small,resV, B120,R120,N120,b120, l1,l2,l3,l4,loc_m,ho1,ho2,rD_kept,hkp1,hkp2,q1,R120,N120]
  rw [yes_some]
  have q1':decide (vE b p lg by_ true k=vB b p lg by_ true n)=false:=by simp [q1]
  rw [q1'] at fin
  refine fin false _ ?_ ?_
  ·simp
  ·omega
end Go.Pi.L.Ben
set_option maxRecDepth 100000
namespace Go.Pi.L.Ben
open Go Go.Pi Go.Pi.L Go.Pi.E Go.Pi.Ben BM

def tkBy (b:Bench)(p:List Int)(st:Nat)(k:Nat):Int:=takesN b (vE b p (st:Int) (k:Int) true)
theorem spareP_succ (T:Nat→Int)(all:Int)(m:Nat):spareP T all (m+1)=if T m=all then m else spareP T all m:=by unfold spareP; rw [List.range_succ,List.foldl_append]; rfl
theorem c42 {H:Heap}{r:BeR}{b:Bench}{a:Option Addr}{l kk:Nat}{p:List Int}(hb:BeOk H r b)(hd:SmB r)(hx:Ints H a l p)(hl:l < 1000000)(hB:isBench b=true)(hP:isPlan b p=true){st:Nat}(hst:st < b.strokes.length) :
  ∀H',Grow H H'→R (.func 42) [.agg #[.int .i64 r.app,.slice r.ba r.bl r.bk,.slice r.sa r.sl r.sk],.slice a l kk,.int .i64 st] H'=some ⟨.ok (.tuple #[.int .i64 (spareP (tkBy b p st) (takesN b (en b p true)) 10:Nat),.int .i64 0]),H',H'.length⟩:=by
 intro H' hg
 refine run_k (pr 42) P42 (by simp [p42]) rfl ?_
 have k1:=c74 hb hd H' hg
 have k2:=c75 (kk:=kk) hb hx hl H' hg
 have k3:=c87 hb hd (st:Int) H' hg
 have k4:=c76 (kk:=kk) hb hx H' hg
 have k5:=fun H3 hg3=>c76 (kk:=kk) hb hx H3 hg3
 rw [hB] at k1
 rw [hP] at k2
 have hss:isStroke b (st:Int)=true:=by unfold isStroke; rw [inL_iff]; omega
 rw [hss] at k3
 have l3:=hx.isLoc kk
 have hf:=fine_of hB
 have hlen:p.length=b.strokes.length:=by simp only [isPlan,Bool.and_eq_true,decide_eq_true_eq] at hP; exact hP.1
 generalize hH0:H'++[({ obj:=.map mSh [] }:Blk)]=H0 at k4
 have u0:Up H' H0:=by rw [←hH0]; exact (Up.refl _).app
 have hw:=wk0_ok (kk:=kk) (mb:=H'.length) (hb.grow (hg.trans u0.grow)) (hx.grow (hg.trans u0.grow)) hB hP
 have hm:Mp (vE b p (-1) 0) H0 H'.length:=by rw [←hH0]; exact mp_new _ _
 have hmb:=hm.lt
 obtain ⟨o,ho1,H1,lo1,rfl,ch1,hm1,hl1⟩:=c88 hw H0 (Grow.refl _) hm
 have hl1:H'.length≤lo1:=hl1
 have u1:Up H' H1:=ch1.up' u0 (fun i hi h=>by have:i=H'.length:=h; omega)
 have h1:=u1.len
 have h01:=ch1.len
 have one:∀(j:Nat) H3,j < 10→Up H' H3→∃H4 lo4,R (.func 88) [.agg #[.int .i64 r.app,.slice r.ba r.bl r.bk,.slice r.sa r.sl r.sk,.slice a l kk,.map (some H3.length),.int .i64 (st:Int),.int .i64 (j:Nat)]] (H3++[{ obj:=.map mSh [] }])=some ⟨.ok (.int .i64 (tkBy b p st j)),H4,lo4⟩∧Up H' H4∧H3.length≤lo4:=by
  intro j H3 hj hu3
  have u3:Up H3 (H3++[({ obj:=.map mSh [] }:Blk)]):=(Up.refl _).app
  have hg3:=(hg.trans hu3.grow).trans u3.grow
  have hw3:WkOk (H3++[({ obj:=.map mSh [] }:Blk)]) (⟨r,a,l,kk,H3.length,(st:Int),(j:Nat)⟩:WkR) b p:=⟨hb.grow hg3,hx.grow hg3,hf,hlen,by simp only; omega,by simp only; omega⟩
  obtain ⟨o,ho,H4,lo4,rfl,ch4,hm4,hl4⟩:=c88 hw3 _ (Grow.refl _) (mp_new (vE b p (st:Int) (j:Nat)) H3)
  exact ⟨H4,lo4,ho,ch4.up' (hu3.trans u3) (fun i hi h=>by have:i=H3.length:=h; have:=hu3.len; omega),hl4⟩
 unfold wk0 at ho1
 generalize hT:spareP (tkBy b p st) (takesN b (en b p true)) 10=SP
 obtain ⟨app,ba,bl,bk,sa,sl,sk,xs⟩:=r
 have hB:Ints H ba bl b.boards:=hb.br
 have hS:Sl H 5 eK sa sl xs:=hb.st
 have l1:=hB.isLoc bk
 have l2:=hS.isLoc sk
 simp only at k1 k2 k3 k4 k5 ho1 one ⊢
 simp (maxDischargeDepth:=8) only [↓SD,SU,SV,SW,simprocAttr,Int.cast_ofNat_Int,small,resV, B42,R42,N42,b42, l1,l2,l3,loc_m,k1,k2,k3,k4,ho1]
 refine loop_ind (G:=(·=_)) (fun j σ=>∃T S H3 lim,σ=⟨T,S,[],H3,lim,48,false⟩∧get T 1=.slice a l kk∧get T 2=.int .i64 (st:Nat)∧get T 3=.pointer (some ⟨3,0,some 1⟩)∧get T 8=.int .i64 (takesN b (en b p true))∧get T 9=.int .i64 (spareP (tkBy b p st) (takesN b (en b p true)) j:Nat)∧get T 31=.int .i64 (j:Nat)∧sget S 3=(1,.cells [.int .i64 app,.slice ba bl bk,.slice sa sl sk])∧(Up H' H3∧H'.length≤lim)) (10) ?_ ?_ 0 _ (Nat.zero_le _) ⟨_,_,_,_,rfl,rfl,rfl,rfl,rfl,rfl,rfl,rfl,⟨u1,by omega⟩⟩
 ·rintro c' j s hj ⟨T,S,H3,lim,rfl,t1,t2,t3,t8,t9,t31,s0,hp⟩ ih
  obtain ⟨hu,hlim⟩:=hp
  have hw1:=wrap_succ j (by omega)
  have k6:=k5 H3 (hg.trans hu.grow)
  have hj10:(j:Int) < 10:=by omega
  have hul:=hu.len
  obtain ⟨H4,lo4,p1,p2,p3⟩:=one j H3 hj hu
  have h4:=p2.len
  have hsp:=spareP_succ (tkBy b p st) (takesN b (en b p true)) j
  by_cases q:tkBy b p st j=takesN b (en b p true)
  ·rw [if_pos q] at hsp
   simp (maxDischargeDepth:=8) only [↓SD,SU,SV,SW,simprocAttr,Int.cast_ofNat_Int,small,resV, q42x0,t1,t2,t3,t8,t9,t31,s0, lt_nat,hj10,l1,l2,l3,loc_m,k6,p1,q,hw1]
   exact ih _ ⟨_,_,H4,_,rfl,by simp [get_set,t1],by simp [get_set,t2],by simp [get_set,t3],by simp [get_set,t8],by simp [get_set,hsp],by simp [get_set],by simp [sget_sset,s0],p2,by omega⟩
  ·rw [if_neg q] at hsp
   rw [←hsp] at t9
   simp (maxDischargeDepth:=8) only [↓SD,SU,SV,SW,simprocAttr,Int.cast_ofNat_Int,small,resV, q42x0,t1,t2,t3,t8,t9,t31,s0, lt_nat,hj10,l1,l2,l3,loc_m,k6,p1,q,hw1]
   exact ih _ ⟨_,_,(H4),(_),rfl,(by simp [get_set,t1] <;> omega),(by simp [get_set,t2] <;> omega),(by simp [get_set,t3] <;> omega),(by simp [get_set,t8] <;> omega),(by simp [get_set,t9] <;> omega),(by simp [get_set,t31] <;> omega),by simp [sget_sset,s0],⟨p2,by omega⟩⟩
 ·rintro c' s ⟨T,S,H3,lim,rfl,t1,t2,t3,t8,t9,t31,s0,hp⟩
  obtain ⟨hu,hlim⟩:=hp
  have e0:¬((10:Nat):Int) < 10:=by omega
  rw [hT] at t9
  have hul:=hu.len
  simp (maxDischargeDepth:=8) only [↓SD,SU,SV,SW,simprocAttr,Int.cast_ofNat_Int,small,resV, q42x0,t1,t2,t3,t8,t9,t31,s0, lt_nat,e0,Nat.lt_irrefl,l1,l2,l3,loc_m,R42,N42]
  first | (rw [gc_ite (by omega)]; simp [flat]; done) | (simp [gcR,flat]; omega)
end Go.Pi.L.Ben
set_option maxRecDepth 100000
namespace Go.Pi.L
open Go Go.Pi
section
variable {α:Type} {call:CallT} {F:Ex→St→Option α} {k:List It}
theorem rD_panic (v H' lo' c hb d T S D H lo n rnd):retD call F (some ⟨.panic v,H',lo'⟩) ⟨c,hb,true⟩ d k ⟨T,S,D,H,lo,n,rnd⟩=F (.panic v) ⟨T,S,D,H',min lo (min H.length lo'),n,rnd⟩:=by simp [retD]
end
end Go.Pi.L
namespace Go.Pi.L.Ben
open Go Go.Pi Go.Pi.L Go.Pi.E Go.Pi.Ben BM

abbrev nothing:Value:=.tuple #[]
theorem range_drop {N k:Nat}(h:k < N):(List.range N).drop k=k :: (List.range N).drop (k+1):=drop_cons (by simp [h])
theorem find_drop {β:Type}{f:Nat→Option β}{N:Nat}:∀{k:Nat},k≤N→(∀i,i < k→f i=none)→(List.range N).findSome? f=((List.range N).drop k).findSome? f
 | 0,_,_=>rfl
 | k+1,hk,h=>by
  rw [find_drop (k:=k) (by omega) fun i hi=>h i (by omega),range_drop (by omega),List.findSome?_cons,h k (by omega)]
def QC (V:Bool→Nat→Int)(H:Heap)(mb:Nat)(pre:List Nat)(n:Nat)(res:Option (List Nat))(o:Out):Prop :=
 ∃H1 lo,Chg (·=mb) H H1∧Mp V H1 mb∧mb≤lo∧Fam H1∧((res=none∧o=⟨.ok nothing,H1,lo⟩)∨∃t a m,res=some t∧o=⟨.panic (.iface 140 (.agg #[.slice a (pre++n :: t).length m])),H1,lo⟩∧Ints H1 a (pre++n :: t).length (castL (pre++n :: t)))
theorem gc_pan {H H1:Heap}{v:Value}{lo:Nat}(h:flat 4 v=false):gcR H (.panic v) H1 lo=⟨.panic v,H1,lo⟩:=by
 simp [gcR,h]
theorem gc_qs {V:Bool→Nat→Int}{H H1:Heap}{mb n b off l m lo:Nat}{pre t:List Nat}(hc:Chg (·=mb) H H1)(hm:Mp V H1 mb)(hlo:mb≤lo)(hF:Fam H1)(hl:l=(pre++n :: t).length)(hi:Ints H1 (some ⟨b,off,none⟩) l (castL (pre++n :: t))) :
  QC V H mb pre n (some t) (gcR H (.panic (.iface 140 (.agg #[.slice (some ⟨b,off,none⟩) l m]))) H1 lo):=by
 subst hl
 rw [gc_pan (by simp [flat])]
 exact ⟨H1,lo,hc,hm,hlo,hF,.inr ⟨t,_,m,rfl,rfl,hi⟩⟩
theorem gc_qn {V:Bool→Nat→Int}{H H1:Heap}{mb n lo:Nat}{pre:List Nat}(hm0:Mp V H mb)(hF0:Fam H)(hc:Chg (·=mb) H H1)(hm:Mp V H1 mb)(hlo:mb≤lo)(hF:Fam H1) :
  QC V H mb pre n none (gcR H (.ok nothing) H1 lo):=by
 simp only [gcR]
 split
 ·exact ⟨H,H.length,Chg.refl _ _,hm0,Nat.le_of_lt hm0.lt,hF0,.inl ⟨rfl,rfl⟩⟩
 ·exact ⟨H1,lo,hc,hm,hlo,hF,.inl ⟨rfl,rfl⟩⟩
theorem c86 {H:Heap}{r:WkR}{b:Bench}{p:List Int}(hw:WkOk H r b p)(hd:SmB r.be):∀(m n:Nat) (pre:List Nat),n < b.strokes.length→b.strokes.length≤n+m→pre.length≤n→∀(la:Option Addr) (ll lm:Nat) H',Grow H H'→Fam H'→Mp (V b p r) H' r.mb→Ints H' la ll (castL (pre++[n])) →
  Yes (R (.func 86) [.agg #[.int .i64 r.be.app,.slice r.be.ba r.be.bl r.be.bk,.slice r.be.sa r.be.sl r.be.sk,.slice r.pa r.pl r.pk,.map (some r.mb),.int .i64 r.lg,.int .i64 r.by_],.slice la ll lm] H') (QC (V b p r) H' r.mb pre n (srch (follows b p) (durW b r.lg r.by_ true) (takesN b (vE b p r.lg r.by_ true)) b.strokes.length m n)):=by
 intro m
 induction m with
 | zero=>intro n pre hn hm; omega
 | succ m IH =>
 intro n pre hn hnm hpre la ll lm H' hg hF hm hl
 refine run_y (pr 86) P86 (by simp [p86]) rfl ?_
 have n6:=hw.fi.n6
 have hsl:=hw.sl
 have hll:ll=pre.length+1:=by rw [←hl.len]; simp [castL]
 have l4:=hl.isLoc lm
 obtain ⟨bl1,ol1,x,hla,hx,e1⟩:=hl.i1 (j:=pre.length) (by omega)
 have hxn:x=(n:Nat):=by
  rw [show (castL (pre++[n]))[pre.length]?=some ((n:Nat):Int) by simp [castL]] at hx
  cases hx; rfl
 subst hxn
 have e1:=e1 H' (Grow.refl _)
 have w1:IntKind.wrap .i64 ((ll:Int) - 1)=(pre.length:Nat):=by rw [wrap_id _ (by omega) (by omega)]; omega
 have hpl:pre.length < ll:=by omega
 obtain ⟨o,ho1,H1,lo1,rfl,ch1,hm1,hl1⟩:=c77' hw hn true H' hg hm
 have hF1:Fam H1:=famR ho1 hF
 have hg1:=hg.trans (ch1.grow_map hm.hc)
 obtain ⟨o,ho2,H2,lo2,rfl,ch2,hm2,hl2⟩:=c88 hw H1 hg1 hm1
 have hF2:Fam H2:=famR ho2 hF1
 have hg2:=hg1.trans (ch2.grow_map hm1.hc)
 have hkp1:=kept_of ch1 hm hm1
 have hkp2:=kept_of ch2 hm1 hm2
 have ch12:=ch1.trans ch2 (fun _ _ h=>h)
 have hmb:=hm.lt
 have hmb2:=hm2.lt
 have h01:=ch1.len
 have h12:=ch2.len
 have hl2':Ints H2 la ll (castL (pre++[n])):=Sl.grow hl (ch12.grow_map hm.hc)
 have hlk:=fun i hi H3 hg3 hm3=>c120 hw hd (k:=n) (n:=i) hn hi H3 hg3 hm3
 have hsr:srch (follows b p) (durW b r.lg r.by_ true) (takesN b (vE b p r.lg r.by_ true)) b.strokes.length (m+1) n=if vE b p r.lg r.by_ true n=takesN b (vE b p r.lg r.by_ true) then some [] else (List.range b.strokes.length).findSome? fun i=>if n < i∧BM.linked (follows b p) (durW b r.lg r.by_ true) n i=true then (srch (follows b p) (durW b r.lg r.by_ true) (takesN b (vE b p r.lg r.by_ true)) b.strokes.length m i).map (i :: ·) else none:=rfl
 rw [hsr]
 by_cases q1:vE b p r.lg r.by_ true n=takesN b (vE b p r.lg r.by_ true)
 ·rw [if_pos q1]
  unfold V at *
  obtain ⟨⟨app,ba,bl,bk,sa,sl,sk,xs⟩,pa,pl,pk,mb,lg,by_⟩:=r
  have hB:Ints H ba bl b.boards:=hw.be.br
  have hS:Sl H 5 eK sa sl xs:=hw.be.st
  have hP:Ints H pa pl p:=hw.pl
  have l1:=hB.isLoc bk
  have l2:=hS.isLoc sk
  have l3:=hP.isLoc pk
  simp only [wI] at ho1 ho2 q1 hl1 hl2 hmb hmb2 ch12 hm2 ⊢
  simp (maxDischargeDepth:=8) only [↓SD,SU,SV,SW,simprocAttr,Int.cast_ofNat_Int,small,resV, B86,R86,N86,b86, l1,l2,l3,l4,loc_m,hla,e1,w1,hpl,lt_nat,ho1,ho2,rD_kept,hkp1,hkp2,q1,R86,N86]
  rw [yes_some]
  subst hla
  exact gc_qs ch12 hm2 (by omega) hF2 (by simp [hll]) hl2'
 ·rw [if_neg q1]
  have hfd:=find_drop (N:=b.strokes.length) (k:=n+1) (f:=fun i=>if n < i∧BM.linked (follows b p) (durW b r.lg r.by_ true) n i=true then (srch (follows b p) (durW b r.lg r.by_ true) (takesN b (vE b p r.lg r.by_ true)) b.strokes.length m i).map (i :: ·) else none) (by omega) (fun i hi=>if_neg (by omega))
  rw [hfd]
  have IH':=fun i (hi:i < b.strokes.length) (hlt:n < i)=>IH i (pre++[n]) hi (by omega) (by simp; omega)
  have w2:IntKind.wrap .i64 ((n:Int)+1)=((n+1:Nat):Int):=wrap_succ n (by omega)
  have hlkd:∀i,BM.linked (follows b p) (durW b r.lg r.by_ true) n i=(decide (vE b p r.lg r.by_ true n=vB b p r.lg r.by_ true i)&&follows b p n i):=fun i=>rfl
  unfold V at *
  obtain ⟨f,hfe⟩:∃f:Nat→Option (List Nat),f=fun i=>if n < i∧BM.linked (follows b p) (durW b r.lg r.by_ true) n i=true then (srch (follows b p) (durW b r.lg r.by_ true) (takesN b (vE b p r.lg r.by_ true)) b.strokes.length m i).map (i :: ·) else none:=⟨_,rfl⟩
  rw [←hfe]
  rw [←hsl] at hlk IH' hfe ⊢
  obtain ⟨⟨app,ba,bl,bk,sa,sl,sk,xs⟩,pa,pl,pk,mb,lg,by_⟩:=r
  have hB:Ints H ba bl b.boards:=hw.be.br
  have hS:Sl H 5 eK sa sl xs:=hw.be.st
  have hP:Ints H pa pl p:=hw.pl
  have l1:=hB.isLoc bk
  have l2:=hS.isLoc sk
  have l3:=hP.isLoc pk
  simp only [wI] at ho1 ho2 q1 hl1 hl2 hmb hmb2 ch12 hm2 hlk IH' hlkd hsl hfe hkp1 hkp2 ⊢
  subst hla
  simp (maxDischargeDepth:=8) only [↓SD,SU,SV,SW,simprocAttr,Int.cast_ofNat_Int,small,resV, B86,R86,N86,b86, l1,l2,l3,l4,loc_m,e1,w1,w2,hpl,lt_nat,ho1,ho2,rD_kept,hkp1,hkp2,q1]
  refine loop_ind (G:=(Yes · (QC (vE b p lg by_) H' mb pre n (((List.range sl).drop (n+1)).findSome? f)))) (fun j σ=>∃T S H3 lim,σ=⟨T,S,[],H3,lim,42,false⟩∧get T 1=.slice (some ⟨bl1,ol1,none⟩) ll lm∧get T 2=.pointer (some ⟨2,0,some 1⟩)∧get T 4=.int .i64 (n:Nat)∧get T 5=.int .i64 ((n+1+j:Nat):Int)∧sget S 2=(1,.cells [.int .i64 app,.slice ba bl bk,.slice sa sl sk,.slice pa pl pk,.map (some mb),.int .i64 lg,.int .i64 by_])∧(Chg (·=mb) H' H3∧Mp (vE b p lg by_) H3 mb∧mb≤lim∧Fam H3∧((List.range sl).drop (n+1)).findSome? f=((List.range sl).drop (n+1+j)).findSome? f)) ((sl - (n+1))) ?_ ?_ 0 _ (Nat.zero_le _) ⟨_,_,_,_,rfl,rfl,rfl,rfl,rfl,rfl,⟨ch12,hm2,by omega,hF2,rfl⟩⟩
  ·rintro c' j s hj ⟨T,S,H3,lim,rfl,t1,t2,t4,t5,s0,hp⟩ ih
   obtain ⟨hch,hm3,hlim,hF3,hpf⟩:=hp
   have hg3:=hg.trans (hch.grow_map hm.hc)
   have hml3:=hm3.lt
   have hil:n+1+j < sl:=by omega
   have hw1:IntKind.wrap .i64 (((n+1+j:Nat):Int)+1)=((n+1+(j+1):Nat):Int):=by rw [wrap_id _ (by omega) (by omega)]; omega
   rw [range_drop hil,List.findSome?_cons] at hpf
   generalize hi:n+1+j=i at *
   have hni:n < i:=by omega
   obtain ⟨o,ho3,H4,lo4,rfl,ch4,hm4,hl4⟩:=hlk i hil H3 hg3 hm3
   have hF4:Fam H4:=famR ho3 hF3
   have hl4:mb≤lo4:=hl4
   have h34:=ch4.len
   have h03:=hch.len
   have ch04:=hch.trans ch4 (fun _ _ h=>h)
   have hml4:=hm4.lt
   have hfi:f i=if BM.linked (follows b p) (durW b lg by_ true) n i=true then (srch (follows b p) (durW b lg by_ true) (takesN b (vE b p lg by_ true)) sl m i).map (i :: ·) else none:=by
    rw [hfe]; simp only [hni,true_and]
   rw [hlkd i] at hfi
   cases q2:(decide (vE b p lg by_ true n=vB b p lg by_ true i)&&follows b p n i) with
   | false =>
    rw [q2] at ho3 hfi
    rw [if_neg (by simp)] at hfi
    rw [hfi] at hpf
    simp (maxDischargeDepth:=8) only [↓SD,SU,SV,SW,simprocAttr,Int.cast_ofNat_Int,small,resV, q86x0,t1,t2,t4,t5,s0, lt_nat,hil,l1,l2,l3,l4,loc_m,ho3,hw1]
    exact ih _ ⟨_,_,(H4),(_),rfl,(by simp [get_set,t1] <;> omega),(by simp [get_set,t2] <;> omega),(by simp [get_set,t4] <;> omega),(by simp [get_set,t5] <;> omega),by simp [sget_sset,s0],⟨ch04,hm4,by omega,hF4,by rw [show n+1+(j+1)=i+1 by omega]; exact hpf⟩⟩
   | true =>
    rw [q2] at ho3 hfi
    rw [if_pos rfl] at hfi
    have hl4':Ints H4 (some ⟨bl1,ol1,none⟩) ll (castL (pre++[n])):=Sl.grow hl (ch04.grow_map hm.hc)
    obtain ⟨b5,H5,lo5,ho5,u5,hlo5,bd5,hF5⟩:=c98 (k:=lm) hl4' (by omega) (by omega) H4 (Grow.refl _) hF4
    have h45:=u5.len
    obtain ⟨H6,p1,p2,p3,hF6⟩:=bd5.appF hF5 (by decide) (by decide) (by omega) h45 [.int .i64 (i:Nat)] rfl
    have u6:=p3.up bd5 u5 (Nat.le_refl _)
    have h56:=p3.len
    have hs6:Ints H6 (some ⟨H5.length,0,none⟩) (ll+1) (castL ((pre++[n])++[i])):=by
     have:castL ((pre++[n])++[i])=castL (pre++[n])++[((i:Nat):Int)]:=by simp [castL]
     rw [this]
     have h:=p2
     rw [show cells encI (castL (pre++[n]))++[Value.int .i64 (i:Nat)]=cells encI (castL (pre++[n])++[((i:Nat):Int)]) by rw [cells_app]; rfl] at h
     exact h.sl encI_len (by decide)
    have hm6:=hm4.up u6
    have ch6:=ch04.trans u6.chg (fun _ _ h=>h)
    have hg6:=hg.trans (ch6.grow_map hm.hc)
    obtain ⟨o,ho7,H7,lo7,ch7,hm7,hl7,hF7,hres⟩:=IH' i (by omega) hni (some ⟨H5.length,0,none⟩) (ll+1) 1 H6 hg6 hF6 hm6 hs6
    have hl7:mb≤lo7:=hl7
    have ch07:=ch6.trans ch7 (fun _ _ h=>h)
    have h67:=ch7.len
    have hml7:=hm7.lt
    have l9:isLoc (.slice (some ⟨b5,0,none⟩) ll 1)=false:=rfl
    have l10:isLoc (.slice (some ⟨H5.length,0,none⟩) (ll+1) 1)=false:=rfl
    have hlo45:H4.length≤lo5:=hlo5
    rcases hres with ⟨hr,rfl⟩ | ⟨t,a7,m7,hr,rfl,hi7⟩
    ·rw [hr] at hfi
     rw [hfi] at hpf
     have hkp6:=kept_of ch7 hm6 hm7
     simp (maxDischargeDepth:=8) only [↓SD,SU,SV,SW,simprocAttr,Int.cast_ofNat_Int,small,resV, q86x0,t1,t2,t4,t5,s0, lt_nat,hil,l1,l2,l3,l4,l9,l10,loc_m,ho3,hw1,ho5,hlo45,p1,ho7,rD_kept,hkp6]
     exact ih _ ⟨_,_,(H7),(_),rfl,(by simp [get_set,t1] <;> omega),(by simp [get_set,t2] <;> omega),(by simp [get_set,t4] <;> omega),(by simp [get_set,t5] <;> omega),by simp [sget_sset,s0],⟨ch07,hm7,by omega,hF7,by rw [show n+1+(j+1)=i+1 by omega]; exact hpf⟩⟩
    ·rw [hr] at hfi
     simp only [Option.map_some] at hfi
     rw [hfi] at hpf
     have hln:0 < ((pre++[n])++i :: t).length:=by rw [List.length_append,List.length_cons]; omega
     obtain ⟨b8,o8,_,ha8,_,_⟩:=hi7.i1 hln
     subst ha8
     have hl7len:((pre++[n])++i :: t).length=pre.length+1+(t.length+1):=by simp; omega
     rw [hl7len] at hi7 ho7
     rw [hpf]
     simp (maxDischargeDepth:=8) only [↓SD,SU,SV,SW,simprocAttr,Int.cast_ofNat_Int,small,resV, q86x0,t1,t2,t4,t5,s0, lt_nat,hil,l1,l2,l3,l4,l9,l10,loc_m,ho3,hw1,ho5,hlo45,p1,ho7,rD_panic,R86,N86]
     rw [yes_some]
     have hcat:pre++n :: i :: t=(pre++[n])++i :: t:=by simp
     refine gc_qs ch07 hm7 ?_ hF7 ?_ ?_
     ·omega
     ·rw [hcat,hl7len]
     ·rw [hcat]; exact hi7
  ·rintro c' s ⟨T,S,H3,lim,rfl,t1,t2,t4,t5,s0,hp⟩
   obtain ⟨hch,hm3,hlim,hF3,hpf⟩:=hp
   have hml3:=hm3.lt
   rw [hpf,show n+1+(sl - (n+1))=sl by omega,List.drop_eq_nil_of_le (by simp),List.findSome?_nil]
   simp (maxDischargeDepth:=8) only [↓SD,SU,SV,SW,simprocAttr,Int.cast_ofNat_Int,small,resV, q86x0,t1,t2,t4,t5,s0, lt_nat,show n+1+(sl - (n+1))=sl by omega,Nat.lt_irrefl,l1,l2,l3,l4,loc_m,R86,N86]
   rw [yes_some]
   exact gc_qn hm hF hch hm3 (by omega) hF3
end Go.Pi.L.Ben
set_option maxRecDepth 100000
namespace Go.Pi.L.Ben
open Go Go.Pi Go.Pi.L Go.Pi.E Go.Pi.Ben BM

theorem d119p (call:CallT)(x y:Nat)(sa:Option Addr)(sl sm:Nat)(hl:isLoc (.slice sa sl sm)=false)(H:Heap)(ha:H[x]?=some ⟨.cells [.slice none 0 0],true,true,none⟩) :
  drunL PP primsL call (.func 119) [.pointer (some ⟨x,0,none⟩),.pointer (some ⟨y,0,none⟩)] H (some (.iface 140 (.agg #[.slice sa sl sm]))) =
   some (H.set x { obj:=.cells [.slice sa sl sm] },min H.length x,none):=by
 rw [drun_rc (d:=6) (pr 119) P119 (by simp [p119]) rfl (by simp [p119])]
 simp (maxDischargeDepth:=8) only [↓SD,SU,SV,SW,simprocAttr,Int.cast_ofNat_Int,small,resV, B119,R119,N119,b119, Option.getD_some,ha,hl]
 exact dfin_n _ _ _ _ _ _ _ _ R119
theorem c84 {g:FuncId}{caps:List Value}{H H3:Heap}{lo3:Nat}{sa:Option Addr}{sl sm:Nat}(hc:(caps.all fun v=>!isLoc v)=true)(hl:isLoc (.slice sa sl sm)=false)
  (hf:R (.func g) caps (H++[({ obj:=.cells [.slice none 0 0] }:Blk)]++[({ obj:=.cells [.int .i64 0] }:Blk)])=some ⟨.panic (.iface 140 (.agg #[.slice sa sl sm])),H3,lo3⟩)
  (hA:H3[H.length]?=some ⟨.cells [.slice none 0 0],true,true,none⟩) (hB:H3[H.length+1]?=some ⟨.cells [.int .i64 0],true,true,none⟩) :
  Yes (R (.func 84) [.func (.func g) #[] caps.toArray] H) (fun o=>∃lo,min lo3 H.length≤lo∧o=gcR H (.ok (.tuple #[.slice sa sl sm,.int .i64 0])) (H3.set H.length { obj:=.cells [.slice sa sl sm] }) lo):=by
 generalize hH:H++[({ obj:=.cells [.slice none 0 0] }:Blk)]++[({ obj:=.cells [.int .i64 0] }:Blk)]=H1 at hf
 have a0:H1.length=H.length+2:=by rw [←hH]; simp
 have hB3:=(List.getElem?_eq_some_iff.1 hB).1
 have rd1:hcells (H3.set H.length { obj:=.cells [.slice sa sl sm] }) H.length=some [.slice sa sl sm]:=by unfold hcells; rw [List.getElem?_set_self (by omega)]
 have rd2:hcells (H3.set H.length { obj:=.cells [.slice sa sl sm] }) (H.length+1)=some [.int .i64 0]:=by unfold hcells; rw [List.getElem?_set_ne (by omega),hB]
 have d1:=fun call=>d119p call H.length (H.length+1) sa sl sm hl H3 hA
 refine run_y (pr 84) P84 (by simp [p84]) rfl ?_
 simp (maxDischargeDepth:=8) only [↓SD,SU,SV,SW,simprocAttr,Int.cast_ofNat_Int,small,resV, B84,R84,N84,b84, List.length_singleton,hH,hc,hf,d1,hA,hB,rd1,rd2,a0,hl,R84,N84]
 rw [yes_some]
 refine ⟨_,?_,rfl⟩
 omega
end Go.Pi.L.Ben
set_option maxRecDepth 100000
namespace Go.Pi.L.Ben
open Go Go.Pi Go.Pi.L Go.Pi.E Go.Pi.Ben BM

def QD (V:Bool→Nat→Int)(H:Heap)(mb:Nat)(res:Option (List Nat))(o:Out):Prop :=
 ∃H1 lo,Chg (·=mb) H H1∧Mp V H1 mb∧mb≤lo∧Fam H1∧((res=none∧o=⟨.ok nothing,H1,lo⟩)∨∃t b off m,res=some t∧o=⟨.panic (.iface 140 (.agg #[.slice (some ⟨b,off,none⟩) t.length m])),H1,lo⟩∧Ints H1 (some ⟨b,off,none⟩) t.length (castL t))
theorem gc_ds {V:Bool→Nat→Int}{H H1:Heap}{mb b off l m lo:Nat}{t:List Nat}(hc:Chg (·=mb) H H1)(hm:Mp V H1 mb)(hlo:mb≤lo)(hF:Fam H1)(hl:l=t.length)(hi:Ints H1 (some ⟨b,off,none⟩) l (castL t)) :
  QD V H mb (some t) (gcR H (.panic (.iface 140 (.agg #[.slice (some ⟨b,off,none⟩) l m]))) H1 lo):=by
 subst hl
 rw [gc_pan (by simp [flat])]
 exact ⟨H1,lo,hc,hm,hlo,hF,.inr ⟨t,b,off,m,rfl,rfl,hi⟩⟩
theorem gc_dn {V:Bool→Nat→Int}{H H1:Heap}{mb lo:Nat}(hm0:Mp V H mb)(hF0:Fam H)(hc:Chg (·=mb) H H1)(hm:Mp V H1 mb)(hlo:mb≤lo)(hF:Fam H1) :
  QD V H mb none (gcR H (.ok nothing) H1 lo):=by
 simp only [gcR]
 split
 ·exact ⟨H,H.length,Chg.refl _ _,hm0,Nat.le_of_lt hm0.lt,hF0,.inl ⟨rfl,rfl⟩⟩
 ·exact ⟨H1,lo,hc,hm,hlo,hF,.inl ⟨rfl,rfl⟩⟩
theorem c85 {H:Heap}{r:WkR}{b:Bench}{p:List Int}(hw:WkOk H r b p)(hd:SmB r.be){bb wb:Nat}(hbb:hcells H bb=some [.int .i64 r.be.app,.slice r.be.ba r.be.bl r.be.bk,.slice r.be.sa r.be.sl r.be.sk])
  (hwb:hcells H wb=some [.int .i64 r.be.app,.slice r.be.ba r.be.bl r.be.bk,.slice r.be.sa r.be.sl r.be.sk,.slice r.pa r.pl r.pk,.map (some r.mb),.int .i64 r.lg,.int .i64 r.by_]) :
  ∀H',Grow H H'→Fam H'→Mp (V b p r) H' r.mb→Yes (R (.func 85) [.pointer (some ⟨bb,0,none⟩),.pointer (some ⟨wb,0,none⟩)] H') (QD (V b p r) H' r.mb (chainN (follows b p) (durW b r.lg r.by_ true) (takesN b (vE b p r.lg r.by_ true)) b.strokes.length)):=by
 intro H' hg hF hm
 refine run_y (pr 85) P85 (by simp [p85]) rfl ?_
 have n6:=hw.fi.n6
 have hsl:=hw.sl
 have hV:=fun n hn H3 hg3 hm3=>c79' hw (n:=n) hn true H3 hg3 hm3
 have hC:=fun n hn=>c86 hw hd b.strokes.length n [] hn (by omega) (by simp)
 have hvb:∀n,bN (follows b p) (durW b r.lg r.by_ true) n=vB b p r.lg r.by_ true n:=fun n=>rfl
 have hmb:=hm.lt
 unfold chainN V at *
 obtain ⟨f,hfe⟩:∃f:Nat→Option (List Nat),f=fun n=>if bN (follows b p) (durW b r.lg r.by_ true) n=0 then (srch (follows b p) (durW b r.lg r.by_ true) (takesN b (vE b p r.lg r.by_ true)) b.strokes.length b.strokes.length n).map (n :: ·) else none:=⟨_,rfl⟩
 rw [←hfe]
 rw [←hsl] at hV hC hfe ⊢
 obtain ⟨⟨app,ba,bl,bk,sa,sl,sk,xs⟩,pa,pl,pk,mb,lg,by_⟩:=r
 have hB:Ints H ba bl b.boards:=hw.be.br
 have hS:Sl H 5 eK sa sl xs:=hw.be.st
 have hP:Ints H pa pl p:=hw.pl
 have l1:=hB.isLoc bk
 have l2:=hS.isLoc sk
 have l3:=hP.isLoc pk
 simp only [wI] at hV hC hm hmb hsl hfe hvb hbb hwb ⊢
 have hbb':=hg.hc hbb
 simp (maxDischargeDepth:=8) only [↓SD,SU,SV,SW,simprocAttr,Int.cast_ofNat_Int,small,resV, B85,R85,N85,b85, hbb',l1,l2,l3,loc_m]
 refine loop_ind (G:=(Yes · (QD (vE b p lg by_) H' mb ((List.range sl).findSome? f)))) (fun j σ=>∃T H3 lim,σ=⟨T,[],[],H3,lim,18,false⟩∧get T 0=.pointer (some ⟨bb,0,none⟩)∧get T 1=.pointer (some ⟨wb,0,none⟩)∧get T 5=.int .i64 sl∧get T 6=.int .i64 (j:Nat)∧(Chg (·=mb) H' H3∧Mp (vE b p lg by_) H3 mb∧mb≤lim∧Fam H3∧(List.range sl).findSome? f=((List.range sl).drop j).findSome? f)) (sl) ?_ ?_ 0 _ (Nat.zero_le _) ⟨_,_,_,rfl,rfl,rfl,rfl,rfl,⟨Chg.refl _ _,hm,Nat.le_of_lt hmb,hF,rfl⟩⟩
 ·rintro c' j s hj ⟨T,H3,lim,rfl,t0,t1,t5,t6,hp⟩ ih
  obtain ⟨hch,hm3,hlim,hF3,hpf⟩:=hp
  have hg3:=hg.trans (hch.grow_map hm.hc)
  have hml3:=hm3.lt
  have hw1:=wrap_succ j (by omega)
  have hwb3:=hg3.hc hwb
  rw [range_drop hj,List.findSome?_cons] at hpf
  obtain ⟨o,ho3,H4,lo4,rfl,ch4,hm4,hl4⟩:=hV j hj H3 hg3 hm3
  have hF4:Fam H4:=famR ho3 hF3
  have hl4:mb≤lo4:=hl4
  have h34:=ch4.len
  have h03:=hch.len
  have ch04:=hch.trans ch4 (fun _ _ h=>h)
  have hg4:=hg.trans (ch04.grow_map hm.hc)
  have hwb4:=hg4.hc hwb
  have hml4:=hm4.lt
  have hfi:f j=if vB b p lg by_ true j=0 then (srch (follows b p) (durW b lg by_ true) (takesN b (vE b p lg by_ true)) sl sl j).map (j :: ·) else none:=by
   rw [hfe]; rfl
  by_cases q2:vB b p lg by_ true j=0
  ·rw [if_pos q2] at hfi
   generalize hH5:H4++[({ obj:=.cells [.int .i64 (j:Nat)],fam:=some H4.length }:Blk)]=H5
   have u5:Up H4 H5:=by rw [←hH5]; exact (Up.refl _).app
   have hF5:Fam H5:=by rw [←hH5]; exact Fam.app1 hF4 (Nat.le_refl _)
   have bd:Bld H4.length H5 1 (some ⟨H4.length,0,none⟩) 1 1 (cells encI (castL [j])):=by
    rw [←hH5]; exact bld_one (c:=[.int .i64 (j:Nat)]) rfl (Nat.le_refl _)
   have hm5:=hm4.up u5
   have ch5:=ch04.trans u5.chg (fun _ _ h=>h)
   have h45:=u5.len
   obtain ⟨o,ho7,H7,lo7,ch7,hm7,hl7,hF7,hres⟩:=hC j hj (some ⟨H4.length,0,none⟩) 1 1 H5 (hg4.trans u5.grow) hF5 hm5 (bd.sl encI_len (by decide))
   have hl7:mb≤lo7:=hl7
   have ch07:=ch5.trans ch7 (fun _ _ h=>h)
   have h57:=ch7.len
   have hml7:=hm7.lt
   rcases hres with ⟨hr,rfl⟩ | ⟨t,a7,m7,hr,rfl,hi7⟩
   ·rw [hr] at hfi
    simp only [Option.map_none] at hfi
    rw [hfi] at hpf
    simp (maxDischargeDepth:=8) only [↓SD,SU,SV,SW,simprocAttr,Int.cast_ofNat_Int,small,resV, q85x0,t0,t1,t5,t6, lt_nat,hj,loc_m,l1,l2,l3,hwb3,hwb4,ho3,q2,hH5,ho7,hw1]
    exact ih _ ⟨_,(H7),(_),rfl,(by simp [get_set,t0] <;> omega),(by simp [get_set,t1] <;> omega),(by simp [get_set,t5] <;> omega),(by simp [get_set,t6] <;> omega),⟨ch07,hm7,by omega,hF7,hpf⟩⟩
   ·rw [hr] at hfi
    simp only [Option.map_some] at hfi
    rw [hfi] at hpf
    have hln:0 < (([]:List Nat)++j :: t).length:=by simp
    obtain ⟨b8,o8,_,ha8,_,_⟩:=hi7.i1 hln
    subst ha8
    rw [hpf]
    have hl7len:(([]:List Nat)++j :: t).length=t.length+1:=by simp
    rw [hl7len] at hi7 ho7
    simp (maxDischargeDepth:=8) only [↓SD,SU,SV,SW,simprocAttr,Int.cast_ofNat_Int,small,resV, q85x0,t0,t1,t5,t6, lt_nat,hj,loc_m,l1,l2,l3,hwb3,hwb4,ho3,q2,hH5,ho7,R85,N85]
    rw [yes_some]
    refine gc_ds ch07 hm7 ?_ hF7 ?_ ?_
    ·omega
    ·rfl
    ·exact hi7
  ·rw [if_neg q2] at hfi
   rw [hfi] at hpf
   simp (maxDischargeDepth:=8) only [↓SD,SU,SV,SW,simprocAttr,Int.cast_ofNat_Int,small,resV, q85x0,t0,t1,t5,t6, lt_nat,hj,loc_m,l1,l2,l3,hwb3,ho3,q2,hw1]
   exact ih _ ⟨_,(H4),(_),rfl,(by simp [get_set,t0] <;> omega),(by simp [get_set,t1] <;> omega),(by simp [get_set,t5] <;> omega),(by simp [get_set,t6] <;> omega),⟨ch04,hm4,by omega,hF4,hpf⟩⟩
 ·rintro c' s ⟨T,H3,lim,rfl,t0,t1,t5,t6,hp⟩
  obtain ⟨hch,hm3,hlim,hF3,hpf⟩:=hp
  have hml3:=hm3.lt
  rw [hpf,List.drop_eq_nil_of_le (by simp),List.findSome?_nil]
  simp (maxDischargeDepth:=8) only [↓SD,SU,SV,SW,simprocAttr,Int.cast_ofNat_Int,small,resV, q85x0,t0,t1,t5,t6, lt_nat,Nat.lt_irrefl,R85,N85]
  rw [yes_some]
  exact gc_dn hm hF hch hm3 (by omega) hF3
end Go.Pi.L.Ben
set_option maxRecDepth 100000
namespace Go.Pi.L.Ben
open Go Go.Pi Go.Pi.L Go.Pi.E Go.Pi.Ben BM

theorem c41 {H:Heap}{r:BeR}{b:Bench}{a:Option Addr}{l kk:Nat}{p:List Int}{t:List Nat}(hb:BeOk H r b)(hd:SmB r)(hx:Ints H a l p)(hl:l < 1000000)(hB:isBench b=true)(hP:isPlan b p=true)
  (ht:chainN (follows b p) (durW b (-1) 0 true) (takesN b (en b p true)) b.strokes.length=some t) (ht0:0 < t.length) :
  ∀H',Grow H H'→Fam H'→Yes (R (.func 41) [.agg #[.int .i64 r.app,.slice r.ba r.bl r.bk,.slice r.sa r.sl r.sk],.slice a l kk] H') (QP H' 1 encI (castL t) (.int .i64 0)):=by
 intro H' hg hF
 refine run_y (pr 41) P41 (by simp [p41]) rfl ?_
 have l3:=hx.isLoc kk
 generalize hH:H'++[({ obj:=.cells [.int .i64 r.app,.slice r.ba r.bl r.bk,.slice r.sa r.sl r.sk] }:Blk)]=H1
 have u1:Up H' H1:=by rw [←hH]; exact (Up.refl _).app
 have a5:H1.length=H'.length+1:=by rw [←hH]; simp
 have a4:hcells H1 H'.length=some [.int .i64 r.app,.slice r.ba r.bl r.bk,.slice r.sa r.sl r.sk]:=by rw [←hH]; exact hc_new _ _ _
 have f1:Fam H1:=by rw [←hH]; exact hF.append fun g hg=>by cases hg
 have k1:=c74 hb hd H1 (hg.trans u1.grow)
 have k2:=c75 (kk:=kk) hb hx hl H1 (hg.trans u1.grow)
 have k3:=c76 (kk:=kk) hb hx H1 (hg.trans u1.grow)
 rw [hB] at k1
 rw [hP] at k2
 generalize hH2:H1++[({ obj:=.map mSh [] }:Blk)]=H2 at k3
 have u2:Up H1 H2:=by rw [←hH2]; exact (Up.refl _).app
 have a6:H2.length=H'.length+2:=by rw [←hH2]; simp; omega
 have f2:Fam H2:=by rw [←hH2]; exact f1.append fun g hg=>by cases hg
 have hm2:Mp (vE b p (-1) 0) H2 H1.length:=by rw [←hH2]; exact mp_new _ _
 generalize hH3:H2++[({ obj:=.cells [.int .i64 r.app,.slice r.ba r.bl r.bk,.slice r.sa r.sl r.sk,.slice a l kk,.map (some H1.length),.int .i64 (-1),.int .i64 0] }:Blk)]=H3
 have u3:Up H2 H3:=by rw [←hH3]; exact (Up.refl _).app
 have a7:H3.length=H'.length+3:=by rw [←hH3]; simp; omega
 have f3:Fam H3:=by rw [←hH3]; exact f2.append fun g hg=>by cases hg
 have a8:hcells H3 H2.length=some [.int .i64 r.app,.slice r.ba r.bl r.bk,.slice r.sa r.sl r.sk,.slice a l kk,.map (some H1.length),.int .i64 (-1),.int .i64 0]:=by rw [←hH3]; exact hc_new _ _ _
 generalize hH4:H3++[({ obj:=.cells [.slice none 0 0] }:Blk)]++[({ obj:=.cells [.int .i64 0] }:Blk)]=H4
 have u4:Up H3 H4:=by rw [←hH4]; exact (Up.refl _).app.app
 have f4:Fam H4:=by rw [←hH4]; exact (f3.append fun g hg=>by cases hg).append fun g hg=>by cases hg
 have a9:H4[H3.length]?=some ⟨.cells [.slice none 0 0],true,true,none⟩:=by rw [←hH4]; simp
 have a10:H4[H3.length+1]?=some ⟨.cells [.int .i64 0],true,true,none⟩:=by rw [←hH4]; simp
 have g4:=hg.trans (u1.grow.trans (u2.grow.trans (u3.grow.trans u4.grow)))
 have hw:=wk0_ok (kk:=kk) (mb:=H1.length) (hb.grow g4) (hx.grow g4) hB hP
 have a4':=(u2.grow.trans (u3.grow.trans u4.grow)).hc a4
 have a8':=u4.grow.hc a8
 obtain ⟨o,ho,H5,lo5,ch5,hm5,hl5,hF5,hres⟩:=c85 hw hd (bb:=H'.length) (wb:=H2.length) a4' a8' H4 (Grow.refl _) f4 (hm2.up (u3.trans u4))
 have hl5:H1.length≤lo5:=hl5
 have h45:=ch5.len
 have h34:=u4.len
 rcases hres with ⟨hr,_⟩ | ⟨t',b8,o8,m8,hr,rfl,hi8⟩
 ·exfalso
  have:chainN (follows b p) (durW b (-1) 0 true) (takesN b (en b p true)) b.strokes.length=none:=hr
  rw [ht] at this; cases this
 have htt:t'=t:=by
  have:chainN (follows b p) (durW b (-1) 0 true) (takesN b (en b p true)) b.strokes.length=some t':=hr
  rw [ht] at this; cases this; rfl
 subst htt
 have c9:H5[H3.length]?=some ⟨.cells [.slice none 0 0],true,true,none⟩:=by
  rw [ch5.old _ (List.getElem?_eq_some_iff.1 a9).1 (by show ¬H3.length=H1.length; omega)]; exact a9
 have c10:H5[H3.length+1]?=some ⟨.cells [.int .i64 0],true,true,none⟩:=by
  rw [ch5.old _ (List.getElem?_eq_some_iff.1 a10).1 (by show ¬H3.length+1=H1.length; omega)]; exact a10
 have kat:=c84 (g:=85) (caps:=[.pointer (some ⟨H'.length,0,none⟩),.pointer (some ⟨H2.length,0,none⟩)]) (H:=H3) rfl rfl (by rw [hH4]; exact ho) c9 c10
 obtain ⟨o,ho6,lo6,hlo6,rfl⟩:=kat
 rw [gc_keep (by simp [flat])] at ho6
 have u05:Up H' H5:=ch5.up' (u1.trans (u2.trans (u3.trans u4))) (fun i hi h=>by have:i=H1.length:=h; omega)
 generalize hH6:H5.set H3.length ({ obj:=.cells [.slice (some ⟨b8,o8,none⟩) t'.length m8] }:Blk)=H6 at ho6
 have u06:Up H' H6:=by
  rw [←hH6]
  exact ⟨by simp; exact u05.len,fun i hi=>by rw [List.getElem?_set_ne (by omega)]; exact u05.old i hi⟩
 have hne:b8≠H3.length:=by
  intro e
  obtain ⟨b9,o9,c,h1,h2,h3⟩:=hi8.rd 0 _ (List.getElem?_eq_getElem (by rw [castL,List.length_map]; exact ht0))
  cases h1
  rw [e] at h2
  have:hcells H5 H3.length=some [.slice none 0 0]:=by unfold hcells; rw [c9]
  rw [this] at h2
  cases h2
  rcases Nat.eq_zero_or_pos o8 with h | h
  ·rw [h] at h3; simp [encI] at h3
  ·rw [List.drop_eq_nil_of_le (by simp; omega)] at h3; simp [encI] at h3
 have hi6:Ints H6 (some ⟨b8,o8,none⟩) t'.length (castL t'):=⟨hi8.len,hi8.loc,fun j x hx=>by
  obtain ⟨b9,o9,c,h1,h2,h3⟩:=hi8.rd j x hx
  cases h1
  refine ⟨_,_,c,rfl,?_,h3⟩
  rw [←hH6]
  unfold hcells at h2 ⊢
  rw [List.getElem?_set_ne (Ne.symm hne)]; exact h2⟩
 obtain ⟨app,ba,bl,bk,sa,sl,sk,xs⟩:=r
 have hB:Ints H ba bl b.boards:=hb.br
 have hS:Sl H 5 eK sa sl xs:=hb.st
 have l1:=hB.isLoc bk
 have l2:=hS.isLoc sk
 simp only at k1 k2 k3 hH hH3 a4 ho6 ⊢
 have q2:H2.length=H2.length:=rfl
 have lA:isLoc (.slice (some ⟨b8,o8,none⟩) t'.length m8)=false:=rfl
 simp (maxDischargeDepth:=8) only [↓SD,SU,SV,SW,simprocAttr,Int.cast_ofNat_Int,small,resV, B41,R41,N41,b41, l1,l2,l3,loc_m,hH,a4,k1,k2,k3,List.length_singleton,app_get,stH_ok,app_set,hH3,ho6,lA,R41,N41]
 rw [yes_some]
 exact gc_sp hi6 u06 (by omega)
end Go.Pi.L.Ben
set_option maxRecDepth 100000
namespace Go.Pi.L.Ben
open Go Go.Pi Go.Pi.L Go.Pi.E Go.Pi.Ben BM

theorem c100 (a1 a2:Option Addr)(l1 m1 l2 m2:Nat)(x y:Int)(h1:isLoc (.slice a1 l1 m1)=false)(h2:isLoc (.slice a2 l2 m2)=false)(H:Heap) :
  R (.func 100) [.agg #[.slice a1 l1 m1,.int .i64 x],.agg #[.slice a2 l2 m2,.int .i64 y]] H=some ⟨.ok (.bool (decide (x < y))),H,H.length⟩:=by
 refine run_k (pr 100) P100 (by simp [p100]) rfl ?_
 simp (maxDischargeDepth:=8) only [↓SD,SU,SV,SW,simprocAttr,Int.cast_ofNat_Int,small,resV, B100,R100,N100,b100, h1,h2,R100,N100]
theorem c49 {H:Heap}{r:BeR}{b:Bench}{a:Option Addr}{l kk:Nat}{p:List Int}(hb:BeOk H r b)(hd:SmB r)(hx:Ints H a l p)(hl:l < 1000000)(hB:isBench b=true)(hP:isPlan b p=true) :
  ∀H',Grow H H'→R (.func 49) [.agg #[.int .i64 r.app,.slice r.ba r.bl r.bk,.slice r.sa r.sl r.sk],.slice a l kk] H'=some ⟨.ok (.int .i64 (takesN b (en b p true))),H',H'.length⟩:=by
 intro H' hg
 refine run_k (pr 49) P49 (by simp [p49]) rfl ?_
 have l3:=hx.isLoc kk
 have hf:=fine_of hB
 have n6:=hf.n6
 have hlen:p.length=b.strokes.length:=by simp only [isPlan,Bool.and_eq_true,decide_eq_true_eq] at hP; exact hP.1
 have hlb:b.strokes.length=l:=by rw [←hlen]; exact hx.len
 have hel:(endsL b p b.strokes.length).length=b.strokes.length:=by simp [endsL]
 obtain ⟨o,ho1,a1,m1,H1,lo1,rfl,u1,hlo1,s1⟩:=c26 (kk:=kk) hb hd hx hl hB hP H' hg
 rw [hel,hlb] at ho1 s1
 have i1:=s1.isLoc m1
 have h1:=u1.len
 unfold takesN
 rw [hlb]
 obtain ⟨app,ba,bl,bk,sa,sl,sk,xs⟩:=r
 have hB:Ints H ba bl b.boards:=hb.br
 have hS:Sl H 5 eK sa sl xs:=hb.st
 have l1:=hB.isLoc bk
 have l2:=hS.isLoc sk
 simp only at ho1 ⊢
 simp (maxDischargeDepth:=8) only [↓SD,SU,SV,SW,simprocAttr,Int.cast_ofNat_Int,small,resV, B49,R49,N49,b49, l1,l2,l3,i1,ho1,eq_nat]
 refine loop_ind (G:=(·=_)) (fun j σ=>∃T S m lim,σ=⟨T,S,[],H1,lim,38,false⟩∧get T 5=.slice a1 l m1∧get T 7=.int .i64 m∧get T 8=.int .i64 (j:Nat)∧(((List.range l).map (en b p true)).foldl max 0=(((List.range l).drop j).map (en b p true)).foldl max m∧H'.length≤lim)) (l) ?_ ?_ 0 _ (Nat.zero_le _) ⟨_,_,_,_,rfl,rfl,rfl,rfl,⟨rfl,by omega⟩⟩
 ·rintro c' j s hj ⟨T,S,m,lim,rfl,t5,t7,t8,hp⟩ ih
  obtain ⟨hp,hlim⟩:=hp
  obtain ⟨b2,o2,y,hya,hy,_,_,e3⟩:=s1.p2 hj
  have e3:=e3 H1 (Grow.refl _)
  have hye:y=(en b p false j,en b p true j):=by
   rw [show (endsL b p l)[j]?=some (en b p false j,en b p true j) by simp [endsL,hj]] at hy
   cases hy; rfl
  subst hye
  have hw:=wrap_succ j (by omega)
  rw [range_drop hj,List.map_cons,List.foldl_cons] at hp
  simp (maxDischargeDepth:=8) only [↓SD,SU,SV,SW,simprocAttr,Int.cast_ofNat_Int,small,resV, q49x0,t5,t7,t8, lt_nat,hj,l1,l2,l3,i1,hya,e3,hw]
  exact ih _ ⟨_,_,(_),(_),rfl,(by simp [get_set,t5] <;> omega),(by simp [get_set,t7] <;> omega),(by simp [get_set,t8] <;> omega),⟨hp,by omega⟩⟩
 ·rintro c' s ⟨T,S,m,lim,rfl,t5,t7,t8,hp⟩
  obtain ⟨hp,hlim⟩:=hp
  rw [List.drop_eq_nil_of_le (by simp),List.map_nil,List.foldl_nil] at hp
  have hp:lastH ((List.range l).map (en b p true))=m:=hp
  simp (maxDischargeDepth:=8) only [↓SD,SU,SV,SW,simprocAttr,Int.cast_ofNat_Int,small,resV, q49x0,t5,t7,t8, lt_nat,Nat.lt_irrefl,l1,l2,l3,i1,R49,N49,hp]
  first | (rw [gc_ite (by omega)]; simp [flat]; done) | (simp [gcR,flat]; omega)
end Go.Pi.L.Ben
