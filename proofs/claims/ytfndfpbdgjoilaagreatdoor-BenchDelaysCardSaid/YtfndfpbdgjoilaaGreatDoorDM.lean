/- Benches: hours that are changed; hours to spare, as the document has them. -/
import Derived.Test.YtfndfpbdgjoilaaGreatDoorDL
set_option linter.all false
set_option maxRecDepth 100000
namespace Go.Pi.L.Ben
open Go Go.Pi Go.Pi.L Go.Pi.E Go.Pi.Ben BM

end Go.Pi.L.Ben
set_option maxRecDepth 100000
namespace Go.Pi.L.Ben
open Go Go.Pi Go.Pi.L Go.Pi.E Go.Pi.Ben BM

end Go.Pi.L.Ben
set_option maxRecDepth 100000
namespace Go.Pi.L.Ben
open Go Go.Pi Go.Pi.L Go.Pi.E Go.Pi.Ben BM

def fol (b:Bench)(p:List Int)(k n:Nat):Bool:=decide (k < n)&&follows b p k n
def okI (b:Bench)(p:List Int)(all:Int):Int→Option Int→List Int→Bool
 | a,_,[]=>decide (a=all)
 | a,prev,x :: l=>isStroke b x&&(decide (be b p true x.toNat=a)&&((match prev with | some k=>fol b p k.toNat x.toNat | none=>true)&&okI b p all (en b p true x.toNat) (some x) l))
def chI (b:Bench)(p:List Int)(l:List Int):Bool:=decide (1≤l.length)&&(decide (l.length≤p.length)&&okI b p (takesN b (en b p true)) 0 none l)
def prevO (ls:List Int):Nat→Option Int
 | 0=>none
 | j+1=>ls[j]?
theorem stroke_nat {b:Bench}{x:Int}(h:isStroke b x=true):∃n:Nat,x=n∧n < b.strokes.length:=by
 unfold isStroke at h
 rw [inL_iff] at h
 exact ⟨x.toNat,by omega,by omega⟩
set_option maxHeartbeats 2000000 in
theorem c46 {H:Heap}{r:BeR}{b:Bench}{a:Option Addr}{l kk:Nat}{p:List Int}{a2:Option Addr}{l2 kk2:Nat}{ls:List Int}(hb:BeOk H r b)(hd:SmB r)(hx:Ints H a l p)(hf:Fine b)(hlen:p.length=b.strokes.length)(hy:Ints H a2 l2 ls) :
  ∀H',Grow H H'→Fam H'→R (.func 46) [.agg #[.int .i64 r.app,.slice r.ba r.bl r.bk,.slice r.sa r.sl r.sk],.slice a l kk,.slice a2 l2 kk2] H'=some ⟨.ok (.bool (chI b p ls)),H',H'.length⟩:=by
 intro H' hg hF
 refine run_k (pr 46) P46 (by simp [p46]) rfl ?_
 have l1:=hb.br.isLoc r.bk
 have l2':=hb.st.isLoc r.sk
 have l3:=hx.isLoc kk
 have l4:=hy.isLoc kk2
 have n6:=hf.n6
 have hlb:b.strokes.length=l:=by rw [←hlen]; exact hx.len
 have hsl:=hb.len
 have hll:=hy.len
 unfold chI
 by_cases q1:l2 < 1
 ·have z1:(((l2:Nat):Int) < 1)=True:=by simp; omega
  have e:decide (1≤ls.length)=false:=decide_eq_false (by omega)
  rw [e,Bool.false_and]
  simp (maxDischargeDepth:=8) only [↓SD,SU,SV,SW,simprocAttr,Int.cast_ofNat_Int,small,resV, B46,R46,N46,b46, l1,l2',l3,l4,z1,R46,N46]
 by_cases q2:l < l2
 ·have z1:(((l2:Nat):Int) < 1)=False:=by simp; omega
  have e:decide (ls.length≤p.length)=false:=decide_eq_false (by omega)
  rw [e,Bool.false_and,Bool.and_false]
  simp (maxDischargeDepth:=8) only [↓SD,SU,SV,SW,simprocAttr,Int.cast_ofNat_Int,small,resV, B46,R46,N46,b46, l1,l2',l3,l4,z1,lt_nat,q2,R46,N46]
 have z1:(((l2:Nat):Int) < 1)=False:=by simp; omega
 have e1:decide (1≤ls.length)=true:=decide_eq_true (by omega)
 have e2:decide (ls.length≤p.length)=true:=decide_eq_true (by omega)
 rw [e1,e2,Bool.true_and,Bool.true_and]
 obtain ⟨o,ho1,a3,m3,H1,lo1,rfl,u1,hlo1,s1⟩:=c28 hb hd true H' hg
 have hF1:Fam H1:=famR ho1 hF
 have hN1:(hoursL b true b.strokes.length).length=l:=by unfold hoursL; rw [List.length_map,List.length_range,hlb]
 rw [hN1] at ho1 s1
 obtain ⟨o,ho2,a4,m4,H2,lo2,rfl,u2,hlo2,s2⟩:=c82 (kk:=kk) (mh:=m3) (hb.grow (hg.trans u1.grow)) hd (Sl.grow hx (hg.trans u1.grow)) hf hlen (dur:=durG b true) s1 (durG_b hf true) H1 (Grow.refl _) hF1
 have hF2:Fam H2:=famR ho2 hF1
 rw [List.length_map,List.length_range,hlb] at ho2
 have s3:=s2.sl encI_len (by decide)
 rw [List.length_map,List.length_range,hlb] at s3
 have g2:=(hg.trans u1.grow).trans u2.grow
 have k53:=c53 (kk:=kk) hb hd hx hf hlen H2 g2 hF2
 have l5:=s1.isLoc m3
 have l6:=s3.isLoc m4
 have h1:=u1.len
 have h2:=u2.len
 generalize hall:takesN b (en b p true)=all at k53
 generalize hRES:okI b p all 0 none ls=RES
 simp (maxDischargeDepth:=8) only [↓SD,SU,SV,SW,simprocAttr,Int.cast_ofNat_Int,small,resV, B46,R46,N46,b46, l1,l2',l3,l4,l5,l6,z1,lt_nat,q2,ho1,ho2]
 refine loop_ind (G:=(·=_)) (fun j σ=>∃T S lim at_,σ=⟨T,S,[],H2,lim,90,false⟩∧get T 1=.slice a l kk∧get T 2=.slice a2 l2 kk2∧get T 3=.pointer (some ⟨3,0,some 1⟩)∧get T 7=.slice a3 l m3∧get T 8=.slice a4 l m4∧get T 9=.int .i64 at_∧get T 10=.int .i64 (j:Nat)∧sget S 3=(1,.cells [.int .i64 r.app,.slice r.ba r.bl r.bk,.slice r.sa r.sl r.sk])∧(RES=okI b p all at_ (prevO ls j) (ls.drop j)∧(∀k,prevO ls j=some k→isStroke b k=true)∧H'.length≤lim)) (l2) ?_ ?_ 0 _ (Nat.zero_le _) ⟨_,_,_,_,rfl,rfl,rfl,rfl,rfl,rfl,rfl,rfl,rfl,⟨hRES.symm,fun k h=>(by cases h),by omega⟩⟩
 ·rintro c' j s hj ⟨T,S,lim,at_,rfl,t1,t2,t3,t7,t8,t9,t10,s0,hp⟩ ih
  obtain ⟨hr,hpv,hlim⟩:=hp
  obtain ⟨xb,xo,x,hxa,hxx,fx⟩:=hy.i1 (j:=j) hj
  have fx1:=fx H2 g2
  have iax:vv (.ia 1) [.slice a2 l2 kk2,.int .i64 (j:Nat)]=some (.pointer (some ⟨xb,xo+j*1,none⟩)):=by rw [hxa]; exact vv_iaN 1 xb xo j _ _ _ hj
  have k44:=c44 hb hd x H2 g2
  have hw:=wrap_succ j (by omega)
  rw [drop_cons hxx] at hr
  simp only [okI] at hr
  cases hS:isStroke b x with
  | false =>
   rw [hS] at k44 hr
   rw [hr,Bool.false_and]
   simp (maxDischargeDepth:=8) only [↓SD,SU,SV,SW,simprocAttr,Int.cast_ofNat_Int,small,resV, q46x0,t1,t2,t3,t7,t8,t9,t10,s0, s0,lt_nat,hj,l1,l2',l3,l4,l5,l6,iax,fx1,k44,R46,N46]
   rw [gc_ite (by omega)]; simp [flat]
  | true =>
  rw [hS] at k44 hr
  rw [Bool.true_and] at hr
  obtain ⟨n,rfl,hn⟩:=stroke_nat hS
  rw [Int.toNat_natCast] at hr
  obtain ⟨bb,bo,y,hba,hby,fb⟩:=s3.i1 (j:=n) (by omega)
  rw [List.getElem?_map,List.getElem?_range (show n < l by omega)] at hby
  cases hby
  have fb1:=fb H2 (Grow.refl _)
  rw [←be_eq] at fb1
  have iab:vv (.ia 1) [.slice a4 l m4,.int .i64 (n:Nat)]=some (.pointer (some ⟨bb,bo+n*1,none⟩)):=by rw [hba]; exact vv_iaN 1 bb bo n _ _ _ (by omega)
  obtain ⟨cb,co,z,hca,hcz,fc⟩:=s1.i1 (j:=n) (by omega)
  unfold hoursL at hcz
  rw [List.getElem?_map,List.getElem?_range hn] at hcz
  cases hcz
  have fc1:=fc H2 u2.grow
  have iac:vv (.ia 1) [.slice a3 l m3,.int .i64 (n:Nat)]=some (.pointer (some ⟨cb,co+n*1,none⟩)):=by rw [hca]; exact vv_iaN 1 cb co n _ _ _ (by omega)
  have hen:=en_b hf p true hn
  have hbn:0≤be b p true n:=bN_nonneg _ _ _
  have hsum:be b p true n+durG b true n=en b p true n:=by
   show _+durG b true n=be b p true n+durW b (-1) 0 true n
   rw [durW_nil]
  have hdg:=durG_b hf true n
  have hws:IntKind.wrap .i64 (be b p true n+durG b true n)=en b p true n:=by rw [hsum,wrap_id _ (by omega) (by omega)]
  by_cases hbe:be b p true n=at_
  case neg =>
   have e:decide (be b p true n=at_)=false:=by simp [hbe]
   rw [e,Bool.false_and] at hr
   rw [hr]
   simp (maxDischargeDepth:=8) only [↓SD,SU,SV,SW,simprocAttr,Int.cast_ofNat_Int,small,resV, q46x0,t1,t2,t3,t7,t8,t9,t10,s0, s0,lt_nat,hj,l1,l2',l3,l4,l5,l6,iax,fx1,k44,iab,fb1,hbe,R46,N46]
   rw [gc_ite (by omega)]; simp [flat]
  have e:decide (be b p true n=at_)=true:=by simp [hbe]
  rw [e,Bool.true_and] at hr
  have hws':IntKind.wrap .i64 (at_+durG b true n)=en b p true n:=by rw [←hbe]; exact hws
  have nxP:RES=okI b p all (en b p true n) (some ((n:Nat):Int)) (ls.drop (j+1))→∀lim',H'.length≤lim'→RES=okI b p all (en b p true n) (prevO ls (j+1)) (ls.drop (j+1))∧(∀k,prevO ls (j+1)=some k→isStroke b k=true)∧H'.length≤lim':=fun h lim' hl=>by
   have e:prevO ls (j+1)=some ((n:Nat):Int):=hxx
   rw [e]
   exact ⟨h,fun k hk=>by cases hk; exact hS,hl⟩
  rcases Nat.eq_zero_or_pos j with hj0 | hj0
  ·have zc:((0:Int) < ((j:Nat):Int))=False:=by simp; omega
   have hpr:prevO ls j=none:=by rw [hj0]; rfl
   rw [hpr] at hr
   simp only [Bool.true_and] at hr
   simp (maxDischargeDepth:=8) only [↓SD,SU,SV,SW,simprocAttr,Int.cast_ofNat_Int,small,resV, q46x0,t1,t2,t3,t7,t8,t9,t10,s0, s0,lt_nat,hj,l1,l2',l3,l4,l5,l6,iax,fx1,k44,iab,fb1,hbe,zc,hw,iac,fc1,hws']
   exact ih _ ⟨_,_,(_),(en b p true n),rfl,(by simp [get_set,t1] <;> omega),(by simp [get_set,t2] <;> omega),(by simp [get_set,t3] <;> omega),(by simp [get_set,t7] <;> omega),(by simp [get_set,t8] <;> omega),(by simp [get_set,t9] <;> omega),(by simp [get_set,t10] <;> omega),by simp [sget_sset,s0],nxP hr _ (by omega)⟩
  ·have zc:((0:Int) < ((j:Nat):Int))=True:=by simp; omega
   obtain ⟨i,rfl⟩:∃i,j=i+1:=⟨j - 1,by omega⟩
   obtain ⟨yb,yo,y,hya,hyy,fy⟩:=hy.i1 (j:=i) (by omega)
   have fy1:=fy H2 g2
   have iay:vv (.ia 1) [.slice a2 l2 kk2,.int .i64 (i:Nat)]=some (.pointer (some ⟨yb,yo+i*1,none⟩)):=by rw [hya]; exact vv_iaN 1 yb yo i _ _ _ (by omega)
   have hpr:prevO ls (i+1)=some y:=hyy
   have hSy:=hpv y hpr
   obtain ⟨m,rfl,hm⟩:=stroke_nat hSy
   rw [hpr] at hr
   simp only [Int.toNat_natCast] at hr
   have k91:=c91 (kk:=kk) (k:=m) (n:=n) hb hd hx (by omega) (by omega) (by omega) H2 g2
   have wsub:IntKind.wrap .i64 (((i+1:Nat):Int) - 1)=((i:Nat):Int):=by rw [wrap_id _ (by omega) (by omega)]; omega
   cases hfo:fol b p m n with
   | false =>
    rw [hfo,Bool.false_and] at hr
    unfold fol at hfo
    rw [hfo] at k91
    rw [hr]
    simp (maxDischargeDepth:=8) only [↓SD,SU,SV,SW,simprocAttr,Int.cast_ofNat_Int,small,resV, q46x0,t1,t2,t3,t7,t8,t9,t10,s0, s0,lt_nat,hj,l1,l2',l3,l4,l5,l6,iax,fx1,k44,iab,fb1,hbe,zc,wsub,iay,fy1,k91,R46,N46]
    rw [gc_ite (by omega)]; simp [flat]
   | true =>
    rw [hfo,Bool.true_and] at hr
    unfold fol at hfo
    rw [hfo] at k91
    simp (maxDischargeDepth:=8) only [↓SD,SU,SV,SW,simprocAttr,Int.cast_ofNat_Int,small,resV, q46x0,t1,t2,t3,t7,t8,t9,t10,s0, s0,lt_nat,hj,l1,l2',l3,l4,l5,l6,iax,fx1,k44,iab,fb1,hbe,zc,wsub,iay,fy1,k91,hw,iac,fc1,hws']
    exact ih _ ⟨_,_,(_),(en b p true n),rfl,(by simp [get_set,t1] <;> omega),(by simp [get_set,t2] <;> omega),(by simp [get_set,t3] <;> omega),(by simp [get_set,t7] <;> omega),(by simp [get_set,t8] <;> omega),(by simp [get_set,t9] <;> omega),(by simp [get_set,t10] <;> omega),by simp [sget_sset,s0],nxP hr _ (by omega)⟩
 ·rintro c' s ⟨T,S,lim,at_,rfl,t1,t2,t3,t7,t8,t9,t10,s0,hp⟩
  obtain ⟨hr,hpv,hlim⟩:=hp
  rw [List.drop_of_length_le (by omega)] at hr
  simp only [okI] at hr
  simp (maxDischargeDepth:=8) only [↓SD,SU,SV,SW,simprocAttr,Int.cast_ofNat_Int,small,resV, q46x0,t1,t2,t3,t7,t8,t9,t10,s0, s0,lt_nat,Nat.lt_irrefl,l1,l2',l3,l4,l5,l6,k53,R46,N46]
  rw [gc_ite (by omega),hr]; simp [flat]
end Go.Pi.L.Ben
