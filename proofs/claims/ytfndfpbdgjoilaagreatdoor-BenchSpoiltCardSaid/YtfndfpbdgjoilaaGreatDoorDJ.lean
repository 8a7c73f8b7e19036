/- Benches: texts: the sum of a text. -/
import Derived.Test.YtfndfpbdgjoilaaGreatDoorDI
set_option linter.all false
set_option maxRecDepth 100000
namespace BM
def chkR (i:Nat):Nat→List UInt8→Nat
 | _,[]=>0
 | k,x :: r=>x.toNat*(k+1)*(i+1)+chkR i (k+1) r
def chkL:Nat→List (List UInt8)→Nat
 | _,[]=>0
 | i,r :: l=>chkR i 0 r+chkL (i+1) l
theorem chkR_app (i:Nat):∀(a b:List UInt8) (k:Nat),chkR i k (a++b)=chkR i k a+chkR i (k+a.length) b
 | [],b,k=>by simp [chkR]
 | x :: a,b,k=>by
  simp only [List.cons_append,chkR,List.length_cons]
  rw [chkR_app i a b (k+1),show k+1+a.length=k+(a.length+1) by omega]; omega
theorem chkL_app:∀(a b:List (List UInt8)) (i:Nat),chkL i (a++b)=chkL i a+chkL (i+a.length) b
 | [],b,i=>by simp [chkL]
 | x :: a,b,i=>by
  simp only [List.cons_append,chkL,List.length_cons]
  rw [chkL_app a b (i+1),show i+1+a.length=i+(a.length+1) by omega]; omega
theorem chkR_take {i:Nat}{r:List UInt8}{k:Nat}{x:UInt8}(h:r[k]?=some x):chkR i 0 (r.take (k+1))=chkR i 0 (r.take k)+x.toNat*(k+1)*(i+1):=by
 have hl:=(List.getElem?_eq_some_iff.1 h).1
 rw [List.take_add_one,h,chkR_app]
 simp only [Option.toList_some,chkR,List.length_take]
 rw [show 0+min k r.length=k by omega]; omega
theorem chkL_take {L:List (List UInt8)}{i:Nat}{r:List UInt8}(h:L[i]?=some r):chkL 0 (L.take (i+1))=chkL 0 (L.take i)+chkR i 0 r:=by
 have hl:=(List.getElem?_eq_some_iff.1 h).1
 rw [List.take_add_one,h,chkL_app]
 simp only [Option.toList_some,chkL,List.length_take]
 rw [show 0+min i L.length=i by omega]; omega
theorem chkR_le (i:Nat):∀(r:List UInt8) (k:Nat),k+r.length≤1100→i < 700→chkR i k r≤255*1100*700*r.length
 | [],k,_,_=>by simp [chkR]
 | x :: r,k,h,hi=>by
  have h1:=chkR_le i r (k+1) (by simp at h; omega) hi
  have hx:x.toNat≤255:=by have:=x.toNat_lt; omega
  have h2:x.toNat*(k+1)*(i+1)≤255*1100*700:=Nat.mul_le_mul (Nat.mul_le_mul hx (by simp at h; omega)) (by omega)
  simp only [chkR,List.length_cons] at h1 ⊢
  rw [Nat.mul_add,Nat.mul_one]
  exact Nat.le_trans (Nat.add_le_add h2 h1) (by omega)
theorem chkL_le:∀(L:List (List UInt8)) (i:Nat),(∀r∈L,r.length≤1100)→i+L.length≤700→chkL i L≤255*1100*700*1100*L.length
 | [],i,_,_=>by simp [chkL]
 | r :: L,i,h,hi=>by
  have h1:=chkL_le L (i+1) (fun x hx=>h x (List.mem_cons_of_mem _ hx)) (by simp at hi; omega)
  have h2:=chkR_le i r 0 (by have:=h r (List.mem_cons_self ..); omega) (by simp at hi; omega)
  have h3:=h r (List.mem_cons_self ..)
  have h4:255*1100*700*r.length≤255*1100*700*1100:=Nat.mul_le_mul_left _ h3
  simp only [chkL,List.length_cons] at h1 ⊢
  rw [Nat.mul_add,Nat.mul_one]
  exact Nat.le_trans (Nat.add_le_add (Nat.le_trans h2 h4) h1) (by omega)
def endT (c:Nat):List UInt8:=[101,110,100,32]++Go.Pi.Q.dig (c / 100)++Go.Pi.Q.dig (c / 10 % 10)++Go.Pi.Q.dig (c % 10)
end BM
namespace Go.Pi.L
open Go Go.Pi
theorem vv_cvI (j k:IntKind)(n:Int)(hw:k.wrap n=n):vv (.cv k) [.int j n]=some (.int k n):=by
 rw [vv_of rfl]
 simp only [VOp.ev]; rw [hw]
end Go.Pi.L
set_option maxRecDepth 100000
namespace Go.Pi.L.Ben
open Go Go.Pi Go.Pi.L Go.Pi.E Go.Pi.Ben BM Go.Pi.Q

structure NuB (b:Bench):Prop where
 a0:0≤b.app
 a9:b.app≤99
 bo:Nn b.boards
 st:∀s∈b.strokes,NuS s
 sl:b.strokes.length≤300
def rowsT (b:Bench):List (List UInt8):=(rowHead b.app :: b.boards.map rowDue)++b.strokes.map rowSt
def textT (b:Bench):List UInt8:=Lib.join (rowsT b++[endT (chkL 0 (rowsT b) % 197)]) [10]++[10]
theorem rowsT_len {b:Bench}(h:NuB b):(rowsT b).length≤601∧∀r∈rowsT b,r.length≤1020:=by
 have h1:=h.bo.2
 have h2:=h.sl
 refine ⟨by unfold rowsT; simp; omega,fun r hr=>?_⟩
 unfold rowsT at hr
 rcases List.mem_append.1 hr with hr | hr
 ·rcases List.mem_cons.1 hr with hr | hr
  ·rw [hr]; have:=numsT_len (ns:=[b.app]); unfold rowHead; simp [wBench] at this ⊢; omega
  ·obtain ⟨z,_,rfl⟩:=List.mem_map.1 hr
   have:=numsT_len (ns:=[z]); unfold rowDue; simp [wBoard] at this ⊢; omega
 ·obtain ⟨s,hs,rfl⟩:=List.mem_map.1 hr
  exact rowSt_len (h.st s hs)
theorem wrapN {n:Nat}(h:n < 4000000000000000000):IntKind.wrap .i64 ((n:Nat):Int)=((n:Nat):Int):=wrap_id _ (by omega) (by omega)
theorem endT_len (c:Nat):(endT c).length≤10:=by
 unfold endT
 simp only [List.length_append,List.length_cons,List.length_nil]
 have h1:=(dig_len (c / 100)).1
 have h2:=(dig_len (c / 10 % 10)).1
 have h3:=(dig_len (c % 10)).1
 omega
set_option maxHeartbeats 4000000 in
theorem c103 {H:Heap}{r:BeR}{b:Bench}(hb:BeOk H r b)(hn:NuB b):∀H',Grow H H'→R (.func 103) [.agg #[.int .i64 r.app,.slice r.ba r.bl r.bk,.slice r.sa r.sl r.sk]] H'=some ⟨.ok (.string ⟨(textT b).toArray⟩),H',H'.length⟩:=by
 intro H' hg
 obtain ⟨hR1,hR2⟩:=rowsT_len hn
 have hbl:b.boards.length=r.bl:=hb.blen
 have hsl:b.strokes.length=r.sl:=hb.len
 have hb3:=hn.bo.2
 have hs3:=hn.sl
 have happ:=hb.app
 refine run_k (pr 103) P103 (by simp [p103]) rfl ?_
 have l1:=hb.br.isLoc r.bk
 have l2:=hb.st.isLoc r.sk
 have kh:=c125h (z:=r.app) (by rw [happ]; exact hn.a0) (by rw [happ]; exact hn.a9) H'
 obtain ⟨H1,hH1⟩:∃H1,H'++[(⟨.cells [.string ⟨(rowHead r.app).toArray⟩],true,true,some H'.length⟩:Blk)]=H1:=⟨_,rfl⟩
 have bd1:Bld H'.length H1 1 (some ⟨H'.length,0,none⟩) 1 1 (cells encS (rowHead r.app :: (b.boards.take 0).map rowDue)):=by
  rw [←hH1]; exact bld_one rfl (Nat.le_refl _)
 have u1:Up H' H1:=by rw [←hH1]; exact (Up.refl _).app
 have mk1:∀z:Int,vv (.mki 148) [.int .i64 z]=some (.iface 148 (.int .i64 z)):=fun z=>by rw [vv_of (by rfl)]; rfl
 have mk2:∀z:Int,vv (.mki 149) [.int .i64 z]=some (.iface 149 (.int .i64 z)):=fun z=>by rw [vv_of (by rfl)]; rfl
 simp (maxDischargeDepth:=8) only [↓SD,SU,SV,SW,simprocAttr,Int.cast_ofNat_Int,small,resV, B103,R103,N103,b103, l1,l2,mk1,kh,hH1]
 refine loop_ind (G:=(·=_)) (fun j σ=>∃T S H3 al c m lim,σ=⟨T,S,[],H3,lim,93,false⟩∧get T 1=.pointer (some ⟨1,0,some 1⟩)∧get T 3=.slice al c m∧get T 18=.slice r.ba r.bl r.bk∧get T 19=.int .i64 r.bl∧get T 20=.int .i64 (j:Nat)∧sget S 1=(1,.cells [.int .i64 r.app,.slice r.ba r.bl r.bk,.slice r.sa r.sl r.sk])∧(c=j+1∧Bld H'.length H3 1 al c m (cells encS (rowHead r.app :: (b.boards.take j).map rowDue))∧Up H' H3∧H'.length≤lim)) (r.bl) ?_ ?_ 0 _ (Nat.zero_le _) ⟨_,_,_,_,_,_,_,rfl,rfl,rfl,rfl,rfl,rfl,rfl,⟨rfl,bd1,u1,by omega⟩⟩
 ·rintro c' j s hj ⟨T,S,H3,al,c,m,lim,rfl,t1,t3,t18,t19,t20,s0,hp⟩ ih
  obtain ⟨rfl,hbd,hu,hlim⟩:=hp
  have hw:=wrap_succ j (by omega)
  have l8:isLoc (.slice al (j+1) m)=false:=hbd.isLoc _ _
  have hul:=hu.len
  obtain ⟨b1,o1,v,hva,hv1,fv⟩:=hb.br.i1 hj
  have fv:=fv H3 (hg.trans hu.grow)
  obtain ⟨v0,v9⟩:=hn.bo.1 v (List.mem_of_getElem? hv1)
  have kd:=c125d v0 v9 H3
  have iav:vv (.ia 1) [.slice r.ba r.bl r.bk,.int .i64 (j:Nat)]=some (.pointer (some ⟨b1,o1+j*1,none⟩)):=by rw [hva]; exact vv_iaN 1 b1 o1 j _ _ _ hj
  obtain ⟨H6,p1,p2,p3,p4⟩:=hbd.app (by decide) (by decide) (by omega) hul [.string ⟨(rowDue v).toArray⟩] rfl
  have u6:=p3.up hbd hu (Nat.le_refl _)
  have hcl:cells encS (rowHead r.app :: (b.boards.take (j+1)).map rowDue)=cells encS (rowHead r.app :: (b.boards.take j).map rowDue)++[.string ⟨(rowDue v).toArray⟩]:=by
   rw [take_get hv1,List.map_append,List.map_singleton,←List.cons_append,cells_app]; rfl
  simp (maxDischargeDepth:=8) only [↓SD,SU,SV,SW,simprocAttr,Int.cast_ofNat_Int,small,resV, q103x3,t1,t3,t18,t19,t20,s0, s0,lt_nat,hj,l1,l2,l8,iav,fv,mk2,kd,hw,p1]
  exact ih _ ⟨_,_,(H6),(some ⟨H3.length,0,none⟩),(j+1+1),(1),(_),rfl,(by simp [get_set,t1] <;> omega),(by simp [get_set,t3] <;> omega),(by simp [get_set,t18] <;> omega),(by simp [get_set,t19] <;> omega),(by simp [get_set,t20] <;> omega),by simp [sget_sset,s0],⟨rfl,by rw [hcl]; exact p2,u6,by omega⟩⟩
 ·rintro c' s ⟨T,S,H3,al,c,m,lim,rfl,t1,t3,t18,t19,t20,s0,hp⟩
  obtain ⟨rfl,hbd,hu,hlim⟩:=hp
  have l8:isLoc (.slice al (r.bl+1) m)=false:=hbd.isLoc _ _
  rw [List.take_of_length_le (by omega)] at hbd
  simp (maxDischargeDepth:=8) only [↓SD,SU,SV,SW,simprocAttr,Int.cast_ofNat_Int,small,resV, q103x3,t1,t3,t18,t19,t20,s0, s0,lt_nat,Nat.lt_irrefl,l1,l2,l8,sget_sset]
  have hbd0:Bld H'.length H3 1 al (r.bl+1) m (cells encS ((rowHead r.app :: b.boards.map rowDue)++(b.strokes.take 0).map rowSt)):=by rw [List.take_zero,List.map_nil,List.append_nil]; exact hbd
  refine loop_ind (G:=(·=_)) (fun j σ=>∃T S H4 al2 c m2 lim2,σ=⟨T,S,[],H4,lim2,93,false⟩∧get T 1=.pointer (some ⟨1,0,some 1⟩)∧get T 3=.slice al2 c m2∧get T 32=.slice r.sa r.sl r.sk∧get T 33=.int .i64 r.sl∧get T 34=.int .i64 (j:Nat)∧sget S 1=(1,.cells [.int .i64 r.app,.slice r.ba r.bl r.bk,.slice r.sa r.sl r.sk])∧(c=r.bl+1+j∧Bld H'.length H4 1 al2 c m2 (cells encS ((rowHead r.app :: b.boards.map rowDue)++(b.strokes.take j).map rowSt))∧Up H' H4∧H'.length≤lim2)) (r.sl) ?_ ?_ 0 _ (Nat.zero_le _) ⟨_,_,_,_,_,_,_,rfl,(by first | (simp [get_set,t1,t3,t18,t19,t20]; done) | rfl),(by first | (simp [get_set,t1,t3,t18,t19,t20]; done) | rfl),(by first | (simp [get_set,t1,t3,t18,t19,t20]; done) | rfl),(by first | (simp [get_set,t1,t3,t18,t19,t20]; done) | rfl),(by first | (simp [get_set,t1,t3,t18,t19,t20]; done) | rfl),(by first | rfl | exact s0),⟨(show r.bl+1=r.bl+1+0 from rfl),hbd0,hu,by omega⟩⟩
  ·rintro c' j s hj ⟨T,S,H4,al2,c,m2,lim2,rfl,t1,t3,t32,t33,t34,s0,hp⟩ ih
   obtain ⟨rfl,hbd,hu,hlim⟩:=hp
   have hw:=wrap_succ j (by omega)
   have l8:isLoc (.slice al2 (r.bl+1+j) m2)=false:=hbd.isLoc _ _
   have hul:=hu.len
   obtain ⟨b1,o1,k,hka,hk1,hat⟩:=hb.st.at eK_len (by decide) hj
   have fk:rdO (hcells H4 b1) (o1+j*5) (some 5)=some (.agg #[.int .i64 k.s.board,.bool k.s.round,.int .i64 k.s.lo,.int .i64 k.s.hi,.slice k.a k.l k.m]):=hat.all H4 (hg.trans hu.grow)
   have hkm:=mem_drop hk1
   have hnk:=hb.nd k hkm
   have lk:=hnk.isLoc k.m
   have hsk:b.strokes[j]?=some k.s:=hb.at hk1
   have ks:=c125s hnk (hn.st k.s (List.mem_of_getElem? hsk)) H4 (hg.trans hu.grow)
   have lag:isLoc (.agg #[.int .i64 k.s.board,.bool k.s.round,.int .i64 k.s.lo,.int .i64 k.s.hi,.slice k.a k.l k.m])=false:=rfl
   have bld:vv (.bld [.int .i64 0,.bool false,.int .i64 0,.int .i64 0,.slice none 0 0] [(0,5)]) [.agg #[.int .i64 k.s.board,.bool k.s.round,.int .i64 k.s.lo,.int .i64 k.s.hi,.slice k.a k.l k.m]]=some (.agg #[.int .i64 k.s.board,.bool k.s.round,.int .i64 k.s.lo,.int .i64 k.s.hi,.slice k.a k.l k.m]):=by rw [vv_of (by rfl)]; rfl
   have mk3:vv (.mki 134) [.agg #[.int .i64 k.s.board,.bool k.s.round,.int .i64 k.s.lo,.int .i64 k.s.hi,.slice k.a k.l k.m]]=some (.iface 134 (.agg #[.int .i64 k.s.board,.bool k.s.round,.int .i64 k.s.lo,.int .i64 k.s.hi,.slice k.a k.l k.m])):=by rw [vv_of (by rfl)]; rfl
   have iak:vv (.ia 5) [.slice r.sa r.sl r.sk,.int .i64 (j:Nat)]=some (.pointer (some ⟨b1,o1+j*5,none⟩)):=by rw [hka]; exact vv_iaN 5 b1 o1 j _ _ _ hj
   obtain ⟨H6,p1,p2,p3,p4⟩:=hbd.app (by decide) (by decide) (by omega) hul [.string ⟨(rowSt k.s).toArray⟩] rfl
   have u6:=p3.up hbd hu (Nat.le_refl _)
   have hcl:cells encS ((rowHead r.app :: b.boards.map rowDue)++(b.strokes.take (j+1)).map rowSt)=cells encS ((rowHead r.app :: b.boards.map rowDue)++(b.strokes.take j).map rowSt)++[.string ⟨(rowSt k.s).toArray⟩]:=by
    rw [take_get hsk,List.map_append,List.map_singleton,←List.append_assoc,cells_app]; rfl
   simp (maxDischargeDepth:=8) only [↓SD,SU,SV,SW,simprocAttr,Int.cast_ofNat_Int,small,resV, q103x2,t1,t3,t32,t33,t34,s0, s0,lt_nat,hj,l1,l2,l8,lk,iak,fk,bld,mk3,ks,hw,p1,sget_sset]
   exact ih _ ⟨_,_,(H6),(some ⟨H4.length,0,none⟩),(r.bl+1+j+1),(1),(_),rfl,(by simp [get_set,t1] <;> omega),(by simp [get_set,t3] <;> omega),(by simp [get_set,t32] <;> omega),(by simp [get_set,t33] <;> omega),(by simp [get_set,t34] <;> omega),by simp [sget_sset,s0],⟨by omega,by rw [hcl]; exact p2,u6,by omega⟩⟩
  ·rintro c' s ⟨T,S,H4,al2,c,m2,lim2,rfl,t1,t3,t32,t33,t34,s0,hp⟩
   obtain ⟨rfl,hbd,hu,hlim⟩:=hp
   rw [List.take_of_length_le (by omega),show (rowHead r.app :: b.boards.map rowDue)++b.strokes.map rowSt=rowsT b by unfold rowsT; rw [happ]] at hbd
   obtain ⟨N,hN⟩:∃N,r.bl+1+r.sl=N:=⟨_,rfl⟩
   rw [hN] at hbd
   have hRN:(rowsT b).length=N:=by rw [←hN]; unfold rowsT; simp; omega
   have l9:isLoc (.slice al2 N m2)=false:=hbd.isLoc _ _
   have hrw:=hbd.sl encS_len (by decide)
   have hul:=hu.len
   rw [hN] at t3
   simp (maxDischargeDepth:=8) only [↓SD,SU,SV,SW,simprocAttr,Int.cast_ofNat_Int,small,resV, q103x2,t1,t3,t32,t33,t34,s0, s0,lt_nat,Nat.lt_irrefl,l1,l2,l9,sget_sset]
   refine loop_ind (G:=(·=_)) (fun j σ=>∃T S C lim3,σ=⟨T,S,[],H4,lim3,93,false⟩∧get T 3=.slice al2 N m2∧get T 8=.int .i64 ((C:Nat):Int)∧get T 46=.slice al2 N m2∧get T 47=.int .i64 N∧get T 48=.int .i64 (j:Nat)∧(C=chkL 0 ((rowsT b).take j)∧H'.length≤lim3)) (N) ?_ ?_ 0 _ (Nat.zero_le _) ⟨_,_,_,_,rfl,(by first | (simp [get_set,t1,t3,t32,t33,t34]; done) | rfl),(by first | (simp [get_set,t1,t3,t32,t33,t34]; done) | rfl),(by first | (simp [get_set,t1,t3,t32,t33,t34]; done) | rfl),(by first | (simp [get_set,t1,t3,t32,t33,t34]; done) | rfl),(by first | (simp [get_set,t1,t3,t32,t33,t34]; done) | rfl),⟨(show 0=chkL 0 ((rowsT b).take 0) from rfl),by omega⟩⟩
   ·rintro c' j s hj ⟨T,S,C,lim3,rfl,t3,t8,t46,t47,t48,hp⟩ ih
    obtain ⟨hC,hlim3⟩:=hp
    have ihO:=ih
    clear ih
    have hw:=wrap_succ j (by omega)
    obtain ⟨b1,o1,R0,hRa,hR0,hat⟩:=hrw.at encS_len (by decide) hj
    have fR:rdO (hcells H4 b1) (o1+j*1) none=some (.string ⟨R0.toArray⟩):=At.v0 hat H4 (Grow.refl _)
    have iaR:vv (.ia 1) [.slice al2 N m2,.int .i64 (j:Nat)]=some (.pointer (some ⟨b1,o1+j*1,none⟩)):=by rw [hRa]; exact vv_iaN 1 b1 o1 j _ _ _ hj
    have hRl:=hR2 R0 (List.mem_of_getElem? hR0)
    have hCb:C≤255*1100*700*1100*700:=by
     rw [hC]
     refine Nat.le_trans (chkL_le _ 0 (fun x hx=>by have:=hR2 x (List.mem_of_mem_take hx); omega) (by rw [List.length_take]; omega)) ?_
     refine Nat.mul_le_mul_left _ ?_
     rw [List.length_take]; omega
    simp (maxDischargeDepth:=8) only [↓SD,SU,SV,SW,simprocAttr,Int.cast_ofNat_Int,small,resV, q103x1,t3,t8,t46,t47,t48, lt_nat,hj,l9,iaR,fR,vv_slen',sget_sset]
    obtain ⟨j0,hj0⟩:∃j0,j0=j:=⟨_,rfl⟩
    subst hj0
    obtain ⟨M,hM⟩:∃M,R0.length=M:=⟨_,rfl⟩
    rw [hM]
    refine loop_ind (G:=(·=_)) (fun j σ=>∃T S D lim4,σ=⟨T,S,[],H4,lim4,93,false⟩∧get T 3=.slice al2 N m2∧get T 8=.int .i64 ((D:Nat):Int)∧get T 9=.int .i64 (j0:Nat)∧get T 10=.string ⟨R0.toArray⟩∧get T 46=.slice al2 N m2∧get T 47=.int .i64 N∧get T 48=.int .i64 (j0:Nat)∧get T 54=.int .i64 M∧get T 55=.int .i64 (j:Nat)∧(D=C+chkR j0 0 (R0.take j)∧H'.length≤lim4)) (M) ?_ ?_ 0 _ (Nat.zero_le _) ⟨_,_,_,_,rfl,(by first | (simp [get_set,t3,t8,t46,t47,t48]; done) | rfl),(by first | (simp [get_set,t3,t8,t46,t47,t48]; done) | rfl),(by first | (simp [get_set,t3,t8,t46,t47,t48]; done) | rfl),(by first | (simp [get_set,t3,t8,t46,t47,t48]; done) | rfl),(by first | (simp [get_set,t3,t8,t46,t47,t48]; done) | rfl),(by first | (simp [get_set,t3,t8,t46,t47,t48]; done) | rfl),(by first | (simp [get_set,t3,t8,t46,t47,t48]; done) | rfl),(by first | (simp [get_set,t3,t8,t46,t47,t48]; done) | rfl),(by first | (simp [get_set,t3,t8,t46,t47,t48]; done) | rfl),⟨(show C=C+chkR j0 0 (R0.take 0) from rfl),by omega⟩⟩
    ·rintro c' j s hj ⟨T,S,D,lim4,rfl,t3,t8,t9,t10,t46,t47,t48,t54,t55,hp⟩ ih
     obtain ⟨hD,hlim4⟩:=hp
     have hw2:=wrap_succ j (by omega)
     obtain ⟨x,hx⟩:∃x,R0[j]?=some x:=⟨_,List.getElem?_eq_getElem (by omega)⟩
     have ix:=vv_ix' R0 .i64 j x hx
     have hx8:x.toNat≤255:=by have:=x.toNat_lt; omega
     have hm1:IntKind.wrap .i64 (((x.toNat:Nat):Int)*((j+1:Nat):Int))=((x.toNat*(j+1):Nat):Int):=by
      rw [←Int.natCast_mul]
      exact wrapN (Nat.lt_of_le_of_lt (Nat.mul_le_mul hx8 (show j+1≤1100 by omega)) (by omega))
     have hm2:IntKind.wrap .i64 (((x.toNat*(j+1):Nat):Int)*((j0+1:Nat):Int))=((x.toNat*(j+1)*(j0+1):Nat):Int):=by
      rw [←Int.natCast_mul]
      exact wrapN (Nat.lt_of_le_of_lt (Nat.mul_le_mul (Nat.mul_le_mul hx8 (show j+1≤1100 by omega)) (show j0+1≤700 by omega)) (by omega))
     have hDb:D≤255*1100*700*1100*701:=by
      rw [hD]
      have h1:=chkR_le j0 (R0.take j) 0 (by rw [List.length_take]; omega) (by omega)
      have h2:(R0.take j).length≤1100:=by rw [List.length_take]; omega
      have h3:=Nat.mul_le_mul_left (255*1100*700) h2
      omega
     have hp1:x.toNat*(j+1)*(j0+1)≤255*1100*700:=Nat.mul_le_mul (Nat.mul_le_mul hx8 (show j+1≤1100 by omega)) (show j0+1≤700 by omega)
     have hp2:IntKind.wrap .i64 (((D:Nat):Int)+((x.toNat*(j+1)*(j0+1):Nat):Int))=((D+x.toNat*(j+1)*(j0+1):Nat):Int):=by
      rw [←Int.natCast_add]
      exact wrapN (Nat.lt_of_le_of_lt (Nat.add_le_add hDb hp1) (by omega))
     have hcv:=vv_cvI .u8 .i64 ((x.toNat:Nat):Int) (wrapN (by omega))
     simp (maxDischargeDepth:=8) only [↓SD,SU,SV,SW,simprocAttr,Int.cast_ofNat_Int,small,resV, q103x0,t3,t8,t9,t10,t46,t47,t48,t54,t55, lt_nat,hj,l9,ix,hcv,hw,hw2,hm1,hm2,hp2,sget_sset]
     exact ih _ ⟨_,_,(D+x.toNat*(j+1)*(j0+1)),(_),rfl,(by simp [get_set,t3] <;> omega),(by simp [get_set,t8] <;> omega),(by simp [get_set,t9] <;> omega),(by simp [get_set,t10] <;> omega),(by simp [get_set,t46] <;> omega),(by simp [get_set,t47] <;> omega),(by simp [get_set,t48] <;> omega),(by simp [get_set,t54] <;> omega),(by simp [get_set,t55] <;> omega),⟨by rw [chkR_take hx,hD,Nat.add_assoc],by omega⟩⟩
    ·rintro c' s ⟨T,S,D,lim4,rfl,t3,t8,t9,t10,t46,t47,t48,t54,t55,hp⟩
     obtain ⟨hD,hlim4⟩:=hp
     rw [List.take_of_length_le (by omega)] at hD
     simp (maxDischargeDepth:=8) only [↓SD,SU,SV,SW,simprocAttr,Int.cast_ofNat_Int,small,resV, q103x0,t3,t8,t9,t10,t46,t47,t48,t54,t55, lt_nat,Nat.lt_irrefl,l9,hw,sget_sset]
     exact ihO _ ⟨_,_,D,_,rfl,by simp [get_set,t3],by simp [get_set,t8],by simp [get_set,t46],by simp [get_set,t47],by simp [get_set],by rw [hD,hC,chkL_take hR0],by omega⟩
   ·rintro c' s ⟨T,S,C,lim3,rfl,t3,t8,t46,t47,t48,hC,hlim3⟩
    rw [List.take_of_length_le (by omega)] at hC
    obtain ⟨Q,hQ⟩:∃Q,C % 197=Q:=⟨_,rfl⟩
    have hQ9:Q < 197:=by rw [←hQ]; exact Nat.mod_lt _ (by decide)
    have rm1:Int.tmod ((C:Nat):Int) 197=((Q:Nat):Int):=by rw [←hQ]; rfl
    have qu1:Int.tdiv ((Q:Nat):Int) 100=((Q / 100:Nat):Int):=rfl
    have qu2:Int.tdiv ((Q:Nat):Int) 10=((Q / 10:Nat):Int):=rfl
    have rm2:Int.tmod ((Q / 10:Nat):Int) 10=((Q / 10 % 10:Nat):Int):=rfl
    have rm3:Int.tmod ((Q:Nat):Int) 10=((Q % 10:Nat):Int):=rfl
    have w1:IntKind.wrap .i64 ((Q / 100:Nat):Int)=((Q / 100:Nat):Int):=wrapN (by omega)
    have w2:IntKind.wrap .i64 ((Q / 10:Nat):Int)=((Q / 10:Nat):Int):=wrapN (by omega)
    have ka:R (.func 126) [.int .i64 ((Q / 100:Nat):Int)] H4=some ⟨.ok (.string ⟨(dig (Q / 100)).toArray⟩),H4,H4.length⟩:=c126 (by omega) (by omega) H4
    have kb:R (.func 126) [.int .i64 ((Q / 10 % 10:Nat):Int)] H4=some ⟨.ok (.string ⟨(dig (Q / 10 % 10)).toArray⟩),H4,H4.length⟩:=c126 (by omega) (by omega) H4
    have kc:R (.func 126) [.int .i64 ((Q % 10:Nat):Int)] H4=some ⟨.ok (.string ⟨(dig (Q % 10)).toArray⟩),H4,H4.length⟩:=c126 (by omega) (by omega) H4
    have d1:=(dig_len (Q / 100)).1
    have d2:=(dig_len (Q / 10 % 10)).1
    have d3:=(dig_len (Q % 10)).1
    have s1:=vv_sadd [101,110,100,32] (dig (Q / 100)) (by simp; omega)
    have s2:=vv_sadd ([101,110,100,32]++dig (Q / 100)) (dig (Q / 10 % 10)) (by simp; omega)
    have s3:=vv_sadd ([101,110,100,32]++dig (Q / 100)++dig (Q / 10 % 10)) (dig (Q % 10)) (by simp; omega)
    obtain ⟨H6,p1,p2,p3,p4⟩:=hbd.app (by decide) (by decide) (by omega) hul [.string ⟨([101,110,100,32]++dig (Q / 100)++dig (Q / 10 % 10)++dig (Q % 10)).toArray⟩] rfl
    have u6:=p3.up hbd hu (Nat.le_refl _)
    have hl6:=u6.len
    have hrr:cells encS (rowsT b)++[.string ⟨([101,110,100,32]++dig (Q / 100)++dig (Q / 10 % 10)++dig (Q % 10)).toArray⟩]=cells encS (rowsT b++[endT Q]):=by rw [cells_app]; rfl
    rw [hrr] at p2
    have hjl:(Lib.join (rowsT b++[endT Q]) [10]).length≤1000000:=by
     have:=join_len (rowsT b++[endT Q]) [10] 1020 (fun x hx=>by
      rcases List.mem_append.1 hx with hx | hx
      ·exact hR2 x hx
      ·rw [List.mem_singleton.1 hx]; have:=endT_len Q; omega)
     rw [List.length_append,hRN] at this
     simp at this
     omega
    have k127:=c127 p2 (by omega) (by omega) [10] hjl
    have s4:=vv_sadd (Lib.join (rowsT b++[endT Q]) [10]) [10] (by simp; omega)
    have hT:textT b=Lib.join (rowsT b++[endT Q]) [10]++[10]:=by unfold textT; rw [←hC,hQ]
    have la6:isLoc (.slice (some ⟨H4.length,0,none⟩) (N+1) 1)=false:=rfl
    simp (maxDischargeDepth:=8) only [↓SD,SU,SV,SW,simprocAttr,Int.cast_ofNat_Int,small,resV, q103x1,t3,t8,t46,t47,t48,lt_nat,Nat.lt_irrefl,l9,la6,vv_rem,vv_quo,rm1,qu1,qu2,rm2,rm3,w1,w2,ka,kb,kc,s1,s2,s3,p1,k127,s4,sget_sset,R103,N103]
    rw [hT,gc_ite (by omega)]
    simp [flat]
end Go.Pi.L.Ben
set_option maxRecDepth 100000
namespace Go.Pi.L
open Go Go.Pi
section
variable {α:Type} {call:CallT} {F:Ex→St→Option α} {k:List It}
theorem goD_b2s (d x hb tb T S D H lo n rnd)(h:slotOk x (ev T x)=true):goD call F d (.b2s x) ⟨1,hb,tb⟩ k ⟨T,S,D,H,lo,n,rnd⟩=nxt call F (b2sV ⟨T,S,D,H,H.length,n,rnd⟩ (ev T x)) d (.fix lo H.length hb :: k) ⟨T,S,D,H,H.length,n,rnd⟩:=by
 have h':clsOk ⟨d,.b2s x,none⟩ (Flag.cls ⟨1,hb,tb⟩) ⟨T,S,D,H,lo,n,rnd⟩=true:=by simp [clsOk,h]
 rw [goD_go _ _ _ _ _ _ _ _ _ _ h' trivial,g_b2s]
end
end Go.Pi.L
namespace Go.Pi.L.Ben
open Go Go.Pi Go.Pi.L Go.Pi.E Go.Pi.Ben BM Go.Pi.Q

theorem dig_lo {n:Nat}(h:n < 10):dig n=[UInt8.ofNat (48+n)]:=by unfold dig; rw [blt_dec]; simp [h]
theorem dig_hi {n:Nat}(h:¬n < 10):dig n=[UInt8.ofNat (48+n / 10),UInt8.ofNat (48+n % 10)]:=by unfold dig; rw [blt_dec]; simp [h]
theorem c132a {n:Nat}(h:n < 10)(H:Heap):R (.func 132) [.int .i64 (n:Nat)] H=some ⟨.ok (.string ⟨(dig n).toArray⟩),H,H.length⟩:=by
 refine run_k (pr 132) P132 (by simp [p132]) rfl ?_
 have z1:((-10:Int) < ((n:Nat):Int))=True:=eq_true (by omega)
 have z2:(((n:Nat):Int) < 0)=False:=eq_false (by omega)
 have z3:(((n:Nat):Int) < 10)=True:=eq_true (by omega)
 have w1:IntKind.wrap .i64 (48+((n:Nat):Int))=((48+n:Nat):Int):=by rw [wrap_id _ (by omega) (by omega)]; omega
 have w2:IntKind.wrap .u8 ((48+n:Nat):Int)=((48+n:Nat):Int):=by unfold IntKind.wrap; simp [IntKind.bits,IntKind.signed]; omega
 have hb:Option.map (fun bs=>Value.string { data:=List.toArray bs }) ((some [Value.int .u8 ((48+n:Nat):Int)]).bind bytesOf)=some (.string ⟨(dig n).toArray⟩):=by rw [dig_lo h]; rfl
 simp (maxDischargeDepth:=8) only [↓SD,SU,SV,SW,simprocAttr,Int.cast_ofNat_Int,small,resV, B132,R132,N132,b132, z1,z2,z3,w1,w2,g_b2s,b2sV,hb,R132,N132]
theorem c132 {z:Int}(h0:0≤z)(h9:z≤99)(H:Heap):R (.func 132) [.int .i64 z] H=some ⟨.ok (.string ⟨(dgI z).toArray⟩),H,H.length⟩:=by
 obtain ⟨n,rfl⟩:∃n:Nat,z=n:=⟨z.toNat,by omega⟩
 show R (.func 132) [.int .i64 (n:Nat)] H=some ⟨.ok (.string ⟨(dig n).toArray⟩),H,H.length⟩
 by_cases h:n < 10
 ·exact c132a h H
 ·refine run_k (pr 132) P132 (by simp [p132]) rfl ?_
  have z1:((-10:Int) < ((n:Nat):Int))=True:=eq_true (by omega)
  have z2:(((n:Nat):Int) < 0)=False:=eq_false (by omega)
  have z3:(((n:Nat):Int) < 10)=False:=eq_false (by omega)
  have q1:Int.tdiv ((n:Nat):Int) 10=((n / 10:Nat):Int):=rfl
  have q2:Int.tmod ((n:Nat):Int) 10=((n % 10:Nat):Int):=rfl
  have w0:IntKind.wrap .i64 ((n / 10:Nat):Int)=((n / 10:Nat):Int):=wrapN (by omega)
  have k0:=c132a (n:=n / 10) (by omega) H
  have w1:IntKind.wrap .i64 (48+((n % 10:Nat):Int))=((48+n % 10:Nat):Int):=by rw [wrap_id _ (by omega) (by omega)]; omega
  have w2:IntKind.wrap .u8 ((48+n % 10:Nat):Int)=((48+n % 10:Nat):Int):=by unfold IntKind.wrap; simp [IntKind.bits,IntKind.signed]; omega
  have hb:Option.map (fun bs=>Value.string { data:=List.toArray bs }) ((some [Value.int .u8 ((48+n % 10:Nat):Int)]).bind bytesOf)=some (.string ⟨[UInt8.ofNat (48+n % 10)].toArray⟩):=rfl
  have s1:=vv_sadd (dig (n / 10)) [UInt8.ofNat (48+n % 10)] (by have:=(dig_len (n / 10)).1; simp; omega)
  have e:dig (n / 10)++[UInt8.ofNat (48+n % 10)]=dig n:=by rw [dig_lo (n:=n / 10) (by omega),dig_hi h]; rfl
  rw [e] at s1
  simp (maxDischargeDepth:=8) only [↓SD,SU,SV,SW,simprocAttr,Int.cast_ofNat_Int,small,resV, B132,R132,N132,b132, z1,z2,z3,vv_quo,vv_rem,q1,q2,w0,k0,w1,w2,goD_b2s,b2sV,hb,s1,so_loc,k_fixb,R132,N132]
theorem c106 {H:Heap}{a:Option Addr}{l kk:Nat}{ns:List Int}(hs:Ints H a l ns)(hn:∀z∈ns,0≤z∧z≤99)(hl:l≤300)(w:List UInt8)(hw8:w.length≤100) :
  ∀H',Grow H H'→R (.func 106) [.string ⟨w.toArray⟩,.slice a l kk] H'=some ⟨.ok (.string ⟨(w++numsT ns).toArray⟩),H',H'.length⟩:=by
 intro H' hg
 refine run_k (pr 106) P106 (by simp [p106]) rfl ?_
 have l1:=hs.isLoc kk
 have hll:=hs.len
 have e0:w=w++numsT (ns.take 0):=by simp [numsT]
 simp (maxDischargeDepth:=8) only [↓SD,SU,SV,SW,simprocAttr,Int.cast_ofNat_Int,small,resV, B106,R106,N106,b106, l1]
 refine loop_ind (G:=(·=_)) (fun j σ=>∃T S out,σ=⟨T,S,[],H',(H').length,21,false⟩∧get T 0=.string ⟨out.toArray⟩∧get T 1=.slice a l kk∧get T 5=.int .i64 (j:Nat)∧(out=w++numsT (ns.take j))) (l) ?_ ?_ 0 _ (Nat.zero_le _) ⟨_,_,_,rfl,rfl,rfl,rfl,e0⟩
 ·rintro c' j s hj ⟨T,S,out,rfl,t0,t1,t5,hp⟩ ih
  have hw:=wrap_succ j (by omega)
  obtain ⟨b1,o1,v,hva,hv1,fv⟩:=hs.i1 hj
  have fv:=fv H' hg
  obtain ⟨v0,v9⟩:=hn v (List.mem_of_getElem? hv1)
  have k132:=c132 v0 v9 H'
  have hd2:(dgI v).length≤2:=(dig_len v.toNat).1
  have hol:out.length≤1000:=by
   rw [hp]
   have:=numsT_len (ns:=ns.take j)
   simp only [List.length_append,List.length_take] at this ⊢
   omega
  have iav:vv (.ia 1) [.slice a l kk,.int .i64 (j:Nat)]=some (.pointer (some ⟨b1,o1+j*1,none⟩)):=by rw [hva]; exact vv_iaN 1 b1 o1 j _ _ _ hj
  have s1:=vv_sadd out [32] (by simp; omega)
  have s2:=vv_sadd (out++[32]) (dgI v) (by simp; omega)
  simp (maxDischargeDepth:=8) only [↓SD,SU,SV,SW,simprocAttr,Int.cast_ofNat_Int,small,resV, q106x0,t0,t1,t5, lt_nat,hj,l1,iav,fv,k132,hw,s1,s2]
  exact ih _ ⟨_,_,(out++[32]++dgI v),rfl,(by simp [get_set,t0] <;> omega),(by simp [get_set,t1] <;> omega),(by simp [get_set,t5] <;> omega),by rw [numsT_take hv1,hp,List.append_assoc,List.append_assoc]; rfl⟩
 ·rintro c' s ⟨T,S,out,rfl,t0,t1,t5,hp⟩
  rw [List.take_of_length_le (by omega)] at hp
  simp (maxDischargeDepth:=8) only [↓SD,SU,SV,SW,simprocAttr,Int.cast_ofNat_Int,small,resV, q106x0,t0,t1,t5, lt_nat,Nat.lt_irrefl,l1,R106,N106]
  rw [hp]
theorem c107 {H:Heap}{a:Option Addr}{l kk:Nat}{ns:List Int}(hs:Ints H a l ns)(hn:Nn ns) :
  ∀H',Grow H H'→R (.func 107) [.slice a l kk] H'=some ⟨.ok (.string ⟨(listT ns).toArray⟩),H',H'.length⟩:=by
 intro H' hg
 refine run_k (pr 107) P107 (by simp [p107]) rfl ?_
 have l1:=hs.isLoc kk
 have hll:=hs.len
 have h300:=hn.2
 by_cases h0:l=0
 ·have e:ns=[]:=List.eq_nil_of_length_eq_zero (by omega)
  subst e
  have z:(((l:Nat):Int)=0)=True:=eq_true (by omega)
  simp (maxDischargeDepth:=8) only [↓SD,SU,SV,SW,simprocAttr,Int.cast_ofNat_Int,small,resV, B107,R107,N107,b107, l1,z,R107,N107]
  unfold listT; rw [if_pos rfl]
 ·have z:(((l:Nat):Int)=0)=False:=eq_false (by omega)
  obtain ⟨x,ns',rfl⟩:∃x ns',ns=x :: ns':=by
   cases ns with
   | nil=>simp at hll; omega
   | cons x ns'=>exact ⟨x,ns',rfl⟩
  have hT:listT (x :: ns')=dgI x++Lib.joinTail [44] (ns'.map dgI):=by unfold listT; rw [if_neg (by simp),List.map_cons,Lib.join_cons]
  obtain ⟨b1,o1,x',hxa,hx1,fx⟩:=hs.i1 (j:=0) (by omega)
  simp at hx1; subst hx1
  have fx:=fx H' hg
  have iax:vv (.ia 1) [.slice a l kk,.int .i64 0]=some (.pointer (some ⟨b1,o1+0*1,none⟩)):=by rw [hxa]; exact vv_iaN 1 b1 o1 0 _ _ _ (by omega)
  rw [Nat.zero_mul,Nat.add_zero] at fx iax
  obtain ⟨x0,x9⟩:=hn.1 x (List.mem_cons_self ..)
  have k0:=c132 x0 x9 H'
  have e0:dgI x=dgI x++Lib.joinTail [44] ((ns'.take 0).map dgI):=by simp [Lib.joinTail]
  simp only [List.length_cons] at hll h300
  obtain ⟨M,hM⟩:∃M,l=M+1:=⟨l - 1,by omega⟩
  simp (maxDischargeDepth:=8) only [↓SD,SU,SV,SW,simprocAttr,Int.cast_ofNat_Int,small,resV, B107,R107,N107,b107, l1,z,iax,fx,k0]
  refine loop_ind (G:=(·=_)) (fun j σ=>∃T S out,σ=⟨T,S,[],H',(H').length,27,false⟩∧get T 0=.slice a l kk∧get T 3=.string ⟨out.toArray⟩∧get T 4=.int .i64 ((j+1:Nat):Int)∧(out=dgI x++Lib.joinTail [44] ((ns'.take j).map dgI)∧out.length≤3*j+2)) (M) ?_ ?_ 0 _ (Nat.zero_le _) ⟨_,_,_,rfl,rfl,rfl,rfl,⟨e0,(dig_len x.toNat).1⟩⟩
  ·rintro c' j s hj ⟨T,S,out,rfl,t0,t3,t4,hp⟩ ih
   obtain ⟨ho,hol⟩:=hp
   have hw:=wrap_succ (j+1) (by omega)
   obtain ⟨b2,o2,v,hva,hv1,fv⟩:=hs.i1 (j:=j+1) (by omega)
   have fv:=fv H' hg
   obtain ⟨v0,v9⟩:=hn.1 v (List.mem_of_getElem? hv1)
   have hv2:ns'[j]?=some v:=by simpa using hv1
   have k132:=c132 v0 v9 H'
   have hd2:(dgI v).length≤2:=(dig_len v.toNat).1
   have z1:(((j+1:Nat):Int) < ((l:Nat):Int))=True:=eq_true (by omega)
   have iav:vv (.ia 1) [.slice a l kk,.int .i64 ((j+1:Nat):Int)]=some (.pointer (some ⟨b2,o2+(j+1)*1,none⟩)):=by rw [hva]; exact vv_iaN 1 b2 o2 (j+1) _ _ _ (by omega)
   have s1:=vv_sadd out [44] (by simp; omega)
   have s2:=vv_sadd (out++[44]) (dgI v) (by simp; omega)
   have hstep:out++[44]++dgI v=dgI x++Lib.joinTail [44] ((ns'.take (j+1)).map dgI):=by
    rw [ho,List.map_take,List.map_take,Lib.joinTail_take_succ [44] (ns'.map dgI) j (dgI v) (by rw [List.getElem?_map,hv2]; rfl)]
    simp [List.append_assoc]
   simp (maxDischargeDepth:=8) only [↓SD,SU,SV,SW,simprocAttr,Int.cast_ofNat_Int,small,resV, q107x0,t0,t3,t4, z1,l1,iav,fv,k132,hw,s1,s2]
   exact ih _ ⟨_,_,(out++[44]++dgI v),rfl,(by simp [get_set,t0] <;> omega),(by simp [get_set,t3] <;> omega),(by simp [get_set,t4] <;> omega),⟨hstep,by simp only [List.length_append,List.length_singleton]; omega⟩⟩
  ·rintro c' s ⟨T,S,out,rfl,t0,t3,t4,hp⟩
   obtain ⟨ho,hol⟩:=hp
   have z1:(((M+1:Nat):Int) < ((l:Nat):Int))=False:=eq_false (by omega)
   rw [List.take_of_length_le (by omega)] at ho
   simp (maxDischargeDepth:=8) only [↓SD,SU,SV,SW,simprocAttr,Int.cast_ofNat_Int,small,resV, q107x0,t0,t3,t4, z1,l1,R107,N107]
   rw [hT,ho]
end Go.Pi.L.Ben
set_option maxRecDepth 100000
namespace Go.Pi.L.Ben
open Go Go.Pi Go.Pi.L Go.Pi.E Go.Pi.Ben BM Go.Pi.Q

theorem join_flat:∀(rows:List (List UInt8)) (e:List UInt8),Lib.join (rows++[e]) [10]=(rows.map fun r=>r++[10]).flatten++e
 | [],e=>by simp [Lib.join_one]
 | x :: rows,e=>by
  have ih:=join_flat rows e
  rw [List.cons_append,Lib.join_cons]
  cases rows with
  | nil=>simp [Lib.joinTail]
  | cons y r =>
   rw [List.cons_append,Lib.join_cons] at ih
   simp only [Lib.joinTail,List.cons_append,List.map_cons,List.flatten_cons,List.append_assoc] at ih ⊢
   rw [ih]
def outJ (rows:List (List UInt8)):List UInt8:=(rows.map fun r=>r++[10]).flatten
theorem outJ_take {rows:List (List UInt8)}{j:Nat}{r:List UInt8}(h:rows[j]?=some r):outJ (rows.take (j+1))=outJ (rows.take j)++r++[10]:=by
 unfold outJ; rw [take_get h]; simp
set_option maxHeartbeats 4000000 in
theorem c108 {H:Heap}{a:Option Addr}{N m:Nat}{rows:List (List UInt8)}(hrw:Sl H 1 encS a N rows)(hN:N≤601)(hR2:∀r∈rows,r.length≤1020) :
  ∀H',Grow H H'→R (.func 108) [.slice a N m,.int .i64 197] H'=some ⟨.ok (.string ⟨(Lib.join (rows++[endT (chkL 0 rows % 197)]) [10]++[10]).toArray⟩),H',H'.length⟩:=by
 intro H' hg
 refine run_k (pr 108) P108 (by simp [p108]) rfl ?_
 have l9:=hrw.isLoc m
 have hRN:=hrw.len
 simp (maxDischargeDepth:=8) only [↓SD,SU,SV,SW,simprocAttr,Int.cast_ofNat_Int,small,resV, B108,R108,N108,b108, l9]
 refine loop_ind (G:=(·=_)) (fun j σ=>∃T S out C lim3,σ=⟨T,S,[],H',lim3,65,false⟩∧get T 0=.slice a N m∧get T 1=.int .i64 197∧get T 5=.string ⟨out.toArray⟩∧get T 6=.int .i64 ((C:Nat):Int)∧get T 7=.int .i64 (j:Nat)∧(out=outJ (rows.take j)∧C=chkL 0 (rows.take j)∧out.length≤1021*j∧H'.length≤lim3)) (N) ?_ ?_ 0 _ (Nat.zero_le _) ⟨_,_,_,_,_,rfl,rfl,rfl,rfl,rfl,rfl,⟨(show []=outJ (rows.take 0) from rfl),(show 0=chkL 0 (rows.take 0) from rfl),Nat.le_refl 0,Nat.le_refl _⟩⟩
 ·rintro c' j s hj ⟨T,S,out,C,lim3,rfl,t0,t1,t5,t6,t7,hp⟩ ih
  obtain ⟨ho,hC,hol,hlim3⟩:=hp
  have ihO:=ih
  clear ih
  have hw:=wrap_succ j (by omega)
  obtain ⟨b1,o1,R0,hRa,hR0,hat⟩:=hrw.at encS_len (by decide) hj
  have fR:rdO (hcells H' b1) (o1+j*1) none=some (.string ⟨R0.toArray⟩):=At.v0 hat H' hg
  have iaR:vv (.ia 1) [.slice a N m,.int .i64 (j:Nat)]=some (.pointer (some ⟨b1,o1+j*1,none⟩)):=by rw [hRa]; exact vv_iaN 1 b1 o1 j _ _ _ hj
  have hRl:=hR2 R0 (List.mem_of_getElem? hR0)
  have hCb:C≤255*1100*700*1100*700:=by
   rw [hC]
   refine Nat.le_trans (chkL_le _ 0 (fun x hx=>by have:=hR2 x (List.mem_of_mem_take hx); omega) (by rw [List.length_take]; omega)) ?_
   refine Nat.mul_le_mul_left _ ?_
   rw [List.length_take]; omega
  obtain ⟨M,hM⟩:∃M,R0.length=M:=⟨_,rfl⟩
  have sl0:=vv_slen' R0
  rw [hM] at sl0
  have s1:=vv_sadd out R0 (by omega)
  have s2:=vv_sadd (out++R0) [10] (by simp; omega)
  simp (maxDischargeDepth:=8) only [↓SD,SU,SV,SW,simprocAttr,Int.cast_ofNat_Int,small,resV, q108x1,t0,t1,t5,t6,t7, lt_nat,hj,l9]
  obtain ⟨j0,hj0⟩:∃j0,j0=j:=⟨_,rfl⟩
  subst hj0
  refine loop_ind (G:=(·=_)) (fun j σ=>∃T S D lim4,σ=⟨T,S,[],H',lim4,65,false⟩∧get T 0=.slice a N m∧get T 1=.int .i64 197∧get T 5=.string ⟨out.toArray⟩∧get T 6=.int .i64 ((D:Nat):Int)∧get T 7=.int .i64 (j0:Nat)∧get T 8=.int .i64 (j:Nat)∧(D=C+chkR j0 0 (R0.take j)∧H'.length≤lim4)) (M) ?_ ?_ 0 _ (Nat.zero_le _) ⟨_,_,_,_,rfl,(by first | (simp [get_set,t0,t1,t5,t6,t7]; done) | rfl),(by first | (simp [get_set,t0,t1,t5,t6,t7]; done) | rfl),(by first | (simp [get_set,t0,t1,t5,t6,t7]; done) | rfl),(by first | (simp [get_set,t0,t1,t5,t6,t7]; done) | rfl),(by first | (simp [get_set,t0,t1,t5,t6,t7]; done) | rfl),(by first | (simp [get_set,t0,t1,t5,t6,t7]; done) | rfl),⟨(show C=C+chkR j0 0 (R0.take 0) from rfl),by omega⟩⟩
  ·rintro c' j s hj ⟨T,S,D,lim4,rfl,t0,t1,t5,t6,t7,t8,hp⟩ ih
   obtain ⟨hD,hlim4⟩:=hp
   have hw2:=wrap_succ j (by omega)
   obtain ⟨x,hx⟩:∃x,R0[j]?=some x:=⟨_,List.getElem?_eq_getElem (by omega)⟩
   have ix:=vv_ix' R0 .i64 j x hx
   have hx8:x.toNat≤255:=by have:=x.toNat_lt; omega
   have hm1:IntKind.wrap .i64 (((x.toNat:Nat):Int)*((j+1:Nat):Int))=((x.toNat*(j+1):Nat):Int):=by
    rw [←Int.natCast_mul]
    exact wrapN (Nat.lt_of_le_of_lt (Nat.mul_le_mul hx8 (show j+1≤1100 by omega)) (by omega))
   have hm2:IntKind.wrap .i64 (((x.toNat*(j+1):Nat):Int)*((j0+1:Nat):Int))=((x.toNat*(j+1)*(j0+1):Nat):Int):=by
    rw [←Int.natCast_mul]
    exact wrapN (Nat.lt_of_le_of_lt (Nat.mul_le_mul (Nat.mul_le_mul hx8 (show j+1≤1100 by omega)) (show j0+1≤700 by omega)) (by omega))
   have hDb:D≤255*1100*700*1100*701:=by
    rw [hD]
    have h1:=chkR_le j0 (R0.take j) 0 (by rw [List.length_take]; omega) (by omega)
    have h2:(R0.take j).length≤1100:=by rw [List.length_take]; omega
    have h3:=Nat.mul_le_mul_left (255*1100*700) h2
    omega
   have hp1:x.toNat*(j+1)*(j0+1)≤255*1100*700:=Nat.mul_le_mul (Nat.mul_le_mul hx8 (show j+1≤1100 by omega)) (show j0+1≤700 by omega)
   have hp2:IntKind.wrap .i64 (((D:Nat):Int)+((x.toNat*(j+1)*(j0+1):Nat):Int))=((D+x.toNat*(j+1)*(j0+1):Nat):Int):=by
    rw [←Int.natCast_add]
    exact wrapN (Nat.lt_of_le_of_lt (Nat.add_le_add hDb hp1) (by omega))
   have hcv:=vv_cvI .u8 .i64 ((x.toNat:Nat):Int) (wrapN (by omega))
   simp (maxDischargeDepth:=8) only [↓SD,SU,SV,SW,simprocAttr,Int.cast_ofNat_Int,small,resV, q108x0,t0,t1,t5,t6,t7,t8, lt_nat,hj,l9,iaR,fR,sl0,ix,hcv,hw,hw2,hm1,hm2,hp2]
   exact ih _ ⟨_,_,(D+x.toNat*(j+1)*(j0+1)),(_),rfl,(by simp [get_set,t0] <;> omega),(by simp [get_set,t1] <;> omega),(by simp [get_set,t5] <;> omega),(by simp [get_set,t6] <;> omega),(by simp [get_set,t7] <;> omega),(by simp [get_set,t8] <;> omega),⟨by rw [chkR_take hx,hD,Nat.add_assoc],by omega⟩⟩
  ·rintro c' s ⟨T,S,D,lim4,rfl,t0,t1,t5,t6,t7,t8,hp⟩
   obtain ⟨hD,hlim4⟩:=hp
   rw [List.take_of_length_le (by omega)] at hD
   simp (maxDischargeDepth:=8) only [↓SD,SU,SV,SW,simprocAttr,Int.cast_ofNat_Int,small,resV, q108x0,t0,t1,t5,t6,t7,t8, lt_nat,Nat.lt_irrefl,l9,iaR,fR,sl0,s1,s2,hw]
   exact ihO _ ⟨_,_,out++R0++[10],D,_,rfl,by simp [get_set,t0],by simp [get_set,t1],by simp [get_set],by simp [get_set,t6],by simp [get_set],by rw [outJ_take hR0,ho],by rw [hD,hC,chkL_take hR0],by simp only [List.length_append,List.length_singleton]; omega,by omega⟩
 ·rintro c' s ⟨T,S,out,C,lim3,rfl,t0,t1,t5,t6,t7,ho,hC,hol,hlim3⟩
  rw [List.take_of_length_le (by omega)] at hC ho
  obtain ⟨Q,hQ⟩:∃Q,C % 197=Q:=⟨_,rfl⟩
  have hQ9:Q < 197:=by rw [←hQ]; exact Nat.mod_lt _ (by decide)
  have rm1:Int.tmod ((C:Nat):Int) 197=((Q:Nat):Int):=by rw [←hQ]; rfl
  have qu1:Int.tdiv ((Q:Nat):Int) 100=((Q / 100:Nat):Int):=rfl
  have qu2:Int.tdiv ((Q:Nat):Int) 10=((Q / 10:Nat):Int):=rfl
  have rm2:Int.tmod ((Q / 10:Nat):Int) 10=((Q / 10 % 10:Nat):Int):=rfl
  have rm3:Int.tmod ((Q:Nat):Int) 10=((Q % 10:Nat):Int):=rfl
  have w1:IntKind.wrap .i64 ((Q / 100:Nat):Int)=((Q / 100:Nat):Int):=wrapN (by omega)
  have w2:IntKind.wrap .i64 ((Q / 10:Nat):Int)=((Q / 10:Nat):Int):=wrapN (by omega)
  have ka:R (.func 132) [.int .i64 ((Q / 100:Nat):Int)] H'=some ⟨.ok (.string ⟨(dig (Q / 100)).toArray⟩),H',H'.length⟩:=c132 (by omega) (by omega) H'
  have kb:R (.func 132) [.int .i64 ((Q / 10 % 10:Nat):Int)] H'=some ⟨.ok (.string ⟨(dig (Q / 10 % 10)).toArray⟩),H',H'.length⟩:=c132 (by omega) (by omega) H'
  have kc:R (.func 132) [.int .i64 ((Q % 10:Nat):Int)] H'=some ⟨.ok (.string ⟨(dig (Q % 10)).toArray⟩),H',H'.length⟩:=c132 (by omega) (by omega) H'
  have d1:=(dig_len (Q / 100)).1
  have d2:=(dig_len (Q / 10 % 10)).1
  have d3:=(dig_len (Q % 10)).1
  have s0:=vv_sadd out [101,110,100,32] (by simp; omega)
  have s1:=vv_sadd (out++[101,110,100,32]) (dig (Q / 100)) (by simp; omega)
  have s2:=vv_sadd (out++[101,110,100,32]++dig (Q / 100)) (dig (Q / 10 % 10)) (by simp; omega)
  have s3:=vv_sadd (out++[101,110,100,32]++dig (Q / 100)++dig (Q / 10 % 10)) (dig (Q % 10)) (by simp; omega)
  have s4:=vv_sadd (out++[101,110,100,32]++dig (Q / 100)++dig (Q / 10 % 10)++dig (Q % 10)) [10] (by simp; omega)
  simp (maxDischargeDepth:=8) only [↓SD,SU,SV,SW,simprocAttr,Int.cast_ofNat_Int,small,resV, q108x1,t0,t1,t5,t6,t7,lt_nat,Nat.lt_irrefl,l9,vv_rem,vv_quo,rm1,qu1,qu2,rm2,rm3,w1,w2,ka,kb,kc,s0,s1,s2,s3,s4,R108,N108]
  rw [join_flat,←hC,hQ,ho,gc_ite (by omega)]
  simp [endT,outJ,List.append_assoc,flat]
set_option maxHeartbeats 4000000 in
theorem c69 {H:Heap}{r:BeR}{b:Bench}(hb:BeOk H r b)(hn:NuB b):∀H',Grow H H'→R (.func 69) [.agg #[.int .i64 r.app,.slice r.ba r.bl r.bk,.slice r.sa r.sl r.sk]] H'=some ⟨.ok (.string ⟨(textT b).toArray⟩),H',H'.length⟩:=by
 intro H' hg
 obtain ⟨hR1,hR2⟩:=rowsT_len hn
 have hbl:b.boards.length=r.bl:=hb.blen
 have hsl:b.strokes.length=r.sl:=hb.len
 have hb3:=hn.bo.2
 have hs3:=hn.sl
 have happ:=hb.app
 refine run_k (pr 69) P69 (by simp [p69]) rfl ?_
 have l1:=hb.br.isLoc r.bk
 have l2:=hb.st.isLoc r.sk
 obtain ⟨H0,hH0⟩:∃H0,H'++[(⟨.cells [.int .i64 r.app],true,true,some H'.length⟩:Blk)]=H0:=⟨_,rfl⟩
 have e0:H0.length=H'.length+1:=by rw [←hH0]; simp
 have u0:Up H' H0:=by rw [←hH0]; exact (Up.refl _).app
 have hs0:Ints H0 (some ⟨H'.length,0,none⟩) 1 [r.app]:=by rw [←hH0]; exact new_ints [r.app]
 have kh:=c106 (kk:=1) hs0 (fun z hz=>by rw [List.mem_singleton.1 hz,happ]; exact ⟨hn.a0,hn.a9⟩) (by omega) wBench (by decide) H0 (Grow.refl _)
 obtain ⟨H1,hH1⟩:∃H1,H0++[(⟨.cells [.string ⟨(rowHead r.app).toArray⟩],true,true,some H0.length⟩:Blk)]=H1:=⟨_,rfl⟩
 have hwB:(⟨#[98,101,110,99,104]⟩:ByteArray)=⟨wBench.toArray⟩:=rfl
 have hrh:(⟨(wBench++numsT [r.app]).toArray⟩:ByteArray)=⟨(rowHead r.app).toArray⟩:=rfl
 rw [hrh] at kh
 have bd1:Bld H'.length H1 1 (some ⟨H0.length,0,none⟩) 1 1 (cells encS (rowHead r.app :: (b.boards.take 0).map rowDue)):=by
  rw [←hH1]; exact bld_one rfl (by omega)
 have u1:Up H' H1:=by rw [←hH1]; exact u0.app
 simp (maxDischargeDepth:=8) only [↓SD,SU,SV,SW,simprocAttr,Int.cast_ofNat_Int,small,resV, B69,R69,N69,b69, l1,l2,hH0,hwB,kh,hH1]
 refine loop_ind (G:=(·=_)) (fun j σ=>∃T S H3 al c m lim,σ=⟨T,S,[],H3,lim,65,false⟩∧get T 1=.pointer (some ⟨1,0,some 1⟩)∧get T 3=.slice al c m∧get T 4=.int .i64 (j:Nat)∧sget S 1=(1,.cells [.int .i64 r.app,.slice r.ba r.bl r.bk,.slice r.sa r.sl r.sk])∧(c=j+1∧Bld H'.length H3 1 al c m (cells encS (rowHead r.app :: (b.boards.take j).map rowDue))∧Up H' H3∧H'.length≤lim)) (r.bl) ?_ ?_ 0 _ (Nat.zero_le _) ⟨_,_,_,_,_,_,_,rfl,rfl,rfl,rfl,rfl,⟨rfl,bd1,u1,by omega⟩⟩
 ·rintro c' j s hj ⟨T,S,H3,al,c,m,lim,rfl,t1,t3,t4,s0,hp⟩ ih
  obtain ⟨rfl,hbd,hu,hlim⟩:=hp
  have hw:=wrap_succ j (by omega)
  have l8:isLoc (.slice al (j+1) m)=false:=hbd.isLoc _ _
  have hul:=hu.len
  obtain ⟨b1,o1,v,hva,hv1,fv⟩:=hb.br.i1 hj
  have fv:=fv H3 (hg.trans hu.grow)
  have vb:=hn.bo.1 v (List.mem_of_getElem? hv1)
  obtain ⟨H4,hH4⟩:∃H4,H3++[(⟨.cells [.int .i64 v],true,true,some H3.length⟩:Blk)]=H4:=⟨_,rfl⟩
  have e4:H4.length=H3.length+1:=by rw [←hH4]; simp
  have u4:Up H3 H4:=by rw [←hH4]; exact (Up.refl _).app
  have hs4:Ints H4 (some ⟨H3.length,0,none⟩) 1 [v]:=by rw [←hH4]; exact new_ints [v]
  have kd:=c106 (kk:=1) hs4 (fun z hz=>by rw [List.mem_singleton.1 hz]; exact vb) (by omega) wBoard (by decide) H4 (Grow.refl _)
  have hwD:(⟨#[98,111,97,114,100]⟩:ByteArray)=⟨wBoard.toArray⟩:=rfl
  have hrd:(⟨(wBoard++numsT [v]).toArray⟩:ByteArray)=⟨(rowDue v).toArray⟩:=rfl
  rw [hrd] at kd
  have iav:vv (.ia 1) [.slice r.ba r.bl r.bk,.int .i64 (j:Nat)]=some (.pointer (some ⟨b1,o1+j*1,none⟩)):=by rw [hva]; exact vv_iaN 1 b1 o1 j _ _ _ hj
  obtain ⟨H6,p1,p2,p3,p4⟩:=(hbd.up u4).app (by decide) (by decide) (by omega) (by omega) [.string ⟨(rowDue v).toArray⟩] rfl
  have u6:=p3.up (hbd.up u4) (hu.trans u4) (Nat.le_refl _)
  have hcl:cells encS (rowHead r.app :: (b.boards.take (j+1)).map rowDue)=cells encS (rowHead r.app :: (b.boards.take j).map rowDue)++[.string ⟨(rowDue v).toArray⟩]:=by
   rw [take_get hv1,List.map_append,List.map_singleton,←List.cons_append,cells_app]; rfl
  simp (maxDischargeDepth:=8) only [↓SD,SU,SV,SW,simprocAttr,Int.cast_ofNat_Int,small,resV, q69x1,t1,t3,t4,s0, s0,lt_nat,hj,l1,l2,l8,iav,fv,hH4,hwD,kd,hw,p1,sget_sset]
  exact ih _ ⟨_,_,(H6),(some ⟨H4.length,0,none⟩),(j+1+1),(1),(_),rfl,(by simp [get_set,t1] <;> omega),(by simp [get_set,t3] <;> omega),(by simp [get_set,t4] <;> omega),by simp [sget_sset,s0],⟨rfl,by rw [hcl]; exact p2,u6,by omega⟩⟩
 ·rintro c' s ⟨T,S,H3,al,c,m,lim,rfl,t1,t3,t4,s0,hp⟩
  obtain ⟨rfl,hbd,hu,hlim⟩:=hp
  have l8:isLoc (.slice al (r.bl+1) m)=false:=hbd.isLoc _ _
  rw [List.take_of_length_le (by omega)] at hbd
  simp (maxDischargeDepth:=8) only [↓SD,SU,SV,SW,simprocAttr,Int.cast_ofNat_Int,small,resV, q69x1,t1,t3,t4,s0, s0,lt_nat,Nat.lt_irrefl,l1,l2,l8,sget_sset]
  have hbd0:Bld H'.length H3 1 al (r.bl+1) m (cells encS ((rowHead r.app :: b.boards.map rowDue)++(b.strokes.take 0).map rowSt)):=by rw [List.take_zero,List.map_nil,List.append_nil]; exact hbd
  refine loop_ind (G:=(·=_)) (fun j σ=>∃T S H4 al2 c m2 lim2,σ=⟨T,S,[],H4,lim2,65,false⟩∧get T 1=.pointer (some ⟨1,0,some 1⟩)∧get T 3=.slice al2 c m2∧get T 5=.int .i64 (j:Nat)∧sget S 1=(1,.cells [.int .i64 r.app,.slice r.ba r.bl r.bk,.slice r.sa r.sl r.sk])∧(c=r.bl+1+j∧Bld H'.length H4 1 al2 c m2 (cells encS ((rowHead r.app :: b.boards.map rowDue)++(b.strokes.take j).map rowSt))∧Up H' H4∧H'.length≤lim2)) (r.sl) ?_ ?_ 0 _ (Nat.zero_le _) ⟨_,_,_,_,_,_,_,rfl,(by first | (simp [get_set,t1,t3,t4]; done) | rfl),(by first | (simp [get_set,t1,t3,t4]; done) | rfl),(by first | (simp [get_set,t1,t3,t4]; done) | rfl),(by first | rfl | exact s0),⟨(show r.bl+1=r.bl+1+0 from rfl),hbd0,hu,by omega⟩⟩
  ·rintro c' j s hj ⟨T,S,H4,al2,c,m2,lim2,rfl,t1,t3,t5,s0,hp⟩ ih
   obtain ⟨rfl,hbd,hu,hlim⟩:=hp
   have hw:=wrap_succ j (by omega)
   have l8:isLoc (.slice al2 (r.bl+1+j) m2)=false:=hbd.isLoc _ _
   have hul:=hu.len
   obtain ⟨b1,o1,k,hka,hk1,hat⟩:=hb.st.at eK_len (by decide) hj
   have fk:rdO (hcells H4 b1) (o1+j*5) (some 5)=some (.agg #[.int .i64 k.s.board,.bool k.s.round,.int .i64 k.s.lo,.int .i64 k.s.hi,.slice k.a k.l k.m]):=hat.all H4 (hg.trans hu.grow)
   have hkm:=mem_drop hk1
   have hnk:=hb.nd k hkm
   have lk:=hnk.isLoc k.m
   have hsk:b.strokes[j]?=some k.s:=hb.at hk1
   have nk:=hn.st k.s (List.mem_of_getElem? hsk)
   have lag:isLoc (.agg #[.int .i64 k.s.board,.bool k.s.round,.int .i64 k.s.lo,.int .i64 k.s.hi,.slice k.a k.l k.m])=false:=rfl
   have iak:vv (.ia 5) [.slice r.sa r.sl r.sk,.int .i64 (j:Nat)]=some (.pointer (some ⟨b1,o1+j*5,none⟩)):=by rw [hka]; exact vv_iaN 5 b1 o1 j _ _ _ hj
   obtain ⟨H5,hH5⟩:∃H5,H4++[(⟨.cells [.int .i64 k.s.board,.int .i64 k.s.lo,.int .i64 k.s.hi],true,true,some H4.length⟩:Blk)]=H5:=⟨_,rfl⟩
   have e5:H5.length=H4.length+1:=by rw [←hH5]; simp
   have u5:Up H4 H5:=by rw [←hH5]; exact (Up.refl _).app
   have hs5:Ints H5 (some ⟨H4.length,0,none⟩) 3 [k.s.board,k.s.lo,k.s.hi]:=by rw [←hH5]; exact new_ints [k.s.board,k.s.lo,k.s.hi]
   obtain ⟨W,hW⟩:∃W,(if k.s.round=true then wRound else wStraight)=W:=⟨_,rfl⟩
   have hWle:W.length≤100:=by rw [←hW]; split <;> decide
   have kd:=c106 (kk:=1) hs5 (fun z hz=>by
    rcases List.mem_cons.1 hz with h | hz
    ·rw [h]; exact ⟨nk.b0,nk.b9⟩
    rcases List.mem_cons.1 hz with h | hz
    ·rw [h]; exact ⟨nk.l0,nk.l9⟩
    rcases List.mem_cons.1 hz with h | hz
    ·rw [h]; exact ⟨nk.h0,nk.h9⟩
    cases hz) (by omega) W hWle H5 (Grow.refl _)
   have kl:=c107 (kk:=k.m) hnk nk.nd H5 (hg.trans (hu.grow.trans u5.grow))
   have h3l:=numsT_len (ns:=[k.s.board,k.s.lo,k.s.hi])
   have hll:=listT_len nk.nd
   have s1:=vv_sadd (W++numsT [k.s.board,k.s.lo,k.s.hi]) [32] (by simp only [List.length_append,List.length_cons,List.length_nil] at h3l ⊢; omega)
   have s2:=vv_sadd (W++numsT [k.s.board,k.s.lo,k.s.hi]++[32]) (listT k.s.needs) (by simp only [List.length_append,List.length_cons,List.length_nil] at h3l ⊢; omega)
   have hrow:W++numsT [k.s.board,k.s.lo,k.s.hi]++[32]++listT k.s.needs=rowSt k.s:=by unfold rowSt; rw [hW]; simp
   rw [hrow] at s2
   obtain ⟨H6,p1,p2,p3,p4⟩:=(hbd.up u5).app (by decide) (by decide) (by omega) (by omega) [.string ⟨(rowSt k.s).toArray⟩] rfl
   have u6:=p3.up (hbd.up u5) (hu.trans u5) (Nat.le_refl _)
   have hl6:=u6.len
   have hcl:cells encS ((rowHead r.app :: b.boards.map rowDue)++(b.strokes.take (j+1)).map rowSt)=cells encS ((rowHead r.app :: b.boards.map rowDue)++(b.strokes.take j).map rowSt)++[.string ⟨(rowSt k.s).toArray⟩]:=by
    rw [take_get hsk,List.map_append,List.map_singleton,←List.append_assoc,cells_app]; rfl
   cases e:k.s.round with
   | false =>
    rw [e] at fk lag
    have hwS:(⟨#[115,116,114,97,105,103,104,116]⟩:ByteArray)=⟨W.toArray⟩:=by rw [←hW,e]; rfl
    simp (maxDischargeDepth:=8) only [↓SD,SU,SV,SW,simprocAttr,Int.cast_ofNat_Int,small,resV, q69x0,t1,t3,t5,s0, s0,lt_nat,hj,l1,l2,l8,lk,iak,fk,lag,hH5,hwS,kd,kl,s1,s2,hw,p1,so_loc,k_fixb,sget_sset]
    exact ih _ ⟨_,_,(H6),(some ⟨H5.length,0,none⟩),(r.bl+1+j+1),(1),(_),rfl,(by simp [get_set,t1] <;> omega),(by simp [get_set,t3] <;> omega),(by simp [get_set,t5] <;> omega),by simp [sget_sset,s0],⟨by omega,by rw [hcl]; exact p2,u6,by omega⟩⟩
   | true =>
    rw [e] at fk lag
    have hwS:(⟨#[114,111,117,110,100]⟩:ByteArray)=⟨W.toArray⟩:=by rw [←hW,e]; rfl
    simp (maxDischargeDepth:=8) only [↓SD,SU,SV,SW,simprocAttr,Int.cast_ofNat_Int,small,resV, q69x0,t1,t3,t5,s0, s0,lt_nat,hj,l1,l2,l8,lk,iak,fk,lag,hH5,hwS,kd,kl,s1,s2,hw,p1,so_loc,k_fixb,sget_sset]
    exact ih _ ⟨_,_,(H6),(some ⟨H5.length,0,none⟩),(r.bl+1+j+1),(1),(_),rfl,(by simp [get_set,t1] <;> omega),(by simp [get_set,t3] <;> omega),(by simp [get_set,t5] <;> omega),by simp [sget_sset,s0],⟨by omega,by rw [hcl]; exact p2,u6,by omega⟩⟩
  ·rintro c' s ⟨T,S,H4,al2,c,m2,lim2,rfl,t1,t3,t5,s0,hp⟩
   obtain ⟨rfl,hbd,hu,hlim⟩:=hp
   rw [List.take_of_length_le (by omega),show (rowHead r.app :: b.boards.map rowDue)++b.strokes.map rowSt=rowsT b by unfold rowsT; rw [happ]] at hbd
   obtain ⟨N,hN⟩:∃N,r.bl+1+r.sl=N:=⟨_,rfl⟩
   rw [hN] at hbd t3
   have l9:isLoc (.slice al2 N m2)=false:=hbd.isLoc _ _
   have hrw:=hbd.sl encS_len (by decide)
   have hul:=hu.len
   have k108:=c108 (m:=m2) hrw (by omega) hR2 H4 (Grow.refl _)
   simp (maxDischargeDepth:=8) only [↓SD,SU,SV,SW,simprocAttr,Int.cast_ofNat_Int,small,resV, q69x0,t1,t3,t5,s0, s0,lt_nat,Nat.lt_irrefl,l1,l2,l9,k108,sget_sset,R69,N69]
   rw [gc_ite (by omega)]
   simp [flat,textT]
end Go.Pi.L.Ben
