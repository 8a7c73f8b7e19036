/- Benches: Least, as the program has it. -/
import Derived.Test.YtjgmlngcknehhaaGreatVH
set_option linter.all false
set_option maxRecDepth 100000
namespace Go.Pi.L.Ch
open Go Go.Pi Go.Pi.L Go.Pi.E Go.Pi.Top BM

theorem least_ends (b:Bench)(now:Int):∃m,m≤4∧(∀j,j < m→now < mtW b (j:Nat))∧((m < 4∧mtW b (m:Nat)≤now∧leastN b now=some m)∨(m=4∧leastN b now=none)):=by
 cases hL:leastN b now with
 | some k =>
  obtain ⟨k',hk1,hk2,hk3⟩:=find_idx hL
  have hk4:=(List.getElem?_eq_some_iff.1 hk1).1
  rw [List.length_range] at hk4
  rw [List.getElem?_range hk4] at hk1
  cases hk1
  refine ⟨k,by omega,fun j hj=>?_,.inl ⟨hk4,of_decide_eq_true hk2,rfl⟩⟩
  have:=of_decide_eq_false (hk3 j hj j (List.getElem?_range (by omega)))
  omega
 | none =>
  refine ⟨4,Nat.le_refl _,fun j hj=>?_,.inr ⟨rfl,rfl⟩⟩
  have:=List.find?_eq_none.1 hL j (List.mem_range.2 hj)
  simp only [decide_eq_true_eq] at this
  omega
set_option maxHeartbeats 4000000 in
theorem c17:Least17:=by
 intro H r b hb hd now H' hg hF
 cases q0:(isBench b&&inL now 0 60) with
 | false =>
  rw [e17 hb hd now q0 H' hg hF]
  unfold lst17; rw [q0]; rfl
 | true =>
 obtain ⟨hB,hN⟩:=Bool.and_eq_true_iff.1 q0
 have hbe:=hb.grow hg
 have hv1:∀n,leastN b now=some n→lst17 b now=.tuple #[.int .i64 (n:Nat),.int .i64 0]:=fun n h=>by unfold lst17; rw [if_pos q0,h]
 have hv2:leastN b now=none→lst17 b now=.tuple #[.int .i64 0,.int .i64 5]:=fun h=>by unfold lst17; rw [if_pos q0,h]
 obtain ⟨m,hm4,hlt,hend⟩:=least_ends b now
 refine run_k (pr 17) P17 (by simp [p17]) rfl ?_
 have l1:=hb.br.isLoc r.bk
 have l2:=hb.st.isLoc r.sk
 obtain ⟨Ha,hHa⟩:∃Ha,H'++[({ obj:=.cells [.int .i64 r.app,.slice r.ba r.bl r.bk,.slice r.sa r.sl r.sk] }:Blk)]=Ha:=⟨_,rfl⟩
 obtain ⟨Hb,hHb⟩:∃Hb,Ha++[({ obj:=.cells [.int .i64 now] }:Blk)]=Hb:=⟨_,rfl⟩
 obtain ⟨Hc,hHc⟩:∃Hc,Hb++[({ obj:=.cells [.int .i64 0] }:Blk)]=Hc:=⟨_,rfl⟩
 obtain ⟨Hd,hHd⟩:∃Hd,Hc++[({ obj:=.cells [.int .i64 0] }:Blk)]=Hd:=⟨_,rfl⟩
 have la:Ha.length=H'.length+1:=by rw [←hHa]; simp
 have lb:Hb.length=H'.length+2:=by rw [←hHb]; simp [la]
 have lc:Hc.length=H'.length+3:=by rw [←hHc]; simp [lb]
 have ld:Hd.length=H'.length+4:=by rw [←hHd]; simp [lc]
 have ua:Up H' Ha:=by rw [←hHa]; exact (Up.refl _).app
 have ub:Up Ha Hb:=by rw [←hHb]; exact (Up.refl _).app
 have uc:Up Hb Hc:=by rw [←hHc]; exact (Up.refl _).app
 have ud:Up Hc Hd:=by rw [←hHd]; exact (Up.refl _).app
 have u:=((ua.trans ub).trans uc).trans ud
 have xa:Ha[H'.length]?=some (benB r):=by rw [←hHa]; exact app_get
 have xb:Hb[Ha.length]?=some (bx (.int .i64 now)):=by rw [←hHb]; exact app_get
 have xc:Hc[Hb.length]?=some (bx (.int .i64 0)):=by rw [←hHc]; exact app_get
 have xd:Hd[Hc.length]?=some (bx (.int .i64 0)):=by rw [←hHd]; exact app_get
 have yb:Hd[H'.length]?=some (benB r):=by rw [ud.old _ (by omega),uc.old _ (by omega),ub.old _ (by omega),xa]
 have yn:Hd[H'.length+1]?=some (bx (.int .i64 now)):=by rw [←la,ud.old _ (by omega),uc.old _ (by omega),xb]
 have x1:hcells Hd H'.length=some [.int .i64 r.app,.slice r.ba r.bl r.bk,.slice r.sa r.sl r.sk]:=by unfold hcells; rw [yb]; rfl
 have n1:hcells Hd Ha.length=some [.int .i64 now]:=by rw [la]; exact bx_hc yn
 have hFd:Fam Hd:=by
  rw [←hHd,←hHc,←hHb,←hHa]
  exact (((hF.append (fun f h=>by cases h)).append (fun f h=>by cases h)).append (fun f h=>by cases h)).append (fun f h=>by cases h)
 have hL0:LI H' r now [] Hd:={
  xb:=yb
  nb:=yn
  r4:=by rw [←lb,ud.old _ (by omega)]; exact xc
  r5:=by rw [←lc]; exact xd
  up:=u
  fam:=hFd
  nd:=List.nodup_nil
  dk:=fun x hx=>by cases hx
  rg:=fun x hx=>by cases hx }
 have k36:=c36 hb hd Hd (hg.trans u.grow)
 have k47:=c47 now 0 60 Hd
 rw [hB] at k36
 rw [hN] at k47
 simp (maxDischargeDepth:=8) only [↓SD,SU,SV,SW,simprocAttr,Int.cast_ofNat_Int,small,resV, B17,R17,N17,b17, l1,l2,hHa,hHb,hHc,hHd,x1,n1,k36,k47]
 refine loop_ind (G:=(·=_)) (fun j σ=>∃T D H3 lim,σ=⟨T,[],D.map PD.coll,H3,lim,32,false⟩∧get T 2=.pointer (some ⟨H'.length,0,none⟩)∧get T 3=.pointer (some ⟨H'.length+1,0,none⟩)∧get T 4=.pointer (some ⟨H'.length+2,0,none⟩)∧get T 5=.pointer (some ⟨H'.length+3,0,none⟩)∧get T 16=.int .i64 (j:Nat)∧LI H' r now D H3∧H'.length≤lim) m ?_ ?_ 0 _ (Nat.zero_le _) ⟨_,[],_,_,rfl,rfl,by rw [←la]; rfl,by rw [←lb]; rfl,by rw [←lc]; rfl,rfl,hL0,by omega⟩
 ·rintro c' j s hj ⟨T,D,H3,lim,rfl,t2,t3,t4,t5,t16,hI,hlim⟩ ih
  have z1:(((j:Nat):Int) < 4)=True:=eq_true (by omega)
  obtain ⟨Ga,hGa⟩:∃Ga,H3++[({ obj:=.cells [.int .i64 0] }:Blk)]=Ga:=⟨_,rfl⟩
  obtain ⟨Gb,hGb⟩:∃Gb,Ga.set H3.length { obj:=.cells [.int .i64 (j:Nat)] }=Gb:=⟨_,rfl⟩
  obtain ⟨Gc,hGc⟩:∃Gc,Gb++[({ obj:=.cells [.int .i64 (j:Nat),.slice r.ba r.bl r.bk,.slice r.sa r.sl r.sk] }:Blk)]=Gc:=⟨_,rfl⟩
  have k49:=c49 hb (j:Int) Gb
  have k48:R (.func 48) [.agg #[.int .i64 (j:Nat),.slice r.ba r.bl r.bk,.slice r.sa r.sl r.sk]] Gb=_:=c48 (witR r (j:Int)) l1 l2 Gb
  rw [show Gb++[({ obj:=.cells [.int .i64 (witR r (j:Int)).app,.slice (witR r (j:Int)).ba (witR r (j:Int)).bl (witR r (j:Int)).bk,.slice (witR r (j:Int)).sa (witR r (j:Int)).sl (witR r (j:Int)).sk] }:Blk)]=Gc from hGc] at k48
  obtain ⟨TX,hTX⟩:∃TX,List.map deloc (set (set (set (set (set (set (set T 17 (.bool true)) 18 (.int .i64 (j:Nat))) 6 (.pointer (some ⟨H3.length,0,none⟩))) 19 (.agg #[.int .i64 r.app,.slice r.ba r.bl r.bk,.slice r.sa r.sl r.sk])) 20 (.int .i64 (j:Nat))) 21 (.agg #[.int .i64 (j:Nat),.slice r.ba r.bl r.bk,.slice r.sa r.sl r.sk])) 22 (.func (.func 92) #[] #[.pointer (some ⟨Gb.length,0,none⟩)]))=TX:=⟨_,rfl⟩
  obtain ⟨Gl,hGl⟩:∃Gl,Gc++[({ obj:=.dfr false }:Blk)]++[({ obj:=.loop 32 TX [23] as17 bd17 Gc.length .ready none }:Blk)]=Gl:=⟨_,rfl⟩
  obtain ⟨b6,c6,cx,lgb,lgc,up3,H1,lo1,q1,q2,q3⟩:=r60 (T:=TX) (j:=j) hbe hB (by omega) hI (by rw [←hTX]; exact get_deloc (by simp [get_set,t2]) rfl) (by rw [←hTX]; exact get_deloc (by simp [get_set,t3]) rfl) (by rw [←hTX]; exact get_deloc (by simp [get_set,t4]) rfl) (by rw [←hTX]; exact get_deloc (by simp [get_set,t5]) rfl) (by rw [←hTX]; exact get_deloc (by simp [get_set]) rfl) hGa hGb hGc hGl
  have hGl':=hGl
  unfold as17 bd17 at hGl'
  replace cx:hcells Gb H'.length=some [.int .i64 r.app,.slice r.ba r.bl r.bk,.slice r.sa r.sl r.sk]:=cx
  obtain ⟨_,lp1,hL⟩:=q3.resolve_right fun h=>by have:=hlt j hj; omega
  have hw:=wrap_succ j (by omega)
  simp (maxDischargeDepth:=8) only [↓SD,SU,SV,SW,simprocAttr,Int.cast_ofNat_Int,small,resV, q17x0,t2,t3,t4,t5,t16,z1,l1,l2,hGa,b6,stH_ok,hGb,c6,cx,k49,k48,k_rf,rfA_some,fa_clo1,hTX,hGl',q1,rfR_n _ _ _ _ _ _ _ _ _ _ lp1,hw]
  exact ih _ ⟨_,Gc.length :: D,_,_,rfl,by simp [get_set,t2],by simp [get_set,t3],by simp [get_set,t4],by simp [get_set,t5],by simp [get_set],hL,by omega⟩
 ·rintro c' s ⟨T,D,H3,lim,rfl,t2,t3,t4,t5,t16,hI,hlim⟩
  rcases hend with ⟨e1,e2,e3⟩ | ⟨e1,e3⟩
  ·have z1:(((m:Nat):Int) < 4)=True:=eq_true (by omega)
   obtain ⟨Ga,hGa⟩:∃Ga,H3++[({ obj:=.cells [.int .i64 0] }:Blk)]=Ga:=⟨_,rfl⟩
   obtain ⟨Gb,hGb⟩:∃Gb,Ga.set H3.length { obj:=.cells [.int .i64 (m:Nat)] }=Gb:=⟨_,rfl⟩
   obtain ⟨Gc,hGc⟩:∃Gc,Gb++[({ obj:=.cells [.int .i64 (m:Nat),.slice r.ba r.bl r.bk,.slice r.sa r.sl r.sk] }:Blk)]=Gc:=⟨_,rfl⟩
   have k49:=c49 hb (m:Int) Gb
   have k48:R (.func 48) [.agg #[.int .i64 (m:Nat),.slice r.ba r.bl r.bk,.slice r.sa r.sl r.sk]] Gb=_:=c48 (witR r (m:Int)) l1 l2 Gb
   rw [show Gb++[({ obj:=.cells [.int .i64 (witR r (m:Int)).app,.slice (witR r (m:Int)).ba (witR r (m:Int)).bl (witR r (m:Int)).bk,.slice (witR r (m:Int)).sa (witR r (m:Int)).sl (witR r (m:Int)).sk] }:Blk)]=Gc from hGc] at k48
   obtain ⟨TX,hTX⟩:∃TX,List.map deloc (set (set (set (set (set (set (set T 17 (.bool true)) 18 (.int .i64 (m:Nat))) 6 (.pointer (some ⟨H3.length,0,none⟩))) 19 (.agg #[.int .i64 r.app,.slice r.ba r.bl r.bk,.slice r.sa r.sl r.sk])) 20 (.int .i64 (m:Nat))) 21 (.agg #[.int .i64 (m:Nat),.slice r.ba r.bl r.bk,.slice r.sa r.sl r.sk])) 22 (.func (.func 92) #[] #[.pointer (some ⟨Gb.length,0,none⟩)]))=TX:=⟨_,rfl⟩
   obtain ⟨Gl,hGl⟩:∃Gl,Gc++[({ obj:=.dfr false }:Blk)]++[({ obj:=.loop 32 TX [23] as17 bd17 Gc.length .ready none }:Blk)]=Gl:=⟨_,rfl⟩
   obtain ⟨b6,c6,cx,lgb,lgc,up3,H1,lo1,q1,q2,q3⟩:=r60 (T:=TX) (j:=m) hbe hB (by omega) hI (by rw [←hTX]; exact get_deloc (by simp [get_set,t2]) rfl) (by rw [←hTX]; exact get_deloc (by simp [get_set,t3]) rfl) (by rw [←hTX]; exact get_deloc (by simp [get_set,t4]) rfl) (by rw [←hTX]; exact get_deloc (by simp [get_set,t5]) rfl) (by rw [←hTX]; exact get_deloc (by simp [get_set]) rfl) hGa hGb hGc hGl
   have hGl':=hGl
   unfold as17 bd17 at hGl'
   replace cx:hcells Gb H'.length=some [.int .i64 r.app,.slice r.ba r.bl r.bk,.slice r.sa r.sl r.sk]:=cx
   obtain ⟨_,lp1,nd,rg,G5,hG5,hK,f4,f5⟩:=q3.resolve_left fun h=>by omega
   have f4':hcells (kolH (Gc.length :: D) G5) (H'.length+2)=some [.int .i64 (m:Nat)]:=bx_hc (by rw [kolH_get (fun h=>by have:=rg _ h; omega)]; exact f4)
   have f5':hcells (kolH (Gc.length :: D) G5) (H'.length+3)=some [.int .i64 0]:=bx_hc (by rw [kolH_get (fun h=>by have:=rg _ h; omega)]; exact f5)
   have hu:=fun T lo=>unw_kol (PP:=PP) (prims:=primsL) (call:=runL PP primsL) (pv:=none) (T:=T) (S:=[]) (D0:=.coll Gc.length :: D.map PD.coll) (n:=32) (rnd:=false) (Gc.length :: D) G5 lo nd hK
   simp only [List.map_cons] at hu
   simp (maxDischargeDepth:=8) only [↓SD,SU,SV,SW,simprocAttr,Int.cast_ofNat_Int,small,resV, q17x0,t2,t3,t4,t5,t16,z1,l1,l2,hGa,b6,stH_ok,hGb,c6,cx,k49,k48,k_rf,rfA_some,fa_clo1,hTX,hGl',q1,rfR_r _ _ _ _ _ _ _ _ _ _ lp1,hG5,hu,f4',f5',R17,N17]
   rw [hv1 _ e3]
   rw [gc_ite (kolL_le (by omega) (fun x hx=>by have:=rg x hx; omega))]; simp [flat]
  ·subst e1
   have z1:(((4:Nat):Int) < 4)=False:=by simp
   have b4:H3[H'.length+2]?=some ⟨.cells [.int .i64 0],true,true,none⟩:=hI.r4
   obtain ⟨Ga,hGa⟩:∃Ga,H3.set (H'.length+2) { obj:=.cells [.int .i64 0] }=Ga:=⟨_,rfl⟩
   have b5:Ga[H'.length+3]?=some ⟨.cells [.int .i64 0],true,true,none⟩:=by rw [←hGa,List.getElem?_set_ne (by omega)]; exact hI.r5
   obtain ⟨Gb,hGb⟩:∃Gb,Ga.set (H'.length+3) { obj:=.cells [.int .i64 5] }=Gb:=⟨_,rfl⟩
   have o2:∀i,i≠H'.length+2→i≠H'.length+3→Gb[i]?=H3[i]?:=fun i h1 h2=>by rw [←hGb,List.getElem?_set_ne (fun e=>h2 e.symm),←hGa,List.getElem?_set_ne (fun e=>h1 e.symm)]
   have f4':hcells (kolH D Gb) (H'.length+2)=some [.int .i64 0]:=bx_hc (by rw [kolH_get (fun h=>by have:=hI.rg _ h; omega),←hGb,List.getElem?_set_ne (by omega),←hGa,List.getElem?_set_self (lt_of_get b4)]; rfl)
   have f5':hcells (kolH D Gb) (H'.length+3)=some [.int .i64 5]:=bx_hc (by rw [kolH_get (fun h=>by have:=hI.rg _ h; omega),←hGb,List.getElem?_set_self (lt_of_get b5)]; rfl)
   have hu:=fun T lo=>unw_kol (PP:=PP) (prims:=primsL) (call:=runL PP primsL) (pv:=none) (T:=T) (S:=[]) (D0:=D.map PD.coll) (n:=32) (rnd:=false) D Gb lo hI.nd (fun x hx=>by have:=hI.rg x hx; rw [o2 x (by omega) (by omega)]; exact (hI.dk x hx).1)
   simp (maxDischargeDepth:=8) only [↓SD,SU,SV,SW,simprocAttr,Int.cast_ofNat_Int,small,resV, q17x0,t2,t3,t4,t5,t16,z1,l1,l2,b4,stH_ok,hGa,b5,hGb,fE_any,hu,f4',f5',R17,N17]
   rw [hv2 e3]
   rw [gc_ite (kolL_le (by omega) (fun x hx=>by have:=hI.rg x hx; omega))]; simp [flat]
end Go.Pi.L.Ch
