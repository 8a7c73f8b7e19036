/- Benches: lists of lists as the document builds them: all plans. -/
import Derived.Test.YtfndfpbdgjoilaaGreatDoorDH
set_option linter.all false
set_option maxRecDepth 100000
namespace Go.Pi.L
open Go Go.Pi
section
variable {α:Type} {call:CallT} {F:Ex→St→Option α} {k:List It}
theorem apA_emp (kk d T S D H lo n rnd):ap1 call F (some []) (.slice none 0 0) kk d k ⟨T,S,D,H,lo,n,rnd⟩=nxt call F (some (.slice none 0 0)) d k ⟨T,S,D,H,lo,n,rnd⟩:=by
 have hop:appB ⟨T,S,D,H,lo,n,rnd⟩ kk [] none 0 0 d=putO ⟨T,S,D,H,lo,n,rnd⟩ d (.slice none 0 0):=by
  unfold appB
  rw [if_neg (by simp [isLoc]),if_neg (by simp [small]),if_pos (by simp)]
 simp only [ap1,hop]
 exact go_putO
end
end Go.Pi.L
namespace Go.Pi.L.Ben
open Go Go.Pi Go.Pi.L Go.Pi.E Go.Pi.Ben BM

theorem cpy {H:Heap}{q:List Int}(hl:q.length < 100)(h:Int) :
  ∃(v:Value) (H1 H2:Heap) (bn:Nat),isLoc v=false ∧
   (∀{α:Type} (call:CallT) (F:Ex→St→Option α) d kk T S D lo n rnd,ap1 call F (some (cells encI q)) (.slice none 0 0) 1 d kk ⟨T,S,D,H,lo,n,rnd⟩=nxt call F (some v) d kk ⟨T,S,D,H1,lo,n,rnd⟩) ∧
   (∀{α:Type} (call:CallT) (F:Ex→St→Option α) d kk T S D lo n rnd,ap1 call F (some [.int .i64 h]) v 1 d kk ⟨T,S,D,H1,lo,n,rnd⟩=nxt call F (some (.slice (some ⟨bn,0,none⟩) (q.length+1) 1)) d kk ⟨T,S,D,H2,lo,n,rnd⟩) ∧
   Up H H2∧Ints H2 (some ⟨bn,0,none⟩) (q.length+1) (q++[h]):=by
 have hcl:(cells encI q).length=q.length:=by rw [cells_len encI_len,Nat.mul_one]
 by_cases h0:q=[]
 ·subst h0
  refine ⟨.slice none 0 0,H,H++[⟨.cells [.int .i64 h],true,true,some H.length⟩],H.length,rfl,fun call F d kk T S D lo n rnd=>apA_emp _ _ _ _ _ _ _ _ _,fun call F d kk T S D lo n rnd=>?_,(Up.refl H).app,?_⟩
  ·rw [apA_nil _ _ _ _ _ _ _ _ _ _ (Nat.mod_one _) (by simp) rfl]; simp only [List.length_singleton,Nat.div_one,List.length_nil,Nat.zero_add]
  ·exact Sl.of_cells (xs:=[h]) (fun _=>rfl) (by simp [hcells,cells,encI])
 ·have hne:(cells encI q).isEmpty=false:=by
   cases q with
   | nil=>exact absurd rfl h0
   | cons x q=>rfl
  refine ⟨.slice (some ⟨H.length,0,none⟩) q.length 1,H++[⟨.cells (cells encI q),true,true,some H.length⟩],(H++[(⟨.cells (cells encI q),true,true,some H.length⟩:Blk)]).set H.length ⟨.cells (cells encI q),true,false,some H.length⟩++[⟨.cells (cells encI q++[.int .i64 h]),true,true,some H.length⟩],H.length+1,rfl,fun call F d kk T S D lo n rnd=>?_,fun call F d kk T S D lo n rnd=>?_,((Up.refl H).app.set (Nat.le_refl _)).app,?_⟩
  ·rw [apA_nil _ _ _ _ _ _ _ _ _ _ (Nat.mod_one _) (by omega) hne]; simp only [hcl,Nat.div_one]
  ·rw [apA_tip]
   simp only [app_get]
   rw [apB_ok _ _ _ _ _ _ _ _ _ _ _ _ _ _ (Nat.mod_one _) (by simp; omega) rfl (by decide) (by omega)]
   simp only [List.length_singleton,Nat.div_one,List.length_append]
  ·have hl1:(q++[h]).length=q.length+1:=by simp
   rw [←hl1]
   refine Sl.of_cells (fun _=>rfl) ?_
   rw [cells_app]
   simp [hcells,encI]
structure Vs (H:Heap)(vs:List (Option Addr×Nat×Nat))(L:List (List Int)):Prop where
 len:vs.length=L.length
 inn:∀(i:Nat) (v:Option Addr×Nat×Nat) (q:List Int),vs[i]?=some v→L[i]?=some q→Ints H v.1 v.2.1 q
theorem Vs.grow {H H':Heap}{vs:List (Option Addr×Nat×Nat)}{L:List (List Int)}(h:Vs H vs L)(g:Grow H H'):Vs H' vs L:=⟨h.len,fun i v q h1 h2=>(h.inn i v q h1 h2).grow g⟩
theorem Vs.snoc {H:Heap}{vs:List (Option Addr×Nat×Nat)}{L:List (List Int)}(h:Vs H vs L){v:Option Addr×Nat×Nat}{q:List Int}(hv:Ints H v.1 v.2.1 q):Vs H (vs++[v]) (L++[q]) :=
 ⟨by simp [h.len],fun i w r h1 h2=>by
  by_cases hi:i < vs.length
  ·rw [List.getElem?_append_left hi] at h1
   rw [List.getElem?_append_left (by rw [←h.len]; exact hi)] at h2
   exact h.inn i w r h1 h2
  ·have h3:=(List.getElem?_eq_some_iff.1 h1).1
   simp at h3
   obtain rfl:i=vs.length:=by omega
   rw [List.getElem?_append_right (Nat.le_refl _)] at h1
   rw [h.len,List.getElem?_append_right (Nat.le_refl _)] at h2
   simp at h1 h2
   subst h1; subst h2; exact hv⟩
theorem Vs.nil (H:Heap):Vs H [] []:=⟨rfl,fun i v q h=>by simp at h⟩
theorem Vs.at {H:Heap}{vs:List (Option Addr×Nat×Nat)}{L:List (List Int)}(h:Vs H vs L){i:Nat}{q:List Int}(hq:L[i]?=some q):∃v,vs[i]?=some v∧Ints H v.1 v.2.1 q:=by
 obtain ⟨v,hv⟩:∃v,vs[i]?=some v:=⟨_,List.getElem?_eq_getElem (by rw [h.len]; exact (List.getElem?_eq_some_iff.1 hq).1)⟩
 exact ⟨v,hv,h.inn i v q hv hq⟩
def plk (nA:Nat)(rs:List Bool)(i:Nat):List (List Int):=(rs.take i).foldl (stepP nA) [[]]
theorem plk_succ {nA:Nat}{rs:List Bool}{i:Nat}{r:Bool}(h:rs[i]?=some r):plk nA rs (i+1)=stepP nA (plk nA rs i) r:=by
 unfold plk; rw [take_get h,List.foldl_append]; rfl
theorem plk_all (nA:Nat)(rs:List Bool):plk nA rs rs.length=plansL nA rs:=by
 unfold plk; rw [List.take_length]; exact stepP_plans rs
theorem plk_eq (nA:Nat)(rs:List Bool)(i:Nat):plk nA rs i=plansL nA (rs.take i):=by
 unfold plk; exact stepP_plans _
theorem plk_len {nA:Nat}(h:nA≤3)(rs:List Bool){i:Nat}(hi:i≤6):(plk nA rs i).length≤4096∧∀q∈plk nA rs i,q.length≤i:=by
 rw [plk_eq]
 have h1:=plansL_len h (rs.take i)
 have h2:(rs.take i).length≤i:=by rw [List.length_take]; omega
 have h3:4 ^ (rs.take i).length≤4 ^ 6:=Nat.pow_le_pow_right (by decide) (by omega)
 exact ⟨by omega,fun q hq=>by rw [mem_plansL] at hq; rw [hq.1]; exact h2⟩
def stepK (n:Nat)(L:List (List Int))(k:Nat):List (List Int):=(L.take k).flatMap fun p=>(List.range n).map fun h:Nat=>p++[(h:Int)]
theorem stepK_succ {n:Nat}{L:List (List Int)}{k:Nat}{q:List Int}(h:L[k]?=some q):stepK n L (k+1)=stepK n L k++(List.range n).map fun h:Nat=>q++[(h:Int)]:=by
 unfold stepK; rw [take_get h,List.flatMap_append,List.flatMap_singleton]
theorem stepK_all (nA:Nat)(r:Bool)(L:List (List Int)):stepK (hands nA r) L L.length=stepP nA L r:=by
 unfold stepK stepP; rw [List.take_length]
theorem stepK_len (n:Nat)(L:List (List Int))(k:Nat):(stepK n L k).length≤L.length*n:=by
 unfold stepK
 simp only [List.length_flatMap,List.length_map,List.length_range,List.map_const',List.sum_replicate_nat]
 exact Nat.mul_le_mul_right _ (by rw [List.length_take]; omega)
end Go.Pi.L.Ben
set_option maxRecDepth 100000
namespace Go.Pi.L.Ben
open Go Go.Pi Go.Pi.L Go.Pi.E Go.Pi.Ben BM

def QV (H:Heap)(L:List (List Int))(o:Out):Prop:=∃a m H1 lo vs,o=⟨.ok (.slice a L.length m),H1,lo⟩∧Up H H1∧H.length≤lo∧Sl H1 1 encV a L.length vs∧Vs H1 vs L
theorem gc_v {H H1:Heap}{a:Option Addr}{l m lo:Nat}{vs:List (Option Addr×Nat×Nat)}{L:List (List Int)}(hs:Sl H1 1 encV a l vs)(hv:Vs H1 vs L)(hu:Up H H1)(h:H.length≤lo):QV H L (gcR H (.ok (.slice a l m)) H1 lo):=by
 have hl:l=L.length:=by rw [←hv.len]; exact hs.len.symm
 subst hl
 rw [gc_ite h]
 split
 ·rename_i hf
  obtain ⟨rfl,h1,rfl⟩:=flat_sl hf
  have:L=[]:=List.eq_nil_of_length_eq_zero h1
  subst this
  exact ⟨none,0,H,H.length,[],rfl,Up.refl H,Nat.le_refl _,Sl.none,Vs.nil H⟩
 ·exact ⟨a,m,H1,lo,vs,rfl,hu,h,hs,hv⟩
set_option maxHeartbeats 4000000 in
theorem c93 {H:Heap}{r:BeR}{b:Bench}(hb:BeOk H r b)(hf:Fine b) :
  ∀H',Grow H H'→Yes (R (.func 93) [.agg #[.int .i64 r.app,.slice r.ba r.bl r.bk,.slice r.sa r.sl r.sk]] H') (QV H' (plans b)):=by
 intro H' hg
 replace hb:=hb.grow hg
 clear hg
 refine run_y (pr 93) P93 (by simp [p93]) rfl ?_
 have l1:=hb.br.isLoc r.bk
 have l2:=hb.st.isLoc r.sk
 have n6:=hf.n6
 have a0:=hf.a0
 have a3:=hf.a3
 have hsl:=hb.len
 obtain ⟨nA,hnA⟩:∃nA:Nat,r.app=nA:=⟨r.app.toNat,by have:=hb.app; omega⟩
 have hA3:nA≤3:=by have:=hb.app; omega
 have hpl:plans b=plk nA (rounds b) r.sl:=by
  have:r.sl=(rounds b).length:=by rw [rounds,List.length_map]; exact hsl.symm
  rw [this,plk_all]
  unfold plans
  rw [←hb.app,hnA]; rfl
 obtain ⟨Ha,hHa⟩:∃Ha,H'++[(⟨.cells [.slice none 0 0],true,true,some H'.length⟩:Blk)]=Ha:=⟨_,rfl⟩
 have ua:Up H' Ha:=by rw [←hHa]; exact (Up.refl _).app
 have la:Ha.length=H'.length+1:=by rw [←hHa]; simp
 have sa:Sl Ha 1 encV (some ⟨H'.length,0,none⟩) 1 [(none,0,0)]:=Sl.of_cells (xs:=[(none,0,0)]) encV_len (by rw [←hHa]; simp [hcells,cells,encV])
 have va:Vs Ha [(none,0,0)] [[]]:=(Vs.nil Ha).snoc (v:=(none,0,0)) Sl.none
 simp (maxDischargeDepth:=8) only [↓SD,SU,SV,SW,simprocAttr,Int.cast_ofNat_Int,small,resV, B93,R93,N93,b93, l1,l2,hHa]
 refine loop_ind (G:=(Yes · (QV H' (plans b)))) (fun j σ=>∃T S H3 lim a l m vs,σ=⟨T,S,[],H3,lim,49,false⟩∧get T 1=.pointer (some ⟨1,0,some 1⟩)∧get T 3=.slice a l m∧get T 4=.int .i64 (j:Nat)∧sget S 1=(1,.cells [.int .i64 r.app,.slice r.ba r.bl r.bk,.slice r.sa r.sl r.sk])∧(Sl H3 1 encV a l vs∧Vs H3 vs (plk nA (rounds b) j)∧Up H' H3∧H'.length≤lim)) (r.sl) ?_ ?_ 0 _ (Nat.zero_le _) ⟨_,_,_,_,_,_,_,_,rfl,rfl,rfl,rfl,rfl,⟨sa,va,ua,by omega⟩⟩
 ·rintro c' j s hj ⟨T,S,H3,lim,a,l,m,vs,rfl,t1,t3,t4,s0,hp⟩ ih
  obtain ⟨hsl3,hv3,u3,hlim⟩:=hp
  have l3:=hsl3.isLoc m
  have hw1:=wrap_succ j (by omega)
  obtain ⟨sb,so,xk,hsa,hxk,fk⟩:=hb.st.k5 (j:=j) hj
  have fk1:rdO (hcells H3 sb) (so+j*5+1) none=some (.bool xk.s.round):=fk.v1 H3 u3.grow
  have ias:vv (.ia 5) [.slice r.sa r.sl r.sk,.int .i64 (j:Nat)]=some (.pointer (some ⟨sb,so+j*5,none⟩)):=by rw [hsa]; exact vv_iaN 5 sb so j _ _ _ hj
  have hrd:(rounds b)[j]?=some xk.s.round:=by rw [rounds,List.getElem?_map,hb.at hxk]; rfl
  have hps:=plk_succ (nA:=nA) hrd
  obtain ⟨hL1,hL2⟩:=plk_len hA3 (rounds b) (i:=j) (by omega)
  have hll:l=(plk nA (rounds b) j).length:=by rw [←hv3.len]; exact hsl3.len.symm
  have ihO:=ih
  clear ih
  obtain ⟨i,rfl⟩:∃i,i=j:=⟨j,rfl⟩
  obtain ⟨nH,hnH⟩:∃nH,hands nA xk.s.round=nH:=⟨_,rfl⟩
  obtain ⟨L,hL⟩:∃L,plk nA (rounds b) i=L:=⟨_,rfl⟩
  have hsK:=stepK_all nA xk.s.round L
  rw [hnH] at hsK
  rw [hL] at hv3 hps hL1 hL2 hll
  obtain ⟨lv,hlv⟩:∃lv:Int,lv=bif xk.s.round then 0 else r.app:=⟨_,rfl⟩
  have hlv2:(nH:Int)=lv+1:=by
   rw [hlv,←hnH]; unfold hands
   cases xk.s.round <;> simp [hnA]
  have hnH4:nH≤4:=by rw [←hnH]; exact hands_le hA3 _
  cases hr:xk.s.round <;> rw [hr] at fk1 hlv <;> simp only [cond_true,cond_false] at hlv <;> simp (maxDischargeDepth:=8) only [↓SD,SU,SV,SW,simprocAttr,Int.cast_ofNat_Int,small,resV, q93x2,t1,t3,t4,s0, s0,lt_nat,hj,l1,l2,l3,ias,fk1,hnA]
  all_goals
   refine loop_ind (G:=(Yes · (QV H' (plans b)))) (fun j σ=>∃T S H4 lim2 al c m2 ws,σ=⟨T,S,[],H4,lim2,49,false⟩∧get T 1=.pointer (some ⟨1,0,some 1⟩)∧get T 3=.slice a l m∧get T 4=.int .i64 (i:Nat)∧get T 5=.int .i64 lv∧get T 6=.slice al c m2∧get T 7=.int .i64 (j:Nat)∧sget S 1=(1,.cells [.int .i64 r.app,.slice r.ba r.bl r.bk,.slice r.sa r.sl r.sk])∧(Bld H'.length H4 1 al c m2 (cells encV ws)∧Vs H4 ws (stepK nH L j)∧Up H' H4∧Grow H3 H4∧H'.length≤lim2)) (l) ?_ ?_ 0 _ (Nat.zero_le _) ⟨_,_,_,_,_,_,_,_,rfl,(by first | rfl | simp [get_set,t1,t3,t4,hlv,hnA]),(by first | rfl | simp [get_set,t1,t3,t4,hlv,hnA]),(by first | rfl | simp [get_set,t1,t3,t4,hlv,hnA]),(by first | rfl | simp [get_set,t1,t3,t4,hlv,hnA]),(by first | rfl | simp [get_set,t1,t3,t4,hlv,hnA]),(by first | rfl | simp [get_set,t1,t3,t4,hlv,hnA]),(by first | rfl | exact s0),⟨Bld.nil _ _ _,Vs.nil _,u3,Grow.refl _,hlim⟩⟩
   ·rintro c' j s hj ⟨T,S,H4,lim2,al,c,m2,ws,rfl,t1,t3,t4,t5,t6,t7,s0,hp⟩ ih
    obtain ⟨hbd,hws,u4,g34,hlim2⟩:=hp
    have ihM:=ih
    clear ih
    obtain ⟨k,rfl⟩:∃k,k=j:=⟨j,rfl⟩
    have hk:=hj
    have l4:isLoc (.slice al c m2)=false:=hbd.isLoc _ _
    obtain ⟨q,hq⟩:∃q,L[k]?=some q:=⟨_,List.getElem?_eq_getElem (by omega)⟩
    have hql:q.length≤6:=by have:=hL2 q (List.mem_of_getElem? hq); omega
    obtain ⟨vb,vo,v,hva,hvk,fv⟩:=hsl3.at encV_len (by decide) hk
    have hqv:=hv3.inn k v q hvk hq
    have iav:vv (.ia 1) [.slice a l m,.int .i64 (k:Nat)]=some (.pointer (some ⟨vb,vo+k*1,none⟩)):=by rw [hva]; exact vv_iaN 1 vb vo k _ _ _ hk
    have lv':=hqv.isLoc v.2.2
    have hvl:v.2.1=q.length:=hqv.len.symm
    have hwk:=wrap_succ k (by omega)
    simp (maxDischargeDepth:=8) only [↓SD,SU,SV,SW,simprocAttr,Int.cast_ofNat_Int,small,resV, q93x1,t1,t3,t4,t5,t6,t7,s0, s0,lt_nat,hk,l1,l2,l3,l4]
    refine loop_ind (G:=(Yes · (QV H' (plans b)))) (fun j σ=>∃T S H5 lim3 al3 c3 m3 ws3,σ=⟨T,S,[],H5,lim3,49,false⟩∧get T 1=.pointer (some ⟨1,0,some 1⟩)∧get T 3=.slice a l m∧get T 4=.int .i64 (i:Nat)∧get T 5=.int .i64 lv∧get T 6=.slice al3 c3 m3∧get T 7=.int .i64 (k:Nat)∧get T 8=.int .i64 (j:Nat)∧sget S 1=(1,.cells [.int .i64 r.app,.slice r.ba r.bl r.bk,.slice r.sa r.sl r.sk])∧(Bld H'.length H5 1 al3 c3 m3 (cells encV ws3)∧Vs H5 ws3 (stepK nH L k++(List.range j).map fun h:Nat=>q++[(h:Int)])∧Up H' H5∧Grow H3 H5∧H'.length≤lim3)) (nH) ?_ ?_ 0 _ (Nat.zero_le _) ⟨_,_,_,_,_,_,_,_,rfl,(by first | rfl | simp [get_set,t1,t3,t4,t5,t6,t7]),(by first | rfl | simp [get_set,t1,t3,t4,t5,t6,t7]),(by first | rfl | simp [get_set,t1,t3,t4,t5,t6,t7]),(by first | rfl | simp [get_set,t1,t3,t4,t5,t6,t7]),(by first | rfl | simp [get_set,t1,t3,t4,t5,t6,t7]),(by first | rfl | simp [get_set,t1,t3,t4,t5,t6,t7]),(by first | rfl | simp [get_set,t1,t3,t4,t5,t6,t7]),(by first | rfl | exact s0),⟨hbd,by simpa using hws,u4,g34,hlim2⟩⟩
    ·rintro c' j s hj ⟨T,S,H5,lim3,al3,c3,m3,ws3,rfl,t1,t3,t4,t5,t6,t7,t8,s0,hp⟩ ih
     obtain ⟨hbd,hws,u5,g35,hlim3⟩:=hp
     have l5:isLoc (.slice al3 c3 m3)=false:=hbd.isLoc _ _
     have hle:((j:Int)≤lv)=True:=by simp; omega
     have fv1:=At.v0 fv H5 g35
     have qe:=fun T S D lo n rnd=>(hqv.grow g35).elems encI_len (by decide) v.2.2 T S D lo n rnd
     obtain ⟨w,H6,H7,bn,lw,p1,p2,u7,s7⟩:=cpy (H:=H5) (q:=q) (by omega) (j:Int)
     have hc3:c3=(stepK nH L k++(List.range j).map fun h:Nat=>q++[(h:Int)]).length:=by rw [←hws.len]; exact (hbd.sl encV_len (by decide)).len.symm
     have hkl:=stepK_len nH L k
     have hm4:L.length*nH≤4096*4:=Nat.mul_le_mul hL1 hnH4
     have hc3b:c3 < 1000000:=by rw [hc3,List.length_append,List.length_map,List.length_range]; omega
     obtain ⟨H8,p3,p4,p5,p6⟩:=(hbd.up u7).app (by decide) (by decide) (hc3b) (by have:=u5.len; have:=u7.len; omega) [.slice (some ⟨bn,0,none⟩) (q.length+1) 1] rfl
     have u8:=p5.up (hbd.up u7) (u5.trans u7) (Nat.le_refl _)
     have g8:Grow H5 H8:=u7.grow.trans p5.grow
     have hwj:=wrap_succ j (by omega)
     have hn:((List.range (j+1)).map fun h:Nat=>q++[(h:Int)])=((List.range j).map fun h:Nat=>q++[(h:Int)])++[q++[(j:Int)]]:=by rw [List.range_succ,List.map_append]; rfl
     simp (maxDischargeDepth:=8) only [↓SD,SU,SV,SW,simprocAttr,Int.cast_ofNat_Int,small,resV, q93x0,t1,t3,t4,t5,t6,t7,t8,s0, s0,hle,l1,l2,l3,l5,lv',lw,iav,fv1,qe,p1,p2,p3,hwj]
     exact ih _ ⟨_,_,(H8),(_),(some ⟨H7.length,0,none⟩),(c3+1),(1),(ws3++[(some ⟨bn,0,none⟩,q.length+1,1)]),rfl,(by simp [get_set,t1] <;> omega),(by simp [get_set,t3] <;> omega),(by simp [get_set,t4] <;> omega),(by simp [get_set,t5] <;> omega),(by simp [get_set,t6] <;> omega),(by simp [get_set,t7] <;> omega),(by simp [get_set,t8] <;> omega),by simp [sget_sset,s0],⟨by rw [cells_app]; exact p4,by rw [hn,←List.append_assoc]; exact (hws.grow g8).snoc (s7.grow p5.grow),u8,g35.trans g8,by omega⟩⟩
    ·rintro c' s ⟨T,S,H5,lim3,al3,c3,m3,ws3,rfl,t1,t3,t4,t5,t6,t7,t8,s0,hp⟩
     obtain ⟨hbd,hws,u5,g35,hlim3⟩:=hp
     have l5:isLoc (.slice al3 c3 m3)=false:=hbd.isLoc _ _
     have hle:((nH:Int)≤lv)=False:=by simp; omega
     simp (maxDischargeDepth:=8) only [↓SD,SU,SV,SW,simprocAttr,Int.cast_ofNat_Int,small,resV, q93x0,t1,t3,t4,t5,t6,t7,t8,s0, s0,hle,l1,l2,l3,l5,hwk]
     exact ihM _ ⟨_,_,_,_,_,_,_,_,rfl,by simp [get_set,t1],by simp [get_set,t3],by simp [get_set,t4],by simp [get_set,t5],by simp [get_set,t6],by simp [get_set,t7],by simp [sget_sset,s0],hbd,by rw [stepK_succ hq]; exact hws,u5,g35,by omega⟩
   ·rintro c' s ⟨T,S,H4,lim2,al,c,m2,ws,rfl,t1,t3,t4,t5,t6,t7,s0,hp⟩
    obtain ⟨hbd,hws,u4,g34,hlim2⟩:=hp
    have l4:isLoc (.slice al c m2)=false:=hbd.isLoc _ _
    simp (maxDischargeDepth:=8) only [↓SD,SU,SV,SW,simprocAttr,Int.cast_ofNat_Int,small,resV, q93x1,t1,t3,t4,t5,t6,t7,s0,lt_nat,Nat.lt_irrefl,l1,l2,l3,l4,hw1]
    exact ihO _ ⟨_,_,_,_,al,c,m2,ws,rfl,by simp [get_set,t1],by simp [get_set,t6],by simp [get_set,t4],by simp [sget_sset,s0],hbd.sl encV_len (by decide),by rw [hps,←hsK,←hll]; exact hws,u4,by omega⟩
 ·rintro c' s ⟨T,S,H3,lim,a,l,m,vs,rfl,t1,t3,t4,s0,hp⟩
  obtain ⟨hsl3,hv3,u3,hlim⟩:=hp
  have l3:=hsl3.isLoc m
  simp (maxDischargeDepth:=8) only [↓SD,SU,SV,SW,simprocAttr,Int.cast_ofNat_Int,small,resV, q93x2,t1,t3,t4,s0,lt_nat,Nat.lt_irrefl,l1,l2,l3,R93,N93]
  rw [yes_some]
  rw [hpl]
  exact gc_v hsl3 hv3 u3 (by omega)
end Go.Pi.L.Ben
set_option maxRecDepth 100000
namespace Go.Pi.L.Ben
open Go Go.Pi Go.Pi.L Go.Pi.E Go.Pi.Ben BM

set_option maxHeartbeats 1000000 in
theorem c52 {H:Heap}{r:BeR}{b:Bench}(hb:BeOk H r b)(hd:SmB r)(hf:Fine b) :
  ∀H',Grow H H'→Fam H'→Yes (R (.func 52) [.agg #[.int .i64 r.app,.slice r.ba r.bl r.bk,.slice r.sa r.sl r.sk]] H') (QV H' (bests b)):=by
 intro H' hg hF
 replace hb:=hb.grow hg
 clear hg
 refine run_y (pr 52) P52 (by simp [p52]) rfl ?_
 have l1:=hb.br.isLoc r.bk
 have l2:=hb.st.isLoc r.sk
 have hpl:=plans_len hf
 obtain ⟨o,ho,a,m,H1,lo1,vs,rfl,u1,hlo1,s1,v1⟩:=c93 hb hf H' (Grow.refl _)
 have hF1:Fam H1:=famR ho hF
 have l3:=s1.isLoc m
 have hlo1':H'.length≤lo1:=hlo1
 obtain ⟨N,hN⟩:∃N,(plans b).length=N:=⟨_,rfl⟩
 rw [hN] at ho s1 l3
 simp (maxDischargeDepth:=8) only [↓SD,SU,SV,SW,simprocAttr,Int.cast_ofNat_Int,small,resV, B52,R52,N52,b52, l1,l2,l3,ho]
 refine loop_ind (G:=(Yes · (QV H' (bests b)))) (fun j σ=>∃T S H3 lim al c m2 ws,σ=⟨T,S,[],H3,lim,41,false⟩∧get T 1=.pointer (some ⟨1,0,some 1⟩)∧get T 3=.slice a N m∧get T 4=.slice al c m2∧get T 5=.int .i64 (minT (tk b) ((plans b).take j))∧get T 6=.int .i64 (j:Nat)∧sget S 1=(1,.cells [.int .i64 r.app,.slice r.ba r.bl r.bk,.slice r.sa r.sl r.sk])∧(Bld H'.length H3 1 al c m2 (cells encV ws)∧Vs H3 ws (bestOf (tk b) ((plans b).take j))∧Up H' H3∧Grow H1 H3∧Fam H3∧H'.length≤lim)) (N) ?_ ?_ 0 _ (Nat.zero_le _) ⟨_,_,_,_,_,_,_,_,rfl,rfl,rfl,rfl,rfl,rfl,rfl,⟨Bld.nil _ _ _,Vs.nil _,u1,Grow.refl _,hF1,by omega⟩⟩
 ·rintro c' j s hj ⟨T,S,H3,lim,al,c,m2,ws,rfl,t1,t3,t4,t5,t6,s0,hp⟩ ih
  obtain ⟨hbd,hws,u3,g13,hF3,hlim⟩:=hp
  have l5:isLoc (.slice al c m2)=false:=hbd.isLoc _ _
  obtain ⟨q,hq⟩:∃q,(plans b)[j]?=some q:=⟨_,List.getElem?_eq_getElem (by omega)⟩
  have hqm:=List.mem_of_getElem? hq
  have hql:=plan_pos hf hqm
  obtain ⟨vb,vo,v,hva,hvk,fv⟩:=s1.at encV_len (by decide) hj
  have hqv:=v1.inn j v q hvk hq
  have iav:vv (.ia 1) [.slice a N m,.int .i64 (j:Nat)]=some (.pointer (some ⟨vb,vo+j*1,none⟩)):=by rw [hva]; exact vv_iaN 1 vb vo j _ _ _ hj
  have lv':=hqv.isLoc v.2.2
  have fv1:=At.v0 fv H3 g13
  have k53:=c53 (kk:=v.2.2) (hb.grow u3.grow) hd (hqv.grow g13) hf hql H3 (Grow.refl _) hF3
  rw [show takesN b (en b q true)=tk b q from tk_eq b q] at k53
  have hwj:=wrap_succ j (by omega)
  have htk:=take_get hq
  have hcl:c=(bestOf (tk b) ((plans b).take j)).length:=by rw [←hws.len]; exact (hbd.sl encV_len (by decide)).len.symm
  have hcb:c≤4096:=by
   have h1:(bestOf (tk b) ((plans b).take j)).length≤((plans b).take j).length:=List.length_filter_le _ _
   rw [List.length_take] at h1
   omega
  have ul:=u3.len
  obtain ⟨H6,p1,p2,p3,p4⟩:=(Bld.nil H'.length H3 1).appF hF3 (by decide) (by decide) (by omega) ul [.slice v.1 v.2.1 v.2.2] rfl
  have u6:=p3.up (Bld.nil H'.length H3 1) u3 (Nat.le_refl _)
  obtain ⟨H7,q1,q2,q3,q4⟩:=hbd.appF hF3 (by decide) (by decide) (by omega) ul [.slice v.1 v.2.1 v.2.2] rfl
  have u7:=q3.up hbd u3 (Nat.le_refl _)
  by_cases hj0:j=0
  ·have z:((j:Int)=0)=True:=by simp [hj0]
   have hnew:minT (tk b) ((plans b).take (j+1))=tk b q:=by rw [htk,hj0]; rfl
   have hnb:bestOf (tk b) ((plans b).take (j+1))=[q]:=by rw [htk,hj0]; exact bestOf_one _ _
   simp (maxDischargeDepth:=8) only [↓SD,SU,SV,SW,simprocAttr,Int.cast_ofNat_Int,small,resV, q52x0,t1,t3,t4,t5,t6,s0, s0,lt_nat,hj,l1,l2,l3,l5,lv',iav,fv1,k53,z,p1,hwj]
   exact ih _ ⟨_,_,(H6),(_),(some ⟨H3.length,0,none⟩),(0+1),(1),([v]),rfl,(by simp [get_set,t1] <;> omega),(by simp [get_set,t3] <;> omega),(by simp [get_set,t4] <;> omega),(by simp [get_set,t5] <;> omega),(by simp [get_set,t6] <;> omega),by simp [sget_sset,s0],⟨p2,by rw [hnb]; exact (Vs.nil H6).snoc (hqv.grow (g13.trans p3.grow)),u6,g13.trans p3.grow,p4,by omega⟩⟩
  ·have z:((j:Int)=0)=False:=by simp [hj0]
   have hne:(plans b).take j≠[]:=by
    intro e
    have:=congrArg List.length e
    rw [List.length_take,List.length_nil] at this
    omega
   have hms:=minT_snoc (tk b) hne q
   have hbs:=bestOf_snoc (tk b) hne q
   rw [←htk] at hms hbs
   by_cases h1:tk b q < minT (tk b) ((plans b).take j)
   ·rw [if_pos h1] at hbs
    have hnew:minT (tk b) ((plans b).take (j+1))=tk b q:=by rw [hms]; omega
    simp (maxDischargeDepth:=8) only [↓SD,SU,SV,SW,simprocAttr,Int.cast_ofNat_Int,small,resV, q52x0,t1,t3,t4,t5,t6,s0, s0,lt_nat,hj,l1,l2,l3,l5,lv',iav,fv1,k53,z,h1,p1,hwj]
    exact ih _ ⟨_,_,(H6),(_),(some ⟨H3.length,0,none⟩),(0+1),(1),([v]),rfl,(by simp [get_set,t1] <;> omega),(by simp [get_set,t3] <;> omega),(by simp [get_set,t4] <;> omega),(by simp [get_set,t5] <;> omega),(by simp [get_set,t6] <;> omega),by simp [sget_sset,s0],⟨p2,by rw [hbs]; exact (Vs.nil H6).snoc (hqv.grow (g13.trans p3.grow)),u6,g13.trans p3.grow,p4,by omega⟩⟩
   ·rw [if_neg h1] at hbs
    have hnew:minT (tk b) ((plans b).take (j+1))=minT (tk b) ((plans b).take j):=by rw [hms]; omega
    by_cases h2:tk b q=minT (tk b) ((plans b).take j)
    ·rw [if_pos h2] at hbs
     simp (maxDischargeDepth:=8) only [↓SD,SU,SV,SW,simprocAttr,Int.cast_ofNat_Int,small,resV, q52x0,t1,t3,t4,t5,t6,s0, s0,lt_nat,hj,l1,l2,l3,l5,lv',iav,fv1,k53,z,h2,Int.lt_irrefl,q1,hwj]
     exact ih _ ⟨_,_,(H7),(_),(some ⟨H3.length,0,none⟩),(c+1),(1),(ws++[v]),rfl,(by simp [get_set,t1] <;> omega),(by simp [get_set,t3] <;> omega),(by simp [get_set,t4] <;> omega),(by simp [get_set,t5] <;> omega),(by simp [get_set,t6] <;> omega),by simp [sget_sset,s0],⟨by rw [cells_app]; exact q2,by rw [hbs]; exact (hws.grow q3.grow).snoc (hqv.grow (g13.trans q3.grow)),u7,g13.trans q3.grow,q4,by omega⟩⟩
    ·rw [if_neg h2] at hbs
     simp (maxDischargeDepth:=8) only [↓SD,SU,SV,SW,simprocAttr,Int.cast_ofNat_Int,small,resV, q52x0,t1,t3,t4,t5,t6,s0, s0,lt_nat,hj,l1,l2,l3,l5,lv',iav,fv1,k53,z,h1,h2,hwj]
     exact ih _ ⟨_,_,(H3),(_),(al),(c),(m2),(ws),rfl,(by simp [get_set,t1] <;> omega),(by simp [get_set,t3] <;> omega),(by simp [get_set,t4] <;> omega),(by simp [get_set,t5] <;> omega),(by simp [get_set,t6] <;> omega),by simp [sget_sset,s0],⟨hbd,by rw [hbs]; exact hws,u3,g13,hF3,by omega⟩⟩
 ·rintro c' s ⟨T,S,H3,lim,al,c,m2,ws,rfl,t1,t3,t4,t5,t6,s0,hp⟩
  obtain ⟨hbd,hws,u3,g13,hF3,hlim⟩:=hp
  have l5:isLoc (.slice al c m2)=false:=hbd.isLoc _ _
  rw [←hN,List.take_length] at hws
  simp (maxDischargeDepth:=8) only [↓SD,SU,SV,SW,simprocAttr,Int.cast_ofNat_Int,small,resV, q52x0,t1,t3,t4,t5,t6,s0, s0,lt_nat,Nat.lt_irrefl,l1,l2,l3,l5,R52,N52]
  rw [yes_some]
  exact gc_v (hbd.sl encV_len (by decide)) hws u3 (by omega)
end Go.Pi.L.Ben
