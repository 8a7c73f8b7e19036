/- Benches: increasing lists, as the document has them. -/
import Derived.Test.YtfndfpbdgjoilaaGreatDoorDM
import Derived.Test.YtfndfpbdgjoilaaGreatDoorDI
set_option linter.all false
set_option maxRecDepth 100000
namespace Go.Pi.L
open Go Go.Pi
section
variable {α:Type} {call:CallT} {F:Ex→St→Option α} {k:List It}
theorem apA_emp2 (p l kk d T S D H lo n rnd)(hl:l < 1000000):ap1 call F (some []) (.slice (some ⟨p,0,none⟩) l kk) kk d k ⟨T,S,D,H,lo,n,rnd⟩=nxt call F (some (.slice (some ⟨p,0,none⟩) l kk)) d k ⟨T,S,D,H,lo,n,rnd⟩:=by
 have hop:appB ⟨T,S,D,H,lo,n,rnd⟩ kk [] (some ⟨p,0,none⟩) l kk d=putO ⟨T,S,D,H,lo,n,rnd⟩ d (.slice (some ⟨p,0,none⟩) l kk):=by
  unfold appB
  rw [if_neg (by simp [isLoc]),if_neg (by simp [small]; omega),if_pos (by simp)]
 simp only [ap1,hop]
 exact go_putO
end
end Go.Pi.L
namespace Go.Pi.L.Ben
open Go Go.Pi Go.Pi.L Go.Pi.E Go.Pi.Ben BM

theorem consL {H Hb:Heap}{q:List Int}(i:Int)(hH:H++[(⟨.cells [.int .i64 i],true,true,some H.length⟩:Blk)]=Hb)(hl:q.length < 100) :
  ∃(H2:Heap) (bn:Nat),(∀{α:Type} (call:CallT) (F:Ex→St→Option α) d kk T S D lo n rnd,ap1 call F (some (cells encI q)) (.slice (some ⟨H.length,0,none⟩) 1 1) 1 d kk ⟨T,S,D,Hb,lo,n,rnd⟩=nxt call F (some (.slice (some ⟨bn,0,none⟩) (q.length+1) 1)) d kk ⟨T,S,D,H2,lo,n,rnd⟩) ∧
   Up H H2∧Ints H2 (some ⟨bn,0,none⟩) (q.length+1) (i :: q):=by
 subst hH
 have hcl:(cells encI q).length=q.length:=by rw [cells_len encI_len,Nat.mul_one]
 by_cases h0:q=[]
 ·subst h0
  refine ⟨_,H.length,fun call F d kk T S D lo n rnd=>apA_emp2 _ _ _ _ _ _ _ _ _ _ _ (by decide),(Up.refl H).app,?_⟩
  exact Sl.of_cells (xs:=[i]) (fun _=>rfl) (by simp [hcells,cells,encI])
 ·have hne:(cells encI q).isEmpty=false:=by
   cases q with
   | nil=>exact absurd rfl h0
   | cons x q=>rfl
  refine ⟨(H++[(⟨.cells [.int .i64 i],true,true,some H.length⟩:Blk)]).set H.length ⟨.cells [.int .i64 i],true,false,some H.length⟩++[⟨.cells ([.int .i64 i]++cells encI q),true,true,some H.length⟩],H.length+1,fun call F d kk T S D lo n rnd=>?_,((Up.refl H).app.set (Nat.le_refl _)).app,?_⟩
  ·rw [apA_tip]
   simp only [app_get]
   rw [apB_ok _ _ _ _ _ _ _ _ _ _ _ _ _ _ (Nat.mod_one _) (by omega) hne (by decide) (by simp)]
   simp only [hcl,Nat.div_one,List.length_append,List.length_singleton,Nat.add_comm 1 q.length]
  ·have hl1:(i :: q).length=q.length+1:=by simp
   rw [←hl1]
   refine Sl.of_cells (fun _=>rfl) ?_
   have e:cells encI (i :: q)=[.int .i64 i]++cells encI q:=by simp [cells,encI]
   rw [e]
   simp [hcells]
def rl (m i d:Nat):List (List Nat):=[] :: (List.range d).flatMap fun d'=>(rising (m - d' - 1) (i+d'+1)).map ((i+d') :: ·)
theorem rl_all (m i:Nat):rl m i m=rising m i:=by
 cases m with
 | zero=>simp [rl,rising]
 | succ m =>
  unfold rl
  simp only [rising]
  congr 2
  funext d
  rw [show m+1 - d - 1=m - d by omega]
theorem rl_succ (m i d:Nat):rl m i (d+1)=rl m i d++(rising (m - d - 1) (i+d+1)).map ((i+d) :: ·):=by
 unfold rl
 rw [List.range_succ,List.flatMap_append,List.flatMap_cons,List.flatMap_nil,List.append_nil,List.cons_append]
theorem rl_le (m i d:Nat):∀e,∃l0,rl m i (d+e)=rl m i d++l0
 | 0=>⟨[],by simp⟩
 | e+1=>by
  obtain ⟨l0,hl⟩:=rl_le m i d e
  exact ⟨l0++_,by rw [←Nat.add_assoc,rl_succ,hl,List.append_assoc]⟩
theorem rising_len:∀m i:Nat,(rising m i).length≤2 ^ m∧∀q∈rising m i,q.length≤m
 | 0,i=>by simp [rising]
 | m+1,i=>by
  have key:∀d,d≤m+1→((List.range d).flatMap fun d'=>(rising (m - d') (i+d'+1)).map ((i+d') :: ·)).length+2 ^ (m+1 - d)≤2 ^ (m+1):=by
   intro d
   induction d with
   | zero=>intro _; simp
   | succ d ih =>
    intro hd
    have h1:=ih (by omega)
    have h2:=(rising_len (m - d) (i+d+1)).1
    rw [List.range_succ,List.flatMap_append,List.length_append]
    simp only [List.flatMap_cons,List.flatMap_nil,List.append_nil,List.length_map]
    have e1:m+1 - d=(m - d)+1:=by omega
    have e2:m+1 - (d+1)=m - d:=by omega
    rw [e1,Nat.pow_succ] at h1
    rw [e2]
    omega
  refine ⟨?_,fun q hq=>?_⟩
  ·have:=key (m+1) (Nat.le_refl _)
   simp only [rising,List.length_cons]
   rw [Nat.sub_self,Nat.pow_zero] at this
   exact this
  ·simp only [rising,List.mem_cons,List.mem_flatMap,List.mem_map,List.mem_range] at hq
   rcases hq with rfl | ⟨d,hd,t,ht,rfl⟩
   ·simp
   ·have:=(rising_len (m - d) (i+d+1)).2 t ht
    simp only [List.length_cons]; omega
termination_by m=>m
theorem castL_cons (k:Nat)(q:List Nat):castL (k :: q)=(k:Int) :: castL q:=rfl
set_option maxHeartbeats 4000000 in
theorem c89:∀(m i:Nat),i+m≤6→∀H',Yes (R (.func 89) [.int .i64 (i:Nat),.int .i64 ((i+m:Nat):Int)] H') (QV H' ((rising m i).map castL)):=by
 intro m
 induction m using Nat.strongRecOn with
 | ind m IH =>
 intro i hi H'
 refine run_y (pr 89) P89 (by simp [p89]) rfl ?_
 obtain ⟨Ha,hHa⟩:∃Ha,H'++[(⟨.cells [.slice none 0 0],true,true,some H'.length⟩:Blk)]=Ha:=⟨_,rfl⟩
 have la:Ha.length=H'.length+1:=by rw [←hHa]; simp
 have bda:Bld H'.length Ha 1 (some ⟨H'.length,0,none⟩) 1 1 (cells encV [(none,0,0)]):=⟨rfl,.inr ⟨H'.length,H'.length,rfl,rfl,Nat.le_refl _,Nat.le_refl _,by rw [←hHa]; simp [cells,encV]⟩⟩
 have va:Vs Ha [(none,0,0)] ((rl m i 0).map castL):=(Vs.nil Ha).snoc (v:=(none,0,0)) Sl.none
 have ua:Up H' Ha:=by rw [←hHa]; exact (Up.refl _).app
 simp (maxDischargeDepth:=8) only [↓SD,SU,SV,SW,simprocAttr,Int.cast_ofNat_Int,small,resV, B89,R89,N89,b89, hHa]
 refine loop_ind (G:=(Yes · (QV H' ((rising m i).map castL)))) (fun j σ=>∃T S H3 lim al c m2 ws,σ=⟨T,S,[],H3,lim,37,false⟩∧get T 1=.int .i64 ((i+m:Nat):Int)∧get T 5=.slice al c m2∧get T 6=.int .i64 ((i+j:Nat):Int)∧(Bld H'.length H3 1 al c m2 (cells encV ws)∧Vs H3 ws ((rl m i j).map castL)∧Up H' H3∧H'.length≤lim)) (m) ?_ ?_ 0 _ (Nat.zero_le _) ⟨_,_,_,_,_,_,_,_,rfl,rfl,rfl,rfl,⟨bda,va,ua,by omega⟩⟩
 ·rintro c' j s hj ⟨T,S,H3,lim,al,c,m2,ws,rfl,t1,t5,t6,hp⟩ ih
  obtain ⟨hbd,hws,u3,hlim⟩:=hp
  have ihO:=ih
  clear ih
  obtain ⟨d,rfl⟩:∃d,d=j:=⟨j,rfl⟩
  have hd:=hj
  have z1:(((i+d:Nat):Int) < ((i+m:Nat):Int))=True:=by simp; omega
  have hw1:=wrap_succ (i+d) (by omega)
  have hsum:i+d+1+(m - d - 1)=i+m:=by omega
  obtain ⟨o,ho,a4,m4,H4,lo4,vs,rfl,u4,hlo4,s4,v4⟩:=IH (m - d - 1) (by omega) (i+d+1) (by omega) H3
  rw [hsum] at ho
  have hlo4':H3.length≤lo4:=hlo4
  have hn3:=u3.len
  have bd4:=hbd.up u4
  have ws4:=hws.grow u4.grow
  obtain ⟨Lr,hLr⟩:∃Lr,rising (m - d - 1) (i+d+1)=Lr:=⟨_,rfl⟩
  obtain ⟨hr1,hr2⟩:=rising_len (m - d - 1) (i+d+1)
  have hrs:=rl_succ m i d
  rw [hLr] at ho s4 v4 hr1 hr2 hrs
  rw [List.length_map] at ho s4
  have hp2:2 ^ (m - d - 1)≤2 ^ 6:=Nat.pow_le_pow_right (by decide) (by omega)
  have hRl:(rl m i d).length≤64:=by
   obtain ⟨l0,hl0⟩:=rl_le m i d (m - d)
   rw [show d+(m - d)=m by omega] at hl0
   have:=(rising_len m i).1
   rw [←rl_all,hl0,List.length_append] at this
   have:2 ^ m≤2 ^ 6:=Nat.pow_le_pow_right (by decide) (by omega)
   omega
  have l4:isLoc (.slice al c m2)=false:=hbd.isLoc _ _
  have l5:=s4.isLoc m4
  have hn4:=u4.len
  simp (maxDischargeDepth:=8) only [↓SD,SU,SV,SW,simprocAttr,Int.cast_ofNat_Int,small,resV, q89x1,t1,t5,t6, z1,l4,l5,hw1,ho]
  refine loop_ind (G:=(Yes · (QV H' ((rising m i).map castL)))) (fun j σ=>∃T S H5 lim2 al3 c3 m3 ws3,σ=⟨T,S,[],H5,lim2,37,false⟩∧get T 1=.int .i64 ((i+m:Nat):Int)∧get T 5=.slice al3 c3 m3∧get T 6=.int .i64 ((i+d:Nat):Int)∧get T 7=.slice a4 Lr.length m4∧get T 8=.int .i64 (j:Nat)∧(Bld H'.length H5 1 al3 c3 m3 (cells encV ws3)∧Vs H5 ws3 ((rl m i d++(Lr.take j).map ((i+d) :: ·)).map castL)∧Up H' H5∧Grow H4 H5∧H'.length≤lim2)) (Lr.length) ?_ ?_ 0 _ (Nat.zero_le _) ⟨_,_,_,_,_,_,_,_,rfl,(by first | rfl | simp [get_set,t1,t5,t6]),(by first | rfl | simp [get_set,t1,t5,t6]),(by first | rfl | simp [get_set,t1,t5,t6]),(by first | rfl | simp [get_set,t1,t5,t6]),(by first | rfl | simp [get_set,t1,t5,t6]),⟨bd4,by simpa using ws4,u3.trans u4,Grow.refl _,by omega⟩⟩
  ·rintro c' j s hj ⟨T,S,H5,lim2,al3,c3,m3,ws3,rfl,t1,t5,t6,t7,t8,hp⟩ ih
   obtain ⟨hbd,hws,u5,g45,hlim2⟩:=hp
   obtain ⟨q,hq⟩:∃q,Lr[j]?=some q:=⟨_,List.getElem?_eq_getElem hj⟩
   have hql:=hr2 q (List.mem_of_getElem? hq)
   have hcq:(castL q).length=q.length:=by simp [castL]
   obtain ⟨vb,vo,v,hva,hvk,fv⟩:=s4.at encV_len (by decide) hj
   have hqv:=v4.inn j v (castL q) hvk (by rw [List.getElem?_map,hq]; rfl)
   have iav:vv (.ia 1) [.slice a4 Lr.length m4,.int .i64 (j:Nat)]=some (.pointer (some ⟨vb,vo+j*1,none⟩)):=by rw [hva]; exact vv_iaN 1 vb vo j _ _ _ hj
   have lv':=hqv.isLoc v.2.2
   have fv1:=At.v0 fv (H5++[(⟨.cells [.int .i64 ((i+d:Nat):Int)],true,true,some H5.length⟩:Blk)]) (g45.trans (Up.refl _).app.grow)
   have l6:isLoc (.slice al3 c3 m3)=false:=hbd.isLoc _ _
   obtain ⟨Hb,hHb⟩:∃Hb,H5++[(⟨.cells [.int .i64 ((i+d:Nat):Int)],true,true,some H5.length⟩:Blk)]=Hb:=⟨_,rfl⟩
   have gb:Grow H5 Hb:=by rw [←hHb]; exact (Up.refl _).app.grow
   rw [hHb] at fv1
   have qe:=fun T S D lo n rnd=>(hqv.grow (g45.trans gb)).elems encI_len (by decide) v.2.2 T S D lo n rnd
   obtain ⟨H7,bn,p2,u7,s7⟩:=consL (q:=castL q) ((i+d:Nat):Int) hHb (by omega)
   have hc3:c3=((rl m i d++(Lr.take j).map ((i+d) :: ·)).map castL).length:=by rw [←hws.len]; exact (hbd.sl encV_len (by decide)).len.symm
   have hc3b:c3 < 1000000:=by
    rw [hc3,List.length_map,List.length_append,List.length_map,List.length_take]; omega
   have hl5:=u5.len
   have hl7:=u7.len
   obtain ⟨H8,p3,p4,p5,p6⟩:=(hbd.up u7).app (by decide) (by decide) hc3b (by omega) [.slice (some ⟨bn,0,none⟩) ((castL q).length+1) 1] rfl
   have u8:=p5.up (hbd.up u7) (u5.trans u7) (Nat.le_refl _)
   have g8:Grow H5 H8:=u7.grow.trans p5.grow
   have hwj:=wrap_succ j (by omega)
   have hn:(rl m i d++(Lr.take (j+1)).map ((i+d) :: ·)).map castL=(rl m i d++(Lr.take j).map ((i+d) :: ·)).map castL++[((i+d:Nat):Int) :: castL q]:=by
    rw [take_get hq]; simp [castL_cons]
   simp (maxDischargeDepth:=8) only [↓SD,SU,SV,SW,simprocAttr,Int.cast_ofNat_Int,small,resV, q89x0,t1,t5,t6,t7,t8, lt_nat,hj,l5,l6,lv',hHb,iav,fv1,qe,p2,p3,hwj]
   exact ih _ ⟨_,_,(H8),(_),(some ⟨H7.length,0,none⟩),(c3+1),(1),(ws3++[(some ⟨bn,0,none⟩,(castL q).length+1,1)]),rfl,(by simp [get_set,t1] <;> omega),(by simp [get_set,t5] <;> omega),(by simp [get_set,t6] <;> omega),(by simp [get_set,t7] <;> omega),(by simp [get_set,t8] <;> omega),⟨by rw [cells_app]; exact p4,by rw [hn]; exact (hws.grow g8).snoc (s7.grow p5.grow),u8,g45.trans g8,by omega⟩⟩
  ·rintro c' s ⟨T,S,H5,lim2,al3,c3,m3,ws3,rfl,t1,t5,t6,t7,t8,hp⟩
   obtain ⟨hbd,hws,u5,g45,hlim2⟩:=hp
   have l6:isLoc (.slice al3 c3 m3)=false:=hbd.isLoc _ _
   rw [List.take_length,←hrs] at hws
   simp (maxDischargeDepth:=8) only [↓SD,SU,SV,SW,simprocAttr,Int.cast_ofNat_Int,small,resV, q89x0,t1,t5,t6,t7,t8, lt_nat,Nat.lt_irrefl,l5,l6,hw1]
   exact ihO _ ⟨_,_,_,_,al3,c3,m3,ws3,rfl,by simp [get_set,t1],by simp [get_set,t5],by simp [get_set,t6]; omega,hbd,hws,u5,by omega⟩
 ·rintro c' s ⟨T,S,H3,lim,al,c,m2,ws,rfl,t1,t5,t6,hp⟩
  obtain ⟨hbd,hws,u3,hlim⟩:=hp
  have l4:isLoc (.slice al c m2)=false:=hbd.isLoc _ _
  have z1:(((i+m:Nat):Int) < ((i+m:Nat):Int))=False:=by simp
  rw [rl_all] at hws
  simp (maxDischargeDepth:=8) only [↓SD,SU,SV,SW,simprocAttr,Int.cast_ofNat_Int,small,resV, q89x1,t1,t5,t6,z1,l4,R89,N89]
  rw [yes_some]
  exact gc_v (hbd.sl encV_len (by decide)) hws u3 (by omega)
end Go.Pi.L.Ben
set_option maxRecDepth 100000
namespace Go.Pi.L.Ben
open Go Go.Pi Go.Pi.L Go.Pi.E Go.Pi.Ben BM

abbrev dW (b:Bench):Nat→Int:=durW b (-1) 0 true
theorem okI_okC {b:Bench}{p:List Int}{all:Int}:∀(q:List Nat) (a:Int) (prev:Option Nat),q.Pairwise (· < ·)→(∀x∈q,x < b.strokes.length)→(∀k,prev=some k→∀x∈q,k < x) →
  okI b p all a (prev.map fun k:Nat=>(k:Int)) (castL q)=okC (follows b p) (dW b) all a prev q
 | [],a,prev,_,_,_=>rfl
 | x :: q,a,prev,hp,hl,hk=>by
  obtain ⟨h1,h2⟩:=List.pairwise_cons.1 hp
  have ih:=okI_okC (b:=b) (p:=p) (all:=all) q (en b p true x) (some x) h2 (fun y hy=>hl y (List.mem_cons_of_mem _ hy)) (fun k e y hy=>by cases e; exact h1 y hy)
  have hS:isStroke b ((x:Nat):Int)=true:=by
   have:=hl x (List.mem_cons_self ..)
   unfold isStroke; rw [inL_iff]; omega
  rw [castL_cons]
  simp only [okI,okC,hS,Bool.true_and,Int.toNat_natCast]
  rw [show (some (x:Int))=Option.map (fun k:Nat=>(k:Int)) (some x) from rfl,ih]
  cases prev with
  | none =>
   show (decide (be b p true x=a)&&(true&&_))=((decide (be b p true x=a)&&true)&&_)
   rw [Bool.true_and,Bool.and_true]; rfl
  | some k =>
   have hkx:=hk k rfl x (List.mem_cons_self ..)
   have e:fol b p ((k:Nat):Int).toNat x=follows b p k x:=by simp [fol,hkx]
   show (decide (be b p true x=a)&&(fol b p ((k:Nat):Int).toNat x&&_))=((decide (be b p true x=a)&&follows b p k x)&&_)
   rw [e,←Bool.and_assoc]; rfl
theorem chI_chained {b:Bench}{p:List Int}(hlen:p.length=b.strokes.length){q:List Nat}(hq:q∈rising b.strokes.length 0):chI b p (castL q)=chained (follows b p) (dW b) (takesN b (en b p true)) q:=by
 have hl:=(rising_len b.strokes.length 0).2 q hq
 obtain ⟨h1,h2⟩:=mem_rising.1 hq
 unfold chI chained
 have e:(castL q).length=q.length:=by simp [castL]
 rw [e,show decide (q.length≤p.length)=true from decide_eq_true (by omega),Bool.true_and]
 have:=okI_okC (b:=b) (p:=p) (all:=takesN b (en b p true)) q 0 none h1 (fun x hx=>by have:=h2 x hx; omega) (fun k h=>by cases h)
 rw [show (none:Option Int)=Option.map (fun k:Nat=>(k:Int)) none from rfl,this]
 cases q <;> simp
theorem chain_ex {b:Bench}(hf:Fine b)(p:List Int):∃t,chainN (follows b p) (dW b) (takesN b (en b p true)) b.strokes.length=some t∧chained (follows b p) (dW b) (takesN b (en b p true)) t=true∧t∈rising b.strokes.length 0:=by
 refine chain_some hf.n1 (fun n=>(durW_b hf (by decide) (by decide) true n).1) ?_
 obtain ⟨_,_,h3⟩:=lastH_spec ((List.range b.strokes.length).map (en b p true))
 have h1:=tk_pos hf p
 unfold takesN at h1 ⊢
 rcases h3 with h3 | h3
 ·omega
 ·obtain ⟨n,hn,e⟩:=List.mem_map.1 h3
  exact ⟨n,List.mem_range.1 hn,e⟩
theorem find_idx {α:Type}{pr:α→Bool}:∀{L:List α} {t:α},L.find? pr=some t→∃k:Nat,L[k]?=some t∧pr t=true∧∀j:Nat,j < k→∀x,L[j]?=some x→pr x=false
 | [],t,h=>by simp at h
 | y :: L,t,h=>by
  rw [List.find?_cons] at h
  cases hy:pr y with
  | true=>rw [hy] at h; cases h; exact ⟨0,rfl,hy,fun j hj=>by omega⟩
  | false =>
   rw [hy] at h
   obtain ⟨k,h1,h2,h3⟩:=find_idx h
   refine ⟨k+1,h1,h2,fun j hj x hx=>?_⟩
   cases j with
   | zero=>simp at hx; subst hx; exact hy
   | succ j=>exact h3 j (by omega) x (by simpa using hx)
set_option maxHeartbeats 1000000 in
theorem c43 {H:Heap}{r:BeR}{b:Bench}{a:Option Addr}{l kk:Nat}{p:List Int}{t:List Nat}(hb:BeOk H r b)(hd:SmB r)(hx:Ints H a l p)(hf:Fine b)(hlen:p.length=b.strokes.length)
  (ht:chainN (follows b p) (dW b) (takesN b (en b p true)) b.strokes.length=some t) :
  ∀H',Grow H H'→Fam H'→Yes (R (.func 43) [.agg #[.int .i64 r.app,.slice r.ba r.bl r.bk,.slice r.sa r.sl r.sk],.slice a l kk] H') (QS H' 1 encI (castL t)):=by
 intro H' hg hF
 refine run_y (pr 43) P43 (by simp [p43]) rfl ?_
 have l1:=hb.br.isLoc r.bk
 have l2:=hb.st.isLoc r.sk
 have l3:=hx.isLoc kk
 have n6:=hf.n6
 have hlb:b.strokes.length=l:=by rw [←hlen]; exact hx.len
 obtain ⟨o,ho,a2,m2,H1,lo1,vs,rfl,u1,hlo1,s1,v1⟩:=c89 l 0 (by omega) H'
 have hlo1':H'.length≤lo1:=hlo1
 rw [Nat.zero_add] at ho
 replace ho:R (.func 89) [.int .i64 0,.int .i64 (l:Nat)] H'=_:=ho
 have hF1:Fam H1:=famR ho hF
 rw [chain_eq hf.n1] at ht
 obtain ⟨kx,t1',t2',t3'⟩:=find_idx ht
 rw [hlb] at t1' t3'
 have hkl:=(List.getElem?_eq_some_iff.1 t1').1
 rw [List.length_map] at ho s1
 have l4:=s1.isLoc m2
 have hgr:=hg.trans u1.grow
 have hn1:=u1.len
 have hr64:(rising l 0).length≤64:=by
  have h1:=(rising_len l 0).1
  have h2:2 ^ l≤2 ^ 6:=Nat.pow_le_pow_right (by decide) (by omega)
  omega
 have each:∀j q,(rising l 0)[j]?=some q→∃(vb vo:Nat) (v:Option Addr×Nat×Nat),vv (.ia 1) [.slice a2 (rising l 0).length m2,.int .i64 (j:Nat)]=some (.pointer (some ⟨vb,vo+j*1,none⟩))∧rdO (hcells H1 vb) (vo+j*1) none=some (.slice v.1 v.2.1 v.2.2)∧Ints H1 v.1 v.2.1 (castL q)∧R (.func 46) [.agg #[.int .i64 r.app,.slice r.ba r.bl r.bk,.slice r.sa r.sl r.sk],.slice a l kk,.slice v.1 v.2.1 v.2.2] H1=some ⟨.ok (.bool (chained (follows b p) (dW b) (takesN b (en b p true)) q)),H1,H1.length⟩:=fun j q hq=>by
  have hj:=(List.getElem?_eq_some_iff.1 hq).1
  obtain ⟨vb,vo,v,hva,hvk,fv⟩:=s1.at encV_len (by decide) hj
  have hqv:=v1.inn j v (castL q) hvk (by rw [List.getElem?_map,hq]; rfl)
  have k46:=c46 (kk:=kk) (kk2:=v.2.2) (hb.grow hgr) hd (hx.grow hgr) hf hlen hqv H1 (Grow.refl _) hF1
  rw [chI_chained hlen (by rw [hlb]; exact List.mem_of_getElem? hq)] at k46
  exact ⟨vb,vo,v,by rw [hva]; exact vv_iaN 1 vb vo j _ _ _ hj,At.v0 fv H1 (Grow.refl _),hqv,k46⟩
 simp (maxDischargeDepth:=8) only [↓SD,SU,SV,SW,simprocAttr,Int.cast_ofNat_Int,small,resV, B43,R43,N43,b43, l1,l2,l3,l4,ho]
 refine loop_ind (G:=(Yes · (QS H' 1 encI (castL t)))) (fun j σ=>∃T S lim,σ=⟨T,S,[],H1,lim,27,false⟩∧get T 1=.slice a l kk∧get T 2=.pointer (some ⟨2,0,some 1⟩)∧get T 5=.slice a2 (rising l 0).length m2∧get T 6=.int .i64 (j:Nat)∧sget S 2=(1,.cells [.int .i64 r.app,.slice r.ba r.bl r.bk,.slice r.sa r.sl r.sk])∧(H'.length≤lim)) (kx) ?_ ?_ 0 _ (Nat.zero_le _) ⟨_,_,_,rfl,rfl,rfl,rfl,rfl,rfl,by omega⟩
 ·rintro c' j s hj ⟨T,S,lim,rfl,t1,t2,t5,t6,s0,hp⟩ ih
  have hjl:j < (rising l 0).length:=by omega
  obtain ⟨q,hq⟩:∃q,(rising l 0)[j]?=some q:=⟨_,List.getElem?_eq_getElem hjl⟩
  obtain ⟨vb,vo,v,e1,e2,e3,e4⟩:=each j q hq
  rw [t3' j hj q hq] at e4
  have lv:=e3.isLoc v.2.2
  have hw:=wrap_succ j (by omega)
  simp (maxDischargeDepth:=8) only [↓SD,SU,SV,SW,simprocAttr,Int.cast_ofNat_Int,small,resV, q43x0,t1,t2,t5,t6,s0, s0,lt_nat,hjl,l1,l2,l3,l4,lv,e1,e2,e4,hw]
  exact ih _ ⟨_,_,_,rfl,(by simp [get_set,t1] <;> omega),(by simp [get_set,t2] <;> omega),(by simp [get_set,t5] <;> omega),(by simp [get_set,t6] <;> omega),by simp [sget_sset,s0],by omega⟩
 ·rintro c' s ⟨T,S,lim,rfl,t1,t2,t5,t6,s0,hp⟩
  obtain ⟨vb,vo,v,e1,e2,e3,e4⟩:=each kx t t1'
  rw [t2'] at e4
  have lv:=e3.isLoc v.2.2
  simp (maxDischargeDepth:=8) only [↓SD,SU,SV,SW,simprocAttr,Int.cast_ofNat_Int,small,resV, q43x0,t1,t2,t5,t6,s0, s0,lt_nat,hkl,l1,l2,l3,l4,lv,e1,e2,e4,R43,N43]
  rw [yes_some]
  exact gc_sl e3 u1 (by omega)
end Go.Pi.L.Ben
set_option maxRecDepth 100000
namespace Go.Pi.L.Ben
open Go Go.Pi Go.Pi.L Go.Pi.E Go.Pi.Ben BM

set_option maxHeartbeats 1000000 in
theorem c6 {H:Heap}{r:BeR}{b:Bench}{a:Option Addr}{l kk:Nat}{p:List Int}{stI:Int}(hb:BeOk H r b)(hx:Ints H a l p)(hF:Fam H) :
  R (.func 6) [.agg #[.int .i64 r.app,.slice r.ba r.bl r.bk,.slice r.sa r.sl r.sk],.slice a l kk,.int .i64 stI] H=some ⟨.ok (.bool true),H,H.length⟩:=by
 refine run_k (pr 6) P6 (by simp [p6]) rfl ?_
 have l1:=hb.br.isLoc r.bk
 have l2:=hb.st.isLoc r.sk
 have l3:=hx.isLoc kk
 have k31:=c31 hb H (Grow.refl _)
 have k22:=c22 (H:=H) a l kk l3
 cases q1:shortB r.xs r with
 | false=>rw [q1] at k31; simp (maxDischargeDepth:=8) only [↓SD,SU,SV,SW,simprocAttr,Int.cast_ofNat_Int,small,resV, B6,R6,N6,b6, l1,l2,l3,k31,c25,R6,N6]
 | true =>
 rw [q1] at k31
 have hd:=short_sm hb q1
 by_cases q2:l≤9
 case neg=>simp (maxDischargeDepth:=8) only [↓SD,SU,SV,SW,simprocAttr,Int.cast_ofNat_Int,small,resV, B6,R6,N6,b6, l1,l2,l3,k31,k22,q2,c25,R6,N6]
 have hl:l < 1000000:=by omega
 cases q3:(isBench b&&isPlan b p) with
 | false =>
  have k41:=e41 (kk:=kk) hb hd hx hl q3 H (Grow.refl _)
  have k42:=e42 (kk:=kk) hb hd hx hl stI (by
   cases h1:isBench b with
   | false=>rfl
   | true=>rw [h1,Bool.true_and] at q3; rw [q3]; rfl) H (Grow.refl _)
  have k34:=c34 hb hd H (Grow.refl _)
  have k23:=c23 (kk:=kk) hb hx hl H (Grow.refl _)
  cases q4:isBench b with
  | false =>
   rw [q4] at k34
   simp (maxDischargeDepth:=8) only [↓SD,SU,SV,SW,simprocAttr,Int.cast_ofNat_Int,small,resV, B6,R6,N6,b6, l1,l2,l3,k31,k22,q2,k41,k42,k34,c25,R6,N6]
  | true =>
   rw [q4,Bool.true_and] at q3
   rw [q4] at k34
   rw [q3] at k23
   simp (maxDischargeDepth:=8) only [↓SD,SU,SV,SW,simprocAttr,Int.cast_ofNat_Int,small,resV, B6,R6,N6,b6, l1,l2,l3,k31,k22,q2,k41,k42,k34,k23,c25,R6,N6]
 | true =>
  obtain ⟨hB,hP⟩:=Bool.and_eq_true_iff.1 q3
  have hf:=fine_of hB
  have hlen:p.length=b.strokes.length:=by simp only [isPlan,Bool.and_eq_true,decide_eq_true_eq] at hP; exact hP.1
  have n6:=hf.n6
  obtain ⟨t,ht,hc,hr⟩:=chain_ex hf p
  have ht0:0 < t.length:=by
   cases t with
   | nil=>simp [chained] at hc
   | cons x t=>simp
  have htl:=(rising_len b.strokes.length 0).2 t hr
  have hcl:(castL t).length=t.length:=by simp [castL]
  obtain ⟨o,ho1,a1,m1,H1,lo1,rfl,u1,hlo1,s1⟩:=c41 (kk:=kk) hb hd hx hl hB hP ht ht0 H (Grow.refl _) hF
  have hF1:Fam H1:=famR ho1 hF
  have k34:=c34 hb hd H1 u1.grow
  have k23:=c23 (kk:=kk) hb hx hl H1 u1.grow
  rw [hB] at k34
  rw [hP] at k23
  obtain ⟨o,ho2,a2,m2,H2,lo2,rfl,u2,hlo2,s2⟩:=c43 (kk:=kk) hb hd hx hf hlen ht H1 u1.grow hF1
  have hF2:Fam H2:=famR ho2 hF1
  have g2:=u1.grow.trans u2.grow
  have k37:=c37 (m1:=m1) (m2:=m2) (s1.grow u2.grow) s2 (by omega) H2 (Grow.refl _)
  simp only [decide_true] at k37
  have k44:=c44 hb hd stI H2 g2
  have i1:=s1.isLoc m1
  have i2:=s2.isLoc m2
  have h1:=u1.len
  have h2:=u2.len
  cases hS:isStroke b stI with
  | false =>
   have k42:=e42 (kk:=kk) hb hd hx hl stI (by rw [hS,Bool.and_false,Bool.and_false]) H1 u1.grow
   rw [hS] at k44
   simp (maxDischargeDepth:=8) only [↓SD,SU,SV,SW,simprocAttr,Int.cast_ofNat_Int,small,resV, B6,R6,N6,b6, l1,l2,l3,i1,i2,k31,k22,q2,ho1,k42,k34,k23,ho2,k37,k44,c25,R6,N6]
   first | (rw [gc_ite (by omega)]; simp [flat]; done) | (simp [gcR,flat]; omega)
  | true =>
   obtain ⟨st,rfl,hst⟩:=stroke_nat hS
   rw [hS] at k44
   have k42:=c42 (kk:=kk) hb hd hx hl hB hP hst H1 u1.grow
   have k45:=c45 (kk:=kk) hb hd hx hf hlen hst H2 g2 hF2
   simp (maxDischargeDepth:=8) only [↓SD,SU,SV,SW,simprocAttr,Int.cast_ofNat_Int,small,resV, B6,R6,N6,b6, l1,l2,l3,i1,i2,k31,k22,q2,ho1,k42,k34,k23,ho2,k37,k44,k45,c25,R6,N6]
   first | (rw [gc_ite (by omega)]; simp [flat]; done) | (simp [gcR,flat]; omega)
end Go.Pi.L.Ben
