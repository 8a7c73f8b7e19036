/- Benches: which hands a stroke has in the best plans: sorted, each once. -/
import Derived.Test.YtfndfpbdgjoilaaGreatDoorDJ
import Derived.Test.YtfndfpbdgjoilaaGreatDoorDM
set_option linter.all false
set_option maxRecDepth 100000
namespace BM
open Go
theorem srt_pair (zs:List Int):(Pi.Q.srt zs).Pairwise (·≤·):=by
 have h:=List.pairwise_mergeSort (le:=fun x y:Int=>decide (x≤y)) (fun a b c h1 h2=>by simp at *; omega) (fun a b=>by simp; omega) zs
 exact h.imp fun h=>by simpa using h
theorem mem_srt {zs:List Int}{z:Int}:z∈Pi.Q.srt zs↔z∈zs:=(List.mergeSort_perm zs _).mem_iff
theorem comp_upto {d:Array Int}(hd:∀i j,i≤j→j < d.size→d[i]!≤d[j]!):∀m,m≤d.size→(Lib.compactUpTo d m).Pairwise (· < ·)∧(∀x∈Lib.compactUpTo d m,∃j,j < m∧x=d[j]!)∧∀j,j < m→d[j]!∈Lib.compactUpTo d m
 | 0,_=>⟨by simp [Lib.compactUpTo],fun x hx=>by simp [Lib.compactUpTo] at hx,fun j hj=>by omega⟩
 | m+1,hm=>by
  obtain ⟨h1,h2,h3⟩:=comp_upto hd m (by omega)
  rw [Lib.compactUpTo_succ]
  by_cases hk:Lib.keeps d m=true
  ·rw [if_pos hk]
   refine ⟨List.pairwise_append.2 ⟨h1,List.pairwise_singleton _ _,fun x hx y hy=>?_⟩,fun x hx=>?_,fun j hj=>?_⟩
   ·rw [List.mem_singleton.1 hy]
    obtain ⟨j,hj,rfl⟩:=h2 x hx
    have hk':=of_decide_eq_true hk
    have hne:=hk'.resolve_left (by omega)
    have a1:=hd j (m - 1) (by omega) (by omega)
    have a2:=hd (m - 1) m (by omega) (by omega)
    omega
   ·rcases List.mem_append.1 hx with hx | hx
    ·obtain ⟨j,hj,e⟩:=h2 x hx; exact ⟨j,by omega,e⟩
    ·exact ⟨m,by omega,List.mem_singleton.1 hx⟩
   ·rcases Nat.lt_or_ge j m with h | h
    ·exact List.mem_append_left _ (h3 j h)
    ·have:j=m:=by omega
     subst this; exact List.mem_append_right _ (List.mem_singleton.2 rfl)
  ·rw [if_neg hk,List.append_nil]
   refine ⟨h1,fun x hx=>?_,fun j hj=>?_⟩
   ·obtain ⟨j,hj,e⟩:=h2 x hx; exact ⟨j,by omega,e⟩
   ·rcases Nat.lt_or_ge j m with h | h
    ·exact h3 j h
    ·have:j=m:=by omega
     subst this
     have hk':¬(j=0∨d[j]!≠d[j - 1]!):=fun h=>hk (decide_eq_true h)
     have e:d[j]! = d[j - 1]!:=Classical.byContradiction fun h=>hk' (.inr h)
     have h0:j≠0:=fun h=>hk' (.inl h)
     rw [e]; exact h3 (j - 1) (by omega)
theorem comp_spec {zs:List Int}(h:zs.Pairwise (·≤·)):(Lib.compact zs).Pairwise (· < ·)∧∀z,z∈Lib.compact zs↔z∈zs:=by
 have hd:∀i j,i≤j→j < zs.toArray.size→zs.toArray[i]!≤zs.toArray[j]!:=fun i j hij hj=>by
  have hj':j < zs.length:=by simpa using hj
  rw [getElem!_pos _ i (by simpa using (by omega:i < zs.length)),getElem!_pos _ j hj]
  rcases Nat.lt_or_ge i j with h1 | h1
  ·exact List.pairwise_iff_getElem.1 h i j (by omega) hj' h1
  ·have:i=j:=by omega
   subst this; exact Int.le_refl _
 obtain ⟨h1,h2,h3⟩:=comp_upto hd zs.length (by simp)
 refine ⟨h1,fun z=>⟨fun hz=>?_,fun hz=>?_⟩⟩
 ·obtain ⟨j,hj,e⟩:=h2 z hz
  rw [e,getElem!_pos _ j (by simpa using hj)]
  simp
 ·obtain ⟨j,hj,e⟩:=List.mem_iff_getElem.1 hz
  have:=h3 j hj
  rw [getElem!_pos _ j (by simpa using hj)] at this
  have e2:zs.toArray[j]=z:=by simpa using e
  rw [e2] at this; exact this
theorem inc_eq:∀{xs ys:List Int},xs.Pairwise (· < ·)→ys.Pairwise (· < ·)→(∀z,z∈xs↔z∈ys)→xs=ys
 | [],[],_,_,_=>rfl
 | [],y :: ys,_,_,h=>by have:=(h y).2 (List.mem_cons_self ..); cases this
 | x :: xs,[],_,_,h=>by have:=(h x).1 (List.mem_cons_self ..); cases this
 | x :: xs,y :: ys,hx,hy,h=>by
  obtain ⟨a1,a2⟩:=List.pairwise_cons.1 hx
  obtain ⟨b1,b2⟩:=List.pairwise_cons.1 hy
  have e:x=y:=by
   have h1:=(h x).1 (List.mem_cons_self ..)
   have h2:=(h y).2 (List.mem_cons_self ..)
   rcases List.mem_cons.1 h1 with h1 | h1
   ·exact h1
   ·rcases List.mem_cons.1 h2 with h2 | h2
    ·exact h2.symm
    ·have:=b1 x h1; have:=a1 y h2; omega
  subst e
  rw [inc_eq a2 b2 fun z=>⟨fun hz=>?_,fun hz=>?_⟩]
  ·rcases List.mem_cons.1 ((h z).1 (List.mem_cons_of_mem _ hz)) with e | e
   ·have:=a1 z hz; omega
   ·exact e
  ·rcases List.mem_cons.1 ((h z).2 (List.mem_cons_of_mem _ hz)) with e | e
   ·have:=b1 z hz; omega
   ·exact e
theorem whoL_pair (b:Bench)(st:Nat):(whoL b st).Pairwise (· < ·):=by
 unfold whoL
 rw [List.pairwise_map]
 exact (List.Pairwise.filter _ List.pairwise_lt_range).imp fun h=>by omega
theorem who_eq {b:Bench}(h0:0≤b.app){st:Nat}(hst:∀p∈bests b,st < p.length):Lib.compact (Pi.Q.srt ((bests b).map fun p=>p.getD st 0))=whoL b st:=by
 obtain ⟨h1,h2⟩:=comp_spec (srt_pair ((bests b).map fun p=>p.getD st 0))
 refine inc_eq h1 (whoL_pair b st) fun z=>?_
 rw [h2,mem_srt,mem_who h0,List.mem_map]
 refine ⟨fun ⟨p,hp,e⟩=>⟨p,hp,?_⟩,fun ⟨p,hp,e⟩=>⟨p,hp,?_⟩⟩
 ·rw [List.getElem?_eq_getElem (hst p hp),←e,List.getD_eq_getElem?_getD,List.getElem?_eq_getElem (hst p hp)]; rfl
 ·rw [List.getD_eq_getElem?_getD,e]; rfl
end BM
set_option maxRecDepth 100000
namespace Go.Pi.L.Ben
open Go Go.Pi Go.Pi.L Go.Pi.E Go.Pi.Ben BM

theorem cells_map:∀zs:List Int,cells encI zs=zs.map (Value.int .i64)
 | []=>rfl
 | z :: zs=>by
  have:=cells_map zs
  unfold cells at this ⊢
  rw [List.map_cons,List.flatten_cons,this]; rfl
theorem rowset {n0:Nat}{H:Heap}{b l m:Nat}{zs zs':List Int}(h:Bld n0 H 1 (some ⟨b,0,none⟩) l m (cells encI zs))(hF:Fam H)(hl:zs'.length=zs.length) :
  zs.length=l∧m=1∧∃f,H[b]?=some ⟨.cells (cells encI zs),true,true,some f⟩∧n0≤f∧n0≤b ∧
   ∃H1,(kill f H).set b ⟨.cells (cells encI zs'),true,true,some f⟩=H1∧Bld n0 H1 1 (some ⟨b,0,none⟩) l 1 (cells encI zs')∧Fam H1∧(∀H0,Up H0 H→H0.length≤n0→Up H0 H1)∧H1.length=H.length:=by
 have hlen:zs.length=l:=by have:=h.len; rw [cells_map,List.length_map] at this; omega
 rcases h.ok with ⟨h0,_⟩ | ⟨b',f,hb',rfl,h3,h4,h5⟩
 ·cases h0
 ·cases hb'
  have hbl:=(List.getElem?_eq_some_iff.1 h5).1
  refine ⟨hlen,rfl,f,h5,h4,h3,_,rfl,⟨by rw [cells_map,List.length_map]; omega,.inr ⟨b,f,rfl,rfl,h3,h4,by rw [List.getElem?_set_self (by rw [kill_length]; exact hbl)]⟩⟩,?_,fun H0 hu hn0=>?_,by rw [List.length_set,kill_length]⟩
  ·refine (Fam.kill hF f).set (b0:=⟨.cells (cells encI zs),true,true,some f⟩) ?_ rfl
   rw [kill_get,h5]; simp
  ·refine Up.set ⟨by rw [kill_length]; exact hu.len,fun j hj=>?_⟩ (by omega)
   rw [kill_get]
   cases hx:H[j]? with
   | none=>rw [←hu.old j hj,hx]; rfl
   | some x =>
    have:¬(x.fam=some f∧x.tip=false):=fun hc=>by have:=hF j x f hx hc.1; omega
    simp only [Option.map_some,if_neg this]
    rw [←hu.old j hj,hx]
theorem spl_all {c v:List Value}(h:v.length=c.length):splice c 0 v=v:=by
 unfold splice
 rw [List.take_zero,List.nil_append,List.drop_eq_nil_of_le (by omega),List.append_nil]
theorem c96 {n0:Nat}{H:Heap}{b l m:Nat}{zs:List Int}(h:Bld n0 H 1 (some ⟨b,0,none⟩) l m (cells encI zs))(hF:Fam H)(h0:0 < l)(h1:l < 1000000) :
  ∃H1 lo,R (.func 96) [.slice (some ⟨b,0,none⟩) l m] H=some ⟨.ok (.tuple #[]),H1,lo⟩∧n0≤lo∧Bld n0 H1 1 (some ⟨b,0,none⟩) l 1 (cells encI (Q.srt zs))∧Fam H1∧(∀H0,Up H0 H→H0.length≤n0→Up H0 H1)∧H1.length=H.length:=by
 obtain ⟨e1,e2,f,h5,h4,h3,H1,hH1,q1,q2,q3,q4⟩:=rowset h hF (Q.srt_len zs)
 refine ⟨H1,min f b,runL_prim (g:=Q.pSort) (by rfl) ?_,by omega,q1,q2,q3,q4⟩
 have ht:Q.ints64 ((cells encI zs).take l)=some zs:=by
  rw [cells_map,List.take_of_length_le (by rw [List.length_map]; omega)]; exact Q.ints64_enc zs
 unfold Q.pSort
 simp only [h5,ht]
 rw [if_pos ⟨by rw [cells_map,List.length_map]; omega,h0,h1⟩,spl_all (by rw [cells_map,List.length_map,List.length_map,Q.srt_len]),←cells_map,hH1]
theorem c97 {n0:Nat}{H:Heap}{b l m:Nat}{zs:List Int}(h:Bld n0 H 1 (some ⟨b,0,none⟩) l m (cells encI zs))(hF:Fam H)(h0:0 < l)(h1:l < 1000000) :
  ∃H1 lo,R (.func 97) [.slice (some ⟨b,0,none⟩) l m] H=some ⟨.ok (.slice (some ⟨b,0,none⟩) (Lib.compact zs).length m),H1,lo⟩∧n0≤lo∧Ints H1 (some ⟨b,0,none⟩) (Lib.compact zs).length (Lib.compact zs)∧Fam H1∧(∀H0,Up H0 H→H0.length≤n0→Up H0 H1):=by
 obtain ⟨e1,e2,f,h5,h4,h3,H1,hH1,q1,q2,q3,q4⟩:=rowset h hF (Q.cmpL_len zs)
 refine ⟨H1,min f b,runL_prim (g:=Q.pCompact) (by rfl) ?_,by omega,?_,q2,q3⟩
 ·have ht:Q.ints64 ((cells encI zs).take l)=some zs:=by
   rw [cells_map,List.take_of_length_le (by rw [List.length_map]; omega)]; exact Q.ints64_enc zs
  unfold Q.pCompact
  simp only [h5,ht]
  rw [if_pos ⟨by rw [cells_map,List.length_map]; omega,h0,h1⟩,spl_all (by rw [cells_map,List.length_map,List.length_map,Q.cmpL_len]),←cells_map,hH1]
 ·have hs:=q1.sl encI_len (by decide)
  refine ⟨rfl,hs.loc,fun j x hx=>hs.rd j x ?_⟩
  unfold Q.cmpL
  rw [List.getElem?_append_left (List.getElem?_eq_some_iff.1 hx).1]; exact hx
set_option maxHeartbeats 1000000 in
theorem c54 {H:Heap}{r:BeR}{b:Bench}(hb:BeOk H r b)(hd:SmB r)(hB:isBench b=true){st:Nat}(hS:isStroke b (st:Nat)=true) :
  ∀H',Grow H H'→Fam H'→Yes (R (.func 54) [.agg #[.int .i64 r.app,.slice r.ba r.bl r.bk,.slice r.sa r.sl r.sk],.int .i64 (st:Nat)] H') (QP H' 1 encI (whoL b st) (.int .i64 0)):=by
 intro H' hg hF
 have hf:=fine_of hB
 have hst:st < b.strokes.length:=by unfold isStroke at hS; rw [inL_iff] at hS; omega
 have hbp:∀p∈bests b,st < p.length:=fun p hp=>by
  have hp1:p∈plans b:=(List.mem_filter.1 hp).1
  unfold plans at hp1
  rw [mem_plansL] at hp1
  rw [hp1.1]; simp [rounds]; exact hst
 refine run_y (pr 54) P54 (by simp [p54]) rfl ?_
 have l1:=hb.br.isLoc r.bk
 have l2:=hb.st.isLoc r.sk
 have k74:=c74 hb hd H' hg
 have k87:=c87 hb hd (st:Nat) H' hg
 rw [hB] at k74
 rw [hS] at k87
 obtain ⟨o,ho,bb,off,m0,H1,lo1,xs,rfl,u1,hlo1,s1,h1,h2,h3,h4⟩:=c92 hb hf H' hg hF
 have hF1:Fam H1:=famR ho hF
 have l3:=s1.isLoc m0
 have h1l:=u1.len
 let zz:=fun x:Tm=>x.p.getD st 0
 simp (maxDischargeDepth:=8) only [↓SD,SU,SV,SW,simprocAttr,Int.cast_ofNat_Int,small,resV, B54,R54,N54,b54, l1,l2,l3,k74,k87,ho]
 refine loop_ind (G:=(Yes · (QP H' 1 encI (whoL b st) (.int .i64 0)))) (fun j σ=>∃T S H3 al m lim,σ=⟨T,S,[],H3,lim,38,false⟩∧get T 1=.int .i64 (st:Nat)∧get T 6=.slice al j m∧get T 19=.slice (some ⟨bb,off,none⟩) xs.length m0∧get T 20=.int .i64 xs.length∧get T 21=.int .i64 (j:Nat)∧(Bld H1.length H3 1 al j m (cells encI ((xs.take j).map zz))∧Up H1 H3∧Fam H3∧H'.length≤lim)) (xs.length) ?_ ?_ 0 _ (Nat.zero_le _) ⟨_,_,_,_,_,_,rfl,rfl,rfl,rfl,rfl,rfl,⟨Bld.nil _ _ _,Up.refl _,hF1,by omega⟩⟩
 ·rintro c' j s hj ⟨T,S,H3,al,m,lim,rfl,t1,t6,t19,t20,t21,hp⟩ ih
  obtain ⟨hbd,hu,hF3,hlim⟩:=hp
  have hw:=wrap_succ j (by omega)
  have l8:isLoc (.slice al j m)=false:=hbd.isLoc _ _
  have hul:=hu.len
  obtain ⟨b1,o1,x,hxa,hx1,hat⟩:=s1.at eT_len (by decide) hj
  cases hxa
  have e1:=hat.all H3 hu.grow
  have hxm:=List.mem_of_getElem? hx1
  obtain ⟨cb,x1,x2,x3,x4,x5,x6⟩:=h4 x hxm
  have hxp:x.p∈bests b:=by rw [←h1]; exact List.mem_map_of_mem hxm
  have lx:isLoc (.slice x.a x.l x.m)=false:=x5.isLoc _
  have e1:rdO (hcells H3 bb) (off+j*2) (some 2)=some (.agg #[.slice x.a x.l x.m,.int .i64 x.t]):=e1
  have hsl:st < x.l:=by rw [x2]; exact hbp _ hxp
  obtain ⟨cb',co,v,hva,hv1,fv⟩:=x5.i1 hsl
  have fv:=fv H3 hu.grow
  have hzz:zz x=v:=getD_of hv1
  obtain ⟨H6,p1,p2,p3,hF6⟩:=hbd.appF hF3 (by decide) (by decide) (by omega) hul [.int .i64 v] rfl
  have u6:=p3.up hbd hu (Nat.le_refl _)
  have hl6:=u6.len
  have iax:vv (.ia 1) [.slice x.a x.l x.m,.int .i64 (st:Nat)]=some (.pointer (some ⟨cb',co+st*1,none⟩)):=by rw [hva]; exact vv_iaN 1 cb' co st _ _ _ hsl
  have hcl:cells encI ((xs.take (j+1)).map zz)=cells encI ((xs.take j).map zz)++[.int .i64 v]:=by
   rw [take_get hx1,List.map_append,List.map_singleton,hzz,cells_app]; rfl
  simp (maxDischargeDepth:=8) only [↓SD,SU,SV,SW,simprocAttr,Int.cast_ofNat_Int,small,resV, q54x0,t1,t6,t19,t20,t21, lt_nat,hj,l3,l8,lx,e1,iax,fv,hw,p1,k_fixb]
  exact ih _ ⟨_,_,(H6),(some ⟨H3.length,0,none⟩),(1),(_),rfl,(by simp [get_set,t1] <;> omega),(by simp [get_set,t6] <;> omega),(by simp [get_set,t19] <;> omega),(by simp [get_set,t20] <;> omega),(by simp [get_set,t21] <;> omega),⟨by rw [hcl]; exact p2,u6,hF6,by omega⟩⟩
 ·rintro c' s ⟨T,S,H3,al,m,lim,rfl,t1,t6,t19,t20,t21,hp⟩
  obtain ⟨hbd,hu,hF3,hlim⟩:=hp
  have l8:isLoc (.slice al xs.length m)=false:=hbd.isLoc _ _
  obtain ⟨ab,rfl⟩:∃ab,al=some ⟨ab,0,none⟩:=by
   rcases hbd.ok with ⟨_,h,_⟩ | ⟨ab,f,h,_⟩
   ·omega
   ·exact ⟨ab,h⟩
  rw [List.take_length,show xs.map zz=(bests b).map (fun p=>p.getD st 0) by rw [←h1,List.map_map]; rfl] at hbd
  obtain ⟨H4,lo4,r1,r2,r3,r4,r5,r6⟩:=c96 hbd hF3 h2 (by omega)
  obtain ⟨H5,lo5,t1,t2,t3,t4,t5⟩:=c97 r3 r4 h2 (by omega)
  have hm:m=1:=(rowset hbd hF3 (Q.srt_len _)).2.1
  subst hm
  rw [who_eq hf.a0 hbp] at t1 t3
  have l9:isLoc (.slice (some ⟨ab,0,none⟩) (whoL b st).length 1)=false:=rfl
  simp (maxDischargeDepth:=8) only [↓SD,SU,SV,SW,simprocAttr,Int.cast_ofNat_Int,small,resV, q54x0,t1,t6,t19,t20,t21, lt_nat,Nat.lt_irrefl,l3,l8,l9,r1,t1,R54,N54]
  rw [yes_some]
  exact gc_sp t3 (u1.trans (t5 _ (r5 _ hu (Nat.le_refl _)) (Nat.le_refl _))) (by omega)
end Go.Pi.L.Ben
set_option maxRecDepth 100000
namespace Go.Pi.L.Ben
open Go Go.Pi Go.Pi.L Go.Pi.E Go.Pi.Ben BM

theorem before_sw {one other:Int}(h1:1≤one)(h2:1≤other)(p:List Int)(n:Nat):∀i,beforeN (p.map (sw one other)) n i=beforeN p n i
 | 0=>rfl
 | i+1=>by
  simp only [beforeN,sw_get h1 h2,before_sw h1 h2 p n i]
  by_cases h:p.getD i 0=p.getD n 0
  ·rw [if_pos h,if_pos (by rw [h])]
  ·rw [if_neg h,if_neg (fun e=>h (sw_inj e))]
theorem vE_sw {b:Bench}{one other:Int}(h1:1≤one)(h2:1≤other)(p:List Int)(lg by_:Int)(g:Bool):vE b (p.map (sw one other)) lg by_ g=vE b p lg by_ g:=by
 funext n; unfold vE; rw [follows_sw h1 h2]
theorem ends_sw {b:Bench}{one other:Int}(h1:1≤one)(h2:1≤other)(p:List Int)(j:Nat):endsL b (p.map (sw one other)) j=endsL b p j:=by
 unfold endsL; simp only [en,vE_sw h1 h2]
theorem waits_sw {b:Bench}{one other:Int}(h1:1≤one)(h2:1≤other)(p:List Int)(j:Nat):waitsL b (p.map (sw one other)) j=waitsL b p j:=by
 unfold waitsL
 refine List.map_congr_left fun n _=>?_
 unfold freeN
 rw [before_sw h1 h2,show en b (p.map (sw one other)) true=en b p true from vE_sw h1 h2 p _ _ _,show be b (p.map (sw one other)) true=be b p true by funext n; unfold be vB; rw [follows_sw h1 h2]]
theorem any_who {L:List Int}{x y:Int}(h:x∈L↔y∈L):(L.any fun z=>decide (z=x))=(L.any fun z=>decide (z=y)):=by
 have e:∀w:Int,(L.any fun z=>decide (z=w))=decide (w∈L):=fun w=>by
  rw [Bool.eq_iff_iff]
  simp
 rw [e,e]
 simp [h]
set_option maxHeartbeats 4000000 in
theorem c16 {H:Heap}{r:BeR}{b:Bench}{a:Option Addr}{l kk:Nat}{p:List Int}{one other stI:Int}(hb:BeOk H r b)(hx:Ints H a l p)(hF:Fam H) :
  R (.func 16) [.agg #[.int .i64 r.app,.slice r.ba r.bl r.bk,.slice r.sa r.sl r.sk],.slice a l kk,.int .i64 one,.int .i64 other,.int .i64 stI] H=some ⟨.ok (.bool true),H,H.length⟩:=by
 refine run_k (pr 16) P16 (by simp [p16]) rfl ?_
 have l1:=hb.br.isLoc r.bk
 have l2:=hb.st.isLoc r.sk
 have l3:=hx.isLoc kk
 have k21:=c21 hb H (Grow.refl _)
 have k22:=c22 (H:=H) a l kk l3
 have happ:=hb.app
 cases q1:(shortB r.xs r&&isBench b) with
 | false=>rw [q1] at k21; simp (maxDischargeDepth:=8) only [↓SD,SU,SV,SW,simprocAttr,Int.cast_ofNat_Int,small,resV, B16,R16,N16,b16, l1,l2,l3,k21,c25,R16,N16]
 | true =>
 rw [q1] at k21
 obtain ⟨q1a,hB⟩:=Bool.and_eq_true_iff.1 q1
 have hd:=short_sm hb q1a
 by_cases q2:l≤9
 case neg=>simp (maxDischargeDepth:=8) only [↓SD,SU,SV,SW,simprocAttr,Int.cast_ofNat_Int,small,resV, B16,R16,N16,b16, l1,l2,l3,k21,k22,q2,c25,R16,N16]
 have hl:l < 1000000:=by omega
 have k23:=c23 (kk:=kk) hb hx hl H (Grow.refl _)
 cases hP:isPlan b p with
 | false=>rw [hP] at k23; simp (maxDischargeDepth:=8) only [↓SD,SU,SV,SW,simprocAttr,Int.cast_ofNat_Int,small,resV, B16,R16,N16,b16, l1,l2,l3,k21,k22,q2,k23,c25,R16,N16]
 | true =>
 rw [hP] at k23
 by_cases z1:one < 1
 ·simp (maxDischargeDepth:=8) only [↓SD,SU,SV,SW,simprocAttr,Int.cast_ofNat_Int,small,resV, B16,R16,N16,b16, l1,l2,l3,k21,k22,q2,k23,z1,c25,R16,N16]
 by_cases z2:r.app < one
 ·simp (maxDischargeDepth:=8) only [↓SD,SU,SV,SW,simprocAttr,Int.cast_ofNat_Int,small,resV, B16,R16,N16,b16, l1,l2,l3,k21,k22,q2,k23,z1,z2,c25,R16,N16]
 by_cases z3:other < 1
 ·simp (maxDischargeDepth:=8) only [↓SD,SU,SV,SW,simprocAttr,Int.cast_ofNat_Int,small,resV, B16,R16,N16,b16, l1,l2,l3,k21,k22,q2,k23,z1,z2,z3,c25,R16,N16]
 by_cases z4:r.app < other
 ·simp (maxDischargeDepth:=8) only [↓SD,SU,SV,SW,simprocAttr,Int.cast_ofNat_Int,small,resV, B16,R16,N16,b16, l1,l2,l3,k21,k22,q2,k23,z1,z2,z3,z4,c25,R16,N16]
 have k44:=c44 hb hd stI H (Grow.refl _)
 cases hS:isStroke b stI with
 | false=>rw [hS] at k44; simp (maxDischargeDepth:=8) only [↓SD,SU,SV,SW,simprocAttr,Int.cast_ofNat_Int,small,resV, B16,R16,N16,b16, l1,l2,l3,k21,k22,q2,k23,z1,z2,z3,z4,k44,c25,R16,N16]
 | true =>
 rw [hS] at k44
 have hf:=fine_of hB
 have n6:=hf.n6
 have h1o:1≤one:=by omega
 have h2o:1≤other:=by omega
 have h1a:one≤b.app:=by omega
 have h2a:other≤b.app:=by omega
 have hlen:p.length=b.strokes.length:=by simp only [isPlan,Bool.and_eq_true,decide_eq_true_eq] at hP; exact hP.1
 have hlb:b.strokes.length=l:=by rw [←hlen]; exact hx.len
 obtain ⟨st,rfl,hst⟩:∃n:Nat,stI=n∧n < b.strokes.length:=by
  have h:=hS
  unfold isStroke at h
  rw [inL_iff] at h
  exact ⟨stI.toNat,by omega,by omega⟩
 let x:=p.map (sw one other)
 have hPx:isPlan b x=true:=(isPlan_iff hf.a0).2 (plans_sw hf.a0 h1o h1a h2o h2a ((isPlan_iff hf.a0).1 hP))
 obtain ⟨t,ht,hc,hr⟩:=chain_ex hf p
 have ht0:0 < t.length:=by
  cases t with
  | nil=>simp [chained] at hc
  | cons x t=>simp
 have hcl:(castL t).length=t.length:=by simp [castL]
 have hel:(endsL b p b.strokes.length).length=b.strokes.length:=by simp [endsL]
 have hwl:(waitsL b p b.strokes.length).length=b.strokes.length:=by simp [waitsL]
 have hw3:(whoL b st).length≤4:=by
  unfold whoL
  rw [List.length_map]
  refine Nat.le_trans (List.length_filter_le _ _) ?_
  rw [List.length_range]; have:=hf.a3; have:=hf.a0; omega
 simp (maxDischargeDepth:=8) only [↓SD,SU,SV,SW,simprocAttr,Int.cast_ofNat_Int,small,resV, B16,R16,N16,b16, l1,l2,l3,k21,k22,q2,k23,z1,z2,z3,z4,k44]
 refine loop_ind (G:=(·=_)) (fun j σ=>∃T S H3 al m lim,σ=⟨T,S,[],H3,lim,215,false⟩∧get T 1=.slice a l kk∧get T 2=.int .i64 one∧get T 3=.int .i64 other∧get T 4=.int .i64 (st:Nat)∧get T 5=.pointer (some ⟨5,0,some 1⟩)∧get T 11=.slice al j m∧get T 12=.int .i64 (j:Nat)∧sget S 5=(1,.cells [.int .i64 r.app,.slice r.ba r.bl r.bk,.slice r.sa r.sl r.sk])∧(Bld H.length H3 1 al j m (cells encI ((p.take j).map (sw one other)))∧Up H H3∧Fam H3∧H.length≤lim)) (l) ?_ ?_ 0 _ (Nat.zero_le _) ⟨_,_,_,_,_,_,rfl,rfl,rfl,rfl,rfl,rfl,rfl,rfl,rfl,⟨Bld.nil _ _ _,Up.refl _,hF,Nat.le_refl _⟩⟩
 ·rintro c' j s hj ⟨T,S,H3,al,m,lim,rfl,t1,t2,t3,t4,t5,t11,t12,s0,hp⟩ ih
  obtain ⟨hbd,hu,hF3,hlim⟩:=hp
  have hw:=wrap_succ j (by omega)
  have l8:isLoc (.slice al j m)=false:=hbd.isLoc _ _
  have hul:=hu.len
  obtain ⟨pb,po,v,hpa,hpv,fv⟩:=hx.i1 hj
  have fv:=fv H3 hu.grow
  obtain ⟨H6,p1,p2,p3,hF6⟩:=hbd.appF hF3 (by decide) (by decide) (by omega) hul [.int .i64 (sw one other v)] rfl
  have u6:=p3.up hbd hu (Nat.le_refl _)
  have hl6:=u6.len
  have hcl:cells encI ((p.take (j+1)).map (sw one other))=cells encI ((p.take j).map (sw one other))++[.int .i64 (sw one other v)]:=by
   rw [take_get hpv,List.map_append,List.map_singleton,cells_app]; rfl
  have iap:vv (.ia 1) [.slice a l kk,.int .i64 (j:Nat)]=some (.pointer (some ⟨pb,po+j*1,none⟩)):=by rw [hpa]; exact vv_iaN 1 pb po j _ _ _ hj
  by_cases y1:v=one
  ·have e:sw one other v=other:=by unfold sw; rw [if_pos y1]
   rw [e] at p1
   have y1':(v=one)=True:=eq_true y1
   simp (maxDischargeDepth:=8) only [↓SD,SU,SV,SW,simprocAttr,Int.cast_ofNat_Int,small,resV, q16x0,t1,t2,t3,t4,t5,t11,t12,s0, s0,lt_nat,hj,l1,l2,l3,l8,iap,fv,hw,y1',p1,sget_sset]
   exact ih _ ⟨_,_,(H6),(some ⟨H3.length,0,none⟩),(1),(_),rfl,(by simp [get_set,t1] <;> omega),(by simp [get_set,t2] <;> omega),(by simp [get_set,t3] <;> omega),(by simp [get_set,t4] <;> omega),(by simp [get_set,t5] <;> omega),(by simp [get_set,t11] <;> omega),(by simp [get_set,t12] <;> omega),by simp [sget_sset,s0],⟨by rw [hcl]; exact p2,u6,hF6,by omega⟩⟩
  ·have y1':(v=one)=False:=eq_false y1
   by_cases y2:v=other
   ·have e:sw one other v=one:=by unfold sw; rw [if_neg y1,if_pos y2]
    rw [e] at p1
    have y2':(v=other)=True:=eq_true y2
    simp (maxDischargeDepth:=8) only [↓SD,SU,SV,SW,simprocAttr,Int.cast_ofNat_Int,small,resV, q16x0,t1,t2,t3,t4,t5,t11,t12,s0, s0,lt_nat,hj,l1,l2,l3,l8,iap,fv,hw,y1',y2',p1,sget_sset]
    exact ih _ ⟨_,_,(H6),(some ⟨H3.length,0,none⟩),(1),(_),rfl,(by simp [get_set,t1] <;> omega),(by simp [get_set,t2] <;> omega),(by simp [get_set,t3] <;> omega),(by simp [get_set,t4] <;> omega),(by simp [get_set,t5] <;> omega),(by simp [get_set,t11] <;> omega),(by simp [get_set,t12] <;> omega),by simp [sget_sset,s0],⟨by rw [hcl]; exact p2,u6,hF6,by omega⟩⟩
   ·have e:sw one other v=v:=by unfold sw; rw [if_neg y1,if_neg y2]
    rw [e] at p1
    have y2':(v=other)=False:=eq_false y2
    simp (maxDischargeDepth:=8) only [↓SD,SU,SV,SW,simprocAttr,Int.cast_ofNat_Int,small,resV, q16x0,t1,t2,t3,t4,t5,t11,t12,s0, s0,lt_nat,hj,l1,l2,l3,l8,iap,fv,hw,y1',y2',p1,sget_sset]
    exact ih _ ⟨_,_,(H6),(some ⟨H3.length,0,none⟩),(1),(_),rfl,(by simp [get_set,t1] <;> omega),(by simp [get_set,t2] <;> omega),(by simp [get_set,t3] <;> omega),(by simp [get_set,t4] <;> omega),(by simp [get_set,t5] <;> omega),(by simp [get_set,t11] <;> omega),(by simp [get_set,t12] <;> omega),by simp [sget_sset,s0],⟨by rw [hcl]; exact p2,u6,hF6,by omega⟩⟩
 ·rintro c' s ⟨T,S,H3,al,m,lim,rfl,t1,t2,t3,t4,t5,t11,t12,s0,hp⟩
  obtain ⟨hbd,hu,hF3,hlim⟩:=hp
  have l8:isLoc (.slice al l m)=false:=hbd.isLoc _ _
  have htk:p.take l=p:=List.take_of_length_le (by omega)
  rw [htk] at hbd
  have hxx:Ints H3 al l x:=by
   have:=hbd.sl encI_len (by decide)
   exact this
  obtain ⟨o,r1,a1,m1,H4,lo4,rfl,u4,g4,s4⟩:=c26 (kk:=kk) hb hd hx hl hB hP H3 hu.grow
  have hF4:Fam H4:=famR r1 hF3
  obtain ⟨o,r2,a2,m2,H5,lo5,rfl,u5,g5,s5⟩:=c26 (kk:=m) (hb.grow hu.grow) hd hxx hl hB hPx H4 u4.grow
  have hF5:Fam H5:=famR r2 hF4
  obtain ⟨o,r3,a3,m3,H6,lo6,rfl,u6,g6,s6⟩:=c33 (kk:=kk) hb hd hx hl hB hP H5 (hu.grow.trans (u4.grow.trans u5.grow))
  have hF6:Fam H6:=famR r3 hF5
  obtain ⟨o,r4,a4,m4,H7,lo7,rfl,u7,g7,s7⟩:=c33 (kk:=m) (hb.grow hu.grow) hd hxx hl hB hPx H6 (u4.grow.trans (u5.grow.trans u6.grow))
  have hF7:Fam H7:=famR r4 hF6
  have gg7:=u4.grow.trans (u5.grow.trans (u6.grow.trans u7.grow))
  obtain ⟨o,r5,a5,m5,H8,lo8,rfl,u8,g8,s8⟩:=c41 (kk:=kk) hb hd hx hl hB hP ht ht0 H7 (hu.grow.trans gg7) hF7
  have hF8:Fam H8:=famR r5 hF7
  obtain ⟨o,r6,a6,m6,H9,lo9,rfl,u9,g9,s9⟩:=c41 (kk:=m) (t:=t) (hb.grow hu.grow) hd hxx hl hB hPx (by rw [show follows b x=follows b p from follows_sw h1o h2o p,show en b x true=en b p true from vE_sw h1o h2o p _ _ _]; exact ht) ht0 H8 (gg7.trans u8.grow) hF8
  have hF9:Fam H9:=famR r6 hF8
  have gg9:=gg7.trans (u8.grow.trans u9.grow)
  have k42:=c42 (kk:=kk) hb hd hx hl hB hP hst H9 (hu.grow.trans gg9)
  have k42x:=c42 (kk:=m) (hb.grow hu.grow) hd hxx hl hB hPx hst H9 gg9
  rw [show tkBy b x st=tkBy b p st from funext fun k=>by unfold tkBy; rw [vE_sw h1o h2o],show en b x true=en b p true from vE_sw h1o h2o p _ _ _] at k42x
  obtain ⟨o,r7,a7,m7,Ht,lot,rfl,ut,gt,s_t⟩:=c54 hb hd hB hS H9 (hu.grow.trans gg9) hF9
  rw [ends_sw h1o h2o] at r2 s5
  rw [waits_sw h1o h2o] at r4 s7
  rw [hel] at r1 r2 s4 s5
  rw [hwl] at r3 r4 s6 s7
  rw [hcl] at r5 r6 s8 s9
  have ga:=u5.grow.trans (u6.grow.trans (u7.grow.trans (u8.grow.trans (u9.grow.trans ut.grow))))
  have gb:=u6.grow.trans (u7.grow.trans (u8.grow.trans (u9.grow.trans ut.grow)))
  have gc:=u7.grow.trans (u8.grow.trans (u9.grow.trans ut.grow))
  have gd:=u8.grow.trans (u9.grow.trans ut.grow)
  have ge:=u9.grow.trans ut.grow
  have k63:=c63 (m1:=m1) (m2:=m2) (s4.grow ga) (s5.grow gb) (by omega) Ht (Grow.refl _)
  have k37:=c37 (m1:=m3) (m2:=m4) (s6.grow gc) (s7.grow gd) (by omega) Ht (Grow.refl _)
  have htl:=(rising_len b.strokes.length 0).2 t hr
  have k37c:=c37 (m1:=m5) (m2:=m6) (s8.grow ge) (s9.grow ut.grow) (by omega) Ht (Grow.refl _)
  have k30:=c30 (kk:=m7) one s_t (by omega) Ht (Grow.refl _)
  have k30o:=c30 (kk:=m7) other s_t (by omega) Ht (Grow.refl _)
  rw [decide_eq_true rfl] at k63 k37 k37c
  rw [any_who (y:=other) ⟨fun h=>who_sw hf.a0 h1o h1a h2o h2a h,fun h=>who_sw hf.a0 h2o h2a h1o h1a h⟩] at k30
  generalize ((whoL b st).any fun z=>decide (z=other))=W at k30 k30o
  have i1:=s4.isLoc m1
  have i2:=s5.isLoc m2
  have i3:=s6.isLoc m3
  have i4:=s7.isLoc m4
  have i5:=s8.isLoc m5
  have i6:=s9.isLoc m6
  have i7:=s_t.isLoc m7
  have e0:=hu.len
  have e4:=u4.len
  have e5:=u5.len
  have e6:=u6.len
  have e7:=u7.len
  have e8:=u8.len
  have e9:=u9.len
  have et:=ut.len
  cases W with
  | false =>
   simp (maxDischargeDepth:=8) only [↓SD,SU,SV,SW,simprocAttr,Int.cast_ofNat_Int,small,resV, q16x0,t1,t2,t3,t4,t5,t11,t12,s0, s0,lt_nat,Nat.lt_irrefl,l1,l2,l3,l8,i1,i2,i3,i4,i5,i6,i7,r1,r2,r3,r4,r5,r6,k42,k42x,r7,k63,k37,k37c,k30,k30o,sget_sset,c25,R16,N16]
   first | (rw [gc_ite (by omega)]; simp [flat]; done) | (simp [gcR,flat]; omega)
  | true =>
   simp (maxDischargeDepth:=8) only [↓SD,SU,SV,SW,simprocAttr,Int.cast_ofNat_Int,small,resV, q16x0,t1,t2,t3,t4,t5,t11,t12,s0, s0,lt_nat,Nat.lt_irrefl,l1,l2,l3,l8,i1,i2,i3,i4,i5,i6,i7,r1,r2,r3,r4,r5,r6,k42,k42x,r7,k63,k37,k37c,k30,k30o,sget_sset,c25,R16,N16]
   first | (rw [gc_ite (by omega)]; simp [flat]; done) | (simp [gcR,flat]; omega)
end Go.Pi.L.Ben
set_option maxRecDepth 100000
namespace Go.Pi.L.Ben
open Go Go.Pi Go.Pi.L Go.Pi.E Go.Pi.Ben BM

def rd (b:Bench)(n:Nat):Bool:=match b.strokes[n]? with | some s=>s.round | none=>false
def rsJ (b:Bench)(j:Nat):Int:=(List.range j).foldl (fun s n=>if rd b n=true then s+high b n else s) 0
theorem rsJ_succ (b:Bench)(j:Nat):rsJ b (j+1)=if rd b j=true then rsJ b j+high b j else rsJ b j:=by
 unfold rsJ; rw [List.range_succ,List.foldl_append]; rfl
theorem rsJ_b {b:Bench}(hf:Fine b):∀j:Nat,0≤rsJ b j∧rsJ b j≤6*j
 | 0=>⟨Int.le_refl _,Int.le_refl _⟩
 | j+1=>by
  have h:=rsJ_b hf j
  have h2:=hf.dur j
  rw [rsJ_succ]
  split <;> omega
theorem plan_at {b:Bench}(h0:0≤b.app){p:List Int}(h:p∈plans b):p.length=b.strokes.length∧∀(i:Nat) x s,p[i]?=some x→b.strokes[i]?=some s→0≤x∧x≤b.app∧(s.round=true→x=0):=by
 have hp:=(isPlan_iff h0).2 h
 simp only [isPlan,Bool.and_eq_true,decide_eq_true_eq] at hp
 exact ⟨hp.1,(handsOk_iff hp.1).1 hp.2⟩
theorem rs_le {b:Bench}(hf:Fine b){p:List Int}(h:p∈plans b):rsJ b b.strokes.length≤tk b p:=by
 obtain ⟨h1,h2⟩:=plan_at hf.a0 h
 have hz:∀n,rd b n=true→p.getD n 0=0:=fun n hn=>by
  unfold rd at hn
  cases hs:b.strokes[n]? with
  | none=>rw [hs] at hn; cases hn
  | some s =>
   rw [hs] at hn
   have hl:=(List.getElem?_eq_some_iff.1 hs).1
   have hp:p[n]?=some p[n]:=List.getElem?_eq_getElem (by omega)
   rw [getD_of hp]
   exact (h2 n _ s hp hs).2.2 hn
 obtain ⟨a1,a2⟩:=sum_le (F:=follows b p) (dur:=high b) (q:=rd b) (fun k n hk h3 h4=>by
  unfold follows
  rw [hz k h3,hz n h4]; simp) (fun n=>by have:=hf.dur n; omega) b.strokes.length
 obtain ⟨b1,b2,_⟩:=takes_spec (F:=follows b p) (dur:=high b) (N:=b.strokes.length)
 have e:rsJ b b.strokes.length=(List.range b.strokes.length).foldl (fun s n=>if rd b n=true then s+high b n else s) 0:=rfl
 unfold tk
 rcases a2 with a2 | ⟨n,hn,_,a3,_⟩
 ·omega
 ·have:=b2 n hn; omega
theorem high_le {b:Bench}(p:List Int){n:Nat}(hn:n < b.strokes.length):high b n≤tk b p:=by
 obtain ⟨b1,b2,_⟩:=takes_spec (F:=follows b p) (dur:=high b) (N:=b.strokes.length)
 have h1:=b2 n hn
 have h2:=bN_nonneg (follows b p) (high b) n
 unfold tk
 unfold eN at h1
 omega
theorem who_at {b:Bench}(hf:Fine b){st:Nat}{x:Int}{s:Stroke}(hs:b.strokes[st]?=some s)(h:x∈whoL b st):0≤x∧x≤b.app∧(s.round=true→x=0):=by
 obtain ⟨p,hp,e⟩:=(mem_who hf.a0).1 h
 exact (plan_at hf.a0 (List.mem_filter.1 hp).1).2 st x s e hs
theorem who_len {b:Bench}(hf:Fine b)(st:Nat):(whoL b st).length≤b.app.toNat+1:=by
 unfold whoL
 rw [List.length_map]
 refine Nat.le_trans (List.length_filter_le _ _) ?_
 rw [List.length_range]; exact Nat.le_refl _
theorem bef_asymm:∀{a c:List Int},bef a c=true→bef c a=true→False
 | [],[],h,_=>by cases h
 | [],y :: c,_,h=>by cases h
 | x :: a,[],h,_=>by cases h
 | x :: a,y :: c,h,h'=>by
  simp only [bef] at h h'
  by_cases e:x=y
  ·subst e
   simp only [if_true] at h h'
   exact bef_asymm h h'
  ·rw [if_neg e] at h
   rw [if_neg (Ne.symm e)] at h'
   simp only [decide_eq_true_eq] at h h'
   omega
theorem best_of {b:Bench}{p q:List Int}(hp:p∈plans b)(hq:(bests b)[0]?=some q):tk b q≤tk b p∧(tk b p=tk b q→p∈bests b∧bef p q=false∧(p=q∨1 < (bests b).length)):=by
 have hm:=bestOf_all (tk b) (List.mem_of_getElem? hq)
 have hle:=minT_le (tk b) hp
 refine ⟨by omega,fun e=>?_⟩
 have hpm:p∈bests b:=List.mem_filter.2 ⟨hp,by simp; omega⟩
 have hpw:(bests b).Pairwise fun x y=>bef x y=true:=List.Pairwise.filter _ (plansL_pair (rounds b))
 refine ⟨hpm,?_⟩
 cases hb:bests b with
 | nil=>rw [hb] at hpm; cases hpm
 | cons y t =>
  rw [hb] at hq hpm hpw
  simp at hq
  subst hq
  rcases List.mem_cons.1 hpm with h | h
  ·subst h; exact ⟨bef_irrefl _,.inl rfl⟩
  ·refine ⟨?_,.inr (by cases t with | nil=>cases h | cons z t=>simp)⟩
   cases hc:bef p y with
   | false=>rfl
   | true=>exact (bef_asymm hc ((List.pairwise_cons.1 hpw).1 p h)).elim
theorem any_mem {L:List Int}{x:Int}(h:x∈L):(L.any fun z=>decide (z=x))=true:=List.any_eq_true.2 ⟨x,h,decide_eq_true rfl⟩
theorem rd_at {H:Heap}{r:BeR}{b:Bench}(hb:BeOk H r b){n:Nat}{x:Sk}(hx:r.xs[n]?=some x):rd b n=x.s.round∧high b n=x.s.hi:=by
 have:=hb.at hx
 unfold rd high
 rw [this]; exact ⟨rfl,rfl⟩
set_option maxHeartbeats 8000000 in
theorem c10 {H:Heap}{r:BeR}{b:Bench}{a:Option Addr}{l kk:Nat}{p:List Int}{stI:Int}(hb:BeOk H r b)(hx:Ints H a l p)(hF:Fam H) :
  R (.func 10) [.agg #[.int .i64 r.app,.slice r.ba r.bl r.bk,.slice r.sa r.sl r.sk],.slice a l kk,.int .i64 stI] H=some ⟨.ok (.bool true),H,H.length⟩:=by
 refine run_k (pr 10) P10 (by simp [p10]) rfl ?_
 have l1:=hb.br.isLoc r.bk
 have l2:=hb.st.isLoc r.sk
 have l3:=hx.isLoc kk
 have k21:=c21 hb H (Grow.refl _)
 have k22:=c22 (H:=H) a l kk l3
 have happ:=hb.app
 cases q1:(shortB r.xs r&&isBench b) with
 | false=>rw [q1] at k21; simp (maxDischargeDepth:=8) only [↓SD,SU,SV,SW,simprocAttr,Int.cast_ofNat_Int,small,resV, B10,R10,N10,b10, l1,l2,l3,k21,c25,R10,N10]
 | true =>
 rw [q1] at k21
 obtain ⟨q1a,hB⟩:=Bool.and_eq_true_iff.1 q1
 have hd:=short_sm hb q1a
 by_cases q2:l≤9
 case neg=>simp (maxDischargeDepth:=8) only [↓SD,SU,SV,SW,simprocAttr,Int.cast_ofNat_Int,small,resV, B10,R10,N10,b10, l1,l2,l3,k21,k22,q2,c25,R10,N10]
 have hl:l < 1000000:=by omega
 have k23:=c23 (kk:=kk) hb hx hl H (Grow.refl _)
 cases hP:isPlan b p with
 | false=>rw [hP] at k23; simp (maxDischargeDepth:=8) only [↓SD,SU,SV,SW,simprocAttr,Int.cast_ofNat_Int,small,resV, B10,R10,N10,b10, l1,l2,l3,k21,k22,q2,k23,c25,R10,N10]
 | true =>
 rw [hP] at k23
 have k44:=c44 hb hd stI H (Grow.refl _)
 cases hS:isStroke b stI with
 | false=>rw [hS] at k44; simp (maxDischargeDepth:=8) only [↓SD,SU,SV,SW,simprocAttr,Int.cast_ofNat_Int,small,resV, B10,R10,N10,b10, l1,l2,l3,k21,k22,q2,k23,k44,c25,R10,N10]
 | true =>
 rw [hS] at k44
 have hf:=fine_of hB
 have n6:=hf.n6
 have a0:=hf.a0
 have a3:=hf.a3
 have hlen:p.length=b.strokes.length:=by simp only [isPlan,Bool.and_eq_true,decide_eq_true_eq] at hP; exact hP.1
 have hlb:b.strokes.length=l:=by rw [←hlen]; exact hx.len
 have hsl:=hb.len
 obtain ⟨st,rfl,hst⟩:∃n:Nat,stI=n∧n < b.strokes.length:=by
  have h:=hS
  unfold isStroke at h
  rw [inL_iff] at h
  exact ⟨stI.toNat,by omega,by omega⟩
 have hpp:p∈plans b:=(isPlan_iff hf.a0).1 hP
 obtain ⟨o,ho1,qb,m1,H1,lo1,q,rfl,u1,hlo1,s1,hq⟩:=c50 hb hd hB H (Grow.refl _) hF
 have hF1:Fam H1:=famR ho1 hF
 have k51:=c51 hb hd hB H1 u1.grow hF1
 obtain ⟨o,ho2,a2,m2,H2,lo2,rfl,u2,hlo2,s2⟩:=c54 hb hd hB hS H1 u1.grow hF1
 have hF2:Fam H2:=famR ho2 hF1
 have g2:=u1.grow.trans u2.grow
 have hqb:q∈bests b:=List.mem_of_getElem? hq
 have hqp:q∈plans b:=(List.mem_filter.1 hqb).1
 have hqP:isPlan b q=true:=(isPlan_iff hf.a0).2 hqp
 have hql:q.length=b.strokes.length:=(plan_at hf.a0 hqp).1
 have sQ:=s1.grow u2.grow
 have k23q:=c23 (kk:=m1) (hb.grow g2) sQ (by omega) H2 (Grow.refl _)
 rw [hqP] at k23q
 have k49q:=c49 (kk:=m1) (hb.grow g2) hd sQ (by omega) hB hqP H2 (Grow.refl _)
 rw [show takesN b (en b q true)=tk b q from tk_eq b q] at k49q
 have k49p:=c49 (kk:=kk) hb hd hx hl hB hP H2 g2
 rw [show takesN b (en b p true)=tk b p from tk_eq b p] at k49p
 obtain ⟨qb',qo,qv,hqa,hqv,fq⟩:=sQ.i1 (j:=st) (by omega)
 cases hqa
 have fq:=fq H2 (Grow.refl _)
 obtain ⟨pb,po,pv,hpa,hpv,fp⟩:=hx.i1 (j:=st) (by omega)
 have fp:=fp H2 g2
 have iaq:vv (.ia 1) [.slice (some ⟨qb,0,none⟩) q.length m1,.int .i64 (st:Nat)]=some (.pointer (some ⟨qb,0+st*1,none⟩)):=vv_iaN 1 qb 0 st _ _ _ (by omega)
 have iap:vv (.ia 1) [.slice a l kk,.int .i64 (st:Nat)]=some (.pointer (some ⟨pb,po+st*1,none⟩)):=by rw [hpa]; exact vv_iaN 1 pb po st _ _ _ (by omega)
 rw [Nat.zero_add] at fq iaq
 have hqw:qv∈whoL b st:=(mem_who hf.a0).2 ⟨q,hqb,hqv⟩
 have k30q:=c30 (kk:=m2) qv s2 (by have:=who_len hf st; omega) H2 (Grow.refl _)
 rw [any_mem hqw] at k30q
 have k30p:=c30 (kk:=m2) pv s2 (by have:=who_len hf st; omega) H2 (Grow.refl _)
 have k47:=c47 (k1:=kk) (k2:=m1) (hx.grow g2) sQ (by omega) (by omega) H2 (Grow.refl _)
 have k37:=c37 (m1:=kk) (m2:=m1) (hx.grow g2) sQ (by omega) H2 (Grow.refl _)
 have hwl:=who_len hf st
 have hwp:=whoL_pair b st
 have hw0:0 < (whoL b st).length:=List.length_pos_iff.2 fun h=>by rw [h] at hqw; cases hqw
 have hbl:0 < (bests b).length:=List.length_pos_iff.2 fun h=>by rw [h] at hqb; cases hqb
 obtain ⟨sb0,so0,sk0,hsa0,hsk0,fk0⟩:=hb.st.k5 (j:=st) (by omega)
 have hs0:=hb.at hsk0
 have hwat:∀x∈whoL b st,0≤x∧x≤b.app∧(sk0.s.round=true→x=0):=fun x hx=>who_at hf hs0 hx
 obtain ⟨hbq,hbe⟩:=best_of hpp hq
 have hrs:=rs_le hf hqp
 have htq:=fun n (hn:n < b.strokes.length)=>high_le (b:=b) q hn
 have hpw:(whoL b st).any (fun z=>decide (z=pv))=true∨tk b p≠tk b q:=by
  by_cases e:tk b p=tk b q
  ·exact .inl (any_mem ((mem_who hf.a0).2 ⟨p,(hbe e).1,hpv⟩))
  ·exact .inr e
 generalize hN:tk b q=N at *
 generalize hK:tk b p=K at *
 generalize hWL:whoL b st=WL at *
 generalize hBL:(bests b).length=BL at *
 have hwrap:IntKind.wrap .i64 (r.app+1)=b.app+1:=by rw [happ,wrap_id _ (by omega) (by omega)]
 have zA:((BL:Int) < 1)=False:=eq_false (by omega)
 have zB:(((WL.length:Nat):Int) < 1)=False:=eq_false (by omega)
 have zC:(b.app+1 < ((WL.length:Nat):Int))=False:=eq_false (by omega)
 have j1:=s1.isLoc m1
 have j2:=s2.isLoc m2
 have h1:=u1.len
 have h2:=u2.len
 simp (maxDischargeDepth:=8) only [↓SD,SU,SV,SW,simprocAttr,Int.cast_ofNat_Int,small,resV, B10,R10,N10,b10, l1,l2,l3,j1,j2,k21,k22,q2,k23,k44,ho1,k51,ho2,k23q,k49q,iaq,fq,k30q,hwrap,zA,zB,zC]
 refine loop_ind (G:=(·=_)) (fun j σ=>∃T S lim,σ=⟨T,S,[],H2,lim,227,false⟩∧get T 1=.slice a l kk∧get T 2=.int .i64 (st:Nat)∧get T 3=.pointer (some ⟨3,0,some 1⟩)∧get T 7=.slice (some ⟨qb,0,none⟩) q.length m1∧get T 8=.int .i64 N∧get T 10=.int .i64 BL∧get T 12=.slice a2 WL.length m2∧get T 14=.int .i64 (rsJ b j)∧get T 15=.int .i64 (j:Nat)∧sget S 3=(1,.cells [.int .i64 r.app,.slice r.ba r.bl r.bk,.slice r.sa r.sl r.sk])∧(H.length≤lim)) (b.strokes.length) ?_ ?_ 0 _ (Nat.zero_le _) ⟨_,_,_,rfl,rfl,rfl,rfl,rfl,rfl,rfl,rfl,rfl,rfl,rfl,by omega⟩
 ·rintro c' j s hj ⟨T,S,lim,rfl,t1,t2,t3,t7,t8,t10,t12,t14,t15,s0,hp⟩ ih
  obtain ⟨sb,so,xk,hsa,hxk,fk⟩:=hb.st.k5 (j:=j) (by omega)
  obtain ⟨e1,e2⟩:=rd_at hb hxk
  have hw:=wrap_succ j (by omega)
  have hjs:j < r.sl:=by omega
  have ias:vv (.ia 5) [.slice r.sa r.sl r.sk,.int .i64 (j:Nat)]=some (.pointer (some ⟨sb,so+j*5,none⟩)):=by rw [hsa]; exact vv_iaN 5 sb so j _ _ _ hjs
  have f1:rdO (hcells H2 sb) (so+j*5+1) none=some (.bool xk.s.round):=fk.v1 H2 g2
  have f3:rdO (hcells H2 sb) (so+j*5+2+1) none=some (.int .i64 xk.s.hi):=fk.v3 H2 g2
  have z1:(N < xk.s.hi)=False:=eq_false (by have:=htq j hj; rw [e2] at this; omega)
  have hrb:=rsJ_b hf j
  have hdu:=hf.dur j
  have hsucc:=rsJ_succ b j
  rw [e1,e2] at hsucc
  rw [e2] at hdu
  have hwr:IntKind.wrap .i64 (rsJ b j+xk.s.hi)=rsJ b j+xk.s.hi:=wrap_id _ (by omega) (by omega)
  cases e:xk.s.round with
  | false =>
   rw [e,if_neg (by decide)] at hsucc
   rw [e] at f1
   simp (maxDischargeDepth:=8) only [↓SD,SU,SV,SW,simprocAttr,Int.cast_ofNat_Int,small,resV, q10x1,t1,t2,t3,t7,t8,t10,t12,t14,t15,s0, s0,lt_nat,hjs,l1,l2,l3,j1,j2,ias,f1,f3,z1,hw,sget_sset]
   exact ih _ ⟨_,_,(_),rfl,(by simp [get_set,t1] <;> omega),(by simp [get_set,t2] <;> omega),(by simp [get_set,t3] <;> omega),(by simp [get_set,t7] <;> omega),(by simp [get_set,t8] <;> omega),(by simp [get_set,t10] <;> omega),(by simp [get_set,t12] <;> omega),(by simp [get_set,t14] <;> omega),(by simp [get_set,t15] <;> omega),by simp [sget_sset,s0],by omega⟩
  | true =>
   rw [e,if_pos rfl] at hsucc
   rw [e] at f1
   simp (maxDischargeDepth:=8) only [↓SD,SU,SV,SW,simprocAttr,Int.cast_ofNat_Int,small,resV, q10x1,t1,t2,t3,t7,t8,t10,t12,t14,t15,s0, s0,lt_nat,hjs,l1,l2,l3,j1,j2,ias,f1,f3,z1,hw,hwr,sget_sset]
   exact ih _ ⟨_,_,(_),rfl,(by simp [get_set,t1] <;> omega),(by simp [get_set,t2] <;> omega),(by simp [get_set,t3] <;> omega),(by simp [get_set,t7] <;> omega),(by simp [get_set,t8] <;> omega),(by simp [get_set,t10] <;> omega),(by simp [get_set,t12] <;> omega),(by simp [get_set,t14] <;> omega),(by simp [get_set,t15] <;> omega),by simp [sget_sset,s0],by omega⟩
 ·rintro c' s ⟨T,S,lim,rfl,t1,t2,t3,t7,t8,t10,t12,t14,t15,s0,hp⟩
  have zL:¬b.strokes.length < r.sl:=by omega
  simp (maxDischargeDepth:=8) only [↓SD,SU,SV,SW,simprocAttr,Int.cast_ofNat_Int,small,resV, q10x1,t1,t2,t3,t7,t8,t10,t12,t14,t15,s0, s0,lt_nat,zL,l1,l2,l3,j1,j2,sget_sset]
  refine loop_ind (G:=(·=_)) (fun j σ=>∃T S lim2,σ=⟨T,S,[],H2,lim2,227,false⟩∧get T 1=.slice a l kk∧get T 2=.int .i64 (st:Nat)∧get T 3=.pointer (some ⟨3,0,some 1⟩)∧get T 7=.slice (some ⟨qb,0,none⟩) q.length m1∧get T 8=.int .i64 N∧get T 10=.int .i64 BL∧get T 12=.slice a2 WL.length m2∧get T 14=.int .i64 (rsJ b b.strokes.length)∧get T 16=.int .i64 (j:Nat)∧sget S 3=(1,.cells [.int .i64 r.app,.slice r.ba r.bl r.bk,.slice r.sa r.sl r.sk])∧(H.length≤lim2)) (WL.length) ?_ ?_ 0 _ (Nat.zero_le _) ⟨_,_,_,rfl,(by first | (simp [get_set,t1,t2,t3,t7,t8,t10,t12,t14,t15]; done) | rfl),(by first | (simp [get_set,t1,t2,t3,t7,t8,t10,t12,t14,t15]; done) | rfl),(by first | (simp [get_set,t1,t2,t3,t7,t8,t10,t12,t14,t15]; done) | rfl),(by first | (simp [get_set,t1,t2,t3,t7,t8,t10,t12,t14,t15]; done) | rfl),(by first | (simp [get_set,t1,t2,t3,t7,t8,t10,t12,t14,t15]; done) | rfl),(by first | (simp [get_set,t1,t2,t3,t7,t8,t10,t12,t14,t15]; done) | rfl),(by first | (simp [get_set,t1,t2,t3,t7,t8,t10,t12,t14,t15]; done) | rfl),(by first | (simp [get_set,t1,t2,t3,t7,t8,t10,t12,t14,t15]; done) | rfl),(by first | (simp [get_set,t1,t2,t3,t7,t8,t10,t12,t14,t15]; done) | rfl),(by first | rfl | exact s0),by omega⟩
  ·rintro c' j s hj ⟨T,S,lim2,rfl,t1,t2,t3,t7,t8,t10,t12,t14,t16,s0,hp⟩ ih
   obtain ⟨wb,wo,wv,hwa,hwv,fw⟩:=s2.i1 (j:=j) hj
   have fw:=fw H2 (Grow.refl _)
   have hwm:=List.mem_of_getElem? hwv
   obtain ⟨b1,b2,b3⟩:=hwat wv hwm
   have hw:=wrap_succ j (by omega)
   have iaw:vv (.ia 1) [.slice a2 WL.length m2,.int .i64 (j:Nat)]=some (.pointer (some ⟨wb,wo+j*1,none⟩)):=by rw [hwa]; exact vv_iaN 1 wb wo j _ _ _ hj
   have ias:vv (.ia 5) [.slice r.sa r.sl r.sk,.int .i64 (st:Nat)]=some (.pointer (some ⟨sb0,so0+st*5,none⟩)):=by rw [hsa0]; exact vv_iaN 5 sb0 so0 st _ _ _ (by omega)
   have f1:rdO (hcells H2 sb0) (so0+st*5+1) none=some (.bool sk0.s.round):=fk0.v1 H2 g2
   have y1:(wv < 0)=False:=eq_false (by omega)
   have y2:(r.app < wv)=False:=eq_false (by omega)
   have y3:sk0.s.round=true→(wv=0)=True:=fun h=>eq_true (b3 h)
   cases j with
   | zero =>
    have y4:((0:Int) < ((0:Nat):Int))=False:=eq_false (by omega)
    have iaw0:vv (.ia 1) [.slice a2 WL.length m2,.int .i64 0]=some (.pointer (some ⟨wb,wo,none⟩)):=by have h:=iaw; simpa using h
    have fw0:rdO (hcells H2 wb) wo none=some (.int .i64 wv):=by have h:=fw; simpa using h
    have z0:((0:Int) < ((WL.length:Nat):Int))=True:=eq_true (by omega)
    have hw0:IntKind.wrap .i64 (0+1)=1:=by rw [wrap_id _ (by omega) (by omega)]; rfl
    have hw1:IntKind.wrap .i64 1=1:=by rw [wrap_id _ (by omega) (by omega)]
    cases e:sk0.s.round with
    | false =>
     rw [e] at f1
     simp (maxDischargeDepth:=8) only [↓SD,SU,SV,SW,simprocAttr,Int.cast_ofNat_Int,small,resV, q10x0,t1,t2,t3,t7,t8,t10,t12,t14,t16,s0, s0,lt_nat,hj,l1,l2,l3,j1,j2,iaw0,fw0,z0,hw0,hw1,ias,f1,y1,y2,y4,hw,sget_sset]
     exact ih _ ⟨_,_,(_),rfl,(by simp [get_set,t1] <;> omega),(by simp [get_set,t2] <;> omega),(by simp [get_set,t3] <;> omega),(by simp [get_set,t7] <;> omega),(by simp [get_set,t8] <;> omega),(by simp [get_set,t10] <;> omega),(by simp [get_set,t12] <;> omega),(by simp [get_set,t14] <;> omega),(by simp [get_set,t16] <;> omega),by simp [sget_sset,s0],by omega⟩
    | true =>
     rw [e] at f1
     have y3:=y3 e
     simp (maxDischargeDepth:=8) only [↓SD,SU,SV,SW,simprocAttr,Int.cast_ofNat_Int,small,resV, q10x0,t1,t2,t3,t7,t8,t10,t12,t14,t16,s0, s0,lt_nat,hj,l1,l2,l3,j1,j2,iaw0,fw0,z0,hw0,hw1,ias,f1,y1,y2,y3,y4,hw,sget_sset]
     exact ih _ ⟨_,_,(_),rfl,(by simp [get_set,t1] <;> omega),(by simp [get_set,t2] <;> omega),(by simp [get_set,t3] <;> omega),(by simp [get_set,t7] <;> omega),(by simp [get_set,t8] <;> omega),(by simp [get_set,t10] <;> omega),(by simp [get_set,t12] <;> omega),(by simp [get_set,t14] <;> omega),(by simp [get_set,t16] <;> omega),by simp [sget_sset,s0],by omega⟩
   | succ i =>
    obtain ⟨wb',wo',wu,hwa',hwu,fu⟩:=s2.i1 (j:=i) (by omega)
    rw [hwa] at hwa'
    cases hwa'
    have fu:=fu H2 (Grow.refl _)
    have hlt:wu < wv:=by
     obtain ⟨i1,i2⟩:=List.getElem?_eq_some_iff.1 hwu
     obtain ⟨i3,i4⟩:=List.getElem?_eq_some_iff.1 hwv
     have:=List.pairwise_iff_getElem.1 hwp i (i+1) i1 i3 (by omega)
     omega
    have y4:((0:Int) < ((i+1:Nat):Int))=True:=eq_true (by omega)
    have y5:(wv≤wu)=False:=eq_false (by omega)
    have hwm1:IntKind.wrap .i64 (((i+1:Nat):Int) - 1)=((i:Nat):Int):=by rw [wrap_id _ (by omega) (by omega)]; omega
    have iau:vv (.ia 1) [.slice a2 WL.length m2,.int .i64 (i:Nat)]=some (.pointer (some ⟨wb,wo+i*1,none⟩)):=by rw [hwa]; exact vv_iaN 1 wb wo i _ _ _ (by omega)
    cases e:sk0.s.round with
    | false =>
     rw [e] at f1
     simp (maxDischargeDepth:=8) only [↓SD,SU,SV,SW,simprocAttr,Int.cast_ofNat_Int,small,resV, q10x0,t1,t2,t3,t7,t8,t10,t12,t14,t16,s0, s0,lt_nat,hj,l1,l2,l3,j1,j2,iaw,iau,fw,fu,ias,f1,y1,y2,y4,y5,hw,hwm1,sget_sset]
     exact ih _ ⟨_,_,(_),rfl,(by simp [get_set,t1] <;> omega),(by simp [get_set,t2] <;> omega),(by simp [get_set,t3] <;> omega),(by simp [get_set,t7] <;> omega),(by simp [get_set,t8] <;> omega),(by simp [get_set,t10] <;> omega),(by simp [get_set,t12] <;> omega),(by simp [get_set,t14] <;> omega),(by simp [get_set,t16] <;> omega),by simp [sget_sset,s0],by omega⟩
    | true =>
     rw [e] at f1
     have y3:=y3 e
     simp (maxDischargeDepth:=8) only [↓SD,SU,SV,SW,simprocAttr,Int.cast_ofNat_Int,small,resV, q10x0,t1,t2,t3,t7,t8,t10,t12,t14,t16,s0, s0,lt_nat,hj,l1,l2,l3,j1,j2,iaw,iau,fw,fu,ias,f1,y1,y2,y3,y4,y5,hw,hwm1,sget_sset]
     exact ih _ ⟨_,_,(_),rfl,(by simp [get_set,t1] <;> omega),(by simp [get_set,t2] <;> omega),(by simp [get_set,t3] <;> omega),(by simp [get_set,t7] <;> omega),(by simp [get_set,t8] <;> omega),(by simp [get_set,t10] <;> omega),(by simp [get_set,t12] <;> omega),(by simp [get_set,t14] <;> omega),(by simp [get_set,t16] <;> omega),by simp [sget_sset,s0],by omega⟩
  ·rintro c' s ⟨T,S,lim2,rfl,t1,t2,t3,t7,t8,t10,t12,t14,t16,s0,hp⟩
   have x1:(N < rsJ b b.strokes.length)=False:=eq_false (by omega)
   have x2:(K < N)=False:=eq_false (by omega)
   by_cases e:K=N
   ·have x3:(N < K)=False:=eq_false (by omega)
    obtain ⟨c1,c2,c3⟩:=hbe e
    rw [c2] at k47
    rw [hpw.resolve_right (fun h=>h e)] at k30p
    by_cases ep:p=q
    ·rw [decide_eq_true ep] at k37
     simp (maxDischargeDepth:=8) only [↓SD,SU,SV,SW,simprocAttr,Int.cast_ofNat_Int,small,resV, q10x0,t1,t2,t3,t7,t8,t10,t12,t14,t16,s0, s0,lt_nat,Nat.lt_irrefl,l1,l2,l3,j1,j2,k49p,x1,x2,x3,k47,iap,fp,k30p,k37,sget_sset,c25,R10,N10]
     first | (rw [gc_ite (by omega)]; simp [flat]; done) | (simp [gcR,flat]; omega)
    ·rw [decide_eq_false ep] at k37
     have x4:((1:Int) < ((BL:Nat):Int))=True:=eq_true (by have:=c3.resolve_left ep; omega)
     simp (maxDischargeDepth:=8) only [↓SD,SU,SV,SW,simprocAttr,Int.cast_ofNat_Int,small,resV, q10x0,t1,t2,t3,t7,t8,t10,t12,t14,t16,s0, s0,lt_nat,Nat.lt_irrefl,l1,l2,l3,j1,j2,k49p,x1,x2,x3,x4,k47,iap,fp,k30p,k37,sget_sset,c25,R10,N10]
     first | (rw [gc_ite (by omega)]; simp [flat]; done) | (simp [gcR,flat]; omega)
   ·have x3:(N < K)=True:=eq_true (by omega)
    simp (maxDischargeDepth:=8) only [↓SD,SU,SV,SW,simprocAttr,Int.cast_ofNat_Int,small,resV, q10x0,t1,t2,t3,t7,t8,t10,t12,t14,t16,s0, s0,lt_nat,Nat.lt_irrefl,l1,l2,l3,j1,j2,k49p,x1,x2,x3,sget_sset,c25,R10,N10]
    first | (rw [gc_ite (by omega)]; simp [flat]; done) | (simp [gcR,flat]; omega)
end Go.Pi.L.Ben
