/- Benches: which hands a stroke has in the best plans: sorted, each once. -/
import Derived.Test.YtfndfpbdgjoilaaGreatDoorDJ
import Derived.Test.YtfndfpbdgjoilaaGreatDoorDM
import Derived.Test.YtfndfpbdgjoilaaGreatDoorDE
set_option linter.all false
set_option maxRecDepth 100000
namespace BM
open Go
theorem srt_pair (zs:List Int):(Pi.Q.srt zs).Pairwise (·≤·):=by
 have h:=List.pairwise_mergeSort (le:=fun x y:Int=>decide (x≤y)) (fun a b c h1 h2=>by simp at *; omega) (fun a b=>by simp; omega) zs
 exact h.imp fun h=>by simpa using h
theorem mem_srt {zs:List Int}{z:Int}:z∈Pi.Q.srt zs↔z∈zs:=(List.mergeSort_perm zs _).mem_iff
theorem comp_upto {d:Array Int}(hd:∀i j,i≤j→j < d.size→d[i]!≤d[j]!):∀m,m≤d.size→(Lib.compactUpTo d m).Pairwise (· < ·)∧(∀x∈Lib.compactUpTo d m,∃j,j < m∧x=d[j]!)∧∀j,j < m→d[j]!∈Lib.compactUpTo d m
 | 0,_=>⟨by simp [Lib.compactUpTo],fun x hx=>by simp [Lib.compactUpTo] at hx,fun j hj=>by omega⟩
 | m+1,hm=>by
  obtain ⟨h1,h2,h3⟩:=comp_upto hd m (by omega)
  rw [Lib.compactUpTo_succ]
  by_cases hk:Lib.keeps d m=true
  ·rw [if_pos hk]
   refine ⟨List.pairwise_append.2 ⟨h1,List.pairwise_singleton _ _,fun x hx y hy=>?_⟩,fun x hx=>?_,fun j hj=>?_⟩
   ·rw [List.mem_singleton.1 hy]
    obtain ⟨j,hj,rfl⟩:=h2 x hx
    have hk':=of_decide_eq_true hk
    have hne:=hk'.resolve_left (by omega)
    have a1:=hd j (m - 1) (by omega) (by omega)
    have a2:=hd (m - 1) m (by omega) (by omega)
    omega
   ·rcases List.mem_append.1 hx with hx | hx
    ·obtain ⟨j,hj,e⟩:=h2 x hx; exact ⟨j,by omega,e⟩
    ·exact ⟨m,by omega,List.mem_singleton.1 hx⟩
   ·rcases Nat.lt_or_ge j m with h | h
    ·exact List.mem_append_left _ (h3 j h)
    ·have:j=m:=by omega
     subst this; exact List.mem_append_right _ (List.mem_singleton.2 rfl)
  ·rw [if_neg hk,List.append_nil]
   refine ⟨h1,fun x hx=>?_,fun j hj=>?_⟩
   ·obtain ⟨j,hj,e⟩:=h2 x hx; exact ⟨j,by omega,e⟩
   ·rcases Nat.lt_or_ge j m with h | h
    ·exact h3 j h
    ·have:j=m:=by omega
     subst this
     have hk':¬(j=0∨d[j]!≠d[j - 1]!):=fun h=>hk (decide_eq_true h)
     have e:d[j]! = d[j - 1]!:=Classical.byContradiction fun h=>hk' (.inr h)
     have h0:j≠0:=fun h=>hk' (.inl h)
     rw [e]; exact h3 (j - 1) (by omega)
theorem comp_spec {zs:List Int}(h:zs.Pairwise (·≤·)):(Lib.compact zs).Pairwise (· < ·)∧∀z,z∈Lib.compact zs↔z∈zs:=by
 have hd:∀i j,i≤j→j < zs.toArray.size→zs.toArray[i]!≤zs.toArray[j]!:=fun i j hij hj=>by
  have hj':j < zs.length:=by simpa using hj
  rw [getElem!_pos _ i (by simpa using (by omega:i < zs.length)),getElem!_pos _ j hj]
  rcases Nat.lt_or_ge i j with h1 | h1
  ·exact List.pairwise_iff_getElem.1 h i j (by omega) hj' h1
  ·have:i=j:=by omega
   subst this; exact Int.le_refl _
 obtain ⟨h1,h2,h3⟩:=comp_upto hd zs.length (by simp)
 refine ⟨h1,fun z=>⟨fun hz=>?_,fun hz=>?_⟩⟩
 ·obtain ⟨j,hj,e⟩:=h2 z hz
  rw [e,getElem!_pos _ j (by simpa using hj)]
  simp
 ·obtain ⟨j,hj,e⟩:=List.mem_iff_getElem.1 hz
  have:=h3 j hj
  rw [getElem!_pos _ j (by simpa using hj)] at this
  have e2:zs.toArray[j]=z:=by simpa using e
  rw [e2] at this; exact this
theorem inc_eq:∀{xs ys:List Int},xs.Pairwise (· < ·)→ys.Pairwise (· < ·)→(∀z,z∈xs↔z∈ys)→xs=ys
 | [],[],_,_,_=>rfl
 | [],y :: ys,_,_,h=>by have:=(h y).2 (List.mem_cons_self ..); cases this
 | x :: xs,[],_,_,h=>by have:=(h x).1 (List.mem_cons_self ..); cases this
 | x :: xs,y :: ys,hx,hy,h=>by
  obtain ⟨a1,a2⟩:=List.pairwise_cons.1 hx
  obtain ⟨b1,b2⟩:=List.pairwise_cons.1 hy
  have e:x=y:=by
   have h1:=(h x).1 (List.mem_cons_self ..)
   have h2:=(h y).2 (List.mem_cons_self ..)
   rcases List.mem_cons.1 h1 with h1 | h1
   ·exact h1
   ·rcases List.mem_cons.1 h2 with h2 | h2
    ·exact h2.symm
    ·have:=b1 x h1; have:=a1 y h2; omega
  subst e
  rw [inc_eq a2 b2 fun z=>⟨fun hz=>?_,fun hz=>?_⟩]
  ·rcases List.mem_cons.1 ((h z).1 (List.mem_cons_of_mem _ hz)) with e | e
   ·have:=a1 z hz; omega
   ·exact e
  ·rcases List.mem_cons.1 ((h z).2 (List.mem_cons_of_mem _ hz)) with e | e
   ·have:=b1 z hz; omega
   ·exact e
theorem whoL_pair (b:Bench)(st:Nat):(whoL b st).Pairwise (· < ·):=by
 unfold whoL
 rw [List.pairwise_map]
 exact (List.Pairwise.filter _ List.pairwise_lt_range).imp fun h=>by omega
theorem who_eq {b:Bench}(h0:0≤b.app){st:Nat}(hst:∀p∈bests b,st < p.length):Lib.compact (Pi.Q.srt ((bests b).map fun p=>p.getD st 0))=whoL b st:=by
 obtain ⟨h1,h2⟩:=comp_spec (srt_pair ((bests b).map fun p=>p.getD st 0))
 refine inc_eq h1 (whoL_pair b st) fun z=>?_
 rw [h2,mem_srt,mem_who h0,List.mem_map]
 refine ⟨fun ⟨p,hp,e⟩=>⟨p,hp,?_⟩,fun ⟨p,hp,e⟩=>⟨p,hp,?_⟩⟩
 ·rw [List.getElem?_eq_getElem (hst p hp),←e,List.getD_eq_getElem?_getD,List.getElem?_eq_getElem (hst p hp)]; rfl
 ·rw [List.getD_eq_getElem?_getD,e]; rfl
end BM
set_option maxRecDepth 100000
namespace Go.Pi.L.Ben
open Go Go.Pi Go.Pi.L Go.Pi.E Go.Pi.Ben BM

theorem cells_map:∀zs:List Int,cells encI zs=zs.map (Value.int .i64)
 | []=>rfl
 | z :: zs=>by
  have:=cells_map zs
  unfold cells at this ⊢
  rw [List.map_cons,List.flatten_cons,this]; rfl
theorem rowset {n0:Nat}{H:Heap}{b l m:Nat}{zs zs':List Int}(h:Bld n0 H 1 (some ⟨b,0,none⟩) l m (cells encI zs))(hF:Fam H)(hl:zs'.length=zs.length) :
  zs.length=l∧m=1∧∃f,H[b]?=some ⟨.cells (cells encI zs),true,true,some f⟩∧n0≤f∧n0≤b ∧
   ∃H1,(kill f H).set b ⟨.cells (cells encI zs'),true,true,some f⟩=H1∧Bld n0 H1 1 (some ⟨b,0,none⟩) l 1 (cells encI zs')∧Fam H1∧(∀H0,Up H0 H→H0.length≤n0→Up H0 H1)∧H1.length=H.length:=by
 have hlen:zs.length=l:=by have:=h.len; rw [cells_map,List.length_map] at this; omega
 rcases h.ok with ⟨h0,_⟩ | ⟨b',f,hb',rfl,h3,h4,h5⟩
 ·cases h0
 ·cases hb'
  have hbl:=(List.getElem?_eq_some_iff.1 h5).1
  refine ⟨hlen,rfl,f,h5,h4,h3,_,rfl,⟨by rw [cells_map,List.length_map]; omega,.inr ⟨b,f,rfl,rfl,h3,h4,by rw [List.getElem?_set_self (by rw [kill_length]; exact hbl)]⟩⟩,?_,fun H0 hu hn0=>?_,by rw [List.length_set,kill_length]⟩
  ·refine (Fam.kill hF f).set (b0:=⟨.cells (cells encI zs),true,true,some f⟩) ?_ rfl
   rw [kill_get,h5]; simp
  ·refine Up.set ⟨by rw [kill_length]; exact hu.len,fun j hj=>?_⟩ (by omega)
   rw [kill_get]
   cases hx:H[j]? with
   | none=>rw [←hu.old j hj,hx]; rfl
   | some x =>
    have:¬(x.fam=some f∧x.tip=false):=fun hc=>by have:=hF j x f hx hc.1; omega
    simp only [Option.map_some,if_neg this]
    rw [←hu.old j hj,hx]
theorem spl_all {c v:List Value}(h:v.length=c.length):splice c 0 v=v:=by
 unfold splice
 rw [List.take_zero,List.nil_append,List.drop_eq_nil_of_le (by omega),List.append_nil]
theorem c96 {n0:Nat}{H:Heap}{b l m:Nat}{zs:List Int}(h:Bld n0 H 1 (some ⟨b,0,none⟩) l m (cells encI zs))(hF:Fam H)(h0:0 < l)(h1:l < 1000000) :
  ∃H1 lo,R (.func 96) [.slice (some ⟨b,0,none⟩) l m] H=some ⟨.ok (.tuple #[]),H1,lo⟩∧n0≤lo∧Bld n0 H1 1 (some ⟨b,0,none⟩) l 1 (cells encI (Q.srt zs))∧Fam H1∧(∀H0,Up H0 H→H0.length≤n0→Up H0 H1)∧H1.length=H.length:=by
 obtain ⟨e1,e2,f,h5,h4,h3,H1,hH1,q1,q2,q3,q4⟩:=rowset h hF (Q.srt_len zs)
 refine ⟨H1,min f b,runL_prim (g:=Q.pSort) (by rfl) ?_,by omega,q1,q2,q3,q4⟩
 have ht:Q.ints64 ((cells encI zs).take l)=some zs:=by
  rw [cells_map,List.take_of_length_le (by rw [List.length_map]; omega)]; exact Q.ints64_enc zs
 unfold Q.pSort
 simp only [h5,ht]
 rw [if_pos ⟨by rw [cells_map,List.length_map]; omega,h0,h1⟩,spl_all (by rw [cells_map,List.length_map,List.length_map,Q.srt_len]),←cells_map,hH1]
theorem c97 {n0:Nat}{H:Heap}{b l m:Nat}{zs:List Int}(h:Bld n0 H 1 (some ⟨b,0,none⟩) l m (cells encI zs))(hF:Fam H)(h0:0 < l)(h1:l < 1000000) :
  ∃H1 lo,R (.func 97) [.slice (some ⟨b,0,none⟩) l m] H=some ⟨.ok (.slice (some ⟨b,0,none⟩) (Lib.compact zs).length m),H1,lo⟩∧n0≤lo∧Ints H1 (some ⟨b,0,none⟩) (Lib.compact zs).length (Lib.compact zs)∧Fam H1∧(∀H0,Up H0 H→H0.length≤n0→Up H0 H1):=by
 obtain ⟨e1,e2,f,h5,h4,h3,H1,hH1,q1,q2,q3,q4⟩:=rowset h hF (Q.cmpL_len zs)
 refine ⟨H1,min f b,runL_prim (g:=Q.pCompact) (by rfl) ?_,by omega,?_,q2,q3⟩
 ·have ht:Q.ints64 ((cells encI zs).take l)=some zs:=by
   rw [cells_map,List.take_of_length_le (by rw [List.length_map]; omega)]; exact Q.ints64_enc zs
  unfold Q.pCompact
  simp only [h5,ht]
  rw [if_pos ⟨by rw [cells_map,List.length_map]; omega,h0,h1⟩,spl_all (by rw [cells_map,List.length_map,List.length_map,Q.cmpL_len]),←cells_map,hH1]
 ·have hs:=q1.sl encI_len (by decide)
  refine ⟨rfl,hs.loc,fun j x hx=>hs.rd j x ?_⟩
  unfold Q.cmpL
  rw [List.getElem?_append_left (List.getElem?_eq_some_iff.1 hx).1]; exact hx
theorem e54 {H:Heap}{r:BeR}{b:Bench}(hb:BeOk H r b)(hd:SmB r)(stI:Int)(h:(isBench b&&isStroke b stI)=false):∀H',Grow H H'→R (.func 54) [.agg #[.int .i64 r.app,.slice r.ba r.bl r.bk,.slice r.sa r.sl r.sk],.int .i64 stI] H'=some ⟨.ok (.tuple #[.slice none 0 0,.int .i64 2]),H',H'.length⟩:=by
 intro H' hg
 refine run_k (pr 54) P54 (by simp [p54]) rfl ?_
 have l1:=hb.br.isLoc r.bk
 have l2:=hb.st.isLoc r.sk
 have k74:=c74 hb hd H' hg
 have k87:=c87 hb hd stI H' hg
 cases q:isBench b with
 | false=>rw [q] at k74; simp (maxDischargeDepth:=8) only [↓SD,SU,SV,SW,simprocAttr,Int.cast_ofNat_Int,small,resV, B54,R54,N54,b54, l1,l2,k74,R54,N54]
 | true =>
  rw [q,Bool.true_and] at h
  rw [q] at k74
  rw [h] at k87
  simp (maxDischargeDepth:=8) only [↓SD,SU,SV,SW,simprocAttr,Int.cast_ofNat_Int,small,resV, B54,R54,N54,b54, l1,l2,k74,k87,R54,N54]
set_option maxHeartbeats 1000000 in
theorem c54 {H:Heap}{r:BeR}{b:Bench}(hb:BeOk H r b)(hd:SmB r)(hB:isBench b=true){st:Nat}(hS:isStroke b (st:Nat)=true) :
  ∀H',Grow H H'→Fam H'→Yes (R (.func 54) [.agg #[.int .i64 r.app,.slice r.ba r.bl r.bk,.slice r.sa r.sl r.sk],.int .i64 (st:Nat)] H') (QP H' 1 encI (whoL b st) (.int .i64 0)):=by
 intro H' hg hF
 have hf:=fine_of hB
 have hst:st < b.strokes.length:=by unfold isStroke at hS; rw [inL_iff] at hS; omega
 have hbp:∀p∈bests b,st < p.length:=fun p hp=>by
  have hp1:p∈plans b:=(List.mem_filter.1 hp).1
  unfold plans at hp1
  rw [mem_plansL] at hp1
  rw [hp1.1]; simp [rounds]; exact hst
 refine run_y (pr 54) P54 (by simp [p54]) rfl ?_
 have l1:=hb.br.isLoc r.bk
 have l2:=hb.st.isLoc r.sk
 have k74:=c74 hb hd H' hg
 have k87:=c87 hb hd (st:Nat) H' hg
 rw [hB] at k74
 rw [hS] at k87
 obtain ⟨o,ho,bb,off,m0,H1,lo1,xs,rfl,u1,hlo1,s1,h1,h2,h3,h4⟩:=c92 hb hf H' hg hF
 have hF1:Fam H1:=famR ho hF
 have l3:=s1.isLoc m0
 have h1l:=u1.len
 let zz:=fun x:Tm=>x.p.getD st 0
 simp (maxDischargeDepth:=8) only [↓SD,SU,SV,SW,simprocAttr,Int.cast_ofNat_Int,small,resV, B54,R54,N54,b54, l1,l2,l3,k74,k87,ho]
 refine loop_ind (G:=(Yes · (QP H' 1 encI (whoL b st) (.int .i64 0)))) (fun j σ=>∃T S H3 al m lim,σ=⟨T,S,[],H3,lim,38,false⟩∧get T 1=.int .i64 (st:Nat)∧get T 6=.slice al j m∧get T 19=.slice (some ⟨bb,off,none⟩) xs.length m0∧get T 20=.int .i64 xs.length∧get T 21=.int .i64 (j:Nat)∧(Bld H1.length H3 1 al j m (cells encI ((xs.take j).map zz))∧Up H1 H3∧Fam H3∧H'.length≤lim)) (xs.length) ?_ ?_ 0 _ (Nat.zero_le _) ⟨_,_,_,_,_,_,rfl,rfl,rfl,rfl,rfl,rfl,⟨Bld.nil _ _ _,Up.refl _,hF1,by omega⟩⟩
 ·rintro c' j s hj ⟨T,S,H3,al,m,lim,rfl,t1,t6,t19,t20,t21,hp⟩ ih
  obtain ⟨hbd,hu,hF3,hlim⟩:=hp
  have hw:=wrap_succ j (by omega)
  have l8:isLoc (.slice al j m)=false:=hbd.isLoc _ _
  have hul:=hu.len
  obtain ⟨b1,o1,x,hxa,hx1,hat⟩:=s1.at eT_len (by decide) hj
  cases hxa
  have e1:=hat.all H3 hu.grow
  have hxm:=List.mem_of_getElem? hx1
  obtain ⟨cb,x1,x2,x3,x4,x5,x6⟩:=h4 x hxm
  have hxp:x.p∈bests b:=by rw [←h1]; exact List.mem_map_of_mem hxm
  have lx:isLoc (.slice x.a x.l x.m)=false:=x5.isLoc _
  have e1:rdO (hcells H3 bb) (off+j*2) (some 2)=some (.agg #[.slice x.a x.l x.m,.int .i64 x.t]):=e1
  have hsl:st < x.l:=by rw [x2]; exact hbp _ hxp
  obtain ⟨cb',co,v,hva,hv1,fv⟩:=x5.i1 hsl
  have fv:=fv H3 hu.grow
  have hzz:zz x=v:=getD_of hv1
  obtain ⟨H6,p1,p2,p3,hF6⟩:=hbd.appF hF3 (by decide) (by decide) (by omega) hul [.int .i64 v] rfl
  have u6:=p3.up hbd hu (Nat.le_refl _)
  have hl6:=u6.len
  have iax:vv (.ia 1) [.slice x.a x.l x.m,.int .i64 (st:Nat)]=some (.pointer (some ⟨cb',co+st*1,none⟩)):=by rw [hva]; exact vv_iaN 1 cb' co st _ _ _ hsl
  have hcl:cells encI ((xs.take (j+1)).map zz)=cells encI ((xs.take j).map zz)++[.int .i64 v]:=by
   rw [take_get hx1,List.map_append,List.map_singleton,hzz,cells_app]; rfl
  simp (maxDischargeDepth:=8) only [↓SD,SU,SV,SW,simprocAttr,Int.cast_ofNat_Int,small,resV, q54x0,t1,t6,t19,t20,t21, lt_nat,hj,l3,l8,lx,e1,iax,fv,hw,p1,k_fixb]
  exact ih _ ⟨_,_,(H6),(some ⟨H3.length,0,none⟩),(1),(_),rfl,(by simp [get_set,t1] <;> omega),(by simp [get_set,t6] <;> omega),(by simp [get_set,t19] <;> omega),(by simp [get_set,t20] <;> omega),(by simp [get_set,t21] <;> omega),⟨by rw [hcl]; exact p2,u6,hF6,by omega⟩⟩
 ·rintro c' s ⟨T,S,H3,al,m,lim,rfl,t1,t6,t19,t20,t21,hp⟩
  obtain ⟨hbd,hu,hF3,hlim⟩:=hp
  have l8:isLoc (.slice al xs.length m)=false:=hbd.isLoc _ _
  obtain ⟨ab,rfl⟩:∃ab,al=some ⟨ab,0,none⟩:=by
   rcases hbd.ok with ⟨_,h,_⟩ | ⟨ab,f,h,_⟩
   ·omega
   ·exact ⟨ab,h⟩
  rw [List.take_length,show xs.map zz=(bests b).map (fun p=>p.getD st 0) by rw [←h1,List.map_map]; rfl] at hbd
  obtain ⟨H4,lo4,r1,r2,r3,r4,r5,r6⟩:=c96 hbd hF3 h2 (by omega)
  obtain ⟨H5,lo5,t1,t2,t3,t4,t5⟩:=c97 r3 r4 h2 (by omega)
  have hm:m=1:=(rowset hbd hF3 (Q.srt_len _)).2.1
  subst hm
  rw [who_eq hf.a0 hbp] at t1 t3
  have l9:isLoc (.slice (some ⟨ab,0,none⟩) (whoL b st).length 1)=false:=rfl
  simp (maxDischargeDepth:=8) only [↓SD,SU,SV,SW,simprocAttr,Int.cast_ofNat_Int,small,resV, q54x0,t1,t6,t19,t20,t21, lt_nat,Nat.lt_irrefl,l3,l8,l9,r1,t1,R54,N54]
  rw [yes_some]
  exact gc_sp t3 (u1.trans (t5 _ (r5 _ hu (Nat.le_refl _)) (Nat.le_refl _))) (by omega)
end Go.Pi.L.Ben
set_option maxRecDepth 100000
namespace Go.Pi.L.Ben
open Go Go.Pi Go.Pi.L Go.Pi.E Go.Pi.Ben BM

theorem e55 {H:Heap}{r:BeR}{b:Bench}{a:Option Addr}{l kk:Nat}{p:List Int}(hb:BeOk H r b)(hd:SmB r)(hx:Ints H a l p)(hl:l < 1000000)(st:Int)(h:(isBench b&&(isPlan b p&&isStroke b st))=false) :
  ∀H',Grow H H'→R (.func 55) [.agg #[.int .i64 r.app,.slice r.ba r.bl r.bk,.slice r.sa r.sl r.sk],.slice a l kk,.int .i64 st] H'=some ⟨.ok (.tuple #[.int .i64 0,.int .i64 0,.int .i64 2]),H',H'.length⟩:=by
 intro H' hg
 refine run_k (pr 55) P55 (by simp [p55]) rfl ?_
 have k1:=c74 hb hd H' hg
 have k2:=c75 (kk:=kk) hb hx hl H' hg
 have k3:=c87 hb hd st H' hg
 have l3:=hx.isLoc kk
 have l1:=hb.br.isLoc r.bk
 have l2:=hb.st.isLoc r.sk
 cases q:isBench b with
 | false=>rw [q] at k1; simp (maxDischargeDepth:=8) only [↓SD,SU,SV,SW,simprocAttr,Int.cast_ofNat_Int,small,resV, B55,R55,N55,b55, l1,l2,l3,k1,R55,N55]
 | true =>
  rw [q,Bool.true_and] at h
  rw [q] at k1
  cases q2:isPlan b p with
  | false=>rw [q2] at k2; simp (maxDischargeDepth:=8) only [↓SD,SU,SV,SW,simprocAttr,Int.cast_ofNat_Int,small,resV, B55,R55,N55,b55, l1,l2,l3,k1,k2,R55,N55]
  | true =>
   rw [q2,Bool.true_and] at h
   rw [q2] at k2
   rw [h] at k3
   simp (maxDischargeDepth:=8) only [↓SD,SU,SV,SW,simprocAttr,Int.cast_ofNat_Int,small,resV, B55,R55,N55,b55, l1,l2,l3,k1,k2,k3,R55,N55]
def whoJ (b:Bench)(st j:Nat):List Int:=((List.range j).filter fun h:Nat=>(bests b).any fun p=>decide (p[st]?=some (h:Int))).map fun h:Nat=>(h:Int)
theorem whoJ_succ (b:Bench)(st j:Nat):whoJ b st (j+1)=whoJ b st j++(if ((bests b).any fun p=>decide (p[st]?=some (j:Int)))=true then [(j:Int)] else []):=by
 unfold whoJ
 rw [List.range_succ,List.filter_append,List.map_append]
 congr 1
 simp only [List.filter_cons,List.filter_nil]
 split <;> rfl
theorem whoJ_len (b:Bench)(st j:Nat):(whoJ b st j).length≤j:=by
 unfold whoJ
 rw [List.length_map]
 refine Nat.le_trans (List.length_filter_le _ _) ?_
 rw [List.length_range]; exact Nat.le_refl _
def metI (b:Bench)(st:Nat)(h:Int)(i:Nat):Bool:=((bests b).take i).any fun p=>decide (p[st]?=some h)
theorem metI_succ {b:Bench}{st:Nat}{h:Int}{i:Nat}{q:List Int}(hq:(bests b)[i]?=some q){x:Int}(hx:q[st]?=some x):metI b st h (i+1)=(metI b st h i||decide (x=h)):=by
 unfold metI
 rw [take_get hq,List.any_append]
 simp [hx]
set_option maxHeartbeats 1000000 in
theorem c56 {H:Heap}{r:BeR}{b:Bench}{a:Option Addr}{m:Nat}{vs:List (Option Addr×Nat×Nat)}(hb:BeOk H r b)(hf:Fine b)(hs:Sl H 1 encV a (bests b).length vs)(hv:Vs H vs (bests b)){st:Nat}(hst:st < b.strokes.length) :
  ∀H',Grow H H'→Fam H'→Yes (R (.func 56) [.agg #[.int .i64 r.app,.slice r.ba r.bl r.bk,.slice r.sa r.sl r.sk],.slice a (bests b).length m,.int .i64 (st:Nat)] H') (QS H' 1 encI (whoL b st)):=by
 intro H' hg hF
 have a0:=hf.a0
 have a3:=hf.a3
 have happ:=hb.app
 have hbp:∀p∈bests b,p.length=b.strokes.length:=fun p hp=>by
  have hp1:p∈plans b:=(List.mem_filter.1 hp).1
  unfold plans at hp1
  rw [mem_plansL] at hp1
  rw [hp1.1]; simp [rounds]
 have hbl:(bests b).length≤4096:=by
  have h1:(bests b).length≤(plans b).length:=List.length_filter_le _ _
  have:=plans_len hf
  omega
 refine run_y (pr 56) P56 (by simp [p56]) rfl ?_
 have l1:=hb.br.isLoc r.bk
 have l2:=hb.st.isLoc r.sk
 have l3:=hs.isLoc m
 obtain ⟨N,hN⟩:∃N,(bests b).length=N:=⟨_,rfl⟩
 rw [hN] at hs l3 ⊢
 obtain ⟨A,hA⟩:∃A:Nat,r.app=A:=⟨r.app.toNat,by omega⟩
 have hA3:A≤3:=by omega
 have hW:whoL b st=whoJ b st (A+1):=by unfold whoL whoJ; rw [show b.app.toNat=A by omega]
 rw [hW]
 simp (maxDischargeDepth:=8) only [↓SD,SU,SV,SW,simprocAttr,Int.cast_ofNat_Int,small,resV, B56,R56,N56,b56, l1,l2,l3]
 refine loop_ind (G:=(Yes · (QS H' 1 encI (whoJ b st (A+1))))) (fun j σ=>∃T S H3 al c mm lim,σ=⟨T,S,[],H3,lim,41,false⟩∧get T 1=.slice a N m∧get T 2=.int .i64 (st:Nat)∧get T 3=.pointer (some ⟨3,0,some 1⟩)∧get T 7=.slice al c mm∧get T 8=.int .i64 (j:Nat)∧sget S 3=(1,.cells [.int .i64 r.app,.slice r.ba r.bl r.bk,.slice r.sa r.sl r.sk])∧(Bld H'.length H3 1 al c mm (cells encI (whoJ b st j))∧Up H' H3∧H'.length≤lim)) ((A+1)) ?_ ?_ 0 _ (Nat.zero_le _) ⟨_,_,_,_,_,_,_,rfl,rfl,rfl,rfl,rfl,rfl,rfl,⟨Bld.nil _ _ _,Up.refl _,Nat.le_refl _⟩⟩
 ·rintro c' j s hj ⟨T,S,H3,al,c,mm,lim,rfl,t1,t2,t3,t7,t8,s0,hp⟩ ih
  obtain ⟨hbd,hu,hlim⟩:=hp
  have ihO:=ih
  clear ih
  have hw:=wrap_succ j (by omega)
  have l8:isLoc (.slice al c mm)=false:=hbd.isLoc _ _
  have hul:=hu.len
  have hcl:c=(whoJ b st j).length:=(hbd.sl encI_len (by decide)).len.symm
  have hcb:=whoJ_len b st j
  have z1:(((j:Nat):Int)≤r.app)=True:=eq_true (by omega)
  simp (maxDischargeDepth:=8) only [↓SD,SU,SV,SW,simprocAttr,Int.cast_ofNat_Int,small,resV, q56x1,t1,t2,t3,t7,t8,s0, s0,z1,l1,l2,l3,l8]
  obtain ⟨j0,hj0⟩:∃j0,j0=j:=⟨_,rfl⟩
  subst hj0
  refine loop_ind (G:=(Yes · (QS H' 1 encI (whoJ b st (A+1))))) (fun j σ=>∃T S mt lim2,σ=⟨T,S,[],H3,lim2,41,false⟩∧get T 1=.slice a N m∧get T 2=.int .i64 (st:Nat)∧get T 3=.pointer (some ⟨3,0,some 1⟩)∧get T 7=.slice al c mm∧get T 8=.int .i64 (j0:Nat)∧get T 9=.bool mt∧get T 10=.int .i64 (j:Nat)∧sget S 3=(1,.cells [.int .i64 r.app,.slice r.ba r.bl r.bk,.slice r.sa r.sl r.sk])∧(mt=metI b st (j0:Int) j∧H'.length≤lim2)) (N) ?_ ?_ 0 _ (Nat.zero_le _) ⟨_,_,_,_,rfl,(by first | (simp [get_set,t1,t2,t3,t7,t8]; done) | rfl),(by first | (simp [get_set,t1,t2,t3,t7,t8]; done) | rfl),(by first | (simp [get_set,t1,t2,t3,t7,t8]; done) | rfl),(by first | (simp [get_set,t1,t2,t3,t7,t8]; done) | rfl),(by first | (simp [get_set,t1,t2,t3,t7,t8]; done) | rfl),(by first | (simp [get_set,t1,t2,t3,t7,t8]; done) | rfl),(by first | (simp [get_set,t1,t2,t3,t7,t8]; done) | rfl),(by first | rfl | exact s0),⟨(show false=metI b st (j0:Int) 0 from rfl),by omega⟩⟩
  ·rintro c' j s hj ⟨T,S,mt,lim2,rfl,t1,t2,t3,t7,t8,t9,t10,s0,hp⟩ ih
   obtain ⟨hmt,hlim2⟩:=hp
   subst hmt
   have hw2:=wrap_succ j (by omega)
   obtain ⟨q,hq⟩:∃q,(bests b)[j]?=some q:=⟨_,List.getElem?_eq_getElem (by omega)⟩
   have hql:=hbp q (List.mem_of_getElem? hq)
   obtain ⟨vb,vo,v,hva,hvk,fv⟩:=hs.at encV_len (by decide) hj
   have hqv:=hv.inn j v q hvk hq
   have iav:vv (.ia 1) [.slice a N m,.int .i64 (j:Nat)]=some (.pointer (some ⟨vb,vo+j*1,none⟩)):=by rw [hva]; exact vv_iaN 1 vb vo j _ _ _ hj
   have lv':=hqv.isLoc v.2.2
   have fv1:=At.v0 fv H3 (hg.trans hu.grow)
   have hvl:v.2.1=b.strokes.length:=by rw [←hql]; exact hqv.len.symm
   obtain ⟨xb,xo,x,hxa,hxx,fx⟩:=hqv.i1 (j:=st) (by omega)
   have fx:=fx H3 (hg.trans hu.grow)
   have iax:vv (.ia 1) [.slice v.1 v.2.1 v.2.2,.int .i64 (st:Nat)]=some (.pointer (some ⟨xb,xo+st*1,none⟩)):=by rw [hxa]; exact vv_iaN 1 xb xo st _ _ _ (by omega)
   have hm:=metI_succ (h:=(j0:Int)) hq hxx
   cases hM:metI b st (j0:Int) j with
   | true =>
    rw [hM,Bool.true_or] at hm
    rw [hM] at t9
    simp (maxDischargeDepth:=8) only [↓SD,SU,SV,SW,simprocAttr,Int.cast_ofNat_Int,small,resV, q56x0,t1,t2,t3,t7,t8,t9,t10,s0, s0,lt_nat,hj,l1,l2,l3,l8,hw2,sget_sset]
    exact ih _ ⟨_,_,(_),(_),rfl,(by simp [get_set,t1] <;> omega),(by simp [get_set,t2] <;> omega),(by simp [get_set,t3] <;> omega),(by simp [get_set,t7] <;> omega),(by simp [get_set,t8] <;> omega),(by simp [get_set,t9] <;> omega),(by simp [get_set,t10] <;> omega),by simp [sget_sset,s0],⟨hm.symm,by omega⟩⟩
   | false =>
    rw [hM,Bool.false_or] at hm
    rw [hM] at t9
    simp (maxDischargeDepth:=8) only [↓SD,SU,SV,SW,simprocAttr,Int.cast_ofNat_Int,small,resV, q56x0,t1,t2,t3,t7,t8,t9,t10,s0, s0,lt_nat,hj,l1,l2,l3,l8,lv',iav,fv1,iax,fx,hw2,sget_sset]
    exact ih _ ⟨_,_,(_),(_),rfl,(by simp [get_set,t1] <;> omega),(by simp [get_set,t2] <;> omega),(by simp [get_set,t3] <;> omega),(by simp [get_set,t7] <;> omega),(by simp [get_set,t8] <;> omega),(by simp [get_set,t9] <;> omega),(by simp [get_set,t10] <;> omega),by simp [sget_sset,s0],⟨hm.symm,by omega⟩⟩
  ·rintro c' s ⟨T,S,mt,lim2,rfl,t1,t2,t3,t7,t8,t9,t10,s0,hp⟩
   obtain ⟨hmt,hlim2⟩:=hp
   subst hmt
   have hall:metI b st (j0:Int) N=(bests b).any fun p=>decide (p[st]?=some (j0:Int)):=by unfold metI; rw [List.take_of_length_le (by omega)]
   have hs':=whoJ_succ b st j0
   rw [←hall] at hs'
   cases hM:metI b st (j0:Int) N with
   | true =>
    rw [hM,if_pos rfl] at hs'
    rw [hM] at t9
    obtain ⟨H6,p1,p2,p3,p4⟩:=hbd.app (by decide) (by decide) (by omega) hul [.int .i64 (j0:Nat)] rfl
    have u6:=p3.up hbd hu (Nat.le_refl _)
    simp (maxDischargeDepth:=8) only [↓SD,SU,SV,SW,simprocAttr,Int.cast_ofNat_Int,small,resV, q56x0,t1,t2,t3,t7,t8,t9,t10,s0, s0,lt_nat,Nat.lt_irrefl,l1,l2,l3,l8,p1,hw,sget_sset]
    exact ihO _ ⟨_,_,H6,some ⟨H3.length,0,none⟩,c+1,1,_,rfl,by simp [get_set,t1],by simp [get_set,t2],by simp [get_set,t3],by simp [get_set],by simp [get_set],by simp [sget_sset,s0],by rw [hs',cells_app]; exact p2,u6,by omega⟩
   | false =>
    rw [hM,if_neg (by decide),List.append_nil] at hs'
    rw [hM] at t9
    simp (maxDischargeDepth:=8) only [↓SD,SU,SV,SW,simprocAttr,Int.cast_ofNat_Int,small,resV, q56x0,t1,t2,t3,t7,t8,t9,t10,s0, s0,lt_nat,Nat.lt_irrefl,l1,l2,l3,l8,hw,sget_sset]
    exact ihO _ ⟨_,_,H3,al,c,mm,_,rfl,by simp [get_set,t1],by simp [get_set,t2],by simp [get_set,t3],by simp [get_set,t7],by simp [get_set],by simp [sget_sset,s0],by rw [hs']; exact hbd,hu,by omega⟩
 ·rintro c' s ⟨T,S,H3,al,c,mm,lim,rfl,t1,t2,t3,t7,t8,s0,hp⟩
  obtain ⟨hbd,hu,hlim⟩:=hp
  have l8:isLoc (.slice al c mm)=false:=hbd.isLoc _ _
  have z1:(((A+1:Nat):Int)≤r.app)=False:=eq_false (by omega)
  simp (maxDischargeDepth:=8) only [↓SD,SU,SV,SW,simprocAttr,Int.cast_ofNat_Int,small,resV, q56x1,t1,t2,t3,t7,t8,s0,z1,l1,l2,l3,l8,R56,N56]
  rw [yes_some]
  exact gc_sl (hbd.sl encI_len (by decide)) hu (by omega)
def fstJ (b:Bench)(p:List Int)(st j:Nat):List Int:=(candJ b p st j).foldl (fun o x=>if tk b x < tk b o then x else o) (p.set st 0)
theorem fstJ_succ (b:Bench)(p:List Int)(st j:Nat):fstJ b p st (j+1)=if isPlan b (p.set st (j:Int))=true then (if tk b (p.set st (j:Int)) < tk b (fstJ b p st j) then p.set st (j:Int) else fstJ b p st j) else fstJ b p st j:=by
 unfold fstJ
 rw [candJ_succ,List.foldl_append]
 split <;> rfl
theorem fstJ_one {b:Bench}{p:List Int}{st:Nat}:fstJ b p st 1=p.set st 0:=by
 unfold fstJ candJ
 simp only [List.range_succ,List.range_zero,List.nil_append,List.map_cons,List.map_nil,List.filter_cons,List.filter_nil]
 split
 ·simp
 ·rfl
theorem fstJ_best {b:Bench}{p:List Int}{st n:Nat}(h0:isPlan b (p.set st 0)=true):(bestOf (tk b) (candJ b p st (n+1)))[0]?=some (fstJ b p st (n+1)):=by
 have e:∃L,candJ b p st (n+1)=p.set st 0 :: L:=by
  unfold candJ
  rw [List.range_succ_eq_map,List.map_cons,List.filter_cons,if_pos (by simpa using h0)]
  exact ⟨_,rfl⟩
 obtain ⟨L,hL⟩:=e
 obtain ⟨t,ht⟩:=bestOf_head (tk b) L (p.set st 0)
 unfold fstJ
 rw [hL,ht]
 simp [fstT]
theorem set_plan {b:Bench}{p:List Int}{st:Nat}(h0:0≤b.app)(hP:isPlan b p=true):isPlan b (p.set st 0)=true:=by
 simp only [isPlan,Bool.and_eq_true,decide_eq_true_eq] at hP ⊢
 obtain ⟨h1,h2⟩:=hP
 have hl:(p.set st 0).length=b.strokes.length:=by rw [List.length_set]; exact h1
 refine ⟨hl,(handsOk_iff hl).2 fun i x s hx hs=>?_⟩
 rw [handsOk_iff h1] at h2
 by_cases e:st=i
 ·subst e
  rw [List.getElem?_set_self (by have:=(List.getElem?_eq_some_iff.1 hx).1; simpa using this)] at hx
  cases hx
  exact ⟨Int.le_refl _,h0,fun _=>rfl⟩
 ·rw [List.getElem?_set_ne e] at hx
  exact h2 i x s hx hs
set_option maxHeartbeats 1000000 in
theorem c57 {H:Heap}{r:BeR}{b:Bench}{a:Option Addr}{l kk:Nat}{p:List Int}(hb:BeOk H r b)(hd:SmB r)(hx:Ints H a l p)(hl:l < 1000)(hf:Fine b)(hP:isPlan b p=true){st:Nat}(hst:st < b.strokes.length) :
  ∀H',Grow H H'→Fam H'→R (.func 57) [.agg #[.int .i64 r.app,.slice r.ba r.bl r.bk,.slice r.sa r.sl r.sk],.slice a l kk,.int .i64 (st:Nat)] H'=some ⟨.ok (.tuple #[.int .i64 ((fstJ b p st (b.app.toNat+1)).getD st 0),.int .i64 (tk b (fstJ b p st (b.app.toNat+1)))]),H',H'.length⟩:=by
 intro H' hg hF
 have a0:=hf.a0
 have a3:=hf.a3
 have happ:=hb.app
 have hpl:p.length=b.strokes.length:=by simp only [isPlan,Bool.and_eq_true,decide_eq_true_eq] at hP; exact hP.1
 have hlp:=hx.len
 have hsp:st < p.length:=by omega
 refine run_k (pr 57) P57 (by simp [p57]) rfl ?_
 have l1:=hb.br.isLoc r.bk
 have l2:=hb.st.isLoc r.sk
 have l3:=hx.isLoc kk
 have ll:∀n,isLoc (.slice (some ⟨n,0,none⟩) l 1)=false:=fun n=>rfl
 obtain ⟨A,hA⟩:∃A:Nat,r.app=A:=⟨r.app.toNat,by omega⟩
 have hA3:A≤3:=by omega
 rw [show b.app.toNat=A by omega]
 obtain ⟨H1,k58,u1,hF1,s1⟩:=gv58 (kk:=kk) (st:=st) hx (by omega) hl 0 hg hF
 have k53:=c53 (kk:=1) (hb.grow (hg.trans u1.grow)) hd s1 hf (by rw [List.length_set]; exact hpl) H1 (Grow.refl _) hF1
 rw [show takesN b (en b (p.set st 0) true)=tk b (p.set st 0) from tk_eq b _] at k53
 have h1:=u1.len
 have hf1:fstJ b p st (0+1)=p.set st 0:=fstJ_one
 have hget:∀j,((fstJ b p st (j+1)).getD st 0=(fstJ b p st (j+1)).getD st 0):=fun _=>rfl
 simp (maxDischargeDepth:=8) only [↓SD,SU,SV,SW,simprocAttr,Int.cast_ofNat_Int,small,resV, B57,R57,N57,b57, l1,l2,l3,ll,k58,k53]
 refine loop_ind (G:=(·=_)) (fun j σ=>∃T S H3 hn le lim,σ=⟨T,S,[],H3,lim,43,false⟩∧get T 1=.slice a l kk∧get T 2=.int .i64 (st:Nat)∧get T 3=.pointer (some ⟨3,0,some 1⟩)∧get T 8=.int .i64 hn∧get T 9=.int .i64 le∧get T 10=.int .i64 ((j+1:Nat):Int)∧sget S 3=(1,.cells [.int .i64 r.app,.slice r.ba r.bl r.bk,.slice r.sa r.sl r.sk])∧(hn=(fstJ b p st (j+1)).getD st 0∧le=tk b (fstJ b p st (j+1))∧Up H' H3∧Fam H3∧H'.length≤lim)) (A) ?_ ?_ 0 _ (Nat.zero_le _) ⟨_,_,_,_,_,_,rfl,rfl,rfl,rfl,rfl,rfl,rfl,rfl,⟨by rw [hf1,set_getD hsp],by rw [hf1],u1,hF1,by omega⟩⟩
 ·rintro c' j s hj ⟨T,S,H3,hn,le,lim,rfl,t1,t2,t3,t8,t9,t10,s0,hp⟩ ih
  obtain ⟨hh,hle,u3,hF3,hlim⟩:=hp
  have hw:=wrap_succ (j+1) (by omega)
  have z1:(((j+1:Nat):Int)≤r.app)=True:=eq_true (by omega)
  obtain ⟨H4,k58',u4,hF4,s4⟩:=gv58 (kk:=kk) (st:=st) hx (by omega) hl ((j+1:Nat):Int) (hg.trans u3.grow) hF3
  have k23:=c23 (kk:=1) (hb.grow (hg.trans (u3.grow.trans u4.grow))) s4 (by omega) H4 (Grow.refl _)
  have k53':=c53 (kk:=1) (hb.grow (hg.trans (u3.grow.trans u4.grow))) hd s4 hf (by rw [List.length_set]; exact hpl) H4 (Grow.refl _) hF4
  rw [show takesN b (en b (p.set st ((j+1:Nat):Int)) true)=tk b (p.set st ((j+1:Nat):Int)) from tk_eq b _] at k53'
  have hs:=fstJ_succ b p st (j+1)
  have h3:=u3.len
  have h4:=u4.len
  cases q1:isPlan b (p.set st ((j+1:Nat):Int)) with
  | false =>
   rw [q1,if_neg (by decide)] at hs
   rw [q1] at k23
   simp (maxDischargeDepth:=8) only [↓SD,SU,SV,SW,simprocAttr,Int.cast_ofNat_Int,small,resV, q57x0,t1,t2,t3,t8,t9,t10,s0, s0,z1,l1,l2,l3,ll,k58',k23,hw,sget_sset]
   exact ih _ ⟨_,_,(H4),(hn),(le),(_),rfl,(by simp [get_set,t1] <;> omega),(by simp [get_set,t2] <;> omega),(by simp [get_set,t3] <;> omega),(by simp [get_set,t8] <;> omega),(by simp [get_set,t9] <;> omega),(by simp [get_set,t10] <;> omega),by simp [sget_sset,s0],⟨by rw [hs]; exact hh,by rw [hs]; exact hle,u3.trans u4,hF4,by omega⟩⟩
  | true =>
   rw [q1,if_pos rfl] at hs
   rw [q1] at k23
   by_cases q2:tk b (p.set st ((j+1:Nat):Int)) < le
   ·rw [if_pos (by rw [←hle]; exact q2)] at hs
    have z2:(tk b (p.set st ((j+1:Nat):Int)) < le)=True:=eq_true q2
    simp (maxDischargeDepth:=8) only [↓SD,SU,SV,SW,simprocAttr,Int.cast_ofNat_Int,small,resV, q57x0,t1,t2,t3,t8,t9,t10,s0, s0,z1,z2,l1,l2,l3,ll,k58',k23,k53',hw,sget_sset]
    exact ih _ ⟨_,_,(H4),(((j+1:Nat):Int)),(tk b (p.set st ((j+1:Nat):Int))),(_),rfl,(by simp [get_set,t1] <;> omega),(by simp [get_set,t2] <;> omega),(by simp [get_set,t3] <;> omega),(by simp [get_set,t8] <;> omega),(by simp [get_set,t9] <;> omega),(by simp [get_set,t10] <;> omega),by simp [sget_sset,s0],⟨by rw [hs,set_getD hsp],by rw [hs],u3.trans u4,hF4,by omega⟩⟩
   ·rw [if_neg (by rw [←hle]; exact q2)] at hs
    have z2:(tk b (p.set st ((j+1:Nat):Int)) < le)=False:=eq_false q2
    simp (maxDischargeDepth:=8) only [↓SD,SU,SV,SW,simprocAttr,Int.cast_ofNat_Int,small,resV, q57x0,t1,t2,t3,t8,t9,t10,s0, s0,z1,z2,l1,l2,l3,ll,k58',k23,k53',hw,sget_sset]
    exact ih _ ⟨_,_,(H4),(hn),(le),(_),rfl,(by simp [get_set,t1] <;> omega),(by simp [get_set,t2] <;> omega),(by simp [get_set,t3] <;> omega),(by simp [get_set,t8] <;> omega),(by simp [get_set,t9] <;> omega),(by simp [get_set,t10] <;> omega),by simp [sget_sset,s0],⟨by rw [hs]; exact hh,by rw [hs]; exact hle,u3.trans u4,hF4,by omega⟩⟩
 ·rintro c' s ⟨T,S,H3,hn,le,lim,rfl,t1,t2,t3,t8,t9,t10,s0,hp⟩
  obtain ⟨hh,hle,u3,hF3,hlim⟩:=hp
  have z1:(((A+1:Nat):Int)≤r.app)=False:=eq_false (by omega)
  simp (maxDischargeDepth:=8) only [↓SD,SU,SV,SW,simprocAttr,Int.cast_ofNat_Int,small,resV, q57x0,t1,t2,t3,t8,t9,t10,s0, s0,z1,l1,l2,l3,sget_sset,R57,N57]
  rw [←hh,←hle]
  rw [gc_ite (by omega)]; simp [flat]
end Go.Pi.L.Ben
set_option maxRecDepth 100000
namespace Go.Pi.L.Ben
open Go Go.Pi Go.Pi.L Go.Pi.E Go.Pi.Ben BM

set_option maxHeartbeats 4000000 in
theorem c11 {H:Heap}{r:BeR}{b:Bench}{a:Option Addr}{l kk:Nat}{p:List Int}{stI:Int}(hb:BeOk H r b)(hx:Ints H a l p)(hF:Fam H) :
  R (.func 11) [.agg #[.int .i64 r.app,.slice r.ba r.bl r.bk,.slice r.sa r.sl r.sk],.slice a l kk,.int .i64 stI] H=some ⟨.ok (.bool true),H,H.length⟩:=by
 refine run_k (pr 11) P11 (by simp [p11]) rfl ?_
 have l1:=hb.br.isLoc r.bk
 have l2:=hb.st.isLoc r.sk
 have l3:=hx.isLoc kk
 have k31:=c31 hb H (Grow.refl _)
 have k22:=c22 (H:=H) a l kk l3
 cases q1:shortB r.xs r with
 | false=>rw [q1] at k31; simp (maxDischargeDepth:=8) only [↓SD,SU,SV,SW,simprocAttr,Int.cast_ofNat_Int,small,resV, B11,R11,N11,b11, l1,l2,l3,k31,c25,R11,N11]
 | true =>
 rw [q1] at k31
 have hd:=short_sm hb q1
 by_cases q2:l≤9
 case neg=>simp (maxDischargeDepth:=8) only [↓SD,SU,SV,SW,simprocAttr,Int.cast_ofNat_Int,small,resV, B11,R11,N11,b11, l1,l2,l3,k31,k22,q2,c25,R11,N11]
 have hl:l < 1000000:=by omega
 have l9:isLoc (.slice none 0 0)=false:=rfl
 cases hBS:(isBench b&&isStroke b stI) with
 | false =>
  have k54:=e54 hb hd stI hBS H (Grow.refl _)
  have k55:=e55 (kk:=kk) hb hd hx hl stI (by
   cases h1:isBench b with
   | false=>rfl
   | true =>
    rw [h1,Bool.true_and] at hBS
    rw [hBS]; simp) H (Grow.refl _)
  have k34:=c34 hb hd H (Grow.refl _)
  have k44:=c44 hb hd stI H (Grow.refl _)
  cases hB:isBench b with
  | false =>
   rw [hB] at k34
   simp (maxDischargeDepth:=8) only [↓SD,SU,SV,SW,simprocAttr,Int.cast_ofNat_Int,small,resV, B11,R11,N11,b11, l1,l2,l3,l9,k31,k22,q2,k54,k55,k34,c25,R11,N11]
  | true =>
   rw [hB,Bool.true_and] at hBS
   rw [hB] at k34
   rw [hBS] at k44
   simp (maxDischargeDepth:=8) only [↓SD,SU,SV,SW,simprocAttr,Int.cast_ofNat_Int,small,resV, B11,R11,N11,b11, l1,l2,l3,l9,k31,k22,q2,k54,k55,k34,k44,c25,R11,N11]
 | true =>
 obtain ⟨hB,hS⟩:=Bool.and_eq_true_iff.1 hBS
 have hf:=fine_of hB
 have n6:=hf.n6
 have a3:=hf.a3
 have a0:=hf.a0
 obtain ⟨st,rfl,hst⟩:∃n:Nat,stI=n∧n < b.strokes.length:=by
  have h:=hS
  unfold isStroke at h
  rw [inL_iff] at h
  exact ⟨stI.toNat,by omega,by omega⟩
 have hwl:(whoL b st).length≤4:=by
  unfold whoL
  rw [List.length_map]
  refine Nat.le_trans (List.length_filter_le _ _) ?_
  rw [List.length_range]; omega
 obtain ⟨o,ho1,a1,m1,H1,lo1,rfl,u1,hlo1,s1⟩:=c54 hb hd hB hS H (Grow.refl _) hF
 have hF1:Fam H1:=famR ho1 hF
 have k34:=c34 hb hd H1 u1.grow
 have k44:=c44 hb hd (st:Nat) H1 u1.grow
 rw [hB] at k34
 rw [hS] at k44
 obtain ⟨o,ho2,a2,m2,H2,lo2,vs,rfl,u2,hlo2,s2,v2⟩:=c52 hb hd hf H1 u1.grow hF1
 have hF2:Fam H2:=famR ho2 hF1
 obtain ⟨o,ho3,a3',m3,H3,lo3,rfl,u3,hlo3,s3⟩:=c56 (m:=m2) (hb.grow (u1.grow.trans u2.grow)) hf s2 v2 hst H2 (Grow.refl _) hF2
 have hF3:Fam H3:=famR ho3 hF2
 have g3:=u1.grow.trans (u2.grow.trans u3.grow)
 have k37:=c37 (m1:=m1) (m2:=m3) (s1.grow (u2.grow.trans u3.grow)) s3 (by omega) H3 (Grow.refl _)
 rw [decide_eq_true rfl] at k37
 have k23:=c23 (kk:=kk) hb hx hl H3 g3
 have i1:=s1.isLoc m1
 have i2:=s2.isLoc m2
 have i3:=s3.isLoc m3
 have h1:=u1.len
 have h2:=u2.len
 have h3:=u3.len
 cases hP:isPlan b p with
 | false =>
  rw [hP] at k23
  have k55:=e55 (kk:=kk) hb hd hx hl (st:Nat) (by rw [hP]; simp) H1 u1.grow
  simp (maxDischargeDepth:=8) only [↓SD,SU,SV,SW,simprocAttr,Int.cast_ofNat_Int,small,resV, B11,R11,N11,b11, l1,l2,l3,i1,i2,i3,k31,k22,q2,ho1,k55,k34,k44,ho2,hlo2,ho3,hlo3,k37,k23,c25,R11,N11]
  first | (rw [gc_ite (by omega)]; simp [flat]; done) | (simp [gcR,flat]; omega)
 | true =>
  rw [hP] at k23
  obtain ⟨q,hq,k55⟩:=c55 (kk:=kk) hb hd hx (by omega) hB hP hst H1 u1.grow hF1
  have k57:=c57 (kk:=kk) hb hd hx (by omega) hf hP hst H3 g3 hF3
  rw [fstJ_best (set_plan hf.a0 hP)] at hq
  cases hq
  simp (maxDischargeDepth:=8) only [↓SD,SU,SV,SW,simprocAttr,Int.cast_ofNat_Int,small,resV, B11,R11,N11,b11, l1,l2,l3,i1,i2,i3,k31,k22,q2,ho1,k55,k34,k44,ho2,hlo2,ho3,hlo3,k37,k23,k57,c25,R11,N11]
  first | (rw [gc_ite (by omega)]; simp [flat]; done) | (simp [gcR,flat]; omega)
end Go.Pi.L.Ben
