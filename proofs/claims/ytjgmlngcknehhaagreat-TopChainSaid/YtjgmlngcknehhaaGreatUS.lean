/- Boards of names: what the kernel found, for each one of them. -/
import Derived.KernelRfl
import Derived.Test.YtjgmlngcknehhaaGreatUa
import Derived.Test.YtjgmlngcknehhaaGreatUb
import Derived.Test.YtjgmlngcknehhaaGreatUc
import Derived.Test.YtjgmlngcknehhaaGreatUd
import Derived.Test.YtjgmlngcknehhaaGreatUe
import Derived.Test.YtjgmlngcknehhaaGreatUf
import Derived.Test.YtjgmlngcknehhaaGreatUg
import Derived.Test.YtjgmlngcknehhaaGreatUh
import Derived.Test.YtjgmlngcknehhaaGreatUi
import Derived.Test.YtjgmlngcknehhaaGreatUB
import Derived.Test.YtjgmlngcknehhaaGreatE
import Derived.Test.YtjgmlngcknehhaaGreatKC
import Derived.Test.YtjgmlngcknehhaaGreatPiI
import Derived.Test.YtjgmlngcknehhaaGreatPiJ
set_option linter.all false
set_option maxRecDepth 100000
namespace UP
theorem chunk {α:Type}{n k:Nat}(hk:0 < k){l:List α}(hl:l.length=n*k){x:α}(h:x∈l):∃i,i < n∧x∈(l.drop (k*i)).take k:=by
 obtain ⟨j,hj,rfl⟩:=List.mem_iff_getElem.1 h
 have h1:j / k < n:=(Nat.div_lt_iff_lt_mul hk).2 (by omega)
 refine ⟨j / k,h1,?_⟩
 have h2:=Nat.div_add_mod j k
 have h3:=Nat.mod_lt j hk
 refine List.mem_iff_getElem?.2 ⟨j % k,?_⟩
 rw [List.getElem?_take_of_lt h3,List.getElem?_drop,h2]
 exact List.getElem?_eq_getElem hj
end UP
namespace Go.Pi.Top
open Go Go.Pi Go.Pi.Q UP
theorem len4:(needs 4).length=64:=by decide +kernel
theorem fOA:∀i,i < 32→(((needs 4).drop (2*i)).take 2).map runO=(((needs 4).drop (2*i)).take 2).map ansO
 | 0,_=>fO0
 | 1,_=>fO1
 | 2,_=>fO2
 | 3,_=>fO3
 | 4,_=>fO4
 | 5,_=>fO5
 | 6,_=>fO6
 | 7,_=>fO7
 | 8,_=>fO8
 | 9,_=>fO9
 | 10,_=>fO10
 | 11,_=>fO11
 | 12,_=>fO12
 | 13,_=>fO13
 | 14,_=>fO14
 | 15,_=>fO15
 | 16,_=>fO16
 | 17,_=>fO17
 | 18,_=>fO18
 | 19,_=>fO19
 | 20,_=>fO20
 | 21,_=>fO21
 | 22,_=>fO22
 | 23,_=>fO23
 | 24,_=>fO24
 | 25,_=>fO25
 | 26,_=>fO26
 | 27,_=>fO27
 | 28,_=>fO28
 | 29,_=>fO29
 | 30,_=>fO30
 | 31,_=>fO31
 | n+32,h=>absurd h (by omega)
theorem fTA:∀i,i < 16→(((needs 4).drop (4*i)).take 4).map runT=(((needs 4).drop (4*i)).take 4).map ansT
 | 0,_=>fT0
 | 1,_=>fT1
 | 2,_=>fT2
 | 3,_=>fT3
 | 4,_=>fT4
 | 5,_=>fT5
 | 6,_=>fT6
 | 7,_=>fT7
 | 8,_=>fT8
 | 9,_=>fT9
 | 10,_=>fT10
 | 11,_=>fT11
 | 12,_=>fT12
 | 13,_=>fT13
 | 14,_=>fT14
 | 15,_=>fT15
 | n+16,h=>absurd h (by omega)
theorem isO {c:List (List Nat)}(h:c∈allC):runO c=ansO c:=by
 unfold allC at h
 rcases List.mem_append.1 h with h | h
 ·exact List.map_inj_left.1 fO c h
 ·obtain ⟨i,hi,hm⟩:=chunk (n:=32) (k:=2) (by decide) len4 h
  exact List.map_inj_left.1 (fOA i hi) c hm
theorem isT {c:List (List Nat)}(h:c∈allC):runT c=ansT c:=by
 unfold allC at h
 rcases List.mem_append.1 h with h | h
 ·exact List.map_inj_left.1 fT c h
 ·obtain ⟨i,hi,hm⟩:=chunk (n:=16) (k:=4) (by decide) len4 h
  exact List.map_inj_left.1 (fTA i hi) c hm
theorem fam_E (es:List (Nat×Nat)):Fam (heapE es):=by
 intro i b f hb hf
 have:∀x∈heapE es,x.fam=none:=by
  intro x hx
  unfold heapE at hx
  split at hx
  ·cases hx
  ·rcases List.mem_append.1 hx with hx | hx
   ·obtain ⟨e,_,rfl⟩:=List.mem_map.1 hx; rfl
   ·rw [List.mem_singleton.1 hx]; rfl
 rw [this b (List.mem_of_getElem? hb)] at hf
 cases hf
theorem bg_E (es:List (Nat×Nat)):∀p,p∈bgE es→(heapE es)[p.1]?=some p.2:=by
 intro p hp
 unfold bgE at hp
 obtain ⟨q,hq,rfl⟩:=List.mem_map.1 hp
 obtain ⟨b,i⟩:=q
 have:=List.mem_zipIdx_iff_getElem?.1 hq
 exact this
theorem runO_E {c:List (List Nat)}(h:c∈allC):run PP prims0 100 (.func 14) [valE c.length (edges c)] (heapE (edges c))=some ⟨.ok (.tuple #[.int .i64 (owners c:Nat),.int .i64 0]),heapE (edges c),(heapE (edges c)).length⟩:=by
 obtain ⟨H',h1,h2⟩:=fact prel pkeeps (isO h) (heapE (edges c)) rfl (bg_E _) (fam_E _)
 rw [h1,h2.same]; rfl
theorem runT_E {c:List (List Nat)}(h:c∈allC):∃H' k f,run PP prims0 100 (.func 15) [valE c.length (edges c)] (heapE (edges c))=some ⟨.ok (.tuple #[.slice (some ⟨k,0,none⟩) c.length 1,.int .i64 0]),H',(heapE (edges c)).length⟩ ∧
  (heapE (edges c)).length≤k∧H'[k]?=some ⟨.cells ((List.range c.length).map fun i:Nat=>.int .i64 (i:Nat)),true,true,some f⟩∧∀i,i < (heapE (edges c)).length→H'[i]?=(heapE (edges c))[i]?:=by
 obtain ⟨H',h1,h2⟩:=fact prel pkeeps (isT h) (heapE (edges c)) rfl (bg_E _) (fam_E _)
 exact ⟨H',_,_,h1,by omega,h2.new 0 _ _ rfl rfl,h2.old⟩
end Go.Pi.Top
set_option maxRecDepth 100000
namespace Go.Pi.L.Ch
open Go Go.Pi Go.Pi.L Go.Pi.E Go.Pi.Top UP
theorem hc_obj {H:Heap}{b:Nat}{c:List Value}(h:hcells H b=some c):∃blk,H[b]?=some blk∧blk.ok=true∧blk.obj=.cells c:=by
 unfold hcells at h
 split at h
 ·rename_i c' t fm hb
  cases h
  exact ⟨_,hb,rfl,rfl⟩
 ·cases h
theorem list_in {P:Program}{N:Nat}{φ:Map}{H:Heap}{w:World}(hE:Emb P N φ H w){a:Option Addr}{l m:Nat}(h0:0 < l){β:Type}{enc:β→List Value}{k:Nat}{xs:List β}(hs:Sl H k enc a l xs)(hk:∀x,(enc x).length=k)(k0:0 < k){y:Value}(hv:VR φ (.slice a l m) y) :
  ∃b o cs e fr cap,y=.slice (some ⟨b,o,none⟩) l cap∧l≤cap∧w.heap[b]?=some (.cells cs e fr)∧∀j x i v,xs[j]?=some x→(enc x)[i]?=some v→∃y,cs[o+j*k+i]?=some y∧VR φ v y:=by
 have hlen:=hs.len
 obtain ⟨b,off,c,rfl,hc,_⟩:=hs.rd 0 xs[0] (List.getElem?_eq_getElem (by omega))
 cases hv with
 | sl _ _ _ _ ad cap hcap hsl =>
  obtain ⟨s,hs1,rfl,_⟩:=hsl (.inl h0)
  obtain ⟨blk,g1,g2,g3⟩:=hc_obj hc
  obtain ⟨ob,o1,o2⟩:=hE.obj b s blk hs1 g1 g2
  rw [g3] at o2
  cases o2 with
  | cells _ _ cs e fr k1 k2 k3 k4 k5 =>
   refine ⟨s.b,s.o+off,cs,e,fr,cap,rfl,hcap,o1,fun j x i v hx hi=>?_⟩
   obtain ⟨b',off',c',e1,e2,e3⟩:=hs.rd j x hx
   cases e1
   rw [hc] at e2; cases e2
   have hik:i < k:=by have:=(List.getElem?_eq_some_iff.1 hi).1; rw [hk] at this; exact this
   rw [←e3,List.getElem?_take_of_lt hik,List.getElem?_drop] at hi
   obtain ⟨y,hy,hvy⟩:=k5 _ _ hi
   exact ⟨y,by rw [←hy]; congr 1; omega,hvy⟩
theorem heapE_ne {es:List (Nat×Nat)}(h:es≠[]):heapE es=es.map blkE++[outE es.length]:=by
 unfold heapE
 split
 ·exact absurd rfl h
 ·rfl
theorem valE_ne {es:List (Nat×Nat)}(n:Nat)(h:es≠[]):valE n es=.agg #[.int .i64 (n:Nat),.slice (some ⟨es.length,0,none⟩) es.length 0]:=by
 unfold valE
 split
 ·exact absurd rfl h
 ·rfl
theorem agg2 {φ:Map}{x:Int}{v y:Value}(h:VR φ (.agg #[.int .i64 x,v]) y):∃v',y=.agg #[.int .i64 x,v']∧VR φ v v':=by
 cases h with
 | agg _ ys hsz hel =>
  obtain ⟨ys⟩:=ys
  match ys,hsz with
  | [y0,y1],_ =>
   have h0:=hel 0 _ _ rfl rfl
   have h1:=hel 1 _ _ rfl rfl
   cases h0
   exact ⟨y1,rfl,h1⟩
theorem vr2 {φ:Map}{x:Int}{v v':Value}(h:VR φ v v'):VR φ (.agg #[.int .i64 x,v]) (.agg #[.int .i64 x,v']):=.agg _ _ rfl fun j a b ha hb=>by
 match j with
 | 0=>cases ha; cases hb; exact .int _ _
 | 1=>cases ha; cases hb; exact h
 | j+2=>simp at ha
theorem canon {P:Program}{N:Nat}{φ:Map}{H:Heap}{w:World}(hE:Emb P N φ H w)(ht:TabOk P w.heap.size w){v:Value}{c:List (List Nat)}(hb:Board H v c){y:Value}(hv:VR φ v y) :
  ∃φ0,Ent0 P w φ0 (heapE (edges c))∧VR φ0 (valE c.length (edges c)) y:=by
 obtain ⟨a,m,qs,hb⟩:=hb
 rw [hb.eq] at hv
 obtain ⟨v',rfl,hv2⟩:=agg2 hv
 clear hv
 by_cases hq:qs=[]
 ·have he:edges c=[]:=by rw [hb.ed,hq]; rfl
  obtain ⟨rfl,rfl⟩:=hb.nil hq
  rw [hq] at hv2
  rw [he]
  refine ⟨fun _=>none,Ent0.nil _ _ ht,vr2 ?_⟩
  cases hv2 with
  | sl0=>exact .sl0
 ·have h0:0 < qs.length:=List.length_pos_iff.2 hq
  have hne:edges c≠[]:=by rw [hb.ed]; simpa using hq
  have hel:(edges c).length=qs.length:=by rw [hb.ed,List.length_map]
  obtain ⟨b,o,cs,e,fr,cap,rfl,hcap,hw,hcell⟩:=list_in hE h0 hb.sl eQ_len (by decide) hv2
  have each:∀j q,qs[j]?=some q→∃b2 o2 cs2 e2 fr2 cap2,cs[o+j]?=some (.slice (some ⟨b2,o2,none⟩) 2 cap2)∧2≤cap2∧w.heap[b2]?=some (.cells cs2 e2 fr2)∧cs2[o2]?=some (.int .i64 (q.x:Nat))∧cs2[o2+1]?=some (.int .i64 (q.y:Nat)):=by
   intro j q hj
   obtain ⟨y,hy,hvy⟩:=hcell j q 0 _ hj rfl
   obtain ⟨b2,o2,cs2,e2,fr2,cap2,rfl,hc2,hw2,hcell2⟩:=list_in hE (by decide) (hb.sp q (List.mem_of_getElem? hj)) encI_len (by decide) hvy
   obtain ⟨y0,g0,v0⟩:=hcell2 0 _ 0 _ rfl rfl
   obtain ⟨y1,g1,v1⟩:=hcell2 1 _ 0 _ rfl rfl
   cases v0; cases v1
   exact ⟨b2,o2,cs2,e2,fr2,cap2,by have:=hy; rw [Nat.mul_one] at this; exact this,hc2,hw2,by exact g0,by exact g1⟩
  have step:∀n,n≤qs.length→∃φ',Ent0 P w φ' (((edges c).take n).map blkE)∧∀j,j < n→∃y,cs[o+j]?=some y∧VR φ' (.slice (some ⟨j,0,none⟩) 2 0) y:=by
   intro n
   induction n with
   | zero=>intro _; exact ⟨fun _=>none,Ent0.nil _ _ ht,fun j hj=>absurd hj (Nat.not_lt_zero _)⟩
   | succ n ih =>
    intro hn
    obtain ⟨φ1,e1,t1⟩:=ih (by omega)
    have hqn:qs[n]?=some (qs[n]'(by omega)):=List.getElem?_eq_getElem (by omega)
    obtain ⟨q,hqn⟩:∃q,qs[n]?=some q:=⟨_,hqn⟩
    obtain ⟨b2,o2,cs2,e2,fr2,cap2,g0,g1,g2,g3,g4⟩:=each n q hqn
    have hed:(edges c)[n]?=some (q.x,q.y):=by rw [hb.ed,List.getElem?_map,hqn]; rfl
    have hl:(((edges c).take n).map blkE).length=n:=by rw [List.length_map,List.length_take,hel]; omega
    have h2:(o2+1) < cs2.size:=(Array.getElem?_eq_some_iff.1 g4).1
    obtain ⟨a1,a2⟩:=e1.add (o:=o2) [.int .i64 (q.x:Nat),.int .i64 (q.y:Nat)] g2 (by simp; omega) rfl (fun j x hx=>by
     match j with
     | 0=>cases hx; exact ⟨_,g3,.int _ _⟩
     | 1=>cases hx; exact ⟨_,g4,.int _ _⟩
     | j+2=>simp at hx)
    have hH:(((edges c).take (n+1)).map blkE)=((edges c).take n).map blkE++[⟨.cells [.int .i64 (q.x:Nat),.int .i64 (q.y:Nat)],true,false,none⟩]:=by
     obtain ⟨hlt,hge⟩:=List.getElem?_eq_some_iff.1 hed
     rw [List.take_succ_eq_append_getElem hlt,List.map_append,hge]; rfl
    rw [hH]
    refine ⟨_,a1,fun j hj=>?_⟩
    by_cases hjn:j < n
    ·obtain ⟨y,hy,hvy⟩:=t1 j hjn
     exact ⟨y,hy,hvy.mono a2.map⟩
    ·obtain rfl:j=n:=by omega
     refine ⟨_,g0,.sl _ _ _ _ _ _ g1 (fun _=>⟨⟨b2,o2,2,2⟩,by rw [hl]; exact if_pos rfl,rfl,fun hp=>absurd hp (Nat.lt_irrefl _)⟩)⟩
  obtain ⟨φ1,e1,t1⟩:=step qs.length (Nat.le_refl _)
  rw [←hel,List.take_length] at e1
  obtain ⟨yl,hyl,_⟩:=t1 (qs.length - 1) (by omega)
  have hsz:=(Array.getElem?_eq_some_iff.1 hyl).1
  obtain ⟨a1,a2⟩:=e1.add (o:=o) ((List.range (edges c).length).map fun k=>.slice (some ⟨k,0,none⟩) 2 0) hw (by rw [List.length_map,List.length_range,hel]; omega) (by
   rw [List.all_eq_true]
   intro x hx
   obtain ⟨k,_,rfl⟩:=List.mem_map.1 hx
   rfl) (fun j x hx=>by
    rw [List.getElem?_map,Option.map_eq_some_iff] at hx
    obtain ⟨k,h1,rfl⟩:=hx
    have hj:=(List.getElem?_eq_some_iff.1 h1).1
    rw [List.length_range] at hj
    rw [List.getElem?_range hj] at h1
    cases h1
    exact t1 j (by omega))
  rw [heapE_ne hne,valE_ne _ hne]
  refine ⟨_,a1,vr2 ?_⟩
  rw [hel]
  refine .sl _ _ _ _ _ _ hcap (fun _=>⟨_,by rw [List.length_map,hel]; exact if_pos rfl,rfl,fun hp=>absurd hp (Nat.lt_irrefl _)⟩)
end Go.Pi.L.Ch
set_option maxRecDepth 100000
namespace Go.Pi.L.Ch
open Go Go.Pi Go.Pi.L Go.Pi.E Go.Pi.Top Go.Proofs UP

theorem mixed:Tryz.prog.follows .mixedOrders=true:=by kernel_rfl
theorem draws (B:Nat):DrawsOk Tryz.prog B:=drawsOk mixed
theorem noTab (N:Nat)(W:World):TabOk Tryz.prog N W:=by
 intro g hg
 have h:Tryz.prog.globalNamed "internal/strconv.uint64pow10" = none:=by kernel_rfl
 rw [h] at hg
 cases hg
theorem none_ok (B:Nat):PrimsOk Tryz.prog B prims0:=⟨fun f g h=>(by cases h),fun f g h=>(by cases h)⟩
theorem vrs_one {φ:Map}{x:Value}{ys:List Value}(h:VRs φ [x] ys):∃y,ys=[y]∧VR φ x y:=by
 have hl:=h.1
 match ys,hl with
 | [y],_=>exact ⟨y,rfl,h.2 0 x y rfl rfl⟩
theorem vrs_mk {φ:Map}{x y:Value}(h:VR φ x y):VRs φ [x] [y]:=⟨rfl,fun j a b ha hb=>by
 match j with
 | 0=>cases ha; cases hb; exact h
 | j+1=>simp at ha⟩
theorem tup_out {φ:Map}{v y:Value}{x:Int}(h:VR φ (.tuple #[v,.int .i64 x]) y):∃v',y=.tuple #[v',.int .i64 x]∧VR φ v v':=by
 cases h with
 | tuple _ ys hsz hel =>
  obtain ⟨ys⟩:=ys
  match ys,hsz with
  | [y0,y1],_ =>
   have h0:=hel 0 _ _ rfl rfl
   have h1:=hel 1 _ _ rfl rfl
   cases h1
   exact ⟨y0,rfl,h0⟩
theorem tup_in {φ:Map}{v v':Value}{x:Int}(h:VR φ v v'):VR φ (.tuple #[v,.int .i64 x]) (.tuple #[v',.int .i64 x]):=.tuple _ _ rfl fun j a b ha hb=>by
 match j with
 | 0=>cases ha; cases hb; exact h
 | 1=>cases ha; cases hb; exact .int _ _
 | j+2=>simp at ha
theorem ok_E {es:List (Nat×Nat)}{i:Nat}{b:Blk}(h:(heapE es)[i]?=some b):b.ok=true∧b.fam=none:=by
 have hm:=List.mem_of_getElem? h
 unfold heapE at hm
 split at hm
 ·cases hm
 ·rcases List.mem_append.1 hm with hm | hm
  ·obtain ⟨e,_,rfl⟩:=List.mem_map.1 hm; exact ⟨rfl,rfl⟩
  ·rw [List.mem_singleton.1 hm]; exact ⟨rfl,rfl⟩
section
variable {B:Nat} {φ:Map} {H:Heap} {w:World} {args':Array Value} {v:Value} {c:List (List Nat)}
theorem own_sim (hE:Emb Tryz.prog B φ H w)(hc:c∈allC)(hb:Board H v c)(hv:VRs φ [v] args'.toList):FnSim Tryz.prog B φ H w args' ⟨.ok (.tuple #[.int .i64 (owners c:Nat),.int .i64 0]),H,H.length⟩ (.func 14):=by
 obtain ⟨y,hy,hvy⟩:=vrs_one hv
 obtain ⟨φ0,e0,v0⟩:=canon hE (noTab _ _) hb hvy
 have hv0:VRs φ0 [valE c.length (edges c)] args'.toList:=by rw [hy]; exact vrs_mk v0
 obtain ⟨h1,h2⟩:=run_sim ppok (none_ok _) (draws _) 100 (.func 14) _ _ _ (runO_E hc) φ0 w args' e0.emb (Nat.le_refl _) hv0
 refine ⟨h1,fun n=>(h2 n).mono ?_⟩
 rintro e w' ⟨φ',g1,g2,g3⟩
 have hfr:∀j,j < w.heap.size→w'.heap[j]?=w.heap[j]?:=fun j hj=>g2.frame j hj (fun i s _ h=>by omega)
 refine ⟨φ,hE.world g2.size (fun i s hi=>hfr _ (hE.inb i s hi).2) (fun j _ hj=>hfr j hj),⟨Nat.le_refl _,fun _ _=>rfl,fun i s hi hs=>absurd (hE.inb i s hs).1 (by omega),g2.size,fun j hj _=>hfr j hj,g2.out⟩,?_⟩
 cases e with
 | returned v' =>
  have g3:VR φ' (.tuple #[.int .i64 (owners c:Nat),.int .i64 0]) v':=g3
  obtain ⟨z,rfl,hz⟩:=tup_out g3
  cases hz
  exact tup_in (φ:=φ) (.int _ _)
 | _=>exact g3.elim
theorem fst_sim (hE:Emb Tryz.prog B φ H w)(hc:c∈allC)(hn:0 < c.length)(hb:Board H v c)(hv:VRs φ [v] args'.toList) :
  FnSim Tryz.prog B φ H w args' ⟨.ok (.tuple #[.slice (some ⟨H.length,0,none⟩) c.length 0,.int .i64 0]),H++[ordB c.length],H.length⟩ (.func 15):=by
 obtain ⟨y,hy,hvy⟩:=vrs_one hv
 obtain ⟨φ0,e0,v0⟩:=canon hE (noTab _ _) hb hvy
 have hv0:VRs φ0 [valE c.length (edges c)] args'.toList:=by rw [hy]; exact vrs_mk v0
 obtain ⟨H',k,f,q1,q2,q3,q4⟩:=runT_E hc
 obtain ⟨h1,h2⟩:=run_sim ppok (none_ok _) (draws _) 100 (.func 15) _ _ _ q1 φ0 w args' e0.emb (Nat.le_refl _) hv0
 refine ⟨h1,fun n=>(h2 n).mono ?_⟩
 rintro e w' ⟨φ',g1,g2,g3⟩
 simp only at g1 g2
 have hfr:∀j,j < w.heap.size→w'.heap[j]?=w.heap[j]?:=fun j hj=>g2.frame j hj (fun i s _ h=>by omega)
 cases e with
 | returned v' =>
  have g3:VR φ' (.tuple #[.slice (some ⟨k,0,none⟩) c.length 1,.int .i64 0]) v':=g3
  obtain ⟨z,rfl,hz⟩:=tup_out g3
  cases hz with
  | sl _ _ _ _ ad cap hcap hsl =>
   obtain ⟨s,hs1,rfl,_⟩:=hsl (.inl hn)
   obtain ⟨ob,o1,o2⟩:=g1.obj k s _ hs1 q3 rfl
   have hnew:w.heap.size≤s.b:=by
    rcases g2.new k s q2 hs1 with h | ⟨i,si,hi,hsi⟩
    ·exact h
    ·have hil:=(e0.inb i si hi).1
     have hgi:(heapE (edges c))[i]?=some ((heapE (edges c))[i]'hil):=List.getElem?_eq_getElem hil
     obtain ⟨b1,b2⟩:=ok_E hgi
     obtain ⟨_,r2,r3,_⟩:=g1.sep k i s si _ _ (by omega) hs1 (by rw [g2.map i hil]; exact hi) q3 (by rw [q4 i hil]; exact hgi) rfl b1 hsi.symm
     rw [b2] at r2
     exact absurd r2.symm r3
   have hφn:φ H.length=none:=by
    cases hh:φ H.length with
    | none=>rfl
    | some s=>exact absurd (hE.inb _ _ hh).1 (by omega)
   have hsub:=upd_sub (s:=s) hφn
   have hEw:=hE.world g2.size (fun i s hi=>hfr _ (hE.inb i s hi).2) (fun j _ hj=>hfr j hj)
   have old:∀i t,Go.Pi.upd φ H.length s i=some t→(i=H.length∧t=s)∨(i < H.length∧φ i=some t):=by
    intro i t hi
    unfold Go.Pi.upd at hi
    split at hi
    ·rename_i he; cases hi; exact .inl ⟨he,rfl⟩
    ·exact .inr ⟨(hE.inb i t hi).1,hi⟩
   have blk:∀(i:Nat) b,(H++[ordB c.length])[i]?=some b→(i=H.length∧b=ordB c.length)∨(i < H.length∧H[i]?=some b):=by
    intro i b hb
    rcases Nat.lt_or_ge i H.length with hlt | hge
    ·rw [List.getElem?_append_left hlt] at hb; exact .inr ⟨hlt,hb⟩
    ·rw [List.getElem?_append_right hge] at hb
     rcases Nat.eq_zero_or_pos (i - H.length) with h0 | h0
     ·rw [h0] at hb; simp at hb; exact .inl ⟨by omega,hb.symm⟩
     ·rw [List.getElem?_eq_none (by simp; omega)] at hb; cases hb
   have hsb:=(g1.inb k s hs1).2
   refine ⟨Go.Pi.upd φ H.length s,⟨fun i t hi=>?_,fun i t b hi hb ho=>?_,fun i t b hi hb ht=>?_,fun i t b hi hb ht=>?_,fun i b hb ht=>?_,fun i l si sl bi bl hne hi hl hbi hbl hti hol he=>?_,fun i b f hb hf=>?_,hEw.tab⟩,⟨?_,fun i hi=>?_,fun i t hi ht=>?_,g2.size,fun j hj _=>hfr j hj,g2.out⟩,tup_in ?_⟩
   ·rcases old i t hi with ⟨rfl,rfl⟩ | ⟨h,hi⟩
    ·exact ⟨by simp,hsb⟩
    ·exact ⟨by simp; omega,(hEw.inb i t hi).2⟩
   ·rcases old i t hi with ⟨rfl,rfl⟩ | ⟨h,hi⟩
    ·rcases blk _ b hb with ⟨_,rfl⟩ | ⟨h,_⟩
     ·refine ⟨ob,o1,?_⟩
      cases o2 with
      | cells _ _ cs e fr k1 k2 k3 k4 k5 =>
       refine .cells _ _ cs e fr k1 k2 k3 k4 fun j x hx=>?_
       obtain ⟨y,hy,hvy⟩:=k5 j x hx
       rw [List.getElem?_map,Option.map_eq_some_iff] at hx
       obtain ⟨a,_,rfl⟩:=hx
       cases hvy
       exact ⟨_,hy,.int _ _⟩
     ·omega
    ·rcases blk i b hb with ⟨h',_⟩ | ⟨_,hb⟩
     ·omega
     ·obtain ⟨ob,p1,p2⟩:=hEw.obj i t b hi hb ho
      exact ⟨ob,p1,p2.mono hsub⟩
   ·rcases blk i b hb with ⟨_,rfl⟩ | ⟨h,hb⟩
    ·rcases ht with ht | ht
     ·cases ht
     ·exact absurd rfl ht
    ·rcases old i t hi with ⟨rfl,rfl⟩ | ⟨_,hi⟩
     ·omega
     ·exact hEw.own i t b hi hb ht
   ·rcases blk i b hb with ⟨_,rfl⟩ | ⟨h,hb⟩
    ·rcases ht with ht | ht
     ·cases ht
     ·exact absurd rfl ht
    ·rcases old i t hi with ⟨rfl,rfl⟩ | ⟨_,hi⟩
     ·omega
     ·exact hEw.unf i t b hi hb ht
   ·rcases blk i b hb with ⟨_,rfl⟩ | ⟨h,hb⟩
    ·rfl
    ·exact hEw.tipok i b hb ht
   ·rcases blk i bi hbi with ⟨_,rfl⟩ | ⟨hlt,hbi⟩
    ·cases hti
    ·rcases old i si hi with ⟨h',_⟩ | ⟨_,hi2⟩
     ·omega
     ·rcases old l sl hl with ⟨hl2,hs2⟩ | ⟨hll,hl2⟩
      ·have:=(hE.inb i si hi2).2; rw [hs2] at he; omega
      ·rcases blk l bl hbl with ⟨h',_⟩ | ⟨_,hbl2⟩
       ·omega
       ·exact hEw.sep i l si sl bi bl hne hi2 hl2 hbi hbl2 hti hol he
   ·rcases blk i b hb with ⟨_,rfl⟩ | ⟨h,hb⟩
    ·cases hf
    ·exact hEw.fam i b f hb hf
   ·simp
   ·unfold Go.Pi.upd; rw [if_neg (by omega)]
   ·rcases old i t ht with ⟨rfl,rfl⟩ | ⟨h,_⟩
    ·exact .inl hnew
    ·omega
   ·exact .sl _ _ _ _ _ _ hcap (fun _=>⟨s,if_pos rfl,rfl,fun hp=>absurd hp (Nat.lt_irrefl _)⟩)
 | _=>exact g3.elim
end
theorem all_pos {c:List (List Nat)}(h:c∈allC):0 < c.length:=by
 have:∀c∈allC,0 < c.length:=by decide +kernel
 exact this c h
theorem primsL_ok (B:Nat):PrimsOk Tryz.prog B primsL:=by
 refine ⟨fun f g hg args H out ho φ w args' hE hB hv=>?_,keepL⟩
 unfold primsL at hg
 by_cases h:f=7
 ·rw [if_pos h] at hg
  cases hg
  subst h
  dsimp only at ho
  split at ho
  ·cases ho
   rename_i he
   obtain rfl:args=[]:=by simpa using he
   exact closed_sim ppok (draws B) Go.Pi.Top.known hE hB hv
  ·cases ho
 rw [if_neg h] at hg
 by_cases h1:f=14
 ·rw [if_pos h1] at hg
  cases hg
  subst h1
  unfold pOwn at ho
  split at ho
  ·rename_i hx
   cases ho
   obtain ⟨hc,v,rfl,hb⟩:=hx.choose_spec
   exact own_sim hE hc hb hv
  ·cases ho
 rw [if_neg h1] at hg
 by_cases h2:f=15
 ·rw [if_pos h2] at hg
  cases hg
  subst h2
  unfold pFst at ho
  split at ho
  ·rename_i hx
   cases ho
   obtain ⟨hc,v,hv1,hb⟩:=hx.choose_spec
   subst hv1
   exact fst_sim hE hc (all_pos hc) hb hv
  ·cases ho
 rw [if_neg h2] at hg
 cases hg
end Go.Pi.L.Ch
