/- What an operation touches, and on what it hangs. -/
import Derived.OrdersIn
import Derived.Test.YtjgmlngcknehhaaGreatPiH
set_option linter.all false
namespace Go.Pi
open Go

section
variable {call:CallT} {pi:PIns} {c:Nat} {s s1 s2:St}

def Reads (pi:PIns)(s s':St):Prop:=∀(b:Nat) (x:Blk),(match pi.op with
 | .ld _ a=>∃off,ev s.T a=.pointer (some ⟨b,off,none⟩)
 | .b2s a=>∃off l m,ev s.T a=.slice (some ⟨b,off,none⟩) l m∧l≠0
 | .mlk _ _ _ m _=>ev s.T m=.map (some b)
 | _=>False)→s.H[b]?=some x→(rm pi=false→isMapO x.obj=false)→∃y,s'.H[b]?=some y∧y.obj=x.obj∧y.ok=x.ok

structure Alike (pi:PIns)(c:Nat)(s s':St):Prop where
 n:s'.n=s.n
 rnd:s'.rnd=s.rnd
 T:∀t∈opTmps pi,get s'.T t=get s.T t
 S:∀d,c=d+2∨d∈opSlots pi→sget s'.S d=sget s.S d
 H:c=1→rh pi=false→s'.H=s.H
 R:rh pi=true→Reads pi s s'

structure Eff (call:CallT)(pi:PIns)(c:Nat)(s s1:St):Prop where
 T:∀t,pi.dst≠some t→get s1.T t=get s.T t
 S:∀d,¬(c=d+2∧isLd pi=false)→sget s1.S d=sget s.S d
 H:c≠1∨rh pi=true→s1.H=s.H
 D:s1.D=s.D
 n:s1.n=s.n
 rnd:s1.rnd=s.rnd
 again:∀s',Alike pi c s s'→∃s1',opR call pi s'=some (.normal,s1')∧(∀t,get s1'.T t=if pi.dst=some t then get s1.T t else get s'.T t) ∧
  (∀d,sget s1'.S d=if c=d+2∧isLd pi=false then sget s1.S d else sget s'.S d)∧s1'.H=(if c=1∧rh pi=false then s1.H else s'.H)∧s1'.D=s'.D∧s1'.n=s'.n∧s1'.rnd=s'.rnd

theorem put_get {d:Option Tmp}{v:Value}(h:put s2 d v=some s1):(∀t,get s1.T t=if d=some t then v else get s2.T t)∧s1.S=s2.S∧s1.H=s2.H∧s1.D=s2.D∧s1.n=s2.n∧s1.rnd=s2.rnd:=by
 cases d with
 | none=>simp only [put] at h; cases h; exact ⟨fun t=>by simp,rfl,rfl,rfl,rfl,rfl⟩
 | some d =>
  simp only [put] at h
  split at h
  ·cases h
   refine ⟨fun t=>?_,rfl,rfl,rfl,rfl,rfl⟩
   simp only [get_set,Option.some.injEq]
   by_cases htd:t=d
   ·subst htd; simp
   ·rw [if_neg htd,if_neg (Ne.symm htd)]
  ·cases h

theorem put_again {d:Option Tmp}{v:Value}(h:put s2 d v=some s1){s':St}(hn:s'.n=s2.n):∃s1',put s' d v=some s1':=by
 cases d with
 | none=>exact ⟨s',rfl⟩
 | some d =>
  simp only [put] at h ⊢
  split at h
  ·rename_i hd
   rw [hn,if_pos hd]; exact ⟨_,rfl⟩
  ·cases h

theorem Eff.mk' {v:Value}{S':List (Nat×PObj)}{H':Heap}{lo':Nat}(h:putO { s with S:=S',H:=H',lo:=lo' } pi.dst v=some (.normal,s1))(hS:∀d,¬(c=d+2∧isLd pi=false)→sget S' d=sget s.S d)
  (hH:c≠1∨rh pi=true→H'=s.H)
  (again:∀s',Alike pi c s s'→∃S'' H'' lo'',opR call pi s'=putO { s' with S:=S'',H:=H'',lo:=lo'' } pi.dst v∧(∀d,sget S'' d=if c=d+2∧isLd pi=false then sget S' d else sget s'.S d)∧H''=(if c=1∧rh pi=false then H' else s'.H)):Eff call pi c s s1:=by
 obtain ⟨_,hp⟩:=putO_put h
 obtain ⟨g1,g2,g3,g4,g5,g6⟩:=put_get hp
 refine ⟨fun t ht=>by rw [g1,if_neg ht],fun d hd=>by rw [g2]; exact hS d hd,fun hc=>by rw [g3]; exact hH hc,g4,g5,g6,fun s' ha=>?_⟩
 obtain ⟨S'',H'',lo'',h1,h2,h3⟩:=again s' ha
 obtain ⟨s1',hp'⟩:=put_again hp (s':={ s' with S:=S'',H:=H'',lo:=lo'' }) ha.n
 obtain ⟨k1,k2,k3,k4,k5,k6⟩:=put_get hp'
 refine ⟨s1',by rw [h1,putO,hp']; rfl,fun t=>?_,fun d=>by rw [k2,g2]; exact h2 d,by rw [k3,g3]; exact h3,k4,k5,k6⟩
 rw [k1,g1]
 split <;> rfl

theorem ev_alike {T T':List Value}{x:Operand}(h:∀t,tmpOf x=some t→get T' t=get T t):ev T' x=ev T x:=by
 cases x with
 | tmp t=>exact h t rfl
 | _=>rfl

theorem evs_alike {T T':List Value}{xs:List Operand}(h:∀t∈xs.filterMap tmpOf,get T' t=get T t):xs.map (ev T')=xs.map (ev T) :=
 List.map_congr_left fun x hx=>ev_alike fun t ht=>h t (List.mem_filterMap.2 ⟨x,hx,ht⟩)

theorem hcells_alike {H H':Heap}{b:Nat}(h:∀x,H[b]?=some x→isMapO x.obj=false→∃y,H'[b]?=some y∧y.obj=x.obj∧y.ok=x.ok){cs:List Value}(hc:hcells H b=some cs):hcells H' b=some cs:=by
 unfold hcells at hc
 split at hc
 ·rename_i c t f hx
  obtain ⟨⟨o,k,t',f'⟩,h1,h2,h3⟩:=h _ hx rfl
  simp only at h2 h3
  subst h2 h3
  cases hc
  simp [hcells,h1]
 ·cases hc

theorem elems_alike {H H':Heap}{k:Nat}{v:Value}{l:List Value}(h:∀b off ln m,v=.slice (some ⟨b,off,none⟩) ln m→ln≠0→∀x,H[b]?=some x→isMapO x.obj=false→∃y,H'[b]?=some y∧y.obj=x.obj∧y.ok=x.ok)(he:elems H k v=some l):elems H' k v=some l:=by
 cases v with
 | slice a ln m =>
  cases a with
  | none=>exact he
  | some a =>
   obtain ⟨b,off,sp⟩:=a
   simp only [elems] at he ⊢
   split at he
   ·rename_i h0; rw [if_pos h0]; exact he
   ·rename_i h0
    rw [if_neg h0]
    cases sp with
    | some g=>simp at he
    | none =>
     cases hc:hcells H b with
     | none=>rw [hc] at he; simp at he
     | some cs =>
      rw [hc] at he
      rw [hcells_alike (h b off ln m rfl h0) hc]
      exact he
 | _=>exact he

theorem elemsL_alike {s s':St}{k:Nat}{v:Value}{l:List Value}(hS:∀d off g ln m,v=.slice (some ⟨d,off,some g⟩) ln m→sget s'.S d=sget s.S d)
  (h:∀b off ln m,v=.slice (some ⟨b,off,none⟩) ln m→ln≠0→∀x,s.H[b]?=some x→isMapO x.obj=false→∃y,s'.H[b]?=some y∧y.obj=x.obj∧y.ok=x.ok) (he:elemsL s k v=some l):elemsL s' k v=some l:=by
 unfold elemsL at he ⊢
 split at he
 ·rename_i d g ln
  rw [hS d 0 g ln 0 rfl]
  exact he
 ·exact elems_alike h he

theorem Eff.same {v:Value}(h:putO s pi.dst v=some (.normal,s1))(hc:c≠1∨rh pi=true)(hS:∀d,¬(c=d+2∧isLd pi=false))(again:∀s',Alike pi c s s'→opR call pi s'=putO s' pi.dst v):Eff call pi c s s1 :=
 .mk' (S':=s.S) (H':=s.H) (lo':=s.lo) h (fun _ _=>rfl) (fun _=>rfl) fun s' ha=>⟨s'.S,s'.H,s'.lo,again s' ha,fun d=>by rw [if_neg (hS d)],by rw [if_neg]; rintro ⟨h1,h2⟩; rcases hc with hc | hc; exact hc h1; rw [h2] at hc; cases hc⟩

theorem slotOk_spec {y:Operand}{v:Value}(h:slotOk y v=true){d off g ln m}(hv:v=.slice (some ⟨d,off,some g⟩) ln m):y=.tmp d:=by
 subst hv
 cases y <;> simp [slotOk] at h
 subst h; rfl

theorem Eff.lal {d:Tmp}{o:PObj}{v:Nat→Value}(hd:pi.dst=some d)(hc:c=d+2)(hld:isLd pi=false)(h:lal s d o v=some (.normal,s1))(again:∀s',Alike pi c s s'→opR call pi s'=Go.Pi.lal s' d o v):Eff call pi c s s1:=by
 subst hc
 unfold Go.Pi.lal at h
 rw [←hd] at h
 refine .mk' (H':=s.H) (lo':=s.lo) h (fun e he=>?_) (fun _=>rfl) fun s' ha=>⟨sset s'.S d ((sget s.S d).1+1,o),s'.H,s'.lo,?_,fun e=>?_,?_⟩
 ·rw [sget_sset,if_neg]
  rintro rfl
  exact he ⟨rfl,hld⟩
 ·rw [again s' ha,Go.Pi.lal,ha.S d (.inl rfl),←hd]
 ·rw [sget_sset,sget_sset]
  by_cases hed:e=d
  ·subst hed; simp [hld]
  ·rw [if_neg hed,if_neg hed,if_neg]
   rintro ⟨h1,_⟩; omega
 ·rw [if_neg]; rintro ⟨h1,_⟩; omega

theorem Eff.heap {v:Value}{H':Heap}{lo':Nat}(h:putO { s with H:=H',lo:=lo' } pi.dst v=some (.normal,s1))(hc:c=1)(hrh:rh pi=false)
  (again:∀s',Alike pi c s s'→∃lo'',opR call pi s'=putO { s' with H:=H',lo:=lo'' } pi.dst v):Eff call pi c s s1:=by
 subst hc
 refine .mk' (S':=s.S) h (fun _ _=>rfl) (fun hc=>?_) fun s' ha=>?_
 ·rcases hc with hc | hc
  ·exact absurd rfl hc
  ·rw [hrh] at hc; cases hc
 ·obtain ⟨lo'',h1⟩:=again s' ha
  exact ⟨s'.S,H',lo'',h1,fun d=>by rw [if_neg]; rintro ⟨h1,_⟩; omega,by rw [if_pos ⟨rfl,hrh⟩]⟩

theorem eff (hcl:clsOk pi c s=true)(hr:opR call pi s=some (.normal,s1))(hah:ah pi=false):Eff call pi c s s1:=by
 obtain ⟨d,p,g⟩:=pi
 have mem:∀{xs:List Operand},(∀t∈xs.filterMap tmpOf,t∈opTmps ⟨d,p,g⟩)→∀{s':St},Alike ⟨d,p,g⟩ c s s'→xs.map (ev s'.T)=xs.map (ev s.T):=fun hx s' ha=>evs_alike fun t ht=>ha.T t (hx t ht)
 have mem1:∀{x:Operand},(∀t,tmpOf x=some t→t∈opTmps ⟨d,p,g⟩)→∀{s':St},Alike ⟨d,p,g⟩ c s s'→ev s'.T x=ev s.T x:=fun hx s' ha=>ev_alike fun t ht=>ha.T t (hx t ht)
 have callR:∀{fv:Value} {vs:List Value},c=1→rh ⟨d,p,g⟩=false→opR.callR call ⟨d,p,g⟩ s fv vs=some (.normal,s1)→(∀s',Alike ⟨d,p,g⟩ c s s'→opR call ⟨d,p,g⟩ s'=opR.callR call ⟨d,p,g⟩ s' fv vs)→Eff call ⟨d,p,g⟩ c s s1:=by
  intro fv vs hc hrh h again
  unfold opR.callR at h
  split at h
  ·rename_i hl
   split at h
   ·rename_i fn args hfa
    split at h
    ·rename_i v H lo hcall
     refine .heap h hc hrh fun s' ha=>⟨min s'.lo lo,?_⟩
     rw [again s' ha,opR.callR,if_pos hl,hfa]
     simp only [ha.H hc hrh,hcall]
    ·simp at h
    ·cases h
   ·cases h
  ·cases h
 cases p with
 | v f xs =>
  simp only [clsOk,beq_iff_eq] at hcl
  simp only [opR] at hr
  split at hr
  ·rename_i hl
   split at hr
   ·rename_i v hv
    refine .same hr (.inl (by omega)) (fun d h=>by omega) fun s' ha=>?_
    have he:=mem (xs:=xs) (fun t ht=>by simp [opTmps]; exact .inr (by simpa using ht)) ha
    simp only [opR,he]
    rw [if_pos hl,hv]
   ·cases hr
  ·cases hr
 | lbox t x =>
  simp only [clsOk] at hcl
  simp only [opR] at hr
  cases d with
  | none=>simp at hr
  | some d =>
   simp only [Option.any_some,beq_iff_eq] at hcl
   simp only at hr
   split at hr
   ·cases hr
   ·rename_i hl
    refine .lal rfl hcl rfl hr fun s' ha=>?_
    have he:=mem1 (x:=x) (fun t ht=>by simp [opTmps,ht]) ha
    simp only [opR,he]
    rw [if_neg hl]
 | lalloc t z =>
  simp only [clsOk] at hcl
  simp only [opR] at hr
  cases d with
  | none=>simp at hr
  | some d =>
   simp only [Option.any_some,beq_iff_eq] at hcl
   simp only at hr
   exact .lal rfl hcl rfl hr fun s' ha=>by simp only [opR]
 | lbs t k z len ps =>
  simp only [clsOk] at hcl
  simp only [opR] at hr
  cases d with
  | none=>simp at hr
  | some d =>
   simp only [Option.any_some,beq_iff_eq] at hcl
   simp only at hr
   split at hr
   ·rename_i hl
    split at hr
    ·rename_i cs hf
     refine .lal rfl hcl rfl hr fun s' ha=>?_
     have he:=mem (xs:=ps.map (·.2)) (fun t ht=>by simp [opTmps]; exact .inr (by simpa using ht)) ha
     simp only [List.map_map,Function.comp_def] at he
     simp only [opR,he]
     rw [if_pos hl,hf]
    ·cases hr
   ·cases hr
 | ld n x =>
  simp only [clsOk] at hcl
  simp only [opR] at hr
  split at hr
  ·rename_i p hp
   rw [hp] at hcl
   split at hr
   ·rename_i cs hcs
    split at hr
    ·rename_i v hv
     have hld:∀e,¬(c=e+2∧isLd ⟨d,.ld n x,g⟩=false):=fun e h=>by simp [isLd] at h
     obtain ⟨b,off,sp⟩:=p
     cases sp with
     | some gg =>
      simp only [beq_iff_eq] at hcl
      refine .same hr (.inl (by omega)) hld fun s' ha=>?_
      have he:=mem1 (x:=x) (fun t ht=>by simp [opTmps,ht]) ha
      simp only [cellsAt] at hcs
      simp only [opR,he,hp,cellsAt,ha.S b (.inl hcl)]
      rw [hcs]
      simp only [hv]
     | none =>
      refine .same hr (.inr rfl) hld fun s' ha=>?_
      have he:=mem1 (x:=x) (fun t ht=>by simp [opTmps,ht]) ha
      simp only [cellsAt] at hcs
      simp only [opR,he,hp,cellsAt]
      rw [hcells_alike (fun x hx hm=>ha.R rfl b x ⟨off,hp⟩ hx fun _=>hm) hcs]
      simp only [hv]
    ·cases hr
   ·cases hr
  ·cases hr
 | st n x y =>
  simp only [clsOk] at hcl
  simp only [opR] at hr
  split at hr
  ·rename_i p hp
   rw [hp] at hcl
   split at hr
   ·cases hr
   ·rename_i hl
    split at hr
    ·rename_i s2 hs2
     obtain ⟨b,off,sp⟩:=p
     cases sp with
     | some gg =>
      simp only [beq_iff_eq] at hcl
      simp only [stCells] at hs2
      split at hs2
      ·rename_i g' cs hg
       split at hs2
       ·rename_i hcond
        cases hs2
        refine .mk' (H':=s.H) (lo':=s.lo) hr (fun e he=>?_) (fun _=>rfl) fun s' ha=>⟨sset s'.S b (gg,.cells (splice cs off (ev s.T y).cells.toList)),s'.H,s'.lo,?_,fun e=>?_,?_⟩
        ·rw [sget_sset,if_neg]
         rintro rfl
         exact he ⟨hcl,rfl⟩
        ·have he1:=mem1 (x:=x) (fun t ht=>by simp only [opTmps,List.mem_append,List.mem_filterMap]; exact .inr ⟨x,by simp,ht⟩) ha
         have he2:=mem1 (x:=y) (fun t ht=>by simp only [opTmps,List.mem_append,List.mem_filterMap]; exact .inr ⟨y,by simp,ht⟩) ha
         simp only [opR,he1,he2,hp]
         rw [if_neg hl]
         simp only [stCells,ha.S b (.inl hcl),hg,if_pos hcond]
        ·rw [sget_sset,sget_sset]
         by_cases hed:e=b
         ·subst hed; simp [hcl,isLd]
         ·rw [if_neg hed,if_neg hed,if_neg]
          rintro ⟨h1,_⟩; omega
        ·rw [if_neg]; rintro ⟨h1,_⟩; omega
       ·cases hs2
      ·cases hs2
     | none =>
      simp only [beq_iff_eq] at hcl
      have hev:∀{s'},Alike ⟨d,.st n x y,g⟩ c s s'→∀{s2'},stCells s' ⟨b,off,none⟩ (ev s.T y).cells.toList=some s2'→opR call ⟨d,.st n x y,g⟩ s'=putO s2' d undef:=by
       intro s' ha s2' h2
       have he1:=mem1 (x:=x) (fun t ht=>by simp only [opTmps,List.mem_append,List.mem_filterMap]; exact .inr ⟨x,by simp,ht⟩) ha
       have he2:=mem1 (x:=y) (fun t ht=>by simp only [opTmps,List.mem_append,List.mem_filterMap]; exact .inr ⟨y,by simp,ht⟩) ha
       simp only [opR,he1,he2,hp]
       rw [if_neg hl,h2]
      simp only [stCells] at hs2
      split at hs2
      ·rename_i cs hH
       split at hs2
       ·rename_i hcond
        cases hs2
        refine .heap hr hcl rfl fun s' ha=>⟨min s'.lo b,hev ha ?_⟩
        simp only [stCells,ha.H hcl rfl,hH,if_pos hcond,setB]
       ·cases hs2
      ·rename_i cs f hH
       split at hs2
       ·rename_i hcond
        cases hs2
        refine .heap hr hcl rfl fun s' ha=>⟨min s'.lo (min f b),hev ha ?_⟩
        simp only [stCells,ha.H hcl rfl,hH,if_pos hcond]
       ·cases hs2
      ·cases hs2
    ·cases hr
  ·cases hr
 | app t k x y =>
  simp only [clsOk,Bool.and_eq_true,beq_iff_eq] at hcl
  obtain ⟨hcl,hso⟩:=hcl
  have hst:∀{s'},Alike ⟨d,.app t k x y,g⟩ c s s'→s'.H=s.H∧ev s'.T x=ev s.T x∧ev s'.T y=ev s.T y:=fun ha =>
   ⟨ha.H hcl rfl,mem1 (x:=x) (fun t ht=>by simp only [opTmps,List.mem_append,List.mem_filterMap]; exact .inr ⟨x,by simp,ht⟩) ha,
    mem1 (x:=y) (fun t ht=>by simp only [opTmps,List.mem_append,List.mem_filterMap]; exact .inr ⟨y,by simp,ht⟩) ha⟩
  simp only [opR] at hr
  split at hr
  ·rename_i new a l m hnew hxe
   have hel:∀{s'},Alike ⟨d,.app t k x y,g⟩ c s s'→elemsL s' k (ev s.T y)=some new:=fun {s'} ha =>
    elemsL_alike (fun d off g ln m hv=>ha.S d (.inr (by rw [slotOk_spec hso hv]; simp [opSlots]))) (fun b off ln m _ _ x hx _=>⟨x,by rw [(hst ha).1]; exact hx,rfl,rfl⟩) hnew
   split at hr
   ·cases hr
   ·rename_i hloc
    split at hr
    ·cases hr
    ·rename_i hsm
     have again:∀{s'},Alike ⟨d,.app t k x y,g⟩ c s s'→opR call ⟨d,.app t k x y,g⟩ s'=(if new.isEmpty then putO s' d (.slice a l m) else
      match a with
      | none=>if l=0 then putO (newA s' new) d (.slice (some ⟨s'.H.length,0,none⟩) (new.length / k) k) else none
      | some a =>
       match a.spot,s'.H[a.block]? with
       | none,some ⟨.cells c,true,true,some f⟩ =>
        if m=k∧0 < k∧a.off+l*k≤c.length then
         let child:Blk:=⟨.cells ((c.drop a.off).take (l*k)++new),true,true,some f⟩
         putO (if a.off+l*k=c.length then { s' with H:=s'.H.set a.block ⟨.cells c,true,false,some f⟩++[child] }
          else { s' with H:=(kill f s'.H).set a.block ⟨.cells c,false,false,some f⟩++[child],lo:=min s'.lo (min f a.block) }) d
          (.slice (some ⟨s'.H.length,0,none⟩) (l+new.length / k) k)
        else none
       | _,_=>none):=by
      intro s' ha
      obtain ⟨_,h2,h3⟩:=hst ha
      simp only [opR,h2,h3,hxe,hel ha]
      rw [if_neg hloc,if_neg hsm]
      cases a <;> rfl
     split at hr
     ·rename_i hemp
      refine .heap (H':=s.H) (lo':=s.lo) hr hcl rfl fun s' ha=>⟨s'.lo,?_⟩
      rw [again ha,if_pos hemp,←(hst ha).1]
     ·rename_i hemp
      split at hr
      ·split at hr
       ·rename_i hl0
        refine .heap hr hcl rfl fun s' ha=>⟨s'.lo,?_⟩
        rw [again ha,if_neg hemp]
        simp only [if_pos hl0,newA,(hst ha).1]
       ·cases hr
      ·rename_i pb _
       split at hr
       ·rename_i cs f hspot hH
        split at hr
        ·rename_i hcond
         split at hr
         ·rename_i hend
          refine .heap hr hcl rfl fun s' ha=>⟨s'.lo,?_⟩
          rw [again ha,if_neg hemp]
          simp only [(hst ha).1,hspot,hH,if_pos hcond,if_pos hend]
         ·rename_i hend
          refine .heap hr hcl rfl fun s' ha=>⟨min s'.lo (min f pb.block),?_⟩
          rw [again ha,if_neg hemp]
          simp only [(hst ha).1,hspot,hH,if_pos hcond,if_neg hend]
        ·cases hr
       ·cases hr
  ·cases hr
 | b2s x =>
  simp only [clsOk,Bool.and_eq_true,beq_iff_eq] at hcl
  obtain ⟨hcl,hso⟩:=hcl
  simp only [opR] at hr
  split at hr
  ·rename_i a l m hxe
   split at hr
   ·rename_i bs hbs
    refine .same hr (.inr rfl) (fun e h=>by omega) fun s' ha=>?_
    have he:=mem1 (x:=x) (fun t ht=>by simp [opTmps,ht]) ha
    simp only [Option.bind_eq_some_iff] at hbs
    obtain ⟨l',h1,h2⟩:=hbs
    have h3:=elemsL_alike (s':=s') (fun d off g ln m hv=>ha.S d (.inr (by rw [slotOk_spec hso (hxe ▸ hv)]; simp [opSlots]))) (fun b off ln m hv hn y hy hm=>ha.R rfl b y ⟨off,ln,m,hxe ▸ hv,hn⟩ hy fun _=>hm) h1
    simp only [opR,he,hxe,h3,Option.bind_some,h2]
   ·cases hr
  ·cases hr
 | mlk sh z ok m k =>
  simp only [clsOk,beq_iff_eq] at hcl
  simp only [opR] at hr
  split at hr
  ·rename_i hsh
   have hev:∀{s'},Alike ⟨d,.mlk sh z ok m k,g⟩ c s s'→ev s'.T m=ev s.T m∧ev s'.T k=ev s.T k:=fun ha =>
    ⟨mem1 (x:=m) (fun t ht=>by simp only [opTmps,List.mem_append,List.mem_filterMap]; exact .inr ⟨m,by simp,ht⟩) ha,
     mem1 (x:=k) (fun t ht=>by simp only [opTmps,List.mem_append,List.mem_filterMap]; exact .inr ⟨k,by simp,ht⟩) ha⟩
   have fin:∀{es},(∀{s'},Alike ⟨d,.mlk sh z ok m k,g⟩ c s s'→opR call ⟨d,.mlk sh z ok m k,g⟩ s'=(match kfind (ev s.T k) es with
    | some (_,v)=>putO s' d (if ok then .tuple #[v,.bool true] else v)
    | none=>putO s' d (if ok then .tuple #[z,.bool false] else z)))→(match kfind (ev s.T k) es with
    | some (_,v)=>putO s d (if ok then .tuple #[v,.bool true] else v)
    | none=>putO s d (if ok then .tuple #[z,.bool false] else z))=some (.normal,s1)→Eff call ⟨d,.mlk sh z ok m k,g⟩ c s s1:=by
    intro es hes' hr
    split at hr
    ·rename_i j v hf
     refine .same hr (.inr rfl) (fun e h=>by omega) fun s' ha=>?_
     rw [hes' ha,hf]
    ·rename_i hf
     refine .same hr (.inr rfl) (fun e h=>by omega) fun s' ha=>?_
     rw [hes' ha,hf]
   cases hmv:ev s.T m with
   | map o =>
    rw [hmv] at hr
    cases o with
    | none =>
     refine fin (es:=[]) (fun {s'} ha=>?_) hr
     obtain ⟨h1,h2⟩:=hev ha
     simp only [opR,h1,h2,hmv]
     rw [if_pos hsh]
     rfl
    | some i =>
     simp only at hr
     cases hH:s.H[i]? with
     | none=>rw [hH] at hr; simp at hr
     | some blk =>
      obtain ⟨ob,ok',tp,fm⟩:=blk
      rw [hH] at hr
      cases ob with
      | map sh' es =>
       cases ok' with
       | false=>simp at hr
       | true =>
        by_cases hsh':sh'=sh
        ·simp only [if_pos hsh'] at hr
         refine fin (es:=es) (fun {s'} ha=>?_) hr
         obtain ⟨e1,e2⟩:=hev ha
         obtain ⟨⟨o,kk,t',f'⟩,h1,h2,h3⟩:=ha.R rfl i _ hmv hH (fun h=>by cases h)
         simp only at h2 h3
         subst h2 h3
         simp only [opR,e1,e2,hmv]
         rw [if_pos hsh]
         simp only [h1,if_pos hsh']
         rfl
        ·simp [if_neg hsh'] at hr
      | _=>simp at hr
   | _=>rw [hmv] at hr; simp at hr
  ·cases hr
 | mup sh m k x =>
  simp only [clsOk,beq_iff_eq] at hcl
  simp only [opR] at hr
  split at hr
  ·rename_i hsh
   have hev:∀{s'},Alike ⟨d,.mup sh m k x,g⟩ c s s'→s'.H=s.H∧ev s'.T m=ev s.T m∧ev s'.T k=ev s.T k∧ev s'.T x=ev s.T x:=fun ha =>
    ⟨ha.H hcl rfl,mem1 (x:=m) (fun t ht=>by simp only [opTmps,List.mem_append,List.mem_filterMap]; exact .inr ⟨m,by simp,ht⟩) ha,
     mem1 (x:=k) (fun t ht=>by simp only [opTmps,List.mem_append,List.mem_filterMap]; exact .inr ⟨k,by simp,ht⟩) ha,
     mem1 (x:=x) (fun t ht=>by simp only [opTmps,List.mem_append,List.mem_filterMap]; exact .inr ⟨x,by simp,ht⟩) ha⟩
   split at hr
   ·rename_i i hi
    split at hr
    ·rename_i sh' es hH
     split at hr
     ·rename_i hshe
      split at hr
      ·rename_i j v hf
       refine .heap hr hcl rfl fun s' ha=>⟨min s'.lo i,?_⟩
       obtain ⟨h0,h1,h2,h3⟩:=hev ha
       simp only [opR,h1,h2,h3]
       rw [if_pos hsh]
       simp only [hi,h0,hH,if_pos hshe,hf,setB]
      ·rename_i hf
       refine .heap hr hcl rfl fun s' ha=>⟨min s'.lo i,?_⟩
       obtain ⟨h0,h1,h2,h3⟩:=hev ha
       simp only [opR,h1,h2,h3]
       rw [if_pos hsh]
       simp only [hi,h0,hH,if_pos hshe,hf,setB]
     ·cases hr
    ·cases hr
   ·cases hr
  ·cases hr
 | nxt x =>
  simp only [clsOk,beq_iff_eq] at hcl
  simp only [opR] at hr
  have hev:∀{s'},Alike ⟨d,.nxt x,g⟩ c s s'→s'.H=s.H∧ev s'.T x=ev s.T x:=fun ha=>⟨ha.H hcl rfl,mem1 (x:=x) (fun t ht=>by simp [opTmps,ht]) ha⟩
  split at hr
  ·rename_i i hi
   split at hr
   ·rename_i b pos hH
    split at hr
    ·rename_i hlt
     refine .heap hr hcl rfl fun s' ha=>⟨min s'.lo i,?_⟩
     obtain ⟨h0,h1⟩:=hev ha
     simp only [opR,h1,hi,h0,hH,if_pos hlt,setB]
    ·rename_i hlt
     refine .heap (H':=s.H) (lo':=s.lo) hr hcl rfl fun s' ha=>⟨s'.lo,?_⟩
     obtain ⟨h0,h1⟩:=hev ha
     simp only [opR,h1,hi,h0,hH,if_neg hlt]
     rw [←h0]
   ·cases hr
  ·cases hr
 | call f xs =>
  simp only [clsOk,beq_iff_eq] at hcl
  simp only [opR] at hr
  refine callR hcl rfl hr fun s' ha=>?_
  have h1:=mem1 (x:=f) (fun t ht=>by simp only [opTmps,List.mem_append,List.mem_filterMap]; exact .inr ⟨f,by simp,ht⟩) ha
  have h2:=mem (xs:=xs) (fun t ht=>by simp only [opTmps,List.mem_append,List.mem_filterMap] at ht ⊢; obtain ⟨x,hx,hxt⟩:=ht; exact .inr ⟨x,by simp [hx],hxt⟩) ha
  simp only [opR,h1,h2]
 | inv x tb xs =>
  simp only [clsOk,beq_iff_eq] at hcl
  simp only [opR] at hr
  split at hr
  ·rename_i t v hv
   split at hr
   ·rename_i tt f hf
    refine callR hcl rfl hr fun s' ha=>?_
    have h1:=mem1 (x:=x) (fun t ht=>by simp only [opTmps,List.mem_append,List.mem_filterMap]; exact .inr ⟨x,by simp,ht⟩) ha
    have h2:=mem (xs:=xs) (fun t ht=>by simp only [opTmps,List.mem_append,List.mem_filterMap] at ht ⊢; obtain ⟨x,hx,hxt⟩:=ht; exact .inr ⟨x,by simp [hx],hxt⟩) ha
    simp only [opR,h1,h2,hv,hf]
   ·cases hr
  ·cases hr
 | clr z x =>
  simp only [clsOk,beq_iff_eq] at hcl
  simp only [opR] at hr
  have hev:∀{s'},Alike ⟨d,.clr z x,g⟩ c s s'→s'.H=s.H∧ev s'.T x=ev s.T x:=fun ha=>⟨ha.H hcl rfl,mem1 (x:=x) (fun t ht=>by simp [opTmps,ht]) ha⟩
  split at hr
  ·rename_i l m hp
   refine .heap (H':=s.H) (lo':=s.lo) hr hcl rfl fun s' ha=>⟨s'.lo,?_⟩
   obtain ⟨h0,h1⟩:=hev ha
   simp only [opR,h1,hp]
   rw [←h0]
  ·rename_i b off l m hp
   split at hr
   ·rename_i hl0
    refine .heap (H':=s.H) (lo':=s.lo) hr hcl rfl fun s' ha=>⟨s'.lo,?_⟩
    obtain ⟨h0,h1⟩:=hev ha
    simp only [opR,h1,hp,if_pos hl0]
    rw [←h0]
   ·rename_i hl0
    split at hr
    ·rename_i s2 hs2
     have hgo:∀{s'},Alike ⟨d,.clr z x,g⟩ c s s'→∀{s2'},stCells s' ⟨b,off,none⟩ (rep l z)=some s2'→opR call ⟨d,.clr z x,g⟩ s'=putO s2' d (.tuple #[]):=by
      intro s' ha s2' h2
      obtain ⟨h0,h1⟩:=hev ha
      simp only [opR,h1,hp,if_neg hl0,h2]
     simp only [stCells] at hs2
     split at hs2
     ·rename_i cs hH
      split at hs2
      ·rename_i hcond
       cases hs2
       refine .heap hr hcl rfl fun s' ha=>⟨min s'.lo b,hgo ha ?_⟩
       simp only [stCells,ha.H hcl rfl,hH,if_pos hcond,setB]
      ·cases hs2
     ·rename_i cs f hH
      split at hs2
      ·rename_i hcond
       cases hs2
       refine .heap hr hcl rfl fun s' ha=>⟨min s'.lo (min f b),hgo ha ?_⟩
       simp only [stCells,ha.H hcl rfl,hH,if_pos hcond]
      ·cases hs2
     ·cases hs2
    ·cases hr
  ·cases hr
 | dfr f xs=>simp [clsOk] at hcl
 | pnc x=>simp [clsOk] at hcl
 | box t x=>simp [ah] at hah
 | alloc t z=>simp [ah] at hah
 | bs t k z len ps=>simp [ah] at hah
 | mks t k z b l c=>simp [ah] at hah
 | s2b t x=>simp [ah] at hah
 | mkm sh=>simp [ah] at hah
 | rng x=>simp [ah] at hah

end
end Go.Pi
namespace Go.Pi
open Go

section
variable {call:CallT} {e:Ex} {s s1:St}

def StepD (call:CallT)(pi:PIns)(f:Flag)(s s':St):Prop :=
 (wanted pi s.T=some true∧clsOk pi f.cls s=true∧∃s2,opR call pi { s with lo:=s.H.length }=some (.normal,s2)∧((s.H.length≤s2.lo∨f.hb=true)∨KeptC pi.op s.H s2.H)∧s'={ s2 with lo:=min s.lo s2.lo }) ∨
 (wanted pi s.T=some false∧put s pi.dst undef=some s')

def StopD (call:CallT)(pi:PIns)(f:Flag)(s:St)(e:Ex)(s1:St):Prop :=
 wanted pi s.T=some true∧clsOk pi f.cls s=true∧e≠.normal∧∃ds,f.tb=some ds∧∃s2,opR call pi { s with lo:=s.H.length }=some (e,s2)∧s1={ s2 with T:=wipe ds s2.T,lo:=min s.lo s2.lo }

theorem opsD_trace:∀{pis:List PIns} {fs:List Flag} {s:St},opsD call pis fs s=some (e,s1) →
  ∃(S:Nat→St) (K:Nat),S 0=s∧(∀j,j < K→∃pi f,pis[j]?=some pi∧fs[j]?=some f∧StepD call pi f (S j) (S (j+1))) ∧
   ((e=.normal∧K=pis.length∧S K=s1)∨∃pi f,pis[K]?=some pi∧fs[K]?=some f∧StopD call pi f (S K) e s1)
 | [],fs,s,h=>by
  simp only [opsD,Option.some.injEq,Prod.mk.injEq] at h
  exact ⟨fun _=>s,0,rfl,fun j hj=>absurd hj (Nat.not_lt_zero _),.inl ⟨h.1.symm,rfl,h.2⟩⟩
 | pi :: pis,[],s,h=>by simp [opsD] at h
 | pi :: pis,f :: fs,s,h=>by
  have next:∀{s'},StepD call pi f s s'→opsD call pis fs s'=some (e,s1)→∃(S:Nat→St) (K:Nat),S 0=s∧(∀j,j < K→∃pi' f',(pi :: pis)[j]?=some pi'∧(f :: fs)[j]?=some f'∧StepD call pi' f' (S j) (S (j+1))) ∧
   ((e=.normal∧K=(pi :: pis).length∧S K=s1)∨∃pi' f',(pi :: pis)[K]?=some pi'∧(f :: fs)[K]?=some f'∧StopD call pi' f' (S K) e s1):=by
   intro s' hst hrest
   obtain ⟨S,K,h1,h2,h3⟩:=opsD_trace hrest
   refine ⟨fun j=>match j with | 0=>s | j+1=>S j,K+1,rfl,fun j hj=>?_,?_⟩
   ·cases j with
    | zero=>exact ⟨pi,f,rfl,rfl,by simpa [h1] using hst⟩
    | succ j=>obtain ⟨pi',f',k1,k2,k3⟩:=h2 j (by omega); exact ⟨pi',f',by simpa using k1,by simpa using k2,k3⟩
   ·rcases h3 with ⟨g1,g2,g3⟩ | ⟨pi',f',g1,g2,g3⟩
    ·exact .inl ⟨g1,by simp [g2],g3⟩
    ·exact .inr ⟨pi',f',by simpa using g1,by simpa using g2,g3⟩
  simp only [opsD] at h
  split at h
  ·rename_i hw
   split at h
   ·rename_i hcl
    split at h
    ·rename_i s2 hop
     split at h
     ·rename_i hlo
      exact next (.inl ⟨hw,hcl,s2,hop,hlo,rfl⟩) h
     ·cases h
    ·rename_i e' s2 hne hop
     split at h
     ·rename_i ds htb
      simp only [Option.some.injEq,Prod.mk.injEq] at h
      obtain ⟨rfl,rfl⟩:=h
      exact ⟨fun _=>s,0,rfl,fun j hj=>absurd hj (Nat.not_lt_zero _),.inr ⟨pi,f,rfl,rfl,hw,hcl,fun he=>hne he,ds,htb,s2,hop,rfl⟩⟩
     ·cases h
    ·cases h
   ·cases h
  ·rename_i hw
   split at h
   ·rename_i s2 hp
    exact next (.inr ⟨hw,hp⟩) h
   ·cases h
  ·cases h

theorem effA {pi:PIns}{c:Nat}(hcl:clsOk pi c s=true)(hr:opR call pi s=some (.normal,s1))(hah:ah pi=true) :
  c=1∧rh pi=false∧isLd pi=false∧∃al,allocOf pi.op s.T=some al∧putO { s with H:=s.H++[al.blk s.H.length] } pi.dst (al.val s.H.length)=some (.normal,s1):=by
 obtain ⟨d,p,g⟩:=pi
 have fin:c=1→rh ⟨d,p,g⟩=false→isLd ⟨d,p,g⟩=false→newO s d (allocOf p s.T)=some (.normal,s1)→c=1∧rh ⟨d,p,g⟩=false∧isLd ⟨d,p,g⟩=false∧∃al,allocOf p s.T=some al∧putO { s with H:=s.H++[al.blk s.H.length] } d (al.val s.H.length)=some (.normal,s1):=by
  intro h1 h2 h3 h4
  cases ha:allocOf p s.T with
  | none=>rw [ha] at h4; simp [newO] at h4
  | some al=>rw [ha] at h4; exact ⟨h1,h2,h3,al,rfl,h4⟩
 cases p <;> first | (simp [ah] at hah; done) | exact fin (by simpa [clsOk] using hcl) rfl rfl hr

theorem allocOf_alike {pi:PIns}{T T':List Value}(h:∀t∈opTmps pi,get T' t=get T t)(hah:ah pi=true):allocOf pi.op T'=allocOf pi.op T:=by
 obtain ⟨d,p,g⟩:=pi
 have mem1:∀{x:Operand},(∀t,tmpOf x=some t→t∈opTmps ⟨d,p,g⟩)→ev T' x=ev T x:=fun hx=>ev_alike fun t ht=>h t (hx t ht)
 cases p with
 | box t x=>simp only [allocOf]; rw [mem1 (x:=x) (fun t ht=>by simp [opTmps,ht])]
 | alloc t z=>rfl
 | bs t k z len ps =>
  have he:(ps.map (·.2)).map (ev T')=(ps.map (·.2)).map (ev T):=evs_alike fun t ht=>h t (by simp only [opTmps,List.mem_append]; exact .inr ht)
  simp only [List.map_map,Function.comp_def] at he
  simp only [allocOf,bsA,he]
 | mks t k z b l c=>simp only [allocOf]; rw [mem1 (x:=l) (fun t ht=>by simp only [opTmps,List.mem_append,List.mem_filterMap]; exact .inr ⟨l,by simp,ht⟩),mem1 (x:=c) (fun t ht=>by simp only [opTmps,List.mem_append,List.mem_filterMap]; exact .inr ⟨c,by simp,ht⟩)]
 | s2b t x=>simp only [allocOf]; rw [mem1 (x:=x) (fun t ht=>by simp [opTmps,ht])]
 | mkm sh=>rfl
 | rng x=>simp only [allocOf]; rw [mem1 (x:=x) (fun t ht=>by simp [opTmps,ht])]
 | _=>simp [ah] at hah

theorem wanted_alike {pi:PIns}{T T':List Value}(h:∀t∈opTmps pi,get T' t=get T t):wanted pi T'=wanted pi T:=by
 unfold wanted
 cases hg:pi.guard with
 | none=>rfl
 | some x =>
  obtain ⟨t,want⟩:=x
  simp only
  rw [h t (by simp [opTmps,hg])]

theorem strict_not_ah {pi:PIns}(h:isStrict pi.op=true):ah pi=false:=by
 obtain ⟨d,p,g⟩:=pi
 cases p <;> first | rfl | (simp [isStrict] at h)
theorem strict_not_kept {p:POp}{H H1:Heap}(h:isStrict p=true):¬KeptC p H H1:=fun hk=>by
 have:=hk.1
 unfold isStrict at h
 split at h
 ·simp [isCallP] at this
 ·cases h
structure StepF (pi:PIns)(c:Nat)(hb:Bool)(s s':St):Prop where
 T:∀t,pi.dst≠some t→get s'.T t=get s.T t
 S:∀d,¬(c=d+2∧isLd pi=false)→sget s'.S d=sget s.S d
 H:¬(c=1∧rh pi=false∧ah pi=false)→ah pi=false→s'.H=s.H
 A:ah pi=true→(wanted pi s.T=some false∧s'.H=s.H)∨(wanted pi s.T=some true∧c=1∧rh pi=false∧∃al,allocOf pi.op s.T=some al∧s'.H=s.H++[al.blk s.H.length])
 D:s'.D=s.D
 n:s'.n=s.n
 rnd:s'.rnd=s.rnd
 fam:Fam s'.H
 len:s.H.length≤s'.H.length
 same0:¬(c=1∧rh pi=false∧ah pi=false)→∀(b:Nat) x,s.H[b]?=some x→∃y,s'.H[b]?=some y∧y.obj=x.obj∧y.ok=x.ok
 same:¬(c=1∧rh pi=false∧ah pi=false)∨hb=false→∀(b:Nat) x,s.H[b]?=some x→∃y,s'.H[b]?=some y∧((y.obj=x.obj∧y.ok=x.ok)∨(isMapO x.obj=true∧isMapO y.obj=true))
 strict:isStrict pi.op=true→hb=false→∀(b:Nat) x,s.H[b]?=some x→x.fam=none→s'.H[b]?=some x

theorem StepD.facts (hk:CallKeeps call){pi:PIns}{f:Flag}{s s':St}(h:StepD call pi f s s')(hF:Fam s.H):StepF pi f.cls f.hb s s':=by
 rcases h with ⟨hw,hcl,s2,hop,hlo,rfl⟩ | ⟨hw,hp⟩
 ·obtain ⟨hf2,hl2,hs2⟩:=keeps_opR hk hop hF
  have hcl':clsOk pi f.cls { s with lo:=s.H.length }=true:=hcl
  cases ha:ah pi with
  | true =>
   obtain ⟨h1,h2,h3,al,h4,h5⟩:=effA hcl' hop ha
   obtain ⟨_,hp⟩:=putO_put h5
   obtain ⟨g1,g2,g3,g4,g5,g6⟩:=put_get hp
   have key:∀(b:Nat) x,s.H[b]?=some x→∃y,s2.H[b]?=some y∧y.obj=x.obj∧y.ok=x.ok:=fun b x hx=>by
    refine ⟨x,?_,rfl,rfl⟩
    rw [g3]
    show (s.H++[al.blk s.H.length])[b]?=some x
    rw [List.getElem?_append_left (List.getElem?_eq_some_iff.1 hx).1]; exact hx
   exact ⟨fun t ht=>by show get s2.T t=_; rw [g1,if_neg ht],fun d _=>by show sget s2.S d=_; rw [g2],fun _ h=>(by rw [ha] at h; cases h),fun _=>.inr ⟨hw,h1,h2,al,h4,g3⟩,g4,g5,g6,hf2,hs2.1,fun _=>key,fun _ b x hx=>by obtain ⟨y,k1,k2⟩:=key b x hx; exact ⟨y,k1,.inl k2⟩,fun hs=>by (rw [strict_not_ah hs] at ha; cases ha)⟩
  | false =>
   have hE:=eff hcl' hop ha
   refine ⟨hE.T,hE.S,fun hc _=>?_,fun h=>(by rw [ha] at h; cases h),hE.D,hE.n,hE.rnd,hf2,hs2.1,fun hc b x hx=>?_,fun hc b x hx=>?_,fun hst hhb b x hx hfam=>?_⟩
   rotate_right
   ·have hlo':s.H.length≤s2.lo:=by
     rcases hlo with hlo | hkept
     ·exact hlo.resolve_right (by rw [hhb]; simp)
     ·exact (strict_not_kept hst hkept).elim
    obtain ⟨y,h1,h2,h3,h4,h5⟩:=hs2.2 b x (Nat.lt_of_lt_of_le (List.getElem?_eq_some_iff.1 hx).1 hlo') hx
    have:y=x:=by
     have h6:=h5 hfam
     clear h5 hx hfam h1
     obtain ⟨y1,y2,y3,y4⟩:=y
     obtain ⟨x1,x2,x3,x4⟩:=x
     simp only at h2 h3 h4 h6
     subst h2; subst h3; subst h4; subst h6; rfl
    subst this
    exact h1
   ·refine hE.H ?_
    by_cases h1:f.cls=1
    ·refine .inr ?_
     cases h2:rh pi with
     | true=>rfl
     | false=>exact absurd ⟨h1,h2,ha⟩ hc
    ·exact .inl h1
   ·have hH:s2.H=s.H:=hE.H (by
     by_cases h1:f.cls=1
     ·refine .inr ?_
      cases h2:rh pi with
      | true=>rfl
      | false=>exact absurd ⟨h1,h2,ha⟩ hc
     ·exact .inl h1)
    exact ⟨x,by show s2.H[b]?=_; rw [hH]; exact hx,rfl,rfl⟩
   ·by_cases hch:f.cls=1∧rh pi=false
    ·rcases hc with hc | hc
     ·exact absurd ⟨hch.1,hch.2,ha⟩ hc
     ·rcases hlo with hlo | hkept
      ·have hlo':s.H.length≤s2.lo:=hlo.resolve_right (by rw [hc]; simp)
       obtain ⟨y,h1,h2,h3,_⟩:=hs2.2 b x (Nat.lt_of_lt_of_le (List.getElem?_eq_some_iff.1 hx).1 hlo') hx
       exact ⟨y,h1,.inl ⟨h2,h3⟩⟩
      ·exact hkept.2 b x hx
    ·have hH:s2.H=s.H:=hE.H (by
      by_cases h1:f.cls=1
      ·refine .inr ?_
       cases h2:rh pi with
       | true=>rfl
       | false=>exact absurd ⟨h1,h2⟩ hch
      ·exact .inl h1)
     exact ⟨x,by show s2.H[b]?=_; rw [hH]; exact hx,.inl ⟨rfl,rfl⟩⟩
 ·obtain ⟨g1,g2,g3,g4,g5,g6⟩:=put_get hp
  refine ⟨fun t ht=>by rw [g1,if_neg ht],fun d _=>by rw [g2],fun _ _=>g3,fun _=>.inl ⟨hw,g3⟩,g4,g5,g6,by rw [g3]; exact hF,by rw [g3]; exact Nat.le_refl _,fun _ b x hx=>⟨x,by rw [g3]; exact hx,rfl,rfl⟩,fun _ b x hx=>⟨x,by rw [g3]; exact hx,.inl ⟨rfl,rfl⟩⟩,fun _ _ b x hx _=>by rw [g3]; exact hx⟩

end
end Go.Pi
namespace Go.Pi
open Go

theorem befs_spec:∀(l:List Oper) (acc:List (List Nat)),(befs l acc).length=acc.length+l.length∧(∀j,j < acc.length→(befs l acc).getD j []=acc.getD j []) ∧
  (∀(j:Nat) o,l[j]?=some o→∀i,i∈(befs l acc).getD (acc.length+j) []→∃e∈o.after.toList,Region.binds .any e=true∧(i=e.on∨e.on < acc.length+j∧i∈(befs l acc).getD e.on []))
 | [],acc=>⟨rfl,fun _ _=>rfl,fun j o h=>by simp at h⟩
 | o :: r,acc=>by
  generalize hx:(o.after.toList.filter (Region.binds .any ·)).flatMap (fun e=>e.on :: acc.getD e.on [])=x
  obtain ⟨h1,h2,h3⟩:=befs_spec r (acc++[x])
  simp only [List.length_append,List.length_singleton] at h1 h2 h3
  have hb:befs (o :: r) acc=befs r (acc++[x]):=by simp only [befs,hx]
  rw [hb]
  have hlow:∀j,j < acc.length→(befs r (acc++[x])).getD j []=acc.getD j []:=fun j hj=>by
   rw [h2 j (by omega)]
   simp only [List.getD_eq_getElem?_getD,List.getElem?_append_left hj]
  refine ⟨by simp only [List.length_cons]; omega,hlow,fun j o' ho i hi=>?_⟩
  cases j with
  | zero =>
   simp only [List.getElem?_cons_zero,Option.some.injEq] at ho
   subst ho
   rw [Nat.add_zero,h2 _ (by omega)] at hi
   simp only [List.getD_eq_getElem?_getD,List.getElem?_concat_length,Option.getD_some] at hi
   rw [←hx,List.mem_flatMap] at hi
   obtain ⟨e,he,hi⟩:=hi
   rw [List.mem_filter] at he
   refine ⟨e,he.1,he.2,?_⟩
   rcases List.mem_cons.1 hi with hi | hi
   ·exact .inl hi
   ·have hlt:e.on < acc.length:=by
     rcases Nat.lt_or_ge e.on acc.length with h | h
     ·exact h
     ·simp only [List.getD_eq_getElem?_getD,List.getElem?_eq_none h,Option.getD_none] at hi
      cases hi
    exact .inr ⟨by omega,by rw [hlow _ hlt]; simpa only [List.getD_eq_getElem?_getD] using hi⟩
  | succ j =>
   have:=h3 j o' (by simpa using ho) i (by rw [show acc.length+1+j=acc.length+(j+1) by omega]; exact hi)
   obtain ⟨e,he,hb,hr⟩:=this
   exact ⟨e,he,hb,hr.imp id fun hr=>⟨by omega,hr.2⟩⟩

theorem befs_back {l:List Oper}(hl:∀(j:Nat) o,l[j]?=some o→∀e∈o.after.toList,Region.binds .any e=true→e.on < j):∀j i,i∈(befs l []).getD j []→i < j:=by
 intro j
 induction j using Nat.strongRecOn with
 | _ j ih =>
  intro i hi
  obtain ⟨h1,_,h3⟩:=befs_spec l []
  rcases Nat.lt_or_ge j l.length with hlt | hge
  ·obtain ⟨e,he,hb,hr⟩:=h3 j l[j] (List.getElem?_eq_getElem hlt) i (by simpa using hi)
   have hej:=hl j _ (List.getElem?_eq_getElem hlt) e he hb
   rcases hr with rfl | ⟨_,hr⟩
   ·exact hej
   ·exact Nat.lt_trans (ih e.on hej i hr) hej
  ·rw [List.getD_eq_getElem?_getD,List.getElem?_eq_none (by rw [h1]; simpa using hge)] at hi
   cases hi

def CH (pis:List PIns)(cls:List Nat)(j:Nat):Prop:=cls.getD j 0=1∧rh (pis.getD j default)=false∧ah (pis.getD j default)=false

structure Text (pis:List PIns)(cls:List Nat)(bf:List (List Nat))(S:Nat→St)(K:Nat):Prop where
 le:K≤pis.length
 back:∀j i,i∈bf.getD j []→i < j
 pairs:∀i j,i < j→j < pis.length→i∈bf.getD j []∨apart (pis.getD i default) (pis.getD j default) (cls.getD i 0) (cls.getD j 0)=true
 step:∀j,j < K→∃hb,StepF (pis.getD j default) (cls.getD j 0) hb (S j) (S (j+1))∧(hb=true→∀i,i < pis.length→cls.getD i 0=1→j=i∨j∈bf.getD i []∨i∈bf.getD j [])

structure Virt (pis:List PIns)(cls:List Nat)(bf:List (List Nat))(S:Nat→St)(K:Nat)(D:Nat→Prop)(q:Nat)(φ:Map)(v:St):Prop where
 dK:∀i,D i→i < K
 down:∀j i,D j→i∈bf.getD j []→D i
 qK:q≤K
 qa:∀j,j < q→CH pis cls j→D j
 qb:q < K→CH pis cls q∧¬D q
 T:∀t k,k≤K→(∀i,i < K→(pis.getD i default).dst=some t→(i < k↔D i))→get v.T t=get (S k).T t
 Sl:∀d k,k≤K→(∀i,i < K→cls.getD i 0=d+2→isLd (pis.getD i default)=false→(i < k↔D i))→sget v.S d=sget (S k).S d
 H:v.H=(S q).H
 holes:∀j,j < q→ah (pis.getD j default)=true→¬D j→wanted (pis.getD j default) (S j).T=some true→φ (S j).H.length=none
 Df:v.D=(S 0).D
 n:v.n=(S 0).n
 rnd:v.rnd=(S 0).rnd

section
variable {pis:List PIns} {cls:List Nat} {bf:List (List Nat)} {S:Nat→St} {K k q:Nat} {D:Nat→Prop} {φ:Map} {v:St}

theorem Text.mono (h:Text pis cls bf S K):∀{i j:Nat},i≤j→j≤K→(S i).H.length≤(S j).H.length:=by
 intro i j hij
 induction j with
 | zero=>intro _; rw [Nat.le_zero.1 hij]; exact Nat.le_refl _
 | succ j ih =>
  intro hj
  rcases Nat.lt_or_ge i (j+1) with hlt | hge
  ·obtain ⟨hb,hs,_⟩:=h.step j (by omega)
   exact Nat.le_trans (ih (by omega) (by omega)) hs.len
  ·rw [Nat.le_antisymm hij hge]; exact Nat.le_refl _

theorem Text.misc (h:Text pis cls bf S K):∀{j:Nat},j≤K→(S j).D=(S 0).D∧(S j).n=(S 0).n∧(S j).rnd=(S 0).rnd:=by
 intro j
 induction j with
 | zero=>intro _; exact ⟨rfl,rfl,rfl⟩
 | succ j ih =>
  intro hj
  obtain ⟨hb,hs,_⟩:=h.step j (by omega)
  obtain ⟨h1,h2,h3⟩:=ih (by omega)
  exact ⟨hs.D.trans h1,hs.n.trans h2,hs.rnd.trans h3⟩

theorem Text.tmp (h:Text pis cls bf S K){t:Tmp}:∀{i j:Nat},i≤j→j≤K→(∀m,i≤m→m < j→(pis.getD m default).dst≠some t)→get (S j).T t=get (S i).T t:=by
 intro i j hij
 induction j with
 | zero=>intro _ _; rw [Nat.le_zero.1 hij]
 | succ j ih =>
  intro hj hm
  rcases Nat.lt_or_ge i (j+1) with hlt | hge
  ·obtain ⟨hb,hs,_⟩:=h.step j (by omega)
   rw [hs.T t (hm j (by omega) (by omega))]
   exact ih (by omega) (by omega) fun m h1 h2=>hm m h1 (by omega)
  ·rw [Nat.le_antisymm hij hge]

theorem Text.slot (h:Text pis cls bf S K){d:Tmp}:∀{i j:Nat},i≤j→j≤K→(∀m,i≤m→m < j→¬(cls.getD m 0=d+2∧isLd (pis.getD m default)=false))→sget (S j).S d=sget (S i).S d:=by
 intro i j hij
 induction j with
 | zero=>intro _ _; rw [Nat.le_zero.1 hij]
 | succ j ih =>
  intro hj hm
  rcases Nat.lt_or_ge i (j+1) with hlt | hge
  ·obtain ⟨hb,hs,_⟩:=h.step j (by omega)
   rw [hs.S d (hm j (by omega) (by omega))]
   exact ih (by omega) (by omega) fun m h1 h2=>hm m h1 (by omega)
  ·rw [Nat.le_antisymm hij hge]

theorem Text.blk (h:Text pis cls bf S K){b:Nat}{x:Blk}:∀{i j:Nat},i≤j→j≤K→(∀m hb,i≤m→m < j→CH pis cls m→(hb=true→∀i,i < pis.length→cls.getD i 0=1→m=i∨m∈bf.getD i []∨i∈bf.getD m [])→hb=false) →
  (S i).H[b]?=some x→∃y,(S j).H[b]?=some y∧((y.obj=x.obj∧y.ok=x.ok)∨(isMapO x.obj=true∧isMapO y.obj=true)):=by
 intro i j hij
 induction j with
 | zero=>intro _ _ hx; rw [Nat.le_zero.1 hij] at hx; exact ⟨x,hx,.inl ⟨rfl,rfl⟩⟩
 | succ j ih =>
  intro hj hm hx
  rcases Nat.lt_or_ge i (j+1) with hlt | hge
  ·obtain ⟨hb,hs,hf⟩:=h.step j (by omega)
   obtain ⟨y,h1,h2⟩:=ih (by omega) (by omega) (fun m hb h1 h2=>hm m hb h1 (by omega)) hx
   obtain ⟨z,g1,g2⟩:=hs.same (by
    by_cases hc:CH pis cls j
    ·exact .inr (hm j hb (by omega) (by omega) hc hf)
    ·exact .inl hc) b y h1
   refine ⟨z,g1,?_⟩
   rcases h2 with ⟨h2,h3⟩ | ⟨h2,h3⟩
   ·rcases g2 with ⟨g2,g3⟩ | ⟨g2,g3⟩
    ·exact .inl ⟨g2.trans h2,g3.trans h3⟩
    ·exact .inr ⟨by rw [←h2]; exact g2,g3⟩
   ·rcases g2 with ⟨g2,g3⟩ | ⟨g2,g3⟩
    ·exact .inr ⟨h2,by rw [g2]; exact h3⟩
    ·exact .inr ⟨h2,g3⟩
  ·rw [←Nat.le_antisymm hij hge]; exact ⟨x,hx,.inl ⟨rfl,rfl⟩⟩

theorem Text.blk0 (h:Text pis cls bf S K){b:Nat}{x:Blk}:∀{i j:Nat},i≤j→j≤K→(∀m,i≤m→m < j→¬CH pis cls m) →
  (S i).H[b]?=some x→∃y,(S j).H[b]?=some y∧y.obj=x.obj∧y.ok=x.ok:=by
 intro i j hij
 induction j with
 | zero=>intro _ _ hx; rw [Nat.le_zero.1 hij] at hx; exact ⟨x,hx,rfl,rfl⟩
 | succ j ih =>
  intro hj hm hx
  rcases Nat.lt_or_ge i (j+1) with hlt | hge
  ·obtain ⟨hb,hs,hf⟩:=h.step j (by omega)
   obtain ⟨y,h1,h2,h3⟩:=ih (by omega) (by omega) (fun m h1 h2=>hm m h1 (by omega)) hx
   obtain ⟨z,g1,g2,g3⟩:=hs.same0 (hm j (by omega) (by omega)) b y h1
   exact ⟨z,g1,g2.trans h2,g3.trans h3⟩
  ·rw [←Nat.le_antisymm hij hge]; exact ⟨x,hx,rfl,rfl⟩

theorem Text.old (h:Text pis cls bf S K){b:Nat}{x:Blk}:∀{i j:Nat},i≤j→j≤K→(∀m,i≤m→m < j→¬CH pis cls m)→(S i).H[b]?=some x→(S j).H[b]?=some x:=by
 intro i j hij
 induction j with
 | zero=>intro _ _ hx; rwa [Nat.le_zero.1 hij] at hx
 | succ j ih =>
  intro hj hm hx
  rcases Nat.lt_or_ge i (j+1) with hlt | hge
  ·obtain ⟨hb,hs,hf⟩:=h.step j (by omega)
   have h1:=ih (by omega) (by omega) (fun m h1 h2=>hm m h1 (by omega)) hx
   cases ha:ah (pis.getD j default) with
   | false=>rw [hs.H (hm j (by omega) (by omega)) ha]; exact h1
   | true =>
    rcases hs.A ha with ⟨_,h2⟩ | ⟨_,_,_,al,_,h2⟩
    ·rw [h2]; exact h1
    ·rw [h2,List.getElem?_append_left (List.getElem?_eq_some_iff.1 h1).1]; exact h1
  ·rw [←Nat.le_antisymm hij hge]; exact hx

theorem Text.oldS (h:Text pis cls bf S K){b:Nat}{x:Blk}(hx0:x.fam=none):∀{i j:Nat},i≤j→j≤K→(∀m hb,i≤m→m < j→CH pis cls m→(hb=true→∀i,i < pis.length→cls.getD i 0=1→m=i∨m∈bf.getD i []∨i∈bf.getD m [])→isStrict (pis.getD m default).op=true∧hb=false) →
  (S i).H[b]?=some x→(S j).H[b]?=some x:=by
 intro i j hij
 induction j with
 | zero=>intro _ _ hx; rwa [Nat.le_zero.1 hij] at hx
 | succ j ih =>
  intro hj hm hx
  rcases Nat.lt_or_ge i (j+1) with hlt | hge
  ·obtain ⟨hb,hs,hf⟩:=h.step j (by omega)
   have h1:=ih (by omega) (by omega) (fun m hb h1 h2=>hm m hb h1 (by omega)) hx
   by_cases hc:CH pis cls j
   ·obtain ⟨g1,g2⟩:=hm j hb (by omega) (by omega) hc hf
    exact hs.strict g1 g2 b x h1 hx0
   ·cases ha:ah (pis.getD j default) with
    | false=>rw [hs.H hc ha]; exact h1
    | true =>
     rcases hs.A ha with ⟨_,h2⟩ | ⟨_,_,_,al,_,h2⟩
     ·rw [h2]; exact h1
     ·rw [h2,List.getElem?_append_left (List.getElem?_eq_some_iff.1 h1).1]; exact h1
  ·rw [←Nat.le_antisymm hij hge]; exact hx

theorem Virt.order (h:Virt pis cls bf S K D q φ v)(hT:Text pis cls bf S K)(hkK:k < pis.length)(hnd:¬D k)(hbf:∀i,i∈bf.getD k []→D i){i:Nat}(hi:i < pis.length)(hne:i≠k)
  (h1:apart (pis.getD i default) (pis.getD k default) (cls.getD i 0) (cls.getD k 0)=false) (h2:apart (pis.getD k default) (pis.getD i default) (cls.getD k 0) (cls.getD i 0)=false):i < k↔D i:=by
 constructor
 ·intro hik
  rcases hT.pairs i k hik hkK with hp | hp
  ·exact hbf i hp
  ·rw [h1] at hp; cases hp
 ·intro hd
  rcases Nat.lt_or_gt_of_ne hne with hl | hl
  ·exact hl
  ·rcases hT.pairs k i hl hi with hp | hp
   ·exact absurd (h.down i k hd hp) hnd
   ·rw [h2] at hp; cases hp

theorem apart_dst {o p:PIns}{c d:Nat}{t:Tmp}(ho:o.dst=some t)(hp:t∈opTmps p∨p.dst=some t):apart o p c d=false:=by
 cases h:apart o p c d with
 | false=>rfl
 | true =>
  exfalso
  simp only [apart,Bool.and_eq_true,ho] at h
  have h1:=h.1.1.1.1
  simp only [bne_iff_ne,ne_eq,Bool.not_eq_true',List.contains_eq_mem,decide_eq_false_iff_not] at h1
  rcases hp with hp | hp
  ·exact h1.1 hp
  ·exact h1.2 hp

theorem apart_use {o p:PIns}{c d:Nat}{t:Tmp}(hp:p.dst=some t)(ho:t∈opTmps o):apart o p c d=false:=by
 cases h:apart o p c d with
 | false=>rfl
 | true =>
  exfalso
  simp only [apart,Bool.and_eq_true,hp] at h
  have h1:=h.1.1.1.2
  simp only [Bool.not_eq_true',List.contains_eq_mem,decide_eq_false_iff_not] at h1
  exact h1 ho

theorem apart_slot {o p:PIns}{c d r:Nat}(hc:c=r+2)(hd:d=r+2)(hl:(isLd o&&isLd p)=false):apart o p c d=false:=by
 cases h:apart o p c d with
 | false=>rfl
 | true =>
  exfalso
  simp only [apart,Bool.and_eq_true] at h
  have h1:=h.2
  subst hc
  subst hd
  simp [hl] at h1

theorem apart_slots {o p:PIns}{c d r:Nat}(h:(c=r+2∧r∈opSlots p)∨(d=r+2∧r∈opSlots o)):apart o p c d=false:=by
 cases ha:apart o p c d with
 | false=>rfl
 | true =>
  exfalso
  simp only [apart,Bool.and_eq_true] at ha
  have h1:=ha.1.2
  have h2:=ha.1.1.2
  simp only [List.all_eq_true,bne_iff_ne] at h1 h2
  rcases h with ⟨h,h'⟩ | ⟨h,h'⟩
  ·exact h1 r h' h
  ·exact h2 r h' h

theorem ah_not_mkm {o:PIns}(h:ah o=false):isMkm o=false:=by
 obtain ⟨d,p,g⟩:=o
 cases p <;> first | rfl | (simp [ah] at h)
theorem rm_not_mkm {o:PIns}(h:rm o=true):isMkm o=false:=by
 obtain ⟨d,p,g⟩:=o
 cases p <;> first | rfl | (simp [rm] at h)
theorem rm_not_strict {o:PIns}(h:rm o=true):isStrict o.op=false:=by
 obtain ⟨d,p,g⟩:=o
 cases p <;> first | rfl | (simp [rm] at h)
theorem apart_heap {o p:PIns}{c d:Nat}(hc:c=1)(hd:d=1)(ho:rh o=false)(hp:rh p=false)(ha:(ah o&&ah p)=false)(hm:(isMkm o&&isStrict p.op)=false):apart o p c d=false:=by
 cases h:apart o p c d with
 | false=>rfl
 | true =>
  exfalso
  simp only [apart,Bool.and_eq_true] at h
  have h1:=h.2
  subst hc
  subst hd
  simp [hap,ho,hp,ha,hm] at h1
theorem apart_mlk {o p:PIns}{c d:Nat}(hc:c=1)(hd:d=1)(hx:(rm o=true∧rh p=false∧ah p=false)∨(rm p=true∧rh o=false∧ah o=false)):apart o p c d=false:=by
 cases h:apart o p c d with
 | false=>rfl
 | true =>
  exfalso
  simp only [apart,Bool.and_eq_true] at h
  have h1:=h.2
  subst hc
  subst hd
  rcases hx with ⟨x1,x2,x3⟩ | ⟨x1,x2,x3⟩
  ·have:=rm_not_mkm x1
   simp [hap,x1,x2,x3,this] at h1
  ·have:=rm_not_strict x1
   simp [hap,x1,x2,x3,this] at h1

theorem Virt.tmps (h:Virt pis cls bf S K D q φ v)(hT:Text pis cls bf S K)(hk:k≤K)(hkl:k < pis.length)(hnd:¬D k)(hbf:∀i,i∈bf.getD k []→D i):∀t∈opTmps (pis.getD k default),get v.T t=get (S k).T t:=by
 intro t ht
 refine h.T t k hk fun i hi hd=>?_
 by_cases hik:i=k
 ·subst hik; exact ⟨fun h=>absurd h (Nat.lt_irrefl _),fun h=>absurd h hnd⟩
 ·exact h.order hT hkl hnd hbf (Nat.lt_of_lt_of_le hi hT.le) hik (apart_dst hd (.inl ht)) (apart_use hd ht)

theorem Virt.slots (h:Virt pis cls bf S K D q φ v)(hT:Text pis cls bf S K)(hk:k≤K)(hkl:k < pis.length)(hnd:¬D k)(hbf:∀i,i∈bf.getD k []→D i):∀d,cls.getD k 0=d+2∨d∈opSlots (pis.getD k default)→sget v.S d=sget (S k).S d:=by
 intro d hd
 refine h.Sl d k hk fun i hi hc hl=>?_
 by_cases hik:i=k
 ·subst hik; exact ⟨fun h=>absurd h (Nat.lt_irrefl _),fun h=>absurd h hnd⟩
 ·rcases hd with hd | hd
  ·exact h.order hT hkl hnd hbf (Nat.lt_of_lt_of_le hi hT.le) hik (apart_slot hc hd (by rw [hl]; rfl)) (apart_slot hd hc (by rw [hl,Bool.and_false]))
  ·exact h.order hT hkl hnd hbf (Nat.lt_of_lt_of_le hi hT.le) hik (apart_slots (.inl ⟨hc,hd⟩)) (apart_slots (.inr ⟨hc,hd⟩))

theorem Virt.reads (h:Virt pis cls bf S K D q φ v)(hT:Text pis cls bf S K)(hk:k < K)(hnd:¬D k)(hbf:∀i,i∈bf.getD k []→D i)(hc:cls.getD k 0=1)(hrh:rh (pis.getD k default)=true)
  {b:Nat} {x:Blk} (hb:b < v.H.length) (hx:(S k).H[b]?=some x) (hmap:rm (pis.getD k default)=false→isMapO x.obj=false):∃y,v.H[b]?=some y∧y.obj=x.obj∧y.ok=x.ok:=by
 have hkl:k < pis.length:=Nat.lt_of_lt_of_le hk hT.le
 have chord:∀i j,CH pis cls i→CH pis cls j→i < j→j < pis.length→i∈bf.getD j []:=fun i j hi hj hij hjl=>by
  rcases hT.pairs i j hij hjl with h | h
  ·exact h
  ·rw [apart_heap hi.1 hj.1 hi.2.1 hj.2.1 (by rw [hi.2.2]; first | rfl | exact Bool.and_false _) (by rw [ah_not_mkm hi.2.2]; rfl)] at h; cases h
 have nk:∀m,CH pis cls m→m≠k:=fun m hm he=>by subst he; rw [hm.2.1] at hrh; cases hrh
 have pick:∀{y z:Blk},((z.obj=y.obj∧z.ok=y.ok)∨(isMapO y.obj=true∧isMapO z.obj=true))→isMapO y.obj=false∨isMapO z.obj=false→z.obj=y.obj∧z.ok=y.ok:=by
  intro y z h1 h2
  rcases h1 with h1 | ⟨h3,h4⟩
  ·exact h1
  ·rcases h2 with h2 | h2
   ·rw [h2] at h3; cases h3
   ·rw [h2] at h4; cases h4
 cases hrm:rm (pis.getD k default) with
 | true =>
  rcases Nat.le_total k q with hkq | hqk
  ·rw [h.H]
   refine hT.blk0 hkq h.qK (fun m h1 h2 hm=>?_) hx
   have hmk:=nk m hm
   have hdm:=h.qa m h2 hm
   rcases hT.pairs k m (by omega) (by have:=h.dK m hdm; have:=hT.le; omega) with hp | hp
   ·exact hnd (h.down m k hdm hp)
   ·rw [apart_mlk hc hm.1 (.inl ⟨hrm,hm.2.1,hm.2.2⟩)] at hp; cases hp
  ·obtain ⟨y,hy⟩:∃y,v.H[b]?=some y:=⟨_,List.getElem?_eq_getElem hb⟩
   refine ⟨y,hy,?_⟩
   rw [h.H] at hy
   obtain ⟨z,g1,g2,g3⟩:=hT.blk0 hqk (Nat.le_of_lt hk) (fun m h1 h2 hm=>by
    have hqlt:q < K:=by omega
    obtain ⟨hq1,hq2⟩:=h.qb hqlt
    have hdm:¬D m:=fun hd=>by
     rcases Nat.lt_or_ge q m with hqm | hqm
     ·exact hq2 (h.down m q hd (chord q m hq1 hm hqm (by omega)))
     ·have:m=q:=by omega
      subst this; exact hq2 hd
    rcases hT.pairs m k h2 hkl with hp | hp
    ·exact hdm (hbf m hp)
    ·rw [apart_mlk hm.1 hc (.inr ⟨hrm,hm.2.1,hm.2.2⟩)] at hp; cases hp) hy
   rw [hx] at g1; cases g1
   exact ⟨g2.symm,g3.symm⟩
 | false =>
 have hxm:=hmap hrm
 rcases Nat.le_total k q with hkq | hqk
 ·rw [h.H]
  refine Exists.imp (fun y hy=>⟨hy.1,pick hy.2 (.inl hxm)⟩) (hT.blk hkq h.qK (fun m hbm h1 h2 hm hf=>?_) hx)
  cases hbv:hbm with
  | false=>rfl
  | true =>
   exfalso
   rcases hf hbv k hkl hc with he | he | he
   ·exact nk m hm he
   ·have:=hT.back _ _ he; omega
   ·exact hnd (h.down m k (h.qa m h2 hm) he)
 ·obtain ⟨y,hy⟩:∃y,v.H[b]?=some y:=⟨_,List.getElem?_eq_getElem hb⟩
  refine ⟨y,hy,?_⟩
  rw [h.H] at hy
  have hch:∀m hb,q≤m→m < k→CH pis cls m→(hb=true→∀i,i < pis.length→cls.getD i 0=1→m=i∨m∈bf.getD i []∨i∈bf.getD m [])→hb=false:=by
   intro m hbm h1 h2 hm hf
   cases hbv:hbm with
   | false=>rfl
   | true =>
    exfalso
    have hqlt:q < K:=by omega
    obtain ⟨hq1,hq2⟩:=h.qb hqlt
    have hdm:¬D m:=fun hd=>by
     rcases Nat.lt_or_ge q m with hqm | hqm
     ·exact hq2 (h.down m q hd (chord q m hq1 hm hqm (by omega)))
     ·have:m=q:=by omega
      subst this; exact hq2 hd
    rcases hf hbv k hkl hc with he | he | he
    ·exact nk m hm he
    ·exact hdm (hbf m he)
    ·have:=hT.back _ _ he; omega
  obtain ⟨z,g1,g2⟩:=hT.blk hqk (Nat.le_of_lt hk) hch hy
  rw [hx] at g1; cases g1
  obtain ⟨g2,g3⟩:=pick g2 (.inr hxm)
  exact ⟨g2.symm,g3.symm⟩

theorem Virt.turn (h:Virt pis cls bf S K D q φ v)(hT:Text pis cls bf S K)(hk:k < K)(hnd:¬D k)(hbf:∀i,i∈bf.getD k []→D i)(hc:CH pis cls k):k=q:=by
 rcases Nat.lt_trichotomy k q with hlt | heq | hgt
 ·exact absurd (h.qa k hlt hc) hnd
 ·exact heq
 ·obtain ⟨h1,h2⟩:=h.qb (by omega)
  rcases hT.pairs q k hgt (Nat.lt_of_lt_of_le hk hT.le) with hp | hp
  ·exact absurd (hbf q hp) h2
  ·rw [apart_heap h1.1 hc.1 h1.2.1 hc.2.1 (by rw [hc.2.2]; first | rfl | exact Bool.and_false _) (by rw [ah_not_mkm h1.2.2]; rfl)] at hp; cases hp

theorem Virt.laid (h:Virt pis cls bf S K D q φ v)(hT:Text pis cls bf S K)(hk:k < K)(hnd:¬D k)(hbf:∀i,i∈bf.getD k []→D i)(ha:ah (pis.getD k default)=true)(hc:cls.getD k 0=1)(hrh:rh (pis.getD k default)=false) :
  k < q∧∀m,k≤m→m < q→CH pis cls m→isMkm (pis.getD k default)=true∧isStrict (pis.getD m default).op=true∧k ∉ bf.getD m []∧m≠k:=by
 have hkl:k < pis.length:=Nat.lt_of_lt_of_le hk hT.le
 constructor
 ·rcases Nat.lt_trichotomy k q with hlt | heq | hgt
  ·exact hlt
  ·obtain ⟨h1,_⟩:=h.qb (by omega)
   rw [←heq] at h1
   rw [h1.2.2] at ha; cases ha
  ·obtain ⟨h1,h2⟩:=h.qb (by omega)
   rcases hT.pairs q k hgt hkl with hp | hp
   ·exact absurd (hbf q hp) h2
   ·rw [apart_heap h1.1 hc h1.2.1 hrh (by rw [h1.2.2]; first | rfl | exact Bool.and_false _) (by rw [ah_not_mkm h1.2.2]; rfl)] at hp; cases hp
 ·intro m hkm hmq hm
  have hd:=h.qa m hmq hm
  rcases Nat.lt_or_ge k m with hlt | hge
  ·rcases hT.pairs k m hlt (by have:=h.dK m hd; have:=hT.le; omega) with hp | hp
   ·exact (hnd (h.down m k hd hp)).elim
   ·cases hx:(isMkm (pis.getD k default)&&isStrict (pis.getD m default).op) with
    | true =>
     simp only [Bool.and_eq_true] at hx
     exact ⟨hx.1,hx.2,fun hk=>hnd (h.down m k hd hk),by omega⟩
    | false=>rw [apart_heap hc hm.1 hrh hm.2.1 (by rw [hm.2.2]; first | rfl | exact Bool.and_false _) hx] at hp; cases hp
  ·have:m=k:=by omega
   subst this; exact (hnd hd).elim

theorem next_ch:∀(m k:Nat),K - k=m→k≤K→∃q,k≤q∧q≤K∧(∀j,k≤j→j < q→¬CH pis cls j)∧(q < K→CH pis cls q):=by
 intro m
 induction m with
 | zero=>intro k h1 h2; exact ⟨k,Nat.le_refl _,h2,fun j _ _=>by omega,fun _=>by omega⟩
 | succ m ih =>
  intro k h1 h2
  by_cases hc:CH pis cls k
  ·exact ⟨k,Nat.le_refl _,h2,fun j _ _=>by omega,fun _=>hc⟩
  ·obtain ⟨q,g1,g2,g3,g4⟩:=ih (k+1) (by omega) (by omega)
   refine ⟨q,by omega,g2,fun j hj hq=>?_,g4⟩
   rcases Nat.lt_or_ge k j with h | h
   ·exact g3 j h hq
   ·have:j=k:=by omega
    subst this; exact hc

theorem Virt.next (h:Virt pis cls bf S K D q φ v)(hT:Text pis cls bf S K)(hk:k < K)(hnd:¬D k)(hbf:∀i,i∈bf.getD k []→D i){v':St}{q':Nat}{φ':Map}
  (hTv:∀t,get v'.T t=if (pis.getD k default).dst=some t then get (S (k+1)).T t else get v.T t)
  (hSv:∀d,sget v'.S d=if cls.getD k 0=d+2∧isLd (pis.getD k default)=false then sget (S (k+1)).S d else sget v.S d)
  (hD:v'.D=v.D) (hn:v'.n=v.n) (hrnd:v'.rnd=v.rnd) (hH:v'.H=(S q').H) (hq1:q'≤K) (hq2:∀j,j < q'→CH pis cls j→D j∨j=k) (hq3:q' < K→CH pis cls q'∧¬D q'∧q'≠k)
  (hho:∀j,j < q'→j≠k→ah (pis.getD j default)=true→¬D j→wanted (pis.getD j default) (S j).T=some true→φ' (S j).H.length=none) :
  Virt pis cls bf S K (fun i=>D i∨i=k) q' φ' v':=by
 have hkl:k < pis.length:=Nat.lt_of_lt_of_le hk hT.le
 refine ⟨fun i hi=>?_,fun j i hj hi=>?_,hq1,hq2,fun hq=>⟨(hq3 hq).1,fun hd=>hd.elim (hq3 hq).2.1 (hq3 hq).2.2⟩,fun t k' hk' hg=>?_,fun d k' hk' hg=>?_,hH,fun j hj ha hd hw=>hho j hj (fun he=>hd (.inr he)) ha (fun hdj=>hd (.inl hdj)) hw,hD.trans h.Df,hn.trans h.n,hrnd.trans h.rnd⟩
 ·rcases hi with hi | rfl
  ·exact h.dK i hi
  ·exact hk
 ·rcases hj with hj | rfl
  ·exact .inl (h.down j i hj hi)
  ·exact .inl (hbf i hi)
 ·rw [hTv]
  split
  ·rename_i hd
   have hkk:k < k':=(hg k hk hd).2 (.inr rfl)
   refine (hT.tmp hkk hk' fun m h1 h2 hm=>?_).symm
   have hmK:m < K:=by omega
   have hdm:D m:=((hg m hmK hm).1 h2).resolve_right (by omega)
   have:=(h.order hT hkl hnd hbf (Nat.lt_of_lt_of_le hmK hT.le) (by omega) (apart_dst hm (.inr hd)) (apart_dst hd (.inr hm))).2 hdm
   omega
  ·rename_i hd
   refine h.T t k' hk' fun i hi hw=>?_
   rw [hg i hi hw]
   constructor
   ·rintro (h | rfl)
    ·exact h
    ·exact absurd hw hd
   ·exact .inl
 ·rw [hSv]
  split
  ·rename_i hd
   have hkk:k < k':=(hg k hk hd.1 hd.2).2 (.inr rfl)
   refine (hT.slot hkk hk' fun m h1 h2 hm=>?_).symm
   have hmK:m < K:=by omega
   have hdm:D m:=((hg m hmK hm.1 hm.2).1 h2).resolve_right (by omega)
   have:=(h.order hT hkl hnd hbf (Nat.lt_of_lt_of_le hmK hT.le) (by omega) (apart_slot hm.1 hd.1 (by rw [hm.2]; rfl)) (apart_slot hd.1 hm.1 (by rw [hm.2,Bool.and_false]))).2 hdm
   omega
  ·rename_i hd
   refine h.Sl d k' hk' fun i hi hw hl=>?_
   rw [hg i hi hw hl]
   constructor
   ·rintro (h | rfl)
    ·exact h
    ·exact absurd ⟨hw,hl⟩ hd
   ·exact .inl

theorem Virt.full (h:Virt pis cls bf S K D q φ v)(hT:Text pis cls bf S K)(hD:∀i,i < K→D i):(∀t,get v.T t=get (S K).T t)∧(∀d,sget v.S d=sget (S K).S d)∧v.H=(S K).H∧v.D=(S K).D∧v.n=(S K).n∧v.rnd=(S K).rnd:=by
 obtain ⟨h1,h2,h3⟩:=hT.misc (Nat.le_refl K)
 have hq:q=K:=by
  rcases Nat.lt_or_ge q K with hlt | hge
  ·exact absurd (hD q hlt) (h.qb hlt).2
  ·exact Nat.le_antisymm h.qK hge
 exact ⟨fun t=>h.T t K (Nat.le_refl _) fun i hi _=>⟨fun _=>hD i hi,fun _=>hi⟩,fun d=>h.Sl d K (Nat.le_refl _) fun i hi _ _=>⟨fun _=>hD i hi,fun _=>hi⟩,by rw [h.H,hq],h.Df.trans h1.symm,h.n.trans h2.symm,h.rnd.trans h3.symm⟩

end
end Go.Pi
namespace Go.Pi
open Go

section
variable {E:Ent} {n:Nat} {φ:Map} {lm:LMap} {s v:St} {a:Act} {w:World} {o:Oper} {ro:Option Nat}
variable {L:List Tmp} {call:CallT} {e:Ex} {s1:St} {pi:PIns} {c:Nat} {P:Program}
variable {pis:List PIns} {cls:List Nat} {bf:List (List Nat)} {S:Nat→St} {K k q:Nat} {D:Nat→Prop}

theorem holes_run (hT:Text pis cls bf S K){i j:Nat}(hij:i≤j)(hj:j≤K)(hn:∀m,i≤m→m < j→¬CH pis cls m)(h:SR E φ lm v a w)(hv:v.H=(S i).H):SR E φ lm { v with H:=(S j).H } a w:=by
 induction j with
 | zero=>rw [←Nat.le_zero.1 hij,←hv]; exact h
 | succ j ih =>
  rcases Nat.lt_or_ge i (j+1) with hlt | hge
  ·have h1:=ih (by omega) (by omega) fun m h1 h2=>hn m h1 (by omega)
   obtain ⟨hb,hs,hf⟩:=hT.step j (by omega)
   cases ha:ah (pis.getD j default) with
   | false=>rw [hs.H (hn j (by omega) (by omega)) ha]; exact h1
   | true =>
    rcases hs.A ha with ⟨_,h2⟩ | ⟨_,_,_,al,_,h2⟩
    ·rw [h2]; exact h1
    ·rw [h2]
     exact h1.hole (al.blk (S j).H.length) (fun _=>rfl) fun f hf=>by
      simp only [Alc.blk] at hf
      split at hf <;> simp at hf
      simp only; omega
  ·have:i=j+1:=Nat.le_antisymm hij hge
   rw [←this,←hv]; exact h

theorem calm_of (hcl:clsOk pi c s=true)(hc:¬(c=1∧rh pi=false))(ha:ah pi=false):calm pi.op=true:=by
 obtain ⟨d,p,g⟩:=pi
 cases p <;> first | rfl | (simp [ah] at ha; done) | (simp [clsOk,rh] at hcl hc; omega) | skip
 all_goals
  simp only [clsOk,rh,Bool.and_eq_true,beq_iff_eq] at hcl hc
  exact absurd ⟨hcl.1,rfl⟩ hc

theorem rh_not_strict {pi:PIns}(h:rh pi=true):isStrict pi.op=false:=by
 obtain ⟨d,p,g⟩:=pi
 cases p <;> first | rfl | (simp [rh] at h)
theorem reads_in (h:SR E φ lm v a w)(hx:o.op.operands.toList.all opndOk=true)(hc:comp E.P L o=some pi.op)(hT:∀t∈opTmps pi,get v.T t=get s.T t){b:Nat}
  (hm:match pi.op with
   | .ld _ x=>∃off,ev s.T x=.pointer (some ⟨b,off,none⟩)
   | .b2s x=>∃off l m,ev s.T x=.slice (some ⟨b,off,none⟩) l m∧l≠0
   | .mlk _ _ _ m _=>ev s.T m=.map (some b)
   | _=>False):b < v.H.length:=by
 have key:∀(x:Operand),x∈o.op.operands.toList→(∀t,tmpOf x=some t→t∈opTmps pi)→∃x',TR φ lm (ev s.T x) x':=fun x hxm ht=>by
  have:=h.opnds hx x hxm
  rw [ev_alike (T:=s.T) fun t htt=>hT t (ht t htt)] at this
  exact ⟨_,this⟩
 obtain ⟨d,p,g⟩:=pi
 cases p with
 | ld nn x =>
  obtain ⟨off,hm⟩:=hm
  obtain ⟨x',hx'⟩:=key x (by
   obtain ⟨t,ho,_⟩:=came hc
   simp [ho,Op.operands]) (fun t ht=>by simp [opTmps,ht])
  rw [hm] at hx'
  have:=hx'.to_vr rfl
  cases this with
  | ptr _ _ sl hsl=>exact (h.emb.inb _ _ hsl).1
 | b2s x =>
  obtain ⟨off,l,m,hm,hl⟩:=hm
  obtain ⟨x',hx'⟩:=key x (by
   obtain ⟨t,u,e,ho,_⟩:=came hc
   simp [ho,Op.operands]) (fun t ht=>by simp [opTmps,ht])
  rw [hm] at hx'
  have:=hx'.to_vr rfl
  cases this with
  | sl _ _ _ _ aa cc hle hp =>
   obtain ⟨sl,hsl,_⟩:=hp (.inl (by omega))
   exact (h.emb.inb _ _ hsl).1
 | mlk sh z ok m kk =>
  obtain ⟨x',hx'⟩:=key m (by
   obtain ⟨t,kt,e,ho,_⟩:=came hc
   simp [ho,Op.operands]) (fun t ht=>by simp only [opTmps,List.mem_append,List.mem_filterMap]; exact .inr ⟨m,by simp,ht⟩)
  rw [hm] at hx'
  have:=hx'.to_vr rfl
  cases this with
  | map _ sl hsl=>exact (h.emb.inb _ _ hsl).1
 | _=>exact hm.elim

def Done (E:Ent)(pis:List PIns)(cls:List Nat)(bf:List (List Nat))(S:Nat→St)(K:Nat)(D:Nat→Prop)(a:Act)(w:World):Prop :=
 ∃q φ lm v,Virt pis cls bf S K D q φ v∧SR E φ lm v a w

theorem land (hT:Text pis cls bf S K)(hV:Virt pis cls bf S K D q φ v)(hk:k < K)(hnd:¬D k)(hbf:∀i,i∈bf.getD k []→D i){v1:St}{φ1:Map}{lm1:LMap}{a1:Act}{w1:World}
  (hTv:∀t,get v1.T t=if (pis.getD k default).dst=some t then get (S (k+1)).T t else get v.T t)
  (hSv:∀d,sget v1.S d=if cls.getD k 0=d+2∧isLd (pis.getD k default)=false then sget (S (k+1)).S d else sget v.S d)
  (hD:v1.D=v.D) (hn:v1.n=v.n) (hrnd:v1.rnd=v.rnd) (hc1:CH pis cls k→v1.H=(S (k+1)).H) (hc0:¬CH pis cls k→v1.H=v.H∧∀j,j < K→j≠k→ah (pis.getD j default)=true→wanted (pis.getD j default) (S j).T=some true→φ (S j).H.length=none→φ1 (S j).H.length=none)
  (hcs:CH pis cls k→isStrict (pis.getD k default).op=true→∀i,i < v.H.length→φ1 i=φ i)
  (hs:SR E φ1 lm1 v1 a1 w1):Done E pis cls bf S K (fun i=>D i∨i=k) a1 w1:=by
 have hkl:k < pis.length:=Nat.lt_of_lt_of_le hk hT.le
 by_cases hc:CH pis cls k
 ·have hkq:=hV.turn hT hk hnd hbf hc
  obtain ⟨q',g1,g2,g3,g4⟩:=next_ch (pis:=pis) (cls:=cls) (K - (k+1)) (k+1) rfl hk
  have hs':=holes_run hT g1 g2 g3 hs (hc1 hc)
  refine ⟨q',φ1,lm1,{ v1 with H:=(S q').H },hV.next hT hk hnd hbf hTv hSv hD hn hrnd rfl g2 (fun j hj hcj=>?_) (fun hq=>?_) (fun j hj hjk ha hdj hw=>?_),hs'⟩
  ·rcases Nat.lt_trichotomy j k with h | h | h
   ·exact .inl (hV.qa j (by omega) hcj)
   ·exact .inr h
   ·exact absurd hcj (g3 j h hj)
  ·refine ⟨g4 hq,fun hd=>hnd (hV.down q' k hd ?_),by omega⟩
   have h4:=g4 hq
   rcases hT.pairs k q' g1 (Nat.lt_of_lt_of_le hq hT.le) with hp | hp
   ·exact hp
   ·rw [apart_heap hc.1 h4.1 hc.2.1 h4.2.1 (by rw [h4.2.2]; exact Bool.and_false _) (by rw [ah_not_mkm hc.2.2]; rfl)] at hp; cases hp
  ·have hjK:j < K:=by omega
   by_cases hjk':j < k∧isStrict (pis.getD k default).op=true
   ·obtain ⟨hb,hst,_⟩:=hT.step j hjK
    rcases hst.A ha with ⟨h1,_⟩ | ⟨_,h1,h2,al,_,h3⟩
    ·rw [h1] at hw; cases hw
    ·have h4:(S (j+1)).H.length=(S j).H.length+1:=by rw [h3]; simp
     have h5:=hT.mono (i:=j+1) (j:=k) hjk'.1 (Nat.le_of_lt hk)
     have h6:v.H=(S k).H:=by rw [hV.H,hkq]
     rw [hcs hc hjk'.2 _ (by rw [h6]; omega)]
     exact hV.holes j (by omega) ha hdj hw
   have hkj:k < j:=by
    rcases Nat.lt_or_ge k j with h | h
    ·exact h
    ·exfalso
     obtain ⟨hb,hst,_⟩:=hT.step j hjK
     rcases hst.A ha with ⟨h1,_⟩ | ⟨_,h1,h2,_⟩
     ·rw [h1] at hw; cases hw
     ·rcases hT.pairs j k (by omega) hkl with hp | hp
      ·exact hdj (hbf j hp)
      ·cases hx:(isMkm (pis.getD j default)&&isStrict (pis.getD k default).op) with
       | true =>
        simp only [Bool.and_eq_true] at hx
        exact hjk' ⟨by omega,hx.2⟩
       | false=>rw [apart_heap h1 hc.1 h2 hc.2.1 (by rw [hc.2.2]; exact Bool.and_false _) hx] at hp; cases hp
   cases hx:φ1 (S j).H.length with
   | none=>rfl
   | some sl =>
    exfalso
    have h1:=(hs.emb.inb _ _ hx).1
    rw [hc1 hc] at h1
    have:=hT.mono (i:=k+1) (j:=j) hkj (Nat.le_of_lt hjK)
    omega
 ·obtain ⟨h1,h2⟩:=hc0 hc
  refine ⟨q,φ1,lm1,v1,hV.next hT hk hnd hbf hTv hSv hD hn hrnd (h1.trans hV.H) hV.qK (fun j hj hcj=>.inl (hV.qa j hj hcj)) (fun hq=>⟨(hV.qb hq).1,(hV.qb hq).2,fun he=>hc (he ▸ (hV.qb hq).1)⟩) (fun j hj hjk ha hdj hw=>?_),hs⟩
  exact h2 j (Nat.lt_of_lt_of_le hj hV.qK) hjk ha hw (hV.holes j hj ha hdj hw)

theorem virt_op {ops:Array Oper}{Q:Exit→Act→World→Prop}(hsim:CallSim E.P E.B call)(hro:v.rnd=ro.isSome)(hT:Text pis cls bf S K)(hV:Virt pis cls bf S K D q φ v)(h:SR E φ lm v a w)(hk:k < K)(hnd:¬D k)(hbf:∀i,i∈bf.getD k []→D i)
  (ho:ops[k]?=some o) (hc:compI E.P L ops.toList o=some (pis.getD k default)) {f:Flag} (hst:StepD call (pis.getD k default) f (S k) (S (k+1))) (hf:f.cls=cls.getD k 0) (hlow:E.H.length≤(S 0).H.length) :
  wpOpIn (W ro) n E.P ops Q k (Done E pis cls bf S K (fun i=>D i∨i=k)) a w:=by
 have hkl:k < pis.length:=Nat.lt_of_lt_of_le hk hT.le
 have htm:=hV.tmps hT (Nat.le_of_lt hk) hkl hnd hbf
 have hsl:=hV.slots hT (Nat.le_of_lt hk) hkl hnd hbf
 obtain ⟨hb0,hstf,_⟩:=hT.step k hk
 have hmisc:=hT.misc (Nat.le_of_lt hk)
 have hL:=hV.laid hT hk hnd hbf
 have hR:=fun (x1:cls.getD k 0=1) (x2:rh (pis.getD k default)=true) {b:Nat} {x:Blk} (x3:b < v.H.length) (x4:(S k).H[b]?=some x) (x5:rm (pis.getD k default)=false→isMapO x.obj=false)=>hV.reads hT hk hnd hbf x1 x2 x3 x4 x5
 have hland:=fun {v1 φ1 lm1 a1 w1}=>land (E:=E) (v1:=v1) (φ1:=φ1) (lm1:=lm1) (a1:=a1) (w1:=w1) hT hV hk hnd hbf
 have hturn:=hV.turn hT hk hnd hbf
 unfold CH at hland hturn
 have hpg:pis.getD k default=pis.getD k default:=rfl
 generalize hpi:pis.getD k default=pi at *
 generalize hcc:cls.getD k 0=c at *
 obtain ⟨hc1,hc2,hc3⟩:=compI_spec hc
 have hwv:wanted pi v.T=wanted pi (S k).T:=wanted_alike htm
 unfold wpOpIn
 rw [ho]
 simp only
 rcases hst with ⟨hw,hcl,s2,hop,hlo,hS1⟩ | ⟨hw,hp⟩
 ·have hwr:=wanted_run h hc (hwv.trans hw)
  simp only [Array.toArray_toList] at hwr
  rw [if_pos hwr]
  rw [hf] at hcl
  cases ha:ah pi with
  | false =>
   have hE:=eff (c:=c) (s:={ S k with lo:=(S k).H.length }) hcl hop ha
   have hal:Alike pi c { S k with lo:=(S k).H.length } v:=by
    refine ⟨hV.n.trans hmisc.2.1.symm,hV.rnd.trans hmisc.2.2.symm,htm,hsl,fun h1 h2=>?_,fun h2 b x hm hx hmap=>?_⟩
    ·have hq:=hturn ⟨h1,h2,ha⟩
     show v.H=(S k).H
     rw [hV.H,hq]
    ·have hb:=reads_in (s:=S k) h hc3 (hc1.plain (rh_not_strict h2)) htm hm
     have hc1':c=1:=by
      obtain ⟨d,p,g⟩:=pi
      cases p <;> simp only at hm
      case ld nn x =>
       obtain ⟨off,hm⟩:=hm
       have hm':ev (S k).T x=.pointer (some ⟨b,off,none⟩):=hm
       simpa [clsOk,hm'] using hcl
      case b2s x =>
       simp only [clsOk,Bool.and_eq_true,beq_iff_eq] at hcl
       exact hcl.1
      case mlk =>
       simpa [clsOk] using hcl
     exact hR hc1' h2 hb hx hmap
   obtain ⟨v1,h1,h2,h3,h4,h5,h6,h7⟩:=hE.again v hal
   have hop':opR call ⟨o.dst,pi.op,pi.guard⟩ v=some (.normal,v1):=by rw [←hc2]; exact h1
   have hG:=simOp (n:=n) hsim h hro hc1 hc3 hop'
   refine wpIn_monoQ ?_ ?_ hG
   ·rintro a' w' ⟨_,φ',lm',hcalm,hs⟩
    refine hland (fun t=>?_) (fun d=>?_) h5 h6 h7 (fun hch=>?_) (fun hch=>⟨?_,fun j hj hjk haj hwj hn=>?_⟩) (fun _ hst=>hcalm.2 hst) hs
    ·rw [h2,hS1]
    ·rw [h3,hS1]
    ·rw [h4,if_pos ⟨hch.1,hch.2.1⟩,hS1]
    ·rw [h4,if_neg]; rintro ⟨x,y⟩; exact hch ⟨x,y,ha⟩
    ·rw [hcalm.1 (calm_of hcl (fun x=>hch ⟨x.1,x.2,ha⟩) ha)]; exact hn
   ·rintro e' a' w' ⟨v0,v0',φ',lm',he,_⟩
    cases he
  | true =>
   obtain ⟨k1,k2,k3,al,k4,k5⟩:=effA (s:={ S k with lo:=(S k).H.length }) hcl hop ha
   obtain ⟨hkq,hnoch⟩:=hL ha k1 k2
   have hnst:isStrict pi.op=false:=by
    cases hx:isStrict pi.op with
    | false=>rfl
    | true=>rw [strict_not_ah hx] at ha; cases ha
   have hav:allocOf pi.op v.T=some al:=by rw [allocOf_alike htm ha]; exact k4
   obtain ⟨_,hp⟩:=putO_put k5
   obtain ⟨g1,g2,g3,g4,g5,g6⟩:=put_get hp
   have hSH:(S (k+1)).H=(S k).H++[al.blk (S k).H.length]:=by rw [hS1]; exact g3
   have hblk:v.H[(S k).H.length]?=some (al.blk (S k).H.length):=by
    rw [hV.H]
    by_cases hmk:isMkm pi=true
    ·have hfam:(al.blk (S k).H.length).fam=none:=by
      obtain ⟨dd,pp,gg⟩:=pi
      cases pp <;> simp [isMkm] at hmk
      simp only [allocOf,Option.some.injEq] at k4
      subst k4; rfl
     refine hT.oldS hfam (i:=k+1) hkq hV.qK (fun m hb h1 h2 hcm hf=>?_) ?_
     ·obtain ⟨_,g2,g3,g4⟩:=hnoch m (by omega) h2 hcm
      refine ⟨g2,?_⟩
      cases hb with
      | false=>rfl
      | true =>
       exfalso
       rcases hf rfl k hkl (by rw [hcc]; exact k1) with he | he | he
       ·exact g4 he
       ·have:=hT.back _ _ he; omega
       ·exact g3 he
     ·rw [hSH]; simp
    ·refine hT.old (i:=k+1) hkq hV.qK (fun m h1 h2 hcm=>hmk (hnoch m (by omega) h2 hcm).1) ?_
     rw [hSH]; simp
   have hfree:φ (S k).H.length=none:=hV.holes k hkq (by rw [hpi]; exact ha) hnd (by rw [hpi]; exact hw)
   have hEl:E.H.length≤(S k).H.length:=Nat.le_trans hlow (hT.mono (Nat.zero_le _) (Nat.le_of_lt hk))
   obtain ⟨ob,siz,top,v',w',m1,m2,m3,m4⟩:=alloc_run (P:=E.P) (φ:=φ) (lm:=lm) (hc1.plain hnst) hav (h.opnds hc3) w
   obtain ⟨m5,m6⟩:=m4 (S k).H.length (upd φ (S k).H.length ⟨w.heap.size,0,siz,top⟩) (upd_sub hfree) (by simp [upd])
   have hfill:=h.fill hfree hblk hEl m2 (fun _=>m5) m3
   obtain ⟨v1,hp'⟩:=put_again hp (s':=v) (hV.n.trans hmisc.2.1.symm)
   obtain ⟨n1,n2,n3,n4,n5,n6⟩:=put_get hp'
   have hnd':∀cc,o.op≠.defer cc:=comp_v_not_defer (hc1.plain hnst) fun f xs hp=>by
    obtain ⟨d,p,g⟩:=pi
    simp only at hp; subst hp; simp [ah] at ha
   have hG:OpG E (W ro) n o a w .normal v1 (·=upd φ (S k).H.length ⟨w.heap.size,0,siz,top⟩) :=
    .value (s2:=v) (v:=al.val (S k).H.length) (W_fn ro) hnd' m1 hfill (by rw [←hc2,putO,hp']; rfl) (.vr _ _ m6) rfl
   refine wpIn_monoQ ?_ ?_ hG
   ·rintro a' w'' ⟨_,φ',lm',rfl,hs⟩
    refine hland (fun t=>?_) (fun d=>?_) n4 n5 n6 (fun hch=>?_) (fun hch=>⟨n3,fun j hj hjk haj hwj hn=>?_⟩) (fun _ hst=>by rw [hnst] at hst; cases hst) hs
    ·rw [n1,hS1]; show _=if pi.dst=some t then get s2.T t else _
     rw [g1]; split <;> rfl
    ·rw [n2]
     split
     ·rename_i hd; omega
     ·rfl
    ·rw [hch.2.2] at ha; cases ha
    ·have hne:(S j).H.length≠(S k).H.length:=by
      rcases Nat.lt_or_gt_of_ne hjk with hlt | hgt
      ·obtain ⟨hbj,hsj,_⟩:=hT.step j hj
       have h2:=hT.mono (i:=j+1) (j:=k) hlt (Nat.le_of_lt hk)
       rcases hsj.A haj with ⟨h1,_⟩ | ⟨_,_,_,al',_,h1⟩
       ·rw [h1] at hwj; cases hwj
       ·rw [h1] at h2; simp at h2; omega
      ·have h2:=hT.mono (i:=k+1) (j:=j) hgt (Nat.le_of_lt hj)
       rw [hSH] at h2; simp at h2; omega
     simp only [upd,if_neg hne]; exact hn
   ·rintro e' a' w'' ⟨v0,v0',φ',lm',he,_⟩
    cases he
 ·have hwr:=wanted_run h hc (hwv.trans hw)
  simp only [Array.toArray_toList] at hwr
  rw [if_neg (by simp [hwr])]
  refine ⟨fun _ _=>trivial,?_⟩
  obtain ⟨g1,g2,g3,g4,g5,g6⟩:=put_get hp
  obtain ⟨v1,hp'⟩:=put_again hp (s':=v) (hV.n.trans hmisc.2.1.symm)
  obtain ⟨n1,n2,n3,n4,n5,n6⟩:=put_get hp'
  have hs:SR E φ lm v1 (a.put o.dst undef) w:=h.put (.vr _ _ (VR.undef φ)) (by rw [←hc2]; exact hp')
  refine hland (fun t=>?_) (fun d=>?_) n4 n5 n6 (fun hch=>?_) (fun hch=>⟨n3,fun j hj hjk haj hwj hn=>hn⟩) (fun _ _ i _=>rfl) hs
  ·rw [n1,g1]; split <;> rfl
  ·rw [n2,g2]
   split
   ·rename_i hd; exact hsl d (.inl hd.1)
   ·rfl
  ·rw [n3,g3,hV.H,←hturn hch]

end
end Go.Pi
namespace Go.Pi
open Go

section
variable {E:Ent} {n:Nat} {φ:Map} {lm:LMap} {s v:St} {a:Act} {w:World} {o:Oper} {ro:Option Nat}
variable {L:List Tmp} {call:CallT} {e:Ex} {s1:St} {P:Program}
variable {pis:List PIns} {cls:List Nat} {bf:List (List Nat)} {S:Nat→St} {K k q:Nat}

theorem get_wipe:∀(ds:List Nat) (T:List Value) (t:Nat),get (wipe ds T) t=if t∈ds then junk else get T t
 | [],T,t=>by simp [wipe]
 | d :: ds,T,t=>by
  have:=get_wipe ds (set T d junk) t
  show get (wipe ds (set T d junk)) t=_
  rw [this,get_set]
  by_cases h1:t∈ds
  ·simp [h1]
  ·by_cases h2:t=d
   ·simp [h2]
   ·simp [h1,h2]

theorem SR.wipe (h:SR E φ lm s a w)(ds:List Nat):SR E φ lm { s with T:=wipe ds s.T } a w :=
 ⟨h.emb,h.ext,h.loc,h.siz,fun t=>by
  show TR φ lm (get (Go.Pi.wipe ds s.T) t) _
  rw [get_wipe]
  split
  ·exact .vr _ _ (VR.junk _)
  ·exact h.env t,h.dfr,h.hB,h.dom⟩

theorem callR_stop {o:PIns}{f:Value}{vs:List Value}{s2:St}(h:opR.callR call o s f vs=some (e,s2))(hne:e≠.normal)(hH:v.H=s.H)(hlo:v.lo=s.lo) :
  opR.callR call o v f vs=some (e,{ v with H:=s2.H,lo:=s2.lo })∧s2.T=s.T∧s2.S=s.S∧s2.D=s.D∧s2.n=s.n∧s2.rnd=s.rnd:=by
 unfold opR.callR at h ⊢
 rw [hH,hlo]
 by_cases hv:(vs.all fun v=>!isLoc v)=true
 ·rw [if_pos hv] at h ⊢
  cases hf:fnArgs f vs with
  | none=>rw [hf] at h; cases h
  | some x =>
   obtain ⟨fn,args⟩:=x
   rw [hf] at h
   simp only at h ⊢
   cases hc:call fn args s.H with
   | none=>rw [hc] at h; cases h
   | some out =>
    obtain ⟨r,H,lo⟩:=out
    rw [hc] at h
    cases r with
    | ok x=>exact absurd (putO_put h).1 hne
    | panic x =>
     simp only [Option.some.injEq,Prod.mk.injEq] at h
     obtain ⟨rfl,rfl⟩:=h
     exact ⟨rfl,rfl,rfl,rfl,rfl,rfl⟩
 ·rw [if_neg hv] at h; cases h

theorem opR_stop {pi:PIns}{s2:St}(hp:canP pi=true)(h:opR call pi s=some (e,s2))(hne:e≠.normal)(hT:∀t∈opTmps pi,get v.T t=get s.T t)(hH:v.H=s.H)(hlo:v.lo=s.lo) :
  opR call pi v=some (e,{ v with H:=s2.H,lo:=s2.lo })∧s2.T=s.T∧s2.S=s.S∧s2.D=s.D∧s2.n=s.n∧s2.rnd=s.rnd:=by
 obtain ⟨d,p,g⟩:=pi
 cases p with
 | call f xs =>
  have e1:ev v.T f=ev s.T f:=ev_alike fun t ht=>hT t (by simp only [opTmps,List.mem_append,List.mem_filterMap]; exact .inr ⟨f,by simp,ht⟩)
  have e2:xs.map (ev v.T)=xs.map (ev s.T):=evs_alike fun t ht=>hT t (by simp only [opTmps,List.mem_append]; exact .inr (by rw [List.mem_filterMap] at ht ⊢; obtain ⟨x,h1,h2⟩:=ht; exact ⟨x,by simp [h1],h2⟩))
  simp only [opR] at h ⊢
  rw [e1,e2]
  exact callR_stop h hne hH hlo
 | inv x tb xs =>
  have e1:ev v.T x=ev s.T x:=ev_alike fun t ht=>hT t (by simp only [opTmps,List.mem_append,List.mem_filterMap]; exact .inr ⟨x,by simp,ht⟩)
  have e2:xs.map (ev v.T)=xs.map (ev s.T):=evs_alike fun t ht=>hT t (by simp only [opTmps,List.mem_append]; exact .inr (by rw [List.mem_filterMap] at ht ⊢; obtain ⟨x,h1,h2⟩:=ht; exact ⟨x,by simp [h1],h2⟩))
  simp only [opR] at h ⊢
  rw [e1,e2]
  cases hx:ev s.T x with
  | iface t u =>
   rw [hx] at h
   simp only at h ⊢
   cases hf:tb.find? (·.1 == t) with
   | none=>rw [hf] at h; cases h
   | some y=>rw [hf] at h; exact callR_stop h hne hH hlo
  | _=>rw [hx] at h; cases h
 | _=>simp [canP] at hp

def LD (listed:Array Bool)(i:Nat):Prop:=listed.getD i false=true

theorem LD.lt {listed:Array Bool}{i:Nat}(h:LD listed i):i < listed.size:=by
 unfold LD at h
 rcases Nat.lt_or_ge i listed.size with h' | h'
 ·exact h'
 ·simp [Array.getElem?_eq_none h'] at h

theorem LD_set {listed:Array Bool}{k:Nat}(hk:k < listed.size):LD (listed.setIfInBounds k true)=fun i=>LD listed i∨i=k:=by
 funext i
 apply propext
 unfold LD
 by_cases h:i=k
 ·subst h; simp [hk]
 ·rw [getD_set_ne false (Ne.symm h)]; simp [h]

theorem left_set {listed:Array Bool}{k m:Nat}(hk:listed.getD k true=false)(hc:listed.toList.count false=m+1):(listed.setIfInBounds k true).toList.count false=m:=by
 have hlt:k < listed.size:=by
  rcases Nat.lt_or_ge k listed.size with h' | h'
  ·exact h'
  ·simp [Array.getElem?_eq_none h'] at hk
 have hv:listed[k]=false:=by simpa [Array.getElem?_eq_getElem hlt] using hk
 rw [Array.toList_setIfInBounds,List.count_set (by simpa using hlt)]
 simp [hv,hc]

structure Reg (E:Ent)(call:CallT)(L:List Tmp)(ops:Array Oper)(pis:List PIns)(cls:List Nat)(bf:List (List Nat))(S:Nat→St)(K:Nat)(e:Ex)(s1:St):Prop where
 text:Text pis cls bf S K
 len:pis.length=ops.size
 comp:∀k,k < pis.length→∃o,ops[k]?=some o∧compI E.P L ops.toList o=some (pis.getD k default)
 step:∀k,k < K→∃f,f.cls=cls.getD k 0∧StepD call (pis.getD k default) f (S k) (S (k+1))
 edge:∀k o,ops[k]?=some o→∀e∈o.after.toList,Region.binds .any e=true→e.on < k
 bfs:∀k o,ops[k]?=some o→∀i,i∈bf.getD k []→∃e∈o.after.toList,Region.binds .any e=true∧(i=e.on∨i∈bf.getD e.on [])
 stop:(e=.normal∧K=pis.length∧S K=s1)∨(K < pis.length∧(∀i,i < pis.length→K=i∨K∈bf.getD i []∨i∈bf.getD K []∨(i < K∧(cls.getD i 0=0∨isLd (pis.getD i default)=true)))∧canP (pis.getD K default)=true∧∃f,f.cls=cls.getD K 0∧(∀ds,f.tb=some ds→∀t,t ∉ ds→∀i,i < K→(pis.getD i default).dst=some t→i∈bf.getD K [])∧StopD call (pis.getD K default) f (S K) e s1)
 low:E.H.length≤(S 0).H.length

theorem any_run {ops:Array Oper}(hsim:CallSim E.P E.B call)(hR:Reg E call L ops pis cls bf S K e s1)(hro:(S 0).rnd=ro.isSome):∀(fuel:Nat) (listed:Array Bool) (a:Act) (w:World),listed.size=ops.size→listed.toList.count false=fuel →
  Done E pis cls bf S K (LD listed) a w→wpAnyIn (W ro) n E.P .any ops (Post E e s1) fuel listed a w:=by
 have hT:=hR.text
 have fin:∀(listed:Array Bool) (a:Act) (w:World),listed.size=ops.size→(∀i,i < ops.size→LD listed i)→Done E pis cls bf S K (LD listed) a w→Post E e s1 .normal a w:=by
  rintro listed a w hsz hall ⟨q,φ,lm,v,hV,h⟩
  rcases hR.stop with ⟨rfl,hK,rfl⟩ | ⟨hK,_⟩
  ·obtain ⟨h1,h2,h3,h4,h5,h6⟩:=hV.full hT fun i hi=>hall i (by have:=hT.le; have:=hR.len; omega)
   exact ⟨φ,lm,trivial,h.congr (fun t=>(h1 t).symm) (fun t=>(h2 t).symm) h4.symm h3.symm h5.symm⟩
  ·exact absurd (hV.dK K (hall K (by have:=hR.len; omega))) (Nat.lt_irrefl _)
 have hall:∀(listed:Array Bool),listed.size=ops.size→Region.ready .any ops listed=[]→∀i,i < ops.size→LD listed i:=by
  intro listed hsz hr i
  induction i using Nat.strongRecOn with
  | _ i ih =>
   intro hi
   unfold LD
   cases hl:listed.getD i false with
   | true=>rfl
   | false =>
    exfalso
    have hm:i∈Region.ready .any ops listed:=by
     rw [mem_ready]
     refine ⟨?_,ops[i],Array.getElem?_eq_getElem hi,fun e he hb=>?_⟩
     ·rw [←hsz] at hi
      simp [Array.getElem?_eq_getElem hi] at hl ⊢; exact hl
     ·have hlt:=hR.edge i _ (Array.getElem?_eq_getElem hi) e (by simpa using he) hb
      exact ih e.on hlt (by omega)
    rw [hr] at hm; cases hm
 have one:∀(listed:Array Bool) (a:Act) (w:World) (k:Nat),listed.size=ops.size→k∈Region.ready .any ops listed→Done E pis cls bf S K (LD listed) a w →
   wpOpIn (W ro) n E.P ops (Post E e s1) k (Done E pis cls bf S K (LD (listed.setIfInBounds k true))) a w:=by
  rintro listed a w k hsz hk ⟨q,φ,lm,v,hV,h⟩
  obtain ⟨hkl,o,ho,hed⟩:=mem_ready.1 hk
  have hkn:k < ops.size:=(Array.getElem?_eq_some_iff.1 ho).1
  have hks:k < listed.size:=by omega
  have hnd:¬LD listed k:=by
   unfold LD
   simp [Array.getElem?_eq_getElem hks] at hkl ⊢; exact hkl
  have hbf:∀i,i∈bf.getD k []→LD listed i:=fun i hi=>by
   obtain ⟨e,he,hb,hr⟩:=hR.bfs k o ho i hi
   have hl:LD listed e.on:=hed e (by simpa using he) hb
   rcases hr with rfl | hr
   ·exact hl
   ·exact hV.down _ _ hl hr
  obtain ⟨o',ho',hc⟩:=hR.comp k (by rw [hR.len]; exact hkn)
  rw [ho] at ho'; cases ho'
  rcases Nat.lt_or_ge k K with hkK | hkK
  ·rw [LD_set hks]
   obtain ⟨f,hf,hst⟩:=hR.step k hkK
   exact virt_op hsim (hV.rnd.trans hro) hT hV h hkK hnd hbf ho hc hst hf hR.low
  ·rcases hR.stop with ⟨_,hK,_⟩ | ⟨hK,hord,hcp,f,hf,hds,hw,hcl,hne,ds,htb,s2,hop,hs1⟩
   ·have:=hR.len; omega
   ·have hkeq:k=K:=by
     rcases hord k (by have:=hR.len; omega) with he | he | he | he
     ·exact he.symm
     ·exact absurd (hV.dK K (hbf K he)) (Nat.lt_irrefl _)
     ·have:=hT.back _ _ he; omega
     ·omega
    subst hkeq
    have hun:∀i,i < k→i∈bf.getD k []∨cls.getD i 0=0∨isLd (pis.getD i default)=true:=fun i hi=>by
     rcases hord i (by omega) with he | he | he | he
     ·omega
     ·have:=hT.back _ _ he; omega
     ·exact .inl he
     ·exact .inr he.2
    have hkl:k < pis.length:=hK
    have htm:=hV.tmps hT (Nat.le_refl k) hkl hnd hbf
    have hq:q=k:=by
     rcases Nat.lt_or_ge q k with hlt | hge
     ·obtain ⟨g1,g2⟩:=hV.qb hlt
      rcases hun q hlt with hx | hx | hx
      ·exact absurd (hbf q hx) g2
      ·rw [g1.1] at hx; cases hx
      ·exfalso
       have:=g1.2.1
       generalize pis.getD q default=pq at hx this
       obtain ⟨d,p,g⟩:=pq
       cases p <;> simp [isLd,rh] at hx this
     ·exact Nat.le_antisymm hV.qK hge
    have hvH:v.H=(S k).H:=by rw [hV.H,hq]
    have hmisc:=hT.misc (Nat.le_refl k)
    obtain ⟨hc1,hc2,hc3⟩:=compI_spec hc
    have hs:SR E φ lm { v with lo:=(S k).H.length } a w:=h.congr (fun t=>rfl) (fun t=>rfl) rfl rfl rfl
    obtain ⟨hopv,t1,t2,t3,t4,t5⟩:=opR_stop (v:={ v with lo:=(S k).H.length }) hcp hop hne htm hvH rfl
    have hwr:=wanted_run hs hc ((wanted_alike htm).trans hw)
    simp only [Array.toArray_toList] at hwr
    unfold wpOpIn
    rw [ho]
    simp only
    rw [if_pos hwr]
    have hop':opR call ⟨o.dst,(pis.getD k default).op,(pis.getD k default).guard⟩ { v with lo:=(S k).H.length }=some (e,{ v with H:=s2.H,lo:=s2.lo }):=by rw [←hc2]; exact hopv
    have hG:=simOp (n:=n) (ro:=ro) hsim hs (by show v.rnd=_; rw [hV.rnd]; exact hro) hc1 hc3 hop'
    refine wpIn_monoQ ?_ ?_ hG
    ·rintro a' w' ⟨he,_⟩
     exact absurd he hne
    ·rintro e' a' w' ⟨v0,v0',φ',lm',he,he',hv,_,hs'⟩
     subst he he' hs1
     refine ⟨φ',lm',⟨v0',rfl,hv⟩,(hs'.wipe ds).congr (fun t=>?_) (fun t=>?_) ?_ rfl ?_⟩
     ·show get (wipe ds s2.T) t=get (wipe ds v.T) t
      rw [get_wipe,get_wipe]
      by_cases ht:t∈ds
      ·rw [if_pos ht,if_pos ht]
      ·rw [if_neg ht,if_neg ht,t1]
       exact (hV.T t k (Nat.le_refl k) fun i hi hd=>⟨fun _=>hbf i (hds ds htb t ht i hi hd),fun _=>hi⟩).symm
     ·show sget s2.S t=sget v.S t
      rw [t2]
      refine (hV.Sl t k (Nat.le_refl k) fun i hi hc hl=>⟨fun _=>?_,fun _=>hi⟩).symm
      rcases hun i hi with hx | hx | hx
      ·exact hbf i hx
      ·rw [hx] at hc; omega
      ·rw [hx] at hl; cases hl
     ·show s2.D=v.D
      rw [t3,hV.Df]; exact hmisc.1
     ·show s2.n=v.n
      rw [t4,hV.n]; exact hmisc.2.1
 intro fuel
 induction fuel with
 | zero =>
  intro listed a w hsz hcnt hd
  have hful:∀i,i < ops.size→LD listed i:=fun i hi=>by
   have hi':i < listed.size:=by omega
   have hx:=List.count_eq_zero.1 hcnt
   unfold LD
   cases hl:listed[i] with
   | true=>simp [Array.getElem?_eq_getElem hi',hl]
   | false=>exact absurd (by rw [←hl]; simp) hx
  refine ⟨?_,fin listed a w hsz hful hd⟩
  cases hr:Region.ready .any ops listed with
  | nil=>rfl
  | cons i r =>
   exfalso
   have hm:i∈Region.ready .any ops listed:=by rw [hr]; simp
   obtain ⟨h0,o,ho,_⟩:=mem_ready.1 hm
   have hi:=(Array.getElem?_eq_some_iff.1 ho).1
   have h1:=hful i hi
   have hi':i < listed.size:=by omega
   unfold LD at h1
   simp [Array.getElem?_eq_getElem hi'] at h0 h1
   rw [h1] at h0; cases h0
 | succ fuel ih =>
  intro listed a w hsz hcnt hd
  refine ⟨fun hr=>fin listed a w hsz (hall listed hsz hr) hd,fun k hk=>?_⟩
  refine wpOpIn_mono (fun a' w' hd'=>?_) (one listed a w k hsz hk hd)
  exact ih _ a' w' (by simpa using hsz) (left_set (mem_ready.1 hk).1 hcnt) hd'

theorem text_of (hkeep:CallKeeps call){fs:List Flag}{l:List Oper}(hb:∀(j:Nat) o,l[j]?=some o→∀e∈o.after.toList,Region.binds .any e=true→e.on < j)(hbf:bf=befs l [])(hp:pairsOk pis cls bf=true)(hfs:fs=flagsOf pis cls bf)
  (hF:Fam (S 0).H) (hle:K≤pis.length) (hst:∀j,j < K→∃pi f,pis[j]?=some pi∧fs[j]?=some f∧StepD call pi f (S j) (S (j+1))) :
  Text pis cls bf S K∧∀j,j < K→∃f,f.cls=cls.getD j 0∧StepD call (pis.getD j default) f (S j) (S (j+1)):=by
 subst hbf hfs
 have flag:∀j f,(flagsOf pis cls (befs l []))[j]?=some f→f.cls=cls.getD j 0∧(f.hb=true→∀i,i < pis.length→cls.getD i 0=1→j=i∨j∈(befs l []).getD i []∨i∈(befs l []).getD j []):=by
  intro j f hf
  unfold flagsOf at hf
  simp only [List.getElem?_map,Option.map_eq_some_iff] at hf
  obtain ⟨j',hj',hf⟩:=hf
  rw [List.getElem?_range (by
   rcases Nat.lt_or_ge j pis.length with h | h
   ·exact h
   ·rw [List.getElem?_eq_none (by simpa using h)] at hj'; cases hj')] at hj'
  cases hj'
  subst hf
  refine ⟨rfl,fun hh i hi hci=>?_⟩
  simp only [List.all_eq_true,List.mem_range,Bool.or_eq_true,bne_iff_ne,ne_eq,beq_iff_eq,List.contains_eq_mem,decide_eq_true_eq] at hh
  rcases hh i hi with h | h | h
  ·exact absurd hci h
  ·rcases h with h | h
   ·exact .inl h
   ·exact .inr (.inl h)
  ·exact .inr (.inr h)
 have hfam:∀j,j≤K→Fam (S j).H:=by
  intro j
  induction j with
  | zero=>intro _; exact hF
  | succ j ih =>
   intro hj
   obtain ⟨pi,f,h1,h2,h3⟩:=hst j hj
   exact (h3.facts hkeep (ih (by omega))).fam
 refine ⟨⟨hle,befs_back hb,fun i j hij hj=>?_,fun j hj=>?_⟩,fun j hj=>?_⟩
 ·simp only [pairsOk,List.all_eq_true,List.mem_range,Bool.or_eq_true,List.contains_eq_mem,decide_eq_true_eq] at hp
  exact hp j hj i hij
 ·obtain ⟨pi,f,h1,h2,h3⟩:=hst j hj
  obtain ⟨hc,hh⟩:=flag j f h2
  have hpi:pis.getD j default=pi:=by rw [List.getD_eq_getElem?_getD,h1]; rfl
  refine ⟨f.hb,?_,hh⟩
  rw [hpi,←hc]
  exact h3.facts hkeep (hfam j (Nat.le_of_lt hj))
 ·obtain ⟨pi,f,h1,h2,h3⟩:=hst j hj
  have hpi:pis.getD j default=pi:=by rw [List.getD_eq_getElem?_getD,h1]; rfl
  exact ⟨f,(flag j f h2).1,by rw [hpi]; exact h3⟩

theorem SR.drew (h:SR E φ lm s a w):SR E φ lm s a { w with drawn:=w.drawn+1 } :=
 ⟨h.emb.world (w':={ w with drawn:=w.drawn+1 }) (Nat.le_refl _) (fun _ _ _=>rfl) (fun _ _ _=>rfl),⟨h.ext.len,h.ext.map,h.ext.new,h.ext.size,h.ext.frame,h.ext.out⟩,⟨h.loc.cur,h.loc.lim,h.loc.inj,h.loc.gen⟩,h.siz,h.env,h.dfr,h.hB,h.dom⟩

theorem permOk_spec {q:List Nat}{n:Nat}(h:permOk q n=true):q.length=n∧∀i,i < n→q.getD i n < n∧q.idxOf (q.getD i n)=i∧q.idxOf i < n∧q.getD (q.idxOf i) n=i:=by
 unfold permOk at h
 simp only [Bool.and_eq_true,List.all_eq_true,List.mem_range,Nat.beq_eq,Nat.blt_eq] at h
 refine ⟨h.1,fun i hi=>?_⟩
 obtain ⟨⟨⟨h1,h2⟩,h3⟩,h4⟩:=h.2 i hi
 exact ⟨h1,h2,h3,h4⟩
theorem permO_get {q:List Nat}{ops:Array Oper}(h:permOk q ops.size=true){k:Nat}(hk:k < ops.size):(permO q ops)[q.idxOf k]?=some (renum (fun k=>q.idxOf k) ops[k]):=by
 obtain ⟨h1,h2⟩:=permOk_spec h
 obtain ⟨_,_,h3,h4⟩:=h2 k hk
 unfold permO
 rw [List.getElem?_toArray,List.getElem?_map]
 have e:q[q.idxOf k]?=some k:=by
  rw [List.getElem?_eq_getElem (by omega)]
  rw [List.getD_eq_getElem?_getD,List.getElem?_eq_getElem (by omega)] at h4
  simpa using h4
 rw [e]
 simp [Array.getD,hk]
theorem permO_size {q:List Nat}{ops:Array Oper}(h:permOk q ops.size=true):(permO q ops).size=ops.size:=by
 unfold permO; simp [(permOk_spec h).1]
theorem idx_out {q:List Nat}{n:Nat}(h:permOk q n=true){k:Nat}(hk:¬k < n):q.idxOf k=n:=by
 obtain ⟨h1,h2⟩:=permOk_spec h
 rw [←h1]
 refine List.idxOf_eq_length fun hm=>?_
 obtain ⟨i,hi,e⟩:=List.mem_iff_getElem.1 hm
 have:=(h2 i (by omega)).1
 rw [List.getD_eq_getElem?_getD,List.getElem?_eq_getElem hi,e] at this
 exact hk (by simpa using this)
theorem wanted_perm {q:List Nat}{ops:Array Oper}(h:permOk q ops.size=true)(o:Oper)(tmps:Array Value):Region.wanted (renum (fun k=>q.idxOf k) o) (yielded (permO q ops) tmps)=Region.wanted o (yielded ops tmps):=by
 have key:∀g,yielded (permO q ops) tmps (q.idxOf g)=yielded ops tmps g:=by
  intro g
  unfold yielded
  by_cases hg:g < ops.size
  ·rw [permO_get h hg,Array.getElem?_eq_getElem hg]; rfl
  ·rw [idx_out h hg,Array.getElem?_eq_none (by rw [permO_size h]; exact Nat.le_refl _),Array.getElem?_eq_none (by omega)]
 unfold Region.wanted renum
 cases o.guard with
 | none=>rfl
 | some g =>
  obtain ⟨g,b⟩:=g
  simp only [Option.map_some,key]
def Told (q:List Nat)(n:Nat)(l l':Array Bool):Prop:=l.size=n∧l'.size=n∧∀k,k < n→l'.getD (q.idxOf k) false=l.getD k false
theorem getD_tf {l:Array Bool}{k:Nat}(hk:k < l.size)(b:Bool):l.getD k b=l[k]:=by simp [Array.getD,hk]
theorem Told.done {q:List Nat}{n:Nat}{l l':Array Bool}(h:Told q n l l')(hq:permOk q n=true){k:Nat}(hk:k < n):Told q n (l.setIfInBounds k true) (l'.setIfInBounds (q.idxOf k) true):=by
 obtain ⟨h1,h2⟩:=permOk_spec hq
 obtain ⟨a1,a2,a3⟩:=h
 refine ⟨by simpa using a1,by simpa using a2,fun j hj=>?_⟩
 have hjj:=(h2 j hj).2.2.1
 have h3:=a3 j hj
 rw [getD_tf (by omega),getD_tf (by omega)] at h3
 rw [getD_tf (by simp; omega),getD_tf (by simp; omega),Array.getElem_setIfInBounds (by omega),Array.getElem_setIfInBounds (by omega)]
 by_cases e:k=j
 ·subst e; simp
 ·have e2:q.idxOf k≠q.idxOf j:=fun e2=>e (by have u1:=(h2 k hk).2.2.2; have u2:=(h2 j hj).2.2.2; rw [e2,u2] at u1; exact u1.symm)
  rw [if_neg e,if_neg e2,h3]
theorem any_perm {F:Fence}{n:Nat}{P:Program}{q:List Nat}{ops:Array Oper}{Q:Exit→Act→World→Prop}(h:permOk q ops.size=true):∀(fuel:Nat) (l l':Array Bool) (a:Act) (w:World),Told q ops.size l l' →
  wpAnyIn F n P .any (permO q ops) Q fuel l' a w→wpAnyIn F n P .any ops Q fuel l a w:=by
 obtain ⟨h1,h2⟩:=permOk_spec h
 have rdy:∀(l l':Array Bool) (k:Nat),Told q ops.size l l'→k∈Region.ready .any ops l→q.idxOf k∈Region.ready .any (permO q ops) l':=by
  intro l l' k ht hk
  rw [mem_ready] at hk ⊢
  obtain ⟨b1,o,ho,b2⟩:=hk
  have hkl:k < ops.size:=(Array.getElem?_eq_some_iff.1 ho).1
  obtain ⟨a1,a2,a3⟩:=ht
  have hpk:=(h2 k hkl).2.2.1
  have e1:=a3 k hkl
  refine ⟨?_,renum (fun k=>q.idxOf k) o,?_,fun e he hb=>?_⟩
  ·rw [getD_tf (by omega)] at e1 b1 ⊢
   rw [getD_tf (by omega)] at e1
   rw [e1,b1]
  ·rw [permO_get h hkl]
   rw [Array.getElem?_eq_getElem hkl] at ho
   cases ho; rfl
  ·simp only [renum,Array.mem_map] at he
   obtain ⟨e',he',rfl⟩:=he
   have hd:=b2 e' he' hb
   by_cases hl:e'.on < ops.size
   ·show l'.getD (q.idxOf e'.on) false=true
    rw [a3 e'.on hl]; exact hd
   ·exfalso
    simp [Array.getD,show ¬e'.on < l.size by omega] at hd
 intro fuel
 induction fuel with
 | zero =>
  intro l l' a w ht hh
  refine ⟨?_,hh.2⟩
  cases hr:Region.ready .any ops l with
  | nil=>rfl
  | cons k r =>
   have:=rdy l l' k ht (by rw [hr]; exact List.mem_cons_self ..)
   rw [hh.1] at this; cases this
 | succ fuel ih =>
  intro l l' a w ht hh
  obtain ⟨g1,g2⟩:=hh
  refine ⟨fun hr=>g1 ?_,fun k hk=>?_⟩
  ·cases hr':Region.ready .any (permO q ops) l' with
   | nil=>rfl
   | cons k' r =>
    exfalso
    have hm:k'∈Region.ready .any (permO q ops) l':=by rw [hr']; exact List.mem_cons_self ..
    rw [mem_ready] at hm
    obtain ⟨b1,o',ho',b2⟩:=hm
    have hk':k' < ops.size:=by have:=(Array.getElem?_eq_some_iff.1 ho').1; rw [permO_size h] at this; exact this
    obtain ⟨u1,u2,_,_⟩:=h2 k' hk'
    obtain ⟨k,hkk⟩:∃k,q.getD k' ops.size=k:=⟨_,rfl⟩
    rw [hkk] at u1 u2
    obtain ⟨a1,a2,a3⟩:=ht
    have e1:=a3 k u1
    have hm2:k∈Region.ready .any ops l:=by
     rw [mem_ready]
     rw [u2] at e1
     refine ⟨?_,ops[k],by simp [u1],fun e he hb=>?_⟩
     ·rw [getD_tf (by omega)] at e1 b1 ⊢
      rw [getD_tf (by omega)] at e1
      rw [←e1,b1]
     ·have hp:=permO_get h u1
      rw [u2,ho'] at hp
      cases hp
      have hd:=b2 { e with on:=q.idxOf e.on } (by simp only [renum,Array.mem_map]; exact ⟨e,he,rfl⟩) hb
      by_cases hl:e.on < ops.size
      ·rw [←a3 e.on hl]; exact hd
      ·exfalso
       have hd:l'.getD (q.idxOf e.on) false=true:=hd
       rw [idx_out h hl] at hd
       simp [Array.getD,show ¬ops.size < l'.size by omega] at hd
    rw [hr] at hm2; cases hm2
  ·have hk0:=hk
   rw [mem_ready] at hk0
   obtain ⟨_,o,ho,_⟩:=hk0
   have hkl:k < ops.size:=(Array.getElem?_eq_some_iff.1 ho).1
   have:=g2 _ (rdy l l' k ht hk)
   have:=wpOpIn_mono (fun a' w' hx=>ih _ _ a' w' (ht.done h hkl) hx) this
   unfold wpOpIn at this ⊢
   rw [permO_get h hkl] at this
   rw [Array.getElem?_eq_getElem hkl]
   simp only [wanted_perm h] at this
   exact this
theorem any_ord {F:Fence}{n:Nat}{P:Program}{L:List Tmp}{ops:Array Oper}{Q:Exit→Act→World→Prop}{a:Act}{w:World}(h:wpAnyIn F n P .any (ordL L ops) Q (ordL L ops).size (Array.replicate (ordL L ops).size false) a w) :
  wpAnyIn F n P .any ops Q ops.size (Array.replicate ops.size false) a w:=by
 unfold ordL at h
 split at h
 ·split at h
  ·rename_i hq
   rw [permO_size hq] at h
   refine any_perm hq _ _ _ _ _ ⟨by simp,by simp,fun k hk=>?_⟩ h
   have:=((permOk_spec hq).2 k hk).2.2.1
   simp [Array.getD,hk,this]
  ·exact h
 ·exact h

theorem drawOk (hm:E.P.follows .mixedOrders=true)(hsim:CallSim E.P E.B call)(hkeep:CallKeeps call):DrawOk E ro call:=by
 intro L id ops pis fs n s s1 e φ lm a w hc hr hro h
 simp only [compC,Option.bind_eq_some_iff] at hc
 refine wpIn_region_any hm (any_ord (L:=L) ?_)
 generalize ordL L ops=ops at hc ⊢
 obtain ⟨l,hl,hc⟩:=hc
 split at hc
 ·rename_i hok
  obtain ⟨hpairs,hedge⟩:=hok
  simp only [Option.some.injEq,PCode.dreg.injEq] at hc
  obtain ⟨rfl,hfs⟩:=hc
  obtain ⟨S,K,hS0,hst,hend⟩:=opsD_trace hr
  have hlen:l.length=ops.size:=by rw [mapM_len hl]; simp
  have hb:∀(j:Nat) o,ops.toList[j]?=some o→∀e∈o.after.toList,Region.binds .any e=true→e.on < j:=by
   intro j o ho e he hbi
   rw [List.all_eq_true] at hedge
   have:=hedge (o,j) (List.mem_zipIdx_iff_getElem?.2 (by simpa using ho))
   simp only [List.all_eq_true,Bool.or_eq_true,Bool.not_eq_true',decide_eq_true_eq] at this
   exact (this e he).resolve_left (by simp [hbi])
  have hle:K≤l.length:=by
   rcases hend with ⟨_,h,_⟩ | ⟨pi,f,h1,_⟩
   ·omega
   ·exact Nat.le_of_lt (List.getElem?_eq_some_iff.1 h1).1
  obtain ⟨hT,hst'⟩:=text_of (S:=S) (K:=K) hkeep hb rfl hpairs hfs.symm (by rw [hS0]; exact h.emb.fam) hle hst
  obtain ⟨_,_,hsp⟩:=befs_spec ops.toList []
  have hR:Reg E call L ops l (l.map (clsOf L l)) (befs ops.toList []) S K e s1:=by
   refine ⟨hT,hlen,fun k hk=>?_,hst',fun k o ho=>hb k o (by simpa using ho),fun k o ho i hi=>?_,?_,by rw [hS0]; exact h.ext.len⟩
   ·obtain ⟨o,ho,hco⟩:=mapM_back hl k l[k] (List.getElem?_eq_getElem hk)
    exact ⟨o,by simpa using ho,by rw [hco,List.getD_eq_getElem?_getD,List.getElem?_eq_getElem hk]; rfl⟩
   ·obtain ⟨e,he,hbi,hr⟩:=hsp k o (by simpa using ho) i (by simpa using hi)
    exact ⟨e,he,hbi,hr.imp (fun h=>h) And.right⟩
   ·rcases hend with hend | ⟨pi,f,h1,h2,h3⟩
    ·exact .inl hend
    ·have hKl:=(List.getElem?_eq_some_iff.1 h1).1
     have hpi:l.getD K default=pi:=by rw [List.getD_eq_getElem?_getD,h1]; rfl
     obtain ⟨ds0,htb,_⟩:=h3.2.2.2
     rw [←hfs] at h2
     unfold flagsOf at h2
     simp only [List.getElem?_map,Option.map_eq_some_iff] at h2
     obtain ⟨j',hj',hf⟩:=h2
     rw [List.getElem?_range hKl] at hj'
     cases hj'
     subst hf
     simp only at htb
     split at htb
     ·rename_i hcond
      simp only [Bool.and_eq_true,List.all_eq_true,List.mem_range,Bool.or_eq_true,beq_iff_eq,List.contains_eq_mem,decide_eq_true_eq,Nat.blt_eq] at hcond
      refine .inr ⟨hKl,fun i hi=>?_,hcond.1,_,rfl,fun ds hd t ht i hi hdst=>?_,by rw [hpi]; exact h3⟩
      ·rcases hcond.2 i hi with hh | hh
       ·rcases hh with hh | hh
        ·rcases hh with hh | hh
         ·exact .inl hh
         ·exact .inr (.inl hh)
        ·exact .inr (.inr (.inl hh))
       ·exact .inr (.inr (.inr hh))
      ·simp only at hd
       rw [if_pos (by simp only [Bool.and_eq_true,List.all_eq_true,List.mem_range,Bool.or_eq_true,beq_iff_eq,List.contains_eq_mem,decide_eq_true_eq,Nat.blt_eq]; exact hcond)] at hd
       cases hd
       rcases Classical.em (i∈(befs ops.toList []).getD K []) with hx | hx
       ·exact hx
       ·exfalso
        refine ht (List.mem_filterMap.2 ⟨i,List.mem_range.2 hi,?_⟩)
        rw [if_neg (by simpa using hx)]
        exact hdst
     ·cases htb
  refine any_run (ro:=ro) hsim hR (by rw [hS0]; exact hro) ops.size _ a _ (by simp) (by simp) ?_
  obtain ⟨q,g1,g2,g3,g4⟩:=next_ch (pis:=l) (cls:=l.map (clsOf L l)) (K - 0) 0 rfl (Nat.zero_le _)
  have hno:∀i,¬LD (Array.replicate ops.size false) i:=fun i hi=>by
   have:=hi.lt
   unfold LD at hi
   simp at this
   simp [this] at hi
  have hS0':s=S 0:=hS0.symm
  refine ⟨q,φ,lm,{ s with H:=(S q).H },⟨fun i hi=>absurd hi (hno i),fun j i hj _=>absurd hj (hno j),g2,fun j hj hcj=>absurd hcj (g3 j (Nat.zero_le _) hj),fun hq=>⟨g4 hq,hno q⟩,fun t k hk hg=>?_,fun d k hk hg=>?_,rfl,fun j hj ha hd hw=>?_,by rw [hS0],by rw [hS0],by rw [hS0]⟩,?_⟩
  ·show get s.T t=_
   rw [hS0']
   refine (hT.tmp (Nat.zero_le _) hk fun m _ hmk hd=>?_).symm
   exact hno m ((hg m (by omega) hd).1 hmk)
  ·show sget s.S d=_
   rw [hS0']
   refine (hT.slot (Nat.zero_le _) hk fun m _ hmk hd=>?_).symm
   exact hno m ((hg m (by omega) hd.1 hd.2).1 hmk)
  ·cases hx:φ (S j).H.length with
   | none=>rfl
   | some sl =>
    exfalso
    have h1:=(h.emb.inb _ _ hx).1
    have h2:=hT.mono (i:=0) (j:=j) (Nat.zero_le _) (by omega)
    rw [hS0] at h2
    omega
  ·exact holes_run hT g1 g2 g3 h.drew (by rw [hS0])
 ·cases hc

theorem drawsOk {B:Nat}(hm:P.follows .mixedOrders=true):DrawsOk P B:=fun call hsim hkeep E ro hP hB=>by
 subst hP hB
 exact drawOk hm hsim hkeep

end
end Go.Pi
