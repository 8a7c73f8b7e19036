/- The machine for the kernel: any operation. -/
import Derived.Test.YtjgmlngcknehhaaGreatPiM
set_option linter.all false
namespace Go.Pi.Q
open Go Go.Pi

section
variable {B:Base} {Hb:Heap} {f f1:FS} {s:St} {e:Ex} {d:Option Tmp} {v:Value} {fc:FCall} {call:CallT}

theorem callF_ok (hc:CRel B Hb fc call)(r:FRel B Hb f s)(hF:Fam s.H){fv:Value}{vs:List Value}{o:PIns}(h:oCall fc fv vs o.dst f=some (e,f1)):∃s1,opR.callR call o s fv vs=some (e,s1)∧FRel B Hb f1 s1:=by
 unfold oCall at h
 rw [allNL_eq] at h
 unfold opR.callR
 cases hn:vs.all fun v=>!isLoc v with
 | false=>rw [hn] at h; cases h
 | true =>
  rw [hn,cond_true] at h
  rw [if_pos rfl]
  split at h
  ·rename_i fn args hf
   rw [hf]
   cases hfc:fc fn args f.H with
   | none=>rw [hfc] at h; cases h
   | some fo =>
    obtain ⟨out,h1,h2⟩:=hc fn args s.H f.H fo r.H hF hfc
    rw [hfc] at h
    obtain ⟨fr,fH,flo⟩:=fo
    obtain ⟨or,oH,olo⟩:=out
    obtain ⟨q1,q2,q3⟩:=h2
    simp only at q1 q2 q3
    subst q1
    subst q3
    simp only [h1]
    cases fr with
    | ok v =>
     simp only [retF] at h
     have r2:FRel B Hb ⟨f.T,f.S,f.D,fH,mn f.lo flo,f.n,f.rnd⟩ { s with H:=oH,lo:=min s.lo flo }:=⟨r.T,r.S,r.D,q2,by simp [mn_eq,r.lo],r.n,r.rnd⟩
     exact putX_ok r2 h
    | panic v =>
     simp only [retF,Option.some.injEq,Prod.mk.injEq] at h
     obtain ⟨rfl,rfl⟩:=h
     exact ⟨_,rfl,⟨r.T,r.S,r.D,q2,by simp [mn_eq,r.lo],r.n,r.rnd⟩⟩
  ·cases h

theorem apF_ok (g:Good B Hb)(r:FRel B Hb f s){k b off l m:Nat}{new:List Value}{t:Option Tmp}(h:apF B k (hg B f.H b) b off l m new t f=some (e,f1)) :
  ∃s1,(match (none:Option Nat),s.H[b]? with
    | none,some ⟨.cells c,true,true,some ff⟩ =>
     if m=k∧0 < k∧off+l*k≤c.length then
      let child:Blk:=⟨.cells ((c.drop off).take (l*k)++new),true,true,some ff⟩
      putO (if off+l*k=c.length then { s with H:=s.H.set b ⟨.cells c,true,false,some ff⟩++[child] }
       else { s with H:=(kill ff s.H).set b ⟨.cells c,false,false,some ff⟩++[child],lo:=min s.lo (min ff b) }) t
       (.slice (some ⟨s.H.length,0,none⟩) (l+new.length / k) k)
     else none
    | _,_=>none)=some (e,s1)∧FRel B Hb f1 s1:=by
 unfold apF at h
 split at h
 ·rename_i c ff hx
  simp only [r.H.get g hx]
  split at h
  ·rename_i hcond
   obtain ⟨h1,h2,h3,h4,h5⟩:=hcond
   rw [if_pos ⟨h1,h2,h3⟩]
   rw [beq_dec] at h
   by_cases hq:off+l*k=c.length
   ·simp only [hq,decide_true,cond_true] at h
    simp only [hq,if_true]
    rw [←r.H.len] at h
    have:=(r.H.put h4 ⟨.cells c,true,false,some ff⟩).push ⟨.cells ((c.drop off).take (l*k)++new),true,true,some ff⟩
    exact putX_ok (s:={ s with H:=s.H.set b ⟨.cells c,true,false,some ff⟩++[⟨.cells ((c.drop off).take (l*k)++new),true,true,some ff⟩] }) (by exact ⟨r.T,r.S,r.D,this,r.lo,r.n,r.rnd⟩) h
   ·simp only [hq,decide_false,cond_false] at h
    simp only [hq,if_false]
    rw [←r.H.len] at h
    have:=((r.H.kill g h5).put (i:=b) h4 ⟨.cells c,false,false,some ff⟩).push ⟨.cells ((c.drop off).take (l*k)++new),true,true,some ff⟩
    exact putX_ok (s:={ s with H:=(kill ff s.H).set b ⟨.cells c,false,false,some ff⟩++[⟨.cells ((c.drop off).take (l*k)++new),true,true,some ff⟩],lo:=min s.lo (min ff b) }) (by exact ⟨r.T,r.S,r.D,this,by simp [mn_eq,r.lo],r.n,r.rnd⟩) h
  ·cases h
 ·cases h

theorem opF_ok (g:Good B Hb)(hc:CRel B Hb fc call)(r:FRel B Hb f s)(hF:Fam s.H){o:PIns}(h:opF B fc o f=some (e,f1)):∃s1,opR call o s=some (e,s1)∧FRel B Hb f1 s1:=by
 obtain ⟨t,p,gd⟩:=o
 cases p with
 | v fn xs =>
  simp only [opF,r.T.evs] at h
  unfold oV at h
  rw [allNL_eq] at h
  simp only [opR]
  cases hb:(fn.addr||(xs.map (Go.Pi.ev s.T)).all fun v=>!isLoc v) with
  | false=>rw [hb] at h; cases h
  | true =>
   rw [hb,cond_true] at h
   rw [if_pos rfl]
   split at h
   ·rename_i v hv
    rw [evV_ok hv]
    exact putX_ok r h
   ·cases h
 | box ty x=>simp only [opF,r.T.ev] at h; exact newF_ok r h
 | alloc ty z=>simp only [opF] at h; exact newF_ok r h
 | lbox ty x =>
  simp only [opF,r.T.ev] at h
  unfold oLbox at h
  split at h
  ·rename_i d
   simp only [opR]
   cases hn:(isLoc (Go.Pi.ev s.T x)||!(Go.Pi.ev s.T x).cells.toList.all one) with
   | true=>rw [hn] at h; cases h
   | false=>rw [hn,cond_false] at h; rw [if_neg (by simp)]; exact lalF_ok r h
  ·cases h
 | lalloc ty z =>
  simp only [opF] at h
  unfold oLalloc at h
  split at h
  ·simp only [opR]; exact lalF_ok r h
  ·cases h
 | ld n a =>
  simp only [opF,r.T.ev] at h
  exact ldF_ok g r (o:=⟨t,.ld n a,gd⟩) rfl h
 | st n a x =>
  simp only [opF,r.T.ev] at h
  unfold oSt at h
  split at h
  ·rename_i ad had
   simp only [opR,had]
   cases hn:(isLoc (Go.Pi.ev s.T x)||(Go.Pi.ev s.T x).cells.size != n||!(Go.Pi.ev s.T x).cells.toList.all one) with
   | true=>rw [hn] at h; cases h
   | false =>
    rw [hn,cond_false] at h
    rw [if_neg (by simp)]
    split at h
    ·rename_i f2 hf2
     obtain ⟨s2,h1,h2⟩:=stF_ok g r hf2
     rw [h1]
     exact putX_ok h2 h
    ·cases h
  ·cases h
 | bs ty k zero len ps =>
  simp only [opF] at h
  have e1:(ps.map fun p=>evF f.T p.2)=ps.map fun p=>Go.Pi.ev s.T p.2:=List.map_congr_left fun p _=>r.T.ev p.2
  rw [e1] at h
  have e2:bsF k zero len (ps.map fun p=>(p.1*k,k)) (ps.map fun p=>Go.Pi.ev s.T p.2)=bsA k zero len ps s.T:=by
   unfold bsF bsA
   rw [allNL_eq]
   cases hn:(ps.map fun p=>Go.Pi.ev s.T p.2).all fun v=>!isLoc v <;> simp [hn]
   cases fillP (rep len zero) (ps.map fun p=>(p.1*k,k)) (ps.map fun p=>Go.Pi.ev s.T p.2) <;> rfl
  rw [e2] at h
  exact newF_ok r h
 | lbs ty k zero len ps =>
  simp only [opF] at h
  have e1:(ps.map fun p=>evF f.T p.2)=ps.map fun p=>Go.Pi.ev s.T p.2:=List.map_congr_left fun p _=>r.T.ev p.2
  rw [e1] at h
  unfold oLbs at h
  split at h
  ·rename_i d
   simp only [opR]
   rw [allNL_eq] at h
   cases hn:(ps.map fun p=>Go.Pi.ev s.T p.2).all fun v=>!isLoc v with
   | false=>rw [hn] at h; cases h
   | true =>
    rw [hn,cond_true] at h
    rw [if_pos rfl]
    split at h
    ·rename_i c hcc
     rw [hcc]
     exact lalF_ok r h
    ·cases h
  ·cases h
 | mks ty k zero by_ l c=>simp only [opF,r.T.ev] at h; exact newF_ok r h
 | app ty k x y =>
  simp only [opF,r.T.ev] at h
  unfold oApp at h
  split at h
  ·rename_i new hnew
   have hel:=elF_ok g r hnew
   split at h
   ·rename_i a l m hx
    simp only [opR,hel,hx]
    cases hl:isLoc (.slice a l m) with
    | true=>rw [hl] at h; cases h
    | false =>
     rw [hl,cond_false] at h
     rw [if_neg (by simp)]
     unfold oAp2 at h
     split at h
     ·cases h
     ·rename_i hnb
      rw [if_neg hnb]
      cases he:new.isEmpty with
      | true=>rw [he,cond_true] at h; simp only [if_true]; exact putX_ok r h
      | false =>
       rw [he,cond_false] at h
       rw [if_neg (by simp)]
       split at h
       ·rw [beq_dec] at h
        by_cases hl0:l=0
        ·simp only [hl0,decide_true,cond_true] at h
         simp only [hl0,if_true]
         rw [←r.H.len] at h
         have:=r.H.push { obj:=.cells new,fam:=some s.H.length }
         exact putX_ok (s:=newA s new) (by exact ⟨r.T,r.S,r.D,this,r.lo,r.n,r.rnd⟩) h
        ·simp [hl0] at h
       ·exact apF_ok g r h
       ·cases h
   ·cases h
  ·cases h
 | s2b ty x=>simp only [opF,r.T.ev] at h; exact newF_ok r h
 | b2s x =>
  simp only [opF,r.T.ev] at h
  unfold oB2s at h
  split at h
  ·rename_i a l m hx
   simp only [opR,hx]
   cases hel:elF B f 1 (.slice a l m) with
   | none=>rw [hel] at h; cases h
   | some c =>
    rw [hel] at h
    rw [elF_ok g r hel]
    simp only [Option.bind_some] at h ⊢
    split at h
    ·rename_i bs hbs
     simp only [hbs]
     exact putX_ok r h
    ·cases h
  ·cases h
 | mkm sh=>simp only [opF] at h; exact newF_ok r h
 | mlk sh zero ok m key =>
  simp only [opF,r.T.ev] at h
  unfold oMlk at h
  simp only [opR]
  cases hs:sh.has (Go.Pi.ev s.T key) with
  | false=>rw [hs] at h; cases h
  | true =>
   rw [hs,cond_true] at h
   rw [if_pos rfl]
   split at h
   ·cases h
   ·rename_i es hes
    have fin:∃s1,(match kfind (Go.Pi.ev s.T key) es with
      | some (_,v)=>putO s t (if ok then .tuple #[v,.bool true] else v)
      | none=>putO s t (if ok then .tuple #[zero,.bool false] else zero))=some (e,s1)∧FRel B Hb f1 s1:=by
     split at h
     ·rename_i v hk
      simp only [hk]
      cases ok <;> exact putX_ok r h
     ·rename_i hk
      simp only [hk]
      cases ok <;> exact putX_ok r h
    cases hm:Go.Pi.ev s.T m with
    | map x =>
     rw [hm] at hes
     cases x with
     | none=>cases hes; exact fin
     | some i =>
      simp only [mesF] at hes
      split at hes
      ·rename_i sh' es' tp fm hb
       split at hes
       ·rename_i hsh
        cases hes
        simp only [r.H.get g hb,hsh,if_true]
        exact fin
       ·cases hes
      ·cases hes
    | _=>rw [hm] at hes; simp [mesF] at hes
 | mup sh m key x =>
  simp only [opF,r.T.ev] at h
  unfold oMup at h
  simp only [opR]
  cases hs:sh.has (Go.Pi.ev s.T key)&&!isLoc (Go.Pi.ev s.T x) with
  | false=>rw [hs] at h; cases h
  | true =>
   rw [hs,cond_true] at h
   rw [if_pos (by simpa using hs)]
   split at h
   ·rename_i i hm
    rw [hm]
    split at h
    ·rename_i sh' es hb
     simp only [r.H.get g hb]
     split at h
     ·rename_i hh
      obtain ⟨h1,h2⟩:=hh
      rw [if_pos h1]
      split at h
      ·rename_i j w hk
       simp only [hk]
       exact putX_ok (setBF_ok r h2 _) h
      ·rename_i hk
       simp only [hk]
       exact putX_ok (setBF_ok r h2 _) h
     ·cases h
    ·cases h
   ·cases h
 | rng x=>simp only [opF,r.T.ev] at h; exact newF_ok r h
 | nxt x =>
  simp only [opF,r.T.ev] at h
  unfold oNxt at h
  split at h
  ·rename_i i hx
   split at h
   ·rename_i b pos hb
    simp only [opR,hx,r.H.get g hb]
    cases ho:f.H.own B i with
    | false=>rw [ho] at h; cases h
    | true =>
     rw [ho,cond_true] at h
     split at h
     ·rename_i hp
      rw [if_pos hp]
      exact putX_ok (setBF_ok r ho _) h
     ·rename_i hp
      rw [if_neg hp]
      exact putX_ok r h
   ·cases h
  ·cases h
 | call fn xs =>
  simp only [opF,r.T.ev,r.T.evs] at h
  exact callF_ok hc r hF (o:=⟨t,.call fn xs,gd⟩) h
 | inv x table xs =>
  simp only [opF,r.T.ev,r.T.evs] at h
  unfold oInv at h
  split at h
  ·rename_i ty w hx
   simp only [opR,hx]
   split at h
   ·rename_i q fid ht
    simp only [ht]
    exact callF_ok hc r hF (o:=⟨t,.inv x table xs,gd⟩) h
   ·cases h
  ·cases h
 | dfr fn xs =>
  simp only [opF,r.T.ev,r.T.evs] at h
  unfold oDfr at h
  rw [allNL_eq,r.rnd] at h
  simp only [opR]
  cases hn:(s.rnd||!((xs.map (Go.Pi.ev s.T)).all fun v=>!isLoc v)) with
  | true=>rw [hn] at h; cases h
  | false =>
   rw [hn,cond_false] at h
   rw [if_neg (by simp)]
   split at h
   ·rename_i gf args hf
    simp only [hf]
    exact putX_ok (s:={ s with D:=.call (.func gf) args :: s.D }) (by exact ⟨r.T,r.S,by rw [r.D],r.H,r.lo,r.n,rfl⟩) h
   ·cases h
 | pnc x =>
  simp only [opF,r.T.ev] at h
  unfold oPnc at h
  split at h
  ·rename_i ty w hx
   cases h
   exact ⟨s,by simp [opR,hx],r⟩
  ·cases h
 | clr zero a =>
  simp only [opF,r.T.ev] at h
  unfold oClr at h
  split at h
  ·rename_i l m hv
   simp only [opR,hv]
   exact putX_ok r h
  ·rename_i b off l m hv
   simp only [opR,hv]
   rw [beq_dec] at h
   by_cases hl:l=0
   ·simp only [hl,decide_true,cond_true] at h
    rw [if_pos hl]
    exact putX_ok r h
   ·simp only [hl,decide_false,cond_false] at h
    rw [if_neg hl]
    split at h
    ·rename_i f2 hf2
     obtain ⟨s2,h1,h2⟩:=stF_ok g r hf2
     rw [h1]
     exact putX_ok h2 h
    ·cases h
  ·cases h
end
end Go.Pi.Q
namespace Go.Pi.Q
open Go Go.Pi

section
variable {B:Base} {Hb:Heap} {f f1:FS} {s:St} {e:Ex} {d:Option Tmp} {v:Value} {fc:FCall} {call:CallT}

theorem want_eq (r:FRel B Hb f s)(o:PIns):wantF o.guard f.T=wanted o s.T:=by
 unfold wantF wanted
 cases o.guard with
 | none=>rfl
 | some x =>
  obtain ⟨t,w⟩:=x
  simp only [show tg f.T t=Go.Pi.get s.T t from (r.T.get t).symm]
  rfl

theorem opsF_ok (g:Good B Hb)(hc:CRel B Hb fc call)(hk:CallKeeps call):∀(ops:List PIns) {f f1:FS} {s:St} {e:Ex},FRel B Hb f s→Fam s.H→opsF B fc ops f=some (e,f1)→∃s1,opsR call ops s=some (e,s1)∧FRel B Hb f1 s1:=by
 intro ops
 induction ops with
 | nil=>intro f f1 s e r hF h; cases h; exact ⟨s,rfl,r⟩
 | cons o ops ih =>
  intro f f1 s e r hF h
  simp only [opsF] at h
  simp only [opsR]
  rw [want_eq r o] at h
  cases hw:wanted o s.T with
  | none=>rw [hw] at h; cases h
  | some b =>
   rw [hw] at h
   cases b with
   | true =>
    simp only at h ⊢
    cases hf:opF B fc o f with
    | none=>rw [hf] at h; cases h
    | some x =>
     obtain ⟨e2,f2⟩:=x
     obtain ⟨s2,h1,h2⟩:=opF_ok g hc r hF hf
     rw [hf] at h
     rw [h1]
     cases e2 with
     | normal=>exact ih h2 (keeps_opR hk h1 hF).1 h
     | _=>cases h; exact ⟨s2,rfl,h2⟩
   | false =>
    simp only at h ⊢
    cases hp:putF f o.dst undef with
    | none=>rw [hp] at h; cases h
    | some f2 =>
     obtain ⟨s2,h1,h2⟩:=putF_ok r hp
     rw [hp] at h
     rw [h1]
     exact ih h2 ((put_heap h1).1 ▸ hF) h

theorem cls_eq (r:FRel B Hb f s)(o:PIns)(c:Nat):clsF o c f=clsOk o c s:=by
 obtain ⟨t,p,gd⟩:=o
 cases p <;> simp only [clsF,clsOk,r.T.ev,beq_dec] <;> first | rfl | skip
 all_goals (try (cases t <;> rfl))
 all_goals (try (split <;> rfl))

theorem eqA_ok {a b:Option Addr}(h:eqA a b=true):a=b:=by
 unfold eqA at h
 split at h
 ·rfl
 ·rw [Bool.and_eq_true,beq_iff,beq_iff] at h
  rw [h.1,h.2]
 ·cases h
theorem eqF_ok {a b:Int}(h:eqF a b=true):a=b:=by rw [eqF_eq] at h; simpa using h
theorem eqV_ok {a b:Value}(h:eqV a b=true):a=b:=by
 unfold eqV at h
 split at h
 ·rw [Bool.and_eq_true] at h
  rw [keqF_ok h.1,eqF_ok h.2]
 ·rw [eq_of_beq h]
 ·rw [eqA_ok h]
 ·rw [Bool.and_eq_true,Bool.and_eq_true,beq_iff,beq_iff] at h
  rw [eqA_ok h.1,h.2.1,h.2.2]
 ·rw [beq_iff] at h; rw [h]
 ·cases h
theorem eqCs_ok:∀{a b:List Value},eqCs a b=true→a=b
 | [],[],_=>rfl
 | x :: l,y :: m,h=>by
  simp only [eqCs] at h
  cases hx:eqV x y with
  | false=>rw [hx] at h; cases h
  | true=>rw [hx] at h; rw [eqV_ok hx,eqCs_ok h]
 | [],_ :: _,h=>by cases h
 | _ :: _,[],h=>by cases h
theorem kB_ok {x y:Option Blk}(h:kB x y=true):∃a b,x=some a∧y=some b∧((b.obj=a.obj∧b.ok=a.ok)∨(isMapO a.obj=true∧isMapO b.obj=true)):=by
 unfold kB at h
 split at h
 ·rename_i c k t f c' k' t' f'
  cases hk:k == k' with
  | false=>rw [hk] at h; cases h
  | true =>
   rw [hk] at h
   exact ⟨_,_,rfl,rfl,.inl ⟨by rw [eqCs_ok h],(eq_of_beq hk).symm⟩⟩
 ·exact ⟨_,_,rfl,rfl,.inr ⟨rfl,rfl⟩⟩
 ·cases h
theorem keptF_ok {B:Base}{x y:HH}:∀(k i:Nat),keptF B x y k i=true→∀j,i≤j→j < i+k→kB (hg B x j) (hg B y j)=true
 | 0,i,_,j,h1,h2=>by omega
 | k+1,i,hk,j,h1,h2=>by
  simp only [keptF] at hk
  cases hb:kB (hg B x i) (hg B y i) with
  | false=>rw [hb] at hk; cases hk
  | true =>
   rw [hb,cond_true] at hk
   rcases Nat.eq_or_lt_of_le h1 with rfl | hlt
   ·exact hb
   ·exact keptF_ok k (i+1) hk j hlt (by omega)
theorem kept_of {B:Base}{Hb H H1:Heap}{h h1:HH}(g:Good B Hb)(r:HRel B Hb H h)(r1:HRel B Hb H1 h1){lo:Nat}(hs:Same lo H H1)(hk:keptF B h h1 (h.n - lo) lo=true):Kept H H1:=by
 intro b x hx
 have hlt:=(List.getElem?_eq_some_iff.1 hx).1
 rw [r.len] at hlt
 by_cases hb:b < lo
 ·obtain ⟨y,h1,h2,h3,_⟩:=hs.2 b x hb hx
  exact ⟨y,h1,.inl ⟨h2,h3⟩⟩
 ·obtain ⟨u,v,e1,e2,e3⟩:=kB_ok (keptF_ok _ _ hk b (by omega) (by omega))
  have:=r.get g e1
  rw [hx] at this; cases this
  exact ⟨v,r1.get g e2,e3⟩

theorem opsDF_ok (g:Good B Hb)(hc:CRel B Hb fc call)(hk:CallKeeps call):∀(ops:List PIns) (fs:List Flag) {f f1:FS} {s:St} {e:Ex},FRel B Hb f s→Fam s.H→opsDF B fc ops fs f=some (e,f1)→∃s1,opsD call ops fs s=some (e,s1)∧FRel B Hb f1 s1:=by
 intro ops
 induction ops with
 | nil=>intro fs f f1 s e r hF h; cases h; exact ⟨s,rfl,r⟩
 | cons o ops ih =>
  intro fs f f1 s e r hF h
  cases fs with
  | nil=>cases h
  | cons fl fs =>
   simp only [opsDF] at h
   simp only [opsD]
   rw [want_eq r o] at h
   cases hw:wanted o s.T with
   | none=>rw [hw] at h; cases h
   | some b =>
    rw [hw] at h
    cases b with
    | true =>
     simp only at h ⊢
     rw [cls_eq r] at h
     cases hcl:clsOk o fl.cls s with
     | false=>rw [hcl] at h; cases h
     | true =>
      rw [hcl,cond_true] at h
      rw [if_pos rfl]
      have r0:FRel B Hb ⟨f.T,f.S,f.D,f.H,f.H.n,f.n,f.rnd⟩ { s with lo:=s.H.length }:=⟨r.T,r.S,r.D,r.H,r.H.len.symm,r.n,r.rnd⟩
      cases hf:opF B fc o ⟨f.T,f.S,f.D,f.H,f.H.n,f.n,f.rnd⟩ with
      | none=>rw [hf] at h; cases h
      | some x =>
       obtain ⟨e2,f2⟩:=x
       obtain ⟨s2,h1,h2⟩:=opF_ok g hc r0 hF hf
       rw [hf] at h
       rw [h1]
       have r2:FRel B Hb ⟨f2.T,f2.S,f2.D,f2.H,mn f.lo f2.lo,f2.n,f2.rnd⟩ { s2 with lo:=min s.lo s2.lo }:=⟨h2.T,h2.S,h2.D,h2.H,by simp [mn_eq,r.lo,h2.lo],h2.n,h2.rnd⟩
       cases e2 with
       | normal =>
        simp only at h ⊢
        have hs2:Same s2.lo s.H s2.H:=(keeps_opR hk h1 hF).2.2
        have hF2:Fam s2.H:=(keeps_opR hk h1 hF).1
        rw [ble_dec] at h
        cases hb:(decide (f.H.n≤f2.lo)||fl.hb)||(isCallP o.op&&keptF B f.H f2.H (f.H.n - f2.lo) f2.lo) with
        | false=>rw [hb] at h; cases h
        | true =>
         rw [hb,cond_true] at h
         rw [if_pos ?_]
         ·exact ih fs r2 hF2 h
         ·rw [Bool.or_eq_true] at hb
          rcases hb with hb | hb
          ·exact .inl (by rw [r.H.len,←h2.lo]; simpa using hb)
          ·rw [Bool.and_eq_true] at hb
           exact .inr ⟨hb.1,kept_of g r.H h2.H (h2.lo ▸ hs2) hb.2⟩
       | exit i =>
        simp only at h ⊢
        cases hb:fl.tb with
        | none=>rw [hb] at h; cases h
        | some ds =>
         cases ds with
         | nil=>rw [hb] at h; cases h; exact ⟨_,rfl,r2⟩
         | cons=>rw [hb] at h; cases h
       | ret =>
        simp only at h ⊢
        cases hb:fl.tb with
        | none=>rw [hb] at h; cases h
        | some ds =>
         cases ds with
         | nil=>rw [hb] at h; cases h; exact ⟨_,rfl,r2⟩
         | cons=>rw [hb] at h; cases h
       | panic w =>
        simp only at h ⊢
        cases hb:fl.tb with
        | none=>rw [hb] at h; cases h
        | some ds =>
         cases ds with
         | nil=>rw [hb] at h; cases h; exact ⟨_,rfl,r2⟩
         | cons=>rw [hb] at h; cases h
    | false =>
     simp only at h ⊢
     cases hp:putF f o.dst undef with
     | none=>rw [hp] at h; cases h
     | some f2 =>
      obtain ⟨s2,h1,h2⟩:=putF_ok r hp
      rw [hp] at h
      rw [h1]
      exact ih fs h2 ((put_heap h1).1 ▸ hF) h

theorem loopF_ok {bf:FS→Option (Ex×FS)}{bs:St→Option (Ex×St)}(hb:∀{f f1 s e},FRel B Hb f s→Fam s.H→bf f=some (e,f1)→∃s1,bs s=some (e,s1)∧FRel B Hb f1 s1)(hkb:∀{s e s1},bs s=some (e,s1)→Keeps s s1) :
  ∀(n:Nat) {f f1:FS} {s:St} {e:Ex},FRel B Hb f s→Fam s.H→loopF bf n f=some (e,f1)→∃s1,loopN bs n s=some (e,s1)∧FRel B Hb f1 s1:=by
 intro n
 induction n with
 | zero=>intro f f1 s e r hF h; cases h
 | succ n ih =>
  intro f f1 s e r hF h
  simp only [loopF] at h
  simp only [loopN]
  cases hf:bf f with
  | none=>rw [hf] at h; cases h
  | some x =>
   obtain ⟨e2,f2⟩:=x
   obtain ⟨s2,h1,h2⟩:=hb r hF hf
   rw [hf] at h
   rw [h1]
   cases e2 with
   | normal=>exact ih h2 (hkb h1 hF).1 h
   | _=>cases h; exact ⟨s2,rfl,h2⟩

theorem rfF_ok (g:Good B Hb)(hc:CRel B Hb fc call)(r:FRel B Hb f s)(hF:Fam s.H){fo:Operand}{ps:List Tmp}{as bd:PCode}{m:Nat}(h:rfF B fc (Go.Pi.ev s.T fo) ps as bd f=some (e,f1)) :
  ∃s1,codeR call m (.rf fo ps as bd) s=some (e,s1)∧FRel B Hb f1 s1:=by
 unfold rfF at h
 rw [r.rnd] at h
 simp only [codeR]
 cases hr:s.rnd with
 | true=>rw [hr] at h; cases h
 | false =>
  rw [hr,cond_false] at h
  rw [if_neg (by simp)]
  rw [←r.H.len] at h
  split at h
  ·rename_i gf args hf
   rw [hf]
   simp only
   rw [r.T.list,r.n] at h
   have r2:=(r.H.push { obj:=.dfr false }).push { obj:=.loop s.n (s.T.map deloc) ps as bd s.H.length .ready none }
   cases hfc:fc (.func gf) args ((f.H.push B { obj:=.dfr false }).push B { obj:=.loop s.n (s.T.map deloc) ps as bd s.H.length .ready none }) with
   | none=>rw [hfc] at h; cases h
   | some fo =>
    obtain ⟨out,h1,h2⟩:=hc _ _ _ _ _ r2 ((hF.append (fun f hf=>by cases hf)).append (fun f hf=>by cases hf)) hfc
    rw [hfc] at h
    rw [h1]
    obtain ⟨fr,fH,flo⟩:=fo
    obtain ⟨or,oH,olo⟩:=out
    obtain ⟨q1,q2,q3⟩:=h2
    simp only at q1 q2 q3
    subst q1
    subst q3
    cases fr with
    | panic v=>cases h
    | ok v =>
     simp only [rfF2] at h
     rw [←r.H.len] at h
     split at h
     ·rename_i n' T' ps' as' bd' d' st pend hb
      simp only [q2.get g hb]
      split at h
      ·cases h
      ·rename_i hcond
       rw [not_or,Classical.not_not] at hcond
       rw [if_neg hcond.1]
       simp only [Option.some.injEq,Prod.mk.injEq] at h
       obtain ⟨rfl,rfl⟩:=h
       exact ⟨_,rfl,by exact ⟨r.T,r.S,by rw [r.D],q2.put hcond.2 _,by simp [mn_eq,r.lo],r.n,hr ▸ r.rnd⟩⟩
     ·cases h
  ·cases h

theorem codeF_ok (g:Good B Hb)(hc:CRel B Hb fc call)(hk:CallKeeps call){m:Nat}:∀(c:PCode) {f f1:FS} {s:St} {e:Ex},FRel B Hb f s→Fam s.H→codeF B fc m c f=some (e,f1)→∃s1,codeR call m c s=some (e,s1)∧FRel B Hb f1 s1:=by
 intro c
 induction c with
 | skip=>intro f f1 s e r hF h; cases h; exact ⟨s,rfl,r⟩
 | reg ops=>intro f f1 s e r hF h; exact opsF_ok g hc hk ops r hF h
 | dreg ops fs=>intro f f1 s e r hF h; exact opsDF_ok g hc hk ops fs r hF h
 | seq a b iha ihb =>
  intro f f1 s e r hF h
  simp only [codeF] at h
  simp only [codeR]
  cases hf:codeF B fc m a f with
  | none=>rw [hf] at h; cases h
  | some x =>
   obtain ⟨e2,f2⟩:=x
   obtain ⟨s2,h1,h2⟩:=iha r hF hf
   rw [hf] at h
   rw [h1]
   cases e2 with
   | normal=>exact ihb h2 (keeps_codeR hk _ h1 hF).1 h
   | _=>cases h; exact ⟨s2,rfl,h2⟩
 | cond x a b iha ihb =>
  intro f f1 s e r hF h
  simp only [codeF,r.T.ev] at h
  simp only [codeR]
  cases hx:Go.Pi.ev s.T x with
  | bool w =>
   rw [hx] at h
   cases w with
   | true=>exact iha r hF h
   | false=>exact ihb r hF h
  | _=>rw [hx] at h; cases h
 | blk id c ih =>
  intro f f1 s e r hF h
  simp only [codeF] at h
  simp only [codeR]
  cases hf:codeF B fc m c f with
  | none=>rw [hf] at h; cases h
  | some x =>
   obtain ⟨e2,f2⟩:=x
   obtain ⟨s2,h1,h2⟩:=ih r hF hf
   rw [hf] at h
   rw [h1]
   cases e2 with
   | exit i =>
    simp only at h ⊢
    rw [beq_dec] at h
    by_cases hi:i=id
    ·simp [hi] at h ⊢
     obtain ⟨rfl,rfl⟩:=h
     exact ⟨s2,⟨rfl,rfl⟩,h2⟩
    ·simp [hi] at h ⊢
     obtain ⟨rfl,rfl⟩:=h
     exact ⟨s2,⟨rfl,rfl⟩,h2⟩
   | _=>cases h; exact ⟨s2,rfl,h2⟩
 | loop c ih=>intro f f1 s e r hF h; exact loopF_ok (fun r hF h=>ih r hF h) (fun h=>keeps_codeR hk _ h) m r hF h
 | rf fo ps as bd iha ihb =>
  intro f f1 s e r hF h
  simp only [codeF,r.T.ev] at h
  exact rfF_ok g hc r hF h
 | exit id=>intro f f1 s e r hF h; cases h; exact ⟨s,rfl,r⟩
 | ret=>intro f f1 s e r hF h; cases h; exact ⟨s,rfl,r⟩

theorem resF_ok (g:Good B Hb)(r:FRel B Hb f s):∀(l:List (Tmp×Option (Option Nat))) {vs:List Value},resF B f l=some vs→resR s l=some vs:=by
 intro l
 induction l with
 | nil=>intro vs h; exact h
 | cons x l ih =>
  intro vs h
  obtain ⟨t,o⟩:=x
  have ht:tg f.T t=Go.Pi.get s.T t:=(r.T.get t).symm
  cases o with
  | none =>
   simp only [resF,ht] at h
   simp only [resR]
   cases hl:isLoc (Go.Pi.get s.T t) with
   | true=>rw [hl] at h; cases h
   | false =>
    rw [hl,cond_false] at h
    rw [if_neg (by simp)]
    cases hr:resF B f l with
    | none=>rw [hr] at h; cases h
    | some vs'=>rw [hr] at h; rw [ih hr]; exact h
  | some n =>
   simp only [resF,ht] at h
   simp only [resR]
   split at h
   ·rename_i a ha
    simp only [ha]
    cases hcl:cellsF B f a with
    | none=>rw [hcl] at h; cases h
    | some c =>
     rw [hcl] at h
     rw [cellsF_ok g r hcl]
     simp only [Option.bind_some] at h ⊢
     split at h
     ·rename_i v hv
      rw [hv]
      cases hr:resF B f l with
      | none=>rw [hr] at h; cases h
      | some vs'=>rw [hr] at h; simp only [ih hr]; exact h
     ·cases h
   ·cases h

theorem gcF_ok {H0 H:Heap}{h0 h:HH}(r0:HRel B Hb H0 h0)(r1:HRel B Hb H h)(rt:Ret)(lo:Nat):ORel B Hb (gcF h0 rt h lo) (gcR H0 rt H lo):=by
 have key:∀b:Bool,b=decide (H0.length≤lo∧flat 4 (rval rt)=true)→ORel B Hb (bif b then ⟨rt,h0,h0.n⟩ else ⟨rt,h,lo⟩) (if H0.length≤lo∧flat 4 (rval rt)=true then ⟨rt,H0,H0.length⟩ else ⟨rt,H,lo⟩):=by
  intro b hb
  by_cases hc:H0.length≤lo∧flat 4 (rval rt)=true
  ·rw [if_pos hc,hb,decide_eq_true hc]; exact ⟨rfl,r0,r0.len.symm⟩
  ·rw [if_neg hc,hb,decide_eq_false hc]; exact ⟨rfl,r1,rfl⟩
 have:=key (Nat.ble h0.n lo&&flat 4 (rval rt)) (by rw [ble_dec,←r0.len,Bool.eq_iff_iff]; simp)
 unfold gcF gcR
 cases rt <;> exact this

theorem FRel.enter {H:Heap}{h:HH}(r:HRel B Hb H h)(T:List Value)(n:Nat)(rnd:Bool):FRel B Hb (enF T h n rnd) ⟨T,[],[],H,H.length,n,rnd⟩ :=
 ⟨TRel.new T,SRel.new,rfl,r,r.len.symm,rfl,rfl⟩

def PRel (B:Base)(Hb:Heap)(fp:FPrims)(prims:Prims):Prop :=
 (∀fn,fp fn=none→prims fn=none)∧∀fn g,fp fn=some g→∃g',prims fn=some g'∧∀args H h fo,HRel B Hb H h→g args h=some fo→∃o,g' args H=some o∧ORel B Hb fo o

variable {PP:FuncId→Option PFunc} {fp:FPrims} {prims:Prims} {m:Nat}

theorem drunF_ok (g:Good B Hb)(hp:PRel B Hb fp prims)(hc:CRel B Hb fc call)(hk:CallKeeps call){H:Heap}{h h1:HH}(r:HRel B Hb H h)(hF:Fam H){fn:Fn}{args:List Value}{pv pv1:Option Value}{lo:Nat}(hd:drunF B PP fp fc m fn args h pv=some (h1,lo,pv1)) :
  ∃H1,drun PP prims call m fn args H pv=some (H1,lo,pv1)∧HRel B Hb H1 h1:=by
 unfold drunF at hd
 unfold drun
 cases fn with
 | func ff =>
  simp only at hd ⊢
  cases hf1:fp ff with
  | some _=>rw [hf1] at hd; cases hd
  | none =>
   rw [hp.1 ff hf1]
   rw [hf1] at hd
   cases h2:PP ff with
   | none=>rw [h2] at hd; cases hd
   | some pf =>
    rw [h2] at hd
    simp only at hd ⊢
    split at hd
    ·rename_i hn
     rw [if_pos hn]
     have fin:∀(T:List Value) (pv2:Option Value),(match codeF B fc m pf.body (enF T h pf.n false) with
       | some (e,s) =>
        match endR e,s.D,resF B s pf.res with
        | some none,[],some _=>some (s.H,s.lo,pv2)
        | _,_,_=>none
       | none=>none)=some (h1,lo,pv1) →
       ∃H1,(match codeR call m pf.body ⟨T,[],[],H,H.length,pf.n,false⟩ with
       | some (e,s) =>
        match endR e,s.D,resR s pf.res with
        | some none,[],some _=>some (s.H,s.lo,pv2)
        | _,_,_=>none
       | none=>none)=some (H1,lo,pv1)∧HRel B Hb H1 h1:=by
      intro T pv2 hd
      cases hcf:codeF B fc m pf.body (enF T h pf.n false) with
      | none=>rw [hcf] at hd; cases hd
      | some x =>
       obtain ⟨e2,f2⟩:=x
       obtain ⟨s2,k1,k2⟩:=codeF_ok g hc hk _ (FRel.enter r T pf.n false) hF hcf
       rw [hcf] at hd
       rw [k1]
       simp only at hd ⊢
       split at hd
       ·rename_i w he hD hres
        cases hd
        rw [he,←k2.D,hD,resF_ok g k2 _ hres]
        exact ⟨s2.H,by simp [k2.lo],k2.H⟩
       ·cases hd
     cases hrc:pf.rc with
     | none=>rw [hrc] at hd; exact fin _ _ hd
     | some dd =>
      rw [hrc] at hd
      simp only at hd ⊢
      by_cases hdd:dd < pf.n
      ·rw [if_pos hdd] at hd ⊢
       exact fin _ _ hd
      ·rw [if_neg hdd] at hd
       cases hd
    ·cases hd
 | _=>cases hd

theorem unwF_ok (g:Good B Hb)(hp:PRel B Hb fp prims)(hc:CRel B Hb fc call)(hk:CallKeeps call):∀(ds:List PD) {pv pv1:Option Value} {f f1:FS} {s:St},FRel B Hb f s→Fam s.H→unwF B PP fp fc m ds pv f=some (pv1,f1)→∃s1,unw PP prims call m ds pv s=some (pv1,s1)∧FRel B Hb f1 s1:=by
 intro ds
 induction ds with
 | nil=>intro pv pv1 f f1 s r hF h; cases h; exact ⟨s,rfl,r⟩
 | cons x ds ih =>
  intro pv pv1 f f1 s r hF h
  cases x with
  | call fn args =>
   simp only [unwF] at h
   simp only [unw]
   split at h
   ·rename_i h2 lo pv2 hd
    obtain ⟨H2,k1,k2⟩:=drunF_ok g hp hc hk r.H hF hd
    rw [k1]
    have r2:FRel B Hb ⟨f.T,f.S,f.D,h2,mn f.lo lo,f.n,f.rnd⟩ { s with H:=H2,lo:=min s.lo lo }:=⟨r.T,r.S,r.D,k2,by simp [mn_eq,r.lo],r.n,r.rnd⟩
    exact ih r2 (keeps_drun hk k1 hF).1 h
   ·cases h
  | coll c =>
   simp only [unwF] at h
   simp only [unw]
   split at h
   ·rename_i hb
    simp only [r.H.get g hb]
    cases ho:f.H.own B c with
    | false=>rw [ho] at h; cases h
    | true =>
     rw [ho,cond_true] at h
     exact ih (setBF_ok r ho _) (keeps_setB (r.H.get g hb) rfl hF).1 h
   ·cases h

theorem yl3_ok (g:Good B Hb){l:Nat}{bd:PCode}(hc:CRel B Hb fc call)(hk:CallKeeps call)(r:FRel B Hb f s)(hF:Fam s.H){fo:FOut}(h:yl3 B l (codeF B fc m bd f)=some fo) :
  ∃o,(match codeR call m bd s with
      | some (.panic _,_)=>none
      | some (e,s) =>
       match s.H[l]? with
       | some ⟨.loop n T ps as bd d _ _,true,true,none⟩ =>
        let (st,pd,b):LoopState×Option Ex×Bool:=match e with | .normal=>(.ready,none,true) | e=>(.done,some e,false)
        some (⟨.ok (.bool b),s.H.set l { obj:=.loop n T ps as bd d st pd },min s.lo l⟩:Out)
       | _=>none
      | none=>none)=some o∧ORel B Hb fo o:=by
 cases hcf:codeF B fc m bd f with
 | none=>rw [hcf] at h; cases h
 | some x =>
  obtain ⟨e2,f2⟩:=x
  obtain ⟨s2,k1,k2⟩:=codeF_ok g hc hk _ r hF hcf
  rw [hcf] at h
  rw [k1]
  have lo2:mn f2.lo l=min s2.lo l:=by rw [mn_eq,k2.lo]
  cases e2 with
  | panic w=>cases h
  | normal =>
   simp only [yl3] at h ⊢
   split at h
   ·rename_i n T ps as bd' d' st pd hb
    simp only [k2.H.get g hb]
    cases ho:f2.H.own B l with
    | false=>rw [ho] at h; cases h
    | true=>rw [ho,cond_true] at h; cases h; exact ⟨_,rfl,⟨rfl,k2.H.put ho _,lo2⟩⟩
   ·cases h
  | exit i =>
   simp only [yl3] at h ⊢
   split at h
   ·rename_i n T ps as bd' d' st pd hb
    simp only [k2.H.get g hb]
    cases ho:f2.H.own B l with
    | false=>rw [ho] at h; cases h
    | true=>rw [ho,cond_true] at h; cases h; exact ⟨_,rfl,⟨rfl,k2.H.put ho _,lo2⟩⟩
   ·cases h
  | ret =>
   simp only [yl3] at h ⊢
   split at h
   ·rename_i n T ps as bd' d' st pd hb
    simp only [k2.H.get g hb]
    cases ho:f2.H.own B l with
    | false=>rw [ho] at h; cases h
    | true=>rw [ho,cond_true] at h; cases h; exact ⟨_,rfl,⟨rfl,k2.H.put ho _,lo2⟩⟩
   ·cases h

theorem runF_ok (g:Good B Hb)(hp:PRel B Hb fp prims)(hk0:∀f g,prims f=some g→∀args H out,g args H=some out→Fam H→Fam out.H∧Same out.lo H out.H):∀m,CRel B Hb (runF B PP fp m) (run PP prims m)
 | 0=>fun fn args H h fo r hF hf=>by cases fn <;> cases hf
 | m+1=>fun fn args H h fo r hF hf=>by
  have hc:=runF_ok g hp hk0 m
  have hk:=keeps_run (PP:=PP) hk0 m
  cases fn with
  | func ff =>
   simp only [runF] at hf
   simp only [run]
   cases h1:fp ff with
   | some gg =>
    rw [h1] at hf
    obtain ⟨g',k1,k2⟩:=hp.2 ff gg h1
    rw [k1]
    exact k2 args H h fo r hf
   | none =>
    rw [hp.1 ff h1]
    rw [h1] at hf
    cases h2:PP ff with
    | none=>rw [h2] at hf; cases hf
    | some pf =>
     rw [h2] at hf
     simp only at hf ⊢
     rw [ble_dec] at hf
     cases hb:(decide (args.length≤pf.n)&&pf.rc.isNone) with
     | false=>rw [hb] at hf; cases hf
     | true =>
      rw [hb,cond_true] at hf
      rw [if_pos (by simpa using hb)]
      cases hcf:codeF B (runF B PP fp m) m pf.body (enF args h pf.n false) with
      | none=>rw [hcf] at hf; cases hf
      | some x =>
       obtain ⟨e2,f2⟩:=x
       obtain ⟨s2,k1,k2⟩:=codeF_ok g hc hk _ (FRel.enter r args pf.n false) hF hcf
       rw [hcf] at hf
       rw [k1]
       simp only [endF] at hf
       simp only
       cases he:endR e2 with
       | none=>rw [he] at hf; cases hf
       | some pv =>
        rw [he] at hf
        simp only at hf ⊢
        cases hu:unwF B PP fp (runF B PP fp m) m f2.D pv f2 with
        | none=>rw [hu] at hf; cases hf
        | some y =>
         obtain ⟨pv1,f3⟩:=y
         obtain ⟨s3,k3,k4⟩:=unwF_ok g hp hc hk _ k2 (keeps_codeR hk _ k1 hF).1 hu
         rw [hu] at hf
         rw [←k2.D,k3]
         cases pv1 with
         | some w =>
          cases hf
          refine ⟨_,rfl,?_⟩
          rw [←k4.lo]
          exact gcF_ok r k4.H _ _
         | none =>
          simp only at hf ⊢
          cases hr:resF B f3 pf.res with
          | none=>rw [hr] at hf; cases hf
          | some vs =>
           rw [hr] at hf
           rw [resF_ok g k4 _ hr]
           cases hf
           refine ⟨_,rfl,?_⟩
           rw [←k4.lo]
           exact gcF_ok r k4.H _ _
  | yield l =>
   simp only [runF] at hf
   simp only [run]
   split at hf
   ·rename_i n T ps as bd d pend hb
    simp only [r.get g hb]
    split at hf
    ·rename_i hcond
     rw [if_pos hcond]
     cases hcf:codeF B (runF B PP fp m) m as (enF (setParams T ps args) h n true) with
     | none=>rw [hcf] at hf; cases hf
     | some x =>
      obtain ⟨e2,f2⟩:=x
      obtain ⟨s2,k1,k2⟩:=codeF_ok g hc hk _ (FRel.enter r (setParams T ps args) n true) hF hcf
      rw [hcf] at hf
      rw [k1]
      cases e2 with
      | normal =>
       simp only [yl2] at hf ⊢
       split at hf
       ·rename_i n2 T2 ps2 as2 bd2 d2 pend2 hb2
        simp only [k2.H.get g hb2]
        cases ho:f2.H.own B l with
        | false=>rw [ho] at hf; cases hf
        | true =>
         rw [ho,cond_true] at hf
         exact yl3_ok g hc hk (setBF_ok k2 ho _) (keeps_setB (k2.H.get g hb2) rfl (keeps_codeR hk _ k1 hF).1).1 hf
       ·cases hf
      | _=>cases hf
    ·cases hf
   ·cases hf
  | _=>cases hf
end
end Go.Pi.Q
namespace Go.Pi.Q
open Go Go.Pi

theorem look_mem:∀{l:List (Nat×Blk)} {i:Nat} {b:Blk},look l i=some b→(i,b)∈l
 | [],i,b,h=>by cases h
 | (j,c) :: l,i,b,h=>by
  simp only [look,beq_dec] at h
  by_cases hj:j=i
  ·simp [hj] at h; subst h; simp [hj]
  ·simp [hj] at h; exact List.mem_cons_of_mem _ (look_mem h)

def obs (idx:List Nat)(B:Base)(o:FOut):Ret×Nat×Nat×List (Option Blk):=(o.r,o.lo,o.H.n,idx.map (hg B o.H))

structure FactOf (Hb H':Heap)(n1:Nat)(idx:List Nat)(bl:List (Option Blk)):Prop where
 len:H'.length=n1
 fam:Fam H'
 old:∀i,i < Hb.length→H'[i]?=Hb[i]?
 new:∀(k i:Nat) (b:Blk),idx[k]?=some i→bl[k]?=some (some b)→H'[i]?=some b

theorem fact {PP:FuncId→Option PFunc}{fp:Base→FPrims}{prims:Prims}(hp:∀(B:Base) (Hb:Heap),Good B Hb→PRel B Hb (fp B) prims)
  (hk:∀f g,prims f=some g→∀args H out,g args H=some out→Fam H→Fam out.H∧Same out.lo H out.H)
  {n0:Nat} {bg:List (Nat×Blk)} {fn:Fn} {args:List Value} {m:Nat} {r:Ret} {lo n1:Nat} {idx:List Nat} {bl:List (Option Blk)}
  (h:(runF ⟨n0,bg⟩ PP (fp ⟨n0,bg⟩) m fn args ⟨n0,.nil⟩).map (obs idx ⟨n0,bg⟩)=some (r,lo,n1,bl)) (Hb:Heap) (hl:Hb.length=n0) (hb:∀p,p∈bg→Hb[p.1]?=some p.2) (hF:Fam Hb) :
  ∃H',run PP prims m fn args Hb=some ⟨r,H',lo⟩∧FactOf Hb H' n1 idx bl:=by
 have g:Good ⟨n0,bg⟩ Hb:=⟨hl,fun i b hh=>hb _ (look_mem hh),fun i b f h1 h2=>by
  have:=hF i b f h1 h2
  have:=(List.getElem?_eq_some_iff.1 h1).1
  simp only; omega⟩
 cases hr:runF ⟨n0,bg⟩ PP (fp ⟨n0,bg⟩) m fn args ⟨n0,.nil⟩ with
 | none=>rw [hr] at h; cases h
 | some fo =>
  rw [hr] at h
  simp only [Option.map_some,obs,Option.some.injEq,Prod.mk.injEq] at h
  obtain ⟨rfl,rfl,rfl,rfl⟩:=h
  obtain ⟨o,h1,h2⟩:=runF_ok g (hp _ _ g) hk m fn args Hb ⟨n0,.nil⟩ fo g.new hF hr
  obtain ⟨r',H',lo'⟩:=o
  obtain ⟨q1,q2,q3⟩:=h2
  simp only at q1 q2 q3
  subst q1; subst q3
  obtain ⟨k1,_⟩:=keeps_run hk m fn args Hb _ h1 hF
  refine ⟨H',h1,⟨q2.len,k1,fun i hi=>q2.base i (by simp only; omega),fun k i b hi hbl=>?_⟩⟩
  rw [List.getElem?_map,hi] at hbl
  simp only [Option.map_some,Option.some.injEq] at hbl
  exact q2.get g hbl

theorem FactOf.same {Hb H':Heap}{idx:List Nat}{bl:List (Option Blk)}(h:FactOf Hb H' Hb.length idx bl):H'=Hb:=by
 apply List.ext_getElem?
 intro i
 rcases Nat.lt_or_ge i Hb.length with hi | hi
 ·exact h.old i hi
 ·rw [List.getElem?_eq_none (by rw [h.len]; exact hi),List.getElem?_eq_none hi]

end Go.Pi.Q
