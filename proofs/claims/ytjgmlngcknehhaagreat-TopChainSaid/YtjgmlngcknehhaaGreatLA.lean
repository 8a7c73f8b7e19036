/- Without fuel: what is computed in the end. -/
import Derived.Test.YtjgmlngcknehhaaGreatPiJ
set_option linter.all false
namespace Go.Pi.L
open Go Go.Pi

open Classical in
noncomputable def lim {α:Type}(g:Nat→Option α):Option α:=if h:∃n,(g n).isSome=true then g (Classical.choose h) else none

theorem lim_ex {α:Type}{g:Nat→Option α}{r:α}(h:lim g=some r):∃n,g n=some r:=by
 unfold lim at h
 split at h
 ·exact ⟨_,h⟩
 ·cases h
theorem lim_of {α:Type}{g:Nat→Option α}(hm:∀n r,g n=some r→∀n',n≤n'→g n'=some r){n:Nat}{r:α}(h:g n=some r):lim g=some r:=by
 unfold lim
 have he:∃n,(g n).isSome=true:=⟨n,by rw [h]; rfl⟩
 rw [dif_pos he]
 have h1:=Classical.choose_spec he
 cases h2:g (Classical.choose he) with
 | none=>rw [h2] at h1; cases h1
 | some r' =>
  rcases Nat.le_total n (Classical.choose he) with hl | hl
  ·rw [←h2]; exact hm _ _ h _ hl
  ·rw [←h,hm _ _ h2 _ hl]
theorem lim_none {α:Type}{g:Nat→Option α}(h:∀n,g n=none):lim g=none:=by
 unfold lim
 rw [dif_neg]
 rintro ⟨n,hn⟩
 rw [h n] at hn; cases hn

section
variable {PP:FuncId→Option PFunc} {prims:Prims}
noncomputable def runL (PP:FuncId→Option PFunc)(prims:Prims):CallT:=fun fn args H=>lim fun m=>run PP prims m fn args H

theorem runL_ex {fn args H out}(h:runL PP prims fn args H=some out):∃m0,∀m,m0≤m→run PP prims m fn args H=some out:=by
 obtain ⟨m0,h0⟩:=lim_ex h
 exact ⟨m0,fun m hm=>run_le hm _ _ _ _ h0⟩
theorem runL_of {m:Nat}{fn args H out}(h:run PP prims m fn args H=some out):runL PP prims fn args H=some out :=
 lim_of (g:=fun m=>run PP prims m fn args H) (fun _ _ h' _ hl=>run_le hl _ _ _ _ h') h

theorem loopN_more {b:St→Option (Ex×St)}{n n':Nat}{s:St}{r:Ex×St}(hn:n≤n')(h:loopN b n s=some r):loopN b n' s=some r:=loopN_mono (fun _ _ h=>h) hn h
noncomputable def loopL (b:St→Option (Ex×St))(s:St):Option (Ex×St):=lim fun n=>loopN b n s
theorem loopL_succ (b:St→Option (Ex×St))(s:St):loopL b s=match b s with | some (.normal,s1)=>loopL b s1 | r=>r:=by
 have mono:∀s n r,loopN b n s=some r→∀n',n≤n'→loopN b n' s=some r:=fun s n r h n' hl=>loopN_more hl h
 cases hb:b s with
 | none =>
  simp only
  exact lim_none fun n=>by cases n <;> simp [loopN,hb]
 | some x =>
  obtain ⟨e,s1⟩:=x
  have key:∀e',e'≠Ex.normal→b s=some (e',s1)→loopL b s=some (e',s1):=by
   intro e' he hb
   refine lim_of (g:=fun n=>loopN b n s) (mono s) (n:=1) ?_
   simp only [loopN,hb]
   try (cases e' <;> first | rfl | exact absurd rfl he)
  cases e with
  | normal =>
   simp only
   cases h1:loopL b s1 with
   | none =>
    refine lim_none fun n=>?_
    cases n with
    | zero=>rfl
    | succ n =>
     simp only [loopN,hb]
     cases h2:loopN b n s1 with
     | none=>rfl
     | some r=>rw [show loopL b s1=some r from lim_of (g:=fun n=>loopN b n s1) (mono s1) h2] at h1; cases h1
   | some r =>
    obtain ⟨n,hn⟩:=lim_ex h1
    refine lim_of (g:=fun n=>loopN b n s) (mono s) (n:=n+1) ?_
    simp only [loopN,hb]
    exact hn
  | exit i=>exact key _ (by simp) hb
  | ret=>exact key _ (by simp) hb
  | panic v=>exact key _ (by simp) hb

noncomputable def codeL (call:CallT):PCode→St→Option (Ex×St)
 | .skip,s=>some (.normal,s)
 | .reg ops,s=>opsR call ops s
 | .dreg ops fs,s=>opsD call ops fs s
 | .seq a b,s =>
  match codeL call a s with
  | some (.normal,s)=>codeL call b s
  | r=>r
 | .cond c a b,s =>
  match ev s.T c with
  | .bool true=>codeL call a s
  | .bool false=>codeL call b s
  | _=>none
 | .blk id c,s =>
  match codeL call c s with
  | some (.exit i,s)=>if i=id then some (.normal,s) else some (.exit i,s)
  | r=>r
 | .loop c,s=>loopL (codeL call c) s
 | .rf f ps as bd,s =>
  if s.rnd then none else
  match fnArgs (ev s.T f) [.func (.yield (s.H.length+1)) #[] #[]] with
  | some (.func g,args) =>
   match call (.func g) args (s.H++[{ obj:=.dfr false }]++[{ obj:=.loop s.n (s.T.map deloc) ps as bd s.H.length .ready none }]) with
   | some ⟨.ok _,H,lo⟩ =>
    match H[s.H.length+1]? with
    | some ⟨.loop n' T' ps' as' bd' d' st pend,true,true,none⟩ =>
     if st=.busy then none else
     some (pend.getD .normal,{ s with H:=H.set (s.H.length+1) { obj:=.loop n' T' ps' as' bd' d' .exhausted pend },lo:=min s.lo lo,D:=.coll s.H.length :: s.D })
    | _=>none
   | _=>none
  | _=>none
 | .exit id,s=>some (.exit id,s)
 | .ret,s=>some (.ret,s)

theorem ev2 {p q:Nat→Prop}(hp:∃m0,∀m,m0≤m→p m)(hq:∃m0,∀m,m0≤m→q m):∃m0,∀m,m0≤m→p m∧q m:=by
 obtain ⟨a,ha⟩:=hp
 obtain ⟨b,hb⟩:=hq
 exact ⟨max a b,fun m hm=>⟨ha m (by omega),hb m (by omega)⟩⟩
theorem ev_mono {p q:Nat→Prop}(hp:∃m0,∀m,m0≤m→p m)(h:∀m,p m→q m):∃m0,∀m,m0≤m→q m:=by
 obtain ⟨a,ha⟩:=hp
 exact ⟨a,fun m hm=>h m (ha m hm)⟩
theorem ev_all {p:Nat→Prop}(h:∀m,p m):∃m0,∀m,m0≤m→p m:=⟨0,fun m _=>h m⟩

abbrev Ev (p:Nat→Prop):Prop:=∃m0,∀m,m0≤m→p m

theorem callR_snd {o:PIns}{s:St}{f:Value}{vs:List Value}{r:Ex×St}(hr:opR.callR (runL PP prims) o s f vs=some r):Ev fun m=>opR.callR (run PP prims m) o s f vs=some r:=by
 unfold opR.callR at hr ⊢
 split at hr
 ·rename_i hl
  simp only [if_pos hl]
  split at hr
  ·rename_i fn args hfa
   cases hc:runL PP prims fn args s.H with
   | none=>rw [hc] at hr; cases hr
   | some out =>
    rw [hc] at hr
    exact ev_mono (runL_ex hc) fun m hm=>by simp only [hfa,hm]; exact hr
  ·cases hr
 ·cases hr
theorem opR_snd {o:PIns}{s:St}{r:Ex×St}(hr:opR (runL PP prims) o s=some r):Ev fun m=>opR (run PP prims m) o s=some r:=by
 obtain ⟨d,p,g⟩:=o
 cases p with
 | call f xs=>simp only [opR] at hr ⊢; exact callR_snd hr
 | inv x tb xs =>
  simp only [opR] at hr ⊢
  split at hr
  ·split at hr
   ·exact callR_snd hr
   ·cases hr
  ·cases hr
 | _=>exact ev_all fun _=>hr
theorem opsR_snd:∀{ops:List PIns} {s:St} {r:Ex×St},opsR (runL PP prims) ops s=some r→Ev fun m=>opsR (run PP prims m) ops s=some r
 | [],_,_,hr=>ev_all fun _=>hr
 | o :: ops,s,r,hr=>by
  simp only [opsR] at hr ⊢
  split at hr
  ·rename_i hw
   cases ho:opR (runL PP prims) o s with
   | none=>rw [ho] at hr; cases hr
   | some x =>
    obtain ⟨e,s1⟩:=x
    rw [ho] at hr
    cases e with
    | normal=>exact ev_mono (ev2 (opR_snd ho) (opsR_snd hr)) fun m ⟨h1,h2⟩=>by simp only [h1]; exact h2
    | _=>exact ev_mono (opR_snd ho) fun m h1=>by simp only [h1]; exact hr
  ·rename_i hw
   split at hr
   ·exact opsR_snd hr
   ·cases hr
  ·cases hr
theorem opsD_snd:∀{ops:List PIns} {fs:List Flag} {s:St} {r:Ex×St},opsD (runL PP prims) ops fs s=some r→Ev fun m=>opsD (run PP prims m) ops fs s=some r
 | [],_,_,_,hr=>ev_all fun _=>hr
 | o :: ops,[],s,r,hr=>by simp [opsD] at hr
 | o :: ops,f :: fs,s,r,hr=>by
  simp only [opsD] at hr ⊢
  split at hr
  ·rename_i hw
   split at hr
   ·rename_i hcl
    simp only [hw,if_pos hcl]
    cases ho:opR (runL PP prims) o { s with lo:=s.H.length } with
    | none=>rw [ho] at hr; cases hr
    | some x =>
     obtain ⟨e,s1⟩:=x
     rw [ho] at hr
     cases e with
     | normal =>
      simp only at hr
      split at hr
      ·rename_i hlo
       exact ev_mono (ev2 (opR_snd ho) (opsD_snd hr)) fun m ⟨h1,h2⟩=>by simp only [h1,if_pos hlo]; exact h2
      ·cases hr
     | _=>exact ev_mono (opR_snd ho) fun m h1=>by simp only [h1]; exact hr
   ·cases hr
  ·split at hr
   ·exact opsD_snd hr
   ·cases hr
  ·cases hr

theorem codeL_snd:∀{c:PCode} {s:St} {r:Ex×St},codeL (runL PP prims) c s=some r→Ev fun m=>codeR (run PP prims m) m c s=some r:=by
 intro c
 induction c with
 | skip=>intro s r hr; exact ev_all fun _=>hr
 | reg ops=>intro s r hr; simp only [codeL,codeR] at hr ⊢; exact opsR_snd hr
 | dreg ops fs=>intro s r hr; simp only [codeL,codeR] at hr ⊢; exact opsD_snd hr
 | seq a b iha ihb =>
  intro s r hr
  simp only [codeL,codeR] at hr ⊢
  cases hx:codeL (runL PP prims) a s with
  | none=>rw [hx] at hr; cases hr
  | some x =>
   obtain ⟨e,s1⟩:=x
   rw [hx] at hr
   cases e with
   | normal=>exact ev_mono (ev2 (iha hx) (ihb hr)) fun m ⟨h1,h2⟩=>by simp only [h1]; exact h2
   | _=>exact ev_mono (iha hx) fun m h1=>by simp only [h1]; exact hr
 | cond c a b iha ihb =>
  intro s r hr
  simp only [codeL,codeR] at hr ⊢
  split at hr
  ·rename_i h1; simp only [h1]; exact iha hr
  ·rename_i h1; simp only [h1]; exact ihb hr
  ·cases hr
 | blk id c ih =>
  intro s r hr
  simp only [codeL,codeR] at hr ⊢
  cases hx:codeL (runL PP prims) c s with
  | none=>rw [hx] at hr; cases hr
  | some x=>rw [hx] at hr; exact ev_mono (ih hx) fun m h1=>by simp only [h1]; exact hr
 | loop c ih =>
  intro s r hr
  simp only [codeL,codeR] at hr ⊢
  obtain ⟨n,hn⟩:=lim_ex hr
  have key:∀(n:Nat) (s:St),loopN (codeL (runL PP prims) c) n s=some r→Ev fun m=>loopN (codeR (run PP prims m) m c) n s=some r:=by
   intro n
   induction n with
   | zero=>intro s h; simp [loopN] at h
   | succ n ihn =>
    intro s h
    simp only [loopN] at h ⊢
    cases hx:codeL (runL PP prims) c s with
    | none=>rw [hx] at h; cases h
    | some x =>
     obtain ⟨e,s1⟩:=x
     rw [hx] at h
     cases e with
     | normal=>exact ev_mono (ev2 (ih hx) (ihn _ h)) fun m ⟨h1,h2⟩=>by simp only [h1]; exact h2
     | _=>exact ev_mono (ih hx) fun m h1=>by simp only [h1]; exact h
  obtain ⟨m0,h0⟩:=key n s hn
  exact ⟨max m0 n,fun m hm=>loopN_more (by omega) (h0 m (by omega))⟩
 | rf f ps a b iha ihb =>
  intro s r hr
  simp only [codeL,codeR] at hr ⊢
  split at hr
  ·cases hr
  ·rename_i hrnd
   simp only [if_neg hrnd]
   split at hr
   ·rename_i g args hfa
    split at hr
    ·rename_i v H lo hcall
     exact ev_mono (runL_ex hcall) fun m hm=>by simp only [hfa,hm]; exact hr
    ·cases hr
   ·cases hr
 | exit id=>intro s r hr; exact ev_all fun _=>hr
 | ret=>intro s r hr; exact ev_all fun _=>hr

noncomputable def drunL (PP:FuncId→Option PFunc)(prims:Prims)(call:CallT)(fn:Fn)(args:List Value)(H:Heap)(pv:Option Value):Option (Heap×Nat×Option Value) :=
 match fn with
 | .func f =>
  match prims f,PP f with
  | none,some pf =>
   if args.length≤pf.n then
    match (match pf.rc with
     | none=>some (args,pv)
     | some d=>if d < pf.n then some (set args d (pv.getD .nilIface),none) else none) with
    | none=>none
    | some (T,pv) =>
     match codeL call pf.body ⟨T,[],[],H,H.length,pf.n,false⟩ with
     | some (e,s) =>
      match endR e,s.D,resR s pf.res with
      | some none,[],some _=>some (s.H,s.lo,pv)
      | _,_,_=>none
     | none=>none
   else none
  | _,_=>none
 | _=>none
theorem drunL_snd {fn:Fn}{args:List Value}{H:Heap}{pv:Option Value}{r:Heap×Nat×Option Value}(hr:drunL PP prims (runL PP prims) fn args H pv=some r):Ev fun m=>drun PP prims (run PP prims m) m fn args H pv=some r:=by
 cases fn with
 | func f =>
  simp only [drunL,drun] at hr ⊢
  cases hp:prims f with
  | some g=>rw [hp] at hr; cases hr
  | none =>
   rw [hp] at hr
   cases hpp:PP f with
   | none=>rw [hpp] at hr; cases hr
   | some pf =>
    rw [hpp] at hr
    simp only at hr ⊢
    split at hr
    ·rename_i hn
     simp only [if_pos hn]
     have fin:∀(T:List Value) (pv':Option Value),(match codeL (runL PP prims) pf.body ⟨T,[],[],H,H.length,pf.n,false⟩ with
       | some (e,s)=>(match endR e,s.D,resR s pf.res with | some none,[],some _=>some (s.H,s.lo,pv') | _,_,_=>none)
       | none=>none)=some r→Ev fun m=>(match codeR (run PP prims m) m pf.body ⟨T,[],[],H,H.length,pf.n,false⟩ with
       | some (e,s)=>(match endR e,s.D,resR s pf.res with | some none,[],some _=>some (s.H,s.lo,pv') | _,_,_=>none)
       | none=>none)=some r:=by
      intro T pv' hr
      cases hc:codeL (runL PP prims) pf.body ⟨T,[],[],H,H.length,pf.n,false⟩ with
      | none=>rw [hc] at hr; cases hr
      | some x =>
       rw [hc] at hr
       exact ev_mono (codeL_snd hc) fun m hm=>by simp only [hm]; exact hr
     cases hrc:pf.rc with
     | none=>rw [hrc] at hr; exact fin _ _ hr
     | some d =>
      rw [hrc] at hr
      by_cases hd:d < pf.n
      ·simp only [if_pos hd] at hr ⊢; exact fin _ _ hr
      ·simp only [if_neg hd] at hr; cases hr
    ·cases hr
 | _=>simp [drunL] at hr
noncomputable def unwL (PP:FuncId→Option PFunc)(prims:Prims)(call:CallT):List PD→Option Value→St→Option (Option Value×St)
 | [],pv,s=>some (pv,s)
 | .call fn args :: ds,pv,s =>
  match drunL PP prims call fn args s.H pv with
  | some (H,lo,pv)=>unwL PP prims call ds pv { s with H:=H,lo:=min s.lo lo }
  | none=>none
 | .coll r :: ds,pv,s =>
  match s.H[r]? with
  | some ⟨.dfr false,true,true,none⟩=>unwL PP prims call ds pv (setB s r (.dfr true))
  | _=>none
theorem unwL_snd:∀{ds:List PD} {pv:Option Value} {s:St} {r:Option Value×St},unwL PP prims (runL PP prims) ds pv s=some r→Ev fun m=>unw PP prims (run PP prims m) m ds pv s=some r
 | [],_,_,_,hr=>ev_all fun _=>hr
 | .call fn args :: ds,pv,s,r,hr=>by
  simp only [unwL,unw] at hr ⊢
  split at hr
  ·rename_i H lo pv' hd
   exact ev_mono (ev2 (drunL_snd hd) (unwL_snd hr)) fun m ⟨h1,h2⟩=>by simp only [h1]; exact h2
  ·cases hr
 | .coll i :: ds,pv,s,r,hr=>by
  simp only [unwL,unw] at hr ⊢
  split at hr
  ·rename_i hH
   simp only [hH]
   exact unwL_snd hr
  ·cases hr

noncomputable def bodyL (PP:FuncId→Option PFunc)(prims:Prims)(pf:PFunc)(args:List Value)(H:Heap):Option Out :=
 match codeL (runL PP prims) pf.body ⟨args,[],[],H,H.length,pf.n,false⟩ with
 | some (e,s) =>
  match endR e with
  | none=>none
  | some pv =>
   match unwL PP prims (runL PP prims) s.D pv s with
   | some (some v,s)=>some (gcR H (.panic v) s.H s.lo)
   | some (none,s)=>(resR s pf.res).map fun vs=>gcR H (.ok (resV vs)) s.H s.lo
   | none=>none
 | none=>none
theorem runL_func {f:FuncId}{pf:PFunc}(hp:prims f=none)(hPP:PP f=some pf){args:List Value}(hn:args.length≤pf.n)(hrc:pf.rc=none){H:Heap}{out:Out}(h:bodyL PP prims pf args H=some out):runL PP prims (.func f) args H=some out:=by
 unfold bodyL at h
 cases hc:codeL (runL PP prims) pf.body ⟨args,[],[],H,H.length,pf.n,false⟩ with
 | none=>rw [hc] at h; cases h
 | some x =>
  obtain ⟨e,s⟩:=x
  rw [hc] at h
  simp only at h
  cases hpv:endR e with
  | none=>rw [hpv] at h; cases h
  | some pv =>
   rw [hpv] at h
   simp only at h
   cases hu:unwL PP prims (runL PP prims) s.D pv s with
   | none=>rw [hu] at h; cases h
   | some y =>
    rw [hu] at h
    obtain ⟨m0,h0⟩:=ev2 (codeL_snd hc) (unwL_snd hu)
    obtain ⟨h1,h2⟩:=h0 m0 (Nat.le_refl _)
    refine runL_of (m:=m0+1) ?_
    rw [run]
    simp only [hp,hPP,hrc]
    rw [if_pos ⟨hn,rfl⟩]
    simp only [h1,hpv,h2]
    exact h
theorem runL_prim {f:FuncId}{g:List Value→Heap→Option Out}(hp:prims f=some g){args:List Value}{H:Heap}{out:Out}(h:g args H=some out):runL PP prims (.func f) args H=some out:=by
 refine runL_of (m:=1) ?_
 rw [run]; simp only [hp]; exact h

noncomputable def yieldL (PP:FuncId→Option PFunc)(prims:Prims)(l:Nat)(args:List Value)(H:Heap):Option Out :=
  match H[l]? with
  | some ⟨.loop n T ps as bd d .ready pend,true,true,none⟩ =>
   if args.length=ps.length∧ps.all (· < n)=true then
    match codeL (runL PP prims) as ⟨setParams T ps args,[],[],H,H.length,n,true⟩ with
    | some (.normal,s) =>
     match s.H[l]? with
     | some ⟨.loop n T ps as bd' d .ready pend,true,true,none⟩ =>
      match codeL (runL PP prims) bd (setB s l (.loop n T ps as bd' d .busy pend)) with
      | some (.panic _,_)=>none
      | some (e,s) =>
       match s.H[l]? with
       | some ⟨.loop n T ps as bd d _ _,true,true,none⟩ =>
        let (st,pd,b):LoopState×Option Ex×Bool:=match e with | .normal=>(.ready,none,true) | e=>(.done,some e,false)
        some ⟨.ok (.bool b),s.H.set l { obj:=.loop n T ps as bd d st pd },min s.lo l⟩
       | _=>none
      | none=>none
     | _=>none
    | _=>none
   else none
  | _=>none
theorem runL_yield {l:Nat}{args:List Value}{H:Heap}{out:Out}(h:yieldL PP prims l args H=some out):runL PP prims (.yield l) args H=some out:=by
 unfold yieldL at h
 split at h
 ·rename_i nn T ps as bd d pend hH
  split at h
  ·rename_i hlen
   split at h
   ·rename_i s1 hc1
    split at h
    ·rename_i n2 T2 ps2 as2 bd2 d2 pend2 hH2
     split at h
     ·cases h
     ·rename_i e s2 hnp hc2
      obtain ⟨m0,h0⟩:=ev2 (codeL_snd hc1) (codeL_snd hc2)
      obtain ⟨h1,h2⟩:=h0 m0 (Nat.le_refl _)
      refine runL_of (m:=m0+1) ?_
      rw [run]
      simp only [hH,if_pos hlen,h1,hH2,h2]
      split at h
      ·rename_i n3 T3 ps3 as3 bd3 d3 st3 pend3 hH3
       cases e <;> first | exact absurd rfl (hnp _) | (simp only [hH3]; exact h)
      ·cases h
     ·cases h
    ·cases h
   ·cases h
  ·cases h
 ·cases h

end
end Go.Pi.L
namespace Go.Pi.L
open Go Go.Pi

inductive It
 | code (c:PCode)
 | ops (l:List PIns)
 | dops (l:List PIns) (fs:List Flag)
 | blk (id:Nat)
 | fix (lo len:Nat) (hb:Bool)
 | loop (c:PCode)

section
variable {PP:FuncId→Option PFunc} {prims:Prims} {α:Type}

noncomputable def mach (call:CallT)(F:Ex→St→Option α):List It→Option Nat→St→Option α
 | [],none,s=>F .normal s
 | [],some i,s=>F (.exit i) s
 | .blk _ :: k,none,s=>mach call F k none s
 | .blk j :: k,some i,s=>if i=j then mach call F k none s else mach call F k (some i) s
 | .code c :: k,none,s =>
  match codeL call c s with
  | some (.normal,s1)=>mach call F k none s1
  | some (.exit i,s1)=>mach call F k (some i) s1
  | some (e,s1)=>F e s1
  | none=>none
 | .loop c :: k,none,s =>
  match loopL (codeL call c) s with
  | some (.normal,s1)=>mach call F k none s1
  | some (.exit i,s1)=>mach call F k (some i) s1
  | some (e,s1)=>F e s1
  | none=>none
 | .loop _ :: k,some i,s=>mach call F k (some i) s
 | .ops l :: k,none,s =>
  match opsR call l s with
  | some (.normal,s1)=>mach call F k none s1
  | some (e,s1)=>F e s1
  | none=>none
 | .dops l fs :: k,none,s =>
  match opsD call l fs s with
  | some (.normal,s1)=>mach call F k none s1
  | some (e,s1)=>F e s1
  | none=>none
 | .fix lo len hb :: k,none,s=>if len≤s.lo∨hb=true then mach call F k none { s with lo:=min lo s.lo } else none
 | .fix _ _ _ :: k,some i,s=>mach call F k (some i) s
 | .code _ :: k,some i,s=>mach call F k (some i) s
 | .ops _ :: k,some i,s=>mach call F k (some i) s
 | .dops _ _ :: k,some i,s=>mach call F k (some i) s

variable {call:CallT} {F:Ex→St→Option α} {k:List It} {s:St}

theorem opR_ex {o:PIns}{e:Ex}{s1:St}(h:opR call o s=some (e,s1)):e=.normal∨∃v,e=.panic v:=by
 obtain ⟨d,p,g⟩:=o
 have hp:∀{s2:St} {d:Option Tmp} {v:Value},putO s2 d v=some (e,s1)→e=.normal∨∃v,e=.panic v:=fun h=>.inl (putO_put h).1
 have hn:∀{d:Option Tmp} {al:Option Alc},newO s d al=some (e,s1)→e=.normal∨∃v,e=.panic v:=fun {d al} h=>by
  cases al with
  | none=>cases h
  | some al=>exact hp h
 have hc:∀{f:Value} {vs:List Value},opR.callR call ⟨d,p,g⟩ s f vs=some (e,s1)→e=.normal∨∃v,e=.panic v:=fun {f vs} h=>by
  unfold opR.callR at h
  split at h
  ·split at h
   ·split at h
    ·exact hp h
    ·cases h; exact .inr ⟨_,rfl⟩
    ·cases h
   ·cases h
  ·cases h
 cases p <;> simp only [opR] at h
 case box=>exact hn h
 case alloc=>exact hn h
 case bs=>exact hn h
 case mks=>exact hn h
 case s2b=>exact hn h
 case mkm=>exact hn h
 case rng=>exact hn h
 case call=>exact hc h
 case inv =>
  split at h
  ·split at h
   ·exact hc h
   ·cases h
  ·cases h
 all_goals
  repeat' split at h
  all_goals first | exact hp h | (cases h; done) | (cases h; exact .inr ⟨_,rfl⟩) | (cases h; exact .inl rfl)

theorem k_nil:mach call F [] none s=F .normal s:=rfl
theorem k_blk (j):mach call F (.blk j :: k) none s=mach call F k none s:=rfl
theorem k_skip:mach call F (.code .skip :: k) none s=mach call F k none s:=rfl
theorem opsR_exit {l:List PIns}{s s1:St}{i:Nat}:opsR call l s≠some (.exit i,s1):=by
 intro h
 induction l generalizing s with
 | nil=>simp [opsR] at h
 | cons o l ih =>
  simp only [opsR] at h
  split at h
  ·cases ho:opR call o s with
   | none=>rw [ho] at h; cases h
   | some x =>
    obtain ⟨e,s2⟩:=x
    rw [ho] at h
    rcases opR_ex ho with rfl | ⟨v,rfl⟩
    ·exact ih h
    ·simp at h
  ·split at h
   ·exact ih h
   ·cases h
  ·cases h
theorem opsD_exit {l:List PIns}{fs:List Flag}{s s1:St}{i:Nat}:opsD call l fs s≠some (.exit i,s1):=by
 intro h
 induction l generalizing s fs with
 | nil=>simp [opsD] at h
 | cons o l ih =>
  cases fs with
  | nil=>simp [opsD] at h
  | cons f fs =>
   simp only [opsD] at h
   split at h
   ·split at h
    ·cases ho:opR call o { s with lo:=s.H.length } with
     | none=>rw [ho] at h; cases h
     | some x =>
      obtain ⟨e,s2⟩:=x
      rw [ho] at h
      rcases opR_ex ho with rfl | ⟨v,rfl⟩
      ·simp only at h
       split at h
       ·exact ih h
       ·cases h
      ·simp only at h
       split at h <;> simp at h
    ·cases h
   ·split at h
    ·exact ih h
    ·cases h
   ·cases h
theorem k_reg (l):mach call F (.code (.reg l) :: k) none s=mach call F (.ops l :: k) none s:=by
 simp only [mach,codeL]
 cases h:opsR call l s with
 | none=>rfl
 | some x =>
  obtain ⟨e,s1⟩:=x
  cases e with
  | exit i=>exact absurd h opsR_exit
  | _=>rfl
theorem k_dreg (l fs):mach call F (.code (.dreg l fs) :: k) none s=mach call F (.dops l fs :: k) none s:=by
 simp only [mach,codeL]
 cases h:opsD call l fs s with
 | none=>rfl
 | some x =>
  obtain ⟨e,s1⟩:=x
  cases e with
  | exit i=>exact absurd h opsD_exit
  | _=>rfl
theorem k_seq (a b):mach call F (.code (.seq a b) :: k) none s=mach call F (.code a :: .code b :: k) none s:=by
 simp only [mach,codeL]
 cases codeL call a s with
 | none=>rfl
 | some x=>obtain ⟨e,s1⟩:=x; cases e <;> rfl
theorem k_cblk (j c):mach call F (.code (.blk j c) :: k) none s=mach call F (.code c :: .blk j :: k) none s:=by
 simp only [mach,codeL]
 cases codeL call c s with
 | none=>rfl
 | some x =>
  obtain ⟨e,s1⟩:=x
  cases e with
  | exit i=>by_cases h:i=j <;> simp [h]
  | _=>rfl

theorem k_loop (c):mach call F (.code (.loop c) :: k) none s=mach call F (.loop c :: k) none s:=rfl
theorem l_succ (c):mach call F (.loop c :: k) none s=mach call F (.code c :: .loop c :: k) none s:=by
 simp only [mach]
 rw [loopL_succ]
 cases codeL call c s with
 | none=>rfl
 | some x=>obtain ⟨e,s1⟩:=x; cases e <;> rfl
theorem x_loop (i c):mach call F (.loop c :: k) (some i) s=mach call F k (some i) s:=rfl

noncomputable def bra (call:CallT)(F:Ex→St→Option α)(v:Value)(a b:PCode)(k:List It)(s:St):Option α :=
 match v with
 | .bool true=>mach call F (.code a :: k) none s
 | .bool false=>mach call F (.code b :: k) none s
 | _=>none
theorem k_cond (c a b):mach call F (.code (.cond c a b) :: k) none s=bra call F (ev s.T c) a b k s:=by
 simp only [mach,codeL,bra]
 cases ev s.T c with
 | bool x=>cases x <;> rfl
 | _=>rfl
theorem bra_t (a b):bra call F (.bool true) a b k s=mach call F (.code a :: k) none s:=rfl
theorem bra_f (a b):bra call F (.bool false) a b k s=mach call F (.code b :: k) none s:=rfl
theorem k_ret:mach call F (.code .ret :: k) none s=F .ret s:=rfl
theorem k_exit (i):mach call F (.code (.exit i) :: k) none s=mach call F k (some i) s:=rfl
theorem x_blk (i):mach call F (.blk i :: k) (some i) s=mach call F k none s:=by simp [mach]
theorem x_blk' (i j)(h:i≠j):mach call F (.blk j :: k) (some i) s=mach call F k (some i) s:=by simp [mach,h]
theorem x_code (i c):mach call F (.code c :: k) (some i) s=mach call F k (some i) s:=rfl
noncomputable def nxt (call:CallT)(F:Ex→St→Option α)(v:Option Value)(d:Option Tmp)(k:List It)(s:St):Option α :=
 match v with
 | some v=>(match put s d v with | some s=>mach call F k none s | none=>none)
 | none=>none

noncomputable def go (call:CallT)(F:Ex→St→Option α)(d:Option Tmp)(p:POp)(k:List It)(s:St):Option α :=
 match opR call ⟨d,p,none⟩ s with
 | some (.normal,s1)=>mach call F k none s1
 | some (e,s1)=>F e s1
 | none=>none

noncomputable def gd (call:CallT)(F:Ex→St→Option α)(w:Option Bool)(d:Option Tmp)(p:POp)(k:List It)(s:St):Option α :=
 match w with
 | some true=>go call F d p k s
 | some false=>nxt call F (some undef) d k s
 | none=>none

theorem o_nil:mach call F (.ops [] :: k) none s=mach call F k none s:=rfl
theorem o_go (d p r):mach call F (.ops (⟨d,p,none⟩ :: r) :: k) none s=go call F d p (.ops r :: k) s:=by
 simp only [mach,opsR,wanted,go]
 cases opR call ⟨d,p,none⟩ s with
 | none=>rfl
 | some x=>obtain ⟨e,s1⟩:=x; cases e <;> rfl
theorem opR_guard (d p g):opR call ⟨d,p,g⟩ s=opR call ⟨d,p,none⟩ s:=by cases p <;> rfl
theorem o_if (d p t w r):mach call F (.ops (⟨d,p,some (t,w)⟩ :: r) :: k) none s=gd call F (wanted ⟨d,p,some (t,w)⟩ s.T) d p (.ops r :: k) s:=by
 simp only [mach,opsR,gd,go,nxt]
 cases wanted ⟨d,p,some (t,w)⟩ s.T with
 | none=>rfl
 | some b =>
  cases b with
  | true =>
   simp only
   rw [opR_guard]
   cases opR call ⟨d,p,none⟩ s with
   | none=>rfl
   | some x=>obtain ⟨e,s1⟩:=x; cases e <;> rfl
  | false =>
   simp only
   cases put s d undef <;> rfl
theorem gd_t (d p):gd call F (some true) d p k s=go call F d p k s:=rfl
theorem gd_f (d p):gd call F (some false) d p k s=nxt call F (some undef) d k s:=rfl
theorem n_some (v d T S D H lo n rnd)(h:d < n):nxt call F (some v) (some d) k ⟨T,S,D,H,lo,n,rnd⟩=mach call F k none ⟨set T d v,S,D,H,lo,n,rnd⟩:=by simp only [nxt,put,if_pos h]
theorem n_none (v):nxt call F (some v) none k s=mach call F k none s:=rfl

theorem go_putO {d:Option Tmp}{v:Value}{s2:St}:(match putO s2 d v with | some (.normal,s1)=>mach call F k none s1 | some (e,s1)=>F e s1 | none=>none)=nxt call F (some v) d k s2:=by
 simp only [putO,nxt]
 cases put s2 d v <;> rfl

theorem g_v (d f xs):go call F d (.v f xs) k s=nxt call F (vv f (xs.map (ev s.T))) d k s:=by
 simp only [go,opR,vv]
 by_cases hc:(f.addr||(xs.map (ev s.T)).all (fun v=>!isLoc v))=true
 ·simp only [if_pos hc]
  cases h:f.ev (xs.map (ev s.T)) with
  | none=>rfl
  | some v=>exact go_putO
 ·simp only [if_neg hc]; rfl

theorem g_ld (d n a):go call F d (.ld n a) k s=nxt call F (rdv s n (ev s.T a)) d k s:=by
 simp only [go,opR,rdv]
 cases ev s.T a with
 | pointer p =>
  cases p with
  | none=>rfl
  | some p =>
   simp only
   cases cellsAt s p with
   | none=>rfl
   | some c =>
    simp only [Option.bind_some]
    cases rd c p.off n with
    | none=>rfl
    | some v=>exact go_putO
 | _=>rfl

noncomputable def sto (call:CallT)(F:Ex→St→Option α)(n:Nat)(a v:Value)(d:Option Tmp)(k:List It)(s:St):Option α :=
 match a with
 | .pointer (some p) =>
  if isLoc v||v.cells.size != n||!v.cells.toList.all one then none else
  match stCells s p v.cells.toList with
  | some s=>nxt call F (some undef) d k s
  | none=>none
 | _=>none
theorem g_st (d n a x):go call F d (.st n a x) k s=sto call F n (ev s.T a) (ev s.T x) d k s:=by
 simp only [go,opR,sto]
 cases ev s.T a with
 | pointer p =>
  cases p with
  | none=>rfl
  | some p =>
   simp only
   by_cases hc:(isLoc (ev s.T x)||(ev s.T x).cells.size != n||!(ev s.T x).cells.toList.all one)=true
   ·simp only [if_pos hc]
   ·simp only [if_neg hc]
    cases stCells s p (ev s.T x).cells.toList with
    | none=>rfl
    | some s2=>exact go_putO
 | _=>rfl

noncomputable def nlal (call:CallT)(F:Ex→St→Option α)(o:Option PObj)(v:Tmp→Nat→Value)(d:Option Tmp)(k:List It)(s:St):Option α :=
 match o,d with
 | some o,some d=>nxt call F (some (v d ((sget s.S d).1+1))) (some d) k { s with S:=sset s.S d ((sget s.S d).1+1,o) }
 | _,_=>none
theorem g_lbox (d t x):go call F d (.lbox t x) k s=nlal call F (cellsO (ev s.T x)) lptr d k s:=by
 simp only [go,opR,nlal,cellsO]
 cases d with
 | none =>
  by_cases hc:(isLoc (ev s.T x)||!(ev s.T x).cells.toList.all one)=true
  ·simp only [if_pos hc]
  ·simp only [if_neg hc]
 | some d =>
  simp only
  by_cases hc:(isLoc (ev s.T x)||!(ev s.T x).cells.toList.all one)=true
  ·simp only [if_pos hc]
  ·simp only [if_neg hc]; exact go_putO
theorem g_lalloc (d t z):go call F d (.lalloc t z) k s=nlal call F (some (.cells z.cells.toList)) lptr d k s:=by
 simp only [go,opR,nlal]
 cases d with
 | none=>rfl
 | some d=>exact go_putO
theorem g_lbs (d t kk zero len ps):go call F d (.lbs t kk zero len ps) k s=nlal call F ((bsO kk zero len (ps.map fun p=>(p.1*kk,kk)) (ps.map fun p=>ev s.T p.2)).map .cells) (fun d g=>.slice (some ⟨d,0,some g⟩) len 0) d k s:=by
 simp only [go,opR,nlal,bsO]
 cases d with
 | none =>
  by_cases hc:((ps.map fun p=>ev s.T p.2).all fun v=>!isLoc v)=true
  ·simp only [if_pos hc]; cases fillP (rep len zero) (ps.map fun p=>(p.1*kk,kk)) (ps.map fun p=>ev s.T p.2) <;> rfl
  ·simp only [if_neg hc]; rfl
 | some d =>
  simp only
  by_cases hc:((ps.map fun p=>ev s.T p.2).all fun v=>!isLoc v)=true
  ·simp only [if_pos hc]
   cases fillP (rep len zero) (ps.map fun p=>(p.1*kk,kk)) (ps.map fun p=>ev s.T p.2) with
   | none=>rfl
   | some c=>exact go_putO
  ·simp only [if_neg hc]; rfl

noncomputable def nnew (call:CallT)(F:Ex→St→Option α)(al:Option Alc)(d:Option Tmp)(k:List It)(s:St):Option α :=
 match al with
 | some a=>nxt call F (some (a.val s.H.length)) d k { s with H:=s.H++[a.blk s.H.length] }
 | none=>none
theorem go_new {d:Option Tmp}{al:Option Alc}:(match newO s d al with | some (.normal,s1)=>mach call F k none s1 | some (e,s1)=>F e s1 | none=>none)=nnew call F al d k s:=by
 cases al with
 | none=>rfl
 | some a=>exact go_putO
theorem g_box (d t x):go call F d (.box t x) k s=nnew call F (boxA (ev s.T x)) d k s:=go_new
theorem g_alloc (d t z):go call F d (.alloc t z) k s=nnew call F (some ⟨.cells z.cells.toList,false,ptrA⟩) d k s:=by
 simp only [go,opR]; exact go_new
theorem g_bs (d t kk zero len ps):go call F d (.bs t kk zero len ps) k s=nnew call F (bsA kk zero len ps s.T) d k s:=go_new
theorem g_mks (d t kk zero b l c):go call F d (.mks t kk zero b l c) k s=nnew call F (mksA kk zero b (ev s.T l) (ev s.T c)) d k s:=go_new
theorem g_mkm (d sh):go call F d (.mkm sh) k s=nnew call F (some ⟨.map sh [],false,fun k=>.map (some k)⟩) d k s:=by
 simp only [go,opR]; exact go_new

noncomputable def ret (call:CallT)(F:Ex→St→Option α)(o:Option Out)(d:Option Tmp)(k:List It)(s:St):Option α :=
 match o with
 | some ⟨.ok v,H,lo⟩=>nxt call F (some v) d k { s with H:=H,lo:=min s.lo lo }
 | some ⟨.panic v,H,lo⟩=>F (.panic v) { s with H:=H,lo:=min s.lo lo }
 | none=>none
noncomputable def cal (call:CallT)(F:Ex→St→Option α)(fa:Option (Fn×List Value))(d:Option Tmp)(k:List It)(s:St):Option α :=
 match fa with
 | some (fn,args)=>ret call F (call fn args s.H) d k s
 | none=>none
theorem go_callR {d:Option Tmp}{p:POp}{g:Option (Tmp×Bool)}{f:Value}{vs:List Value}:(match opR.callR call ⟨d,p,g⟩ s f vs with | some (.normal,s1)=>mach call F k none s1 | some (e,s1)=>F e s1 | none=>none)=cal call F (fargs f vs) d k s:=by
 simp only [opR.callR,cal,fargs]
 by_cases hc:(vs.all fun v=>!isLoc v)=true
 ·simp only [if_pos hc]
  cases fnArgs f vs with
  | none=>rfl
  | some x =>
   obtain ⟨fn,args⟩:=x
   simp only [ret]
   cases call fn args s.H with
   | none=>rfl
   | some out =>
    obtain ⟨r,H,lo⟩:=out
    cases r with
    | ok v=>exact go_putO
    | panic v=>rfl
 ·simp only [if_neg hc]
theorem g_call (d f xs):go call F d (.call f xs) k s=cal call F (fargs (ev s.T f) (xs.map (ev s.T))) d k s:=go_callR
theorem c_some (fn args d):cal call F (some (fn,args)) d k s=ret call F (call fn args s.H) d k s:=rfl
theorem r_ok (v H lo T S D H0 lo0 n rnd d):ret call F (some ⟨.ok v,H,lo⟩) d k ⟨T,S,D,H0,lo0,n,rnd⟩=nxt call F (some v) d k ⟨T,S,D,H,min lo0 lo,n,rnd⟩:=rfl
theorem r_panic (v H lo T S D H0 lo0 n rnd d):ret call F (some ⟨.panic v,H,lo⟩) d k ⟨T,S,D,H0,lo0,n,rnd⟩=F (.panic v) ⟨T,S,D,H,min lo0 lo,n,rnd⟩:=rfl
noncomputable def dfv (call:CallT)(F:Ex→St→Option α)(fa:Option (Fn×List Value))(d:Option Tmp)(k:List It)(s:St):Option α :=
 match fa with
 | some (.func g,args)=>if s.rnd then none else nxt call F (some undef) d k { s with D:=.call (.func g) args :: s.D }
 | _=>none
theorem g_dfr (d f xs):go call F d (.dfr f xs) k s=dfv call F (fargs (ev s.T f) (xs.map (ev s.T))) d k s:=by
 simp only [go,opR,dfv,fargs]
 by_cases hl:((xs.map (ev s.T)).all fun v=>!isLoc v)=true
 ·cases hr:s.rnd with
  | true =>
   simp only [hl,hr,Bool.true_or,if_true]
   cases fnArgs (ev s.T f) (xs.map (ev s.T)) with
   | none=>rfl
   | some x=>obtain ⟨g,args⟩:=x; cases g <;> rfl
  | false =>
   simp only [hl,hr,Bool.not_true,Bool.or_self,Bool.false_eq_true,if_false,if_true]
   cases fnArgs (ev s.T f) (xs.map (ev s.T)) with
   | none=>rfl
   | some x =>
    obtain ⟨g,args⟩:=x
    cases g with
    | func g=>exact go_putO
    | _=>rfl
 ·have:((xs.map (ev s.T)).all fun v=>!isLoc v)=false:=by simpa using hl
  simp [this]
theorem dfv_some (g args d T S D H lo n):dfv call F (some (.func g,args)) d k ⟨T,S,D,H,lo,n,false⟩=nxt call F (some undef) d k ⟨T,S,.call (.func g) args :: D,H,lo,n,false⟩:=rfl
def pan (F:Ex→St→Option α)(v:Value)(s:St):Option α:=match v with | .iface t v=>F (.panic (.iface t v)) s | _=>none
theorem g_pnc (d x):go call F d (.pnc x) k s=pan F (ev s.T x) s:=by
 simp only [go,opR,pan]
 cases ev s.T x <;> rfl

theorem k_fix (lo len hb T S D H l n rnd)(h:len≤l):mach call F (.fix lo len hb :: k) none ⟨T,S,D,H,l,n,rnd⟩=mach call F k none ⟨T,S,D,H,min lo l,n,rnd⟩:=by
 simp only [mach]; rw [if_pos (.inl h)]
theorem k_fixb (lo len T S D H l n rnd):mach call F (.fix lo len true :: k) none ⟨T,S,D,H,l,n,rnd⟩=mach call F k none ⟨T,S,D,H,min lo l,n,rnd⟩:=by
 simp only [mach]; rw [if_pos (.inr trivial)]
theorem d_nil (fs):mach call F (.dops [] fs :: k) none s=mach call F k none s:=rfl
noncomputable def goD (call:CallT)(F:Ex→St→Option α)(d:Option Tmp)(p:POp)(f:Flag)(k:List It)(s:St):Option α :=
 if clsOk ⟨d,p,none⟩ f.cls s=true then
  match opR call ⟨d,p,none⟩ { s with lo:=s.H.length } with
  | some (.normal,s1)=>if (s.H.length≤s1.lo∨f.hb=true)∨KeptC p s.H s1.H then mach call F k none { s1 with lo:=min s.lo s1.lo } else none
  | some (e,s1)=>(match f.tb with | some ds=>F e { s1 with T:=wipe ds s1.T,lo:=min s.lo s1.lo } | none=>none)
  | none=>none
 else none
noncomputable def gdD (call:CallT)(F:Ex→St→Option α)(w:Option Bool)(d:Option Tmp)(p:POp)(f:Flag)(k:List It)(s:St):Option α :=
 match w with
 | some true=>goD call F d p f k s
 | some false=>nxt call F (some undef) d k s
 | none=>none
theorem gdD_t (d p f):gdD call F (some true) d p f k s=goD call F d p f k s:=rfl
theorem gdD_f (d p f):gdD call F (some false) d p f k s=nxt call F (some undef) d k s:=rfl
theorem d_go (d p r f fs):mach call F (.dops (⟨d,p,none⟩ :: r) (f :: fs) :: k) none s=goD call F d p f (.dops r fs :: k) s:=by
 simp only [mach,opsD,wanted,goD]
 by_cases hc:clsOk ⟨d,p,none⟩ f.cls s=true
 ·simp only [if_pos hc]
  cases opR call ⟨d,p,none⟩ { s with lo:=s.H.length } with
  | none=>rfl
  | some x =>
   obtain ⟨e,s1⟩:=x
   cases e with
   | normal =>
    simp only
    by_cases hl:(s.H.length≤s1.lo∨f.hb=true)∨KeptC p s.H s1.H
    ·simp only [if_pos hl]
    ·simp only [if_neg hl]
   | _ =>
    simp only
    cases f.tb <;> rfl
 ·simp only [if_neg hc]
theorem d_if (d p t w r f fs):mach call F (.dops (⟨d,p,some (t,w)⟩ :: r) (f :: fs) :: k) none s=gdD call F (wanted ⟨d,p,some (t,w)⟩ s.T) d p f (.dops r fs :: k) s:=by
 simp only [mach,opsD,gdD]
 cases wanted ⟨d,p,some (t,w)⟩ s.T with
 | none=>rfl
 | some b =>
  cases b with
  | true =>
   simp only [goD]
   rw [clsOk_g,opR_guard]
   by_cases hc:clsOk ⟨d,p,none⟩ f.cls s=true
   ·simp only [if_pos hc]
    cases opR call ⟨d,p,none⟩ { s with lo:=s.H.length } with
    | none=>rfl
    | some x =>
     obtain ⟨e,s1⟩:=x
     cases e with
     | normal =>
      simp only
      by_cases hl:(s.H.length≤s1.lo∨f.hb=true)∨KeptC p s.H s1.H
      ·simp only [if_pos hl]; rfl
      ·simp only [if_neg hl]
     | _ =>
      simp only
      cases f.tb <;> rfl
   ·simp only [if_neg hc]
  | false =>
   simp only [nxt]
   cases put s d undef <;> rfl
theorem goD_go (d p f T S D H lo n rnd)(hc:clsOk ⟨d,p,none⟩ f.cls ⟨T,S,D,H,lo,n,rnd⟩=true)(hp:match p with | .call _ _ | .inv _ _ _ | .pnc _=>False | _=>True) :
  goD call F d p f k ⟨T,S,D,H,lo,n,rnd⟩=go call F d p (.fix lo H.length f.hb :: k) ⟨T,S,D,H,H.length,n,rnd⟩:=by
 have key:∀{e s1},opR call ⟨d,p,none⟩ ⟨T,S,D,H,H.length,n,rnd⟩=some (e,s1)→e=.normal:=by
  intro e s1 h
  rcases opR_ex h with rfl | ⟨v,rfl⟩
  ·rfl
  ·exfalso
   have hpu:∀{s2:St} {d:Option Tmp} {v':Value},putO s2 d v'≠some (.panic v,s1):=fun h=>by have:=(putO_put h).1; cases this
   have hn:∀{s2:St} {d:Option Tmp} {al:Option Alc},newO s2 d al≠some (.panic v,s1):=fun {s2 d al} h=>by
    cases al with
    | none=>cases h
    | some al=>exact hpu h
   cases p <;> simp only [opR] at h hp
   case box=>exact hn h
   case alloc=>exact hn h
   case bs=>exact hn h
   case mks=>exact hn h
   case s2b=>exact hn h
   case mkm=>exact hn h
   case rng=>exact hn h
   all_goals
    repeat' split at h
    all_goals first | exact hpu h | (cases h; done)
 simp only [goD,if_pos hc,go]
 cases h:opR call ⟨d,p,none⟩ ⟨T,S,D,H,H.length,n,rnd⟩ with
 | none=>rfl
 | some x =>
  obtain ⟨e,s1⟩:=x
  have he:=key h
  subst he
  have hn:¬KeptC p H s1.H:=fun h=>by
   have:=h.1
   cases p <;> simp [isCallP] at this
   exact hp
  simp only [mach,hn,or_false]
noncomputable def retD (call:CallT)(F:Ex→St→Option α)(o:Option Out)(f:Flag)(d:Option Tmp)(k:List It)(s:St):Option α :=
 match o with
 | some ⟨.ok v,H,lo⟩=>if (s.H.length≤min s.H.length lo∨f.hb=true)∨Kept s.H H then nxt call F (some v) d k { s with H:=H,lo:=min s.lo (min s.H.length lo) } else none
 | some ⟨.panic v,H,lo⟩=>(match f.tb with | some ds=>F (.panic v) { s with T:=wipe ds s.T,H:=H,lo:=min s.lo (min s.H.length lo) } | none=>none)
 | none=>none
theorem keptC_call (f:Operand)(xs:List Operand)(H H1:Heap)(hf:isCallP (.call f xs)=true):KeptC (.call f xs) H H1=Kept H H1:=by simp [KeptC,hf]
theorem goD_call (d f xs c hb tb)(hf:isCallP (.call f xs)=true):goD call F d (.call f xs) ⟨c,hb,tb⟩ k s=if c=1 then (match fargs (ev s.T f) (xs.map (ev s.T)) with | some (fn,args)=>retD call F (call fn args s.H) ⟨c,hb,tb⟩ d k s | none=>none) else none:=by
 simp only [goD,clsOk,beq_iff_eq]
 by_cases hc:c=1
 ·simp only [if_pos hc,opR,opR.callR,fargs]
  by_cases hl:((xs.map (ev s.T)).all fun v=>!isLoc v)=true
  ·simp only [if_pos hl]
   cases fnArgs (ev s.T f) (xs.map (ev s.T)) with
   | none=>rfl
   | some x =>
    obtain ⟨fn,args⟩:=x
    simp only
    cases call fn args s.H with
    | none=>rfl
    | some out =>
     obtain ⟨r,H,lo⟩:=out
     cases r with
     | ok v =>
      simp only [retD,putO,nxt,keptC_call _ _ _ _ hf]
      cases d with
      | none=>simp only [put,Option.map]
      | some d =>
       simp only [put]
       by_cases hd:d < s.n
       ·simp only [if_pos hd,Option.map]
       ·simp only [if_neg hd,Option.map]; split <;> rfl
     | panic v=>rfl
  ·simp only [if_neg hl]
 ·simp only [if_neg hc]

theorem goD_v (d f xs hb tb T S D H lo n rnd):goD call F d (.v f xs) ⟨0,hb,tb⟩ k ⟨T,S,D,H,lo,n,rnd⟩=nxt call F (vv f (xs.map (ev T))) d k ⟨T,S,D,H,min lo H.length,n,rnd⟩:=by
 rw [goD_go _ _ _ _ _ _ _ _ _ _ rfl trivial,g_v]
 simp only [nxt]
 cases vv f (xs.map (ev T)) with
 | none=>rfl
 | some v =>
  simp only
  cases d with
  | none=>simp only [put]; rw [k_fix _ _ _ _ _ _ _ _ _ _ (Nat.le_refl _)]
  | some d =>
   simp only [put]
   by_cases hd:d < n
   ·simp only [if_pos hd]; rw [k_fix _ _ _ _ _ _ _ _ _ _ (Nat.le_refl _)]
   ·simp only [if_neg hd]
theorem goD_ld (d nn a c hb tb T S D H lo n rnd)(h:ldc c (ev T a)=true):goD call F d (.ld nn a) ⟨c,hb,tb⟩ k ⟨T,S,D,H,lo,n,rnd⟩=nxt call F (rdv ⟨T,S,D,H,lo,n,rnd⟩ nn (ev T a)) d k ⟨T,S,D,H,min lo H.length,n,rnd⟩:=by
 have h':clsOk ⟨d,.ld nn a,none⟩ (Flag.cls ⟨c,hb,tb⟩) ⟨T,S,D,H,lo,n,rnd⟩=true:=h
 rw [goD_go _ _ _ _ _ _ _ _ _ _ h' trivial,g_ld]
 have hr:rdv ⟨T,S,D,H,H.length,n,rnd⟩ nn (ev T a)=rdv ⟨T,S,D,H,lo,n,rnd⟩ nn (ev T a):=rfl
 simp only [nxt]
 show (match rdv ⟨T,S,D,H,H.length,n,rnd⟩ nn (ev T a) with | some v=>_ | none=>none)=_
 rw [hr]
 cases rdv ⟨T,S,D,H,lo,n,rnd⟩ nn (ev T a) with
 | none=>rfl
 | some v =>
  simp only
  cases d with
  | none=>simp only [put]; rw [k_fix _ _ _ _ _ _ _ _ _ _ (Nat.le_refl _)]
  | some d =>
   simp only [put]
   by_cases hd:d < n
   ·simp only [if_pos hd]; rw [k_fix _ _ _ _ _ _ _ _ _ _ (Nat.le_refl _)]
   ·simp only [if_neg hd]
theorem goD_st (d nn a x c hb tb T S D H lo n rnd)(h:ldc c (ev T a)=true):goD call F d (.st nn a x) ⟨c,hb,tb⟩ k ⟨T,S,D,H,lo,n,rnd⟩=sto call F nn (ev T a) (ev T x) d (.fix lo H.length hb :: k) ⟨T,S,D,H,H.length,n,rnd⟩:=by
 have h':clsOk ⟨d,.st nn a x,none⟩ (Flag.cls ⟨c,hb,tb⟩) ⟨T,S,D,H,lo,n,rnd⟩=true:=h
 rw [goD_go _ _ _ _ _ _ _ _ _ _ h' trivial,g_st]
theorem goD_lbox (d t x hb tb T S D H lo n rnd):goD call F (some d) (.lbox t x) ⟨d+2,hb,tb⟩ k ⟨T,S,D,H,lo,n,rnd⟩=nlal call F (cellsO (ev T x)) lptr (some d) (.fix lo H.length hb :: k) ⟨T,S,D,H,H.length,n,rnd⟩:=by
 rw [goD_go _ _ _ _ _ _ _ _ _ _ (by simp [clsOk]) trivial,g_lbox]
theorem goD_lalloc (d t z hb tb T S D H lo n rnd):goD call F (some d) (.lalloc t z) ⟨d+2,hb,tb⟩ k ⟨T,S,D,H,lo,n,rnd⟩=nlal call F (some (.cells z.cells.toList)) lptr (some d) (.fix lo H.length hb :: k) ⟨T,S,D,H,H.length,n,rnd⟩:=by
 rw [goD_go _ _ _ _ _ _ _ _ _ _ (by simp [clsOk]) trivial,g_lalloc]
theorem goD_lbs (d t kk zero len ps hb tb T S D H lo n rnd):goD call F (some d) (.lbs t kk zero len ps) ⟨d+2,hb,tb⟩ k ⟨T,S,D,H,lo,n,rnd⟩ =
  nlal call F ((bsO kk zero len (ps.map fun p=>(p.1*kk,kk)) (ps.map fun p=>ev T p.2)).map .cells) (fun d g=>.slice (some ⟨d,0,some g⟩) len 0) (some d) (.fix lo H.length hb :: k) ⟨T,S,D,H,H.length,n,rnd⟩:=by
 rw [goD_go _ _ _ _ _ _ _ _ _ _ (by simp [clsOk]) trivial,g_lbs]
theorem goD_mks (d t kk zero b l c hb tb T S D H lo n rnd):goD call F d (.mks t kk zero b l c) ⟨1,hb,tb⟩ k ⟨T,S,D,H,lo,n,rnd⟩=nnew call F (mksA kk zero b (ev T l) (ev T c)) d (.fix lo H.length hb :: k) ⟨T,S,D,H,H.length,n,rnd⟩:=by
 rw [goD_go _ _ _ _ _ _ _ _ _ _ (by simp [clsOk]) trivial,g_mks]
theorem goD_bs (d t kk zero len ps hb tb T S D H lo n rnd):goD call F d (.bs t kk zero len ps) ⟨1,hb,tb⟩ k ⟨T,S,D,H,lo,n,rnd⟩=nnew call F (bsA kk zero len ps T) d (.fix lo H.length hb :: k) ⟨T,S,D,H,H.length,n,rnd⟩:=by
 rw [goD_go _ _ _ _ _ _ _ _ _ _ (by simp [clsOk]) trivial,g_bs]
noncomputable def calD (call:CallT)(F:Ex→St→Option α)(fa:Option (Fn×List Value))(f:Flag)(d:Option Tmp)(k:List It)(s:St):Option α :=
 match fa with
 | some (fn,args)=>retD call F (call fn args s.H) f d k s
 | none=>none
theorem goD_call0 (d f xs hb tb)(hf:isCallP (.call f xs)=true):goD call F d (.call f xs) ⟨1,hb,tb⟩ k s=calD call F (fargs (ev s.T f) (xs.map (ev s.T))) ⟨1,hb,tb⟩ d k s:=by
 rw [goD_call _ _ _ _ _ _ hf,if_pos rfl]; unfold calD
 cases fargs (ev s.T f) (xs.map (ev s.T)) <;> rfl
theorem goD_call1:(∀d g xs hb tb,goD call F d (.call (.func g) xs) ⟨1,hb,tb⟩ k s=calD call F (fargs (ev s.T (.func g)) (xs.map (ev s.T))) ⟨1,hb,tb⟩ d k s)∧(∀d t xs hb tb,goD call F d (.call (.tmp t) xs) ⟨1,hb,tb⟩ k s=calD call F (fargs (ev s.T (.tmp t)) (xs.map (ev s.T))) ⟨1,hb,tb⟩ d k s) :=
 ⟨fun d g xs hb tb=>goD_call0 d (.func g) xs hb tb rfl,fun d t xs hb tb=>goD_call0 d (.tmp t) xs hb tb rfl⟩
theorem cD_some (fn args f d):calD call F (some (fn,args)) f d k s=retD call F (call fn args s.H) f d k s:=rfl
theorem rD_ok (v H' lo' f d T S D H lo n rnd)(h:H.length≤lo'):retD call F (some ⟨.ok v,H',lo'⟩) f d k ⟨T,S,D,H,lo,n,rnd⟩=nxt call F (some v) d k ⟨T,S,D,H',min lo (min H.length lo'),n,rnd⟩:=by
 simp only [retD]; rw [if_pos (.inl (.inl (by simp only [Nat.le_min]; exact ⟨Nat.le_refl _,h⟩)))]
theorem rD_kept (v H' lo' f d T S D H lo n rnd)(h:Kept H H'):retD call F (some ⟨.ok v,H',lo'⟩) f d k ⟨T,S,D,H,lo,n,rnd⟩=nxt call F (some v) d k ⟨T,S,D,H',min lo (min H.length lo'),n,rnd⟩:=by
 simp only [retD]; rw [if_pos (.inr h)]

noncomputable def ap1 (call:CallT)(F:Ex→St→Option α)(o:Option (List Value))(x:Value)(kk:Nat)(d:Option Tmp)(k:List It)(s:St):Option α :=
 match o,x with
 | some new,.slice a l mm =>
  (match appB s kk new a l mm d with
  | some (.normal,s1)=>mach call F k none s1
  | some (e,s1)=>F e s1
  | none=>none)
 | _,_=>none
theorem g_app (d t kk x y):go call F d (.app t kk x y) k s=ap1 call F (elemsL s kk (ev s.T y)) (ev s.T x) kk d k s:=by
 simp only [go,opR,ap1]
 cases elemsL s kk (ev s.T y) with
 | none=>cases ev s.T x <;> rfl
 | some new =>
  cases ev s.T x with
  | slice a l mm=>cases a <;> rfl
  | _=>rfl
noncomputable def ap2 (call:CallT)(F:Ex→St→Option α)(b:Option Blk)(new:List Value)(p l kk:Nat)(d:Option Tmp)(k:List It)(s:St):Option α :=
 match b with
 | some ⟨.cells c,true,true,some f⟩ =>
  if new.length % kk=0∧l+new.length < small∧new.isEmpty=false∧0 < kk∧l*kk=c.length then
   nxt call F (some (.slice (some ⟨s.H.length,0,none⟩) (l+new.length / kk) kk)) d k { s with H:=s.H.set p ⟨.cells c,true,false,some f⟩++[⟨.cells (c++new),true,true,some f⟩] }
  else ap1 call F (some new) (.slice (some ⟨p,0,none⟩) l kk) kk d k s
 | _=>ap1 call F (some new) (.slice (some ⟨p,0,none⟩) l kk) kk d k s
theorem apA_tip (new p l kk d):ap1 call F (some new) (.slice (some ⟨p,0,none⟩) l kk) kk d k s=ap2 call F (s.H[p]?) new p l kk d k s:=by
 unfold ap2
 split
 ·rename_i c f hH
  by_cases hc:new.length % kk=0∧l+new.length < small∧new.isEmpty=false∧0 < kk∧l*kk=c.length
  ·rw [if_pos hc]
   obtain ⟨h1,h2,h3,h4,h5⟩:=hc
   have hop:appB s kk new (some ⟨p,0,none⟩) l kk d=putO { s with H:=s.H.set p ⟨.cells c,true,false,some f⟩++[⟨.cells (c++new),true,true,some f⟩] } d (.slice (some ⟨s.H.length,0,none⟩) (l+new.length / kk) kk):=by
    unfold appB
    rw [if_neg (by simp [isLoc]),if_neg (by simp only [not_or,Decidable.not_not]; exact ⟨h1,by omega⟩),if_neg (by simp [h3])]
    simp only [hH]
    rw [if_pos ⟨trivial,h4,by omega⟩,if_pos (by omega)]
    simp only [List.drop_zero]
    rw [List.take_of_length_le (by omega)]
   simp only [ap1,hop]
   exact go_putO
  ·rw [if_neg hc]
 ·rfl
theorem apB_ok (c f new p l kk d T S D H lo n rnd)(h1:new.length % kk=0)(h2:l+new.length < 1048576)(h3:new.isEmpty=false)(h4:0 < kk)(h5:l*kk=c.length) :
  ap2 call F (some ⟨.cells c,true,true,some f⟩) new p l kk d k ⟨T,S,D,H,lo,n,rnd⟩=nxt call F (some (.slice (some ⟨H.length,0,none⟩) (l+new.length / kk) kk)) d k ⟨T,S,D,H.set p ⟨.cells c,true,false,some f⟩++[⟨.cells (c++new),true,true,some f⟩],lo,n,rnd⟩:=by
 have h2:l+new.length < small:=h2
 simp only [ap2]; rw [if_pos ⟨h1,h2,h3,h4,h5⟩]
theorem apA_nil (new kk d T S D H lo n rnd)(h1:new.length % kk=0)(h2:new.length < 1048576)(h3:new.isEmpty=false) :
  ap1 call F (some new) (.slice none 0 0) kk d k ⟨T,S,D,H,lo,n,rnd⟩=nxt call F (some (.slice (some ⟨H.length,0,none⟩) (new.length / kk) kk)) d k ⟨T,S,D,H++[⟨.cells new,true,true,some H.length⟩],lo,n,rnd⟩:=by
 have h2:new.length < small:=h2
 have hop:appB ⟨T,S,D,H,lo,n,rnd⟩ kk new none 0 0 d=putO ⟨T,S,D,H++[⟨.cells new,true,true,some H.length⟩],lo,n,rnd⟩ d (.slice (some ⟨H.length,0,none⟩) (new.length / kk) kk):=by
  unfold appB
  rw [if_neg (by simp [isLoc]),if_neg (by simp only [not_or,Decidable.not_not]; exact ⟨h1,by omega⟩),if_neg (by simp [h3])]
  rfl
 simp only [ap1,hop]
 exact go_putO
theorem goD_app (d t kk x y hb tb T S D H lo n rnd)(h:slotOk y (ev T y)=true):goD call F d (.app t kk x y) ⟨1,hb,tb⟩ k ⟨T,S,D,H,lo,n,rnd⟩=go call F d (.app t kk x y) (.fix lo H.length hb :: k) ⟨T,S,D,H,H.length,n,rnd⟩:=by
 have h':clsOk ⟨d,.app t kk x y,none⟩ (Flag.cls ⟨1,hb,tb⟩) ⟨T,S,D,H,lo,n,rnd⟩=true:=by simp [clsOk,h]
 rw [goD_go _ _ _ _ _ _ _ _ _ _ h' trivial]

variable {F:Ex→St→Option Out}
noncomputable def fE (PP:FuncId→Option PFunc)(prims:Prims)(call:CallT)(pf:PFunc)(H:Heap)(pv:Option Value)(s:St):Option Out :=
 fin pf H (unwL PP prims call s.D pv s)
noncomputable def fEnd (PP:FuncId→Option PFunc)(prims:Prims)(call:CallT)(pf:PFunc)(H:Heap)(e:Ex)(s:St):Option Out :=
 match endR e with
 | some pv=>fE PP prims call pf H pv s
 | none=>none
theorem f_ret (pf H):fEnd PP prims call pf H .ret s=fE PP prims call pf H none s:=rfl
theorem f_normal (pf H):fEnd PP prims call pf H .normal s=fE PP prims call pf H none s:=rfl
theorem f_panic (pf H v):fEnd PP prims call pf H (.panic v) s=fE PP prims call pf H (some v) s:=rfl
theorem fE_ok (pf H T S H1 lo n rnd):fE PP prims call pf H none ⟨T,S,[],H1,lo,n,rnd⟩=(resR ⟨T,S,[],H1,lo,n,rnd⟩ pf.res).map fun vs=>gcR H (.ok (resV vs)) H1 lo:=rfl
theorem fE_panic (pf H v T S H1 lo n rnd):fE PP prims call pf H (some v) ⟨T,S,[],H1,lo,n,rnd⟩=some (gcR H (.panic v) H1 lo):=rfl

theorem fE_def (pf H pv T S d D H1 lo n rnd):fE PP prims call pf H pv ⟨T,S,d :: D,H1,lo,n,rnd⟩=fin pf H (unwL PP prims call (d :: D) pv ⟨T,S,d :: D,H1,lo,n,rnd⟩):=rfl
theorem unw_nil (pv):unwL PP prims call [] pv s=some (pv,s):=rfl
noncomputable def unwD (PP:FuncId→Option PFunc)(prims:Prims)(call:CallT)(r:Option (Heap×Nat×Option Value))(ds:List PD)(s:St):Option (Option Value×St) :=
 match r with
 | some (H,lo,pv)=>unwL PP prims call ds pv { s with H:=H,lo:=min s.lo lo }
 | none=>none
theorem unw_call (fn args ds pv T S D H lo n rnd):unwL PP prims call (.call fn args :: ds) pv ⟨T,S,D,H,lo,n,rnd⟩=unwD PP prims call (drunL PP prims call fn args H pv) ds ⟨T,S,D,H,lo,n,rnd⟩:=by
 simp only [unwL,unwD] <;> (cases drunL PP prims call fn args H pv <;> rfl)
theorem unwD_some (H lo pv ds T S D H0 lo0 n rnd):unwD PP prims call (some (H,lo,pv)) ds ⟨T,S,D,H0,lo0,n,rnd⟩=unwL PP prims call ds pv ⟨T,S,D,H,min lo0 lo,n,rnd⟩:=rfl
theorem bodyL_eq {pf:PFunc}{args:List Value}{H:Heap}:bodyL PP prims pf args H=mach (runL PP prims) (fEnd PP prims (runL PP prims) pf H) [.code pf.body] none ⟨args,[],[],H,H.length,pf.n,false⟩:=by
 simp only [bodyL,mach]
 cases codeL (runL PP prims) pf.body ⟨args,[],[],H,H.length,pf.n,false⟩ with
 | none=>rfl
 | some x =>
  obtain ⟨e,s⟩:=x
  cases e <;> rfl
theorem run_k {f:FuncId}{pf:PFunc}(hp:prims f=none)(hPP:PP f=some pf){args:List Value}(hn:args.length≤pf.n)(hrc:pf.rc=none){H:Heap}{out:Out}
  (h:mach (runL PP prims) (fEnd PP prims (runL PP prims) pf H) [.code pf.body] none ⟨args,[],[],H,H.length,pf.n,false⟩=some out):runL PP prims (.func f) args H=some out :=
 runL_func hp hPP hn hrc (by rw [bodyL_eq]; exact h)

end
end Go.Pi.L
