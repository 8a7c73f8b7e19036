/- Code is carried out as in the small language. -/
import Derived.RangeFuncLeaves
import Derived.RecoverIn
import Derived.Test.YtjgmlngcknehhaaGreatPiF
set_option linter.all false
namespace Go.Pi
open Go

section
variable {E:Ent} {n:Nat} {φ:Map} {lm:LMap} {s:St} {a:Act} {w:World} {ro:Option Nat}
variable {L:List Tmp} {call:CallT} {e:Ex} {s1:St} {P:Program} {m:Nat}

theorem ExR.panic_inv {φ:Map}{v:Value}{e':Exit}(h:ExR φ (.panic v) e'):∃v',e'=.panic [{ v:=v',recovered:=false }]∧VR φ v v':=by
 cases e' <;> simp only [ExR] at h
 obtain ⟨v',rfl,hv⟩:=h
 exact ⟨v',rfl,hv⟩

theorem SR.enterLoop (h:SR E φ lm s a w){ps:Array Tmp}{as bd:Code}{pas pbd:PCode}(has:compC E.P L as=some pas)(hbd:compC E.P L bd=some pbd)(fn:FuncId) :
  ∃w2 φ2,(Instr.enterLoop fn a.tmps ps as bd none).run E.P w=.ok (w.heap.size+1,[{ target:=.collected w.heap.size,args:=#[] }]) w2 ∧
   SR E φ2 lm { s with H:=s.H++[{ obj:=.dfr false }]++[{ obj:=.loop s.n (s.T.map deloc) ps.toList pas pbd s.H.length .ready none }] } a w2 ∧
   φ2 s.H.length=some ⟨w.heap.size,0,0,0⟩∧φ2 (s.H.length+1)=some ⟨w.heap.size+1,0,0,0⟩∧(∀i t,φ i=some t→φ2 i=some t):=by
 let w1:World:={ w with heap:=w.heap.push (.deferred (some [])) }
 let lp:Loop:={ state:=.ready,pending:=none,fn,tmps:=a.tmps,params:=ps,assign:=as,body:=bd,defers:=w.heap.size }
 let w2:World:={ w1 with heap:=w1.heap.push (.loop lp) }
 have hs1:w1.heap.size=w.heap.size+1:=by simp [w1]
 have h1:=(h.hole { obj:=.dfr false } fun _=>rfl).fill (k:=s.H.length) (blk:={ obj:=.dfr false }) (ob:=.deferred (some [])) (siz:=0) (top:=0) (w':=w1) h.free (by simp) h.ext.len ⟨rfl,rfl,rfl⟩ (fun _=>.dfr0 _) (fun j hj=>absurd hj (Nat.not_lt_zero _))
 have hsub1:=upd_sub (s:=⟨w.heap.size,0,0,0⟩) h.free
 have hlen:(s.H++[({ obj:=.dfr false }:Blk)]).length=s.H.length+1:=by simp
 have hfree2:upd φ s.H.length ⟨w.heap.size,0,0,0⟩ (s.H.length+1)=none:=by
  have:=h1.free
  simpa [hlen] using this
 have hsub2:=upd_sub (s:=⟨w1.heap.size,0,0,0⟩) hfree2
 have hd2:upd (upd φ s.H.length ⟨w.heap.size,0,0,0⟩) (s.H.length+1) ⟨w1.heap.size,0,0,0⟩ s.H.length=some ⟨w.heap.size,0,0,0⟩:=hsub2 _ _ (by simp [upd])
 have hT:∀t,VR (upd (upd φ s.H.length ⟨w.heap.size,0,0,0⟩) (s.H.length+1) ⟨w1.heap.size,0,0,0⟩) (get (s.T.map deloc) t) (a.tmps.getD t undef):=by
  intro t
  have:get (s.T.map deloc) t=deloc (get s.T t):=by
   rw [get_getElem?,get_getElem?,List.getElem?_map]
   cases s.T[t]? <;> simp [deloc,undef,isLoc]
  rw [this]
  exact ((h1.env t).deloc).mono hsub2
 have h2:=(h1.hole { obj:=.loop s.n (s.T.map deloc) ps.toList pas pbd s.H.length .ready none } fun _=>rfl).fill (k:=s.H.length+1) (blk:={ obj:=.loop s.n (s.T.map deloc) ps.toList pas pbd s.H.length .ready none }) (ob:=.loop lp) (siz:=0) (top:=0) (w':=w2) hfree2
  (by simp) (by have:=h.ext.len; omega) ⟨rfl,rfl,rfl⟩ (fun _=>.loop _ _ _ _ _ _ _ _ _ lp L ⟨w.heap.size,0,0,0⟩ h.siz hT rfl has hbd hd2 rfl rfl trivial) (fun j hj=>absurd hj (Nat.not_lt_zero _))
 refine ⟨w2,_,?_,h2,hd2,by rw [hs1]; simp [upd],fun i t hi=>hsub2 i t (hsub1 i t hi)⟩
 simp only [Instr.enterLoop,Sem.run_bind,run_newObj,Result.andThen_ok,Sem.run_pure]
 simp [w2,w1,lp]
 rfl

theorem rf_run {f:Operand}{ps:Array Tmp}{as bd:Code}{pas pbd:PCode}(hsim:CallSim E.P E.B call)(hf:opndOk f=true)(has:compC E.P L as=some pas)(hbd:compC E.P L bd=some pbd)(hr:codeR call m (.rf f ps.toList pas pbd) s=some (e,s1))(hro:s.rnd=ro.isSome)
  (h:SR E φ lm s a w):(Code.rangeFunc f ps as bd).wpIn (W ro) n E.P (Post E e s1) a w:=by
 simp only [codeR] at hr
 split at hr
 ·cases hr
 ·rename_i hrnd
  have hro':ro=none:=by
   cases ro with
   | none=>rfl
   | some l=>exact absurd hro hrnd
  subst hro'
  split at hr
  ·rename_i g args hfa
   split at hr
   ·rename_i v H lo hcall
    split at hr
    ·rename_i n' T' ps' as' bd' d' st pend hH
     split at hr
     ·cases hr
     ·rename_i hbusy
      simp only [Option.some.injEq,Prod.mk.injEq] at hr
      obtain ⟨hre,hrs⟩:=hr
      refine wpIn_rangeFunc fun fn _=>?_
      obtain ⟨w2,φ2,he,h2,hd,hl,hsub⟩:=h.enterLoop (ps:=ps) has hbd fn
      have hfv:=h.opnd hf
      generalize hfe:ev s.T f=fv at *
      generalize hfm:a.eval f=fm at *
      cases hfv with
      | ptr=>simp [fnArgs] at hfa
      | sl=>simp [fnArgs] at hfa
      | vr _ _ hfv =>
       cases hfv with
       | yield l sl hsl=>simp [fnArgs] at hfa
       | func f0 a0 a0' c0 c0' k1 k2 k3 k4 =>
        simp only [fnArgs,Option.some.injEq,Prod.mk.injEq,Fn.func.injEq] at hfa
        obtain ⟨rfl,rfl⟩:=hfa
        have hvr1:VRs φ2 a0.toList a0'.toList:=⟨by simpa using k1,fun j x y hx hy=>(k2 j x y (by simpa using hx) (by simpa using hy)).mono hsub⟩
        have hvr2:VRs φ2 c0.toList c0'.toList:=⟨by simpa using k3,fun j x y hx hy=>(k4 j x y (by simpa using hx) (by simpa using hy)).mono hsub⟩
        have hy:VRs φ2 [.func (.yield (s.H.length+1)) #[] #[]] [.func (.yield (w.heap.size+1)) #[] #[]]:=.cons (.yield _ ⟨w.heap.size+1,0,0,0⟩ hl) .nil
        have hargs:VRs φ2 (a0.toList++[.func (.yield (s.H.length+1)) #[] #[]]++c0.toList) (a0'++#[Value.func (.yield (w.heap.size+1)) #[] #[]]++c0').toList:=by
         simp only [Array.toList_append]; exact (hvr1.append hy).append hvr2
        obtain ⟨hok,hcalls⟩:=hsim _ _ _ _ hcall φ2 w2 _ h2.emb (Nat.le_trans h2.hB h2.ext.size) hargs
        refine ⟨w.heap.size+1,_,w2,{ target:=.fn (.func f0) c0',args:=a0'++#[Value.func (.yield (w.heap.size+1)) #[] #[]] },w2,f0,a0'++#[Value.func (.yield (w.heap.size+1)) #[] #[]]++c0',w2,he,?_,fun _ _=>trivial,?_,fun hh=>(by cases hh),trivial,?_⟩
        ·have hm:(#[Operand.const (.func (.yield (w.heap.size+1)) #[] #[])]:Array Operand).map a.eval=#[Value.func (.yield (w.heap.size+1)) #[] #[]]:=by simp; rfl
         simp only [rangeCall,resolve,hfm,Deferred.ofValue,hm,Sem.run_pure]
        ·simp only [invoke]; exact callFunc_run hok _ w2
        ·refine (CallsIn.mono (hcalls (n - 1)) fun e' w3 hleft=>?_).2
         obtain ⟨φ',q1,q2,q3⟩:=hleft
         cases e' with
         | panicked ch=>exact q3.elim
         | outgrown=>exact q3.elim
         | returned v' =>
          have hs3:=h2.after q1 q2
          have hl2:(s.H++[({ obj:=.dfr false }:Blk)]++[({ obj:=.loop s.n (s.T.map deloc) ps.toList pas pbd s.H.length .ready none }:Blk)]).length=s.H.length+2:=by simp
          have hφl:φ' (s.H.length+1)=some ⟨w.heap.size+1,0,0,0⟩:=by rw [q2.map _ (by rw [hl2]; omega)]; exact hl
          have hφd:φ' s.H.length=some ⟨w.heap.size,0,0,0⟩:=by rw [q2.map _ (by rw [hl2]; omega)]; exact hd
          obtain ⟨ob,o1,o2⟩:=q1.obj _ _ _ hφl hH rfl
          cases o2 with
          | loop _ _ _ _ _ _ _ _ _ l L' sd p2 p3 p4 p5 p6 p7 p8 p9 p10 =>
           subst p9
           have hlt3:=(Array.getElem?_eq_some_iff.1 o1).1
           have hend:(Instr.endLoop (w.heap.size+1)).run E.P w3=.ok l.pending { w3 with heap:=w3.heap.setIfInBounds (w.heap.size+1) (.loop { l with state:=.exhausted }) }:=by
            have hb:(l.state == LoopState.busy)=false:=by
             cases hls:l.state <;> first | rfl | exact absurd hls hbusy
            have hget:(getObj (w.heap.size+1)).run E.P w3=.ok (.loop l) w3:=by
             simp only at o1
             simp [getObj,Sem.run,o1]
            have hset:∀ob',(setObj (w.heap.size+1) ob').run E.P w3=.ok () { w3 with heap:=w3.heap.setIfInBounds (w.heap.size+1) ob' }:=fun ob'=>by
             simp only at o1
             simp [setObj,Sem.run,o1]
            simp only [Instr.endLoop,Instr.getLoop,Sem.run_bind,hget,Result.andThen_ok,Sem.run_pure,hb,Bool.false_eq_true,if_false,hset]
           have hs4:SR E φ' lm { s with H:=H.set (s.H.length+1) { obj:=.loop n' T' ps' as' bd' d' .exhausted pend },lo:=min s.lo lo } a { w3 with heap:=w3.heap.setIfInBounds (w.heap.size+1) (.loop { l with state:=.exhausted }) }:=by
            refine hs3.setH (w':={ w3 with heap:=w3.heap.setIfInBounds (w.heap.size+1) (.loop { l with state:=.exhausted }) }) (ob:=.loop { l with state:=.exhausted }) (H':=H.set (s.H.length+1) { obj:=.loop n' T' ps' as' bd' d' .exhausted pend }) hφl (q1.own _ _ _ hφl hH (.inl rfl)) (by simp) ⟨rfl,rfl,rfl⟩ ?_ _
            refine q1.put hφl hH rfl (fun k sk bk hk hsk hbk hok he=>?_) rfl (fun _=>rfl) rfl (.loop _ _ _ _ _ _ _ _ _ { l with state:=.exhausted } L' sd p2 p3 p4 p5 p6 p7 p8 rfl p10) (fun x=>?_)
            ·exact (q1.sep _ k _ sk _ bk (Ne.symm hk) hφl hsk hH hbk rfl hok he.symm).2.2.1 rfl
            ·simp only at o1 hlt3
             simp only [World.frozen?]
             by_cases hb:x.block=w.heap.size+1
             ·rw [hb,o1]; simp [hlt3]
             ·rw [Array.getElem?_setIfInBounds_ne (Ne.symm hb)]
           have hs5:SR E φ' lm s1 { a with defers:=[{ target:=.collected w.heap.size,args:=#[] }]++a.defers } { w3 with heap:=w3.heap.setIfInBounds (w.heap.size+1) (.loop { l with state:=.exhausted }) }:=by
            rw [←hrs]
            exact ⟨hs4.emb,hs4.ext,hs4.loc,hs4.siz,hs4.env,.cons _ _ _ _ ⟨⟨w.heap.size,0,0,0⟩,hφd,rfl⟩ hs4.dfr,hs4.hB,hs4.dom⟩
           generalize ({ w3 with heap:=w3.heap.setIfInBounds (w.heap.size+1) (.loop { l with state:=.exhausted }) }:World)=w4 at hend hs5
           refine ⟨l.pending,w4,hend,?_⟩
           cases hp:l.pending with
           | none =>
            rw [hp] at p10
            cases pend with
            | none=>subst hre; exact ⟨φ',lm,trivial,hs5⟩
            | some p=>cases p <;> exact p10.elim
           | some c =>
            rw [hp] at p10
            cases pend with
            | none=>exact p10.elim
            | some p =>
             cases p <;> cases c <;> first | exact p10.elim | skip
             ·subst hre; exact wpIn_exit ⟨φ',lm,p10,hs5⟩
             ·subst hre; exact wpIn_ret ⟨φ',lm,trivial,hs5⟩
       | _=>simp [fnArgs,junk] at hfa
    ·cases hr
   ·cases hr
  ·cases hr

end
end Go.Pi
namespace Go.Pi
open Go

section
variable {E:Ent} {n:Nat} {φ:Map} {lm:LMap} {s:St} {a:Act} {w:World} {ro:Option Nat}
variable {L:List Tmp} {call:CallT} {e:Ex} {s1:St} {P:Program} {m:Nat}

theorem least {p:Nat→Prop}(h:∃j,p j):∃j,p j∧∀k,p k→j≤k:=by
 classical
 obtain ⟨j,hj⟩:=h
 induction j using Nat.strongRecOn with
 | _ j ih =>
  by_cases hx:∃k,k < j∧p k
  ·obtain ⟨k,hk,hp⟩:=hx
   exact ih k hk hp
  ·exact ⟨j,hj,fun k hk=>Nat.le_of_not_lt fun hlt=>hx ⟨k,hlt,hk⟩⟩

theorem loop_run {c:Code}{body:St→Option (Ex×St)}(hkeep:∀{s e s1},body s=some (e,s1)→s1.rnd=s.rnd)
  (hb:∀s e s1 φ lm a w,body s=some (e,s1)→s.rnd=ro.isSome→SR E φ lm s a w→c.wpIn (W ro) n E.P (Post E e s1) a w)
  (hr:loopN body m s=some (e,s1)) (hro:s.rnd=ro.isSome) (h:SR E φ lm s a w):(Code.loop c).wpIn (W ro) n E.P (Post E e s1) a w:=by
 classical
 let I:Act→World→Prop:=fun a w=>∃j s φ lm,loopN body j s=some (e,s1)∧s.rnd=ro.isSome∧SR E φ lm s a w
 let Good:Act→World→Nat→Prop:=fun a w j=>∃s φ lm,loopN body j s=some (e,s1)∧s.rnd=ro.isSome∧SR E φ lm s a w
 have hI:∀a w,I a w→∃j,Good a w j:=fun a w ⟨j,s,φ,lm,h⟩=>⟨j,s,φ,lm,h⟩
 let μ:Act→World→Nat:=fun a w=>if h:∃j,Good a w j then Classical.choose (least h) else 0
 refine wpIn_loop I μ ⟨m,s,φ,lm,hr,hro,h⟩ fun a w hIaw=>?_
 have hex:=hI a w hIaw
 have hmu:μ a w=Classical.choose (least hex):=by simp only [μ]; rw [dif_pos hex]
 obtain ⟨s0,φ0,lm0,h1,h2,h3⟩:=(Classical.choose_spec (least hex)).1
 cases hj:Classical.choose (least hex) with
 | zero=>rw [hj] at h1; cases h1
 | succ j =>
  rw [hj] at h1
  simp only [loopN] at h1
  cases hbs:body s0 with
  | none=>rw [hbs] at h1; cases h1
  | some r =>
   obtain ⟨e1,s2⟩:=r
   rw [hbs] at h1
   refine wpIn_mono (hb s0 e1 s2 φ0 lm0 a w hbs h2 h3) fun e' a' w' hp=>?_
   obtain ⟨φ',lm',hx,hs⟩:=hp
   cases e1 with
   | normal =>
    cases e' <;> simp only [ExR] at hx
    have hg:Good a' w' j:=⟨s2,φ',lm',h1,by rw [hkeep hbs]; exact h2,hs⟩
    refine ⟨⟨j,s2,φ',lm',h1,by rw [hkeep hbs]; exact h2,hs⟩,?_⟩
    have hex':∃j,Good a' w' j:=⟨j,hg⟩
    have:μ a' w'=Classical.choose (least hex'):=by simp only [μ]; rw [dif_pos hex']
    rw [this,hmu,hj]
    exact Nat.lt_succ_of_le ((Classical.choose_spec (least hex')).2 j hg)
   | exit i =>
    simp only [Option.some.injEq,Prod.mk.injEq] at h1
    obtain ⟨rfl,rfl⟩:=h1
    cases e' <;> simp only [ExR] at hx
    exact ⟨φ',lm',hx,hs⟩
   | ret =>
    simp only [Option.some.injEq,Prod.mk.injEq] at h1
    obtain ⟨rfl,rfl⟩:=h1
    cases e' <;> simp only [ExR] at hx
    exact ⟨φ',lm',trivial,hs⟩
   | panic v =>
    simp only [Option.some.injEq,Prod.mk.injEq] at h1
    obtain ⟨rfl,rfl⟩:=h1
    obtain ⟨v',rfl,hv⟩:=hx.panic_inv
    exact ⟨φ',lm',⟨v',rfl,hv⟩,hs⟩

theorem cond_val {c:Operand}{b:Bool}(h:SR E φ lm s a w)(hc:ev s.T c=.bool b):a.eval c=.bool b:=by
 cases c with
 | tmp t =>
  have:=h.env t
  simp only [ev] at hc
  rw [hc] at this
  exact this.bool
 | const v=>exact hc
 | global g=>cases hc
 | func f=>cases hc

theorem wpIn_scope {F:Fence}{c:Code}{Q:Exit→Act→World→Prop}(hQ:∀l a w,¬Q (.goto l) a w)(h:c.wpIn F n P Q a w):(Code.scope c).wpIn F n P Q a w:=by
 intro b k cs hro hb hr
 have h0:(lone (b.atR a (.code (.scope c) :: k)) cs w).fenced P F:=fenced_calm hb hr rfl
 have hst:step P (lone (b.atR a (.code (.scope c) :: k)) cs w)=.next (lone (b.atR a (.code c :: .inScope c :: k)) cs w):=step_lone_go (by simp [stepG,stepG.exec,Frame.atR])
 obtain ⟨e,a₁,w₁,hq,harr⟩:=h b (.inScope c :: k) cs hro hb hr
 cases e with
 | normal =>
  have hst2:step P (lone (b.atR a₁ (.inScope c :: k)) cs w₁)=.next (lone (b.atR a₁ k) cs w₁):=step_lone_go (by simp [stepG,stepG.exec,Frame.atR])
  exact ⟨.normal,a₁,w₁,hq,.head h0 hst (StepsIn.trans harr (.one (fenced_calm hb hr rfl) hst2))⟩
 | exit id' =>
  have hx:exitTo id' (.inScope c :: k)=exitTo id' k:=by simp [exitTo]
  exact ⟨.exit id',a₁,w₁,hq,fun k' hk=>.head h0 hst (harr.1 k' (by rw [hx]; exact hk)),
   fun hr' hk=>let ⟨k₁,h1,h2⟩:=harr.2 hr' (by rw [hx]; exact hk); ⟨k₁,h1,.head h0 hst h2⟩⟩
 | goto l=>exact absurd hq (hQ _ _ _)
 | ret=>exact ⟨_,a₁,w₁,hq,.of_steps (.one h0 hst) harr⟩
 | panic ch=>exact ⟨_,a₁,w₁,hq,.of_steps (.one h0 hst) harr⟩
 | outgrown=>exact ⟨_,a₁,w₁,hq,.of_steps (.one h0 hst) harr⟩

theorem code_run (hsim:CallSim E.P E.B call)(hdraw:DrawOk E ro call):∀(c:Code) {pc:PCode} {s s1:St} {e:Ex} {φ:Map} {lm:LMap} {a:Act} {w:World},compC E.P L c=some pc→codeR call m pc s=some (e,s1)→s.rnd=ro.isSome→SR E φ lm s a w →
  c.wpIn (W ro) n E.P (Post E e s1) a w:=by
 intro c
 induction c with
 | skip =>
  intro pc s s1 e φ lm a w hc hr hro h
  simp only [compC,Option.some.injEq] at hc; subst hc
  simp only [codeR,Option.some.injEq,Prod.mk.injEq] at hr; obtain ⟨rfl,rfl⟩:=hr
  exact wpIn_skip ⟨φ,lm,trivial,h⟩
 | region id ops d =>
  intro pc s s1 e φ lm a w hc hr hro h
  cases d with
  | false =>
   simp only [compC,Option.map_eq_some_iff] at hc
   obtain ⟨pis,hpis,rfl⟩:=hc
   simp only [codeR] at hr
   have hl:=mapM_len hpis
   refine wpIn_region ?_
   have:=ops_run (n:=n) (L:=L) (ops:=ops) (ro:=ro) hsim 0 pis s s1 φ lm a w hro (by simp [hl]) (fun j pi hj=>by
    obtain ⟨o,ho,hoc⟩:=mapM_back hpis j pi hj
    exact ⟨o,by simpa using ho,hoc⟩) hr h
   have hrange:List.range ops.size=List.range' 0 pis.length:=by rw [hl,List.range_eq_range']; simp
   rw [hrange]; exact this
  | true =>
   have hc':=hc
   simp only [compC,Option.bind_eq_some_iff] at hc'
   obtain ⟨l,_,hc'⟩:=hc'
   split at hc'
   ·cases hc'
    exact hdraw L id ops _ _ n s s1 e φ lm a w hc hr hro h
   ·cases hc'
 | seq x y ihx ihy =>
  intro pc s s1 e φ lm a w hc hr hro h
  simp only [compC,Option.bind_eq_some_iff,Option.map_eq_some_iff] at hc
  obtain ⟨px,hpx,py,hpy,rfl⟩:=hc
  simp only [codeR] at hr
  cases hx:codeR call m px s with
  | none=>rw [hx] at hr; cases hr
  | some r =>
   obtain ⟨e1,s2⟩:=r
   rw [hx] at hr
   refine wpIn_seq (wpIn_mono (ihx hpx hx hro h) fun e' a' w' hp=>?_)
   obtain ⟨φ',lm',hxx,hs⟩:=hp
   cases e1 with
   | normal =>
    cases e' <;> simp only [ExR] at hxx
    exact ihy hpy hr (by rw [codeR_keeps _ hx]; exact hro) hs
   | exit i =>
    simp only [Option.some.injEq,Prod.mk.injEq] at hr
    obtain ⟨rfl,rfl⟩:=hr
    cases e' <;> simp only [ExR] at hxx
    exact ⟨φ',lm',hxx,hs⟩
   | ret =>
    simp only [Option.some.injEq,Prod.mk.injEq] at hr
    obtain ⟨rfl,rfl⟩:=hr
    cases e' <;> simp only [ExR] at hxx
    exact ⟨φ',lm',trivial,hs⟩
   | panic v =>
    simp only [Option.some.injEq,Prod.mk.injEq] at hr
    obtain ⟨rfl,rfl⟩:=hr
    obtain ⟨v',rfl,hv⟩:=hxx.panic_inv
    exact ⟨φ',lm',⟨v',rfl,hv⟩,hs⟩
 | cond c x y ihx ihy =>
  intro pc s s1 e φ lm a w hc hr hro h
  simp only [compC,Option.bind_eq_some_iff,Option.map_eq_some_iff] at hc
  obtain ⟨px,hpx,py,hpy,rfl⟩:=hc
  simp only [codeR] at hr
  split at hr
  ·rename_i hcv; exact wpIn_cond_true (cond_val h hcv) (ihx hpx hr hro h)
  ·rename_i hcv; exact wpIn_cond_false (cond_val h hcv) (ihy hpy hr hro h)
  ·cases hr
 | block id x ih =>
  intro pc s s1 e φ lm a w hc hr hro h
  simp only [compC,Option.map_eq_some_iff] at hc
  obtain ⟨px,hpx,rfl⟩:=hc
  simp only [codeR] at hr
  cases hx:codeR call m px s with
  | none=>rw [hx] at hr; cases hr
  | some r =>
   obtain ⟨e1,s2⟩:=r
   rw [hx] at hr
   refine wpIn_block (wpIn_mono (ih hpx hx hro h) fun e' a' w' hp=>?_)
   obtain ⟨φ',lm',hxx,hs⟩:=hp
   cases e1 with
   | normal =>
    simp only [Option.some.injEq,Prod.mk.injEq] at hr
    obtain ⟨rfl,rfl⟩:=hr
    cases e' <;> simp only [ExR] at hxx
    exact ⟨φ',lm',trivial,hs⟩
   | exit i =>
    cases e' <;> simp only [ExR] at hxx
    subst hxx
    simp only at hr
    simp only [Exit.inBlock]
    split at hr
    ·rename_i hid
     simp only [Option.some.injEq,Prod.mk.injEq] at hr
     obtain ⟨rfl,rfl⟩:=hr
     rw [if_pos hid]
     exact ⟨φ',lm',trivial,hs⟩
    ·rename_i hid
     simp only [Option.some.injEq,Prod.mk.injEq] at hr
     obtain ⟨rfl,rfl⟩:=hr
     rw [if_neg hid]
     exact ⟨φ',lm',rfl,hs⟩
   | ret =>
    simp only [Option.some.injEq,Prod.mk.injEq] at hr
    obtain ⟨rfl,rfl⟩:=hr
    cases e' <;> simp only [ExR] at hxx
    exact ⟨φ',lm',trivial,hs⟩
   | panic v =>
    simp only [Option.some.injEq,Prod.mk.injEq] at hr
    obtain ⟨rfl,rfl⟩:=hr
    obtain ⟨v',rfl,hv⟩:=hxx.panic_inv
    exact ⟨φ',lm',⟨v',rfl,hv⟩,hs⟩
 | loop x ih =>
  intro pc s s1 e φ lm a w hc hr hro h
  simp only [compC,Option.map_eq_some_iff] at hc
  obtain ⟨px,hpx,rfl⟩:=hc
  simp only [codeR] at hr
  exact loop_run (fun h=>codeR_keeps _ h) (fun s e s1 φ lm a w hb hro h=>ih hpx hb hro h) hr hro h
 | rangeFunc f ps as bd iha ihb =>
  intro pc s s1 e φ lm a w hc hr hro h
  simp only [compC] at hc
  split at hc
  ·rename_i hf
   simp only [Option.bind_eq_some_iff,Option.map_eq_some_iff] at hc
   obtain ⟨pa,hpa,pb,hpb,rfl⟩:=hc
   exact rf_run hsim hf hpa hpb hr hro h
  ·cases hc
 | scope x ih =>
  intro pc s s1 e φ lm a w hc hr hro h
  simp only [compC] at hc
  exact wpIn_scope (fun l a w hp=>by obtain ⟨φ,lm,hx,_⟩:=hp; cases e <;> exact hx) (ih hc hr hro h)
 | exit id =>
  intro pc s s1 e φ lm a w hc hr hro h
  simp only [compC,Option.some.injEq] at hc; subst hc
  simp only [codeR,Option.some.injEq,Prod.mk.injEq] at hr; obtain ⟨rfl,rfl⟩:=hr
  exact wpIn_exit ⟨φ,lm,rfl,h⟩
 | ret =>
  intro pc s s1 e φ lm a w hc hr hro h
  simp only [compC,Option.some.injEq] at hc; subst hc
  simp only [codeR,Option.some.injEq,Prod.mk.injEq] at hr; obtain ⟨rfl,rfl⟩:=hr
  exact wpIn_ret ⟨φ,lm,trivial,h⟩
 | label l =>
  intro pc s s1 e φ lm a w hc hr hro h
  simp only [compC,Option.some.injEq] at hc; subst hc
  simp only [codeR,Option.some.injEq,Prod.mk.injEq] at hr; obtain ⟨rfl,rfl⟩:=hr
  exact wpIn_label ⟨φ,lm,trivial,h⟩
 | _=>intro pc s s1 e φ lm a w hc; simp [compC] at hc

end
end Go.Pi
namespace Go.Pi
open Go

def Same (lo:Nat)(H H':Heap):Prop:=H.length≤H'.length∧∀(i:Nat) b,i < lo→H[i]?=some b→∃b',H'[i]?=some b'∧b'.obj=b.obj∧b'.ok=b.ok∧b'.fam=b.fam∧(b.fam=none→b'.tip=b.tip)

theorem Same.refl (lo:Nat)(H:Heap):Same lo H H:=⟨Nat.le_refl _,fun i b _ h=>⟨b,h,rfl,rfl,rfl,fun _=>rfl⟩⟩

theorem Same.trans {lo:Nat}{H H1 H2:Heap}(h:Same lo H H1)(h':Same lo H1 H2):Same lo H H2 :=
 ⟨Nat.le_trans h.1 h'.1,fun i b hi hb=>by
  obtain ⟨b1,h1,h2,h3,h4,h5⟩:=h.2 i b hi hb
  obtain ⟨b2,g1,g2,g3,g4,g5⟩:=h'.2 i b1 hi h1
  exact ⟨b2,g1,g2.trans h2,g3.trans h3,g4.trans h4,fun hf=>(g5 (h4.trans hf)).trans (h5 hf)⟩⟩

theorem Same.less {lo lo':Nat}{H H':Heap}(h:Same lo H H')(hl:lo'≤lo):Same lo' H H':=⟨h.1,fun i b hi hb=>h.2 i b (by omega) hb⟩

theorem Same.append (lo:Nat)(H l:Heap):Same lo H (H++l) :=
 ⟨by simp,fun i b _ hb=>⟨b,by rw [List.getElem?_append_left (List.getElem?_eq_some_iff.1 hb).1]; exact hb,rfl,rfl,rfl,fun _=>rfl⟩⟩

theorem Same.set {lo:Nat}(H:Heap)(i:Nat)(b:Blk)(hl:lo≤i):Same lo H (H.set i b) :=
 ⟨by simp,fun k x hk hx=>⟨x,by rw [List.getElem?_set_ne (by omega)]; exact hx,rfl,rfl,rfl,fun _=>rfl⟩⟩

def Fam (H:Heap):Prop:=∀(i:Nat) b f,H[i]?=some b→b.fam=some f→f≤i

theorem Same.kill {lo:Nat}{H:Heap}(hF:Fam H)(f:Nat)(hl:lo≤f):Same lo H (kill f H):=by
 refine ⟨by rw [kill_length]; exact Nat.le_refl _,fun i b hi hb=>?_⟩
 rw [kill_get,hb]
 refine ⟨_,rfl,?_⟩
 dsimp only
 split
 ·rename_i hc
  have:=hF i b f hb hc.1
  omega
 ·exact ⟨rfl,rfl,rfl,fun _=>rfl⟩

theorem Fam.append {H:Heap}(h:Fam H){b:Blk}(hb:∀f,b.fam=some f→f≤H.length):Fam (H++[b]):=by
 intro i x f hi hf
 rcases Nat.lt_or_ge i H.length with hlt | hge
 ·rw [List.getElem?_append_left hlt] at hi; exact h i x f hi hf
 ·rw [List.getElem?_append_right hge] at hi
  have h0:i - H.length=0:=by have:=(List.getElem?_eq_some_iff.1 hi).1; simp at this; omega
  rw [h0] at hi
  simp at hi
  subst hi
  have:=hb f hf
  omega

theorem Fam.set {H:Heap}(h:Fam H){i:Nat}{b b0:Blk}(h0:H[i]?=some b0)(hb:b.fam=b0.fam):Fam (H.set i b):=by
 intro k x f hk hf
 by_cases hki:i=k
 ·subst hki
  rw [List.getElem?_set_self (List.getElem?_eq_some_iff.1 h0).1] at hk
  cases hk
  exact h i b0 f h0 (hb ▸ hf)
 ·rw [List.getElem?_set_ne hki] at hk
  exact h k x f hk hf

theorem Fam.kill {H:Heap}(h:Fam H)(f:Nat):Fam (kill f H):=by
 intro i b g hi hg
 rw [kill_get] at hi
 cases hx:H[i]? with
 | none=>rw [hx] at hi; cases hi
 | some b0 =>
  rw [hx] at hi
  simp only [Option.map_some,Option.some.injEq] at hi
  refine h i b0 g hx ?_
  subst hi
  split at hg <;> exact hg

def Keeps (s s1:St):Prop:=Fam s.H→Fam s1.H∧s1.lo≤s.lo∧Same s1.lo s.H s1.H

theorem Keeps.refl (s:St):Keeps s s:=fun h=>⟨h,Nat.le_refl _,Same.refl _ _⟩

theorem Keeps.trans {s s1 s2:St}(h:Keeps s s1)(h':Keeps s1 s2):Keeps s s2:=fun hF=>by
 obtain ⟨a,b,c⟩:=h hF
 obtain ⟨a',b',c'⟩:=h' a
 exact ⟨a',Nat.le_trans b' b,(c.less b').trans c'⟩

theorem Keeps.of {s s1:St}(hH:s1.H=s.H)(hl:s1.lo=s.lo):Keeps s s1:=fun h=>⟨hH ▸ h,Nat.le_of_eq hl,by rw [hH]; exact Same.refl _ _⟩

def CallKeeps (call:CallT):Prop:=∀fn args H out,call fn args H=some out→Fam H→Fam out.H∧Same out.lo H out.H

section
variable {s s1 s2:St} {e:Ex} {call:CallT}

theorem putO_heap {d:Option Tmp}{v:Value}(h:putO s2 d v=some (e,s1)):s1.H=s2.H∧s1.lo=s2.lo:=by
 obtain ⟨_,hp⟩:=putO_put h
 cases d with
 | none=>simp only [put] at hp; cases hp; exact ⟨rfl,rfl⟩
 | some d =>
  simp only [put] at hp
  split at hp
  ·cases hp; exact ⟨rfl,rfl⟩
  ·cases hp

theorem put_heap {d:Option Tmp}{v:Value}(h:put s2 d v=some s1):s1.H=s2.H∧s1.lo=s2.lo:=by
 cases d with
 | none=>simp only [put] at h; cases h; exact ⟨rfl,rfl⟩
 | some d =>
  simp only [put] at h
  split at h
  ·cases h; exact ⟨rfl,rfl⟩
  ·cases h

theorem keeps_put {d:Option Tmp}{v:Value}(h:putO s2 d v=some (e,s1))(hk:Keeps s s2):Keeps s s1:=by
 obtain ⟨h1,h2⟩:=putO_heap h
 exact hk.trans (Keeps.of h1 h2)

theorem keeps_new {d:Option Tmp}{al:Option Alc}(h:newO s d al=some (e,s1)):Keeps s s1:=by
 cases al with
 | none=>cases h
 | some al =>
  refine keeps_put h fun hF=>⟨hF.append fun f hf=>?_,Nat.le_refl _,Same.append _ _ _⟩
  simp only [Alc.blk] at hf
  split at hf <;> simp at hf
  omega

theorem keeps_setB {i:Nat}{o:PObj}{b0:Blk}(h0:s.H[i]?=some b0)(hf:b0.fam=none):Keeps s (setB s i o):=fun hF =>
 ⟨hF.set h0 (by rw [hf]),Nat.min_le_left _ _,Same.set _ _ _ (Nat.min_le_right _ _)⟩

theorem keeps_stCells {p:Addr}{vs:List Value}(h:stCells s p vs=some s1):Keeps s s1:=by
 unfold stCells at h
 split at h
 ·split at h
  ·split at h
   ·cases h; exact Keeps.of rfl rfl
   ·cases h
  ·cases h
 ·split at h
  ·rename_i c hH
   split at h
   ·cases h; exact keeps_setB hH rfl
   ·cases h
  ·rename_i c f hH
   split at h
   ·cases h
    intro hF
    have hk:(kill f s.H)[p.block]?=some ⟨.cells c,true,true,some f⟩:=by rw [kill_get,hH]; simp
    refine ⟨(hF.kill f).set hk rfl,Nat.min_le_left _ _,(Same.kill hF f ?_).trans (Same.set _ _ _ ?_)⟩
    ·simp only; omega
    ·simp only; omega
   ·cases h
  ·cases h

theorem keeps_callR (hc:CallKeeps call){pi:PIns}{f:Value}{vs:List Value}(h:opR.callR call pi s f vs=some (e,s1)):Keeps s s1:=by
 have key:∀(H:Heap) (lo:Nat),(Fam s.H→Fam H∧Same lo s.H H)→Keeps s { s with H:=H,lo:=min s.lo lo }:=fun H lo hk hF=>by
  obtain ⟨h1,h2⟩:=hk hF
  exact ⟨h1,Nat.min_le_left _ _,h2.less (Nat.min_le_right _ _)⟩
 unfold opR.callR at h
 split at h
 ·split at h
  ·split at h
   ·rename_i hcall
    have hk:=hc _ _ _ _ hcall
    exact keeps_put h (key _ _ hk)
   ·rename_i hcall
    have hk:=hc _ _ _ _ hcall
    cases h
    exact key _ _ hk
   ·cases h
  ·cases h
 ·cases h

theorem keeps_app {pi:PIns}{t:TypeId}{k:Nat}{x y:Operand}(ho:pi.op=.app t k x y)(h:opR call pi s=some (e,s1)):Keeps s s1:=by
 obtain ⟨d,p,g⟩:=pi
 simp only at ho
 subst ho
 simp only [opR] at h
 split at h
 ·split at h
  ·cases h
  ·split at h
   ·cases h
   ·split at h
    ·exact keeps_put h (Keeps.refl s)
    ·split at h
     ·split at h
      ·refine keeps_put h fun hF=>⟨hF.append fun f hf=>?_,Nat.le_refl _,Same.append _ _ _⟩
       simp only [Option.some.injEq] at hf
       omega
      ·cases h
     ·rename_i pa heqx hnlx
      split at h
      ·rename_i c f hspot hH
       split at h
       ·split at h
        ·refine keeps_put h fun hF=>?_
         have hfle:=hF _ _ f hH rfl
         have hlt:=(List.getElem?_eq_some_iff.1 hH).1
         refine ⟨(hF.set (b:=⟨.cells c,true,false,some f⟩) hH rfl).append fun f' hf'=>?_,Nat.le_refl _,?_⟩
         ·simp only [Option.some.injEq] at hf'
          subst hf'
          simp only [List.length_set]; omega
         ·refine Same.trans ⟨by simp,fun i b hi hb=>?_⟩ (Same.append _ _ _)
          by_cases hib:pa.block=i
          ·subst hib
           rw [hH] at hb; cases hb
           exact ⟨_,List.getElem?_set_self hlt,rfl,rfl,rfl,fun hf=>by cases hf⟩
          ·exact ⟨b,by rw [List.getElem?_set_ne hib]; exact hb,rfl,rfl,rfl,fun _=>rfl⟩
        ·refine keeps_put h fun hF=>?_
         have hfle:=hF _ _ f hH rfl
         have hlt:=(List.getElem?_eq_some_iff.1 hH).1
         have hk:(kill f s.H)[pa.block]?=some ⟨.cells c,true,true,some f⟩:=by rw [kill_get,hH]; simp
         refine ⟨((hF.kill f).set (b:=⟨.cells c,false,false,some f⟩) hk rfl).append fun f' hf'=>?_,Nat.min_le_left _ _,?_⟩
         ·simp only [Option.some.injEq] at hf'
          subst hf'
          simp only [List.length_set,kill_length]; omega
         ·refine ((Same.kill hF f ?_).trans (Same.set _ _ _ ?_)).trans (Same.append _ _ _)
          ·simp only; omega
          ·simp only; omega
       ·cases h
      ·cases h
 ·cases h

theorem keeps_opR (hc:CallKeeps call){pi:PIns}(hr:opR call pi s=some (e,s1)):Keeps s s1:=by
 have hr0:=hr
 obtain ⟨d,p,g⟩:=pi
 cases p <;> simp only [opR] at hr
 case box=>exact keeps_new hr
 case alloc=>exact keeps_new hr
 case bs=>exact keeps_new hr
 case mks=>exact keeps_new hr
 case s2b=>exact keeps_new hr
 case mkm=>exact keeps_new hr
 case rng=>exact keeps_new hr
 case call=>exact keeps_callR hc hr
 case inv =>
  split at hr
  ·split at hr
   ·exact keeps_callR hc hr
   ·cases hr
  ·cases hr
 case app=>exact keeps_app rfl hr0
 case st =>
  split at hr
  ·split at hr
   ·cases hr
   ·split at hr
    ·rename_i s2 hs
     exact keeps_put hr (keeps_stCells hs)
    ·cases hr
  ·cases hr
 case clr =>
  split at hr
  ·exact keeps_put hr (Keeps.refl s)
  ·split at hr
   ·exact keeps_put hr (Keeps.refl s)
   ·split at hr
    ·rename_i s2 hs
     exact keeps_put hr (keeps_stCells hs)
    ·cases hr
  ·cases hr
 case mup =>
  split at hr
  ·split at hr
   ·split at hr
    ·rename_i hH
     split at hr
     ·split at hr
      ·exact keeps_put hr (keeps_setB hH rfl)
      ·exact keeps_put hr (keeps_setB hH rfl)
     ·cases hr
    ·cases hr
   ·cases hr
  ·cases hr
 case nxt =>
  split at hr
  ·split at hr
   ·rename_i hH
    split at hr
    ·exact keeps_put hr (keeps_setB hH rfl)
    ·exact keeps_put hr (Keeps.refl s)
   ·cases hr
  ·cases hr
 all_goals
  repeat' split at hr
  all_goals first | exact keeps_put hr (Keeps.of rfl rfl) | (cases hr; done) | (cases hr; exact Keeps.refl _)

theorem keeps_opsR (hc:CallKeeps call):∀{pis:List PIns} {s s1:St} {e:Ex},opsR call pis s=some (e,s1)→Keeps s s1:=by
 intro pis
 induction pis with
 | nil=>intro s s1 e h; simp only [opsR,Option.some.injEq,Prod.mk.injEq] at h; rw [h.2]; exact Keeps.refl _
 | cons pi pis ih =>
  intro s s1 e h
  simp only [opsR] at h
  split at h
  ·cases hop:opR call pi s with
   | none=>rw [hop] at h; cases h
   | some r =>
    obtain ⟨e1,s2⟩:=r
    have hk:=keeps_opR hc hop
    rw [hop] at h
    cases e1 with
    | normal=>exact hk.trans (ih h)
    | _=>simp only [Option.some.injEq,Prod.mk.injEq] at h; rw [←h.2]; exact hk
  ·split at h
   ·rename_i s2 hp
    obtain ⟨h1,h2⟩:=put_heap hp
    exact (Keeps.of h1 h2).trans (ih h)
   ·cases h
  ·cases h

end
end Go.Pi
namespace Go.Pi
open Go

section
variable {s s1 s2:St} {e:Ex} {call:CallT} {m:Nat}

theorem keeps_opsD (hc:CallKeeps call):∀{pis:List PIns} {fs:List Flag} {s s1:St} {e:Ex},opsD call pis fs s=some (e,s1)→Keeps s s1:=by
 intro pis
 induction pis with
 | nil=>intro fs s s1 e h; simp only [opsD,Option.some.injEq,Prod.mk.injEq] at h; rw [h.2]; exact Keeps.refl _
 | cons pi pis ih =>
  intro fs s s1 e h
  cases fs with
  | nil=>simp [opsD] at h
  | cons f fs =>
   simp only [opsD] at h
   split at h
   ·split at h
    ·cases hop:opR call pi { s with lo:=s.H.length } with
     | none=>rw [hop] at h; cases h
     | some r =>
      obtain ⟨e1,s2⟩:=r
      have hk0:=keeps_opR hc hop
      have hk:Keeps s { s2 with lo:=min s.lo s2.lo }:=fun hF=>by
       obtain ⟨a,b,c⟩:=hk0 hF
       exact ⟨a,Nat.min_le_left _ _,c.less (Nat.min_le_right _ _)⟩
      rw [hop] at h
      cases e1 with
      | normal =>
       simp only at h
       split at h
       ·exact hk.trans (ih h)
       ·cases h
      | _ =>
       simp only at h
       split at h
       ·simp only [Option.some.injEq,Prod.mk.injEq] at h; rw [←h.2]; exact hk
       ·cases h
    ·cases h
   ·split at h
    ·rename_i s2 hp
     obtain ⟨h1,h2⟩:=put_heap hp
     exact (Keeps.of h1 h2).trans (ih h)
    ·cases h
   ·cases h

theorem keeps_loopN {body:St→Option (Ex×St)}(hb:∀{s e s1},body s=some (e,s1)→Keeps s s1):∀{m:Nat} {s s1:St} {e:Ex},loopN body m s=some (e,s1)→Keeps s s1:=by
 intro m
 induction m with
 | zero=>intro s s1 e h; cases h
 | succ m ih =>
  intro s s1 e h
  simp only [loopN] at h
  cases hbs:body s with
  | none=>rw [hbs] at h; cases h
  | some r =>
   obtain ⟨e1,s2⟩:=r
   have hk:=hb hbs
   rw [hbs] at h
   cases e1 with
   | normal=>exact hk.trans (ih h)
   | _=>simp only [Option.some.injEq,Prod.mk.injEq] at h; rw [←h.2]; exact hk

theorem keeps_codeR (hc:CallKeeps call):∀(c:PCode) {s s1:St} {e:Ex},codeR call m c s=some (e,s1)→Keeps s s1:=by
 intro c
 induction c with
 | skip=>intro s s1 e h; simp only [codeR,Option.some.injEq,Prod.mk.injEq] at h; rw [h.2]; exact Keeps.refl _
 | reg ops=>intro s s1 e h; exact keeps_opsR hc h
 | dreg ops fs=>intro s s1 e h; exact keeps_opsD hc h
 | seq x y ihx ihy =>
  intro s s1 e h
  simp only [codeR] at h
  cases hx:codeR call m x s with
  | none=>rw [hx] at h; cases h
  | some r =>
   obtain ⟨e1,s2⟩:=r
   have hk:=ihx hx
   rw [hx] at h
   cases e1 with
   | normal=>exact hk.trans (ihy h)
   | _=>simp only [Option.some.injEq,Prod.mk.injEq] at h; rw [←h.2]; exact hk
 | cond c x y ihx ihy =>
  intro s s1 e h
  simp only [codeR] at h
  split at h
  ·exact ihx h
  ·exact ihy h
  ·cases h
 | blk id x ih =>
  intro s s1 e h
  simp only [codeR] at h
  cases hx:codeR call m x s with
  | none=>rw [hx] at h; cases h
  | some r =>
   obtain ⟨e1,s2⟩:=r
   have hk:=ih hx
   rw [hx] at h
   cases e1 with
   | exit i =>
    simp only at h
    split at h <;> (simp only [Option.some.injEq,Prod.mk.injEq] at h; rw [←h.2]; exact hk)
   | _=>simp only [Option.some.injEq,Prod.mk.injEq] at h; rw [←h.2]; exact hk
 | loop x ih=>intro s s1 e h; exact keeps_loopN (fun h=>ih h) h
 | rf f ps as bd _ _ =>
  intro s s1 e h
  simp only [codeR] at h
  split at h
  ·cases h
  ·split at h
   ·rename_i g args hfa
    split at h
    ·rename_i v H lo hcall
     split at h
     ·rename_i n' T' ps' as' bd' d' st pend hH
      split at h
      ·cases h
      ·simp only [Option.some.injEq,Prod.mk.injEq] at h
       rw [←h.2]
       intro hF
       have hF2:Fam (s.H++[({ obj:=.dfr false }:Blk)]++[({ obj:=.loop s.n (s.T.map deloc) ps as bd s.H.length .ready none }:Blk)]) :=
        (hF.append (fun f hf=>by cases hf)).append (fun f hf=>by cases hf)
       obtain ⟨h1,h2⟩:=hc _ _ _ _ hcall hF2
       refine ⟨h1.set hH rfl,Nat.min_le_left _ _,?_⟩
       have h3:Same (min s.lo lo) s.H H:=((Same.append _ _ _).trans (Same.append _ _ _)).trans (h2.less (Nat.min_le_right _ _))
       refine ⟨by simpa using h3.1,fun i b hi hb=>?_⟩
       obtain ⟨b',g1,g2⟩:=h3.2 i b hi hb
       have hlt:=(List.getElem?_eq_some_iff.1 hb).1
       exact ⟨b',by rw [List.getElem?_set_ne (by omega)]; exact g1,g2⟩
     ·cases h
    ·cases h
   ·cases h
 | exit id=>intro s s1 e h; simp only [codeR,Option.some.injEq,Prod.mk.injEq] at h; rw [h.2]; exact Keeps.refl _
 | ret=>intro s s1 e h; simp only [codeR,Option.some.injEq,Prod.mk.injEq] at h; rw [h.2]; exact Keeps.refl _

variable {PP:FuncId→Option PFunc} {prims:Prims}

theorem keeps_drun (hc:CallKeeps call){fn:Fn}{args:List Value}{H:Heap}{pv:Option Value}{H':Heap}{lo:Nat}{pv':Option Value}(h:drun PP prims call m fn args H pv=some (H',lo,pv'))(hF:Fam H):Fam H'∧lo≤H.length∧Same lo H H':=by
 cases fn with
 | func f =>
  simp only [drun] at h
  split at h
  ·split at h
   ·split at h
    ·cases h
    ·split at h
     ·rename_i hcode
      have hk:=keeps_codeR hc _ hcode hF
      split at h
      ·cases h; exact hk
      ·cases h
     ·cases h
   ·cases h
  ·cases h
 | _=>simp [drun] at h

theorem keeps_unw (hc:CallKeeps call):∀{ds:List PD} {pv pv':Option Value} {s s1:St},unw PP prims call m ds pv s=some (pv',s1)→Keeps s s1∧s1.T=s.T∧s1.S=s.S∧s1.n=s.n:=by
 intro ds
 induction ds with
 | nil=>intro pv pv' s s1 h; simp only [unw,Option.some.injEq,Prod.mk.injEq] at h; rw [←h.2]; exact ⟨Keeps.refl _,rfl,rfl,rfl⟩
 | cons d ds ih =>
  intro pv pv' s s1 h
  cases d with
  | call fn args =>
   simp only [unw] at h
   split at h
   ·rename_i H lo pv2 hd
    obtain ⟨h1,h2⟩:=ih h
    refine ⟨Keeps.trans (fun hF=>?_) h1,h2⟩
    obtain ⟨a,b,c⟩:=keeps_drun hc hd hF
    exact ⟨a,Nat.min_le_left _ _,c.less (Nat.min_le_right _ _)⟩
   ·cases h
  | coll r =>
   simp only [unw] at h
   split at h
   ·rename_i hH
    obtain ⟨h1,h2⟩:=ih h
    exact ⟨(keeps_setB hH rfl).trans h1,h2⟩
   ·cases h

theorem keeps_gcR {H0:Heap}{r:Ret}{H:Heap}{lo:Nat}(hF:Fam H)(hF0:Fam H0)(h:Same lo H0 H):Fam (gcR H0 r H lo).H∧Same (gcR H0 r H lo).lo H0 (gcR H0 r H lo).H:=by
 unfold gcR
 cases r <;> dsimp only <;> split <;> first | exact ⟨hF0,Same.refl _ _⟩ | exact ⟨hF,h⟩

theorem keeps_run (hp:∀f g,prims f=some g→∀args H out,g args H=some out→Fam H→Fam out.H∧Same out.lo H out.H):∀m,CallKeeps (run PP prims m):=by
 intro m
 induction m with
 | zero=>intro fn args H out h; simp [run] at h
 | succ m ih =>
  intro fn args H out h hF
  cases fn with
  | func f =>
   simp only [run] at h
   split at h
   ·rename_i g hg; exact hp f g hg args H out h hF
   ·split at h
    ·cases h
    ·split at h
     ·split at h
      ·rename_i hcode
       have hk:=keeps_codeR ih _ hcode
       split at h
       ·cases h
       ·split at h
        ·rename_i hu
         obtain ⟨hu1,_⟩:=keeps_unw ih hu
         cases h
         obtain ⟨a,b,c⟩:=(hk.trans hu1) hF
         exact keeps_gcR a hF c
        ·rename_i hu
         obtain ⟨hu1,_⟩:=keeps_unw ih hu
         simp only [Option.map_eq_some_iff] at h
         obtain ⟨vs,_,rfl⟩:=h
         obtain ⟨a,b,c⟩:=(hk.trans hu1) hF
         exact keeps_gcR a hF c
        ·cases h
      ·cases h
     ·cases h
  | yield l =>
   simp only [run] at h
   split at h
   ·split at h
    ·split at h
     ·rename_i hcode
      have hk1:=keeps_codeR ih _ hcode
      split at h
      ·rename_i hH1
       split at h
       ·cases h
       ·rename_i hcode2
        have hk2:=keeps_codeR ih _ hcode2
        split at h
        ·rename_i hH2
         obtain ⟨a,b,c⟩:=(hk1.trans ((keeps_setB hH1 rfl).trans hk2)) hF
         simp only [Option.some.injEq] at h
         rw [←h]
         exact ⟨a.set hH2 rfl,(c.less (Nat.min_le_left _ _)).trans (Same.set _ _ _ (Nat.min_le_right _ _))⟩
        ·cases h
       ·cases h
      ·cases h
     ·cases h
    ·cases h
   ·cases h
  | _=>simp [run] at h

end
end Go.Pi
namespace Go.Pi
open Go

section
variable {E:Ent} {n:Nat} {φ:Map} {lm:LMap} {s:St} {a:Act} {w:World} {ro:Option Nat}
variable {L:List Tmp} {call:CallT} {e:Ex} {s1:St} {P:Program} {m:Nat}

theorem res_list (h:SR E φ lm s a w):∀{l:List ResultVar} {vs:List Value},l.all (resOk E.P)=true→resR s (l.map (compRes E.P))=some vs →
  ∃vs',(l.mapM fun | .tmp t=>pure (a.tmps.getD t undef) | .cell b t=>do loadVar t (←asAddr (a.tmps.getD b undef)):Sem (List Value)).run E.P w=.ok vs' w∧VRs φ vs vs':=by
 intro l
 induction l with
 | nil=>intro vs _ hr; simp only [List.map_nil,resR,Option.some.injEq] at hr; subst hr; exact ⟨[],by simp,.nil⟩
 | cons r l ih =>
  intro vs hk hr
  simp only [List.all_cons,Bool.and_eq_true] at hk
  cases r with
  | tmp t =>
   simp only [List.map_cons,compRes,resR] at hr
   split at hr
   ·cases hr
   ·rename_i hl
    simp only [Option.map_eq_some_iff] at hr
    obtain ⟨vs0,hvs0,rfl⟩:=hr
    obtain ⟨vs',h1,h2⟩:=ih hk.2 hvs0
    exact ⟨a.tmps.getD t undef :: vs',by simp only [List.mapM_cons,Sem.run_bind,Sem.run_pure,Result.andThen_ok,h1],.cons ((h.env t).to_vr (by simpa using hl)) h2⟩
  | cell b t =>
   simp only [List.map_cons,compRes,resR] at hr
   split at hr
   ·rename_i p hp
    split at hr
    ·rename_i v hv
     simp only [Option.bind_eq_some_iff] at hv
     obtain ⟨c,hc,hv⟩:=hv
     simp only [Option.map_eq_some_iff] at hr
     obtain ⟨vs0,hvs0,rfl⟩:=hr
     obtain ⟨vs',h1,h2⟩:=ih hk.2 hvs0
     have henv:=h.env b
     rw [hp] at henv
     obtain ⟨v',h3,h4⟩:=h.load henv hc hk.1 hv
     obtain ⟨bb,oo,hpv,_⟩:=h.read henv hc
     have has:(asAddr (a.tmps.getD b undef)).run E.P w=.ok ⟨bb,oo,none⟩ w:=by rw [hpv]; rfl
     rw [hpv] at h3
     simp only [Instr.loadAt,Instr.sureAddr,Sem.run_bind,Sem.run_pure,Result.andThen_ok] at h3
     exact ⟨v' :: vs',by simp only [List.mapM_cons,Sem.run_bind,has,Sem.run_pure,Result.andThen_ok,h3,h1],.cons h4 h2⟩
    ·cases hr
   ·cases hr

theorem results_run (h:SR E φ lm s a w){fn:Func}{vs:List Value}(hk:fn.results.toList.all (resOk E.P)=true)(hr:resR s (fn.results.toList.map (compRes E.P))=some vs) :
  ∃v',(results fn a.tmps).run E.P w=.ok v' w∧VR φ (resV vs) v':=by
 obtain ⟨vs',h1,h2⟩:=res_list h hk hr
 have hv:VR φ (resV vs) (if h:vs'.toArray.size=1 then vs'.toArray[0] else .tuple vs'.toArray):=by
  have hl:=h2.1
  match vs,vs',h2 with
  | [],[],h2=>exact .tuple _ _ rfl fun j x y hx=>by simp at hx
  | [v],[v'],h2=>simpa [resV] using h2.head
  | a :: b :: vs,a' :: b' :: vs',h2 =>
   have:¬((a' :: b' :: vs').toArray.size=1):=by simp
   rw [dif_neg this]
   exact .tuple _ _ (by simpa using h2.1) fun j x y hx hy=>h2.2 j x y (by simpa using hx) (by simpa using hy)
 refine ⟨_,?_,hv⟩
 unfold results
 generalize hl:fn.results=rs at h1
 obtain ⟨l⟩:=rs
 rw [List.mapM_toArray]
 simp only [Sem.run_bind,Sem.run_map]
 erw [h1]
 rfl

theorem left_gc {B:Nat}{φ0 φ':Map}{H0 H:Heap}{w0 w':World}{r:Ret}{e:Ending}{lo:Nat}(h0:Emb P B φ0 H0 w0)(h1:Emb P B φ' H w')(hx:Ext B φ0 H0 w0 φ' H w')(hs:Same lo H0 H)(hr:RetR φ' r e) :
  Left P B φ0 H0 w0 (gcR H0 r H lo) e w':=by
 have hdom:∀i s,φ0 i=some s→i < H0.length:=fun i s h=>(h0.inb i s h).1
 have hsub:=hx.sub hdom
 have key:H0.length≤lo→Emb P B φ0 H0 w'∧Ext B φ0 H0 w0 φ0 H0 w':=by
  intro hlo
  refine ⟨⟨fun i s hi=>⟨hdom i s hi,Nat.lt_of_lt_of_le (h0.inb i s hi).2 hx.size⟩,fun i s b hi hb hok=>?_,h0.own,fun i s b hi hb ht j hj=>?_,h0.tipok,h0.sep,h0.fam,h1.tab⟩,
   ⟨Nat.le_refl _,fun _ _=>rfl,fun i s hi hs=>absurd (hdom i s hs) (by omega),hx.size,hx.frame,hx.out⟩⟩
  ·have hlt:=hdom i s hi
   obtain ⟨b',g1,g2,g3,g4,g5⟩:=hs.2 i b (by omega) hb
   obtain ⟨o,o1,o2⟩:=h1.obj i s b' (hsub i s hi) g1 (g3.trans hok)
   obtain ⟨o',_,o3⟩:=h0.obj i s b hi hb hok
   rw [g2] at o2
   exact ⟨o,o1,o3.back hsub o2⟩
  ·have hlt:=hdom i s hi
   obtain ⟨b',g1,g2,g3,g4,g5⟩:=hs.2 i b (by omega) hb
   refine h1.unf i s b' (hsub i s hi) g1 ?_ j hj
   by_cases hf:b.fam=none
   ·rcases ht with ht | ht
    ·exact .inl ((g5 hf).trans ht)
    ·exact absurd hf ht
   ·exact .inr (g4 ▸ hf)
 unfold gcR
 cases r with
 | ok v =>
  dsimp only
  split
  ·rename_i hc
   obtain ⟨k1,k2⟩:=key hc.1
   refine ⟨φ0,k1,k2,?_⟩
   cases e with
   | returned v'=>exact (flat_eq 4 hc.2 hr).2
   | panicked ch=>exact hr
   | outgrown=>exact hr
  ·exact ⟨φ',h1,hx,hr⟩
 | panic v =>
  dsimp only
  split
  ·rename_i hc
   obtain ⟨k1,k2⟩:=key hc.1
   refine ⟨φ0,k1,k2,?_⟩
   cases e with
   | returned v'=>exact hr
   | panicked ch =>
    obtain ⟨v',h2,h3⟩:=hr
    exact ⟨v',h2,(flat_eq 4 hc.2 h3).2⟩
   | outgrown=>exact hr
  ·exact ⟨φ',h1,hx,hr⟩

end
end Go.Pi
namespace Go.Pi
open Go

section
variable {P:Program} {B:Nat} {φ:Map} {H:Heap} {w:World}

theorem SR.entry (hE:Emb P B φ H w)(hB:B≤w.heap.size){args:List Value}{args':Array Value}(hv:VRs φ args args'.toList){n lo:Nat}{rnd:Bool}(hn:args.length≤n) :
  SR ⟨P,B,φ,H,w⟩ φ (fun _ _=>none) ⟨args,[],[],H,lo,n,rnd⟩ { tmps:=args'++Array.replicate (n - args'.size) undef,defers:=[] } w:=by
 have hl:args.length=args'.size:=by simpa using hv.1
 refine ⟨hE,Ext.refl hE,⟨fun d g o hd hg=>?_,fun d g b hb=>(by cases hb),fun d g d' g' b hb=>(by cases hb),fun d g b hb=>(by cases hb)⟩,by simp; omega,fun t=>?_,.nil,hB,fun i t h=>(hE.inb i t h).1⟩
 ·simp only [sget_nil,Prod.mk.injEq] at hd
  omega
 ·refine .vr _ _ ?_
  rw [get_getElem?,Array.getD_eq_getD_getElem?,Array.getElem?_append]
  cases ht:args[t]? with
  | none =>
   have hge:¬t < args'.size:=by
    have:=List.getElem?_eq_none_iff.1 ht
    omega
   rw [if_neg hge]
   have:((Array.replicate (n - args'.size) undef)[t - args'.size]?).getD undef=undef:=by
    rw [Array.getElem?_replicate]
    split <;> rfl
   rw [this]
   exact VR.undef φ
  | some x =>
   obtain ⟨y,hy,hxy⟩:=hv.get ht
   have hlt:t < args'.size:=by
    have:=(List.getElem?_eq_some_iff.1 ht).1
    omega
   rw [if_pos hlt]
   have:args'[t]?=some y:=by simpa using hy
   rw [this]
   exact hxy

end
end Go.Pi
