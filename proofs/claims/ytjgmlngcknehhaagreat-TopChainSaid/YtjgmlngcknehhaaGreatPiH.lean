/- Functions are carried out as in the small language: deferred calls. -/
import Derived.RangeFuncRecord
import Derived.Test.YtjgmlngcknehhaaGreatPiG
set_option linter.all false
namespace Go.Pi
open Go

def UR (φ:Map):Option Value→FrameMode→Prop
 | none,.returning=>True
 | some v,.panicking ch=>∃v',ch=[{ v:=v',recovered:=false }]∧VR φ v v'
 | _,_=>False

theorem UR.mono {φ φ':Map}(h:∀i s,φ i=some s→φ' i=some s){pv:Option Value}{u:FrameMode}(hu:UR φ pv u):UR φ' pv u:=by
 cases pv <;> cases u <;> simp only [UR] at hu ⊢
 obtain ⟨v',h1,h2⟩:=hu
 exact ⟨v',h1,h2.mono h⟩

theorem UR.settle {φ:Map}{pv:Option Value}{u:FrameMode}(hu:UR φ pv u):Go.settle u=u:=by
 cases pv <;> cases u <;> simp only [UR] at hu
 ·rfl
 ·obtain ⟨v',rfl,_⟩:=hu; rfl

theorem UR.not_run {φ:Map}{pv:Option Value}{u:FrameMode}(hu:UR φ pv u):u≠.run:=by
 cases pv <;> cases u <;> simp only [UR] at hu <;> simp

section
variable {P:Program} {B:Nat} {φ:Map} {H:Heap} {w:World} {PP:FuncId→Option PFunc} {prims:Prims} {call:CallT} {m n:Nat}

def PPok (P:Program)(PP:FuncId→Option PFunc):Prop:=∀f pf,PP f=some pf→∃L,compF P L f=some pf

theorem compF_spec {L:List Tmp}{f:FuncId}{pf:PFunc}(h:compF P L f=some pf):∃fn c,P.funcs[f]?=some fn∧fn.body=some c∧okFn P f=true∧fn.results.toList.all (resOk P)=true∧pf.n=fn.ntmps∧pf.res=fn.results.toList.map (compRes P) ∧
  ((pf.rc=none∧compC P L c=some pf.body)∨∃d c',pf.rc=some d∧rcOf c=some (d,c')∧compC P L c'=some pf.body):=by
 unfold compF at h
 split at h
 ·rename_i fn hfn
  split at h
  ·cases h
  ·rename_i hc
   simp only [Bool.or_eq_true,beq_iff_eq,Bool.not_eq_true',not_or,Bool.not_eq_false] at hc
   simp only [Option.bind_eq_some_iff] at h
   obtain ⟨c,hb,h⟩:=h
   have hok:okFn P f=true:=by simp [okFn,hfn,hb,hc.1]
   split at h
   ·rename_i d c' hrc
    simp only [Option.map_eq_some_iff] at h
    obtain ⟨pc,hpc,rfl⟩:=h
    exact ⟨fn,c,hfn,hb,hok,hc.2,rfl,rfl,.inr ⟨d,c',rfl,hrc,hpc⟩⟩
   ·simp only [Option.map_eq_some_iff] at h
    obtain ⟨pc,hpc,rfl⟩:=h
    exact ⟨fn,c,hfn,hb,hok,hc.2,rfl,rfl,.inl ⟨rfl,hpc⟩⟩
 ·cases h

theorem endR_ex {e:Ex}(h:endR e=some none):e=.normal∨e=.ret:=by
 cases e <;> simp [endR] at h <;> simp

theorem DefsR.nil_eq {φ:Map}{ds:List Deferred}(h:DefsR φ [] ds):ds=[]:=by cases h; rfl

def LeftD (P:Program)(B:Nat)(φ:Map)(H:Heap)(w:World)(H':Heap)(pv:Option Value)(e:Ending)(u:FrameMode)(w':World):Prop :=
 ∃v φ',e=.returned v∧Emb P B φ' H' w'∧Ext B φ H w φ' H' w'∧UR φ' pv (Go.settle u)

theorem drun_run (hPP:PPok P PP)(hsim:CallSim P B call)(hdraw:∀E:Ent,E.P=P→E.B=B→DrawOk E none call){f:FuncId}{args:List Value}{args':Array Value}{pv pv':Option Value}{H':Heap}{lo:Nat}{u:FrameMode}
  (hr:drun PP prims call m (.func f) args H pv=some (H',lo,pv')) (hE:Emb P B φ H w) (hB:B≤w.heap.size) (hv:VRs φ args args'.toList) (hu:UR φ pv u) :
  okFn P f=true∧CallsDIn (W none) n P f args' u w (LeftD P B φ H w H' pv'):=by
 simp only [drun] at hr
 split at hr
 ·rename_i pf _ hpf
  obtain ⟨L,hL⟩:=hPP f pf hpf
  obtain ⟨fn,c,hfn,hb,hok,hres,hpn,hpres,hbody⟩:=compF_spec hL
  refine ⟨hok,?_⟩
  split at hr
  ·rename_i hn
   rcases hbody with ⟨hrc,hbody⟩ | ⟨d,c',hrc,hrcof,hbody⟩
   ·-- it does not recover
    rw [hrc] at hr
    simp only at hr
    split at hr
    ·rename_i e s hcode
     split at hr
     ·rename_i vs he hD hres'
      simp only [Option.some.injEq,Prod.mk.injEq] at hr
      obtain ⟨rfl,rfl,rfl⟩:=hr
      have hentry:=SR.entry hE hB hv (n:=pf.n) (lo:=H.length) (rnd:=false) hn
      have hcr:=code_run (n:=n) (m:=m) hsim (hdraw _ rfl rfl) c hbody hcode rfl hentry
      rw [hpn] at hcr
      refine CallsDIn.mono (callsDIn_of_wp (R:=fun e' w'=>∃v φ',e'=.returned v∧Emb P B φ' s.H w'∧Ext B φ H w φ' s.H w') hfn hb trivial (wpIn_mono hcr fun e' a' w' hp=>?_)) fun e' u' w' hh=>?_
      ·obtain ⟨φ',lm',hx,hs⟩:=hp
       have hd0:a'.defers=[]:=(hD ▸ hs.dfr).nil_eq
       obtain ⟨v',hv1,hv2⟩:=results_run hs hres (by rw [←hpres]; exact hres')
       rcases endR_ex he with rfl | rfl
       ·cases e' <;> simp only [ExR] at hx
        exact ⟨hd0,v',hv1,v',φ',rfl,hs.emb,hs.ext⟩
       ·cases e' <;> simp only [ExR] at hx
        exact ⟨hd0,v',hv1,v',φ',rfl,hs.emb,hs.ext⟩
      ·obtain ⟨rfl,v,φ',h1,h2,h3⟩:=hh
       exact ⟨v,φ',h1,h2,h3,by rw [hu.settle]; exact hu.mono (h3.sub fun i s hi=>(hE.inb i s hi).1)⟩
     ·cases hr
    ·cases hr
   ·-- it recovers first of all
    rw [hrc] at hr
    simp only at hr
    by_cases hd:d < pf.n
    case neg=>rw [if_neg hd] at hr; cases hr
    rw [if_pos hd] at hr
    simp only at hr
    split at hr
    ·rename_i e s hcode
     split at hr
     ·rename_i vs he hD hres'
      simp only [Option.some.injEq,Prod.mk.injEq] at hr
      obtain ⟨rfl,rfl,rfl⟩:=hr
      have hentry:=SR.entry hE hB hv (n:=pf.n) (lo:=H.length) (rnd:=false) hn
      obtain ⟨id,ops,hcseq,as,ty,pos,af,hops⟩:∃id ops,c=.seq (.region id ops false) c'∧∃as ty pos af,ops.toList=[⟨some d,.call ⟨.builtin .recover,#[],as⟩,ty,pos,af,none⟩]:=by
       unfold rcOf at hrcof
       split at hrcof
       ·split at hrcof
        ·rename_i hl
         simp only [Option.some.injEq,Prod.mk.injEq] at hrcof
         obtain ⟨rfl,rfl⟩:=hrcof
         exact ⟨_,_,rfl,_,_,_,_,hl⟩
        ·cases hrcof
       ·cases hrcof
      subst hcseq
      have hops':ops=#[⟨some d,.call ⟨.builtin .recover,#[],as⟩,ty,pos,af,none⟩]:=by rw [←Array.toList_inj]; exact hops
      subst hops'
      have rest:∀(v v':Value) (u':FrameMode) (c₀:Frame) (cs:List Frame),VR φ v v'→Go.settle u'=.returning→pv.getD .nilIface=v→Code.wpSIn (W none) n P c' (bodyPostS P fn c₀ cs (LeftD P B φ H w s.H none)) (({ tmps:=args'++Array.replicate (fn.ntmps - args'.size) undef,defers:=[] }:Act).put (some d) v') ({ c₀ with mode:=u' } :: cs) w:=by
       intro v v' u' c₀ cs hvv hset hpv
       have hput:=hentry.put (d:=some d) (.vr _ _ hvv) (s':=⟨set args d v,[],[],H,H.length,pf.n,false⟩) (by simp [put,hd])
       rw [hpv] at hcode
       have hcr:=code_run (n:=n) (m:=m) hsim (hdraw _ rfl rfl) c' hbody hcode rfl hput
       rw [hpn] at hcr
       refine wpSIn_of_wpIn rfl (wpIn_mono hcr fun e' a' w' hp=>?_)
       obtain ⟨φ',lm',hx,hs⟩:=hp
       have hd0:a'.defers=[]:=(hD ▸ hs.dfr).nil_eq
       obtain ⟨v2,hv1,hv2⟩:=results_run hs hres (by rw [←hpres]; exact hres')
       have fin:LeftD P B φ H w s.H none (.returned v2) u' w':=⟨v2,φ',rfl,hs.emb,hs.ext,by rw [hset]; trivial⟩
       rcases endR_ex he with rfl | rfl
       ·cases e' <;> simp only [ExR] at hx
        exact ⟨hd0,u',rfl,v2,hv1,fin⟩
       ·cases e' <;> simp only [ExR] at hx
        exact ⟨hd0,u',rfl,v2,hv1,fin⟩
      refine callsDIn_of_wpSIn hfn hb trivial fun c₀ cs hcu=>wpSIn_seq (wpSIn_region ?_)
      have hexec:∀(a:Act),(execOp a.eval ⟨some d,.call ⟨.builtin .recover,#[],as⟩,ty,pos,af,none⟩).run P w=.ok .recover w:=by
       intro a
       obtain ⟨consts,hx⟩:=builtin_exec (P:=P) a.eval (o:=⟨some d,.call ⟨.builtin .recover,#[],as⟩,ty,pos,af,none⟩) rfl rfl w
       rw [hx]; rfl
      show wpOpsSIn (W none) n P _ _ (List.range 1) _ _ w
      simp only [List.range_one,wpOpsSIn,List.getElem?_toArray,List.getElem?_cons_zero]
      refine ⟨fun _ _=>trivial,?_⟩
      rw [if_pos (by rfl)]
      rw [hexec]
      simp only
      cases pv with
      | none =>
       cases u <;> simp only [UR] at hu
       have hrec:recoverD (c₀ :: cs)=none:=by simp [recoverD,hcu]
       rw [hrec]
       simp only [Exit.thenS]
       have:=rest .nilIface .nilIface .returning c₀ cs .nilI rfl rfl
       rw [←hcu] at this
       exact this
      | some v =>
       cases u <;> simp only [UR] at hu
       obtain ⟨v',rfl,hvv⟩:=hu
       have hrec:recoverD (c₀ :: cs)=some (v',{ c₀ with mode:=.panicking [{ v:=v',recovered:=true }] } :: cs):=by simp [recoverD,hcu]
       rw [hrec]
       simp only [Exit.thenS]
       exact rest v v' _ c₀ cs hvv rfl rfl
     ·cases hr
    ·cases hr
  ·cases hr
 ·cases hr

end
end Go.Pi
namespace Go.Pi
open Go

section
variable {E:Ent} {PP:FuncId→Option PFunc} {prims:Prims} {call:CallT} {m n:Nat}

theorem SR.noD {φ:Map}{lm:LMap}{s:St}{a:Act}{w:World}(h:SR E φ lm s a w):SR E φ lm { s with D:=[] } { a with defers:=[] } w :=
 ⟨h.emb,h.ext,h.loc,h.siz,h.env,.nil,h.hB,h.dom⟩

theorem unw_run (hPP:PPok E.P PP)(hsim:CallSim E.P E.B call)(hdraw:∀E':Ent,E'.P=E.P→E'.B=E.B→DrawOk E' none call){fn:Func}{a:Act}{R:Ending→World→Prop}{s1:St}{pv':Option Value} :
  ∀(ds:List PD) (defs:List Deferred) (pv:Option Value) (s:St) (φ:Map) (lm:LMap) (u:FrameMode) (w:World),unw PP prims call m ds pv s=some (pv',s1)→DefsR φ ds defs→SR E φ lm { s with D:=[] } { a with defers:=[] } w→UR φ pv u →
   (∀φ1 lm1 u1 w1,SR E φ1 lm1 { s1 with D:=[] } { a with defers:=[] } w1→UR φ1 pv' u1→LeavesInM (W none) n E.P fn a.tmps R [] u1 w1)→LeavesInM (W none) n E.P fn a.tmps R defs u w:=by
 intro ds
 induction ds with
 | nil =>
  intro defs pv s φ lm u w hr hd h hu fin
  cases hd
  simp only [unw,Option.some.injEq,Prod.mk.injEq] at hr
  obtain ⟨rfl,rfl⟩:=hr
  exact fin φ lm u w h hu
 | cons d ds ih =>
  intro defs pv s φ lm u w hr hd h hu fin
  cases hd with
  | cons _ d' _ ds' hdd hds =>
   cases d with
   | call f args =>
    cases f with
    | func f =>
     obtain ⟨cap,a',rfl,hv⟩:=hdd
     simp only [unw] at hr
     split at hr
     ·rename_i H lo pv2 hdr
      obtain ⟨hok,hcd⟩:=drun_run (n:=n - 1) hPP hsim hdraw hdr h.emb (Nat.le_trans h.hB h.ext.size) hv hu
      refine ⟨hu.not_run,.inr ⟨fun hh=>(by cases hh),.func f,cap,f,a'++cap,rfl,?_,fun _ _=>trivial,?_⟩⟩
      ·simp only [invoke]; exact callFunc_run hok _ w
      ·refine CallsDIn.mono hcd fun e' u' w' hl=>?_
       obtain ⟨v,φ',rfl,h1,h2,h3⟩:=hl
       have hs:=h.after (out:=⟨.ok v,H,lo⟩) h1 h2
       exact ih ds' pv2 _ φ' lm (Go.settle u') w' hr (hds.mono (h2.sub fun i t hi=>(h.emb.inb i t hi).1)) hs h3 fin
     ·cases hr
    | _=>exact hdd.elim
   | coll r =>
    obtain ⟨sl,hsl,rfl⟩:=hdd
    simp only [unw] at hr
    split at hr
    ·rename_i hH
     obtain ⟨ob,o1,o2⟩:=h.emb.obj r sl _ hsl hH rfl
     cases o2 with
     | dfr0 _ =>
      have hlt:=(Array.getElem?_eq_some_iff.1 o1).1
      have hget:(getObj sl.b).run E.P w=.ok (.deferred (some [])) w:=by simp [getObj,Sem.run,o1]
      have hset:∀ob',(setObj sl.b ob').run E.P w=.ok () { w with heap:=w.heap.setIfInBounds sl.b ob' }:=fun ob'=>by simp [setObj,Sem.run,o1]
      have hs:SR E φ lm { setB s r (.dfr true) with D:=[] } { a with defers:=[] } { w with heap:=w.heap.setIfInBounds sl.b (.deferred none) }:=by
       refine h.setH (w':={ w with heap:=w.heap.setIfInBounds sl.b (.deferred none) }) (ob:=.deferred none) (H':=s.H.set r { obj:=.dfr true }) hsl (h.emb.own r sl _ hsl hH (.inl rfl)) (by simp) ⟨rfl,rfl,rfl⟩ ?_ _
       refine h.emb.put hsl hH rfl (fun k sk bk hk hsk hbk hok he=>?_) rfl (fun _=>rfl) rfl (.dfr1 _) (fun x=>?_)
       ·exact (h.emb.sep r k sl sk _ bk (Ne.symm hk) hsl hsk hH hbk rfl hok he.symm).2.2.1 rfl
       ·simp only [World.frozen?]
        by_cases hb:x.block=sl.b
        ·rw [hb,o1]; simp [hlt]
        ·rw [Array.getElem?_setIfInBounds_ne (Ne.symm hb)]
      refine ⟨hu.not_run,.inl ⟨sl.b,_,rfl,?_,ih ds' pv _ φ lm u _ hr hds hs hu fin⟩⟩
      simp only [Instr.takeDeferred,Sem.run_bind,hget,Result.andThen_ok,hset,Sem.run_pure]
    ·cases hr

end
end Go.Pi
namespace Go.Pi
open Go

section
variable {P:Program} {B:Nat} {PP:FuncId→Option PFunc} {prims:Prims} {m n:Nat}

theorem resR_noD (s:St)(l:List (Tmp×Option (Option Nat))):resR { s with D:=[] } l=resR s l:=by
 induction l with
 | nil=>rfl
 | cons x l ih =>
  obtain ⟨t,o⟩:=x
  cases o with
  | none=>simp only [resR,ih]
  | some k=>simp only [resR,ih]; rfl

structure PrimsOk (P:Program)(B:Nat)(prims:Prims):Prop where
 sim:∀f g,prims f=some g→∀args H out,g args H=some out→∀φ w args',Emb P B φ H w→B≤w.heap.size→VRs φ args args'.toList→FnSim P B φ H w args' out (.func f)
 keeps:∀f g,prims f=some g→∀args H out,g args H=some out→Fam H→Fam out.H∧Same out.lo H out.H

def DrawsOk (P:Program)(B:Nat):Prop:=∀(call:CallT),CallSim P B call→CallKeeps call→∀(E:Ent) ro,E.P=P→E.B=B→DrawOk E ro call

def outOf (H:Heap)(pf:PFunc)(s1:St):Option Value→Option Out
 | some v=>some (gcR H (.panic v) s1.H s1.lo)
 | none=>(resR s1 pf.res).map fun vs=>gcR H (.ok (resV vs)) s1.H s1.lo

theorem func_run (hPP:PPok P PP)(hprims:PrimsOk P B prims)(hdraw:DrawsOk P B)(hsim:CallSim P B (run PP prims m)){f:FuncId}{args:List Value}{H:Heap}{out:Out}(hr:run PP prims (m+1) (.func f) args H=some out)
  {φ:Map} {w:World} {args':Array Value} (hE:Emb P B φ H w) (hB:B≤w.heap.size) (hv:VRs φ args args'.toList):FnSim P B φ H w args' out (.func f):=by
 have hF:Fam H:=hE.fam
 have hkeep:CallKeeps (run PP prims m):=keeps_run hprims.keeps m
 simp only [run] at hr
 split at hr
 ·rename_i g hg; exact hprims.sim f g hg args H out hr φ w args' hE hB hv
 ·split at hr
  ·cases hr
  ·rename_i pf hpf
   obtain ⟨L,hL⟩:=hPP f pf hpf
   obtain ⟨fn,c,hfn,hb,hok,hres,hpn,hpres,hbody⟩:=compF_spec hL
   refine ⟨hok,fun n=>?_⟩
   split at hr
   ·rename_i hn
    obtain ⟨hn,hrc0⟩:=hn
    have hbody:compC P L c=some pf.body:=by
     rcases hbody with ⟨_,hbody⟩ | ⟨d,c',hrc,_⟩
     ·exact hbody
     ·rw [hrc] at hrc0; cases hrc0
    split at hr
    ·rename_i e s hcode
     have hk1:=keeps_codeR hkeep _ hcode
     split at hr
     ·cases hr
     ·rename_i pv hpv
      have hentry:=SR.entry hE hB hv (n:=pf.n) (lo:=H.length) (rnd:=false) hn
      have hcr:=code_run (n:=n) (m:=m) hsim (hdraw _ hsim hkeep _ none rfl rfl) c hbody hcode rfl hentry
      rw [hpn] at hcr
      have fin:∀(pv':Option Value) (s1:St) (tmps:Array Value),unw PP prims (run PP prims m) m s.D pv s=some (pv',s1)→outOf H pf s1 pv'=some out →
        ∀φ1 lm1 u1 w1,SR ⟨P,B,φ,H,w⟩ φ1 lm1 { s1 with D:=[] } { tmps:=tmps,defers:=[] } w1→UR φ1 pv' u1→LeavesInM (W none) n P fn tmps (Left P B φ H w out) [] u1 w1:=by
       intro pv' s1 tmps hun hout φ1 lm1 u1 w1 hs hu
       obtain ⟨hk2,_⟩:=keeps_unw hkeep hun
       obtain ⟨_,_,hsame⟩:=(hk1.trans hk2) hF
       cases pv' with
       | some v =>
        cases u1 <;> simp only [UR] at hu
        obtain ⟨v',rfl,hvv⟩:=hu
        simp only [outOf,Option.some.injEq] at hout
        subst hout
        exact left_gc hE hs.emb hs.ext hsame (r:=.panic v) (e:=.panicked [{ v:=v',recovered:=false }]) ⟨v',rfl,hvv⟩
       | none =>
        cases u1 <;> simp only [UR] at hu
        simp only [outOf,Option.map_eq_some_iff] at hout
        obtain ⟨vs,hvs,rfl⟩:=hout
        obtain ⟨v',h1,h2⟩:=results_run hs hres (by rw [resR_noD,←hpres]; exact hvs)
        exact ⟨v',h1,left_gc hE hs.emb hs.ext hsame (r:=.ok (resV vs)) (e:=.returned v') h2⟩
      cases hun:unw PP prims (run PP prims m) m s.D pv s with
      | none=>rw [hun] at hr; cases hr
      | some r =>
       obtain ⟨pv',s1⟩:=r
       rw [hun] at hr
       have hout:outOf H pf s1 pv'=some out:=by
        clear hun
        cases pv' <;> exact hr
       refine callsIn_of_wp_marks hfn hb trivial (wpIn_mono hcr fun e' a' w' hp=>?_)
       obtain ⟨φ',lm',hx,hs⟩:=hp
       have leave:∀u,UR φ' pv u→LeavesInM (W none) n P fn a'.tmps (Left P B φ H w out) a'.defers u w':=fun u hu =>
        unw_run (E:=⟨P,B,φ,H,w⟩) (a:=a') hPP hsim (fun E' h1 h2=>hdraw _ hsim hkeep E' none h1 h2) s.D a'.defers pv s φ' lm' u w' hun hs.dfr hs.noD hu (fin pv' s1 a'.tmps hun hout)
       cases e with
       | normal =>
        simp only [endR,Option.some.injEq] at hpv; subst hpv
        cases e' <;> simp only [ExR] at hx
        exact leave .returning trivial
       | ret =>
        simp only [endR,Option.some.injEq] at hpv; subst hpv
        cases e' <;> simp only [ExR] at hx
        exact leave .returning trivial
       | panic v =>
        simp only [endR,Option.some.injEq] at hpv; subst hpv
        obtain ⟨v',rfl,hvv⟩:=hx.panic_inv
        exact leave (.panicking [{ v:=v',recovered:=false }]) ⟨v',rfl,hvv⟩
       | exit i=>simp [endR] at hpv
    ·cases hr
   ·cases hr

end
end Go.Pi
namespace Go.Pi
open Go

section
variable {P:Program} {B:Nat} {PP:FuncId→Option PFunc} {prims:Prims} {m n:Nat}

theorem sets_VRs {φ:Map}:∀(ps:List Tmp) (args args':List Value) (T:List Value) (tmps:Array Value),VRs φ args args'→args.length=ps.length→ps.all (· < tmps.size)=true→(∀t,VR φ (get T t) (tmps.getD t undef)) →
  ∀t,VR φ (get (setParams T ps args) t) (((ps.zip args').foldl (fun tmps (t,a)=>tmps.setIfInBounds t a) tmps).getD t undef)
 | [],args,args',T,tmps,_,hl,_,hT=>by
  have:args=[]:=List.length_eq_zero_iff.1 (by simpa using hl)
  subst this
  simpa [setParams] using hT
 | p :: ps,[],args',T,tmps,_,hl,_,hT=>by simp at hl
 | p :: ps,v :: vs,args',T,tmps,hv,hl,hp,hT=>by
  cases args' with
  | nil=>exact absurd hv.1 (by simp)
  | cons v' vs' =>
   simp only [List.all_cons,Bool.and_eq_true,decide_eq_true_eq] at hp
   have hvv:VR φ v v':=hv.2 0 v v' rfl rfl
   have hvs:VRs φ vs vs':=⟨by have:=hv.1; simpa using this,fun j x y hx hy=>hv.2 (j+1) x y (by simpa using hx) (by simpa using hy)⟩
   simp only [setParams,List.zip_cons_cons,List.foldl_cons]
   refine sets_VRs ps vs vs' (Go.Pi.set T p v) (tmps.setIfInBounds p v') hvs (by simpa using hl) (by simpa using hp.2) fun t=>?_
   rw [get_set,Array.getD_eq_getD_getElem?]
   split
   ·rename_i h; subst h; simp [hp.1]; exact hvv
   ·rename_i h
    rw [Array.getElem?_setIfInBounds_ne (Ne.symm h),←Array.getD_eq_getD_getElem?]
    exact hT t

theorem foldl_sets_size:∀(l:List (Tmp×Value)) (tmps:Array Value),(l.foldl (fun tmps (t,a)=>tmps.setIfInBounds t a) tmps).size=tmps.size
 | [],_=>rfl
 | (t,a) :: l,tmps=>by simp only [List.foldl_cons]; rw [foldl_sets_size l]; simp

theorem SR.entryT {φ:Map}{H:Heap}{w:World}(hE:Emb P B φ H w)(hB:B≤w.heap.size){T:List Value}{tmps:Array Value}{n lo:Nat}{rnd:Bool}(hsz:tmps.size=n)(hT:∀t,VR φ (get T t) (tmps.getD t undef)) :
  SR ⟨P,B,φ,H,w⟩ φ (fun _ _=>none) ⟨T,[],[],H,lo,n,rnd⟩ { tmps:=tmps,defers:=[] } w:=by
 refine ⟨hE,Ext.refl hE,⟨fun d g o hd hg=>?_,fun d g b hb=>(by cases hb),fun d g d' g' b hb=>(by cases hb),fun d g b hb=>(by cases hb)⟩,hsz,fun t=>.vr _ _ (hT t),.nil,hB,fun i t h=>(hE.inb i t h).1⟩
 simp only [sget_nil,Prod.mk.injEq] at hd
 omega

theorem frozen_loop {w:World}{b:Nat}{l l':Loop}(h:w.heap[b]?=some (.loop l))(x:Addr):({ w with heap:=w.heap.setIfInBounds b (.loop l') }:World).frozen? x=w.frozen? x:=by
 simp only [World.frozen?]
 by_cases hb:x.block=b
 ·rw [hb,h]; have hlt:=(Array.getElem?_eq_some_iff.1 h).1; simp [hlt]
 ·rw [Array.getElem?_setIfInBounds_ne (Ne.symm hb)]

theorem SR.loopGet {E:Ent}{φ:Map}{lm:LMap}{s:St}{a:Act}{w:World}(h:SR E φ lm s a w){i:Nat}{sl:Slot}(hi:φ i=some sl){n:Nat}{T:List Value}{ps:List Tmp}{as bd:PCode}{d:Nat}{st:LoopState}{pend:Option Ex}
  (hH:s.H[i]?=some ⟨.loop n T ps as bd d st pend,true,true,none⟩) :
  ∃l,w.heap[sl.b]?=some (.loop l)∧l.state=st∧ExC pend l.pending∧∀(lo:Nat) (st':LoopState) (pend':Option Ex) (jump:Option Code),ExC pend' jump →
   SR E φ lm { s with H:=s.H.set i { obj:=.loop n T ps as bd d st' pend' },lo:=lo } a (w.putObj sl.b (.loop { l with state:=st',pending:=jump })):=by
 obtain ⟨ob,o1,o2⟩:=h.emb.obj _ _ _ hi hH rfl
 cases o2 with
 | loop _ _ _ _ _ _ _ _ _ l L' sd p2 p3 p4 p5 p6 p7 p8 p9 p10 =>
  refine ⟨l,o1,p9,p10,fun lo st' pend' jump hj=>h.setH (w':=w.putObj sl.b (.loop { l with state:=st',pending:=jump })) (H':=s.H.set i { obj:=.loop n T ps as bd d st' pend' }) (ob:=.loop { l with state:=st',pending:=jump }) hi (h.emb.own _ _ _ hi hH (.inl rfl)) (by simp) ⟨rfl,rfl,rfl⟩ ?_ lo⟩
  refine h.emb.put hi hH rfl (fun k sk bk hk hsk hbk hok he=>?_) rfl (fun _=>rfl) rfl (.loop _ _ _ _ _ _ _ _ _ { l with state:=st',pending:=jump } L' sd p2 p3 p4 p5 p6 p7 p8 rfl hj) (fun x=>frozen_loop o1 x)
  exact (h.emb.sep i k sl sk _ bk (Ne.symm hk) hi hsk hH hbk rfl hok he.symm).2.2.1 rfl

theorem yield_run (hprims:PrimsOk P B prims)(hdraw:DrawsOk P B)(hsim:CallSim P B (run PP prims m)){l:Nat}{args:List Value}{H:Heap}{out:Out}(hr:run PP prims (m+1) (.yield l) args H=some out)
  {φ:Map} {w:World} {args':Array Value} (hE:Emb P B φ H w) (hB:B≤w.heap.size) (hv:VRs φ args args'.toList):FnSim P B φ H w args' out (.yield l):=by
 have hkeep:CallKeeps (run PP prims m):=keeps_run hprims.keeps m
 intro sl hsl
 simp only [run] at hr
 split at hr
 ·rename_i nn T ps as bd d pend hH
  split at hr
  ·rename_i hlen
   obtain ⟨hlen,hpn⟩:=hlen
   split at hr
   ·rename_i s1 hc1
    split at hr
    ·rename_i n2 T2 ps2 as2 bd2 d2 pend2 hH2
     split at hr
     ·cases hr
     ·rename_i e s2 hnp hc2
      split at hr
      ·rename_i n3 T3 ps3 as3 bd3 d3 st3 pend3 hH3
       obtain ⟨ob,o1,o2⟩:=hE.obj _ _ _ hsl hH rfl
       cases o2 with
       | loop _ _ _ _ _ _ _ _ _ r L sd p2 p3 p4 p5 p6 p7 p8 p9 p10 =>
        have hargl:args'.size=r.params.size:=by
         have h1:=hv.1
         have h2:r.params.toList.length=ps.length:=by rw [p4]
         simp at h1 h2; omega
        refine ⟨r.fn,_,r.assign,r.body,run_yield o1 hargl,fun n=>?_⟩
        refine roundIn_of_wpIn trivial ?_
        have hpz:((r.params.zip args').foldl (fun tmps (t,a)=>tmps.setIfInBounds t a) r.tmps)=((ps.zip args'.toList).foldl (fun tmps (t,a)=>tmps.setIfInBounds t a) r.tmps):=by
         rw [←p4,←Array.foldl_toList,Array.toList_zip]
        rw [hpz]
        have hentry:=SR.entryT (lo:=H.length) (rnd:=true) hE hB (T:=setParams T ps args) (tmps:=(ps.zip args'.toList).foldl (fun tmps (t,a)=>tmps.setIfInBounds t a) r.tmps) (n:=nn)
         (by rw [foldl_sets_size]; exact p2) (sets_VRs ps args args'.toList T r.tmps hv hlen (by rw [p2]; exact hpn) p3)
        have hcr:=code_run (n:=n) (m:=m) (ro:=some sl.b) hsim (hdraw _ hsim hkeep ⟨P,B,φ,H,w⟩ (some sl.b) rfl rfl) r.assign p5 hc1 rfl hentry
        refine wpIn_mono hcr fun e1 a1 w1 hp=>?_
        obtain ⟨φ1,lm1,hx1,hs1⟩:=hp
        cases e1 <;> simp only [ExR] at hx1
        have hφ1:φ1 l=some sl:=by rw [hs1.ext.map _ (hE.inb _ _ hsl).1]; exact hsl
        obtain ⟨r1,q1,q2,q3,q4⟩:=hs1.loopGet hφ1 hH2
        have hb1:=run_beginRound (P:=P) q1 q2
        have hs2:=q4 (min s1.lo l) .busy pend2 r1.pending q3
        refine ⟨_,hb1,?_⟩
        have hcr2:=code_run (n:=n) (m:=m) (ro:=some sl.b) hsim (hdraw _ hsim hkeep ⟨P,B,φ,H,w⟩ (some sl.b) rfl rfl) r.body p6 hc2 (by have:=(codeR_keeps _ hc1); simpa [setB] using this) hs2
        refine wpIn_mono hcr2 fun e3 a3 w3 hp3=>?_
        obtain ⟨φ3,lm3,hx3,hs3⟩:=hp3
        have hφ3:φ3 l=some sl:=by rw [hs3.ext.map _ (hE.inb _ _ hsl).1]; exact hsl
        obtain ⟨r3,g1,g2,g3,g4⟩:=hs3.loopGet hφ3 hH3
        have fin:∀(st':LoopState) (pend':Option Ex) (jump:Option Code) (b:Bool),ExC pend' jump→st'=(if jump.isNone then .ready else .done)→b=jump.isNone →
          out=⟨.ok (.bool b),s2.H.set l { obj:=.loop n3 T3 ps3 as3 bd3 d3 st' pend' },min s2.lo l⟩ →
          ∃v w',(Instr.endRound sl.b jump).run P w3=.ok v w'∧Left P B φ H w out (.returned v) w':=by
         intro st' pend' jump b hj hst hb ho
         have hend:=run_endRound (P:=P) jump g1
         have hs4:=g4 (min s2.lo l) st' pend' jump hj
         refine ⟨_,_,hend,φ3,?_⟩
         subst hst hb ho
         exact ⟨hs4.emb,hs4.ext,.bool _⟩
        cases e with
        | normal =>
         cases e3 <;> simp only [ExR] at hx3
         simp only [Option.some.injEq] at hr
         exact fin .ready none none true trivial rfl rfl hr.symm
        | ret =>
         cases e3 <;> simp only [ExR] at hx3
         simp only [Option.some.injEq] at hr
         exact fin .done (some .ret) (some .ret) false trivial rfl rfl hr.symm
        | exit i =>
         cases e3 <;> simp only [ExR] at hx3
         subst hx3
         simp only [Option.some.injEq] at hr
         exact fin .done (some (.exit i)) (some (.exit i)) false rfl rfl rfl hr.symm
        | panic v=>exact absurd rfl (hnp v)
      ·cases hr
     ·cases hr
    ·cases hr
   ·cases hr
  ·cases hr
 ·cases hr

theorem run_sim (hPP:PPok P PP)(hprims:PrimsOk P B prims)(hdraw:DrawsOk P B):∀m,CallSim P B (run PP prims m)
 | 0=>fun fn args H out h=>by cases fn <;> simp [run] at h
 | m+1=>fun fn args H out h φ w args' hE hB hv=>by
  cases fn with
  | func f=>exact func_run hPP hprims hdraw (run_sim hPP hprims hdraw m) h hE hB hv
  | yield l=>exact yield_run hprims hdraw (run_sim hPP hprims hdraw m) h hE hB hv
  | _=>simp [run] at h

end
end Go.Pi
