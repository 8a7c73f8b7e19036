/- Without fuel: what is computed with enough of it. -/
import Derived.Test.YtjgmlngcknehhaaGreatPiI
set_option linter.all false
namespace Go.Pi
open Go

def Le (call call':CallT):Prop:=∀fn args H out,call fn args H=some out→call' fn args H=some out

section
variable {call call':CallT} {PP:FuncId→Option PFunc} {prims:Prims}

theorem callR_mono (h:Le call call'){o:PIns}{s:St}{f:Value}{vs:List Value}{r:Ex×St}(hr:opR.callR call o s f vs=some r):opR.callR call' o s f vs=some r:=by
 unfold opR.callR at hr ⊢
 split at hr
 ·rename_i hl
  rw [if_pos hl]
  split at hr
  ·rename_i fn args hfa
   cases hc:call fn args s.H with
   | none=>rw [hc] at hr; cases hr
   | some out =>
    rw [hc] at hr
    simp only [hfa,h _ _ _ _ hc]
    exact hr
  ·cases hr
 ·cases hr

theorem opR_mono (h:Le call call'){o:PIns}{s:St}{r:Ex×St}(hr:opR call o s=some r):opR call' o s=some r:=by
 obtain ⟨d,p,g⟩:=o
 cases p with
 | call f xs=>simp only [opR] at hr ⊢; exact callR_mono h hr
 | inv x tb xs =>
  simp only [opR] at hr ⊢
  split at hr
  ·split at hr
   ·exact callR_mono h hr
   ·cases hr
  ·cases hr
 | _=>exact hr

theorem opsR_mono (h:Le call call'):∀{ops:List PIns} {s:St} {r:Ex×St},opsR call ops s=some r→opsR call' ops s=some r
 | [],_,_,hr=>hr
 | o :: ops,s,r,hr=>by
  simp only [opsR] at hr ⊢
  split at hr
  ·rename_i hw
   cases ho:opR call o s with
   | none=>rw [ho] at hr; cases hr
   | some x =>
    obtain ⟨e,s1⟩:=x
    rw [ho] at hr
    rw [opR_mono h ho]
    cases e with
    | normal=>exact opsR_mono h hr
    | _=>exact hr
  ·rename_i hw
   split at hr
   ·exact opsR_mono h hr
   ·cases hr
  ·cases hr

theorem opsD_mono (h:Le call call'):∀{ops:List PIns} {fs:List Flag} {s:St} {r:Ex×St},opsD call ops fs s=some r→opsD call' ops fs s=some r
 | [],_,_,_,hr=>hr
 | o :: ops,[],s,r,hr=>by simp [opsD] at hr
 | o :: ops,f :: fs,s,r,hr=>by
  simp only [opsD] at hr ⊢
  split at hr
  ·split at hr
   ·rename_i hw hcl
    rw [if_pos hcl]
    cases ho:opR call o { s with lo:=s.H.length } with
    | none=>rw [ho] at hr; cases hr
    | some x =>
     obtain ⟨e,s1⟩:=x
     rw [ho] at hr
     rw [opR_mono h ho]
     cases e with
     | normal =>
      simp only at hr ⊢
      split at hr
      ·rename_i hlo
       rw [if_pos hlo]; exact opsD_mono h hr
      ·cases hr
     | _=>exact hr
   ·cases hr
  ·split at hr
   ·exact opsD_mono h hr
   ·cases hr
  ·cases hr

theorem loopN_mono {b b':St→Option (Ex×St)}(hb:∀s r,b s=some r→b' s=some r):∀{n n':Nat} {s:St} {r:Ex×St},n≤n'→loopN b n s=some r→loopN b' n' s=some r
 | 0,_,_,_,_,hr=>by simp [loopN] at hr
 | n+1,0,_,_,hn,_=>by omega
 | n+1,n'+1,s,r,hn,hr=>by
  simp only [loopN] at hr ⊢
  cases hx:b s with
  | none=>rw [hx] at hr; cases hr
  | some x =>
   obtain ⟨e,s1⟩:=x
   rw [hx] at hr
   rw [hb _ _ hx]
   cases e with
   | normal=>exact loopN_mono hb (by omega) hr
   | _=>exact hr

theorem codeR_mono (h:Le call call'):∀{c:PCode} {m m':Nat} {s:St} {r:Ex×St},m≤m'→codeR call m c s=some r→codeR call' m' c s=some r:=by
 intro c
 induction c with
 | skip=>intro m m' s r _ hr; exact hr
 | reg ops=>intro m m' s r _ hr; simp only [codeR] at hr ⊢; exact opsR_mono h hr
 | dreg ops fs=>intro m m' s r _ hr; simp only [codeR] at hr ⊢; exact opsD_mono h hr
 | seq a b iha ihb =>
  intro m m' s r hm hr
  simp only [codeR] at hr ⊢
  cases hx:codeR call m a s with
  | none=>rw [hx] at hr; cases hr
  | some x =>
   obtain ⟨e,s1⟩:=x
   rw [hx] at hr
   rw [iha hm hx]
   cases e with
   | normal=>exact ihb hm hr
   | _=>exact hr
 | cond c a b iha ihb =>
  intro m m' s r hm hr
  simp only [codeR] at hr ⊢
  split at hr
  ·exact iha hm hr
  ·exact ihb hm hr
  ·cases hr
 | blk id c ih =>
  intro m m' s r hm hr
  simp only [codeR] at hr ⊢
  cases hx:codeR call m c s with
  | none=>rw [hx] at hr; cases hr
  | some x =>
   obtain ⟨e,s1⟩:=x
   rw [hx] at hr
   rw [ih hm hx]
   exact hr
 | loop c ih =>
  intro m m' s r hm hr
  simp only [codeR] at hr ⊢
  exact loopN_mono (fun s r hr=>ih hm hr) hm hr
 | rf f ps a b iha ihb =>
  intro m m' s r hm hr
  simp only [codeR] at hr ⊢
  split at hr
  ·cases hr
  ·rename_i hrnd
   rw [if_neg hrnd]
   split at hr
   ·rename_i g args hfa
    split at hr
    ·rename_i v H lo hcall
     simp only [hfa,h _ _ _ _ hcall]
     exact hr
    ·cases hr
   ·cases hr
 | exit id=>intro m m' s r _ hr; exact hr
 | ret=>intro m m' s r _ hr; exact hr

theorem drun_mono (h:Le call call'){m m':Nat}(hm:m≤m'){fn:Fn}{args:List Value}{H:Heap}{pv:Option Value}{r:Heap×Nat×Option Value}(hr:drun PP prims call m fn args H pv=some r):drun PP prims call' m' fn args H pv=some r:=by
 cases fn with
 | func f =>
  simp only [drun] at hr ⊢
  cases hp:prims f with
  | some g=>rw [hp] at hr; cases hr
  | none =>
   rw [hp] at hr
   cases hpp:PP f with
   | none=>rw [hpp] at hr; cases hr
   | some pf =>
    rw [hpp] at hr
    simp only at hr ⊢
    split at hr
    ·rename_i hn
     rw [if_pos hn]
     have fin:∀(T:List Value) (pv':Option Value),(match codeR call m pf.body ⟨T,[],[],H,H.length,pf.n,false⟩ with
       | some (e,s)=>(match endR e,s.D,resR s pf.res with | some none,[],some _=>some (s.H,s.lo,pv') | _,_,_=>none)
       | none=>none)=some r→(match codeR call' m' pf.body ⟨T,[],[],H,H.length,pf.n,false⟩ with
       | some (e,s)=>(match endR e,s.D,resR s pf.res with | some none,[],some _=>some (s.H,s.lo,pv') | _,_,_=>none)
       | none=>none)=some r:=by
      intro T pv' hr
      cases hc:codeR call m pf.body ⟨T,[],[],H,H.length,pf.n,false⟩ with
      | none=>rw [hc] at hr; cases hr
      | some x =>
       rw [hc] at hr
       rw [codeR_mono h hm hc]
       exact hr
     cases hrc:pf.rc with
     | none=>rw [hrc] at hr; exact fin _ _ hr
     | some d =>
      rw [hrc] at hr
      by_cases hd:d < pf.n
      ·simp only [if_pos hd] at hr ⊢; exact fin _ _ hr
      ·simp only [if_neg hd] at hr; cases hr
    ·cases hr
 | _=>simp [drun] at hr

theorem unw_mono (h:Le call call'){m m':Nat}(hm:m≤m'):∀{ds:List PD} {pv:Option Value} {s:St} {r:Option Value×St},unw PP prims call m ds pv s=some r→unw PP prims call' m' ds pv s=some r
 | [],_,_,_,hr=>hr
 | .call fn args :: ds,pv,s,r,hr=>by
  simp only [unw] at hr ⊢
  split at hr
  ·rename_i H lo pv' hd
   rw [drun_mono h hm hd]
   exact unw_mono h hm hr
  ·cases hr
 | .coll i :: ds,pv,s,r,hr=>by
  simp only [unw] at hr ⊢
  split at hr
  ·exact unw_mono h hm hr
  ·cases hr

theorem run_mono:∀m,Le (run PP prims m) (run PP prims (m+1))
 | 0=>fun fn args H out h=>by cases fn <;> simp [run] at h
 | m+1=>fun fn args H out h=>by
  have ih:=run_mono m
  cases fn with
  | func f =>
   unfold run at h ⊢
   split at h
   ·exact h
   ·split at h
    ·cases h
    ·rename_i pf hpf
     split at h
     ·rename_i hn
      rw [if_pos hn]
      cases hc:codeR (run PP prims m) m pf.body ⟨args,[],[],H,H.length,pf.n,false⟩ with
      | none=>rw [hc] at h; cases h
      | some x =>
       obtain ⟨e,s⟩:=x
       rw [hc] at h
       rw [codeR_mono ih (Nat.le_succ m) hc]
       simp only at h ⊢
       cases hpv:endR e with
       | none=>rw [hpv] at h; cases h
       | some pv =>
        rw [hpv] at h
        simp only at h ⊢
        cases hu:unw PP prims (run PP prims m) m s.D pv s with
        | none=>rw [hu] at h; cases h
        | some x =>
         rw [hu] at h
         rw [unw_mono ih (Nat.le_succ m) hu]
         exact h
     ·cases h
  | yield l =>
   unfold run at h ⊢
   split at h
   ·rename_i nn T ps as bd d pend hH
    split at h
    ·rename_i hlen
     simp only [if_pos hlen]
     split at h
     ·rename_i s1 hc1
      rw [codeR_mono ih (Nat.le_succ m) hc1]
      simp only
      split at h
      ·rename_i n2 T2 ps2 as2 bd2 d2 pend2 hH2
       split at h
       ·cases h
       ·rename_i e s2 hnp hc2
        simp only [codeR_mono ih (Nat.le_succ m) hc2]
        split at h
        ·rename_i n3 T3 ps3 as3 bd3 d3 st3 pend3 hH3
         cases e <;> first | exact absurd rfl (hnp _) | exact h
        ·cases h
       ·cases h
      ·cases h
     ·cases h
    ·cases h
   ·cases h
  | _=>simp [run] at h

theorem run_le {m m':Nat}(h:m≤m'):Le (run PP prims m) (run PP prims m'):=by
 induction m' with
 | zero=>rw [Nat.le_zero.1 h]; exact fun _ _ _ _ h=>h
 | succ m' ih =>
  rcases Nat.lt_or_ge m (m'+1) with hlt | hge
  ·exact fun fn args H out hr=>run_mono m' _ _ _ _ (ih (by omega) _ _ _ _ hr)
  ·rw [Nat.le_antisymm h hge]; exact fun _ _ _ _ h=>h

end
end Go.Pi
namespace Go.Pi
open Go

section
variable {PP:FuncId→Option PFunc} {prims:Prims} {α:Type}

variable {call:CallT} {m:Nat} {F:Ex→St→Option α} {s:St}

theorem opR_ex {o:PIns}{e:Ex}{s1:St}(h:opR call o s=some (e,s1)):e=.normal∨∃v,e=.panic v:=by
 obtain ⟨d,p,g⟩:=o
 have hp:∀{s2:St} {d:Option Tmp} {v:Value},putO s2 d v=some (e,s1)→e=.normal∨∃v,e=.panic v:=fun h=>.inl (putO_put h).1
 have hn:∀{d:Option Tmp} {al:Option Alc},newO s d al=some (e,s1)→e=.normal∨∃v,e=.panic v:=fun {d al} h=>by
  cases al with
  | none=>cases h
  | some al=>exact hp h
 have hc:∀{f:Value} {vs:List Value},opR.callR call ⟨d,p,g⟩ s f vs=some (e,s1)→e=.normal∨∃v,e=.panic v:=fun {f vs} h=>by
  unfold opR.callR at h
  split at h
  ·split at h
   ·split at h
    ·exact hp h
    ·cases h; exact .inr ⟨_,rfl⟩
    ·cases h
   ·cases h
  ·cases h
 cases p <;> simp only [opR] at h
 case box=>exact hn h
 case alloc=>exact hn h
 case bs=>exact hn h
 case mks=>exact hn h
 case s2b=>exact hn h
 case mkm=>exact hn h
 case rng=>exact hn h
 case call=>exact hc h
 case inv =>
  split at h
  ·split at h
   ·exact hc h
   ·cases h
  ·cases h
 all_goals
  repeat' split at h
  all_goals first | exact hp h | (cases h; done) | (cases h; exact .inr ⟨_,rfl⟩) | (cases h; exact .inl rfl)

theorem opsR_exit {l:List PIns}{s s1:St}{i:Nat}:opsR call l s≠some (.exit i,s1):=by
 intro h
 induction l generalizing s with
 | nil=>simp [opsR] at h
 | cons o l ih =>
  simp only [opsR] at h
  split at h
  ·cases ho:opR call o s with
   | none=>rw [ho] at h; cases h
   | some x =>
    obtain ⟨e,s2⟩:=x
    rw [ho] at h
    rcases opR_ex ho with rfl | ⟨v,rfl⟩
    ·exact ih h
    ·simp at h
  ·split at h
   ·exact ih h
   ·cases h
  ·cases h
theorem opsD_exit {l:List PIns}{fs:List Flag}{s s1:St}{i:Nat}:opsD call l fs s≠some (.exit i,s1):=by
 intro h
 induction l generalizing s fs with
 | nil=>simp [opsD] at h
 | cons o l ih =>
  cases fs with
  | nil=>simp [opsD] at h
  | cons f fs =>
   simp only [opsD] at h
   split at h
   ·split at h
    ·cases ho:opR call o { s with lo:=s.H.length } with
     | none=>rw [ho] at h; cases h
     | some x =>
      obtain ⟨e,s2⟩:=x
      rw [ho] at h
      rcases opR_ex ho with rfl | ⟨v,rfl⟩
      ·simp only at h
       split at h
       ·exact ih h
       ·cases h
      ·simp only at h
       split at h <;> simp at h
    ·cases h
   ·split at h
    ·exact ih h
    ·cases h
   ·cases h
theorem opR_guard (d p g):opR call ⟨d,p,g⟩ s=opR call ⟨d,p,none⟩ s:=by cases p <;> rfl
def wv (v:Value)(w:Bool):Option Bool:=match v with | .bool b=>some (b == w) | .tuple ⟨[]⟩=>some false | _=>none
theorem wanted_v (T d p t w):wanted ⟨d,p,some (t,w)⟩ T=wv (get T t) w:=rfl
theorem wv_b (b w):wv (.bool b) w=some (b == w):=rfl
theorem wv_u (w):wv undef w=some false:=rfl
def vv (f:VOp)(vs:List Value):Option Value:=if (f.addr||vs.all fun v=>!isLoc v)=true then f.ev vs else none
def rdv (s:St)(n:Option Nat)(v:Value):Option Value :=
 match v with
 | .pointer (some p)=>(cellsAt s p).bind fun c=>rd c p.off n
 | _=>none
def cellsO (v:Value):Option PObj:=if isLoc v||!v.cells.toList.all one then none else some (.cells v.cells.toList)
def bsO (k:Nat)(zero:List Value)(len:Nat)(ps:List (Nat×Nat))(vs:List Value):Option (List Value) :=
 if (vs.all fun v=>!isLoc v)=true then fillP (rep len zero) ps vs else none
def fargs (f:Value)(vs:List Value):Option (Fn×List Value):=if (vs.all fun v=>!isLoc v)=true then fnArgs f vs else none
theorem clsOk_g (d p g c):clsOk ⟨d,p,g⟩ c s=clsOk ⟨d,p,none⟩ c s:=by cases p <;> rfl
def ldc (c:Nat)(v:Value):Bool:=match v with | .pointer (some ⟨b,_,some _⟩)=>c == b+2 | _=>c == 1
def appB (s:St)(k:Nat)(new:List Value)(a:Option Addr)(l m:Nat)(d:Option Tmp):Option (Ex×St) :=
   if isLoc (.slice a l m) then none else
   if new.length % k≠0∨l+new.length≥small then none else
   if new.isEmpty then putO s d (.slice a l m) else
   match a with
   | none=>if l=0 then putO (newA s new) d (.slice (some ⟨s.H.length,0,none⟩) (new.length / k) k) else none
   | some a =>
    match a.spot,s.H[a.block]? with
    | none,some ⟨.cells c,true,true,some f⟩ =>
     if m=k∧0 < k∧a.off+l*k≤c.length then
      let child:Blk:=⟨.cells ((c.drop a.off).take (l*k)++new),true,true,some f⟩
      putO (if a.off+l*k=c.length then { s with H:=s.H.set a.block ⟨.cells c,true,false,some f⟩++[child] }
       else { s with H:=(kill f s.H).set a.block ⟨.cells c,false,false,some f⟩++[child],lo:=min s.lo (min f a.block) }) d
       (.slice (some ⟨s.H.length,0,none⟩) (l+new.length / k) k)
     else none
    | _,_=>none
variable {F:Ex→St→Option Out}
def fin (pf:PFunc)(H:Heap)(r:Option (Option Value×St)):Option Out :=
 match r with
 | some (some v,s)=>some (gcR H (.panic v) s.H s.lo)
 | some (none,s)=>(resR s pf.res).map fun vs=>gcR H (.ok (resV vs)) s.H s.lo
 | none=>none
theorem fin_ok (pf H T S D H1 lo n rnd):fin pf H (some (none,⟨T,S,D,H1,lo,n,rnd⟩))=(resR ⟨T,S,D,H1,lo,n,rnd⟩ pf.res).map fun vs=>gcR H (.ok (resV vs)) H1 lo:=rfl
theorem fin_panic (pf H v T S D H1 lo n rnd):fin pf H (some (some v,⟨T,S,D,H1,lo,n,rnd⟩))=some (gcR H (.panic v) H1 lo):=rfl
theorem gc_flat {H H1:Heap}{v:Value}{lo:Nat}(hf:flat 4 v=true)(h:H.length≤lo):gcR H (.ok v) H1 lo=⟨.ok v,H,H.length⟩:=by
 unfold gcR; rw [if_pos ⟨h,hf⟩]
theorem gc_panic {H H1:Heap}{v:Value}{lo:Nat}(hf:flat 4 v=true)(h:H.length≤lo):gcR H (.panic v) H1 lo=⟨.panic v,H,H.length⟩:=by
 unfold gcR; rw [if_pos ⟨h,hf⟩]

end
end Go.Pi
namespace Go.Pi
open Go

theorem nrfl {α:Sort _}{a b:α}(h:a=b):a=b:=h
theorem loc_int (k n):isLoc (.int k n)=false:=nrfl rfl
theorem loc_bool (b):isLoc (.bool b)=false:=nrfl rfl
theorem loc_str (b):isLoc (.string b)=false:=nrfl rfl
theorem loc_agg (b):isLoc (.agg b)=false:=nrfl rfl
theorem loc_tuple (b):isLoc (.tuple b)=false:=nrfl rfl
theorem loc_undef:isLoc undef=false:=nrfl rfl
theorem loc_func (f a c):isLoc (.func f a c)=false:=nrfl rfl
theorem loc_ptr (b off):isLoc (.pointer (some ⟨b,off,none⟩))=false:=nrfl rfl
theorem loc_ptr0:isLoc (.pointer none)=false:=nrfl rfl
theorem loc_sl (b off l c):isLoc (.slice (some ⟨b,off,none⟩) l c)=false:=nrfl rfl
theorem loc_sl0 (l c):isLoc (.slice none l c)=false:=nrfl rfl
theorem loc_map (x):isLoc (.map x)=false:=nrfl rfl
theorem loc_iface (t v):isLoc (.iface t v)=false:=nrfl rfl
theorem loc_nilF:isLoc .nilFunc=false:=nrfl rfl
theorem loc_nilI:isLoc .nilIface=false:=nrfl rfl

theorem vv_of {f:VOp}{vs:List Value}(h:(vs.all fun v=>!isLoc v)=true):vv f vs=f.ev vs:=by
 unfold vv; rw [h]; simp
theorem vv_addr {f:VOp}{vs:List Value}(h:f.addr=true):vv f vs=f.ev vs:=by
 unfold vv; rw [h]; simp
theorem vv_mv (x)(h:isLoc x=false):vv .mv [x]=some x:=by rw [vv_of (by simp [h])]; rfl
theorem vv_pick_t (a b)(ha:isLoc a=false)(hb:isLoc b=false):vv .pick [.bool true,a,b]=some a:=by rw [vv_of (by simp [ha,hb,loc_bool])]; rfl
theorem vv_pick_f (a b)(ha:isLoc a=false)(hb:isLoc b=false):vv .pick [.bool false,a,b]=some b:=by rw [vv_of (by simp [ha,hb,loc_bool])]; rfl
theorem vv_add (k a b):vv (.ib .add) [.int k a,.int k b]=some (.int k (k.wrap (a+b))):=by rw [vv_of rfl]; simp [VOp.ev,intBin]
theorem vv_sub (k a b):vv (.ib .sub) [.int k a,.int k b]=some (.int k (k.wrap (a - b))):=by rw [vv_of rfl]; simp [VOp.ev,intBin]
theorem vv_mul (k a b):vv (.ib .mul) [.int k a,.int k b]=some (.int k (k.wrap (a*b))):=by rw [vv_of rfl]; simp [VOp.ev,intBin]
theorem vv_eql (k a b):vv (.ib .eql) [.int k a,.int k b]=some (.bool (decide (a=b))):=by rw [vv_of rfl]; simp [VOp.ev,intBin]; exact Bool.eq_iff_iff.2 (by simp)
theorem vv_neq (k a b):vv (.ib .neq) [.int k a,.int k b]=some (.bool (!decide (a=b))):=by rw [vv_of rfl]; simp [VOp.ev,intBin]; exact Bool.eq_iff_iff.2 (by simp)
theorem vv_lss (k a b):vv (.ib .lss) [.int k a,.int k b]=some (.bool (decide (a < b))):=by rw [vv_of rfl]; simp [VOp.ev,intBin]
theorem vv_leq (k a b):vv (.ib .leq) [.int k a,.int k b]=some (.bool (decide (a≤b))):=by rw [vv_of rfl]; simp [VOp.ev,intBin]
theorem vv_gtr (k a b):vv (.ib .gtr) [.int k a,.int k b]=some (.bool (decide (b < a))):=by rw [vv_of rfl]; simp [VOp.ev,intBin]
theorem vv_geq (k a b):vv (.ib .geq) [.int k a,.int k b]=some (.bool (decide (b≤a))):=by rw [vv_of rfl]; simp [VOp.ev,intBin]
theorem vv_no (a):vv .no [.bool a]=some (.bool (!a)):=by rw [vv_of rfl]; rfl
theorem vv_bb (ne a b):vv (.bb ne) [.bool a,.bool b]=some (.bool ((a == b) != ne)):=by rw [vv_of rfl]; rfl
theorem vv_cv (k j n):vv (.cv k) [.int j n]=some (.int k (k.wrap n)):=by rw [vv_of rfl]; rfl
theorem vv_len (a l c)(h:isLoc (.slice a l c)=false):vv .len [.slice a l c]=some (.int .i64 l):=by rw [vv_of (by simp [h])]; rfl
theorem vv_ia (k b off:Nat)(l c:Nat)(j)(i:Int)(h0:0≤i)(h1:i < l):vv (.ia k) [.slice (some ⟨b,off,none⟩) l c,.int j i]=some (.pointer (some ⟨b,off+i.toNat*k,none⟩)):=by rw [vv_of rfl]; simp [VOp.ev,h0,h1]
theorem vv_fa (off b o sp):vv (.fa off) [.pointer (some ⟨b,o,sp⟩)]=some (.pointer (some ⟨b,o+off,sp⟩)):=by rw [vv_addr rfl]; rfl
theorem vv_iaa (k n b o:Nat)(sp j)(i:Int)(h0:0≤i)(h1:i < n):vv (.iaa k n) [.pointer (some ⟨b,o,sp⟩),.int j i]=some (.pointer (some ⟨b,o+i.toNat*k,sp⟩)):=by rw [vv_addr rfl]; simp [VOp.ev,h0,h1]
theorem vv_fld1 (off)(l:List Value):vv (.fld off none) [.agg l.toArray]=l[off]?:=by rw [vv_of rfl]; simp [VOp.ev]
theorem vv_fldn (off n)(l:List Value)(h:off+n≤l.length):vv (.fld off (some n)) [.agg l.toArray]=some (.agg ((l.drop off).take n).toArray):=by
 rw [vv_of rfl]
 simp only [VOp.ev,List.size_toArray,if_pos h]
 congr 2
 apply Array.toList_inj.1
 simp [List.take_drop,Nat.add_comm]
theorem vv_ext (i)(l:List Value):vv (.ext i) [.tuple l.toArray]=l[i]?:=by rw [vv_of rfl]; simp [VOp.ev]
theorem vv_mki (t x)(h:isLoc x=false):vv (.mki t) [x]=some (.iface t x):=by rw [vv_of (by simp [h])]; rfl
theorem vv_tas_eq (t z x):vv (.tas t z) [.iface t x]=some (.tuple #[x,.bool true]):=by rw [vv_of rfl]; simp [VOp.ev]
theorem vv_tas_ne (t u z x)(h:u≠t):vv (.tas t z) [.iface u x]=some (.tuple #[z,.bool false]):=by rw [vv_of rfl]; simp [VOp.ev,h]
theorem vv_tas_nil (t z):vv (.tas t z) [.nilIface]=some (.tuple #[z,.bool false]):=by rw [vv_of rfl]; rfl
theorem vv_mkf (fn n vs)(hl:(vs.all fun v=>!isLoc v)=true)(hn:n≤vs.length):vv (.mkf fn n) vs=some (.func fn (vs.take n).toArray (vs.drop n).toArray):=by rw [vv_of hl]; simp [VOp.ev,hn]
theorem vv_nl_i0 (ne):vv (.nl .iface ne) [.nilIface]=some (.bool (true != ne)):=by rw [vv_of rfl]; rfl
theorem vv_nl_i (ne t v):vv (.nl .iface ne) [.iface t v]=some (.bool (false != ne)):=by rw [vv_of rfl]; rfl
theorem vv_mx (k a j b):vv .mx [.int k a,.int j b]=some (.int k (if a < b then b else a)):=by rw [vv_of rfl]; rfl
theorem vv_mn (k a j b):vv .mn [.int k a,.int j b]=some (.int k (if b < a then b else a)):=by rw [vv_of rfl]; rfl

theorem wrap_id (x:Int)(h0:-9223372036854775808≤x)(h1:x≤9223372036854775807):IntKind.wrap .i64 x=x:=by
 simp only [IntKind.wrap,IntKind.bits,IntKind.signed]
 simp
 omega
theorem hc_app {H l:Heap}{i:Nat}(h:i < H.length):hcells (H++l) i=hcells H i:=by simp only [hcells,List.getElem?_append_left h]
theorem hc_new {H:Heap}(c t f):hcells (H++[⟨.cells c,true,t,f⟩]) H.length=some c:=by simp [hcells]
theorem hc_lt {H:Heap}{i:Nat}{c}(h:hcells H i=some c):i < H.length:=by
 unfold hcells at h
 split at h
 ·rename_i hx; exact (List.getElem?_eq_some_iff.1 hx).1
 ·cases h
theorem arr_list (l:List Value):l.toArray.toList=l:=by simp
theorem arr_size (l:List Value):l.toArray.size=l.length:=by simp
theorem c_agg (a):Value.cells (.agg a)=a:=nrfl rfl
theorem c_int (k n):Value.cells (.int k n)=[.int k n].toArray:=nrfl rfl
theorem c_bool (b):Value.cells (.bool b)=[.bool b].toArray:=nrfl rfl
theorem c_sl (a l c):Value.cells (.slice a l c)=[.slice a l c].toArray:=nrfl rfl
theorem c_str (s):Value.cells (.string s)=[.string s].toArray:=nrfl rfl
theorem c_map (s):Value.cells (.map s)=[.map s].toArray:=nrfl rfl
theorem c_func (f a c):Value.cells (.func f a c)=[.func f a c].toArray:=nrfl rfl
theorem c_ptr (p):Value.cells (.pointer p)=[.pointer p].toArray:=nrfl rfl
theorem c_if (t v):Value.cells (.iface t v)=[.iface t v].toArray:=nrfl rfl
theorem c_nilI:Value.cells .nilIface=[.nilIface].toArray:=nrfl rfl
theorem c_nilF:Value.cells .nilFunc=[.nilFunc].toArray:=nrfl rfl
theorem one_int (k n):one (.int k n)=true:=nrfl rfl
theorem one_bool (b):one (.bool b)=true:=nrfl rfl
theorem one_sl (a l c):one (.slice a l c)=true:=nrfl rfl
theorem one_str (s):one (.string s)=true:=nrfl rfl
theorem one_map (s):one (.map s)=true:=nrfl rfl
theorem one_func (f a c):one (.func f a c)=true:=nrfl rfl
theorem one_ptr (p):one (.pointer p)=true:=nrfl rfl
theorem one_if (t v):one (.iface t v)=true:=nrfl rfl
theorem one_nilI:one .nilIface=true:=nrfl rfl
theorem one_nilF:one .nilFunc=true:=nrfl rfl
theorem fl_bool (n b):flat (n+1) (.bool b)=true:=nrfl rfl
theorem fl_int (n k i):flat (n+1) (.int k i)=true:=nrfl rfl
theorem fl_str (n i):flat (n+1) (.string i)=true:=nrfl rfl
theorem fl_tuple (n)(l:List Value)(h:l.all (flat n)=true):flat (n+1) (.tuple l.toArray)=true:=by simp only [flat]; simpa using h
theorem fl_agg (n)(l:List Value)(h:l.all (flat n)=true):flat (n+1) (.agg l.toArray)=true:=by simp only [flat]; simpa using h
theorem fl_iface (n t v)(h:flat n v=true):flat (n+1) (.iface t v)=true:=by simp only [flat]; exact h
theorem al_nil (p:Value→Bool):[].all p=true:=nrfl rfl
theorem len0:([]:List Value).length=0:=nrfl rfl
theorem len1 (x:Value)(l):(x :: l).length=l.length+1:=nrfl rfl
theorem iE (x:Value)(l):(x :: l).isEmpty=false:=nrfl rfl
theorem mm (a b:Nat):min (min a b) b=min a b:=by omega
theorem gc_keep {H H1:Heap}{v:Value}{lo:Nat}(hf:flat 4 v=false):gcR H (.ok v) H1 lo=⟨.ok v,H1,lo⟩:=by
 unfold gcR; rw [if_neg]; rintro ⟨_,h⟩; dsimp only at h; rw [hf] at h; cases h
theorem fl_nil (n):flat (n+1) (.tuple #[])=true:=nrfl rfl
theorem fl_sl (n):flat (n+1) (.slice none 0 0)=true:=nrfl rfl
theorem all_cons (p:Value→Bool)(x l)(h:p x=true)(h':l.all p=true):(x :: l).all p=true:=by simp [h,h']

section
variable {α:Type} {call:CallT} {m:Nat} {F:Ex→St→Option α} {s:St}
theorem cO (v)(h:isLoc v=false)(h1:v.cells.toList.all one=true):cellsO v=some (.cells v.cells.toList):=by unfold cellsO; rw [if_neg (by simp [h,h1])]
theorem bA (v)(h:isLoc v=false)(h1:v.cells.toList.all one=true):boxA v=some ⟨.cells v.cells.toList,false,ptrA⟩:=by unfold boxA; rw [if_neg (by simp [h,h1])]
def rdL (x:Nat×PObj)(g off:Nat)(nn:Option Nat):Option Value:=match x with | (g',.cells c)=>if g'=g then rd c off nn else none | _=>none
theorem rdv_loc (T S D H lo n rnd nn b off g):rdv ⟨T,S,D,H,lo,n,rnd⟩ nn (.pointer (some ⟨b,off,some g⟩))=rdL (sget S b) g off nn:=by
 simp only [rdv,cellsAt,rdL]
 obtain ⟨g',o⟩:=sget S b
 cases o with
 | cells c=>by_cases h:g'=g <;> simp [h]
 | _=>rfl
theorem rdL_ok (g c off nn):rdL (g,.cells c) g off nn=rd c off nn:=by simp [rdL]
def rdO (o:Option (List Value))(off:Nat)(nn:Option Nat):Option Value:=o.bind fun c=>rd c off nn
theorem rdv_heap (T S D H lo n rnd nn b off):rdv ⟨T,S,D,H,lo,n,rnd⟩ nn (.pointer (some ⟨b,off,none⟩))=rdO (hcells H b) off nn:=rfl
theorem rdO_some (c off nn):rdO (some c) off nn=rd c off nn:=rfl
theorem rd_one (c off):rd c off none=c[off]?:=rfl
theorem rd_n (c off n)(h:off+n≤c.length):rd c off (some n)=some (.agg ((c.drop off).take n).toArray):=by simp [rd,h]
theorem res_nil (s:St):resR s []=some []:=rfl
theorem res_t (s:St)(t r)(h:isLoc (get s.T t)=false):resR s ((t,none) :: r)=(resR s r).map fun l=>get s.T t :: l:=by simp [resR,h]
def resC (v:Option Value)(r:Option (List Value)):Option (List Value):=match v with | some v=>r.map fun l=>v :: l | none=>none
theorem res_c (s:St)(t n r):resR s ((t,some n) :: r)=resC (rdv s n (get s.T t)) (resR s r):=by
 simp only [resR,rdv,resC]
 cases get s.T t with
 | pointer p =>
  cases p with
  | none=>rfl
  | some p =>
   simp only
   cases (cellsAt s p).bind fun c=>rd c p.off n <;> rfl
 | _=>rfl
theorem resC_some (v r):resC (some v) r=r.map fun l=>v :: l:=rfl
theorem ldc_l (b off g):ldc (b+2) (.pointer (some ⟨b,off,some g⟩))=true:=by simp [ldc]
theorem ldc_h (b off):ldc 1 (.pointer (some ⟨b,off,none⟩))=true:=nrfl rfl
def elL (x:Nat×PObj)(g n:Nat):Option (List Value):=match x with | (g',.cells c)=>if g'=g∧c.length=n then some c else none | _=>none
theorem eL_loc (T S D H lo n rnd kk d g l):elemsL ⟨T,S,D,H,lo,n,rnd⟩ kk (.slice (some ⟨d,0,some g⟩) l 0)=elL (sget S d) g (l*kk):=by
 simp only [elemsL,elL]
 rfl
theorem eL_ok (g c n)(h:c.length=n):elL (g,.cells c) g n=some c:=by simp [elL,h]
theorem so_loc (d off g l c):slotOk (.tmp d) (.slice (some ⟨d,off,some g⟩) l c)=true:=by simp [slotOk]
theorem so_heap (x b off l c):slotOk x (.slice (some ⟨b,off,none⟩) l c)=true:=nrfl rfl
theorem bsO_ok (kk zero len ps vs)(hl:(vs.all fun v=>!isLoc v)=true):bsO kk zero len ps vs=fillP (rep len zero) ps vs:=by unfold bsO; rw [if_pos hl]
theorem fill_nil (cs):fillP cs [] []=some cs:=rfl
theorem fill_cons (cs off n ps v vs)(hn:v.cells.size=n)(ho:off+n≤cs.length)(h1:v.cells.toList.all one=true):fillP cs ((off,n) :: ps) (v :: vs)=fillP (cs.take off++v.cells.toList++cs.drop (off+n)) ps vs:=by
 simp only [fillP]; rw [if_pos ⟨hn,ho,h1⟩]
theorem bsA_eq (kk zero len ps T):bsA kk zero len ps T=(bsO kk zero len (ps.map fun p=>(p.1*kk,kk)) (ps.map fun p=>ev T p.2)).map fun cs=>⟨.cells cs,true,fun i=>.slice (some ⟨i,0,none⟩) len kk⟩:=by
 simp only [bsA,bsO]
 by_cases hc:((ps.map fun p=>ev T p.2).all fun v=>!isLoc v)=true
 ·simp only [if_pos hc]
  cases fillP (rep len zero) (ps.map fun p=>(p.1*kk,kk)) (ps.map fun p=>ev T p.2) <;> rfl
 ·simp only [if_neg hc]; rfl
theorem vv_bld (zero ps vs)(hl:(vs.all fun v=>!isLoc v)=true):vv (.bld zero ps) vs=(fillP zero ps vs).map fun l=>.agg l.toArray:=by rw [vv_of hl]; rfl
theorem fa_func (f vs)(hl:(vs.all fun v=>!isLoc v)=true):fargs (.func (.func f) #[] #[]) vs=some (.func f,vs):=by simp [fargs,hl,fnArgs]
theorem fa_clo (f)(a c:List Value)(vs)(hl:(vs.all fun v=>!isLoc v)=true):fargs (.func (.func f) a.toArray c.toArray) vs=some (.func f,a++vs++c):=by simp [fargs,hl,fnArgs]
end

end Go.Pi
namespace Go.Pi
open Go

theorem closed_sim {P:Program}{B:Nat}{PP:FuncId→Option PFunc}(hPP:PPok P PP)(hdraw:DrawsOk P B){m:Nat}{f:FuncId}{b:Bool}(hk:run PP (fun _=>none) m (.func f) [] []=some ⟨.ok (.bool b),[],0⟩)
  {H:Heap} {φ:Map} {w:World} {args':Array Value} (hE:Emb P B φ H w) (hB:B≤w.heap.size) (hv:VRs φ [] args'.toList):FnSim P B φ H w args' ⟨.ok (.bool b),H,H.length⟩ (.func f):=by
 have hp:PrimsOk P B (fun _=>none):=⟨fun f g h=>(by cases h),fun f g h=>(by cases h)⟩
 have hE0:Emb P B (fun _=>none) [] w:=by
  refine ⟨fun i s h=>(by cases h),fun i s blk h=>(by cases h),fun i s blk h=>(by cases h),fun i s blk h=>(by cases h),fun i blk h=>(by simp at h),fun i k si sk bi bk _ h=>(by cases h),fun i b f h=>(by simp at h),hE.tab⟩
 have hv0:VRs (fun _=>none) [] args'.toList:=⟨hv.1,fun j x y hx=>by simp at hx⟩
 obtain ⟨h1,h2⟩:=run_sim hPP hp hdraw m (.func f) [] [] _ hk (fun _=>none) w args' hE0 hB hv0
 refine ⟨h1,fun n=>(h2 n).mono ?_⟩
 rintro e w' ⟨φ',g1,g2,g3⟩
 have hsz:=g2.size
 have hfr:∀j,j < w.heap.size→w'.heap[j]?=w.heap[j]?:=fun j hj=>g2.frame j hj (fun i s h=>by cases h)
 refine ⟨φ,hE.world hsz (fun i s hi=>hfr _ (hE.inb i s hi).2) (fun j _ hj=>hfr j hj),⟨Nat.le_refl _,fun _ _=>rfl,fun i s hi hs=>absurd (hE.inb i s hs).1 (by omega),hsz,fun j hj _=>hfr j hj,g2.out⟩,?_⟩
 cases e with
 | returned v' =>
  have g3:VR φ' (.bool b) v':=g3
  cases g3
  exact VR.bool (φ:=φ) b
 | _=>exact g3.elim

structure More (w w':World):Prop where
 os:w'.os=w.os
 output:w'.output=w.output
 size:w.heap.size≤w'.heap.size
 old:∀j,j < w.heap.size→w'.heap[j]?=w.heap[j]?

theorem More.kept {w w':World}(h:More w w')(may:MemPlace→Prop):w.keptBut w' may:=by
 refine ⟨h.os,h.output,fun i hi=>?_⟩
 rw [h.old i hi]
 split
 ·exact ⟨by simp_all,by simp_all,by simp_all,fun j _=>by simp_all⟩
 ·right; simp_all
 ·simp_all

end Go.Pi
