/- Prices: an exact price is rounded. -/
import Derived.Test.YtjgmlngcknehhaaGreatTI
import Derived.Test.YtjgmlngcknehhaaGreatLB
set_option linter.all false
set_option maxRecDepth 100000
namespace Go.Pi.L
open Go Go.Pi
theorem vv_mkf1 (fn:Fn)(x:Value)(h:isLoc x=false):vv (.mkf fn 1) [x]=some (.func fn #[x] #[]):=by rw [vv_of (by simp [h])]; rfl
theorem fa_bound (f:FuncId)(x:Value):fargs (.func (.func f) #[x] #[]) []=some (.func f,[x]):=rfl
end Go.Pi.L
namespace Go.Pi.L.Top
open Go Go.Pi Go.Pi.L Go.Pi.Top LM

theorem c151 (n:Int)(h0:0≤n)(h1:n≤1000000)(H:Heap):R (.func 151) [.agg #[.int .i64 n,.int .i64 1]] H=some ⟨.ok (.int .i64 n),H,H.length⟩:=by
 have z:(1:Int)≠0:=by omega
 have w:IntKind.wrap .i64 (n.tdiv 1)=n:=by rw [Int.tdiv_one]; exact wrap_id _ (by omega) (by omega)
 refine run_k (pr 151) P151 (by simp [p151]) rfl ?_
 simp (maxDischargeDepth:=8) only [↓SD,SU,SV,SW,simprocAttr,Int.cast_ofNat_Int,small,resV, B151,R151,N151,b151, vv_quo,z,w]
theorem c152 (n:Int)(h0:0≤n)(h1:n≤1000000)(H:Heap):R (.func 152) [.agg #[.int .i64 n,.int .i64 1]] H=some ⟨.ok (.int .i64 n),H,H.length⟩:=by
 have z:(1:Int)≠0:=by omega
 have w:IntKind.wrap .i64 (n.tdiv 1)=n:=by rw [Int.tdiv_one]; exact wrap_id _ (by omega) (by omega)
 have w1:IntKind.wrap .i64 (n+1)=n+1:=wrap_id _ (by omega) (by omega)
 have w2:IntKind.wrap .i64 (n+1 - 1)=n:=by rw [wrap_id _ (by omega) (by omega)]; omega
 refine run_k (pr 152) P152 (by simp [p152]) rfl ?_
 simp (maxDischargeDepth:=8) only [↓SD,SU,SV,SW,simprocAttr,Int.cast_ofNat_Int,small,resV, B152,R152,N152,b152, vv_quo,z,w,w1,w2]
theorem c153 (n:Int)(h0:0≤n)(h1:n≤1000000)(H:Heap):R (.func 153) [.agg #[.int .i64 n,.int .i64 1]] H=some ⟨.ok (.int .i64 n),H,H.length⟩:=by
 have z:(2:Int)≠0:=by omega
 have w0:IntKind.wrap .i64 (2*n)=2*n:=wrap_id _ (by omega) (by omega)
 have w1:IntKind.wrap .i64 (2*n+1)=2*n+1:=wrap_id _ (by omega) (by omega)
 have w2:IntKind.wrap .i64 (2*1)=2:=by decide
 have w:IntKind.wrap .i64 ((2*n+1).tdiv 2)=n:=by rw [Int.tdiv_eq_ediv_of_nonneg (by omega),wrap_id _ (by omega) (by omega)]; omega
 refine run_k (pr 153) P153 (by simp [p153]) rfl ?_
 simp (maxDischargeDepth:=8) only [↓SD,SU,SV,SW,simprocAttr,Int.cast_ofNat_Int,small,resV, B153,R153,N153,b153, vv_quo,z,w,w0,w1,w2]
theorem c154 (n:Int)(h0:0≤n)(h1:n≤1000000)(H:Heap):R (.func 154) [.agg #[.int .i64 n,.int .i64 1]] H=some ⟨.ok (.int .i64 n),H,H.length⟩:=by
 have k:=c153 n h0 h1
 have w0:IntKind.wrap .i64 (2*n)=2*n:=wrap_id _ (by omega) (by omega)
 have w1:IntKind.wrap .i64 (2*n+1)=2*n+1:=wrap_id _ (by omega) (by omega)
 have w2:IntKind.wrap .i64 (2*1)=2:=by decide
 have z:(2*n+1=2*n)↔False:=⟨fun h=>by omega,fun h=>h.elim⟩
 refine run_k (pr 154) P154 (by simp [p154]) rfl ?_
 simp (maxDischargeDepth:=8) only [↓SD,SU,SV,SW,simprocAttr,Int.cast_ofNat_Int,small,resV, B154,R154,N154,b154, k,w0,w1,w2,z]
theorem c122 (r:Int)(h0:1≤r)(h1:r≤4)(H:Heap):R (.func 122) [.int .i64 r] H=some ⟨.ok (.int .i64 (r - 1)),H,H.length⟩:=by
 have w:IntKind.wrap .i64 (r - 1)=r - 1:=wrap_id _ (by omega) (by omega)
 refine run_k (pr 122) P122 (by simp [p122]) rfl ?_
 simp (maxDischargeDepth:=8) only [↓SD,SU,SV,SW,simprocAttr,Int.cast_ofNat_Int,small,resV, B122,R122,N122,b122, w]
theorem c121 (n:Int)(h0:0≤n)(h1:n≤1000000)(r:Int)(h2:1≤r)(h3:r≤4)(H:Heap):R (.func 121) [.agg #[.int .i64 n,.int .i64 1],.int .i64 (r - 1)] H=some ⟨.ok (.int .i64 n),H,H.length⟩:=by
 have k1:=c151 n h0 h1 H
 have k2:=c152 n h0 h1 H
 have k3:=c153 n h0 h1 H
 have k4:=c154 n h0 h1 H
 rcases (show r=1∨r=2∨r=3∨r=4 by omega) with rfl | rfl | rfl | rfl
 ·refine run_k (pr 121) P121 (by simp [p121]) rfl ?_
  simp (maxDischargeDepth:=8) only [↓SD,SU,SV,SW,simprocAttr,Int.cast_ofNat_Int,small,resV, B121,R121,N121,b121, vv_mkf1,fa_bound,k1]
 ·refine run_k (pr 121) P121 (by simp [p121]) rfl ?_
  simp (maxDischargeDepth:=8) only [↓SD,SU,SV,SW,simprocAttr,Int.cast_ofNat_Int,small,resV, B121,R121,N121,b121, vv_mkf1,fa_bound,k2]
 ·refine run_k (pr 121) P121 (by simp [p121]) rfl ?_
  simp (maxDischargeDepth:=8) only [↓SD,SU,SV,SW,simprocAttr,Int.cast_ofNat_Int,small,resV, B121,R121,N121,b121, vv_mkf1,fa_bound,k3]
 ·refine run_k (pr 121) P121 (by simp [p121]) rfl ?_
  simp (maxDischargeDepth:=8) only [↓SD,SU,SV,SW,simprocAttr,Int.cast_ofNat_Int,small,resV, B121,R121,N121,b121, vv_mkf1,fa_bound,k4]
end Go.Pi.L.Top
set_option maxRecDepth 100000
namespace Go.Pi.L
open Go Go.Pi
theorem Chg.grow_map {i:Nat}{H H':Heap}(h:Chg (·=i) H H')(hm:hcells H i=none):Grow H H':=⟨h.len,fun {b c} hb=>by
 by_cases e:b=i
 ·subst e; rw [hm] at hb; cases hb
 ·have hl:=hc_lt hb
  unfold hcells at hb ⊢
  rw [h.old b hl e]; exact hb⟩
theorem Bld.chg {A:Nat→Prop}{n0:Nat}{H H1:Heap}{k l m:Nat}{a:Option Addr}{c:List Value}(h:Bld n0 H k a l m c)(hc:Chg A H H1)(ha:∀i,A i→i < n0):Bld n0 H1 k a l m c :=
 ⟨h.len,by
  rcases h.ok with h | ⟨b,f,h1,h2,h3,h4,h5⟩
  ·exact .inl h
  ·exact .inr ⟨b,f,h1,h2,h3,h4,by rw [hc.old b (List.getElem?_eq_some_iff.1 h5).1 (fun hA=>by have:=ha b hA; omega)]; exact h5⟩⟩
theorem Grown.chg {A:Nat→Prop}{H0 H H1:Heap}{n0 k l m:Nat}{a:Option Addr}{c:List Value}(h:Bld n0 H k a l m c)(g:Grown H H1 a)(hc:Chg A H0 H)(hn:H0.length≤n0):Chg A H0 H1 :=
 ⟨by have:=hc.len; have:=g.len; omega,fun i hi hA=>by
  rw [g.old i (Nat.lt_of_lt_of_le hi hc.len) (fun b hb=>by
   rcases h.ok with ⟨h,_⟩ | ⟨b',f,h1,_,h3,_⟩
   ·rw [hb] at h; cases h
   ·rw [hb] at h1; cases h1; omega),hc.old i hi hA]⟩
theorem Grown.at {H H1:Heap}{n0 k l m i:Nat}{a:Option Addr}{c:List Value}(h:Bld n0 H k a l m c)(g:Grown H H1 a)(hi:i < n0)(hl:i < H.length):H1[i]?=H[i]? :=
 g.old i hl (fun b hb=>by
  rcases h.ok with ⟨h,_⟩ | ⟨b',f,h1,_,h3,_⟩
  ·rw [hb] at h; cases h
  ·rw [hb] at h1; cases h1; omega)
theorem kfind_mem {key v:Value}:∀{es:List (Value×Value)} {j:Nat},kfind key es=some (j,v)→∃k,(k,v)∈es∧eqk key k=true
 | [],_,h=>by cases h
 | (k,w) :: es,j,h=>by
  simp only [kfind] at h
  split at h
  ·rename_i hk
   cases h
   exact ⟨k,List.mem_cons_self ..,hk⟩
  ·rw [Option.map_eq_some_iff] at h
   obtain ⟨⟨j',w'⟩,h1,h2⟩:=h
   cases h2
   obtain ⟨k',h3,h4⟩:=kfind_mem h1
   exact ⟨k',List.mem_cons_of_mem _ h3,h4⟩
end Go.Pi.L
namespace Go.Pi.L.Top
open Go Go.Pi Go.Pi.L Go.Pi.Top LM

def keyP (t:Int×Int)(q:Int):Value:=.agg #[.int .i64 1,.int .i64 t.1,.int .i64 1,.int .i64 t.2,.bool true,.int .i64 q]
theorem eqk_keyP {t:Int×Int}{a b:Int}(h:eqk (keyP t a) (keyP t b)=true):a=b:=by
 simpa [eqk,keyP,eqs,eqv] using h
def MemoP (t:Int×Int)(es:List (Value×Value)):Prop:=∀e∈es,∃q:Int,e=(keyP t q,.int .i64 (q*t.1))
theorem MemoP.find {t:Int×Int}{es:List (Value×Value)}(h:MemoP t es){q:Int}{j:Nat}{v:Value}(hk:kfind (keyP t q) es=some (j,v)):v=.int .i64 (q*t.1):=by
 obtain ⟨k,h1,h2⟩:=kfind_mem hk
 obtain ⟨q',he⟩:=h _ h1
 cases he
 rw [eqk_keyP h2]
theorem MemoP.upd {t:Int×Int}{es:List (Value×Value)}(h:MemoP t es)(q:Int):MemoP t (Go.Pi.L.upd (keyP t q) (.int .i64 (q*t.1)) es):=by
 intro e he
 unfold Go.Pi.L.upd at he
 split at he
 ·rcases List.mem_or_eq_of_mem_set he with h1 | h1
  ·exact h e h1
  ·exact ⟨q,h1⟩
 ·rcases List.mem_append.1 he with h1 | h1
  ·exact h e h1
  ·exact ⟨q,by simpa using h1⟩
abbrev pSh:Shape:=.agg [.i .i64,.i .i64,.i .i64,.i .i64,.b,.i .i64]
def MpP (t:Int×Int)(H:Heap)(mb:Nat):Prop:=∃es,H[mb]?=some ⟨.map pSh es,true,true,none⟩∧MemoP t es
section
variable {t:Int×Int} {H H':Heap} {mb:Nat}
theorem MpP.lt (h:MpP t H mb):mb < H.length:=by obtain ⟨es,h,_⟩:=h; exact (List.getElem?_eq_some_iff.1 h).1
theorem MpP.hc (h:MpP t H mb):hcells H mb=none:=by obtain ⟨es,h,_⟩:=h; simp [hcells,h]
theorem MpP.same (h:MpP t H mb)(e:H'[mb]?=H[mb]?):MpP t H' mb:=by obtain ⟨es,h,h'⟩:=h; exact ⟨es,e.trans h,h'⟩
theorem MpP.up (h:MpP t H mb)(u:Up H H'):MpP t H' mb:=h.same (u.old _ h.lt)
end
def QP (t:Int×Int)(H:Heap)(mb:Nat)(x:Int)(o:Out):Prop:=∃H1 lo,o=⟨.ok (.int .i64 x),H1,lo⟩∧Chg (·=mb) H H1∧MpP t H1 mb∧mb≤lo
theorem gc_p {t:Int×Int}{H H1:Heap}{x:Int}{lo mb:Nat}(hc:Chg (·=mb) H H1)(hm:MpP t H mb)(hm1:MpP t H1 mb)(hl:mb≤lo):QP t H mb x (gcR H (.ok (.int .i64 x)) H1 lo):=by
 simp only [gcR]
 split
 ·exact ⟨H,H.length,rfl,Chg.refl _ _,hm,Nat.le_of_lt hm.lt⟩
 ·exact ⟨H1,lo,rfl,hc,hm1,hl⟩
theorem has_keyP (t:Int×Int)(q:Int):Shape.has pSh (keyP t q)=true:=rfl
theorem mul_in {q c:Int}(h0:0≤q)(h1:q≤60)(h2:0≤c)(h3:c≤500):0≤q*c∧q*c≤30000:=by
 have a1:0≤q*c:=Int.mul_nonneg h0 h2
 have a2:q*c≤60*c:=Int.mul_le_mul_of_nonneg_right h1 h2
 omega
theorem c77 {H:Heap}{oa ba ta ha:Option Addr}{ok bk tk hl hk mb:Nat}{xs:List Int}{t:Int×Int}(l1:isLoc (.slice oa 1 ok)=false)(l2:isLoc (.slice ba xs.length bk)=false)(l3:isLoc (.slice ta 1 tk)=false)(l4:isLoc (.slice ha hl hk)=false)
  (h1:0≤t.1∧t.1≤500) (h2:1≤t.2∧t.2≤4) {q:Int} (q0:0≤q) (q1:q≤60) (hm:MpP t H mb) :
  Yes (R (.func 77) [.agg #[.slice oa 1 ok,.slice ba xs.length bk,.slice ta 1 tk,.slice ha hl hk,.map (some mb)],.agg #[.int .i64 1,.int .i64 t.1,.int .i64 1,.int .i64 t.2,.bool true],.int .i64 q] H) (QP t H mb (q*t.1)):=by
 obtain ⟨a1,a2⟩:=mul_in q0 q1 h1.1 h1.2
 have k1:=c122 t.2 h2.1 h2.2 H
 have k2:=c121 (q*t.1) a1 (by omega) t.2 h2.1 h2.2 H
 have w:IntKind.wrap .i64 (q*t.1)=q*t.1:=wrap_id _ (by omega) (by omega)
 have lm:isLoc (.map (some mb))=false:=rfl
 obtain ⟨es,he,hmem⟩:=hm
 have hmk:mlkR (mesL H pSh (.map (some mb))) pSh (.int .i64 0) true (keyP t q)=some (mlkV (.int .i64 0) true (kfind (keyP t q) es)):=by rw [mes_ok he]; exact mlkR_ok _ _ _ _ _ rfl
 have hkk:=has_keyP t q
 unfold keyP at hmk hkk
 refine run_y (pr 77) P77 (by simp [p77]) rfl ?_
 cases hx:kfind (keyP t q) es with
 | some jv =>
  obtain ⟨j,v⟩:=jv
  have hv:=hmem.find hx
  subst hv
  unfold keyP at hx
  rw [hx] at hmk
  simp only [mlkV,if_true] at hmk
  simp (maxDischargeDepth:=8) only [↓SD,SU,SV,SW,simprocAttr,Int.cast_ofNat_Int,small,resV, B77,R77,N77,b77, l1,l2,l3,l4,lm,hmk,g_mlk,goD_mlk,R77,N77]
  rw [yes_some]
  have hlt:=(List.getElem?_eq_some_iff.1 he).1
  exact ⟨H,H.length,rfl,Chg.refl _ _,⟨es,he,hmem⟩,Nat.le_of_lt hlt⟩
 | none =>
  unfold keyP at hx
  rw [hx] at hmk
  simp only [mlkV,if_true] at hmk
  simp (maxDischargeDepth:=8) only [↓SD,SU,SV,SW,simprocAttr,Int.cast_ofNat_Int,small,resV, B77,R77,N77,b77, l1,l2,l3,l4,lm,hmk,g_mlk,goD_mlk,k1,k2,w,g_mup,mup_v,he,mup_ok,hkk,R77,N77]
  rw [yes_some]
  have hlt:=(List.getElem?_eq_some_iff.1 he).1
  have hup:=hmem.upd q
  unfold keyP at hup
  refine gc_p ⟨by simp,fun i hi hne=>by rw [List.getElem?_set_ne (Ne.symm hne)]⟩ ⟨es,he,hmem⟩ ⟨_,by rw [List.getElem?_set_self hlt],hup⟩ ?_
  omega
end Go.Pi.L.Top
set_option maxRecDepth 100000
namespace Go.Pi.L
open Go Go.Pi
section
variable {α:Type} {call:CallT} {F:Ex→St→Option α} {k:List It} {s:St}
theorem goD_inv1 (d x table xs tb):goD call F d (.inv x table xs) ⟨1,true,tb⟩ k s=calD call F (invF table (ev s.T x) (xs.map (ev s.T))) ⟨1,true,tb⟩ d k s:=by
 simp only [goD,clsOk,opR,calD,invF]
 cases ev s.T x with
 | iface t v =>
  simp only
  have:=find_tlook table t
  cases hf:table.find? (·.1 == t) with
  | none=>rw [hf] at this; simp only [Option.map_none] at this; rw [←this]; simp
  | some y =>
   obtain ⟨u,f⟩:=y
   rw [hf] at this
   simp only [Option.map_some] at this
   rw [←this]
   simp only [opR.callR,fargs]
   by_cases hl:((xs.map (ev s.T)).all fun v=>!isLoc v)=true
   ·simp only [if_pos hl]
    cases fnArgs (.func (.func f) #[v] #[]) (xs.map (ev s.T)) with
    | none=>simp
    | some x =>
     obtain ⟨fn,args⟩:=x
     simp only
     cases call fn args s.H with
     | none=>simp [retD]
     | some out =>
      obtain ⟨r,H,lo⟩:=out
      cases r with
      | ok v =>
       simp only [retD,putO,nxt]
       cases d with
       | none=>simp [put]
       | some d =>
        simp only [put]
        by_cases hd:d < s.n
        ·simp [if_pos hd]
        ·simp [if_neg hd]
      | panic v=>simp [retD]
   ·simp only [if_neg hl]; simp
 | _=>simp
end
end Go.Pi.L
set_option maxRecDepth 100000
namespace Go.Pi.L
open Go Go.Pi
theorem vv_ixa0 (n:Nat)(a:Value)(l:List Value)(hn:0 < n)(h:isLoc (.agg (a :: l).toArray)=false):vv (.ixa 1 n none) [.agg (a :: l).toArray,.int .i64 0]=some a:=by
 rw [vv_of (by simp [h,isLoc])]
 simp [VOp.ev,hn]
theorem vv_mth (name:String)(t:TypeId)(v:Value)(h:isLoc (.iface t v)=false):vv (.mth name) [.iface t v]=some (.func (.method name) #[.iface t junk] #[]):=by
 rw [vv_of (by simp [h])]; rfl
theorem vv_nck (ok:List (String×TypeId))(n:String)(t:TypeId)(h:ok.contains (n,t)=true):vv (.nck ok) [.func (.method n) #[.iface t junk] #[]]=some junk:=by
 rw [vv_of rfl]; simp only [VOp.ev]; rw [if_pos h]
end Go.Pi.L
namespace Go.Pi.L.Top
open Go Go.Pi Go.Pi.L Go.Pi.Top LM

theorem nck_q:vv (.nck [("Error",8),("RuntimeError",8),("Error",10),("RuntimeError",10),("Error",11),("RuntimeError",11),("Error",14),("RuntimeError",14),("Error",19),("RuntimeError",19),("mahlstick/letter.can",79),("mahlstick/letter.fits",79),("mahlstick/letter.fitting",79),("mahlstick/letter.gaps",79),("mahlstick/letter.letters",79),("mahlstick/letter.lines",79),("mahlstick/letter.settings",79),("mahlstick/letter.sign",79),("mahlstick/letter.space",79),("mahlstick/letter.stretch",79),("mahlstick/letter.wide",79),("mahlstick/price.paid",92),("mahlstick/price.parts",92),("mahlstick/price.price",92),("mahlstick/price.quantities",92),("mahlstick/strip.chain",107),("mahlstick/strip.free",107),("mahlstick/strip.orders",107),("mahlstick/strip.ways",107),("mahlstick/bench.before",120),("mahlstick/bench.begin",120),("mahlstick/bench.end",120),("mahlstick/bench.free",120),("mahlstick/bench.long",120),("mahlstick/coat.dries",169),("mahlstick/coat.goes",169),("mahlstick/coat.greatest",169),("mahlstick/coat.least",169),("mahlstick/coat.plans",169),("mahlstick/coat.stands",169),("mahlstick/price.down",200),("mahlstick/price.even",200),("mahlstick/price.near",200),("mahlstick/price.rounded",200),("mahlstick/price.up",200),("mahlstick/bench.fewest",209),("mahlstick/bench.most",209),("mahlstick/price.quantity",235),("mahlstick/price.quantity",236),("mahlstick/price.quantity",237),("mahlstick/price.quantity",238),("String",264)]) [.func (.method "mahlstick/price.quantity") #[.iface 235 junk] #[]]=some junk:=vv_nck _ _ _ (by decide +kernel)
theorem c187 (x n:Int)(H:Heap):R (.func 187) [.agg #[],.agg #[.int .i64 x,.int .i64 0,.int .i64 0,.int .i64 0,.int .i64 0],.int .i64 n] H=some ⟨.ok (.int .i64 x),H,H.length⟩:=by
 refine run_k (pr 187) P187 (by simp [p187]) rfl ?_
 simp (maxDischargeDepth:=8) only [↓SD,SU,SV,SW,simprocAttr,Int.cast_ofNat_Int,small,resV, B187,R187,N187,b187, R187,N187]
theorem c120 (t:Int×Int)(H:Heap):R (.func 120) [.agg #[.int .i64 1,.int .i64 t.1,.int .i64 1,.int .i64 t.2,.bool true]] H=some ⟨.ok (.iface 235 (.agg #[])),H,H.length⟩:=by
 refine run_k (pr 120) P120 (by simp [p120]) rfl ?_
 simp (maxDischargeDepth:=8) only [↓SD,SU,SV,SW,simprocAttr,Int.cast_ofNat_Int,small,resV, B120,R120,N120,b120, vv_ixa0,R120,N120]
theorem sumI_inK {K:Int}(k0:0≤K){xs:List Int}(h:∀x∈xs,0≤x∧x≤K):0≤sumI xs∧sumI xs≤K*(xs.length:Nat):=by
 induction xs with
 | nil=>simp [sumI]
 | cons x xs ih =>
  have h1:=h x (List.mem_cons_self ..)
  have ih:=ih fun y hy=>h y (List.mem_cons_of_mem _ hy)
  have e:K*((xs.length+1:Nat):Int)=K*(xs.length:Nat)+K:=by rw [Int.natCast_add,Int.mul_add]; simp
  simp only [sumI,List.length_cons]
  rw [e]; omega
theorem c78 {H:Heap}{a:Option Addr}{l kk:Nat}{xs:List Int}(hs:Ints H a l xs)(hl:l≤1000)(hb:∀x∈xs,0≤x∧x≤30000) :
  ∀H',Grow H H'→R (.func 78) [.slice a l kk] H'=some ⟨.ok (.int .i64 (sumI xs)),H',H'.length⟩:=by
 intro H' hg
 refine run_k (pr 78) P78 (by simp [p78]) rfl ?_
 have lo:=hs.isLoc kk
 simp (maxDischargeDepth:=8) only [↓SD,SU,SV,SW,simprocAttr,Int.cast_ofNat_Int,small,resV, B78,R78,N78,b78, lo]
 refine loop_ind (G:=(·=_)) (fun j σ=>∃T,σ=⟨T,[],[],H',(H').length,17,false⟩∧get T 3=.int .i64 (sumI (xs.take j))∧get T 6=.slice a l kk∧get T 7=.int .i64 l∧get T 8=.int .i64 (j:Nat)∧(True)) (l) ?_ ?_ 0 _ (Nat.zero_le _) ⟨_,rfl,rfl,rfl,rfl,rfl,by simp⟩
 ·rintro c' j s hj ⟨T,rfl,t3,t6,t7,t8,hp⟩ ih
  obtain ⟨b,off,x,hxa,hx,e1⟩:=hs.i1 hj
  have e1:=e1 H' hg
  have ia:=ia_of (kk:=kk) (k:=1) hxa hj
  have hw:=wrap_succ j (by omega)
  have h1:=sumI_inK (K:=30000) (by omega) (xs:=xs.take (j+1)) fun y hy=>hb y (List.mem_of_mem_take hy)
  have h2:(xs.take (j+1)).length≤1000:=by rw [List.length_take]; omega
  have h3:sumI (xs.take (j+1))=sumI (xs.take j)+x:=by rw [take_get hx,sumI_app]; simp [sumI]
  have w2:IntKind.wrap .i64 (sumI (xs.take j)+x)=sumI (xs.take (j+1)):=by rw [←h3]; exact wrap_id _ (by omega) (by omega)
  simp (maxDischargeDepth:=8) only [↓SD,SU,SV,SW,simprocAttr,Int.cast_ofNat_Int,small,resV, q78x0,t3,t6,t7,t8, lt_nat,hj,lo,ia,e1,hw,w2]
  exact ih _ ⟨_,rfl,(by simp [get_set,t3] <;> omega),(by simp [get_set,t6] <;> omega),(by simp [get_set,t7] <;> omega),(by simp [get_set,t8] <;> omega),trivial⟩
 ·rintro c' s ⟨T,rfl,t3,t6,t7,t8,hp⟩
  have hle:xs.take l=xs:=List.take_of_length_le (by rw [hs.len]; exact Nat.le_refl _)
  rw [hle] at t3
  simp (maxDischargeDepth:=8) only [↓SD,SU,SV,SW,simprocAttr,Int.cast_ofNat_Int,small,resV, q78x0,t3,t6,t7,t8, lt_nat,Nat.lt_irrefl,lo,R78,N78]
def argB (oa ba ta ha:Option Addr)(ok bl bk tk hl hk mb:Nat):Value:=.agg #[.slice oa 1 ok,.slice ba bl bk,.slice ta 1 tk,.slice ha hl hk,.map (some mb)]
def argT (t:Int×Int):Value:=.agg #[.int .i64 1,.int .i64 t.1,.int .i64 1,.int .i64 t.2,.bool true]
theorem c76 {H:Heap}{oa ba ta ha:Option Addr}{ok bk tk hk mb:Nat}{xs:List Int}{t:Int×Int}(h:PrOk H oa ba ta xs t)(hh:Ints H ha xs.length (xs.map fun _=>0)) :
  ∀H',Grow H H'→Yes (R (.func 76) [argB oa ba ta ha ok xs.length bk tk xs.length hk mb,argT t] H') (QS H' 1 encI xs):=by
 intro H' hg
 have l1:=h.of.isLoc ok
 have l2:=h.bd.isLoc bk
 have l3:=h.tr.isLoc tk
 have l4:=hh.isLoc hk
 have n4:=h.n4
 have lm:isLoc (.map (some mb))=false:=rfl
 unfold argB argT
 refine run_y (pr 76) P76 (by simp [p76]) rfl ?_
 simp (maxDischargeDepth:=8) only [↓SD,SU,SV,SW,simprocAttr,Int.cast_ofNat_Int,small,resV, B76,R76,N76,b76, l1,l2,l3,l4,lm,c120]
 refine loop_ind (G:=(Yes · (QS H' 1 encI xs))) (fun j σ=>∃T S H3 a m lim,σ=⟨T,S,[],H3,lim,36,false⟩∧get T 2=.pointer (some ⟨2,0,some 1⟩)∧get T 5=.slice a j m∧get T 6=.iface 235 (.agg #[])∧get T 13=.slice ba xs.length bk∧get T 14=.int .i64 (xs.length:Nat)∧get T 15=.int .i64 (j:Nat)∧sget S 2=(1,.cells [.slice oa 1 ok,.slice ba xs.length bk,.slice ta 1 tk,.slice ha xs.length hk,.map (some mb)])∧(Bld H'.length H3 1 a j m (cells encI (xs.take j))∧Up H' H3∧H'.length≤lim)) (xs.length) ?_ ?_ 0 _ (Nat.zero_le _) ⟨_,_,_,_,_,_,rfl,rfl,rfl,rfl,rfl,rfl,rfl,rfl,⟨Bld.nil _ _ _,Up.refl _,Nat.le_refl _⟩⟩
 ·rintro c' j s hj ⟨T,S,H3,a,m,lim,rfl,t2,t5,t6,t13,t14,t15,s0,hp⟩ ih
  obtain ⟨hbd,hu,hlim⟩:=hp
  obtain ⟨b1,o1,x,hxa,hx,e1,_⟩:=h.bd.b5 hj
  have e1:=e1 H3 (hg.trans hu.grow)
  obtain ⟨b2,o2,y,hya,hy,e2⟩:=hh.i1 hj
  have e2:=e2 H3 (hg.trans hu.grow)
  have ia:=ia_of (kk:=bk) (k:=5) hxa hj
  have ia2:=ia_of (kk:=hk) (k:=1) hya hj
  have hw:=wrap_succ j (by omega)
  have hul:=hu.len
  have l7:isLoc (.slice a j m)=false:=hbd.isLoc _ _
  have k1:=c187 x y H3
  obtain ⟨H4,q1,q2,q3,q4⟩:=hbd.app (by decide) (by decide) (by omega) (by omega) [.int .i64 x] rfl
  have iv:=fun vs=>inv_ok [(235,187),(236,188),(237,189),(238,190)] 235 187 (.agg #[]) vs rfl
  have h34:=q3.len
  simp (maxDischargeDepth:=8) only [↓SD,SU,SV,SW,simprocAttr,Int.cast_ofNat_Int,small,resV, q76x0,t2,t5,t6,t13,t14,t15,s0, lt_nat,hj,l1,l2,l3,l4,l7,ia,ia2,e1,e2,hw,vv_mth,nck_q,goD_inv1,iv,k1,q1]
  exact ih _ ⟨_,_,(H4),(some ⟨H3.length,0,none⟩),(1),(_),rfl,(by simp [get_set,t2] <;> omega),(by simp [get_set,t5] <;> omega),(by simp [get_set,t6] <;> omega),(by simp [get_set,t13] <;> omega),(by simp [get_set,t14] <;> omega),(by simp [get_set,t15] <;> omega),by simp [sget_sset,s0],⟨by rw [take_get hx,cells_app]; exact q2,q3.up hbd hu (Nat.le_refl _),by omega⟩⟩
 ·rintro c' s ⟨T,S,H3,a,m,lim,rfl,t2,t5,t6,t13,t14,t15,s0,hp⟩
  obtain ⟨hbd,hu,hlim⟩:=hp
  rw [List.take_of_length_le (Nat.le_refl _)] at hbd
  have l7:isLoc (.slice a xs.length m)=false:=hbd.isLoc _ _
  simp (maxDischargeDepth:=8) only [↓SD,SU,SV,SW,simprocAttr,Int.cast_ofNat_Int,small,resV, q76x0,t2,t5,t6,t13,t14,t15,s0, lt_nat,Nat.lt_irrefl,l1,l2,l3,l4,l7,R76,N76]
  rw [yes_some]
  exact gc_sl (hbd.sl encI_len (by decide)) hu hlim
end Go.Pi.L.Top
set_option maxRecDepth 100000
namespace Go.Pi.L.Top
open Go Go.Pi Go.Pi.L Go.Pi.Top LM

theorem loc_mm (i:Nat):isLoc (.map (some i))=false:=rfl
theorem c33 {oa ba ta ha:Option Addr}{ok bl bk tk hl hk:Nat}(l1:isLoc (.slice oa 1 ok)=false)(l2:isLoc (.slice ba bl bk)=false)(l3:isLoc (.slice ta 1 tk)=false)(l4:isLoc (.slice ha hl hk)=false)(H:Heap) :
  R (.func 33) [.agg #[.slice oa 1 ok,.slice ba bl bk,.slice ta 1 tk],.slice ha hl hk] H=some ⟨.ok (argB oa ba ta ha ok bl bk tk hl hk H.length),H++[({ obj:=.map pSh [] }:Blk)],H.length⟩:=by
 unfold argB
 refine run_k (pr 33) P33 (by simp [p33]) rfl ?_
 simp (maxDischargeDepth:=8) only [↓SD,SU,SV,SW,simprocAttr,Int.cast_ofNat_Int,small,resV, B33,R33,N33,b33, l1,l2,l3,l4,loc_mm,g_mkm,R33,N33]
 rw [gc_nf (by simp [flat])]
def QNp (t:Int×Int)(H:Heap)(mb:Nat)(xs:List Int)(o:Out):Prop:=∃a m H1 lo,o=⟨.ok (.slice a xs.length m),H1,lo⟩∧Chg (·=mb) H H1∧MpP t H1 mb∧mb≤lo∧Ints H1 a xs.length xs
theorem gc_n {t:Int×Int}{H H1:Heap}{xs:List Int}{a:Option Addr}{l m lo mb:Nat}(hs:Ints H1 a l xs)(hc:Chg (·=mb) H H1)(hm:MpP t H mb)(hm1:MpP t H1 mb)(hl:mb≤lo):QNp t H mb xs (gcR H (.ok (.slice a l m)) H1 lo):=by
 have e:=hs.len
 subst e
 simp only [gcR]
 split
 ·rename_i hx
  exact ⟨a,m,H,H.length,rfl,Chg.refl _ _,hm,Nat.le_of_lt hm.lt,hs.flat hx.2⟩
 ·exact ⟨a,m,H1,lo,rfl,hc,hm1,hl,hs⟩
def pricesP (t:Int×Int)(xs:List Int):List Int:=xs.map fun x=>x*t.1
theorem c34 {H:Heap}{oa ba ta ha:Option Addr}{ok bk tk hk mb:Nat}{xs:List Int}{t:Int×Int}(h:PrOk H oa ba ta xs t)(hh:Ints H ha xs.length (xs.map fun _=>0)) :
  ∀H',Grow H H'→MpP t H' mb→Yes (R (.func 34) [argB oa ba ta ha ok xs.length bk tk xs.length hk mb,argT t] H') (QNp t H' mb (pricesP t xs)):=by
 intro H' hg hm
 have l1:=h.of.isLoc ok
 have l2:=h.bd.isLoc bk
 have l3:=h.tr.isLoc tk
 have l4:=hh.isLoc hk
 have n4:=h.n4
 have hmb:=hm.lt
 have lm:isLoc (.map (some mb))=false:=rfl
 obtain ⟨_,k76,a1,m1,H1,lo1,rfl,u1,hlo1,hi1⟩:=c76 (ok:=ok) (bk:=bk) (tk:=tk) (hk:=hk) (mb:=mb) h hh H' hg
 have hm1:=hm.up u1
 have hlen1:=u1.len
 have l5:=hi1.isLoc m1
 unfold argB argT at k76 ⊢
 refine run_y (pr 34) P34 (by simp [p34]) rfl ?_
 simp (maxDischargeDepth:=8) only [↓SD,SU,SV,SW,simprocAttr,Int.cast_ofNat_Int,small,resV, B34,R34,N34,b34, l1,l2,l3,l4,l5,lm,k76]
 refine loop_ind (G:=(Yes · (QNp t H' mb (pricesP t xs)))) (fun j σ=>∃T S H3 a m lim,σ=⟨T,S,[],H3,lim,27,false⟩∧get T 2=.pointer (some ⟨2,0,some 1⟩)∧get T 3=.pointer (some ⟨3,0,some 1⟩)∧get T 5=.slice a j m∧get T 11=.slice a1 xs.length m1∧get T 12=.int .i64 (xs.length:Nat)∧get T 13=.int .i64 (j:Nat)∧sget S 2=(1,.cells [.slice oa 1 ok,.slice ba xs.length bk,.slice ta 1 tk,.slice ha xs.length hk,.map (some mb)])∧sget S 3=(1,.cells [.int .i64 1,.int .i64 t.1,.int .i64 1,.int .i64 t.2,.bool true])∧(Bld H1.length H3 1 a j m (cells encI (pricesP t (xs.take j)))∧Chg (·=mb) H1 H3∧MpP t H3 mb∧mb≤lim)) (xs.length) ?_ ?_ 0 _ (Nat.zero_le _) ⟨_,_,_,_,_,_,rfl,rfl,rfl,rfl,rfl,rfl,rfl,rfl,rfl,⟨Bld.nil _ _ _,Chg.refl _ _,hm1,by omega⟩⟩
 ·rintro c' j s hj ⟨T,S,H3,a,m,lim,rfl,t2,t3,t5,t11,t12,t13,s0,s1,hp⟩ ih
  obtain ⟨hbd,hch,hm3,hlim⟩:=hp
  have hg3:Grow H1 H3:=hch.grow_map hm1.hc
  obtain ⟨b2,o2,x,hxa,hx,e1⟩:=hi1.i1 hj
  have e1:=e1 H3 hg3
  have hxi:=h.xi x (mem_drop hx)
  have ia:=ia_of (kk:=m1) (k:=1) hxa hj
  have hw:=wrap_succ j (by omega)
  have l7:isLoc (.slice a j m)=false:=hbd.isLoc _ _
  obtain ⟨_,k77,H4,lo4,rfl,ch4,hm4,hl4⟩:=c77 (ha:=ha) (hl:=xs.length) (hk:=hk) l1 l2 l3 l4 h.t1 h.t2 hxi.1 hxi.2 hm3
  have hmb1:mb < H1.length:=hm1.lt
  have bd4:=hbd.chg ch4 (fun i hi=>by subst hi; exact hmb1)
  have h34:=ch4.len
  have h13:=hch.len
  obtain ⟨H5,q1,q2,q3,q4⟩:=bd4.app (by decide) (by decide) (by omega) (by omega) [.int .i64 (x*t.1)] rfl
  have ch5:=q3.chg bd4 (hch.trans ch4 (fun _ _ h=>h)) (Nat.le_refl _)
  have hm5:=hm4.same (q3.at bd4 hmb1 hm4.lt)
  have h45:=q3.len
  simp (maxDischargeDepth:=8) only [↓SD,SU,SV,SW,simprocAttr,Int.cast_ofNat_Int,small,resV, q34x0,t2,t3,t5,t11,t12,t13,s0,s1, lt_nat,hj,l1,l2,l3,l4,l5,l7,lm,ia,e1,hw,k77,q1]
  exact ih _ ⟨_,_,(H5),(some ⟨H4.length,0,none⟩),(1),(_),rfl,(by simp [get_set,t2] <;> omega),(by simp [get_set,t3] <;> omega),(by simp [get_set,t5] <;> omega),(by simp [get_set,t11] <;> omega),(by simp [get_set,t12] <;> omega),(by simp [get_set,t13] <;> omega),by simp [sget_sset,s0],by simp [sget_sset,s1],⟨by unfold pricesP at *; rw [take_get hx,List.map_append,List.map_singleton,cells_app]; exact q2,ch5,hm5,by omega⟩⟩
 ·rintro c' s ⟨T,S,H3,a,m,lim,rfl,t2,t3,t5,t11,t12,t13,s0,s1,hp⟩
  obtain ⟨hbd,hch,hm3,hlim⟩:=hp
  rw [List.take_of_length_le (Nat.le_refl _)] at hbd
  have l7:isLoc (.slice a xs.length m)=false:=hbd.isLoc _ _
  simp (maxDischargeDepth:=8) only [↓SD,SU,SV,SW,simprocAttr,Int.cast_ofNat_Int,small,resV, q34x0,t2,t3,t5,t11,t12,t13,s0,s1, lt_nat,Nat.lt_irrefl,l1,l2,l3,l4,l5,l7,R34,N34]
  rw [yes_some]
  have hu1:Chg (·=mb) H' H3:=u1.chg.trans hch (fun _ _ h=>h)
  refine gc_n ?_ hu1 hm hm3 hlim
  have hs:=hbd.sl encI_len (by decide)
  exact hs
end Go.Pi.L.Top
