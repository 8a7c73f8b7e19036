/- Letters: settings are gone through: what the program keeps on the way. -/
import Derived.Test.YtjgmlngcknehhaaGreatTE
set_option linter.all false
set_option maxRecDepth 100000
namespace Go.Pi.L
open Go Go.Pi
theorem app_get2 {H:Heap}{b:Blk}:(H++[b])[H.length]?=some b:=by simp
section
variable {α:Type} {call:CallT} {F:Ex→St→Option α} {k:List It}
theorem rD_hb (v H' lo' c tb d T S D H lo n rnd):retD call F (some ⟨.ok v,H',lo'⟩) ⟨c,true,tb⟩ d k ⟨T,S,D,H,lo,n,rnd⟩=nxt call F (some v) d k ⟨T,S,D,H',min lo (min H.length lo'),n,rnd⟩:=by
 simp only [retD]; rw [if_pos (.inl (.inr trivial))]
theorem fa_yield (l vs)(hl:(vs.all fun v=>!isLoc v)=true):fargs (.func (.yield l) #[] #[]) vs=some (.yield l,vs):=by simp [fargs,hl,fnArgs]
theorem apA_new2 (new d T S D H lo n rnd)(h2:new.length < 1000000)(h3:new≠[])(h4:new.length % 2=0):ap1 call F (some new) (.slice (some ⟨H.length,0,none⟩) 0 2) 2 d k ⟨T,S,D,H++[⟨.cells [],true,true,some H.length⟩],lo,n,rnd⟩ =
  nxt call F (some (.slice (some ⟨H.length+1,0,none⟩) (new.length / 2) 2)) d k ⟨T,S,D,H++[⟨.cells [],true,false,some H.length⟩]++[⟨.cells new,true,true,some H.length⟩],lo,n,rnd⟩:=by
 rw [apA_tip,app_get2,apB_ok _ _ _ _ _ _ _ _ _ _ _ _ _ _ h4 (by omega) (by cases new with | nil=>exact absurd rfl h3 | cons=>rfl) (by decide) (by simp)]
 simp
end
theorem gc_no {H H1:Heap}{v:Value}{lo:Nat}(h:¬H.length≤lo):gcR H (.ok v) H1 lo=⟨.ok v,H1,lo⟩:=by
 simp only [gcR]; rw [if_neg (fun x=>h x.1)]
theorem Pfx.keep {A B:Nat→Prop}{H H':Heap}{k:Nat}{a:Option Addr}{l m:Nat}{c:List Value}(h:Pfx A H k a l m c)(hab:∀i,A i→B i)(hs:∀(i:Nat) c f,A i→H[i]?=some ⟨.cells c,true,true,some f⟩→H'[i]?=H[i]?):Pfx B H' k a l m c :=
 ⟨h.len,by
  rcases h.ok with h | ⟨b,f,c',h1,h2,h3,h4,h5,h6,h7⟩
  ·exact .inl h
  ·exact .inr ⟨b,f,c',h1,h2,hab b h3,hab f h4,h5,h6,by rw [hs b c' f h3 h7]; exact h7⟩⟩
theorem Sl.of_cells {β:Type}{enc:β→List Value}{H:Heap}{k b:Nat}{xs:List β}(hk:∀x,(enc x).length=k)(h:hcells H b=some (cells enc xs)):Sl H k enc (some ⟨b,0,Option.none⟩) xs.length xs :=
 ⟨rfl,.inr ⟨_,_,rfl⟩,fun j x hx=>⟨b,0,cells enc xs,rfl,h,by rw [Nat.zero_add]; exact cells_get hk hx⟩⟩
def InR (Rd:Nat→Prop)(a:Option Addr)(l:Nat):Prop:=0 < l→∀b off,a=some ⟨b,off,none⟩→Rd b
theorem Sl.inR {β:Type}{H:Heap}{k:Nat}{enc:β→List Value}{a:Option Addr}{l:Nat}{xs:List β}(h:Sl H k enc a l xs):InR (· < H.length) a l:=fun h0 b off ha=>by
 obtain ⟨x,hx⟩:∃x,xs[0]?=some x:=⟨_,List.getElem?_eq_getElem (by rw [h.len]; exact h0)⟩
 obtain ⟨b',off',c,h1,h2,_⟩:=h.rd 0 x hx
 rw [ha] at h1; cases h1
 exact hc_lt h2
theorem Sl.kept {β:Type}{Rd:Nat→Prop}{H H':Heap}{k:Nat}{enc:β→List Value}{a:Option Addr}{l:Nat}{xs:List β}(h:Sl H k enc a l xs)(hr:InR Rd a l)(hs:∀i,Rd i→H'[i]?=H[i]?):Sl H' k enc a l xs :=
 ⟨h.len,h.loc,fun j x hx=>by
  obtain ⟨b,off,c',h1,h2,h3⟩:=h.rd j x hx
  refine ⟨b,off,c',h1,?_,h3⟩
  unfold hcells at h2 ⊢
  rw [hs b (hr (by have:=(List.getElem?_eq_some_iff.1 hx).1; have:=h.len; omega) b off h1)]; exact h2⟩
structure Col (n0:Nat)(A:Nat→Prop)(H:Heap)(k:Nat)(a:Option Addr)(l m:Nat)(c:List Value):Prop where
 len:c.length=l*k
 ok:(a=none∧l=0∧m=0)∨∃b f,a=some ⟨b,0,none⟩∧m=k∧n0≤f∧f≤b∧¬A b∧¬A f∧H[b]?=some ⟨.cells c,true,true,some f⟩
theorem Col.nil (n0:Nat)(A:Nat→Prop)(H:Heap)(k:Nat):Col n0 A H k none 0 0 []:=⟨by simp,.inl ⟨rfl,rfl,rfl⟩⟩
theorem Col.isLoc {n0:Nat}{A:Nat→Prop}{H:Heap}{k:Nat}{a:Option Addr}{l m:Nat}{c:List Value}(h:Col n0 A H k a l m c)(x y:Nat):Go.Pi.isLoc (.slice a x y)=false:=by
 rcases h.ok with ⟨rfl,_⟩ | ⟨b,f,rfl,_⟩ <;> rfl
theorem Col.own {n0:Nat}{A:Nat→Prop}{H H':Heap}{k:Nat}{a:Option Addr}{l m:Nat}{c:List Value}(h:Col n0 A H k a l m c)(g:Chg A H H'):Col n0 (And' A H H') H' k a l m c :=
 ⟨h.len,by
  rcases h.ok with h | ⟨b,f,h1,h2,h3,h4,h5,h6,h7⟩
  ·exact .inl h
  ·have hb:=(List.getElem?_eq_some_iff.1 h7).1
   exact .inr ⟨b,f,h1,h2,h3,h4,fun q=>q.elim h5 fun q=>by omega,fun q=>q.elim h6 fun q=>by omega,by rw [g.old b hb h5]; exact h7⟩⟩
theorem Col.less {n0:Nat}{A B:Nat→Prop}{H:Heap}{k:Nat}{a:Option Addr}{l m:Nat}{c:List Value}(h:Col n0 A H k a l m c)(hab:∀i,B i→A i):Col n0 B H k a l m c :=
 ⟨h.len,by
  rcases h.ok with h | ⟨b,f,h1,h2,h3,h4,h5,h6,h7⟩
  ·exact .inl h
  ·exact .inr ⟨b,f,h1,h2,h3,h4,fun q=>h5 (hab b q),fun q=>h6 (hab f q),h7⟩⟩
theorem Col.same {n0:Nat}{A:Nat→Prop}{H H':Heap}{k:Nat}{a:Option Addr}{l m:Nat}{c:List Value}(h:Col n0 A H k a l m c)(hs:∀(i:Nat) b f,H[i]?=some b→b.fam=some f→H'[i]?=some b):Col n0 A H' k a l m c :=
 ⟨h.len,by
  rcases h.ok with h | ⟨b,f,h1,h2,h3,h4,h5,h6,h7⟩
  ·exact .inl h
  ·exact .inr ⟨b,f,h1,h2,h3,h4,h5,h6,hs b _ f h7 rfl⟩⟩
theorem Col.app {n0:Nat}{A:Nat→Prop}{H:Heap}{k:Nat}{a:Option Addr}{l m:Nat}{c:List Value}(h:Col n0 A H k a l m c)(hA:Lt A H)(hN:NF A H)(hF:Fam H)(hn:n0≤H.length)(hk:0 < k)(hk2:k < 1000)(hl:l < 100000)(new:List Value)(hnew:new.length=k) :
  ∃H1,(∀{α:Type} (call:CallT) (F:Ex→St→Option α) d kk T S D lo n rnd,ap1 call F (some new) (.slice a l m) k d kk ⟨T,S,D,H,lo,n,rnd⟩=nxt call F (some (.slice (some ⟨H.length,0,none⟩) (l+1) k)) d kk ⟨T,S,D,H1,lo,n,rnd⟩) ∧
   Col n0 A H1 k (some ⟨H.length,0,none⟩) (l+1) k (c++new)∧Grow H H1∧H1.length=H.length+1∧(∀i,A i→H1[i]?=H[i]?)∧(∀i,i < n0→H1[i]?=H[i]?)∧(∀(i:Nat) b,H[i]?=some b→b.fam=none→H1[i]?=some b)∧NF A H1∧Fam H1:=by
 have he:new.isEmpty=false:=by cases new with | nil=>simp at hnew; omega | cons=>rfl
 have hlen:=h.len
 have hm:new.length % k=0:=by rw [hnew]; exact Nat.mod_self _
 have hd:new.length / k=1:=by rw [hnew]; exact Nat.div_self hk
 have hlk:l*k≤100000*1000:=Nat.mul_le_mul (by omega) (by omega)
 rcases h.ok with ⟨rfl,rfl,rfl⟩ | ⟨b,f,rfl,rfl,h3,h4,h5,h6,h7⟩
 ·have hc:c=[]:=by simpa using hlen
  subst hc
  refine ⟨H++[⟨.cells new,true,true,some H.length⟩],fun call F d kk T S D lo n rnd=>?_,⟨by simp [hnew],.inr ⟨_,H.length,rfl,rfl,hn,Nat.le_refl _,fun q=>by have:=hA _ q; omega,fun q=>by have:=hA _ q; omega,by simp⟩⟩,(Up.refl H).app.grow,by simp,fun i hi=>List.getElem?_append_left (hA i hi),fun i hi=>List.getElem?_append_left (by omega),fun i b hb _=>by rw [List.getElem?_append_left (List.getElem?_eq_some_iff.1 hb).1]; exact hb,fun i b g hi hg ha=>?_,Fam.app1 hF (Nat.le_refl _)⟩
  ·rw [apA_nil _ _ _ _ _ _ _ _ _ _ hm (by omega) he,hd]
  ·by_cases hlt:i < H.length
   ·rw [List.getElem?_append_left hlt] at hi; exact hN i b g hi hg ha
   ·have hi2:=(List.getElem?_eq_some_iff.1 hi).1
    simp at hi2
    obtain rfl:i=H.length:=by omega
    rw [app_get2] at hi; cases hi; cases hg
    have:=hA _ ha; omega
 ·have hb:=(List.getElem?_eq_some_iff.1 h7).1
  have old:∀i,i < H.length→i≠b→(H.set b ⟨.cells c,true,false,some f⟩++[⟨.cells (c++new),true,true,some f⟩])[i]?=H[i]?:=fun i hi hne=>by
   rw [List.getElem?_append_left (by simpa using hi),List.getElem?_set_ne (fun e=>hne e.symm)]
  refine ⟨H.set b ⟨.cells c,true,false,some f⟩++[⟨.cells (c++new),true,true,some f⟩],fun call F d kk T S D lo n rnd=>?_,⟨by simp [hnew,hlen,Nat.add_mul],.inr ⟨_,f,rfl,rfl,h3,by omega,fun q=>by have:=hA _ q; omega,h6,by rw [List.getElem?_append_right (by simp)]; simp⟩⟩,grow_app (grow_tip h7),by simp,fun i hi=>old i (hA i hi) (fun e=>h5 (by rw [←e]; exact hi)),fun i hi=>old i (by omega) (by omega),fun i b0 hi hb0=>by
   rw [old i (List.getElem?_eq_some_iff.1 hi).1 (fun e=>by subst e; rw [h7] at hi; cases hi; cases hb0)]; exact hi,fun i b0 g hi hg ha=>?_,?_⟩
  ·rw [apA_tip]
   simp only [h7]
   rw [apB_ok _ _ _ _ _ _ _ _ _ _ _ _ _ _ hm (by omega) he hk hlen.symm,hd]
  ·by_cases hlt:i < H.length
   ·by_cases e:i=b
    ·subst e
     rw [List.getElem?_append_left (by simpa using hlt),List.getElem?_set_self hlt] at hi
     cases hi; cases hg; exact absurd ha h6
    ·rw [old i hlt e] at hi; exact hN i b0 g hi hg ha
   ·have hi2:=(List.getElem?_eq_some_iff.1 hi).1
    simp at hi2
    obtain rfl:i=H.length:=by omega
    rw [List.getElem?_append_right (by simp)] at hi
    simp at hi; subst hi; cases hg; exact absurd ha h6
  ·refine Fam.app1 (hF.set (b:=⟨.cells c,true,false,some f⟩) h7 rfl) ?_
   simp only [List.length_set]; omega
structure Kp (A Rd:Nat→Prop)(nb:Nat)(H H':Heap):Prop where
 len:H.length≤H'.length
 keep:∀(i:Nat) b,A i→i≠nb→H[i]?=some b→b.fam=none→H'[i]?=some b
 rd:∀i,Rd i→H'[i]?=H[i]?
theorem Kp.refl (A Rd:Nat→Prop)(nb:Nat)(H:Heap):Kp A Rd nb H H:=⟨Nat.le_refl _,fun _ _ _ _ h _=>h,fun _ _=>rfl⟩
theorem Kp.trans {A B Rd:Nat→Prop}{nb:Nat}{H H1 H2:Heap}(h:Kp A Rd nb H H1)(h':Kp B Rd nb H1 H2)(hab:∀i,A i→B i):Kp A Rd nb H H2 :=
 ⟨Nat.le_trans h.len h'.len,fun i b ha h1 h3 h4=>h'.keep i b (hab i ha) h1 (h.keep i b ha h1 h3 h4) h4,fun i hi=>by rw [h'.rd i hi,h.rd i hi]⟩
end Go.Pi.L
namespace Go.Pi.L.Top
open Go Go.Pi Go.Pi.L Go.Pi.Top LM

theorem keepL:∀f g,primsL f=some g→∀args H out,g args H=some out→Fam H→Fam out.H∧Same out.lo H out.H:=by
 intro f g hf
 unfold primsL at hf
 split at hf
 ·cases hf
  intro args H out ho hF
  dsimp only at ho
  split at ho
  ·cases ho; exact ⟨hF,Same.refl _ _⟩
  ·cases ho
 ·cases hf
theorem famR {fn:Fn}{args:List Value}{H:Heap}{o:Out}(h:R fn args H=some o)(hF:Fam H):Fam o.H:=runL_fam keepL h hF
theorem c66nil (H:Heap):R (.func 66) [.slice none 0 0] H=some ⟨.ok (.slice none 0 0),H,H.length⟩:=by
 refine run_k (pr 66) P66 (by simp [p66]) rfl ?_
 simp (maxDischargeDepth:=8) only [↓SD,SU,SV,SW,simprocAttr,Int.cast_ofNat_Int,small,resV, B66,R66,N66,b66, vv_nl_s0]
theorem c108 {H:Heap}{a:Option Addr}{l k:Nat}{xs:List (Int×Int)}(hx:Sl H 2 encG a l xs)(h0:0 < l)(hl:l < 1000) :
  ∀H',Grow H H'→R (.func 108) [.slice a l k] H'=some ⟨.ok (.slice (some ⟨H'.length+1,0,none⟩) l 2),H'++[⟨.cells [],true,false,some H'.length⟩]++[⟨.cells (cells encG xs),true,true,some H'.length⟩],H'.length⟩:=by
 intro H' hg
 have hg1:=hg.trans ((Up.refl H').app (l:=[({ obj:=.cells [],fam:=some H'.length }:Blk)])).grow
 have hlen:(cells encG xs).length=l*2:=by rw [cells_len (k:=2) (fun _=>rfl),hx.len]
 have q0:=fun T S D lo n rnd=>(hx.grow hg1).elems (fun _=>rfl) (by decide) k T S D lo n rnd
 have q1:=fun T S D lo n rnd d k (F:Ex→St→Option Out)=>apA_new2 (call:=runL PP primsL) (F:=F) (k:=k) (cells encG xs) d T S D H' lo n rnd (by omega) (by intro h; rw [h] at hlen; simp at hlen; omega) (by omega)
 rw [hlen,Nat.mul_div_cancel l (by decide:0 < 2)] at q1
 have l1:=hx.isLoc k
 refine run_k (pr 108) P108 (by simp [p108]) rfl ?_
 obtain ⟨b,off,x,rfl,hx',f0⟩:=hx.at (fun _=>rfl) (by decide) h0
 simp (maxDischargeDepth:=8) only [↓SD,SU,SV,SW,simprocAttr,Int.cast_ofNat_Int,small,resV, B108,R108,N108,b108, l1,vv_nl_s,q0,q1]
 rw [gc_ite (Nat.le_refl _),if_neg (by simp [flat])]

def frontC (r:LeR)(s:Sheet)(mb:Nat):List Value:=[.slice r.wa r.wl r.wk,.slice r.pa r.pl r.pk,.int .i64 s.other.1,.int .i64 s.other.2,.int .i64 s.gap.1,.int .i64 s.gap.2,.int .i64 s.hyphen,.slice r.na r.nl r.nk,.int .i64 s.wide,.int .i64 s.rows,.map (some mb)]
structure Ctx where
 s:Sheet
 r:LeR
 mb:Nat
 l:Nat
 n0:Nat
 Rd:Nat→Prop
 AL:Nat→Prop
 xb:Nat
 ob:Nat
 ab:Nat
 aa:Option Addr
 ak:Nat
 nb:Nat
 yb:Nat
 fb:Nat
def ptr (b:Nat):Value:=.pointer (some ⟨b,0,none⟩)
def bx (v:Value):Blk:=⟨.cells [v],true,true,none⟩
theorem bx_hc {H:Heap}{i:Nat}{v:Value}(h:H[i]?=some (bx v)):hcells H i=some [v]:=by simp [hcells,h,bx]
theorem hc_kept {H H':Heap}{i:Nat}(h:H'[i]?=H[i]?):hcells H' i=hcells H i:=by simp only [hcells,h]
def AU (X:Ctx)(A:Nat→Prop):Nat→Prop:=fun i=>A i∨X.AL i
def RA (X:Ctx):Nat→Prop:=fun i=>X.Rd i∨X.AL i
structure Env (X:Ctx)(A:Nat→Prop)(H:Heap)(pre:List LM.End):Prop where
 lt:Lt A H
 nf:NF A H
 nfu:NF (AU X A) H
 fam:Fam H
 lo:∀i,A i→X.n0≤i
 ll:X.l < H.length
 n0l:X.n0≤X.l
 dis:∀i,RA X i→¬A i∧i < H.length
 xR:X.Rd X.xb
 xC:hcells H X.xb=some (frontC X.r X.s X.mb)
 oR:X.Rd X.ob
 oC:hcells H X.ob=some [.slice none 0 0]
 bR:X.AL X.ab
 bC:hcells H X.ab=some [.slice X.aa (ends X.s).length X.ak]
 al:Sl H 2 encG X.aa (ends X.s).length (ends X.s)
 alR:InR (RA X) X.aa (ends X.s).length
 yR:X.AL X.yb
 yC:hcells H X.yb=some [.func (.yield X.l) #[] #[]]
 nA:A X.nb
 now:∃a m,H[X.nb]?=some (bx (.slice a pre.length m))∧Pfx A H 2 a pre.length m (cells encG pre)
 fA:A X.fb
 fC:H[X.fb]?=some (bx (.func (.func 107) #[] #[.pointer (some ⟨X.ab,0,none⟩),.pointer (some ⟨X.yb,0,none⟩),.pointer (some ⟨X.ob,0,none⟩),.pointer (some ⟨X.nb,0,none⟩),.pointer (some ⟨X.xb,0,none⟩),.pointer (some ⟨X.fb,0,none⟩)]))
theorem Env.mn {X:Ctx}{A:Nat→Prop}{H:Heap}{pre:List LM.End}(e:Env X A H pre):X.nb≠X.fb:=fun q=>by
 obtain ⟨a,m,hn,_⟩:=e.now
 have f:=e.fC
 rw [q,f] at hn; cases hn
theorem AU.perm {X:Ctx}{A:Nat→Prop}{H H':Heap}:∀i,And' (AU X A) H H' i↔AU X (And' A H H') i:=fun i=>by
 unfold AU And'
 constructor
 ·rintro ((h | h) | h)
  ·exact .inl (.inl h)
  ·exact .inr h
  ·exact .inl (.inr h)
 ·rintro ((h | h) | h)
  ·exact .inl (.inl h)
  ·exact .inr h
  ·exact .inl (.inr h)
theorem NF.iff {A B:Nat→Prop}{H:Heap}(h:NF A H)(hab:∀i,A i↔B i):NF B H:=fun i b g hi hg hb=>(hab i).1 (h i b g hi hg ((hab g).2 hb))
theorem Env.nfu' {X:Ctx}{A:Nat→Prop}{H H':Heap}{pre:List LM.End}(e:Env X A H pre)(c:Chg A H H'):NF (AU X (And' A H H')) H' :=
 NF.iff (e.nfu.and e.fam (c.mono fun i _ h=>.inl h)) AU.perm
theorem Env.step {X:Ctx}{A:Nat→Prop}{H H':Heap}{pre:List LM.End}(e:Env X A H pre)(u:Up H H')(f:Fam H'):Env X (And' A H H') H' pre:=by
 have cA:Chg A H H':=u.chg
 have rd:∀i,RA X i→H'[i]?=H[i]?:=fun i hi=>u.old i (e.dis i hi).2
 have lA:∀i,A i→i < H.length:=e.lt
 refine ⟨e.lt.and u.len,e.nf.and e.fam cA,e.nfu' cA,f,fun i hi=>?_,Nat.lt_of_lt_of_le e.ll u.len,e.n0l,fun i hi=>⟨fun h=>?_,Nat.lt_of_lt_of_le (e.dis i hi).2 u.len⟩,e.xR,?_,e.oR,?_,e.bR,?_,e.al.kept e.alR rd,e.alR,e.yR,?_,.inl e.nA,?_,.inl e.fA,?_⟩
 ·rcases hi with hi | hi
  ·exact e.lo i hi
  ·have:=e.lo _ e.nA; have:=lA _ e.nA; omega
 ·rcases h with h | h
  ·exact (e.dis i hi).1 h
  ·have:=(e.dis i hi).2; omega
 ·rw [hc_kept (rd _ (.inl e.xR))]; exact e.xC
 ·rw [hc_kept (rd _ (.inl e.oR))]; exact e.oC
 ·rw [hc_kept (rd _ (.inr e.bR))]; exact e.bC
 ·rw [hc_kept (rd _ (.inr e.yR))]; exact e.yC
 ·obtain ⟨a,m',h1,h2⟩:=e.now
  exact ⟨a,m',by rw [u.old _ (lA _ e.nA)]; exact h1,h2.keep (fun i h=>.inl h) fun i c f ha hi=>u.old i (lA i ha)⟩
 ·rw [u.old _ (lA _ e.fA)]; exact e.fC
theorem Env.kp {X:Ctx}{A:Nat→Prop}{H H':Heap}{pre:List LM.End}(e:Env X A H pre)(u:Up H H'):Kp A (RA X) X.nb H H' :=
 ⟨u.len,fun i b ha _ h3 _=>by rw [u.old i (e.lt i ha)]; exact h3,fun i hi=>u.old i (e.dis i hi).2⟩
theorem Env.setnow {X:Ctx}{A:Nat→Prop}{H:Heap}{pre pre':List LM.End}(e:Env X A H pre){a:Option Addr}{m:Nat}(hp:Pfx A H 2 a pre'.length m (cells encG pre')) :
  Env X A (H.set X.nb (bx (.slice a pre'.length m))) pre':=by
 have hn:=e.mn
 obtain ⟨a0,m0,h0,_⟩:=e.now
 have c:Chg (·=X.nb) H (H.set X.nb (bx (.slice a pre'.length m))):=Chg.set _ rfl
 have old:∀i,i≠X.nb→(H.set X.nb (bx (.slice a pre'.length m)))[i]?=H[i]?:=fun i h=>by rw [List.getElem?_set_ne (fun q=>h q.symm)]
 have rd:∀i,RA X i→(H.set X.nb (bx (.slice a pre'.length m)))[i]?=H[i]?:=fun i hi=>old i fun q=>(e.dis i hi).1 (by rw [q]; exact e.nA)
 refine ⟨e.lt.chg c.len,fun i b g hi hg ha=>?_,fun i b g hi hg ha=>?_,e.fam.set h0 rfl,e.lo,by simpa using e.ll,e.n0l,fun i hi=>⟨(e.dis i hi).1,by simpa using (e.dis i hi).2⟩,e.xR,?_,e.oR,?_,e.bR,?_,e.al.kept e.alR rd,e.alR,e.yR,?_,e.nA,⟨a,m,List.getElem?_set_self (e.lt _ e.nA),?_⟩,e.fA,?_⟩
 ·by_cases q:i=X.nb
  ·rw [q]; exact e.nA
  ·rw [old i q] at hi; exact e.nf i b g hi hg ha
 ·by_cases q:i=X.nb
  ·rw [q]; exact .inl e.nA
  ·rw [old i q] at hi; exact e.nfu i b g hi hg ha
 ·rw [hc_kept (rd _ (.inl e.xR))]; exact e.xC
 ·rw [hc_kept (rd _ (.inl e.oR))]; exact e.oC
 ·rw [hc_kept (rd _ (.inr e.bR))]; exact e.bC
 ·rw [hc_kept (rd _ (.inr e.yR))]; exact e.yC
 ·refine hp.keep (fun i h=>h) fun i c f ha hi=>old i fun q=>?_
  rw [q,h0] at hi; cases hi
 ·rw [old _ hn.symm]; exact e.fC
theorem Env.gen {X:Ctx}{A:Nat→Prop}{H H1:Heap}{pre pre':List LM.End}(e:Env X A H pre)(c:Chg A H H1)(hf:Fam H1)(kp:∀(i:Nat) b,H[i]?=some b→b.fam=none→H1[i]?=some b)
  {a:Option Addr} {m:Nat} (hp:Pfx (And' A H H1) H1 2 a pre'.length m (cells encG pre')) :
  Env X (And' A H H1) (H1.set X.nb (bx (.slice a pre'.length m))) pre'∧Kp A (RA X) X.nb H (H1.set X.nb (bx (.slice a pre'.length m))):=by
 have hn:=e.mn
 obtain ⟨a0,m0,h0,_⟩:=e.now
 have h1:=kp _ _ h0 rfl
 have lA:∀i,A i→i < H.length:=e.lt
 have old:∀i,i≠X.nb→(H1.set X.nb (bx (.slice a pre'.length m)))[i]?=H1[i]?:=fun i h=>by rw [List.getElem?_set_ne (fun q=>h q.symm)]
 have rd:∀i,RA X i→(H1.set X.nb (bx (.slice a pre'.length m)))[i]?=H[i]?:=fun i hi=>by
  rw [old i fun q=>(e.dis i hi).1 (by rw [q]; exact e.nA)]
  exact c.old i (e.dis i hi).2 (e.dis i hi).1
 have hlen:=c.len
 refine ⟨⟨fun i hi=>by have:=e.lt.and c.len i hi; simpa using this,fun i b g hi hg ha=>?_,fun i b g hi hg ha=>?_,hf.set h1 rfl,fun i hi=>?_,by have:=e.ll; simp only [List.length_set]; omega,e.n0l,fun i hi=>⟨fun h=>?_,by have:=(e.dis i hi).2; simp only [List.length_set]; omega⟩,e.xR,?_,e.oR,?_,e.bR,?_,e.al.kept e.alR rd,e.alR,e.yR,?_,.inl e.nA,⟨a,m,List.getElem?_set_self (by have:=lA _ e.nA; omega),?_⟩,.inl e.fA,?_⟩,⟨by simp only [List.length_set]; exact hlen,fun i b ha h2 h4 h5=>by rw [old i h2]; exact kp i b h4 h5,rd⟩⟩
 ·by_cases q:i=X.nb
  ·rw [q]; exact .inl e.nA
  ·rw [old i q] at hi; exact e.nf.and e.fam c i b g hi hg ha
 ·by_cases q:i=X.nb
  ·rw [q]; exact .inl (.inl e.nA)
  ·rw [old i q] at hi; exact e.nfu' c i b g hi hg ha
 ·rcases hi with hi | hi
  ·exact e.lo i hi
  ·have:=e.lo _ e.nA; have:=lA _ e.nA; omega
 ·rcases h with h | h
  ·exact (e.dis i hi).1 h
  ·have:=(e.dis i hi).2; omega
 ·rw [hc_kept (rd _ (.inl e.xR))]; exact e.xC
 ·rw [hc_kept (rd _ (.inl e.oR))]; exact e.oC
 ·rw [hc_kept (rd _ (.inr e.bR))]; exact e.bC
 ·rw [hc_kept (rd _ (.inr e.yR))]; exact e.yC
 ·refine hp.keep (fun i h=>h) fun i c f ha hi=>old i fun q=>?_
  rw [q,h1] at hi; cases hi
 ·rw [old _ hn.symm]; exact kp _ _ e.fC rfl
theorem Env.app {X:Ctx}{A:Nat→Prop}{H:Heap}{pre:List LM.End}(e:Env X A H pre)(hl:pre.length < 100)(d:LM.End) :
  ∃(a:Option Addr) (m:Nat) (H1:Heap) (lf:Nat→Nat),H[X.nb]?=some (bx (.slice a pre.length m))∧(∀x y,isLoc (.slice a x y)=false)∧(∀lo,(X.n0≤lo→X.n0≤lf lo)∧lf lo≤lo)∧(∀{α:Type} (call:CallT) (F:Ex→St→Option α) d' kk T S D lo n rnd,ap1 call F (some [.int .i64 d.1,.int .i64 d.2]) (.slice a pre.length m) 2 d' kk ⟨T,S,D,H,lo,n,rnd⟩=nxt call F (some (.slice (some ⟨H.length,0,none⟩) (pre.length+1) 2)) d' kk ⟨T,S,D,H1,lf lo,n,rnd⟩) ∧
   H1[X.nb]?=some (bx (.slice a pre.length m)) ∧
   Env X (And' A H H1) (H1.set X.nb (bx (.slice (some ⟨H.length,0,none⟩) (pre.length+1) 2))) (pre++[d])∧Kp A (RA X) X.nb H (H1.set X.nb (bx (.slice (some ⟨H.length,0,none⟩) (pre.length+1) 2)))∧Chg A H (H1.set X.nb (bx (.slice (some ⟨H.length,0,none⟩) (pre.length+1) 2)))∧H1.length=H.length+1:=by
 obtain ⟨a,m,h0,hp⟩:=e.now
 obtain ⟨H1,lf,q1,q2,q3,q4,q5,q6,q7⟩:=hp.app e.lt e.nf e.fam e.lo (by decide) (by decide) (by omega) [.int .i64 d.1,.int .i64 d.2] rfl
 have q3':Pfx (And' A H H1) H1 2 (some ⟨H.length,0,none⟩) (pre++[d]).length 2 (cells encG (pre++[d])):=by
  rw [cells_app,List.length_append,List.length_singleton]; exact q3
 have g:=e.gen q4 q5 q7 q3'
 rw [List.length_append,List.length_singleton] at g
 exact ⟨a,m,H1,lf,h0,hp.isLoc,q1,q2,q7 _ _ h0 rfl,g.1,g.2,q4.trans (Chg.set _ e.nA) (fun _ _ h=>h),q6⟩
theorem Env.cut {X:Ctx}{A:Nat→Prop}{H:Heap}{pre:List LM.End}{d:LM.End}(e:Env X A H (pre++[d])) :
  ∃(b m:Nat),H[X.nb]?=some (bx (.slice (some ⟨b,0,none⟩) (pre.length+1) 2))∧VOp.ev.slc 2 (some ⟨b,0,none⟩) (pre.length+1) 2 0 (pre.length:Nat)=some (.slice (some ⟨b,0,none⟩) pre.length 2) ∧
   Env X A (H.set X.nb (bx (.slice (some ⟨b,0,none⟩) pre.length 2))) pre∧Kp A (RA X) X.nb H (H.set X.nb (bx (.slice (some ⟨b,0,none⟩) pre.length 2)))∧Chg A H (H.set X.nb (bx (.slice (some ⟨b,0,none⟩) pre.length 2))):=by
 obtain ⟨a,m,h0,hp⟩:=e.now
 rw [List.length_append,List.length_singleton] at h0 hp
 have hc:=hp.cut (n:=pre.length) (by omega)
 obtain ⟨b,rfl,rfl⟩:∃b,a=some ⟨b,0,none⟩∧m=2:=by
  rcases hp.ok with ⟨_,h,_⟩ | ⟨b,f,c',h1,h2,_⟩
  ·omega
  ·exact ⟨b,h1,h2⟩
 rw [cells_app,List.take_append_of_le_length (by rw [cells_len (k:=2) (fun _=>rfl)]; omega),List.take_of_length_le (by rw [cells_len (k:=2) (fun _=>rfl)]; omega)] at hc
 refine ⟨b,0,h0,?_,e.setnow hc,⟨by simp,fun i b' ha h2 h4 h5=>by rw [List.getElem?_set_ne (fun q=>h2 q.symm)]; exact h4,fun i hi=>by rw [List.getElem?_set_ne (fun q=>(e.dis i hi).1 (by rw [←q]; exact e.nA))]⟩,Chg.set _ e.nA⟩
 unfold VOp.ev.slc
 rw [if_pos (by omega)]
 simp only
 rw [if_pos (by omega)]
 simp
theorem Env.seen {X:Ctx}{A:Nat→Prop}{H:Heap}{pre:List LM.End}(e:Env X A H pre){H':Heap}(hl:H.length≤H'.length)(hs:∀i,AU X A i∨X.Rd i→H'[i]?=H[i]?)(n:NF (AU X A) H')(f:Fam H'):Env X A H' pre:=by
 obtain ⟨a,m,h1,h2⟩:=e.now
 have hA:=fun i h=>hs i (.inl (.inl h))
 have hR:∀i,RA X i→H'[i]?=H[i]?:=fun i h=>h.elim (fun h=>hs i (.inr h)) fun h=>hs i (.inl (.inr h))
 refine ⟨e.lt.chg hl,fun i b g hi hg ha=>?_,n,f,e.lo,Nat.lt_of_lt_of_le e.ll hl,e.n0l,fun i hi=>⟨(e.dis i hi).1,Nat.lt_of_lt_of_le (e.dis i hi).2 hl⟩,e.xR,by rw [hc_kept (hR _ (.inl e.xR))]; exact e.xC,e.oR,by rw [hc_kept (hR _ (.inl e.oR))]; exact e.oC,e.bR,by rw [hc_kept (hR _ (.inr e.bR))]; exact e.bC,e.al.kept e.alR hR,e.alR,e.yR,by rw [hc_kept (hR _ (.inr e.yR))]; exact e.yC,e.nA,⟨a,m,by rw [hA _ e.nA]; exact h1,h2.same (fun _ h=>h) hA⟩,e.fA,by rw [hA _ e.fA]; exact e.fC⟩
 rcases n i b g hi hg (.inl ha) with h | h
 ·exact h
 ·rw [hR i (.inr h)] at hi; exact e.nf i b g hi hg ha
structure ConsS (l n0:Nat)(Rd:Nat→Prop)(Ok:List (List LM.End)→Prop)(I Fin:List (List LM.End)→(Nat→Prop)→Heap→Prop):Prop where
 own:∀acc A H H',I acc A H→Chg A H H'→I acc (And' A H H') H'
 less:∀acc A B H,I acc A H→(∀i,B i→A i)→I acc B H
 step:∀acc A H p b,Ok (acc++[p])→I acc A H→Lt A H→NF A H→Fam H→Sl H 2 encG (some ⟨b,0,none⟩) p.length p→¬A b →
  ∃go H' lo,R (.yield l) [.agg #[.slice none 0 0,.slice (some ⟨b,0,none⟩) p.length 2]] H=some ⟨.ok (.bool go),H',lo⟩∧n0≤lo∧lo≤l∧H.length≤H'.length∧(∀i,A i∨Rd i→H'[i]?=H[i]?)∧NF A H'∧(go=true→I (acc++[p]) A H')∧(go=false→Fin (acc++[p]) A H')
end Go.Pi.L.Top
set_option maxRecDepth 100000
namespace Go.Pi.L.Top
open Go Go.Pi Go.Pi.L Go.Pi.Top LM

def QF' (X:Ctx)(I Fin:List (List LM.End)→(Nat→Prop)→Heap→Prop)(acc ls:List (List LM.End))(pre:List LM.End)(A:Nat→Prop)(H:Heap)(o:Out):Prop :=
 ∃go H' lo A',o=⟨.ok (.bool go),H',lo⟩∧X.n0≤lo∧(ls=[]∨lo≤X.l)∧(∀i,A i→A' i)∧Kp A (RA X) X.nb H H'∧(go=true→I (acc++ls) (AU X A') H'∧Env X A' H' pre) ∧
  (go=false→lo≤X.l∧∃L1 L2,ls=L1++L2∧L1≠[]∧Fin (acc++L1) (AU X A') H')
def argsX (X:Ctx)(n:Nat):List Value:=[.int .i64 (n:Nat),.pointer (some ⟨X.ab,0,none⟩),.pointer (some ⟨X.yb,0,none⟩),.pointer (some ⟨X.ob,0,none⟩),.pointer (some ⟨X.nb,0,none⟩),.pointer (some ⟨X.xb,0,none⟩),.pointer (some ⟨X.fb,0,none⟩)]
theorem c107z {X:Ctx}{Ok:List (List LM.End)→Prop}{I Fin:List (List LM.End)→(Nat→Prop)→Heap→Prop}(cons:ConsS X.l X.n0 X.Rd Ok I Fin){pre:List LM.End}(h0:0 < pre.length)(hpl:pre.length < 100)
  {acc:List (List LM.End)} {A:Nat→Prop} {H:Heap} (hok:Ok (acc++[pre])) (hI:I acc (AU X A) H) (e:Env X A H pre) :
  Yes (R (.func 107) (argsX X (ends X.s).length) H) (QF' X I Fin acc [pre] pre A H):=by
 unfold argsX
 refine run_y (pr 107) P107 (by simp [p107]) rfl ?_
 obtain ⟨a,m,hn0,hpf⟩:=e.now
 have hn:=bx_hc hn0
 have hy:=e.yC
 have ho:=e.oC
 have hb:=e.bC
 have l3:=e.al.isLoc X.ak
 have l4:=hpf.isLoc pre.length m
 have k108:=c108 (k:=m) (hpf.sl encG_len (by decide)) h0 (by omega) H (Grow.refl _)
 have k66:=c66nil H
 generalize hH2:H++[({ obj:=.cells [],tip:=false,fam:=some H.length }:Blk)]++[({ obj:=.cells (cells encG pre),fam:=some H.length }:Blk)]=H2 at k108
 have u2:Up H H2:=by rw [←hH2]; exact (Up.refl H).app.app
 have hF2:Fam H2:=famR k108 e.fam
 have hb2:hcells H2 (H.length+1)=some (cells encG pre):=by
  rw [←hH2]
  have:=hc_new (H:=H++[({ obj:=.cells [],tip:=false,fam:=some H.length }:Blk)]) (cells encG pre) true (some H.length)
  rw [List.length_append,List.length_singleton] at this; exact this
 have hs2:Sl H2 2 encG (some ⟨H.length+1,0,none⟩) pre.length pre:=Sl.of_cells encG_len hb2
 have hl1:∀i,AU X A i→i < H.length:=fun i h=>h.elim (e.lt i) fun h=>(e.dis i (.inr h)).2
 have nf2:NF (AU X A) H2:=fun i b g hi hg ha=>by
  by_cases hlt:i < H.length
  ·rw [u2.old i hlt] at hi; exact e.nfu i b g hi hg ha
  ·have hg1:g=H.length:=by
    have hi2:=(List.getElem?_eq_some_iff.1 hi).1
    rw [←hH2] at hi hi2
    simp only [List.length_append,List.length_singleton] at hi2
    rcases (by omega:i=H.length∨i=H.length+1) with q | q
    ·subst q
     rw [List.append_assoc,List.getElem?_append_right (Nat.le_refl _)] at hi
     simp at hi; subst hi; cases hg; rfl
    ·subst q
     rw [List.append_assoc,List.getElem?_append_right (by omega)] at hi
     simp at hi; subst hi; cases hg; rfl
   subst hg1
   have:=hl1 _ ha; omega
 have e2:Env X A H2 pre:=e.seen u2.len (fun i hi=>u2.old i (hi.elim (hl1 i) fun h=>(e.dis i (.inl h)).2)) nf2 hF2
 have hI2:I acc (AU X A) H2:=cons.less _ _ _ _ (cons.own _ _ _ _ hI u2.chg) fun i h=>.inl h
 obtain ⟨go,H3,lo3,hst,z1,z2,z3,z4,z5,z6,z7⟩:=cons.step acc _ H2 pre _ hok hI2 (fun i h=>Nat.lt_of_lt_of_le (hl1 i h) u2.len) nf2 hF2 hs2 (fun h=>by have:=hl1 _ h; omega)
 have hF3:Fam H3:=famR hst hF2
 have e3:=e2.seen z3 z4 z5 hF3
 have n0:=e.ll
 have n2:=e.n0l
 have kp:Kp A (RA X) X.nb H H3:=⟨by have:=u2.len; omega,fun i b ha h3 h4 h5=>by rw [z4 i (.inl (.inl ha)),u2.old i (e.lt i ha)]; exact h4,fun i hi=>by rw [z4 i (hi.elim .inr fun h=>.inl (.inr h)),u2.old i (e.dis i hi).2]⟩
 have fin:∀lo,X.n0≤lo→lo≤X.l→QF' X I Fin acc [pre] pre A H (gcR H (.ok (.bool go)) H3 lo):=fun lo h1 h2=>by
  rw [gc_no (by omega)]
  exact ⟨go,H3,lo,_,rfl,h1,.inr h2,fun i h=>h,kp,fun hg=>⟨z6 hg,e3⟩,fun hg=>⟨h2,[pre],[],rfl,by simp,z7 hg⟩⟩
 have hq:(((ends X.s).length:Nat):Int)=(((ends X.s).length:Nat):Int)↔True:=by simp
 have u2l:=u2.len
 simp (maxDischargeDepth:=8) only [↓SD,SU,SV,SW,simprocAttr,Int.cast_ofNat_Int,small,resV, B107,R107,N107,b107, hn,hy,ho,hb,l3,l4,hq,k66,k108,fa_yield,hst,rD_hb,R107,N107]
 rw [yes_some]
 exact fin _ (by omega) (by omega)
end Go.Pi.L.Top
set_option maxRecDepth 100000
namespace Go.Pi.L.Top
open Go Go.Pi Go.Pi.L Go.Pi.Top LM

set_option maxHeartbeats 1000000 in
theorem c107 {X:Ctx}(hf:Fine X.s){Ok:List (List LM.End)→Prop}{I Fin:List (List LM.End)→(Nat→Prop)→Heap→Prop}(cons:ConsS X.l X.n0 X.Rd Ok I Fin):∀(K k n:Nat) (pre:List LM.End),k≤K→n+k=(ends X.s).length→pre.length≤n→(0 < n→0 < pre.length) →
  ∀(acc:List (List LM.End)) (A:Nat→Prop) (H:Heap),(∀L1 L2,sets X.s.rows ((ends X.s).drop n) pre=L1++L2→Ok (acc++L1))→I acc (AU X A) H→Env X A H pre →
  Yes (R (.func 107) (argsX X n) H) (QF' X I Fin acc (sets X.s.rows ((ends X.s).drop n) pre) pre A H):=by
 have hel:=ends_len hf
 have hne:=ends_ne hf
 have hpos:0 < (ends X.s).length:=List.length_pos_iff.2 hne
 have zcase:∀(pre:List LM.End),pre.length≤(ends X.s).length→0 < pre.length→∀(acc:List (List LM.End)) (A:Nat→Prop) (H:Heap),(∀L1 L2,sets X.s.rows ((ends X.s).drop (ends X.s).length) pre=L1++L2→Ok (acc++L1))→I acc (AU X A) H→Env X A H pre →
   Yes (R (.func 107) (argsX X (ends X.s).length) H) (QF' X I Fin acc (sets X.s.rows ((ends X.s).drop (ends X.s).length) pre) pre A H):=by
  intro pre hpl h0 acc A H hO hI e
  rw [List.drop_length] at hO ⊢
  exact c107z cons h0 (by omega) (hO [pre] [] (by simp [sets])) hI e
 intro K
 induction K with
 | zero =>
  intro k n pre hk hn hpl h0 acc A H hO hI e
  obtain rfl:n=(ends X.s).length:=by omega
  exact zcase pre hpl (h0 hpos) acc A H hO hI e
 | succ K IH =>
 intro k n pre hk hn hpl h0 acc A H hO hI e
 by_cases hk0:k=0
 ·obtain rfl:n=(ends X.s).length:=by omega
  exact zcase pre hpl (h0 hpos) acc A H hO hI e
 unfold argsX
 refine run_y (pr 107) P107 (by simp [p107]) rfl ?_
 obtain ⟨a,m,hn0,hpf⟩:=e.now
 have hnb:=bx_hc hn0
 have hb:=e.bC
 have hx:=e.xC
 unfold frontC at hx
 have l3:=e.al.isLoc X.ak
 have l4:=hpf.isLoc pre.length m
 have hnn:((n:Nat):Int)=(((ends X.s).length:Nat):Int)↔False:=by constructor <;> intro h <;> first | omega | cases h
 have ell:=e.ll
 have enl:=e.n0l
 have nbl:=e.lt _ e.nA
 have nbo:=e.lo _ e.nA
 have hnlt:n < (ends X.s).length:=by omega
 by_cases hroom:((pre.length:Nat):Int) < X.s.rows
 case neg =>
  have hnil:sets X.s.rows ((ends X.s).drop n) pre=[]:=by
   rw [List.drop_eq_getElem_cons hnlt,sets_cons,if_neg hroom]
  simp (maxDischargeDepth:=8) only [↓SD,SU,SV,SW,simprocAttr,Int.cast_ofNat_Int,small,resV, B107,R107,N107,b107, hnb,hb,hx,l3,l4,hnn,l_succ,q107x0,lt_nat,hnlt,hroom,x_blk,R107,N107]
  rw [yes_some,hnil]
  exact ⟨true,H,H.length,A,rfl,by omega,.inl rfl,fun i h=>h,Kp.refl _ _ _ _,fun _=>⟨by rw [List.append_nil]; exact hI,e⟩,fun h=>by cases h⟩
 simp (maxDischargeDepth:=8) only [↓SD,SU,SV,SW,simprocAttr,Int.cast_ofNat_Int,small,resV, B107,R107,N107,b107, hnb,hb,l3,l4,hnn]
 refine loop_ind (G:=(Yes · (QF' X I Fin acc (sets X.s.rows ((ends X.s).drop n) pre) pre A H))) (fun j σ=>∃T S H2 lim A2 don,σ=⟨T,S,[],H2,lim,53,false⟩∧get T 1=.pointer (some ⟨X.ab,0,none⟩)∧get T 2=.pointer (some ⟨X.yb,0,none⟩)∧get T 3=.pointer (some ⟨X.ob,0,none⟩)∧get T 4=.pointer (some ⟨X.nb,0,none⟩)∧get T 5=.pointer (some ⟨X.xb,0,none⟩)∧get T 6=.pointer (some ⟨X.fb,0,none⟩)∧get T 9=.int .i64 ((n+j:Nat))∧(I (acc++don) (AU X A2) H2∧Env X A2 H2 pre∧(∀i,A i→A2 i)∧Kp A (RA X) X.nb H H2∧X.n0≤lim∧(don=[]∨lim≤X.l)∧don++setsR X.s.rows ((ends X.s).drop (n+j)) pre=sets X.s.rows ((ends X.s).drop n) pre)) (k) ?_ ?_ 0 _ (Nat.zero_le _) ⟨_,_,_,_,_,_,rfl,rfl,rfl,rfl,rfl,rfl,rfl,rfl,⟨by rw [List.append_nil]; exact hI,e,fun i h=>h,Kp.refl _ _ _ _,by omega,.inl rfl,by rw [Nat.add_zero,List.drop_eq_getElem_cons hnlt]; rfl⟩⟩
 ·rintro c' j s hj ⟨T,S,H2,lim,A2,don,rfl,t1,t2,t3,t4,t5,t6,t9,hp⟩ ih
  obtain ⟨hI2,e2,hA2,kp2,hlo2,hll,hsets⟩:=hp
  have hlt:n+j < (ends X.s).length:=by omega
  have n2:=kp2.len
  have hw1:=wrap_succ (n+j) (by omega)
  obtain ⟨b,off,d,hea,hd,f0,_⟩:=e2.al.g2 hlt
  have f0':=f0 H2 (Grow.refl _)
  have ia:=ia_of (kk:=X.ak) (k:=2) hea hlt
  have hb2:=e2.bC
  have hx2:=e2.xC
  unfold frontC at hx2
  rw [drop_cons hd] at hsets
  simp only [setsR] at hsets
  rw [sets_cons,if_pos hroom] at hsets
  obtain ⟨a5,m5,H5,lf,nb4,l5,q1,q2,nb5,e5,kp5,ch5,len5⟩:=e2.app (by omega) d
  have nb4':=bx_hc nb4
  have nb5':H5[X.nb]?=some ⟨.cells [.slice a5 pre.length m5],true,true,none⟩:=nb5
  have l5':=l5 pre.length m5
  obtain ⟨H6,hH6⟩:∃H6,H5.set X.nb ({ obj:=.cells [.slice (some ⟨H2.length,0,none⟩) (pre.length+1) 2] }:Blk)=H6:=⟨_,rfl⟩
  have hH6':H5.set X.nb (bx (.slice (some ⟨H2.length,0,none⟩) (pre.length+1) 2))=H6:=hH6
  rw [hH6'] at e5 kp5 ch5
  have len6:H6.length=H5.length:=by rw [←hH6]; simp
  have I6:I (acc++don) (AU X (And' A2 H2 H5)) H6:=cons.less _ _ _ _ (cons.own _ _ _ _ hI2 (ch5.mono fun i _ h=>.inl h)) fun i h=>by
   rcases h with (h | h) | h
   ·exact .inl (.inl h)
   ·exact .inr ⟨h.1,by omega⟩
   ·exact .inl (.inr h)
  have hO':∀L1 L2,sets X.s.rows ((ends X.s).drop (n+j+1)) (pre++[d])=L1++L2→Ok (acc++don++L1):=fun L1 L2 h=>by
   rw [List.append_assoc]
   refine hO (don++L1) (L2++setsR X.s.rows ((ends X.s).drop (n+j+1)) pre) ?_
   rw [←hsets,h]; simp
  obtain ⟨o,ho6,go6,H7,lo7,A7,rfl,w1,w2,w3,kp7,w5,w6⟩:=IH (k - j - 1) (n+j+1) (pre++[d]) (by omega) (by omega) (by rw [List.length_append,List.length_singleton]; omega) (fun _=>by rw [List.length_append,List.length_singleton]; omega) _ _ _ hO' I6 e5
  unfold argsX at ho6
  have hf6:=bx_hc e5.fC
  have kp27:=kp5.trans kp7 fun i h=>.inl h
  have n7:=kp27.len
  have q1':=q1 H2.length
  have ell2:=e2.ll
  cases go6 with
  | false =>
   obtain ⟨y1,L1,L2,y2,y3,y4⟩:=w6 rfl
   rw [y2] at hsets
   simp (maxDischargeDepth:=8) only [↓SD,SU,SV,SW,simprocAttr,Int.cast_ofNat_Int,small,resV, q107x0,t1,t2,t3,t4,t5,t6,t9, lt_nat,hlt,hroom,l3,l5',ia,f0',hb2,hx2,nb4',q2,nb5',stH_ok,hH6,hf6,ho6,hw1,rD_hb,k_fixb,R107,N107]
   rw [yes_some,gc_no (fun h=>by have:=Nat.le_trans h (Nat.min_le_right _ _); omega)]
   exact ⟨false,H7,_,A7,rfl,(by omega),.inr (Nat.le_trans (Nat.min_le_right _ _) y1),fun i h=>w3 i (.inl (hA2 i h)),kp2.trans kp27 hA2,fun h=>(by cases h),fun _=>⟨Nat.le_trans (Nat.min_le_right _ _) y1,don++L1,L2++setsR X.s.rows ((ends X.s).drop (n+j+1)) pre,by rw [←hsets]; simp,by simp [y3],by rw [←List.append_assoc]; exact y4⟩⟩
  | true =>
   obtain ⟨I7,e7⟩:=w5 rfl
   obtain ⟨b8,m8,nb7,hsl,e8,kp8,ch8⟩:=e7.cut
   have nb7':=bx_hc nb7
   replace nb7:H7[X.nb]?=some ⟨.cells [.slice (some ⟨b8,0,none⟩) (pre.length+1) 2],true,true,none⟩:=nb7
   obtain ⟨H8,hH8⟩:∃H8,H7.set X.nb ({ obj:=.cells [.slice (some ⟨b8,0,none⟩) pre.length 2] }:Blk)=H8:=⟨_,rfl⟩
   have hH8':H7.set X.nb (bx (.slice (some ⟨b8,0,none⟩) pre.length 2))=H8:=hH8
   rw [hH8'] at e8 kp8 ch8
   have len8:H8.length=H7.length:=by rw [←hH8]; simp
   have I8:I (acc++(don++sets X.s.rows ((ends X.s).drop (n+j+1)) (pre++[d]))) (AU X A7) H8:=by
    rw [←List.append_assoc]
    exact cons.less _ _ _ _ (cons.own _ _ _ _ I7 (ch8.mono fun i _ h=>.inl h)) fun i h=>.inl h
   have kp28:=kp27.trans kp8 fun i h=>w3 i (.inl h)
   have l8:isLoc (.slice (some ⟨b8,0,none⟩) (pre.length+1) 2)=false:=rfl
   have wp:IntKind.wrap .i64 (((pre.length+1:Nat):Int) - 1)=(pre.length:Nat):=by rw [wrap_id _ (by omega) (by omega)]; omega
   simp (maxDischargeDepth:=8) only [↓SD,SU,SV,SW,simprocAttr,Int.cast_ofNat_Int,small,resV, q107x0,t1,t2,t3,t4,t5,t6,t9, lt_nat,hlt,hroom,l3,l5',l8,ia,f0',hb2,hx2,nb4',q2,nb5',stH_ok,hH6,hf6,ho6,hw1,rD_hb,k_fixb,nb7',nb7,wp,vv_slh,hsl,hH8]
   have hup:don++sets X.s.rows ((ends X.s).drop (n+j+1)) (pre++[d])=[]∨min (min (min (min (min lim H2.length) (lf H2.length)) (min H5.length X.nb)) lo7) X.nb≤X.l:=by
    rcases w2 with h1 | h1
    ·rcases hll with h0 | h0
     ·left; rw [h0,h1]; rfl
     ·right; omega
    ·right; omega
   exact ih _ ⟨_,_,(H8),(_),(A7),(don++sets X.s.rows ((ends X.s).drop (n+j+1)) (pre++[d])),rfl,(by simp [get_set,t1] <;> omega),(by simp [get_set,t2] <;> omega),(by simp [get_set,t3] <;> omega),(by simp [get_set,t4] <;> omega),(by simp [get_set,t5] <;> omega),(by simp [get_set,t6] <;> omega),(by simp [get_set,t9] <;> omega),⟨I8,e8,fun i h=>w3 i (.inl (hA2 i h)),kp2.trans kp28 hA2,by omega,hup,by rw [List.append_assoc]; exact hsets⟩⟩
 ·rintro c' s ⟨T,S,H2,lim,A2,don,rfl,t1,t2,t3,t4,t5,t6,t9,hp⟩
  obtain ⟨hI2,e2,hA2,kp2,hlo2,hll,hsets⟩:=hp
  have hnl:¬n+k < (ends X.s).length:=by omega
  have hb2:=e2.bC
  rw [List.drop_eq_nil_of_le (by omega)] at hsets
  simp only [setsR,List.append_nil] at hsets
  simp (maxDischargeDepth:=8) only [↓SD,SU,SV,SW,simprocAttr,Int.cast_ofNat_Int,small,resV, q107x0,t1,t2,t3,t4,t5,t6,t9, lt_nat,hnl,hb2,l3,x_blk,R107,N107]
  rw [yes_some]
  by_cases hg:H.length≤lim
  ·have hnil:=hll.resolve_right (by omega)
   rw [gc_ite hg,if_pos (by rfl),←hsets,hnil]
   exact ⟨true,H,H.length,A,rfl,by omega,.inl rfl,fun i h=>h,Kp.refl _ _ _ _,fun _=>⟨by rw [List.append_nil]; exact hI,e⟩,fun h=>by cases h⟩
  ·rw [gc_no hg,←hsets]
   exact ⟨true,H2,lim,A2,rfl,hlo2,hll,hA2,kp2,fun _=>⟨hI2,e2⟩,fun h=>by cases h⟩
end Go.Pi.L.Top
