/- Benches: the best plans. -/
import Derived.Test.YtjgmlngcknehhaaGreatVC
set_option linter.all false
set_option maxRecDepth 100000
namespace Go.Pi.L.Ch
open Go Go.Pi Go.Pi.L Go.Pi.E Go.Pi.Top BM

theorem bestP_snoc (xs:List Tm)(x:Tm):bestP (xs++[x])=addW x (dropW x (bestP xs)):=by unfold bestP; rw [List.foldl_append]; rfl
theorem bestP_spec {T:List Int→Int}:∀xs:List Tm,(∀x∈xs,x.t=T x.p)→(bestP xs).map (·.p)=bestOf T (xs.map (·.p)):=by
 refine rev_ind ?_ ?_
 ·intro _; rfl
 ·intro xs x ih h
  have ih:=ih fun y hy=>h y (List.mem_append_left _ hy)
  have hx:=h x (List.mem_append_right _ (List.mem_singleton.2 rfl))
  rw [bestP_snoc,List.map_append,List.map_singleton]
  by_cases h0:xs=[]
  ·subst h0
   rw [List.map_nil,List.nil_append,bestOf_one]; rfl
  ·have hne:xs.map (·.p)≠[]:=by simp [h0]
   rw [bestOf_snoc T hne,←hx]
   cases hb:bestP xs with
   | nil =>
    rw [hb] at ih
    exact absurd ih.symm (bestOf_ne T hne)
   | cons y o =>
    rw [hb] at ih
    have hy:y.t=minT T (xs.map (·.p)):=by
     have hym:y.p∈bestOf T (xs.map (·.p)):=by rw [←ih]; simp
     rw [←bestOf_all T hym]
     have:y∈bestP xs:=by rw [hb]; exact List.mem_cons_self ..
     rcases bestP_sub xs [] y this with h1 | h1
     ·cases h1
     ·exact h y (List.mem_append_left _ h1)
    rw [←hy]
    by_cases q1:x.t < y.t
    ·rw [if_pos q1]
     simp [dropW,q1,addW]
    ·rw [if_neg q1]
     by_cases q2:x.t=y.t
     ·rw [if_pos q2,←ih]
      simp [dropW,q1,addW,show ¬y.t < x.t by omega]
     ·rw [if_neg q2,←ih]
      simp [dropW,q1,addW,show y.t < x.t by omega]
end Go.Pi.L.Ch
set_option maxRecDepth 100000
namespace Go.Pi.L
open Go Go.Pi
def InR (Rd:Nat→Prop)(a:Option Addr)(l:Nat):Prop:=0 < l→∀b off,a=some ⟨b,off,none⟩→Rd b
theorem Sl.inR {β:Type}{H:Heap}{k:Nat}{enc:β→List Value}{a:Option Addr}{l:Nat}{xs:List β}(h:Sl H k enc a l xs):InR (· < H.length) a l:=fun h0 b off ha=>by
 obtain ⟨x,hx⟩:∃x,xs[0]?=some x:=⟨_,List.getElem?_eq_getElem (by rw [h.len]; exact h0)⟩
 obtain ⟨b',off',c,h1,h2,_⟩:=h.rd 0 x hx
 rw [ha] at h1; cases h1
 exact hc_lt h2
theorem Sl.kept {β:Type}{Rd:Nat→Prop}{H H':Heap}{k:Nat}{enc:β→List Value}{a:Option Addr}{l:Nat}{xs:List β}(h:Sl H k enc a l xs)(hr:InR Rd a l)(hs:∀i,Rd i→H'[i]?=H[i]?):Sl H' k enc a l xs :=
 ⟨h.len,h.loc,fun j x hx=>by
  obtain ⟨b,off,c',h1,h2,h3⟩:=h.rd j x hx
  refine ⟨b,off,c',h1,?_,h3⟩
  unfold hcells at h2 ⊢
  rw [hs b (hr (by have:=(List.getElem?_eq_some_iff.1 hx).1; have:=h.len; omega) b off h1)]; exact h2⟩
end Go.Pi.L
namespace Go.Pi.L.Ch
open Go Go.Pi Go.Pi.L Go.Pi.E Go.Pi.Top BM

structure ConsB (PP:FuncId→Option PFunc)(prims:Prims)(l n0:Nat)(Rd:Nat→Prop)(Ok:List (List Int)→Prop)(I Fin:List (List Int)→(Nat→Prop)→Heap→Prop):Prop where
 own:∀acc A H H',I acc A H→Chg A H H'→I acc (And' A H H') H'
 less:∀acc A B H,I acc A H→(∀i,B i→A i)→I acc B H
 step:∀acc A H p b,Ok (acc++[p])→I acc A H→Lt A H→Fam H→Sl H 1 encN (some ⟨b,0,none⟩) p.length p→¬A b →
  ∃go H' lo,runL PP prims (.yield l) [.slice (some ⟨b,0,none⟩) p.length 1] H=some ⟨.ok (.bool go),H',lo⟩∧n0≤lo∧lo≤l∧H.length≤H'.length∧(∀i,A i∨Rd i→H'[i]?=H[i]?)∧(go=true→I (acc++[p]) A H')∧(go=false→Fin (acc++[p]) A H')
structure PX where
 r:BeR
 b:Bench
 l:Nat
 n0:Nat
 Rd:Nat→Prop
 xb:Nat
 yb:Nat
 fb:Nat
def bx (v:Value):Blk:=⟨.cells [v],true,true,none⟩
theorem bx_hc {H:Heap}{i:Nat}{v:Value}(h:H[i]?=some (bx v)):hcells H i=some [v]:=by simp [hcells,h,bx]
theorem hc_kept {H H':Heap}{i:Nat}(h:H'[i]?=H[i]?):hcells H' i=hcells H i:=by simp only [hcells,h]
structure PE (X:PX)(A:Nat→Prop)(H:Heap):Prop where
 lt:Lt A H
 fam:Fam H
 lo:∀i,A i→X.n0≤i
 ll:X.l < H.length
 n0l:X.n0≤X.l
 dis:∀i,X.Rd i→¬A i∧i < H.length
 xR:X.Rd X.xb
 xC:hcells H X.xb=some [.int .i64 X.r.app,.slice X.r.ba X.r.bl X.r.bk,.slice X.r.sa X.r.sl X.r.sk]
 st:Sl H 5 eK X.r.sa X.r.sl X.r.xs
 stR:InR X.Rd X.r.sa X.r.sl
 yA:A X.yb
 yC:H[X.yb]?=some (bx (.func (.yield X.l) #[] #[]))
 fA:A X.fb
 fC:H[X.fb]?=some (bx (.func (.func 93) #[] #[.pointer (some ⟨X.xb,0,none⟩),.pointer (some ⟨X.yb,0,none⟩),.pointer (some ⟨X.fb,0,none⟩)]))
theorem PE.step {X:PX}{A:Nat→Prop}{H H':Heap}(e:PE X A H)(u:Up H H')(f:Fam H'):PE X (And' A H H') H':=by
 have lA:∀i,A i→i < H.length:=e.lt
 have rd:∀i,X.Rd i→H'[i]?=H[i]?:=fun i hi=>u.old i (e.dis i hi).2
 refine ⟨e.lt.and u.len,f,fun i hi=>?_,Nat.lt_of_lt_of_le e.ll u.len,e.n0l,fun i hi=>⟨fun h=>?_,Nat.lt_of_lt_of_le (e.dis i hi).2 u.len⟩,e.xR,by rw [hc_kept (rd _ e.xR)]; exact e.xC,e.st.kept e.stR rd,e.stR,.inl e.yA,by rw [u.old _ (lA _ e.yA)]; exact e.yC,.inl e.fA,by rw [u.old _ (lA _ e.fA)]; exact e.fC⟩
 ·rcases hi with hi | hi
  ·exact e.lo i hi
  ·have:=e.lo _ e.yA; have:=lA _ e.yA; omega
 ·rcases h with h | h
  ·exact (e.dis i hi).1 h
  ·have:=(e.dis i hi).2; omega
theorem PE.seen {X:PX}{A:Nat→Prop}{H H':Heap}(e:PE X A H)(hl:H.length≤H'.length)(hs:∀i,A i∨X.Rd i→H'[i]?=H[i]?)(f:Fam H'):PE X A H':=by
 have hA:=fun i h=>hs i (.inl h)
 have hR:=fun i h=>hs i (.inr h)
 exact ⟨e.lt.chg hl,f,e.lo,Nat.lt_of_lt_of_le e.ll hl,e.n0l,fun i hi=>⟨(e.dis i hi).1,Nat.lt_of_lt_of_le (e.dis i hi).2 hl⟩,e.xR,by rw [hc_kept (hR _ e.xR)]; exact e.xC,e.st.kept e.stR hR,e.stR,e.yA,by rw [hA _ e.yA]; exact e.yC,e.fA,by rw [hA _ e.fA]; exact e.fC⟩
theorem PE.less {X:PX}{A B:Nat→Prop}{H:Heap}(e:PE X B H)(hab:∀i,A i→B i)(y:A X.yb)(f:A X.fb):PE X A H :=
 ⟨fun i h=>e.lt i (hab i h),e.fam,fun i h=>e.lo i (hab i h),e.ll,e.n0l,fun i hi=>⟨fun h=>(e.dis i hi).1 (hab i h),(e.dis i hi).2⟩,e.xR,e.xC,e.st,e.stR,y,e.yC,f,e.fC⟩
end Go.Pi.L.Ch
set_option maxRecDepth 100000
namespace Go.Pi.L
open Go Go.Pi
section
variable {α:Type} {call:CallT} {F:Ex→St→Option α} {k:List It}
theorem rD_hb (v H' lo' c tb d T S D H lo n rnd):retD call F (some ⟨.ok v,H',lo'⟩) ⟨c,true,tb⟩ d k ⟨T,S,D,H,lo,n,rnd⟩=nxt call F (some v) d k ⟨T,S,D,H',min lo (min H.length lo'),n,rnd⟩:=by
 simp only [retD]; rw [if_pos (.inl (.inr trivial))]
end
theorem fa_yield (l vs)(hl:(vs.all fun v=>!isLoc v)=true):fargs (.func (.yield l) #[] #[]) vs=some (.yield l,vs):=by simp [fargs,hl,fnArgs]
end Go.Pi.L
namespace Go.Pi.L.Ch
open Go Go.Pi Go.Pi.L Go.Pi.E Go.Pi.Top BM

theorem gc_no {H H1:Heap}{v:Value}{lo:Nat}(h:¬H.length≤lo):gcR H (.ok v) H1 lo=⟨.ok v,H1,lo⟩:=by simp [gcR,h]
def QY (X:PX)(I Fin:List (List Int)→(Nat→Prop)→Heap→Prop)(acc ls:List (List Int))(A:Nat→Prop)(H:Heap)(o:Out):Prop :=
 ∃go H' lo A',o=⟨.ok (.bool go),H',lo⟩∧X.n0≤lo∧lo≤X.l∧(∀i,A i→A' i)∧H.length≤H'.length∧(∀i,A i∨X.Rd i→H'[i]?=H[i]?)∧Fam H'∧(go=true→I (acc++ls) A' H'∧PE X A' H') ∧
  (go=false→∃L1 L2,ls=L1++L2∧L1≠[]∧Fin (acc++L1) A' H')
theorem c93z {X:PX}{Ok:List (List Int)→Prop}{I Fin:List (List Int)→(Nat→Prop)→Heap→Prop}(cons:ConsB PP primsL X.l X.n0 X.Rd Ok I Fin){pre:List Int}(hpl:pre.length=X.r.sl)
  {acc:List (List Int)} {A Ap:Nat→Prop} {H:Heap} (hok:Ok (acc++[pre])) (hI:I acc Ap H) (e:PE X Ap H) (hA:∀i,A i→Ap i) (yA:A X.yb) (fA:A X.fb) {bn:Nat} (hs:Sl H 1 encN (some ⟨bn,0,none⟩) pre.length pre) (hbn:¬A bn) :
  Yes (R (.func 93) [.slice (some ⟨bn,0,none⟩) pre.length 1,.pointer (some ⟨X.xb,0,none⟩),.pointer (some ⟨X.yb,0,none⟩),.pointer (some ⟨X.fb,0,none⟩)] H) (QY X I Fin acc [pre] A H):=by
 refine run_y (pr 93) P93 (by simp [p93]) rfl ?_
 have eA:=e.less hA yA fA
 obtain ⟨go,H3,lo3,hst,z1,z2,z3,z4,z6,z7⟩:=cons.step acc A H pre bn hok (cons.less _ _ _ _ hI hA) eA.lt e.fam hs hbn
 have hF3:Fam H3:=famR hst e.fam
 have e3:=eA.seen z3 z4 hF3
 have hy:=bx_hc e.yC
 have hx:=e.xC
 have l2:=e.st.isLoc X.r.sk
 have hll:=e.ll
 have fin:∀lo,X.n0≤lo→lo≤X.l→QY X I Fin acc [pre] A H (gcR H (.ok (.bool go)) H3 lo):=fun lo h1 h2=>by
  rw [gc_no (by omega)]
  exact ⟨go,H3,lo,A,rfl,h1,h2,fun i h=>h,z3,z4,hF3,fun hg=>⟨z6 hg,e3⟩,fun hg=>⟨[pre],[],rfl,by simp,z7 hg⟩⟩
 have hsl:X.r.sl=pre.length:=hpl.symm
 rw [hsl] at hx l2
 simp (maxDischargeDepth:=8) only [↓SD,SU,SV,SW,simprocAttr,Int.cast_ofNat_Int,small,resV, B93,R93,N93,b93, hy,hx,l2,fa_yield,hst,R93,N93]
 rw [yes_some]
 exact fin _ (by have:=e.n0l; omega) (by omega)
end Go.Pi.L.Ch
set_option maxRecDepth 100000
namespace Go.Pi.L
open Go Go.Pi
section
variable {α:Type} {call:CallT} {F:Ex→St→Option α} {k:List It}
theorem apA_new (new d T S D H lo n rnd)(h2:new.length < 1000000)(h3:new≠[]):ap1 call F (some new) (.slice (some ⟨H.length,0,none⟩) 0 1) 1 d k ⟨T,S,D,H++[⟨.cells [],true,true,some H.length⟩],lo,n,rnd⟩ =
  nxt call F (some (.slice (some ⟨H.length+1,0,none⟩) new.length 1)) d k ⟨T,S,D,H++[⟨.cells [],true,false,some H.length⟩]++[⟨.cells new,true,true,some H.length⟩],lo,n,rnd⟩:=by
 rw [apA_tip,app_get,apB_ok _ _ _ _ _ _ _ _ _ _ _ _ _ _ (Nat.mod_one _) (by omega) (by cases new with | nil=>exact absurd rfl h3 | cons=>rfl) (by decide) (by simp),app_set]
 simp
end
end Go.Pi.L
namespace Go.Pi.L.Ch
open Go Go.Pi Go.Pi.L Go.Pi.E Go.Pi.Top BM
theorem c66x {H:Heap}{a:Option Addr}{l k:Nat}{xs:List Int}(hx:Ints H a l xs)(h0:0 < l)(hl:l < 1000) :
  ∀H',Grow H H'→R (.func 66) [.slice a l k] H'=some ⟨.ok (.slice (some ⟨H'.length+1,0,none⟩) l 1),H'++[⟨.cells [],true,false,some H'.length⟩]++[⟨.cells (cells encI xs),true,true,some H'.length⟩],H'.length⟩:=by
 intro H' hg
 have hg1:=hg.trans ((Up.refl H').app (l:=[({ obj:=.cells [],fam:=some H'.length }:Blk)])).grow
 have hlen:(cells encI xs).length=l:=by rw [cells_len (k:=1) (fun _=>rfl),hx.len,Nat.mul_one]
 have q0:=fun T S D lo n rnd=>(hx.grow hg1).elems (fun _=>rfl) (by decide) k T S D lo n rnd
 have q1:=fun T S D lo n rnd d k (F:Ex→St→Option Out)=>apA_new (call:=runL PP primsL) (F:=F) (k:=k) (cells encI xs) d T S D H' lo n rnd (by omega) (by intro h; rw [h] at hlen; simp at hlen; omega)
 rw [hlen] at q1
 have l1:=hx.isLoc k
 refine run_k (pr 66) P66 (by simp [p66]) rfl ?_
 obtain ⟨b,off,x,rfl,hx',f0⟩:=hx.at (fun _=>rfl) (by decide) h0
 simp (maxDischargeDepth:=8) only [↓SD,SU,SV,SW,simprocAttr,Int.cast_ofNat_Int,small,resV, B66,R66,N66,b66, l1,vv_nl_s,q0,q1]
 rw [gc_ite (Nat.le_refl _),if_neg (by simp [flat])]

theorem c66n (k:Nat)(H':Heap):R (.func 66) [.slice none 0 k] H'=some ⟨.ok (.slice none 0 0),H',H'.length⟩:=by
 refine run_k (pr 66) P66 (by simp [p66]) rfl ?_
 simp (maxDischargeDepth:=8) only [↓SD,SU,SV,SW,simprocAttr,Int.cast_ofNat_Int,small,resV, B66,R66,N66,b66, vv_nl_s0,R66,N66]
end Go.Pi.L.Ch
set_option maxRecDepth 100000
namespace Go.Pi.L
open Go Go.Pi
theorem Sl.of_cells {β:Type}{enc:β→List Value}{H:Heap}{k b:Nat}{xs:List β}(hk:∀x,(enc x).length=k)(h:hcells H b=some (cells enc xs)):Sl H k enc (some ⟨b,0,Option.none⟩) xs.length xs :=
 ⟨rfl,.inr ⟨_,_,rfl⟩,fun j x hx=>⟨b,0,cells enc xs,rfl,h,by rw [Nat.zero_add]; exact cells_get hk hx⟩⟩
end Go.Pi.L
namespace Go.Pi.L.Ch
open Go Go.Pi Go.Pi.L Go.Pi.E Go.Pi.Top BM

theorem child {H:Heap}{a:Option Addr}{l k:Nat}{pre:List Int}(hs:Ints H a l pre)(hn:l=0→a=none)(hl:l < 100)(hF:Fam H)(h:Int) :
  ∃(v:Value) (H1 Hn:Heap) (bn:Nat),R (.func 66) [.slice a l k] H=some ⟨.ok v,H1,H.length⟩∧isLoc v=false ∧
   (∀{α:Type} (call:CallT) (F:Ex→St→Option α) d kk T S D lo n rnd,ap1 call F (some [.int .i64 h]) v 1 d kk ⟨T,S,D,H1,lo,n,rnd⟩=nxt call F (some (.slice (some ⟨bn,0,none⟩) (l+1) 1)) d kk ⟨T,S,D,Hn,lo,n,rnd⟩) ∧
   Up H Hn∧Fam Hn∧Sl Hn 1 encN (some ⟨bn,0,none⟩) (l+1) (pre++[h])∧H.length≤bn∧bn < Hn.length∧(∀(i:Nat) b g,H.length≤i→Hn[i]?=some b→b.fam=some g→H.length≤g)∧H.length≤H1.length:=by
 rcases Nat.eq_zero_or_pos l with h0 | h0
 ·obtain rfl:=hn h0
  subst h0
  have hp:pre=[]:=List.eq_nil_of_length_eq_zero hs.len
  subst hp
  refine ⟨.slice none 0 0,H,H++[⟨.cells [.int .i64 h],true,true,some H.length⟩],H.length,c66n k H,rfl,fun call F d kk T S D lo n rnd=>?_,(Up.refl H).app,Fam.app1 hF (Nat.le_refl _),?_,Nat.le_refl _,by simp,fun i b g hi hb hg=>?_,Nat.le_refl _⟩
  ·rw [apA_nil _ _ _ _ _ _ _ _ _ _ (Nat.mod_one _) (by simp) rfl]; simp only [List.length_singleton,Nat.div_one,Nat.zero_add]
  ·exact Sl.of_cells (xs:=[h]) (fun _=>rfl) (by simp [hcells,cells,encN])
  ·have:=(List.getElem?_eq_some_iff.1 hb).1
   simp at this
   obtain rfl:i=H.length:=by omega
   rw [app_get] at hb; cases hb; cases hg; exact Nat.le_refl _
 ·have hlen:(cells encI pre).length=l:=by rw [cells_len (k:=1) (fun _=>rfl),hs.len,Nat.mul_one]
  have hc:=c66x (k:=k) hs h0 (by omega) H (Grow.refl _)
  obtain ⟨H1,hH1⟩:∃H1,H++[⟨.cells [],true,false,some H.length⟩]++[⟨.cells (cells encI pre),true,true,some H.length⟩]=H1:=⟨_,rfl⟩
  rw [hH1] at hc
  have len1:H1.length=H.length+2:=by rw [←hH1]; simp
  have u1:Up H H1:=by rw [←hH1]; exact (Up.refl H).app.app
  have at0:H1[H.length]?=some ⟨.cells [],true,false,some H.length⟩:=by
   rw [←hH1,List.append_assoc,List.getElem?_append_right (Nat.le_refl _)]; simp
  have at1:H1[H.length+1]?=some ⟨.cells (cells encI pre),true,true,some H.length⟩:=by
   rw [←hH1,List.append_assoc,List.getElem?_append_right (by omega)]; simp
  have hF1:Fam H1:=famR hc hF
  refine ⟨_,H1,H1.set (H.length+1) ⟨.cells (cells encI pre),true,false,some H.length⟩++[⟨.cells (cells encI pre++[.int .i64 h]),true,true,some H.length⟩],H.length+2,hc,rfl,fun call F d kk T S D lo n rnd=>?_,?_,?_,?_,by omega,by simp [len1],fun i b g hi hb hg=>?_,by omega⟩
  ·rw [apA_tip]
   simp only [at1]
   rw [apB_ok _ _ _ _ _ _ _ _ _ _ _ _ _ _ (Nat.mod_one _) (by simp; omega) rfl (by decide) (by omega),len1]; simp only [List.length_singleton,Nat.div_one]
  ·exact (u1.set (by omega)).app
  ·exact Fam.app1 (hF1.set (b:=⟨.cells (cells encI pre),true,false,some H.length⟩) at1 rfl) (by simp only [List.length_set]; omega)
  ·have hl1:(pre++[h]).length=l+1:=by rw [List.length_append,hs.len]; rfl
   rw [←hl1]
   refine Sl.of_cells (fun _=>rfl) ?_
   have e:cells encN (pre++[h])=cells encI pre++[.int .i64 h]:=cells_app encI pre h
   rw [e]
   simp [hcells,len1]
  ·have h2:=(List.getElem?_eq_some_iff.1 hb).1
   simp [len1] at h2
   rcases (by omega:i=H.length∨i=H.length+1∨i=H.length+2) with q | q | q
   ·subst q
    rw [List.getElem?_append_left (by simp [len1]),List.getElem?_set_ne (by omega),at0] at hb
    cases hb; cases hg; exact Nat.le_refl _
   ·subst q
    rw [List.getElem?_append_left (by simp [len1]),List.getElem?_set_self (by omega)] at hb
    cases hb; cases hg; exact Nat.le_refl _
   ·subst q
    rw [List.getElem?_append_right (by simp [len1])] at hb
    simp [len1] at hb
    subst hb; cases hg; exact Nat.le_refl _
def firsts (app:Nat)(rs:List Bool)(pre:List Int)(j:Nat):List (List Int):=(List.range j).flatMap fun h:Nat=>(plansL app rs).map fun q=>pre++(h:Int) :: q
theorem firsts_succ (app:Nat)(rs:List Bool)(pre:List Int)(j:Nat):firsts app rs pre (j+1)=firsts app rs pre j++(plansL app rs).map fun q=>(pre++[(j:Int)])++q:=by
 unfold firsts
 rw [List.range_succ,List.flatMap_append,List.flatMap_cons,List.flatMap_nil,List.append_nil]
 simp
theorem firsts_all (app:Nat)(r:Bool)(rs:List Bool)(pre:List Int):firsts app rs pre (hands app r)=(plansL app (r :: rs)).map (pre++·):=by
 simp only [firsts,plansL,List.map_flatMap,List.map_map]
 rfl
theorem firsts_le {app:Nat}{rs:List Bool}{pre:List Int}{i j:Nat}(h:i≤j):∃l,firsts app rs pre j=firsts app rs pre i++l:=by
 obtain ⟨k,rfl⟩:∃k,j=i+k:=⟨j - i,by omega⟩
 induction k with
 | zero=>exact ⟨[],by simp⟩
 | succ k ih =>
  obtain ⟨l,hl⟩:=ih (by omega)
  exact ⟨l++_,by rw [←Nat.add_assoc,firsts_succ,hl,List.append_assoc]⟩
end Go.Pi.L.Ch
set_option maxRecDepth 100000
namespace Go.Pi.L
open Go Go.Pi
theorem fa_c3 (f:FuncId)(v x y z:Value)(hl:Go.Pi.isLoc v=false):fargs (.func (.func f) #[] #[x,y,z]) [v]=some (.func f,[v,x,y,z]):=by simp [fargs,hl,fnArgs]
end Go.Pi.L
namespace Go.Pi.L.Ch
open Go Go.Pi Go.Pi.L Go.Pi.E Go.Pi.Top BM

def rndL (xs:List Sk):List Bool:=xs.map (·.s.round)
set_option maxHeartbeats 1000000 in
theorem c93 {X:PX}{Ok:List (List Int)→Prop}{I Fin:List (List Int)→(Nat→Prop)→Heap→Prop}(cons:ConsB PP primsL X.l X.n0 X.Rd Ok I Fin){nA:Nat}(ha:X.r.app=(nA:Nat))(hA3:nA≤3)(hs1:1≤X.r.sl)(hs6:X.r.sl≤6) :
  ∀(n:Nat) (pre:List Int),pre.length+n=X.r.sl→∀(acc:List (List Int)) (A Ap:Nat→Prop) (H:Heap) (a:Option Addr) (m:Nat),
  (∀L1 L2,(plansL nA ((rndL X.r.xs).drop pre.length)).map (pre++·)=L1++L2→Ok (acc++L1))→I acc Ap H→PE X Ap H→(∀i,A i→Ap i)→A X.yb→A X.fb→Ints H a pre.length pre→(pre.length=0→a=none) →
  (0 < pre.length→∃bn,a=some ⟨bn,0,none⟩∧m=1∧¬A bn∧Ap bn) →
  Yes (R (.func 93) [.slice a pre.length m,.pointer (some ⟨X.xb,0,none⟩),.pointer (some ⟨X.yb,0,none⟩),.pointer (some ⟨X.fb,0,none⟩)] H) (QY X I Fin acc ((plansL nA ((rndL X.r.xs).drop pre.length)).map (pre++·)) A H):=by
 intro n
 induction n with
 | zero =>
  intro pre hpl acc A Ap H a m hO hI e hA yA fA hs h0 hb
  have hlen:X.r.xs.length=X.r.sl:=e.st.len
  have hd:(rndL X.r.xs).drop pre.length=[]:=List.drop_eq_nil_of_le (by simp [rndL]; omega)
  rw [hd] at hO ⊢
  obtain ⟨bn,rfl,rfl,hbn,hbp⟩:=hb (by omega)
  have:=c93z cons (pre:=pre) (by omega) (hO [pre] [] (by simp [plansL])) hI e hA yA fA hs hbn
  simpa [plansL] using this
 | succ n IH =>
  intro pre hpl acc A Ap H a m hO hI e hA yA fA hs h0 hb
  have hlen:X.r.xs.length=X.r.sl:=e.st.len
  obtain ⟨xk,hxk⟩:∃x,X.r.xs[pre.length]?=some x:=⟨_,List.getElem?_eq_getElem (by omega)⟩
  have hrk:(rndL X.r.xs)[pre.length]?=some xk.s.round:=by rw [rndL,List.getElem?_map,hxk]; rfl
  have hd:(rndL X.r.xs).drop pre.length=xk.s.round :: (rndL X.r.xs).drop (pre.length+1):=drop_cons hrk
  rw [hd] at hO ⊢
  rw [←firsts_all] at hO ⊢
  generalize hrs:(rndL X.r.xs).drop (pre.length+1)=rs at hO ⊢ IH
  have hnn:hands nA xk.s.round≤nA+1:=by unfold hands; split <;> omega
  have hn1:1≤hands nA xk.s.round:=by unfold hands; split <;> omega
  refine run_y (pr 93) P93 (by simp [p93]) rfl ?_
  have l0:=hs.isLoc m
  have l2:=e.st.isLoc X.r.sk
  have hx:=e.xC
  have ell:=e.ll
  have enl:=e.n0l
  have hne:((pre.length:Nat):Int)=((X.r.sl:Nat):Int)↔False:=by constructor <;> intro h <;> first | omega | cases h
  have w18:IntKind.wrap .i64 (X.r.app+1)=((nA+1:Nat):Int):=by rw [ha,wrap_id _ (by omega) (by omega)]; omega
  have hab:∀b,a=some ⟨b,0,none⟩→Ap b:=fun b he=>by
   by_cases hp:0 < pre.length
   ·obtain ⟨bn,h1,_,_,h4⟩:=hb hp
    rw [h1] at he; cases he; exact h4
   ·rw [h0 (by omega)] at he; cases he
  have hinr:InR Ap a pre.length:=fun hp b off he=>by
   obtain ⟨bn,h1,_,_,h4⟩:=hb hp
   rw [h1] at he; cases he; exact h4
  have fin:∀(H2:Heap) (A2:Nat→Prop) (lo:Nat),I (acc++firsts nA rs pre (hands nA xk.s.round)) A2 H2→PE X A2 H2→(∀i,Ap i→A2 i)→(∀i,Ap i∨X.Rd i→H2[i]?=H[i]?)→H.length≤H2.length→X.n0≤lo→lo≤X.l →
    QY X I Fin acc (firsts nA rs pre (hands nA xk.s.round)) A H (gcR H (.ok (.bool true)) H2 lo):=fun H2 A2 lo h1 h2 h3 h4 h5 h6 h7=>by
   rw [gc_no (by omega)]
   exact ⟨true,H2,lo,A2,rfl,h6,h7,fun i hi=>h3 i (hA i hi),h5,fun i hi=>h4 i (hi.imp (hA i) id),h2.fam,fun _=>⟨h1,h2⟩,fun h=>by cases h⟩
  simp (maxDischargeDepth:=8) only [↓SD,SU,SV,SW,simprocAttr,Int.cast_ofNat_Int,small,resV, B93,R93,N93,b93, hx,l0,l2,hne,w18]
  refine loop_ind (G:=(Yes · (QY X I Fin acc (firsts nA rs pre (hands nA xk.s.round)) A H))) (fun j σ=>∃T S H2 lim A2,σ=⟨T,S,[],H2,lim,42,false⟩∧get T 0=.slice a pre.length m∧get T 1=.pointer (some ⟨X.xb,0,none⟩)∧get T 2=.pointer (some ⟨X.yb,0,none⟩)∧get T 3=.pointer (some ⟨X.fb,0,none⟩)∧get T 18=.int .i64 ((nA+1:Nat):Int)∧get T 19=.int .i64 (j:Nat)∧(j≤hands nA xk.s.round∧I (acc++firsts nA rs pre j) A2 H2∧PE X A2 H2∧(∀i,Ap i→A2 i)∧(∀i,Ap i∨X.Rd i→H2[i]?=H[i]?)∧H.length≤H2.length∧X.n0≤lim∧(j=0∨lim≤X.l))) ((nA+1)) ?_ ?_ 0 _ (Nat.zero_le _) ⟨_,_,_,_,_,rfl,rfl,rfl,rfl,rfl,rfl,rfl,⟨Nat.zero_le _,by simpa [firsts] using hI,e,fun i h=>h,fun i _=>rfl,Nat.le_refl _,by omega,.inl rfl⟩⟩
  ·rintro c' j s hj ⟨T,S,H2,lim,A2,rfl,t0,t1,t2,t3,t18,t19,hp⟩ ih
   obtain ⟨hjh,I2,e2,hA2,keep2,len2,hlo2,hll⟩:=hp
   have hx2:=e2.xC
   have hf2:=bx_hc e2.fC
   obtain ⟨b,off,x',hxb,hx',f0⟩:=e2.st.k5 (j:=pre.length) (by omega)
   obtain rfl:x'=xk:=by rw [hxk] at hx'; cases hx'; rfl
   have f1:=f0.v1 H2 (Grow.refl _)
   have ia1:vv (.ia 5) [.slice X.r.sa X.r.sl X.r.sk,.int .i64 (pre.length:Nat)]=some (.pointer (some ⟨b,off+pre.length*5,none⟩)):=by rw [hxb]; exact vv_iaN 5 b off pre.length _ _ _ (by omega)
   have hs2:Ints H2 a pre.length pre:=hs.kept hinr fun i hi=>keep2 i (.inl hi)
   have hw1:=wrap_succ j (by omega)
   obtain ⟨v,H3,H4,bn,k66,lv,kap,u4,hF4,hs4,hb1,hb2,hfm,len3⟩:=child (k:=m) hs2 h0 (by omega) e2.fam (j:Int)
   have lA2:∀i,A2 i→i < H2.length:=e2.lt
   have e4:=e2.step u4 hF4
   have I4:=cons.own _ _ _ _ I2 (u4.chg (A:=A2))
   have nbn:¬A2 bn:=fun h=>by have:=lA2 bn h; omega
   have len4:=u4.len
   have step:j < hands nA x'.s.round→∃go H' lo' A',R (.func 93) [.slice (some ⟨bn,0,none⟩) (pre.length+1) 1,.pointer (some ⟨X.xb,0,none⟩),.pointer (some ⟨X.yb,0,none⟩),.pointer (some ⟨X.fb,0,none⟩)] H4=some ⟨.ok (.bool go),H',lo'⟩∧X.n0≤lo'∧lo'≤X.l∧H.length≤H'.length ∧
     (go=true→∀lim',X.n0≤lim'→lim'≤X.l→j+1≤hands nA x'.s.round∧I (acc++firsts nA rs pre (j+1)) A' H'∧PE X A' H'∧(∀i,Ap i→A' i)∧(∀i,Ap i∨X.Rd i→H'[i]?=H[i]?)∧H.length≤H'.length∧X.n0≤lim'∧(j+1=0∨lim'≤X.l)) ∧
     (go=false→∀lim',X.n0≤lim'→lim'≤X.l→QY X I Fin acc (firsts nA rs pre (hands nA x'.s.round)) A H (gcR H (.ok (.bool false)) H' lim')):=by
    intro hj'
    obtain ⟨l0,hl0⟩:=firsts_le (app:=nA) (rs:=rs) (pre:=pre) (i:=j+1) (j:=hands nA x'.s.round) (by omega)
    rw [firsts_succ] at hl0
    have hlp:(pre++[(j:Int)]).length=pre.length+1:=by simp
    have hdr:(rndL X.r.xs).drop (pre++[(j:Int)]).length=rs:=by rw [hlp]; exact hrs
    have:=IH (pre++[(j:Int)]) (by rw [hlp]; omega) (acc++firsts nA rs pre j) A2 (And' A2 H2 H4) H4 (some ⟨bn,0,none⟩) 1 (fun L1 L2 h=>by
     rw [hdr] at h
     rw [List.append_assoc]
     refine hO (firsts nA rs pre j++L1) (L2++l0) ?_
     rw [hl0,h]; simp) I4 e4 (fun i h=>.inl h) e2.yA e2.fA (by rw [hlp]; exact hs4) (by rw [hlp]; omega) (fun _=>⟨bn,rfl,rfl,nbn,.inr ⟨hb1,hb2⟩⟩)
    rw [hdr,hlp] at this
    obtain ⟨o,ho,go,H',lo',A',rfl,w1,w2,w3,w4,w5,w6,w7,w8⟩:=this
    have keep':∀i,Ap i∨X.Rd i→H'[i]?=H[i]?:=fun i hi=>by
     have hi2:i < H2.length:=by
      rcases hi with hi | hi
      ·exact lA2 i (hA2 i hi)
      ·exact (e2.dis i hi).2
     rw [w5 i (hi.imp (hA2 i) id),u4.old i hi2,keep2 i hi]
    refine ⟨go,H',lo',A',ho,w1,w2,by omega,fun hg lim' h1 h2=>?_,fun hg lim' h1 h2=>?_⟩
    ·obtain ⟨a1,a2⟩:=w7 hg
     refine ⟨hj',?_,a2,fun i hi=>w3 i (hA2 i hi),keep',by omega,h1,.inr h2⟩
     rw [firsts_succ,←List.append_assoc]; exact a1
    ·obtain ⟨L1,L2,y1,y2,y3⟩:=w8 hg
     rw [gc_no (by omega)]
     refine ⟨false,H',lim',A',rfl,h1,h2,fun i hi=>w3 i (hA2 i (hA i hi)),by omega,fun i hi=>keep' i (hi.imp (hA i) id),w6,fun h=>(by cases h),fun _=>⟨firsts nA rs pre j++L1,L2++l0,by rw [hl0,y1]; simp,by simp [y2],by rw [←List.append_assoc]; exact y3⟩⟩
   by_cases hj0:j=0
   ·have zc:((0:Int) < (j:Nat))↔False:=by constructor <;> intro h <;> first | omega | cases h
    obtain ⟨go,H',lo',A',ho,w1,w2,w3,w4,w5⟩:=step (by omega)
    cases go with
    | true =>
     simp (maxDischargeDepth:=8) only [↓SD,SU,SV,SW,simprocAttr,Int.cast_ofNat_Int,small,resV, q93x0,t0,t1,t2,t3,t18,t19, lt_nat,hj,l0,zc,hf2,k66,lv,kap,fa_c3,ho,rD_hb,hw1]
     exact ih _ ⟨_,_,(H'),(_),(A'),rfl,(by simp [get_set,t0] <;> omega),(by simp [get_set,t1] <;> omega),(by simp [get_set,t2] <;> omega),(by simp [get_set,t3] <;> omega),(by simp [get_set,t18] <;> omega),(by simp [get_set,t19] <;> omega),w4 rfl _ (by omega) (by omega)⟩
    | false =>
     simp (maxDischargeDepth:=8) only [↓SD,SU,SV,SW,simprocAttr,Int.cast_ofNat_Int,small,resV, q93x0,t0,t1,t2,t3,t18,t19, lt_nat,hj,l0,zc,hf2,k66,lv,kap,fa_c3,ho,rD_hb,hw1,R93,N93]
     rw [yes_some]
     exact w5 rfl _ (by omega) (by omega)
   ·have zc:((0:Int) < (j:Nat))↔True:=by constructor <;> intro h <;> first | trivial | omega
    cases hr:x'.s.round with
    | true =>
     rw [hr] at f1
     have hj1:j=hands nA x'.s.round:=by rw [hr] at hjh ⊢; unfold hands at hjh ⊢; rw [if_pos rfl] at hjh ⊢; omega
     rw [hj1] at I2
     simp (maxDischargeDepth:=8) only [↓SD,SU,SV,SW,simprocAttr,Int.cast_ofNat_Int,small,resV, q93x0,t0,t1,t2,t3,t18,t19, lt_nat,hj,l0,l2,zc,hx2,ia1,f1,R93,N93,x_blk' 0 1 (by decide)]
     rw [yes_some]
     have:=fin H2 A2 lim I2 e2 hA2 keep2 len2 hlo2 (hll.resolve_left hj0)
     rw [hr] at this
     first | exact this | exact hr ▸ this
    | false =>
     rw [hr] at f1
     obtain ⟨go,H',lo',A',ho,w1,w2,w3,w4,w5⟩:=step (by rw [hr]; unfold hands; rw [if_neg (by simp)]; exact hj)
     cases go with
     | true =>
      simp (maxDischargeDepth:=8) only [↓SD,SU,SV,SW,simprocAttr,Int.cast_ofNat_Int,small,resV, q93x0,t0,t1,t2,t3,t18,t19, lt_nat,hj,l0,l2,zc,hx2,ia1,f1,hf2,k66,lv,kap,fa_c3,ho,rD_hb,hw1]
      rw [show hands nA false=hands nA x'.s.round by rw [hr]]
      exact ih _ ⟨_,_,(H'),(_),(A'),rfl,(by simp [get_set,t0] <;> omega),(by simp [get_set,t1] <;> omega),(by simp [get_set,t2] <;> omega),(by simp [get_set,t3] <;> omega),(by simp [get_set,t18] <;> omega),(by simp [get_set,t19] <;> omega),w4 rfl _ (by omega) (by omega)⟩
     | false =>
      simp (maxDischargeDepth:=8) only [↓SD,SU,SV,SW,simprocAttr,Int.cast_ofNat_Int,small,resV, q93x0,t0,t1,t2,t3,t18,t19, lt_nat,hj,l0,l2,zc,hx2,ia1,f1,hf2,k66,lv,kap,fa_c3,ho,rD_hb,hw1,R93,N93]
      rw [yes_some]
      rw [hr] at w5
      exact w5 rfl _ (by omega) (by omega)
  ·rintro c' s ⟨T,S,H2,lim,A2,rfl,t0,t1,t2,t3,t18,t19,hp⟩
   obtain ⟨hjh,I2,e2,hA2,keep2,len2,hlo2,hll⟩:=hp
   have hj1:nA+1=hands nA xk.s.round:=by omega
   rw [hj1] at I2
   simp (maxDischargeDepth:=8) only [↓SD,SU,SV,SW,simprocAttr,Int.cast_ofNat_Int,small,resV, q93x0,t0,t1,t2,t3,t18,t19, lt_nat,Nat.lt_irrefl,R93,N93]
   rw [yes_some]
   exact fin H2 A2 lim I2 e2 hA2 keep2 len2 hlo2 (hll.resolve_left (by omega))
end Go.Pi.L.Ch
