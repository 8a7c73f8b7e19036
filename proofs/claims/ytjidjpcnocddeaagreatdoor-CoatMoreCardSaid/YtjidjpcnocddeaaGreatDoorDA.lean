/- Coats: how a plan may fail. -/
import Derived.Test.YtjidjpcnocddeaaGreatDoorCD
set_option linter.all false
set_option maxRecDepth 100000
namespace Go.Pi.L.Coa
open Go Go.Pi Go.Pi.L Go.Pi.Coa CM

structure SpOk (H:Heap)(r:ShR)(p:SpR)(s:Sheet):Prop where
 sh:ShOk H r s
 lo:Ints H p.la p.ll (ps (lows s) s.dry.length)
 hi:Ints H p.ha p.hl (ps (highs s) s.dry.length)
theorem SpOk.grow {H H':Heap}{r:ShR}{p:SpR}{s:Sheet}(h:SpOk H r p s)(g:Grow H H'):SpOk H' r p s:=⟨h.sh.grow g,Sl.grow h.lo g,Sl.grow h.hi g⟩
theorem seg_sub (w:List Int){d t:Nat}(h:d≤t):sm (w.take t) - sm (w.take d)=seg w d t:=by
 rw [seg_nat]
 have:w.take t=w.take d++(w.drop d).take (t - d):=by
  rw [←List.take_add,show d+(t - d)=t by omega]
 rw [this,sm_app]; omega
theorem c129 {H:Heap}{r:ShR}{p:SpR}{s:Sheet}(hp:SpOk H r p s)(hS:ShFine s){d t:Nat}(hdt:d≤t)(ht:t≤s.dry.length) :
  ∀H',Grow H H'→R (.func 129) [.agg #[.slice r.da r.dl r.dk,.slice r.wa r.wl r.wk,.slice r.ca r.cl r.ck,.slice p.la p.ll p.lk,.slice p.ha p.hl p.hk],.int .i64 d,.int .i64 t] H'=some ⟨.ok (.int .i64 (seg (lows s) d t)),H',H'.length⟩:=by
 intro H' hg
 refine run_k (pr 129) P129 (by simp [p129]) rfl ?_
 obtain ⟨da,dl,dk,wa,wl,wk,ca,cl,ck⟩:=r
 obtain ⟨la,ll,lk,ha,hl,hk⟩:=p
 have hD:Spans H da dl s.dry:=hp.sh.d
 have hW:Ints H wa wl s.work:=hp.sh.w
 have hC:Spans H ca cl s.coats:=hp.sh.c
 have hLo:Ints H la ll (ps (lows s) s.dry.length):=hp.lo
 have hHi:Ints H ha hl (ps (highs s) s.dry.length):=hp.hi
 have l1:=hD.isLoc dk
 have l2:=hW.isLoc wk
 have l3:=hC.isLoc ck
 have l4:=hLo.isLoc lk
 have l5:=hHi.isLoc hk
 have e1:ll=s.dry.length+1:=by rw [←hLo.len,ps_len]
 have e2:hl=s.dry.length+1:=by rw [←hHi.len,ps_len]
 have h12:=hS.d2
 have u1:d < ll:=by omega
 have u2:t < ll:=by omega
 obtain ⟨b,off,x,hb,hx,f1⟩:=hLo.i1 u1
 obtain ⟨b',off',y,hb',hy,f2⟩:=hLo.i1 u2
 rw [ps_get _ (by omega)] at hx
 rw [ps_get _ ht] at hy
 cases hx; cases hy
 rw [hb] at hb'; cases hb'
 subst hb
 have b1:=take_bound (lows_bound hS) (j:=d) (by omega)
 have b2:=take_bound (lows_bound hS) (j:=t) (by omega)
 have w1:IntKind.wrap .i64 (sm ((lows s).take t) - sm ((lows s).take d))=seg (lows s) d t:=by rw [wrap_id _ (by omega) (by omega),seg_sub _ hdt]
 simp (maxDischargeDepth:=8) only [↓SD,SU,SV,SW,simprocAttr,Int.cast_ofNat_Int,small,resV, B129,R129,N129,b129, l1,l2,l3,l4,l5,u1,u2,f1,f2,hg,w1]
theorem c130 {H:Heap}{r:ShR}{p:SpR}{s:Sheet}(hp:SpOk H r p s)(hS:ShFine s){d t:Nat}(hdt:d≤t)(ht:t≤s.dry.length) :
  ∀H',Grow H H'→R (.func 130) [.agg #[.slice r.da r.dl r.dk,.slice r.wa r.wl r.wk,.slice r.ca r.cl r.ck,.slice p.la p.ll p.lk,.slice p.ha p.hl p.hk],.int .i64 d,.int .i64 t] H'=some ⟨.ok (.int .i64 (seg (highs s) d t)),H',H'.length⟩:=by
 intro H' hg
 refine run_k (pr 130) P130 (by simp [p130]) rfl ?_
 obtain ⟨da,dl,dk,wa,wl,wk,ca,cl,ck⟩:=r
 obtain ⟨la,ll,lk,ha,hl,hk⟩:=p
 have hD:Spans H da dl s.dry:=hp.sh.d
 have hW:Ints H wa wl s.work:=hp.sh.w
 have hC:Spans H ca cl s.coats:=hp.sh.c
 have hLo:Ints H la ll (ps (lows s) s.dry.length):=hp.lo
 have hHi:Ints H ha hl (ps (highs s) s.dry.length):=hp.hi
 have l1:=hD.isLoc dk
 have l2:=hW.isLoc wk
 have l3:=hC.isLoc ck
 have l4:=hLo.isLoc lk
 have l5:=hHi.isLoc hk
 have e1:ll=s.dry.length+1:=by rw [←hLo.len,ps_len]
 have e2:hl=s.dry.length+1:=by rw [←hHi.len,ps_len]
 have h12:=hS.d2
 have u1:d < hl:=by omega
 have u2:t < hl:=by omega
 obtain ⟨b,off,x,hb,hx,f1⟩:=hHi.i1 u1
 obtain ⟨b',off',y,hb',hy,f2⟩:=hHi.i1 u2
 rw [ps_get _ (by omega)] at hx
 rw [ps_get _ ht] at hy
 cases hx; cases hy
 rw [hb] at hb'; cases hb'
 subst hb
 have b1:=take_bound (highs_bound hS) (j:=d) (by omega)
 have b2:=take_bound (highs_bound hS) (j:=t) (by omega)
 have w1:IntKind.wrap .i64 (sm ((highs s).take t) - sm ((highs s).take d))=seg (highs s) d t:=by rw [wrap_id _ (by omega) (by omega),seg_sub _ hdt]
 simp (maxDischargeDepth:=8) only [↓SD,SU,SV,SW,simprocAttr,Int.cast_ofNat_Int,small,resV, B130,R130,N130,b130, l1,l2,l3,l4,l5,u1,u2,f1,f2,hg,w1]
theorem c86 {H:Heap}{r:ShR}{p:SpR}{s:Sheet}(hp:SpOk H r p s)(hS:ShFine s){d t:Nat}(hdt:d≤t)(ht:t≤s.dry.length) :
  ∀H',Grow H H'→R (.func 86) [.agg #[.slice r.da r.dl r.dk,.slice r.wa r.wl r.wk,.slice r.ca r.cl r.ck,.slice p.la p.ll p.lk,.slice p.ha p.hl p.hk],.int .i64 d,.int .i64 t] H'=some ⟨.ok (.agg #[.int .i64 (seg (lows s) d t),.int .i64 (seg (highs s) d t)]),H',H'.length⟩:=by
 intro H' hg
 refine run_k (pr 86) P86 (by simp [p86]) rfl ?_
 have k1:=c129 hp hS hdt ht H' hg
 have k2:=c130 hp hS hdt ht H' hg
 obtain ⟨da,dl,dk,wa,wl,wk,ca,cl,ck⟩:=r
 obtain ⟨la,ll,lk,ha,hl,hk⟩:=p
 have hD:Spans H da dl s.dry:=hp.sh.d
 have hW:Ints H wa wl s.work:=hp.sh.w
 have hC:Spans H ca cl s.coats:=hp.sh.c
 have hLo:Ints H la ll (ps (lows s) s.dry.length):=hp.lo
 have hHi:Ints H ha hl (ps (highs s) s.dry.length):=hp.hi
 have l1:=hD.isLoc dk
 have l2:=hW.isLoc wk
 have l3:=hC.isLoc ck
 have l4:=hLo.isLoc lk
 have l5:=hHi.isLoc hk
 simp only at k1 k2
 simp (maxDischargeDepth:=8) only [↓SD,SU,SV,SW,simprocAttr,Int.cast_ofNat_Int,small,resV, B86,R86,N86,b86, l1,l2,l3,l4,l5,k1,k2]

def fault (i w:Int):Value:=.iface 100 (.agg #[.int .i64 i,.int .i64 w])
def nothing:Value:=.tuple #[]
def failAt (s:Sheet)(c:Int×Int)(d t:Nat)(peels:Bool):Option Int :=
 if seg (lows s) d t < c.1 then some 1 else if peels=true∧c.2 < seg (highs s) d t then some 2 else none
def failOut (H:Heap)(i:Int):Option Int→Out
 | some w=>⟨.panic (fault i w),H,H.length⟩
 | none=>⟨.ok nothing,H,H.length⟩
theorem c128 {H:Heap}{r:ShR}{p:SpR}{s:Sheet}(hp:SpOk H r p s)(hS:ShFine s){i d t:Nat}{c:Int×Int}(hc:s.coats[i]?=some c)(hdt:d≤t)(ht:t≤s.dry.length)(peels:Bool) :
  ∀H',Grow H H'→R (.func 128) [.agg #[.slice r.da r.dl r.dk,.slice r.wa r.wl r.wk,.slice r.ca r.cl r.ck,.slice p.la p.ll p.lk,.slice p.ha p.hl p.hk],.int .i64 i,.int .i64 d,.int .i64 t,.bool peels] H'=some (failOut H' i (failAt s c d t peels)):=by
 intro H' hg
 refine run_k (pr 128) P128 (by simp [p128]) rfl ?_
 have k1:=c86 hp hS hdt ht H' hg
 obtain ⟨da,dl,dk,wa,wl,wk,ca,cl,ck⟩:=r
 obtain ⟨la,ll,lk,ha,hl,hk⟩:=p
 have hD:Spans H da dl s.dry:=hp.sh.d
 have hW:Ints H wa wl s.work:=hp.sh.w
 have hC:Spans H ca cl s.coats:=hp.sh.c
 have hLo:Ints H la ll (ps (lows s) s.dry.length):=hp.lo
 have hHi:Ints H ha hl (ps (highs s) s.dry.length):=hp.hi
 have l1:=hD.isLoc dk
 have l2:=hW.isLoc wk
 have l3:=hC.isLoc ck
 have l4:=hLo.isLoc lk
 have l5:=hHi.isLoc hk
 simp only at k1
 have hi:i < cl:=by rw [←hC.len]; exact (List.getElem?_eq_some_iff.1 hc).1
 obtain ⟨b,off,x,rfl,hx,e1,_⟩:=hC.s2 hi
 rw [hc] at hx; cases hx
 unfold failAt
 by_cases z1:seg (lows s) d t < c.1
 ·rw [if_pos z1]
  simp (maxDischargeDepth:=8) only [↓SD,SU,SV,SW,simprocAttr,Int.cast_ofNat_Int,small,resV, B128,R128,N128,b128, l1,l2,l3,l4,l5,k1,hi,e1,hg,z1,failOut,fault]
 ·rw [if_neg z1]
  cases peels with
  | false =>
   rw [if_neg (by simp)]
   simp (maxDischargeDepth:=8) only [↓SD,SU,SV,SW,simprocAttr,Int.cast_ofNat_Int,small,resV, B128,R128,N128,b128, l1,l2,l3,l4,l5,k1,hi,e1,hg,z1,failOut,nothing]
  | true =>
   by_cases z2:c.2 < seg (highs s) d t
   ·rw [if_pos ⟨rfl,z2⟩]
    simp (maxDischargeDepth:=8) only [↓SD,SU,SV,SW,simprocAttr,Int.cast_ofNat_Int,small,resV, B128,R128,N128,b128, l1,l2,l3,l4,l5,k1,hi,e1,hg,z1,z2,failOut,fault]
   ·rw [if_neg (fun h=>z2 h.2)]
    simp (maxDischargeDepth:=8) only [↓SD,SU,SV,SW,simprocAttr,Int.cast_ofNat_Int,small,resV, B128,R128,N128,b128, l1,l2,l3,l4,l5,k1,hi,e1,hg,z1,z2,failOut,nothing]

theorem d142n (call:CallT)(a b:Nat)(H:Heap):drunL PP primsL call (.func 142) [.pointer (some ⟨a,0,none⟩),.pointer (some ⟨b,0,none⟩)] H none=some (H,H.length,none):=by
 rw [drun_rc (d:=6) (pr 142) P142 (by simp [p142]) rfl (by simp [p142])]
 simp (maxDischargeDepth:=8) only [↓SD,SU,SV,SW,simprocAttr,Int.cast_ofNat_Int,small,resV, B142,R142,N142,b142, Option.getD_none]
 exact dfin_n _ _ _ _ _ _ _ _ R142
theorem d142p (call:CallT)(a b:Nat)(i w:Int)(H:Heap)(ha:H[a]?=some ⟨.cells [.int .i64 0,.int .i64 0],true,true,none⟩)(hb:H[b]?=some ⟨.cells [.int .i64 0],true,true,none⟩)(hne:a≠b) :
  drunL PP primsL call (.func 142) [.pointer (some ⟨a,0,none⟩),.pointer (some ⟨b,0,none⟩)] H (some (fault i w)) =
   some ((H.set a { obj:=.cells [.int .i64 i,.int .i64 w] }).set b { obj:=.cells [.int .i64 7] },min (min H.length a) b,none):=by
 have hb':(H.set a ({ obj:=.cells [.int .i64 i,.int .i64 w] }:Blk))[b]?=some ⟨.cells [.int .i64 0],true,true,none⟩:=by rw [List.getElem?_set_ne hne]; exact hb
 rw [drun_rc (d:=6) (pr 142) P142 (by simp [p142]) rfl (by simp [p142])]
 simp (maxDischargeDepth:=8) only [↓SD,SU,SV,SW,simprocAttr,Int.cast_ofNat_Int,small,resV, B142,R142,N142,b142, Option.getD_some,fault,ha,hb']
 exact dfin_n _ _ _ _ _ _ _ _ R142
end Go.Pi.L.Coa
set_option maxRecDepth 100000
namespace Go.Pi.L.Coa
open Go Go.Pi Go.Pi.L Go.Pi.Coa CM

def outOf (H:Heap):Option (Int×Int)→Out
 | some (i,w)=>⟨.panic (fault i w),H,H.length⟩
 | none=>⟨.ok nothing,H,H.length⟩
def attOf:Option (Int×Int)→Value
 | some (i,w)=>.tuple #[.agg #[.int .i64 i,.int .i64 w],.int .i64 7]
 | none=>.tuple #[.agg #[.int .i64 0,.int .i64 0],.int .i64 0]
theorem c109 {g:FuncId}{caps:List Value}{H:Heap}{res:Option (Int×Int)}(hc:(caps.all fun v=>!isLoc v)=true)(hf:∀H2,Up H H2→R (.func g) caps H2=some (outOf H2 res)) :
  R (.func 109) [.func (.func g) #[] caps.toArray] H=some ⟨.ok (attOf res),H,H.length⟩:=by
 generalize hH:H++[({ obj:=.cells [.int .i64 0,.int .i64 0] }:Blk)]++[({ obj:=.cells [.int .i64 0] }:Blk)]=H1
 have u1:Up H H1:=by rw [←hH]; exact (Up.refl H).app.app
 have a0:H1.length=H.length+2:=by rw [←hH]; simp
 have aA:H1[H.length]?=some ⟨.cells [.int .i64 0,.int .i64 0],true,true,none⟩:=by rw [←hH]; simp
 have aB:H1[H.length+1]?=some ⟨.cells [.int .i64 0],true,true,none⟩:=by rw [←hH]; simp
 have k1:=hf H1 u1
 have hne:H.length≠H.length+1:=by omega
 have lA:H.length < H1.length:=by omega
 have lB:H.length+1 < H1.length:=by omega
 have rd:∀x y,hcells ((H1.set H.length { obj:=.cells x }).set (H.length+1) { obj:=.cells y }) H.length=some x∧hcells ((H1.set H.length { obj:=.cells x }).set (H.length+1) { obj:=.cells y }) (H.length+1)=some y:=fun x y=>by
  constructor
  ·unfold hcells; rw [List.getElem?_set_ne (by omega),List.getElem?_set_self lA]
  ·unfold hcells; rw [List.getElem?_set_self (by simp; omega)]
 have st:∀x:Blk,(H1.set H.length x)[H.length+1]?=some ⟨.cells [.int .i64 0],true,true,none⟩:=fun x=>by rw [List.getElem?_set_ne (by omega)]; exact aB
 have le1:H.length≤H.length+2:=by omega
 have le2:H.length≤H.length+1:=by omega
 refine run_k (pr 109) P109 (by simp [p109]) rfl ?_
 cases res with
 | some iw =>
  obtain ⟨i,w⟩:=iw
  simp only [outOf] at k1
  simp (maxDischargeDepth:=8) only [↓SD,SU,SV,SW,simprocAttr,Int.cast_ofNat_Int,small,resV, B109,R109,N109,b109, List.length_singleton,hH,hc,k1,d142p,aA,aB,hne,ne_eq,not_false_eq_true,(rd _ _).1,(rd _ _).2,a0,le1,le2,attOf]
 | none =>
  simp only [outOf] at k1
  simp (maxDischargeDepth:=8) only [↓SD,SU,SV,SW,simprocAttr,Int.cast_ofNat_Int,small,resV, B109,R109,N109,b109, List.length_singleton,hH,hc,k1,d142n,aA,aB,st,(rd _ _).1,(rd _ _).2,a0,le1,le2,nothing,List.length_set,attOf]

def fails2 (s:Sheet)(j:Nat)(cs:List (Int×Int))(l:List Int):Option (Int×Int):=(fails s j cs l).map fun x=>((x.1:Int),x.2)
theorem c127 {H:Heap}{r:ShR}{p:SpR}{s:Sheet}(hp:SpOk H r p s)(hS:ShFine s){pa:Option Addr}{pl pk:Nat}{plan:List Int}(hq:Ints H pa pl plan)(hP:PlFine s plan){pb sb:Nat}
  (hpb:hcells H pb=some [.slice pa pl pk]) (hsb:hcells H sb=some [.slice r.da r.dl r.dk,.slice r.wa r.wl r.wk,.slice r.ca r.cl r.ck,.slice p.la p.ll p.lk,.slice p.ha p.hl p.hk]) :
  ∀H',Grow H H'→R (.func 127) [.pointer (some ⟨pb,0,none⟩),.pointer (some ⟨sb,0,none⟩)] H'=some (outOf H' (fails2 s 0 s.coats plan)):=by
 intro H' hg
 refine run_k (pr 127) P127 (by simp [p127]) rfl ?_
 have hpl:pl=s.coats.length:=by rw [←hq.len]; exact hP.len
 have hpl2:pl < 1000:=by have:=hS.c2; omega
 have hdl:r.dl=s.dry.length:=hp.sh.d.len.symm
 have k128:=fun i d t c peels h1 h2 h3=>c128 (i:=i) (d:=d) (t:=t) (c:=c) hp hS h1 h2 h3 peels H' hg
 obtain ⟨da,dl,dk,wa,wl,wk,ca,cl,ck⟩:=r
 obtain ⟨la,ll,lk,ha,hl,hk⟩:=p
 have hD:Spans H da dl s.dry:=hp.sh.d
 have hW:Ints H wa wl s.work:=hp.sh.w
 have hC:Spans H ca cl s.coats:=hp.sh.c
 have hLo:Ints H la ll (ps (lows s) s.dry.length):=hp.lo
 have hHi:Ints H ha hl (ps (highs s) s.dry.length):=hp.hi
 have l1:=hD.isLoc dk
 have l2:=hW.isLoc wk
 have l3:=hC.isLoc ck
 have l4:=hLo.isLoc lk
 have l5:=hHi.isLoc hk
 simp only at k128 hdl hsb
 have l6:=hq.isLoc pk
 have hpb':=hg.hc hpb
 have hsb':=hg.hc hsb
 simp (maxDischargeDepth:=8) only [↓SD,SU,SV,SW,simprocAttr,Int.cast_ofNat_Int,small,resV, B127,R127,N127,b127, l6,hpb']
 refine loop_ind (G:=(·=_)) (fun j σ=>∃T,σ=⟨T,[],[],H',(H').length,27,false⟩∧get T 0=.pointer (some ⟨pb,0,none⟩)∧get T 1=.pointer (some ⟨sb,0,none⟩)∧get T 6=.slice pa pl pk∧get T 7=.int .i64 pl∧get T 8=.int .i64 (j:Nat)∧(fails2 s j (s.coats.drop j) (plan.drop j)=fails2 s 0 s.coats plan)) (pl) ?_ ?_ 0 _ (Nat.zero_le _) ⟨_,rfl,rfl,rfl,rfl,rfl,rfl,by simp⟩
 ·rintro c' j st hj ⟨T,rfl,t0,t1,t6,t7,t8,hh⟩ ih
  obtain ⟨b,off,x,rfl,hx',f0⟩:=hq.i1 hj
  have hw1:=wrap_succ j (by omega)
  have hcj:j < s.coats.length:=by omega
  have hc:s.coats[j]?=some s.coats[j]:=List.getElem?_eq_getElem hcj
  obtain ⟨d,t,rfl,hti,hdt,htd⟩:=hP.span hx'
  have ht2:(plan[j+1]?).getD (dl:Int)=(t:Int):=by rw [hdl,←til_drop]; exact hti
  have q1:=c79 (H:=H) (pk:=pk) (dk:=dk) (d1:=undef) (w1:=.slice wa wl wk) (c1:=.slice ca cl ck) (h1:=.slice la ll lk) (h2:=.slice ha hl hk) hq hpl2 l1 l2 rfl l3 rfl l4 rfl l5 rfl hx' ht2 H' hg
  have q2:=k128 j d t _ (decide (j+1 < pl)) hc (by omega) htd
  simp only [fails2] at hh
  rw [drop_cons hx',drop_cons hc,fails,hti] at hh
  simp only [drop_ne,hq.len] at hh
  unfold failAt at q2
  by_cases z1:seg (lows s) d t < s.coats[j].1
  ·rw [if_pos z1] at hh q2
   simp only [failOut] at q2
   simp (maxDischargeDepth:=8) only [↓SD,SU,SV,SW,simprocAttr,Int.cast_ofNat_Int,small,resV, q127x0,t0,t1,t6,t7,t8,lt_nat,hj,l1,l2,l3,l4,l5,l6,hg,f0,hpb',hsb',q1,q2,fault]
   simp [outOf,fails2,←hh,fault]
  ·by_cases z2:j+1 < pl∧s.coats[j].2 < seg (highs s) d t
   ·rw [if_neg z1,if_pos z2] at hh
    rw [if_neg z1,if_pos (by simpa using z2)] at q2
    simp only [failOut] at q2
    simp (maxDischargeDepth:=8) only [↓SD,SU,SV,SW,simprocAttr,Int.cast_ofNat_Int,small,resV, q127x0,t0,t1,t6,t7,t8,lt_nat,hj,l1,l2,l3,l4,l5,l6,hg,f0,hpb',hsb',q1,q2,fault]
    simp [outOf,fails2,←hh,fault]
   ·rw [if_neg z1,if_neg z2] at hh
    rw [if_neg z1,if_neg (by simpa using z2)] at q2
    simp only [failOut,nothing] at q2
    simp (maxDischargeDepth:=8) only [↓SD,SU,SV,SW,simprocAttr,Int.cast_ofNat_Int,small,resV, q127x0,t0,t1,t6,t7,t8,lt_nat,hj,l1,l2,l3,l4,l5,l6,hg,f0,hpb',hsb',q1,q2,hw1]
    exact ih _ ⟨_,rfl,by simp [get_set,t0],by simp [get_set,t1],by simp [get_set,t6],by simp [get_set,t7],by simp [get_set],hh⟩
 ·rintro c' st ⟨T,rfl,t0,t1,t6,t7,t8,hh⟩
  rw [drop_all hq.len,hpl,List.drop_eq_nil_of_le (Nat.le_refl _)] at hh
  replace hh:none=fails2 s 0 s.coats plan:=hh
  simp (maxDischargeDepth:=8) only [↓SD,SU,SV,SW,simprocAttr,Int.cast_ofNat_Int,small,resV, q127x0,t0,t1,t6,t7,t8,lt_nat,Nat.lt_irrefl,R127,N127]
  simp [outOf,←hh,nothing]

theorem c85 {H:Heap}{r:ShR}{p:SpR}{s:Sheet}(hp:SpOk H r p s)(hS:ShFine s){pa:Option Addr}{pl pk:Nat}{plan:List Int}(hq:Ints H pa pl plan)(hP:PlFine s plan) :
  ∀H',Grow H H'→R (.func 85) [.agg #[.slice r.da r.dl r.dk,.slice r.wa r.wl r.wk,.slice r.ca r.cl r.ck,.slice p.la p.ll p.lk,.slice p.ha p.hl p.hk],.slice pa pl pk] H'=some ⟨.ok (attOf (fails2 s 0 s.coats plan)),H',H'.length⟩:=by
 intro H' hg
 refine run_k (pr 85) P85 (by simp [p85]) rfl ?_
 generalize hH:H'++[({ obj:=.cells [.slice r.da r.dl r.dk,.slice r.wa r.wl r.wk,.slice r.ca r.cl r.ck,.slice p.la p.ll p.lk,.slice p.ha p.hl p.hk] }:Blk)]++[({ obj:=.cells [.slice pa pl pk] }:Blk)]=H1
 have u1:Up H' H1:=by rw [←hH]; exact (Up.refl H').app.app
 have a0:H1.length=H'.length+2:=by rw [←hH]; simp
 have aA:hcells H1 H'.length=some [.slice r.da r.dl r.dk,.slice r.wa r.wl r.wk,.slice r.ca r.cl r.ck,.slice p.la p.ll p.lk,.slice p.ha p.hl p.hk]:=by rw [←hH]; simp [hcells]
 have aB:hcells H1 (H'.length+1)=some [.slice pa pl pk]:=by rw [←hH]; simp [hcells]
 have hg1:=hg.trans u1.grow
 have k1:=c109 (g:=127) (caps:=[.pointer (some ⟨H'.length+1,0,none⟩),.pointer (some ⟨H'.length,0,none⟩)]) (H:=H1) (res:=fails2 s 0 s.coats plan) rfl (fun H2 u2=>c127 (hp.grow hg1) hS (Sl.grow hq hg1) hP aB aA H2 u2.grow)
 have le1:H'.length≤H'.length+2:=by omega
 obtain ⟨da,dl,dk,wa,wl,wk,ca,cl,ck⟩:=r
 obtain ⟨la,ll,lk,ha,hl,hk⟩:=p
 have hD:Spans H da dl s.dry:=hp.sh.d
 have hW:Ints H wa wl s.work:=hp.sh.w
 have hC:Spans H ca cl s.coats:=hp.sh.c
 have hLo:Ints H la ll (ps (lows s) s.dry.length):=hp.lo
 have hHi:Ints H ha hl (ps (highs s) s.dry.length):=hp.hi
 have l1:=hD.isLoc dk
 have l2:=hW.isLoc wk
 have l3:=hC.isLoc ck
 have l4:=hLo.isLoc lk
 have l5:=hHi.isLoc hk
 simp only at hH k1
 have l6:=hq.isLoc pk
 cases hf:fails2 s 0 s.coats plan with
 | some iw =>
  obtain ⟨i,w⟩:=iw
  rw [hf] at k1
  simp only [attOf] at k1
  simp (maxDischargeDepth:=8) only [↓SD,SU,SV,SW,simprocAttr,Int.cast_ofNat_Int,small,resV, B85,R85,N85,b85, l1,l2,l3,l4,l5,l6,List.length_singleton,hH,k1,a0,le1,attOf]
 | none =>
  rw [hf] at k1
  simp only [attOf] at k1
  simp (maxDischargeDepth:=8) only [↓SD,SU,SV,SW,simprocAttr,Int.cast_ofNat_Int,small,resV, B85,R85,N85,b85, l1,l2,l3,l4,l5,l6,List.length_singleton,hH,k1,a0,le1,attOf]
end Go.Pi.L.Coa
set_option maxRecDepth 100000
namespace Go.Pi.L.Coa
open Go Go.Pi Go.Pi.L Go.Pi.Coa CM

theorem lows_len (s:Sheet):(lows s).length=s.dry.length:=by simp [lows]
theorem highs_len (s:Sheet):(highs s).length=s.dry.length:=by simp [highs]
theorem c38 {H:Heap}{r:ShR}{s:Sheet}(hs:ShOk H r s)(hd:Small r):∀H',Grow H H'→Yes (R (.func 38) [.agg #[.slice r.da r.dl r.dk,.slice r.wa r.wl r.wk,.slice r.ca r.cl r.ck]] H') (QS H' 1 encI (lows s)):=by
 intro H' hg
 refine run_y (pr 38) P38 (by simp [p38]) rfl ?_
 obtain ⟨da,dl,dk,wa,wl,wk,ca,cl,ck⟩:=r
 have hD:Spans H da dl s.dry:=hs.d
 have hW:Ints H wa wl s.work:=hs.w
 have hC:Spans H ca cl s.coats:=hs.c
 have nD:dl < 1000000:=hd.d
 have nW:wl < 1000000:=hd.w
 have nC:cl < 1000000:=hd.c
 have l1:=hD.isLoc dk
 have l2:=hW.isLoc wk
 have l3:=hC.isLoc ck
 simp (maxDischargeDepth:=8) only [↓SD,SU,SV,SW,simprocAttr,Int.cast_ofNat_Int,small,resV, B38,R38,N38,b38, l1,l2,l3]
 refine loop_ind (G:=(Yes · (QS H' 1 encI (lows s)))) (fun j σ=>∃T S H1 a m lim,σ=⟨T,S,[],H1,lim,22,false⟩∧get T 1=.pointer (some ⟨1,0,some 1⟩)∧get T 3=.slice a j m∧get T 4=.int .i64 (j:Nat)∧sget S 1=(1,.cells [.slice da dl dk,.slice wa wl wk,.slice ca cl ck])∧(Bld H'.length H1 1 a j m (cells encI ((lows s).take j))∧Up H' H1∧H'.length≤lim)) (dl) ?_ ?_ 0 _ (Nat.zero_le _) ⟨_,_,_,_,_,_,rfl,rfl,rfl,rfl,rfl,⟨Bld.nil _ _ _,Up.refl _,Nat.le_refl _⟩⟩
 ·rintro c' j s hj ⟨T,S,H1,a,m,lim,rfl,t1,t3,t4,s0,hp⟩ ih
  obtain ⟨g1,hu,hlim⟩:=hp
  obtain ⟨b,off,x,rfl,hx',e0,f1,f2⟩:=hD.s2 hj
  have hw1:=wrap_succ j (by omega)
  have hg1:=hg.trans hu.grow
  obtain ⟨H2,q1,q2,q3,q4⟩:=g1.app (by decide) (by decide) (by omega) hu.len [.int .i64 x.1] rfl
  have u2:=q3.up g1 hu (Nat.le_refl _)
  have l4:=g1.isLoc j m
  simp (maxDischargeDepth:=8) only [↓SD,SU,SV,SW,simprocAttr,Int.cast_ofNat_Int,small,resV, q38x0,t1,t3,t4,s0, lt_nat,hj,l1,l2,l3,l4,f1,hg1,hw1,q1]
  exact ih _ ⟨_,_,(H2),(some ⟨H1.length,0,none⟩),(1),(_),rfl,(by simp [get_set,t1] <;> omega),(by simp [get_set,t3] <;> omega),(by simp [get_set,t4] <;> omega),by simp [sget_sset,s0],⟨by rw [List.take_succ_eq_append_getElem (by rw [lows_len,hD.len]; exact hj),cells_app]; have:=lows_get hx'; rw [List.getElem?_eq_some_iff] at this; rw [this.2]; exact q2,u2,by omega⟩⟩
 ·rintro c' s ⟨T,S,H1,a,m,lim,rfl,t1,t3,t4,s0,hp⟩
  obtain ⟨g1,hu,hlim⟩:=hp
  rw [List.take_of_length_le (by rw [lows_len,hD.len]; exact Nat.le_refl _)] at g1
  have l4:=g1.isLoc dl m
  simp (maxDischargeDepth:=8) only [↓SD,SU,SV,SW,simprocAttr,Int.cast_ofNat_Int,small,resV, q38x0,t1,t3,t4,s0, lt_nat,Nat.lt_irrefl,l1,l2,l3,l4,R38,N38]
  rw [yes_some]
  exact gc_sl (g1.sl encI_len (by decide)) hu hlim
theorem c39 {H:Heap}{r:ShR}{s:Sheet}(hs:ShOk H r s)(hd:Small r):∀H',Grow H H'→Yes (R (.func 39) [.agg #[.slice r.da r.dl r.dk,.slice r.wa r.wl r.wk,.slice r.ca r.cl r.ck]] H') (QS H' 1 encI (highs s)):=by
 intro H' hg
 refine run_y (pr 39) P39 (by simp [p39]) rfl ?_
 obtain ⟨da,dl,dk,wa,wl,wk,ca,cl,ck⟩:=r
 have hD:Spans H da dl s.dry:=hs.d
 have hW:Ints H wa wl s.work:=hs.w
 have hC:Spans H ca cl s.coats:=hs.c
 have nD:dl < 1000000:=hd.d
 have nW:wl < 1000000:=hd.w
 have nC:cl < 1000000:=hd.c
 have l1:=hD.isLoc dk
 have l2:=hW.isLoc wk
 have l3:=hC.isLoc ck
 simp (maxDischargeDepth:=8) only [↓SD,SU,SV,SW,simprocAttr,Int.cast_ofNat_Int,small,resV, B39,R39,N39,b39, l1,l2,l3]
 refine loop_ind (G:=(Yes · (QS H' 1 encI (highs s)))) (fun j σ=>∃T S H1 a m lim,σ=⟨T,S,[],H1,lim,22,false⟩∧get T 1=.pointer (some ⟨1,0,some 1⟩)∧get T 3=.slice a j m∧get T 4=.int .i64 (j:Nat)∧sget S 1=(1,.cells [.slice da dl dk,.slice wa wl wk,.slice ca cl ck])∧(Bld H'.length H1 1 a j m (cells encI ((highs s).take j))∧Up H' H1∧H'.length≤lim)) (dl) ?_ ?_ 0 _ (Nat.zero_le _) ⟨_,_,_,_,_,_,rfl,rfl,rfl,rfl,rfl,⟨Bld.nil _ _ _,Up.refl _,Nat.le_refl _⟩⟩
 ·rintro c' j s hj ⟨T,S,H1,a,m,lim,rfl,t1,t3,t4,s0,hp⟩ ih
  obtain ⟨g1,hu,hlim⟩:=hp
  obtain ⟨b,off,x,rfl,hx',e0,f1,f2⟩:=hD.s2 hj
  have hw1:=wrap_succ j (by omega)
  have hg1:=hg.trans hu.grow
  obtain ⟨H2,q1,q2,q3,q4⟩:=g1.app (by decide) (by decide) (by omega) hu.len [.int .i64 x.2] rfl
  have u2:=q3.up g1 hu (Nat.le_refl _)
  have l4:=g1.isLoc j m
  simp (maxDischargeDepth:=8) only [↓SD,SU,SV,SW,simprocAttr,Int.cast_ofNat_Int,small,resV, q39x0,t1,t3,t4,s0, lt_nat,hj,l1,l2,l3,l4,f2,hg1,hw1,q1]
  exact ih _ ⟨_,_,(H2),(some ⟨H1.length,0,none⟩),(1),(_),rfl,(by simp [get_set,t1] <;> omega),(by simp [get_set,t3] <;> omega),(by simp [get_set,t4] <;> omega),by simp [sget_sset,s0],⟨by rw [List.take_succ_eq_append_getElem (by rw [highs_len,hD.len]; exact hj),cells_app]; have:=highs_get hx'; rw [List.getElem?_eq_some_iff] at this; rw [this.2]; exact q2,u2,by omega⟩⟩
 ·rintro c' s ⟨T,S,H1,a,m,lim,rfl,t1,t3,t4,s0,hp⟩
  obtain ⟨g1,hu,hlim⟩:=hp
  rw [List.take_of_length_le (by rw [highs_len,hD.len]; exact Nat.le_refl _)] at g1
  have l4:=g1.isLoc dl m
  simp (maxDischargeDepth:=8) only [↓SD,SU,SV,SW,simprocAttr,Int.cast_ofNat_Int,small,resV, q39x0,t1,t3,t4,s0, lt_nat,Nat.lt_irrefl,l1,l2,l3,l4,R39,N39]
  rw [yes_some]
  exact gc_sl (g1.sl encI_len (by decide)) hu hlim
def failsV (x:Option (Nat×Int)):Value:=match x with | some (i,w)=>.tuple #[.int .i64 i,.int .i64 w,.bool true] | none=>.tuple #[.int .i64 0,.int .i64 0,.bool false]
theorem c33 {H:Heap}{r:ShR}{s:Sheet}(hs:ShOk H r s)(hd:Small r)(hS:ShFine s){pa:Option Addr}{pl pk:Nat}{plan:List Int}(hq:Ints H pa pl plan)(hP:PlFine s plan) :
  ∀H',Grow H H'→R (.func 33) [.agg #[.slice r.da r.dl r.dk,.slice r.wa r.wl r.wk,.slice r.ca r.cl r.ck],.slice pa pl pk] H'=some ⟨.ok (failsV (fails s 0 s.coats plan)),H',H'.length⟩:=by
 intro H' hg
 refine run_k (pr 33) P33 (by simp [p33]) rfl ?_
 have hpl:pl=s.coats.length:=by rw [←hq.len]; exact hP.len
 have hpl2:pl < 1000:=by have:=hS.c2; omega
 have hdl:r.dl=s.dry.length:=hs.d.len.symm
 have hdl2:r.dl < 1000:=by have:=hS.d2; omega
 have k38:=fun H2 g=>c38 hs hd H2 g
 have k39:=fun H2 g=>c39 hs hd H2 g
 have k83:=fun H2 (g:Grow H H2) wa' wk' w hw hb i d t c h1 h2 h3 h4 h5=>c83 (pk:=pk) (wa':=wa') (wk':=wk') (w:=w) (i:=i) (d:=d) (t:=t) (c:=c) (hs.grow g) hd (Sl.grow hq g) hpl2 hw hdl2 hb h1 h2 h3 h4 h5 H2 (Grow.refl _)
 have k84:=fun H2 (g:Grow H H2) wa' wk' w hw hb i d t c h1 h2 h3 h4 h5=>c84 (pk:=pk) (wa':=wa') (wk':=wk') (w:=w) (i:=i) (d:=d) (t:=t) (c:=c) (hs.grow g) hd (Sl.grow hq g) hpl2 hw hdl2 hb h1 h2 h3 h4 h5 H2 (Grow.refl _)
 obtain ⟨da,dl,dk,wa,wl,wk,ca,cl,ck⟩:=r
 have hD:Spans H da dl s.dry:=hs.d
 have hW:Ints H wa wl s.work:=hs.w
 have hC:Spans H ca cl s.coats:=hs.c
 have nD:dl < 1000000:=hd.d
 have nW:wl < 1000000:=hd.w
 have nC:cl < 1000000:=hd.c
 have l1:=hD.isLoc dk
 have l2:=hW.isLoc wk
 have l3:=hC.isLoc ck
 simp only at k38 k39 k83 k84 hdl hdl2
 have l4:=hq.isLoc pk
 simp (maxDischargeDepth:=8) only [↓SD,SU,SV,SW,simprocAttr,Int.cast_ofNat_Int,small,resV, B33,R33,N33,b33, l1,l2,l3,l4]
 refine loop_ind (G:=(·=_)) (fun j σ=>∃T H1 lim,σ=⟨T,sset [] 2 (1,.cells [.slice da dl dk,.slice wa wl wk,.slice ca cl ck]),[],H1,lim,28,false⟩∧get T 1=.slice pa pl pk∧get T 2=.pointer (some ⟨2,0,some 1⟩)∧get T 7=.int .i64 (j:Nat)∧(fails s j (s.coats.drop j) (plan.drop j)=fails s 0 s.coats plan∧Up H' H1∧H'.length≤lim)) (pl) ?_ ?_ 0 _ (Nat.zero_le _) ⟨_,_,_,rfl,rfl,rfl,rfl,⟨by simp,Up.refl _,Nat.le_refl _⟩⟩
 ·rintro c' j s hj ⟨T,H1,lim,rfl,t1,t2,t7,hp⟩ ih
  obtain ⟨hp,hu,hlim⟩:=hp
  obtain ⟨b,off,x,rfl,hx',f0⟩:=hq.i1 hj
  have hw1:=wrap_succ j (by omega)
  have hcj:j < s.coats.length:=by omega
  have hc:s.coats[j]?=some s.coats[j]:=List.getElem?_eq_getElem hcj
  obtain ⟨d,t,rfl,hti,hdt,htd⟩:=hP.span hx'
  have ht2:(plan[j+1]?).getD (dl:Int)=(t:Int):=by rw [hdl,←til_drop]; exact hti
  have hg1:=hg.trans hu.grow
  obtain ⟨o2,ho2,a2,m2,H2,lo2,rfl,u2,hlo2,z2⟩:=k38 H1 hg1
  have hg2:=hg1.trans u2.grow
  rw [lows_len,←hdl] at ho2 z2
  have q83:=k83 H2 hg2 a2 m2 (lows s) z2 (fun y hy=>by have:=lows_bound hS y hy; omega) j d t _ hx' hc ht2 (by omega) (by omega)
  obtain ⟨o3,ho3,a3,m3,H3,lo3,rfl,u3,hlo3,z3⟩:=k39 H2 hg2
  have hg3:=hg2.trans u3.grow
  rw [highs_len,←hdl] at ho3 z3
  have q84:=k84 H3 hg3 a3 m3 (highs s) z3 (fun y hy=>by have:=highs_bound hS y hy; omega) j d t _ hx' hc ht2 (by omega) (by omega)
  have n1:=hu.len
  have n2:=u2.len
  have n3:=u3.len
  have l5:=z2.isLoc m2
  have l6:=z3.isLoc m3
  have n4:H1.length≤lo2:=hlo2
  have n5:H2.length≤lo3:=hlo3
  have n6:H'.length≤H2.length:=by omega
  have n7:H'.length≤H3.length:=by omega
  have n8:H'.length≤lo2:=by omega
  have n9:H'.length≤lo3:=by omega
  rw [drop_cons hx',drop_cons hc,fails,hti] at hp
  simp only [drop_ne,hq.len] at hp
  by_cases z1:seg (lows s) d t < s.coats[j].1
  ·rw [if_pos z1] at hp
   simp (maxDischargeDepth:=8) only [↓SD,SU,SV,SW,simprocAttr,Int.cast_ofNat_Int,small,resV, q33x0,t1,t2,t7, lt_nat,hj,l1,l2,l3,l4,l5,ho2,n4,q83,z1,R33,N33,←hp,failsV,hlim,n1,n6,n8]
  ·by_cases z4:j+1 < pl∧s.coats[j].2 < seg (highs s) d t
   ·rw [if_neg z1,if_pos z4] at hp
    simp (maxDischargeDepth:=8) only [↓SD,SU,SV,SW,simprocAttr,Int.cast_ofNat_Int,small,resV, q33x0,t1,t2,t7, lt_nat,hj,l1,l2,l3,l4,l5,l6,ho2,n4,q83,z1,ho3,n5,q84,z4.1,z4.2,R33,N33,←hp,failsV,hlim,n1,n6,n7,n8,n9]
   ·rw [if_neg z1,if_neg z4] at hp
    have z5:(decide (j+1 < pl)&&decide (s.coats[j].2 < seg (highs s) d t))=false:=by
     rw [Bool.and_eq_false_iff]
     simp only [decide_eq_false_iff_not]
     exact (Classical.not_and_iff_not_or_not.1 z4)
    simp (maxDischargeDepth:=8) only [↓SD,SU,SV,SW,simprocAttr,Int.cast_ofNat_Int,small,resV, q33x0,t1,t2,t7, lt_nat,hj,l1,l2,l3,l4,l5,l6,ho2,n4,q83,z1,ho3,n5,q84,z5,hw1]
    exact ih _ ⟨_,(H3),(_),rfl,(by simp [get_set,t1] <;> omega),(by simp [get_set,t2] <;> omega),(by simp [get_set,t7] <;> omega),⟨hp,(hu.trans u2).trans u3,by omega⟩⟩
 ·rintro c' s ⟨T,H1,lim,rfl,t1,t2,t7,hp⟩
  obtain ⟨hp,hu,hlim⟩:=hp
  rw [drop_all hq.len,hpl,List.drop_eq_nil_of_le (Nat.le_refl _)] at hp
  replace hp:none=fails s 0 s.coats plan:=hp
  simp (maxDischargeDepth:=8) only [↓SD,SU,SV,SW,simprocAttr,Int.cast_ofNat_Int,small,resV, q33x0,t1,t2,t7, lt_nat,Nat.lt_irrefl,l1,l2,l3,l4,R33,N33,←hp,failsV,hlim]
theorem c91 {H:Heap}{r:ShR}{s:Sheet}(hs:ShOk H r s)(hd:Small r)(hS:ShFine s){pa:Option Addr}{pl pk:Nat}{plan:List Int}(hq:Ints H pa pl plan)(hP:PlFine s plan) :
  ∀H',Grow H H'→R (.func 91) [.agg #[.slice r.da r.dl r.dk,.slice r.wa r.wl r.wk,.slice r.ca r.cl r.ck],.slice pa pl pk] H'=some ⟨.ok (.bool (surely s plan)),H',H'.length⟩:=by
 intro H' hg
 refine run_k (pr 91) P91 (by simp [p91]) rfl ?_
 have k1:=c33 (pk:=pk) hs hd hS hq hP H' hg
 obtain ⟨da,dl,dk,wa,wl,wk,ca,cl,ck⟩:=r
 have hD:Spans H da dl s.dry:=hs.d
 have hW:Ints H wa wl s.work:=hs.w
 have hC:Spans H ca cl s.coats:=hs.c
 have nD:dl < 1000000:=hd.d
 have nW:wl < 1000000:=hd.w
 have nC:cl < 1000000:=hd.c
 have l1:=hD.isLoc dk
 have l2:=hW.isLoc wk
 have l3:=hC.isLoc ck
 simp only at k1
 have l4:=hq.isLoc pk
 unfold surely
 cases hf:fails s 0 s.coats plan with
 | none=>rw [hf] at k1; simp only [failsV] at k1; simp (maxDischargeDepth:=8) only [↓SD,SU,SV,SW,simprocAttr,Int.cast_ofNat_Int,small,resV, B91,R91,N91,b91, l1,l2,l3,l4,k1,Option.isNone_none]
 | some x=>rw [hf] at k1; simp only [failsV] at k1; simp (maxDischargeDepth:=8) only [↓SD,SU,SV,SW,simprocAttr,Int.cast_ofNat_Int,small,resV, B91,R91,N91,b91, l1,l2,l3,l4,k1,Option.isNone_some]
end Go.Pi.L.Coa
set_option maxRecDepth 100000
namespace Go.Pi.L.Coa
open Go Go.Pi Go.Pi.L Go.Pi.Coa CM

theorem never_step {s:Sheet}{j:Nat}{d:Int}{c:Int×Int}{t:Int}{plan:List Int}{n:Nat}(hn:plan.length=n)(h1:plan[j]?=some d)(h2:s.coats[j]?=some c)(h3:til s (plan.drop (j+1))=t) :
  never s (s.coats.drop j) (plan.drop j)=if seg (highs s) d t < c.1∨(j+1 < n∧c.2 < seg (lows s) d t) then true else never s (s.coats.drop (j+1)) (plan.drop (j+1)):=by
 rw [drop_cons h1,drop_cons h2,never,h3]
 simp only [drop_ne,hn]
end Go.Pi.L.Coa
set_option maxRecDepth 100000
namespace Go.Pi.L.Coa
open Go Go.Pi Go.Pi.L Go.Pi.Coa CM

theorem c30 {H:Heap}{r:ShR}{s:Sheet}(hs:ShOk H r s)(hd:Small r){pa:Option Addr}{pl pk:Nat}{plan:List Int}(hq:Ints H pa pl plan)(hpl:pl < 1000000) :
  ∀H',Grow H H'→R (.func 30) [.agg #[.slice r.da r.dl r.dk,.slice r.wa r.wl r.wk,.slice r.ca r.cl r.ck],.slice pa pl pk] H' =
   some ⟨.ok (if isSheet s=true∧isPlan s plan=true then .tuple #[.int .i64 (word s plan),.int .i64 0] else .tuple #[.int .i64 0,.int .i64 2]),H',H'.length⟩:=by
 intro H' hg
 refine run_k (pr 30) P30 (by simp [p30]) rfl ?_
 have k1:=c75 hs hd H' hg
 have k2:=c76 (kk:=pk) hs hd hq hpl H' hg
 cases e1:isSheet s with
 | false =>
  rw [if_neg (by simp)]
  simp (maxDischargeDepth:=8) only [↓SD,SU,SV,SW,simprocAttr,Int.cast_ofNat_Int,small,resV, B30,R30,N30,b30, hs.d.isLoc,hs.w.isLoc,hs.c.isLoc,hq.isLoc,k1,e1]
 | true =>
 cases e2:isPlan s plan with
 | false =>
  rw [if_neg (by simp)]
  simp (maxDischargeDepth:=8) only [↓SD,SU,SV,SW,simprocAttr,Int.cast_ofNat_Int,small,resV, B30,R30,N30,b30, hs.d.isLoc,hs.w.isLoc,hs.c.isLoc,hq.isLoc,k1,e1,k2,e2]
 | true =>
 rw [if_pos ⟨rfl,rfl⟩]
 have hS:=fine_of e1
 have hP:=plan_of hS e2
 have hpl':pl=s.coats.length:=by rw [←hq.len]; exact hP.len
 have hpl2:pl < 1000:=by have:=hS.c2; omega
 have hdl:r.dl=s.dry.length:=hs.d.len.symm
 obtain ⟨o,ho,la,lc,ha,hc,H1,lo,rfl,hu,hlo,i1,i2⟩:=c78 hs hd hS H' hg
 have hg1:=hg.trans hu.grow
 have i1':=i1
 have i2':=i2
 rw [hdl] at i1' i2'
 have hsp:SpOk H1 r ⟨la,_,lc,ha,_,hc⟩ s:=⟨hs.grow hg1,i1',i2'⟩
 have k3:=c85 (pk:=pk) hsp hS (Sl.grow hq hg1) hP H1 (Grow.refl _)
 have k4:=fun d t hdt ht=>c86 hsp hS (d:=d) (t:=t) hdt ht H1 (Grow.refl _)
 obtain ⟨da,dl,dk,wa,wl,wk,ca,cl,ck⟩:=r
 have hD:Spans H da dl s.dry:=hs.d
 have hW:Ints H wa wl s.work:=hs.w
 have hC:Spans H ca cl s.coats:=hs.c
 have nD:dl < 1000000:=hd.d
 have nW:wl < 1000000:=hd.w
 have nC:cl < 1000000:=hd.c
 have l1:=hD.isLoc dk
 have l2:=hW.isLoc wk
 have l3:=hC.isLoc ck
 simp only at k1 k2 k3 k4 ho i1 i2 hdl
 rw [←hdl] at k3 k4
 have l4:=hq.isLoc pk
 have l6:=i1.isLoc lc
 have l7:=i2.isLoc hc
 have n1:=hu.len
 have n2:H'.length≤lo:=hlo
 unfold word surely
 cases hf:fails s 0 s.coats plan with
 | none =>
  simp only [fails2,hf,Option.map_none,attOf] at k3
  simp only [Option.isNone_none,↓reduceIte]
  simp (maxDischargeDepth:=8) only [↓SD,SU,SV,SW,simprocAttr,Int.cast_ofNat_Int,small,resV, B30,R30,N30,b30, l1,l2,l3,l4,l6,l7,k1,e1,k2,e2,ho,k3,n1,n2]
 | some x =>
 obtain ⟨i,w⟩:=x
 simp only [fails2,hf,Option.map_some,attOf] at k3
 rw [if_neg (by simp)]
 simp (maxDischargeDepth:=8) only [↓SD,SU,SV,SW,simprocAttr,Int.cast_ofNat_Int,small,resV, B30,R30,N30,b30, l1,l2,l3,l4,l6,l7,k1,e1,k2,e2,ho,k3]
 refine loop_ind (G:=(·=_)) (fun j σ=>∃T S lim,σ=⟨T,S,[],H1,lim,75,false⟩∧get T 1=.slice pa pl pk∧get T 2=.pointer (some ⟨2,0,some 1⟩)∧get T 6=.pointer (some ⟨6,0,some 1⟩)∧get T 33=.slice pa pl pk∧get T 34=.int .i64 pl∧get T 35=.int .i64 (j:Nat)∧sget S 2=(1,.cells [.slice da dl dk,.slice wa wl wk,.slice ca cl ck])∧sget S 6=(1,.cells [.slice da dl dk,.slice wa wl wk,.slice ca cl ck,.slice la (dl+1) lc,.slice ha (dl+1) hc])∧(never s (s.coats.drop j) (plan.drop j)=never s s.coats plan∧H'.length≤lim)) (pl) ?_ ?_ 0 _ (Nat.zero_le _) ⟨_,_,_,rfl,rfl,rfl,rfl,rfl,rfl,rfl,rfl,rfl,⟨by simp,by omega⟩⟩
 ·rintro c' j s hj ⟨T,S,lim,rfl,t1,t2,t6,t33,t34,t35,s0,s1,hp⟩ ih
  obtain ⟨hp,hlim⟩:=hp
  obtain ⟨b,off,x,rfl,hx',f0⟩:=hq.i1 hj
  have hw1:=wrap_succ j (by omega)
  have hcj:j < s.coats.length:=by omega
  have hcj2:j < cl:=by rw [←hC.len]; exact hcj
  obtain ⟨b2,off2,c,rfl,hc',_,f1,f2⟩:=hC.s2 hcj2
  obtain ⟨d,t,rfl,hti,hdt,htd⟩:=hP.span hx'
  have ht2:(plan[j+1]?).getD (dl:Int)=(t:Int):=by rw [hdl,←til_drop]; exact hti
  have q1:=c79 (H:=H) (pk:=pk) (dk:=dk) (d1:=undef) (w1:=.slice wa wl wk) (c1:=.slice (some ⟨b2,off2,none⟩) cl ck) (h1:=.slice la (dl+1) lc) (h2:=.slice ha (dl+1) hc) hq hpl2 l1 l2 rfl l3 rfl l6 rfl l7 rfl hx' ht2 H1 hg1
  have q2:=k4 d t (by omega) (by omega)
  rw [never_step hq.len hx' hc' hti] at hp
  by_cases z1:seg (highs s) d t < c.1
  ·rw [if_pos (.inl z1)] at hp
   simp (maxDischargeDepth:=8) only [↓SD,SU,SV,SW,simprocAttr,Int.cast_ofNat_Int,small,resV, q30x0,t1,t2,t6,t33,t34,t35,s0,s1, s0,s1,lt_nat,hj,hcj2,l1,l2,l3,l4,l6,l7,hg1,f0,f1,f2,q1,q2,z1,R30,N30,←hp,hlim,n1]
  ·by_cases z0:j+1 < pl
   ·by_cases z2:c.2 < seg (lows s) d t
    ·rw [if_pos (.inr ⟨z0,z2⟩)] at hp
     simp (maxDischargeDepth:=8) only [↓SD,SU,SV,SW,simprocAttr,Int.cast_ofNat_Int,small,resV, q30x0,t1,t2,t6,t33,t34,t35,s0,s1, s0,s1,lt_nat,hj,hcj2,l1,l2,l3,l4,l6,l7,hg1,f0,f1,f2,q1,q2,z1,z2,z0,R30,N30,←hp,hlim,n1]
    ·rw [if_neg (fun h=>h.elim z1 (fun h=>z2 h.2))] at hp
     simp (maxDischargeDepth:=8) only [↓SD,SU,SV,SW,simprocAttr,Int.cast_ofNat_Int,small,resV, q30x0,t1,t2,t6,t33,t34,t35,s0,s1, s0,s1,lt_nat,hj,hcj2,l1,l2,l3,l4,l6,l7,hg1,f0,f1,f2,q1,q2,z1,z2,z0,hw1]
     exact ih _ ⟨_,_,_,rfl,(by simp [get_set,t1] <;> omega),(by simp [get_set,t2] <;> omega),(by simp [get_set,t6] <;> omega),(by simp [get_set,t33] <;> omega),(by simp [get_set,t34] <;> omega),(by simp [get_set,t35] <;> omega),by simp [sget_sset,s0],by simp [sget_sset,s1],⟨hp,by omega⟩⟩
   ·rw [if_neg (fun h=>h.elim z1 (fun h=>z0 h.1))] at hp
    simp (maxDischargeDepth:=8) only [↓SD,SU,SV,SW,simprocAttr,Int.cast_ofNat_Int,small,resV, q30x0,t1,t2,t6,t33,t34,t35,s0,s1, s0,s1,lt_nat,hj,hcj2,l1,l2,l3,l4,l6,l7,hg1,f0,f1,f2,q1,q2,z1,z0,hw1]
    exact ih _ ⟨_,_,_,rfl,(by simp [get_set,t1] <;> omega),(by simp [get_set,t2] <;> omega),(by simp [get_set,t6] <;> omega),(by simp [get_set,t33] <;> omega),(by simp [get_set,t34] <;> omega),(by simp [get_set,t35] <;> omega),by simp [sget_sset,s0],by simp [sget_sset,s1],⟨hp,by omega⟩⟩
 ·rintro c' s ⟨T,S,lim,rfl,t1,t2,t6,t33,t34,t35,s0,s1,hp⟩
  obtain ⟨hp,hlim⟩:=hp
  rw [drop_all hq.len,hpl',List.drop_eq_nil_of_le (Nat.le_refl _)] at hp
  replace hp:false=never s s.coats plan:=hp
  simp (maxDischargeDepth:=8) only [↓SD,SU,SV,SW,simprocAttr,Int.cast_ofNat_Int,small,resV, q30x0,t1,t2,t6,t33,t34,t35,s0,s1, s0,s1,lt_nat,Nat.lt_irrefl,l1,l2,l3,l4,R30,N30,←hp,hlim,n1]
end Go.Pi.L.Coa
