/- Benches: strokes that are copied, and one of them changed. -/
import Derived.Test.YtfndfpbdgjoilaaGreatDoorDF
import Derived.Test.YtfndfpbdgjoilaaGreatDoorDK
import Derived.Test.YtfndfpbdgjoilaaGreatDoorDH
set_option linter.all false
set_option maxRecDepth 100000
namespace Go.Pi.L
open Go Go.Pi
theorem splice_in {l r:List Value}{o:Nat}{vs:List Value}(h:o+vs.length≤l.length):splice (l++r) o vs=splice l o vs++r:=by
 unfold splice
 rw [List.take_append_of_le_length (by omega),List.drop_append_of_le_length h]
 simp
theorem splice_out {l r:List Value}{o:Nat}{vs:List Value}:splice (l++r) (l.length+o) vs=l++splice r o vs:=by
 unfold splice
 rw [List.take_length_add_append,Nat.add_assoc,List.drop_length_add_append]
 simp
theorem splice_part {β:Type}{enc:β→List Value}{k:Nat}(hk:∀x,(enc x).length=k){o:Nat}{vs:List Value}(ho:o+vs.length≤k):∀{xs:List β} {i:Nat} {x x':β},xs[i]?=some x→enc x'=splice (enc x) o vs→splice (cells enc xs) (i*k+o) vs=cells enc (xs.set i x')
 | [],i,x,x',h,_=>by simp at h
 | y :: xs,0,x,x',h,he=>by
  simp only [List.getElem?_cons_zero,Option.some.injEq] at h
  subst h
  have e:cells enc (y :: xs)=enc y++cells enc xs:=by simp [cells]
  have e2:cells enc (x' :: xs)=enc x'++cells enc xs:=by simp [cells]
  rw [List.set_cons_zero,e,e2,Nat.zero_mul,Nat.zero_add,splice_in (by rw [hk]; exact ho),he]
 | y :: xs,i+1,x,x',h,he=>by
  simp only [List.getElem?_cons_succ] at h
  have ih:=splice_part hk ho h he
  have e:cells enc (y :: xs)=enc y++cells enc xs:=by simp [cells]
  have e2:cells enc (y :: xs.set i x')=enc y++cells enc (xs.set i x'):=by simp [cells]
  have e3:(i+1)*k+o=(enc y).length+(i*k+o):=by rw [hk,Nat.add_mul,Nat.one_mul]; omega
  rw [List.set_cons_succ,e,e2,e3,splice_out,ih]
section
variable {α:Type} {call:CallT} {F:Ex→St→Option α} {k:List It}
theorem st_new {H H1:Heap}{n off:Nat}{c:List Value}{v:Value}{d:Option Tmp}{T S D lo nn rnd}(hF:Fam H)(hH:H++[(⟨.cells c,true,true,some H.length⟩:Blk)]=H1)(hl:isLoc v=false)(h1:v.cells.toList.all one=true)(hn:v.cells.size=n)(ho:off+n≤c.length) :
  stH call F (H1[H.length]?) n H.length off v d k ⟨T,S,D,H1,lo,nn,rnd⟩=nxt call F (some undef) d k ⟨T,S,D,H++[⟨.cells (splice c off v.cells.toList),true,true,some H.length⟩],min lo H.length,nn,rnd⟩:=by
 subst hH
 rw [stH_fam (f:=H.length) (c:=c) (by simp) hl h1 hn ho,Nat.min_self]
 have e:kill H.length (H++[(⟨.cells c,true,true,some H.length⟩:Blk)])=H++[⟨.cells c,true,true,some H.length⟩]:=by
  refine List.ext_getElem? fun i=>?_
  rw [kill_get]
  by_cases hi:i < H.length
  ·rw [List.getElem?_append_left hi]
   cases hx:H[i]? with
   | none=>rfl
   | some x =>
    have:¬(x.fam=some H.length∧x.tip=false):=fun hc=>by have:=hF i x _ hx hc.1; omega
    simp only [Option.map_some,if_neg this]
  ·cases hx:(H++[(⟨.cells c,true,true,some H.length⟩:Blk)])[i]? with
   | none=>rfl
   | some x =>
    have h2:=(List.getElem?_eq_some_iff.1 hx).1
    simp at h2
    obtain rfl:i=H.length:=by omega
    simp at hx
    subst hx
    simp
 rw [e]
 simp
end
end Go.Pi.L
namespace Go.Pi.L.Ben
open Go Go.Pi Go.Pi.L Go.Pi.E Go.Pi.Ben BM

theorem of_cells0 {β:Type}{enc:β→List Value}{H:Heap}{k b:Nat}{xs:List β}(hk:∀x,(enc x).length=k)(h:hcells H b=some (cells enc xs)):Sl H k enc (some ⟨b,0,none⟩) xs.length xs :=
 ⟨rfl,.inr ⟨_,_,rfl⟩,fun j x hx=>⟨b,0,cells enc xs,rfl,h,by rw [Nat.zero_add]; exact cells_get hk hx⟩⟩
def copR (r:BeR)(n:Nat)(xs:List Sk):BeR:=⟨r.app,r.ba,r.bl,r.bk,some ⟨n,0,none⟩,r.sl,5,xs⟩
def copB (b:Bench)(xs:List Sk):Bench:=⟨b.app,b.boards,xs.map (·.s)⟩
def copH (H:Heap)(xs:List Sk):Heap:=H++[⟨.cells (cells eK xs),true,true,some H.length⟩]
theorem cop_ok {H H':Heap}{r:BeR}{b:Bench}(hb:BeOk H r b){xs:List Sk}(hl:xs.length=r.sl)(hx:∀k∈xs,Ints H' k.a k.l k.s.needs)(g:Grow H H'):BeOk (copH H' xs) (copR r H'.length xs) (copB b xs):=by
 have u:Up H' (copH H' xs):=(Up.refl _).app
 refine ⟨hb.app,hb.br.grow (g.trans u.grow),?_,fun k hk=>(hx k hk).grow u.grow,rfl⟩
 show Sl (copH H' xs) 5 eK (some ⟨H'.length,0,none⟩) r.sl xs
 rw [←hl]
 exact of_cells0 eK_len (by simp [hcells,copH])
theorem two_of {cc:Option (List Value)}{o:Nat}{x y:Value}(h1:rdO cc o none=some x)(h2:rdO cc (o+1) none=some y):rdO cc o (some 2)=some (.agg #[x,y]):=by
 cases cc with
 | none=>cases h1
 | some c =>
  rw [rdO_some,rd_one] at h1 h2
  have hl:=(List.getElem?_eq_some_iff.1 h2).1
  rw [rdO_some,rd_n _ _ _ (by omega)]
  have e:(c.drop o).take 2=[x,y]:=by
   refine List.ext_getElem? fun i=>?_
   match i with
   | 0=>rw [List.getElem?_take_of_lt (by decide),List.getElem?_drop]; exact h1
   | 1=>rw [List.getElem?_take_of_lt (by decide),List.getElem?_drop]; exact h2
   | i+2=>rw [List.getElem?_take_eq_none (by omega)]; simp
  rw [e]
def moreS (x:Sk)(by_:Int):Sk:=⟨⟨x.s.board,x.s.round,x.s.lo,x.s.hi+by_,x.s.needs⟩,x.a,x.l,x.m⟩
set_option maxHeartbeats 1000000 in
theorem c48 {H:Heap}{r:BeR}{b:Bench}(hb:BeOk H r b){st:Nat}{x:Sk}(hx:r.xs[st]?=some x){by_:Int}(h0:-1000≤x.s.hi∧x.s.hi≤1000)(h1:0≤by_)(h6:by_≤6)(hs:r.sl < 100) :
  ∀H',Grow H H'→Fam H'→R (.func 48) [.agg #[.int .i64 r.app,.slice r.ba r.bl r.bk,.slice r.sa r.sl r.sk],.int .i64 (st:Nat),.int .i64 by_] H'=some ⟨.ok (.agg #[.int .i64 r.app,.slice r.ba r.bl r.bk,.slice (some ⟨H'.length,0,none⟩) r.sl 5]),copH H' (r.xs.set st (moreS x by_)),H'.length⟩:=by
 intro H' hg hF
 have hst:st < r.sl:=by rw [←hb.st.len]; exact (List.getElem?_eq_some_iff.1 hx).1
 have l1:=hb.br.isLoc r.bk
 have l2:=hb.st.isLoc r.sk
 obtain ⟨sb,so,xk,hsa,hxk,fk⟩:=hb.st.k5 (j:=st) hst
 obtain rfl:xk=x:=by rw [hx] at hxk; cases hxk; rfl
 have fk2:rdO (hcells (copH H' r.xs) sb) (so+st*5+2) (some 2)=some (.agg #[.int .i64 xk.s.lo,.int .i64 xk.s.hi]):=two_of (fk.v2 _ (hg.trans (Up.refl _).app.grow)) (fk.v3 _ (hg.trans (Up.refl _).app.grow))
 have ias:vv (.ia 5) [.slice r.sa r.sl r.sk,.int .i64 (st:Nat)]=some (.pointer (some ⟨sb,so+st*5,none⟩)):=by rw [hsa]; exact vv_iaN 5 sb so st _ _ _ hst
 have ian:vv (.ia 5) [.slice (some ⟨H'.length,0,none⟩) r.sl 5,.int .i64 (st:Nat)]=some (.pointer (some ⟨H'.length,0+st*5,none⟩)):=vv_iaN 5 _ 0 st _ _ _ hst
 have hcl:(cells eK r.xs).length=r.sl*5:=by rw [cells_len eK_len,hb.st.len]
 have qe:=fun T S D lo n rnd=>(hb.st.grow hg).elems eK_len (by decide) r.sk T S D lo n rnd
 have qa:∀{α:Type} (call:CallT) (F:Ex→St→Option α) d kk T S D lo n rnd,ap1 call F (some (cells eK r.xs)) (.slice none 0 0) 5 d kk ⟨T,S,D,H',lo,n,rnd⟩=nxt call F (some (.slice (some ⟨H'.length,0,none⟩) r.sl 5)) d kk ⟨T,S,D,copH H' r.xs,lo,n,rnd⟩:=fun call F d kk T S D lo n rnd=>by
  rw [apA_nil _ _ _ _ _ _ _ _ _ _ (by rw [hcl]; exact Nat.mul_mod_left _ _) (by omega) (by cases hxs:cells eK r.xs with | nil=>rw [hxs] at hcl; simp at hcl; omega | cons=>rfl),hcl,Nat.mul_div_cancel _ (by decide)]
  rfl
 have hsp:splice (cells eK r.xs) (st*5+2) [.int .i64 xk.s.lo,.int .i64 (xk.s.hi+by_)]=cells eK (r.xs.set st (moreS xk by_)):=splice_part eK_len (by simp) hx (by simp [eK,moreS,splice])
 have hw:IntKind.wrap .i64 (xk.s.hi+by_)=xk.s.hi+by_:=wrap_id _ (by omega) (by omega)
 have qs:∀{α:Type} (F:Ex→St→Option α) d kk T S D lo n rnd,stH (runL PP primsL) F ((copH H' r.xs)[H'.length]?) 2 H'.length (st*5+2) (.agg #[.int .i64 xk.s.lo,.int .i64 (xk.s.hi+by_)]) d kk ⟨T,S,D,copH H' r.xs,lo,n,rnd⟩=nxt (runL PP primsL) F (some undef) d kk ⟨T,S,D,copH H' (r.xs.set st (moreS xk by_)),min lo H'.length,n,rnd⟩:=fun F d kk T S D lo n rnd=>by
  have:=st_new (call:=runL PP primsL) (F:=F) (k:=kk) (H:=H') (H1:=copH H' r.xs) (n:=2) (off:=st*5+2) (c:=cells eK r.xs) (v:=.agg #[.int .i64 xk.s.lo,.int .i64 (xk.s.hi+by_)]) (d:=d) (T:=T) (S:=S) (D:=D) (lo:=lo) (nn:=n) (rnd:=rnd) hF rfl rfl (by rfl) rfl (by omega)
  rw [this]
  rw [show (Value.agg #[.int .i64 xk.s.lo,.int .i64 (xk.s.hi+by_)]).cells.toList=[.int .i64 xk.s.lo,.int .i64 (xk.s.hi+by_)] from rfl,hsp]
  rfl
 refine run_k (pr 48) P48 (by simp [p48]) rfl ?_
 simp (maxDischargeDepth:=8) only [↓SD,SU,SV,SW,simprocAttr,Int.cast_ofNat_Int,small,resV, B48,R48,N48,b48, l1,l2,qe,qa,ias,fk2,hw,c29,ian,qs,k_fixb,R48,N48]
 rw [gc_keep (by simp [flat])]
 have hcl2:(copH H' r.xs).length=H'.length+1:=by simp [copH]
 rw [show min (min H'.length (copH H' r.xs).length) (min (copH H' r.xs).length H'.length)=H'.length by omega]
end Go.Pi.L.Ben
set_option maxRecDepth 100000
namespace Go.Pi.L.Ben
open Go Go.Pi Go.Pi.L Go.Pi.E Go.Pi.Ben BM

theorem handsOk_congr {app:Int}:∀{ss ss':List Stroke} {p:List Int},ss.map (·.round)=ss'.map (·.round)→handsOk app ss p=handsOk app ss' p
 | [],[],_,_=>rfl
 | [],_ :: _,_,h=>by simp at h
 | _ :: _,[],_,h=>by simp at h
 | s :: ss,s' :: ss',[],_=>rfl
 | s :: ss,s' :: ss',x :: p,h=>by
  simp only [List.map_cons,List.cons.injEq] at h
  simp only [handsOk,h.1,handsOk_congr (app:=app) (p:=p) h.2]
theorem follows_congr {b b':Bench}(h:∀n:Nat,(b'.strokes[n]?).map Stroke.needs=(b.strokes[n]?).map Stroke.needs)(p:List Int):follows b' p=follows b p:=by
 funext k n
 unfold follows
 have:=h n
 cases h1:b'.strokes[n]? with
 | none =>
  cases h2:b.strokes[n]? with
  | none=>rfl
  | some s=>rw [h1,h2] at this; cases this
 | some s' =>
  cases h2:b.strokes[n]? with
  | none=>rw [h1,h2] at this; cases this
  | some s =>
   rw [h1,h2] at this
   simp only [Option.map_some,Option.some.injEq] at this
   simp only [this]
theorem lon_strokes {xs:List Sk}{st:Nat}{x:Sk}(hx:xs[st]?=some x)(by_:Int)(n:Nat):((xs.set st (moreS x by_)).map (·.s))[n]?=(xs[n]?).map fun k=>if n=st then (moreS x by_).s else k.s:=by
 rw [List.getElem?_map]
 by_cases e:n=st
 ·subst e
  rw [List.getElem?_set_self (List.getElem?_eq_some_iff.1 hx).1,hx]; simp
 ·rw [List.getElem?_set_ne (fun h=>e h.symm)]; simp [e]
section
variable {H:Heap} {r:BeR} {b:Bench} {st:Nat} {x:Sk} {by_:Int}
theorem lon_needs (he:b.strokes=r.xs.map (·.s))(hx:r.xs[st]?=some x):∀n:Nat,((copB b (r.xs.set st (moreS x by_))).strokes[n]?).map Stroke.needs=(b.strokes[n]?).map Stroke.needs:=fun n=>by
 show (((r.xs.set st (moreS x by_)).map (·.s))[n]?).map Stroke.needs=_
 rw [lon_strokes hx,he,List.getElem?_map,Option.map_map,Option.map_map]
 by_cases e:n=st
 ·subst e; rw [hx]; simp [moreS]
 ·simp [e,Function.comp_def]
theorem lon_rounds (he:b.strokes=r.xs.map (·.s))(hx:r.xs[st]?=some x):(copB b (r.xs.set st (moreS x by_))).strokes.map (·.round)=b.strokes.map (·.round):=by
 refine List.ext_getElem? fun n=>?_
 rw [List.getElem?_map,List.getElem?_map]
 show (((r.xs.set st (moreS x by_)).map (·.s))[n]?).map (·.round)=_
 rw [lon_strokes hx,he,List.getElem?_map,Option.map_map,Option.map_map]
 by_cases e:n=st
 ·subst e; rw [hx]; simp [moreS]
 ·simp [e,Function.comp_def]
theorem lon_high (he:b.strokes=r.xs.map (·.s))(hx:r.xs[st]?=some x):high (copB b (r.xs.set st (moreS x by_)))=durW b (st:Int) by_ true:=by
 funext n
 unfold durW high
 rw [cond_true]
 show (match ((r.xs.set st (moreS x by_)).map (·.s))[n]? with | some s=>s.hi | none=>1)=_
 rw [lon_strokes hx,he,List.getElem?_map]
 by_cases e:n=st
 ·subst e; rw [hx]; simp [moreS]
 ·have:¬((n:Int)=(st:Int)):=by omega
  rw [if_neg this]
  cases r.xs[n]? <;> simp [e]
theorem lon_plan (he:b.strokes=r.xs.map (·.s))(hx:r.xs[st]?=some x)(p:List Int):isPlan (copB b (r.xs.set st (moreS x by_))) p=isPlan b p:=by
 unfold isPlan
 have h1:(copB b (r.xs.set st (moreS x by_))).strokes.length=b.strokes.length:=by rw [he]; simp [copB]
 rw [h1,show (copB b (r.xs.set st (moreS x by_))).app=b.app from rfl,handsOk_congr (lon_rounds he hx)]
end
theorem tkBy_lon {r:BeR}{b:Bench}{st k:Nat}{x:Sk}(he:b.strokes=r.xs.map (·.s))(hx:r.xs[st]?=some x)(p:List Int):takesN (copB b (r.xs.set st (moreS x (k:Int)))) (en (copB b (r.xs.set st (moreS x (k:Int)))) p true)=tkBy b p st k:=by
 have h1:(copB b (r.xs.set st (moreS x (k:Int)))).strokes.length=b.strokes.length:=by rw [he]; simp [copB]
 unfold takesN tkBy takesN
 rw [h1]
 congr 1
 refine List.map_congr_left fun n _=>?_
 show eN (follows _ p) (durW _ (-1) 0 true) n=eN (follows b p) (durW b (st:Int) (k:Int) true) n
 rw [durW_no,lon_high he hx,follows_congr (lon_needs he hx)]
theorem spare_spec {b:Bench}(hf:Fine b)(p:List Int)(st:Nat):Spare (tkBy b p st) (takesN b (en b p true)) (spareP (tkBy b p st) (takesN b (en b p true)) 10):=by
 refine spareP_spec ?_ fun j k h=>?_
 ·unfold tkBy takesN
  congr 1
  refine List.map_congr_left fun n _=>?_
  show eN _ (durW b (st:Int) ((0:Nat):Int) true) n=eN _ (durW b (-1) 0 true) n
  have:durW b (st:Int) ((0:Nat):Int) true=durW b (-1) 0 true:=by
   funext n; unfold durW; simp only [cond_true]; split <;> split <;> omega
  rw [this]
 ·refine lastH_mono (fun n=>eN_mono (fun _ _ _ h=>h) (fun n=>?_) n) _
  unfold durW
  simp only [cond_true]
  split <;> omega
theorem tk_pos {b:Bench}(hf:Fine b)(p:List Int):1≤takesN b (en b p true):=by
 obtain ⟨_,h2,_⟩:=lastH_spec ((List.range b.strokes.length).map (en b p true))
 have h3:=h2 (en b p true 0) (List.mem_map.2 ⟨0,List.mem_range.2 hf.n1,rfl⟩)
 have h4:=bN_nonneg (follows b p) (durW b (-1) 0 true) 0
 have h5:=(durW_b hf (lg:=-1) (by decide:(0:Int)≤0) (by decide) true 0).1
 have h6:en b p true 0=bN (follows b p) (durW b (-1) 0 true) 0+durW b (-1) 0 true 0:=rfl
 unfold takesN
 omega
end Go.Pi.L.Ben
set_option maxRecDepth 100000
namespace Go.Pi.L.Ben
open Go Go.Pi Go.Pi.L Go.Pi.E Go.Pi.Ben BM

theorem vv_bbf (x y:Bool):vv (.bb false) [.bool x,.bool y]=some (.bool (x == y)):=by cases x <;> cases y <;> rfl
set_option maxHeartbeats 1000000 in
theorem c8 {H:Heap}{r:BeR}{b:Bench}{a:Option Addr}{l kk:Nat}{p:List Int}{stI by_:Int}(hb:BeOk H r b)(hx:Ints H a l p)(hF:Fam H) :
  R (.func 8) [.agg #[.int .i64 r.app,.slice r.ba r.bl r.bk,.slice r.sa r.sl r.sk],.slice a l kk,.int .i64 stI,.int .i64 by_] H=some ⟨.ok (.bool true),H,H.length⟩:=by
 refine run_k (pr 8) P8 (by simp [p8]) rfl ?_
 have l1:=hb.br.isLoc r.bk
 have l2:=hb.st.isLoc r.sk
 have l3:=hx.isLoc kk
 have k21:=c21 hb H (Grow.refl _)
 have k22:=c22 (H:=H) a l kk l3
 cases q1:(shortB r.xs r&&isBench b) with
 | false=>rw [q1] at k21; simp (maxDischargeDepth:=8) only [↓SD,SU,SV,SW,simprocAttr,Int.cast_ofNat_Int,small,resV, B8,R8,N8,b8, l1,l2,l3,k21,c25,R8,N8]
 | true =>
 rw [q1] at k21
 obtain ⟨q1a,hB⟩:=Bool.and_eq_true_iff.1 q1
 have hd:=short_sm hb q1a
 by_cases q2:l≤9
 case neg=>simp (maxDischargeDepth:=8) only [↓SD,SU,SV,SW,simprocAttr,Int.cast_ofNat_Int,small,resV, B8,R8,N8,b8, l1,l2,l3,k21,k22,q2,c25,R8,N8]
 have hl:l < 1000000:=by omega
 have k23:=c23 (kk:=kk) hb hx hl H (Grow.refl _)
 cases hP:isPlan b p with
 | false=>rw [hP] at k23; simp (maxDischargeDepth:=8) only [↓SD,SU,SV,SW,simprocAttr,Int.cast_ofNat_Int,small,resV, B8,R8,N8,b8, l1,l2,l3,k21,k22,q2,k23,c25,R8,N8]
 | true =>
 rw [hP] at k23
 have k44:=c44 hb hd stI H (Grow.refl _)
 cases hS:isStroke b stI with
 | false=>rw [hS] at k44; simp (maxDischargeDepth:=8) only [↓SD,SU,SV,SW,simprocAttr,Int.cast_ofNat_Int,small,resV, B8,R8,N8,b8, l1,l2,l3,k21,k22,q2,k23,k44,c25,R8,N8]
 | true =>
 rw [hS] at k44
 by_cases q5:by_ < 0
 case pos=>simp (maxDischargeDepth:=8) only [↓SD,SU,SV,SW,simprocAttr,Int.cast_ofNat_Int,small,resV, B8,R8,N8,b8, l1,l2,l3,k21,k22,q2,k23,k44,q5,c25,R8,N8]
 by_cases q6:(6:Int) < by_
 case pos=>simp (maxDischargeDepth:=8) only [↓SD,SU,SV,SW,simprocAttr,Int.cast_ofNat_Int,small,resV, B8,R8,N8,b8, l1,l2,l3,k21,k22,q2,k23,k44,q5,q6,c25,R8,N8]
 have hf:=fine_of hB
 have hsl:=hb.len
 obtain ⟨st,rfl⟩:∃st:Nat,stI=st:=⟨stI.toNat,by unfold isStroke at hS; rw [inL_iff] at hS; omega⟩
 have hst:st < b.strokes.length:=by unfold isStroke at hS; rw [inL_iff] at hS; omega
 obtain ⟨k,rfl⟩:∃k:Nat,by_=k:=⟨by_.toNat,by omega⟩
 obtain ⟨x,hxx⟩:∃x,r.xs[st]?=some x:=⟨_,List.getElem?_eq_getElem (by have:=hb.st.len; omega)⟩
 have hhi:=hf.hours st _ (hb.at hxx)
 have n6:=hf.n6
 have k48:=c48 (by_:=(k:Int)) hb hxx (by omega) (by omega) (by omega) (by omega) H (Grow.refl _) hF
 have he:=hb.eq
 generalize hxs:r.xs.set st (moreS x (k:Int))=xs' at k48
 have hF1:Fam (copH H xs'):=famR k48 hF
 have hnd:∀k∈xs',Ints H k.a k.l k.s.needs:=fun y hy=>by
  rw [←hxs] at hy
  rcases List.mem_or_eq_of_mem_set hy with h | h
  ·exact hb.nd y h
  ·subst h; exact hb.nd x (List.mem_of_getElem? hxx)
 have hlx:xs'.length=r.sl:=by rw [←hxs,List.length_set]; exact hb.st.len
 have hb1:=cop_ok hb hlx hnd (Grow.refl _)
 have u1:Up H (copH H xs'):=(Up.refl _).app
 have hd1:∀n,SmB (copR r n xs'):=fun n=>⟨hd.b,hd.s,fun y hy=>by
  rw [show (copR r n xs').xs=xs' from rfl,←hxs] at hy
  rcases List.mem_or_eq_of_mem_set hy with h | h
  ·exact hd.n y h
  ·subst h; exact hd.n x (List.mem_of_getElem? hxx)⟩
 have k34:=c34 hb1 (hd1 _) (copH H xs') (Grow.refl _)
 have l4:∀n,isLoc (.slice (some ⟨n,0,none⟩) r.sl 5)=false:=fun n=>rfl
 have h1:=u1.len
 unfold copR at k34
 cases hB':isBench (copB b xs') with
 | false =>
  rw [hB'] at k34
  simp (maxDischargeDepth:=8) only [↓SD,SU,SV,SW,simprocAttr,Int.cast_ofNat_Int,small,resV, B8,R8,N8,b8, l1,l2,l3,l4,k21,k22,q2,k23,k44,q5,q6,k48,k34,c25,R8,N8]
  first | (rw [gc_ite (by omega)]; simp [flat]; done) | (simp [gcR,flat]; omega)
 | true =>
 rw [hB'] at k34
 have k42:=c42 (kk:=kk) hb hd hx hl hB hP hst (copH H xs') u1.grow
 have k49:=c49 (kk:=kk) hb hd hx hl hB hP (copH H xs') u1.grow
 have k48b:=c48 (by_:=(k:Int)) hb hxx (by omega) (by omega) (by omega) (by omega) (copH H xs') u1.grow hF1
 rw [hxs] at k48b
 have u2:Up (copH H xs') (copH (copH H xs') xs'):=(Up.refl _).app
 have h2:=u2.len
 have hb2:=cop_ok hb hlx (fun y hy=>(hnd y hy).grow u1.grow) u1.grow
 have hP':isPlan (copB b xs') p=true:=by rw [←hxs,lon_plan he hxx]; exact hP
 have k49b:=c49 (kk:=kk) hb2 (hd1 _) (hx.grow (u1.grow.trans u2.grow)) hl hB' hP' (copH (copH H xs') xs') (Grow.refl _)
 unfold copR at k49b
 have htk:takesN (copB b xs') (en (copB b xs') p true)=tkBy b p st k:=by rw [←hxs]; exact tkBy_lon he hxx p
 rw [htk] at k49b
 have hsp:=spare_spec hf p st
 have hpos:=tk_pos hf p
 have hmono:takesN b (en b p true)≤tkBy b p st k:=by
  refine lastH_mono (fun n=>eN_mono (fun _ _ _ h=>h) (fun n=>?_) n) _
  unfold durW
  simp only [cond_true]
  split <;> split <;> omega
 have hs9:=hsp.le
 have hiff:=hsp.iff k (by omega)
 generalize hSP:spareP (tkBy b p st) (takesN b (en b p true)) 10=SP at k42 hs9 hiff
 generalize hTk:takesN b (en b p true)=tk0 at k49 hpos hmono hiff
 generalize hTb:tkBy b p st k=tk1 at k49b hmono hiff
 have z1:(((SP:Nat):Int) < 0)=False:=by simp
 have z2:((9:Int) < ((SP:Nat):Int))=False:=by simp; omega
 have z3:(tk0 < 1)=False:=by simp; omega
 have z4:(tk1 < tk0)=False:=by simp; omega
 have z5:(tk1=tk0)=(k≤SP):=propext hiff
 simp (maxDischargeDepth:=8) only [↓SD,SU,SV,SW,simprocAttr,Int.cast_ofNat_Int,small,resV, B8,R8,N8,b8, l1,l2,l3,l4,k21,k22,q2,k23,k44,q5,q6,k48,k34,k42,k49,k48b,k49b,z1,z2,z3,z4,z5,le_nat,vv_bbf,c25,R8,N8]
 first | (rw [gc_ite (by omega)]; simp [flat]; done) | (simp [gcR,flat]; omega)
end Go.Pi.L.Ben
