/- Benches: hours that are changed; hours to spare, as the document has them. -/
import Derived.Test.YtfndfpbdgjoilaaGreatDoorDL
set_option linter.all false
set_option maxRecDepth 100000
namespace Go.Pi.L.Ben
open Go Go.Pi Go.Pi.L Go.Pi.E Go.Pi.Ben BM

end Go.Pi.L.Ben
set_option maxRecDepth 100000
namespace Go.Pi.L.Ben
open Go Go.Pi Go.Pi.L Go.Pi.E Go.Pi.Ben BM

def exS (x:Sk)(h:Int):Sk:=⟨⟨x.s.board,x.s.round,h,h,x.s.needs⟩,x.a,x.l,x.m⟩
def exJ (xs:List Sk)(hs:List Int)(j:Nat):List Sk:=xs.mapIdx fun n x=>if n < j then exS x (hs.getD n 0) else x
theorem exJ_get (xs:List Sk)(hs:List Int)(j n:Nat):(exJ xs hs j)[n]?=(xs[n]?).map fun x=>if n < j then exS x (hs.getD n 0) else x:=by
 unfold exJ; rw [List.getElem?_mapIdx]
theorem exJ_zero (xs:List Sk)(hs:List Int):exJ xs hs 0=xs:=by
 refine List.ext_getElem? fun n=>?_
 rw [exJ_get]; cases xs[n]? <;> simp
theorem exJ_len (xs:List Sk)(hs:List Int)(j:Nat):(exJ xs hs j).length=xs.length:=by simp [exJ]
theorem exJ_succ {xs:List Sk}{hs:List Int}{j:Nat}{x:Sk}{h:Int}(hx:xs[j]?=some x)(hh:hs[j]?=some h):(exJ xs hs j).set j (exS x h)=exJ xs hs (j+1):=by
 refine List.ext_getElem? fun n=>?_
 have hl:=(List.getElem?_eq_some_iff.1 hx).1
 by_cases e:n=j
 ·subst e
  rw [List.getElem?_set_self (by rw [exJ_len]; exact hl),exJ_get,hx,Option.map_some,if_pos (Nat.lt_succ_self _),getD_of hh]
 ·rw [List.getElem?_set_ne (fun q=>e q.symm),exJ_get,exJ_get]
  cases xs[n]? with
  | none=>rfl
  | some y =>
   simp only [Option.map_some,Option.some.injEq]
   by_cases q:n < j
   ·rw [if_pos q,if_pos (by omega)]
   ·rw [if_neg q,if_neg (by omega)]
theorem st_new' {α:Type}{call:CallT}{F:Ex→St→Option α}{k:List It}{H:Heap}{xs xs':List Sk}{j:Nat}{x y:Int}{d:Option Tmp}{T S D lo nn rnd}(hF:Fam H)(hj:j < xs.length)(hsp:splice (cells eK xs) (j*5+2) [.int .i64 x,.int .i64 y]=cells eK xs') :
  stH call F ((copH H xs)[H.length]?) 2 H.length (j*5+2) (.agg #[.int .i64 x,.int .i64 y]) d k ⟨T,S,D,copH H xs,lo,nn,rnd⟩=nxt call F (some undef) d k ⟨T,S,D,copH H xs',min lo H.length,nn,rnd⟩:=by
 have:=st_new (call:=call) (F:=F) (k:=k) (H:=H) (H1:=copH H xs) (n:=2) (off:=j*5+2) (c:=cells eK xs) (v:=.agg #[.int .i64 x,.int .i64 y]) (d:=d) (T:=T) (S:=S) (D:=D) (lo:=lo) (nn:=nn) (rnd:=rnd) hF rfl rfl (by rfl) rfl (by rw [cells_len eK_len]; omega)
 rw [this]
 rw [show (Value.agg #[.int .i64 x,.int .i64 y]).cells.toList=[.int .i64 x,.int .i64 y] from rfl,hsp]
 rfl
set_option maxHeartbeats 1000000 in
theorem c27 {H:Heap}{r:BeR}{b:Bench}{a:Option Addr}{l kk:Nat}{hs:List Int}(hb:BeOk H r b)(hx:Ints H a l hs)(hl:l=r.sl)(hs0:0 < r.sl)(hs1:r.sl < 100) :
  ∀H',Grow H H'→Fam H'→R (.func 27) [.agg #[.int .i64 r.app,.slice r.ba r.bl r.bk,.slice r.sa r.sl r.sk],.slice a l kk] H'=some ⟨.ok (.agg #[.int .i64 r.app,.slice r.ba r.bl r.bk,.slice (some ⟨H'.length,0,none⟩) r.sl 5]),copH H' (exJ r.xs hs l),H'.length⟩:=by
 intro H' hg hF
 subst hl
 have l1:=hb.br.isLoc r.bk
 have l2:=hb.st.isLoc r.sk
 have l3:=hx.isLoc kk
 have hxl:r.xs.length=r.sl:=hb.st.len
 have hcl:(cells eK r.xs).length=r.sl*5:=by rw [cells_len eK_len,hxl]
 have qe:=fun T S D lo n rnd=>(hb.st.grow hg).elems eK_len (by decide) r.sk T S D lo n rnd
 have qa:∀{α:Type} (call:CallT) (F:Ex→St→Option α) d kk T S D lo n rnd,ap1 call F (some (cells eK r.xs)) (.slice none 0 0) 5 d kk ⟨T,S,D,H',lo,n,rnd⟩=nxt call F (some (.slice (some ⟨H'.length,0,none⟩) r.sl 5)) d kk ⟨T,S,D,copH H' (exJ r.xs hs 0),lo,n,rnd⟩:=fun call F d kk T S D lo n rnd=>by
  rw [exJ_zero,apA_nil _ _ _ _ _ _ _ _ _ _ (by rw [hcl]; exact Nat.mul_mod_left _ _) (by omega) (by cases hxs:cells eK r.xs with | nil=>rw [hxs] at hcl; simp at hcl; omega | cons=>rfl),hcl,Nat.mul_div_cancel _ (by decide)]
  rfl
 have hcl2:∀xs,(copH H' xs).length=H'.length+1:=fun xs=>by simp [copH]
 refine run_k (pr 27) P27 (by simp [p27]) rfl ?_
 simp (maxDischargeDepth:=8) only [↓SD,SU,SV,SW,simprocAttr,Int.cast_ofNat_Int,small,resV, B27,R27,N27,b27, l1,l2,l3,qe,qa]
 refine loop_ind (G:=(·=_)) (fun j σ=>∃T S lim,σ=⟨T,S,[],(copH H' (exJ r.xs hs j)),lim,33,false⟩∧get T 1=.slice a r.sl kk∧get T 4=.pointer (some ⟨4,0,some 1⟩)∧get T 5=.pointer (some ⟨5,0,some 1⟩)∧get T 6=.int .i64 (j:Nat)∧sget S 4=(1,.cells [.int .i64 0,.slice none 0 0,.slice none 0 0])∧sget S 5=(1,.cells [.int .i64 r.app,.slice r.ba r.bl r.bk,.slice (some ⟨H'.length,0,none⟩) r.sl 5])∧(lim=H'.length)) (r.sl) ?_ ?_ 0 _ (Nat.zero_le _) ⟨_,_,_,rfl,rfl,rfl,rfl,rfl,rfl,rfl,rfl⟩
 ·rintro c' j s hj ⟨T,S,lim,rfl,t1,t4,t5,t6,s0,s1,hp⟩ ih
  obtain ⟨sb,so,xk,hsa,hxk,fk⟩:=hb.st.k5 (j:=j) hj
  obtain ⟨hb_,ho,h,hha,hhk,fh⟩:=hx.i1 (j:=j) hj
  have u:Up H' (copH H' (exJ r.xs hs j)):=(Up.refl _).app
  have fh1:=fh _ (hg.trans u.grow)
  have iah:vv (.ia 1) [.slice a r.sl kk,.int .i64 (j:Nat)]=some (.pointer (some ⟨hb_,ho+j*1,none⟩)):=by rw [hha]; exact vv_iaN 1 hb_ ho j _ _ _ hj
  have ian:vv (.ia 5) [.slice (some ⟨H'.length,0,none⟩) r.sl 5,.int .i64 (j:Nat)]=some (.pointer (some ⟨H'.length,0+j*5,none⟩)):=vv_iaN 5 _ 0 j _ _ _ hj
  have hex:(exJ r.xs hs j)[j]?=some xk:=by rw [exJ_get,hxk,Option.map_some,if_neg (Nat.lt_irrefl _)]
  have hsp:splice (cells eK (exJ r.xs hs j)) (j*5+2) [.int .i64 h,.int .i64 h]=cells eK (exJ r.xs hs (j+1)):=by
   rw [←exJ_succ hxk hhk]
   exact splice_part eK_len (by simp) hex (by simp [eK,exS,splice])
  have qs:=fun (F:Ex→St→Option Out) d kk T S D lo n rnd=>st_new' (call:=runL PP primsL) (F:=F) (k:=kk) (d:=d) (T:=T) (S:=S) (D:=D) (lo:=lo) (nn:=n) (rnd:=rnd) hF (by rw [exJ_len,hxl]; exact hj) hsp
  have hw:=wrap_succ j (by omega)
  simp (maxDischargeDepth:=8) only [↓SD,SU,SV,SW,simprocAttr,Int.cast_ofNat_Int,small,resV, q27x0,t1,t4,t5,t6,s0,s1, s0,s1,lt_nat,hj,l1,l2,l3,iah,fh1,c29,ian,qs,k_fixb,hw]
  exact ih _ ⟨_,_,_,rfl,(by simp [get_set,t1] <;> omega),(by simp [get_set,t4] <;> omega),(by simp [get_set,t5] <;> omega),(by simp [get_set,t6] <;> omega),by simp [sget_sset,s0],by simp [sget_sset,s1],by have:=hcl2 (exJ r.xs hs j); omega⟩
 ·rintro c' s ⟨T,S,lim,rfl,t1,t4,t5,t6,s0,s1,hp⟩
  simp (maxDischargeDepth:=8) only [↓SD,SU,SV,SW,simprocAttr,Int.cast_ofNat_Int,small,resV, q27x0,t1,t4,t5,t6,s0,s1, s0,s1,lt_nat,Nat.lt_irrefl,l1,l2,l3,k_fixb,R27,N27]
  rw [gc_keep (by simp [flat])]
  rw [hp]
end Go.Pi.L.Ben
set_option maxRecDepth 100000
namespace Go.Pi.L.Ben
open Go Go.Pi Go.Pi.L Go.Pi.E Go.Pi.Ben BM

abbrev exB (b:Bench)(r:BeR)(hs:List Int):Bench:=copB b (exJ r.xs hs r.sl)
def InH (b:Bench)(hs:List Int):Prop:=∀(n:Nat) s,b.strokes[n]?=some s→s.lo≤hs.getD n 0∧hs.getD n 0≤s.hi
theorem btw_in:∀{ss:List Stroke} {hs:List Int},hs.length=ss.length→btw ss hs=true→∀(n:Nat) s,ss[n]?=some s→s.lo≤hs.getD n 0∧hs.getD n 0≤s.hi
 | [],_,_,_,n,s,h=>by simp at h
 | _ :: _,[],hl,_,n,s,h=>by simp at hl
 | t :: ss,x :: hs,hl,hb,n,s,h=>by
  simp only [btw,Bool.and_eq_true,inL_iff] at hb
  cases n with
  | zero=>simp only [List.getElem?_cons_zero,Option.some.injEq] at h; subst h; exact hb.1
  | succ n =>
   have:=btw_in (by simpa using hl) hb.2 n s (by simpa using h)
   simpa using this
theorem isBtw_in {b:Bench}{hs:List Int}(h:isBtw b hs=true):hs.length=b.strokes.length∧InH b hs:=by
 simp only [isBtw,Bool.and_eq_true,decide_eq_true_eq] at h
 exact ⟨h.1,btw_in h.1 h.2⟩
theorem hoursL_get {b:Bench}{g:Bool}{n:Nat}(h:n < b.strokes.length):(hoursL b g b.strokes.length).getD n 0=durG b g n:=getD_of (by simp [hoursL,h])
theorem hoursL_in {b:Bench}(hf:Fine b)(g:Bool):InH b (hoursL b g b.strokes.length):=fun n s hs=>by
 rw [hoursL_get (List.getElem?_eq_some_iff.1 hs).1]
 have:=hf.hours n s hs
 unfold durG low high
 rw [hs]
 cases g <;> simp only [cond_true,cond_false] <;> omega
theorem strokesOk_all {nb:Nat}:∀{l:List Stroke} {m:Nat},(∀(i:Nat) s,l[i]?=some s→strokeOk nb (m+i) s=true)→strokesOk nb m l=true
 | [],_,_=>rfl
 | s :: l,m,h=>by
  rw [strokesOk,Bool.and_eq_true]
  exact ⟨h 0 s rfl,strokesOk_all fun i t ht=>by rw [Nat.add_assoc,Nat.add_comm 1 i]; exact h (i+1) t ht⟩
section
variable {H:Heap} {r:BeR} {b:Bench} {hs:List Int}
theorem ex_strokes (hb:BeOk H r b)(n:Nat):(exB b r hs).strokes[n]?=(b.strokes[n]?).map fun s=>⟨s.board,s.round,hs.getD n 0,hs.getD n 0,s.needs⟩:=by
 show ((exJ r.xs hs r.sl).map (·.s))[n]?=_
 rw [List.getElem?_map,exJ_get,hb.eq,List.getElem?_map]
 by_cases h:n < r.sl
 ·cases r.xs[n]? with
  | none=>rfl
  | some x=>simp [h,exS]
 ·have:r.xs[n]?=none:=List.getElem?_eq_none (by rw [hb.st.len]; omega)
  rw [this]; rfl
theorem ex_len (hb:BeOk H r b):(exB b r hs).strokes.length=b.strokes.length:=by
 show ((exJ r.xs hs r.sl).map (·.s)).length=_
 rw [List.length_map,exJ_len,hb.eq,List.length_map]
theorem ex_dur (hb:BeOk H r b)(g:Bool){n:Nat}(h:n < b.strokes.length):durW (exB b r hs) (-1) 0 g n=hs.getD n 0:=by
 rw [durW_nil]
 have h1:b.strokes[n]?=some b.strokes[n]:=List.getElem?_eq_getElem h
 unfold durG low high
 rw [ex_strokes hb,h1]
 cases g <;> rfl
theorem ex_dur0 (hb:BeOk H r b)(g:Bool){n:Nat}(h:¬n < b.strokes.length):durW (exB b r hs) (-1) 0 g n=1∧durW b (-1) 0 g n=1:=by
 rw [durW_nil,durW_nil]
 have h1:b.strokes[n]?=none:=List.getElem?_eq_none (by omega)
 unfold durG low high
 rw [ex_strokes hb,h1]
 cases g <;> exact ⟨rfl,rfl⟩
theorem ex_follows (hb:BeOk H r b):follows (exB b r hs)=follows b:=by
 funext p
 exact follows_congr (fun n=>by rw [ex_strokes hb]; cases b.strokes[n]? <;> rfl) p
theorem ex_plan (hb:BeOk H r b)(p:List Int):isPlan (exB b r hs) p=isPlan b p:=by
 unfold isPlan
 rw [ex_len hb,show (exB b r hs).app=b.app from rfl,handsOk_congr]
 refine List.ext_getElem? fun n=>?_
 rw [List.getElem?_map,List.getElem?_map,ex_strokes hb]
 cases b.strokes[n]? <;> rfl
theorem ex_bench (hb:BeOk H r b)(hB:isBench b=true)(hi:InH b hs):isBench (exB b r hs)=true:=by
 have hf:=fine_of hB
 have hl:=ex_len (hs:=hs) hb
 simp only [isBench,Bool.and_eq_true] at hB ⊢
 obtain ⟨h1,h2,h3,h4,h5⟩:=hB
 refine ⟨h1,h2,by rw [hl]; exact h3,strokesOk_all fun n s hs'=>?_,h5⟩
 rw [ex_strokes hb] at hs'
 cases h6:b.strokes[n]? with
 | none=>rw [h6] at hs'; cases hs'
 | some t =>
  rw [h6] at hs'
  cases hs'
  have h7:=strokes_at h4 h6
  have h8:=hi n t h6
  have h9:=hf.hours n t h6
  unfold strokeOk at h7 ⊢
  simp only [Bool.and_eq_true,inL_iff] at h7 ⊢
  exact ⟨h7.1,h7.2.1,by omega,by omega⟩
theorem ex_durs (hb:BeOk H r b)(hi:InH b hs)(hf:Fine b)(g:Bool)(n:Nat):durW b (-1) 0 false n≤durW (exB b r hs) (-1) 0 g n∧durW (exB b r hs) (-1) 0 g n≤durW b (-1) 0 true n:=by
 by_cases h:n < b.strokes.length
 ·rw [ex_dur hb g h]
  have h1:b.strokes[n]?=some b.strokes[n]:=List.getElem?_eq_getElem h
  have:=hi n _ h1
  rw [durW_nil,durW_nil]
  unfold durG low high
  rw [h1]
  exact this
 ·rw [(ex_dur0 hb g h).1,(ex_dur0 (hs:=hs) hb false h).2,(ex_dur0 (hs:=hs) hb true h).2]; exact ⟨Int.le_refl _,Int.le_refl _⟩
theorem ex_en (hb:BeOk H r b)(hi:InH b hs)(hf:Fine b)(p:List Int)(g:Bool)(n:Nat):en b p false n≤en (exB b r hs) p g n∧en (exB b r hs) p g n≤en b p true n:=by
 have h:=ex_durs (hs:=hs) hb hi hf g
 constructor
 ·exact eN_mono (by rw [ex_follows hb]; exact fun _ _ _ h=>h) (fun n=>(h n).1) n
 ·exact eN_mono (by rw [ex_follows hb]; exact fun _ _ _ h=>h) (fun n=>(h n).2) n
theorem ex_same (hb:BeOk H r b)(p:List Int)(g:Bool)(n:Nat):en (exB b r hs) p g n=en (exB b r hs) p true n:=by
 have:durW (exB b r hs) (-1) 0 g=durW (exB b r hs) (-1) 0 true:=by
  funext n
  by_cases h:n < b.strokes.length
  ·rw [ex_dur hb g h,ex_dur hb true h]
  ·rw [(ex_dur0 hb g h).1,(ex_dur0 hb true h).1]
 show eN _ _ n=eN _ _ n
 rw [this]
theorem ex_hours (hb:BeOk H r b)(p:List Int)(g g':Bool)(n:Nat):en (exB b r (hoursL b g b.strokes.length)) p g' n=en b p g n:=by
 have:durW (exB b r (hoursL b g b.strokes.length)) (-1) 0 g'=durW b (-1) 0 g:=by
  funext n
  by_cases h:n < b.strokes.length
  ·rw [ex_dur hb g' h,hoursL_get h,durW_nil]
  ·rw [(ex_dur0 hb g' h).1]
   exact (ex_dur0 (hs:=[]) hb g h).2.symm
 show eN _ _ n=eN _ _ n
 rw [this,ex_follows hb]
end
theorem foldl_same {α β:Type}{f g:α→β→α}:∀{l:List β} {a:α},(∀m,∀k∈l,f m k=g m k)→l.foldl f a=l.foldl g a
 | [],_,_=>rfl
 | x :: l,a,h=>by
  rw [List.foldl_cons,List.foldl_cons,h a x (List.mem_cons_self ..)]
  exact foldl_same fun m k hk=>h m k (List.mem_cons_of_mem _ hk)
theorem bN_fold (F:Nat→Nat→Bool)(dur:Nat→Int)(n:Nat):bN F dur n=(List.range n).foldl (fun m k=>if F k n=true then max m (eN F dur k) else m) 0:=by
 unfold bN bg
 refine foldl_same fun m k hk=>?_
 rw [getD_of (esL_get F dur (List.mem_range.1 hk))]
def bgP (F:Nat→Nat→Bool)(dur:Nat→Int)(n k:Nat):Int:=(List.range k).foldl (fun m k=>if F k n=true then max m (eN F dur k) else m) 0
theorem bgP_succ (F:Nat→Nat→Bool)(dur:Nat→Int)(n k:Nat):bgP F dur n (k+1)=if F k n=true then max (bgP F dur n k) (eN F dur k) else bgP F dur n k:=by
 unfold bgP
 rw [List.range_succ,List.foldl_append]; rfl
theorem ex_run {H:Heap}{r:BeR}{b:Bench}{a ah:Option Addr}{l kk mh:Nat}{p hs:List Int}(hb:BeOk H r b)(hd:SmB r)(hx:Ints H a l p)(hl:l < 1000000)(hB:isBench b=true)(hP:isPlan b p=true)(hi:InH b hs){H':Heap}(hg:Grow H H')(hF:Fam H')(hh:Ints H' ah r.sl hs) :
  ∃Hm,R (.func 27) [.agg #[.int .i64 r.app,.slice r.ba r.bl r.bk,.slice r.sa r.sl r.sk],.slice ah r.sl mh] H'=some ⟨.ok (.agg #[.int .i64 r.app,.slice r.ba r.bl r.bk,.slice (some ⟨H'.length,0,none⟩) r.sl 5]),Hm,H'.length⟩∧Up H' Hm ∧
   Yes (R (.func 26) [.agg #[.int .i64 r.app,.slice r.ba r.bl r.bk,.slice (some ⟨H'.length,0,none⟩) r.sl 5],.slice a l kk] Hm) (QP Hm 2 encP (endsL (exB b r hs) p b.strokes.length) (.int .i64 0)):=by
 have hf:=fine_of hB
 have hn1:=hf.n1
 have hn6:=hf.n6
 have hsl:=hb.len
 have k27:=c27 (kk:=mh) (hb.grow hg) hh rfl (by omega) (by omega) H' (Grow.refl _) hF
 have hlx:(exJ r.xs hs r.sl).length=r.sl:=by rw [exJ_len]; exact hb.st.len
 have hmem:∀y∈exJ r.xs hs r.sl,∃x∈r.xs,y.a=x.a∧y.l=x.l∧y.s.needs=x.s.needs:=fun y hy=>by
  obtain ⟨n,hn⟩:=List.mem_iff_getElem?.1 hy
  rw [exJ_get] at hn
  cases hx:r.xs[n]? with
  | none=>rw [hx] at hn; cases hn
  | some x =>
   rw [hx,Option.map_some] at hn
   refine ⟨x,mem_drop hx,?_⟩
   by_cases h:n < r.sl
   ·rw [if_pos h] at hn; cases hn; exact ⟨rfl,rfl,rfl⟩
   ·rw [if_neg h] at hn; cases hn; exact ⟨rfl,rfl,rfl⟩
 have hnd:∀k∈exJ r.xs hs r.sl,Ints H' k.a k.l k.s.needs:=fun y hy=>by
  obtain ⟨x,h1,h2,h3,h4⟩:=hmem y hy
  rw [h2,h3,h4]; exact (hb.nd x h1).grow hg
 have hb1:=cop_ok hb hlx hnd hg
 have hd1:SmB (copR r H'.length (exJ r.xs hs r.sl)):=⟨hd.b,hd.s,fun y hy=>by
  obtain ⟨x,h1,h2,h3,h4⟩:=hmem y hy
  rw [h3]; exact hd.n x h1⟩
 have u1:Up H' (copH H' (exJ r.xs hs r.sl)):=(Up.refl _).app
 have k26:=c26 (kk:=kk) hb1 hd1 (hx.grow (hg.trans u1.grow)) hl (ex_bench hb hB hi) (by rw [ex_plan hb]; exact hP) _ (Grow.refl _)
 rw [ex_len hb] at k26
 exact ⟨_,k27,u1,k26⟩
end Go.Pi.L.Ben
set_option maxRecDepth 100000
namespace Go.Pi.L.Ben
open Go Go.Pi Go.Pi.L Go.Pi.E Go.Pi.Ben BM

theorem pair_at {H:Heap}{a:Option Addr}{l m N:Nat}{b:Bench}{p:List Int}(t:Sl H 2 encP a l (endsL b p N)){j:Nat}(hj:j < l)(hN:N=l) :
  ∃bb oo:Nat,vv (.ia 2) [.slice a l m,.int .i64 (j:Nat)]=some (.pointer (some ⟨bb,oo+j*2,none⟩))∧rdO (hcells H bb) (oo+j*2) (some 2)=some (.agg #[.int .i64 (en b p false j),.int .i64 (en b p true j)])∧rdO (hcells H bb) (oo+j*2) none=some (.int .i64 (en b p false j))∧rdO (hcells H bb) (oo+j*2+1) none=some (.int .i64 (en b p true j)):=by
 obtain ⟨bb,oo,y,hya,hy,e1,e2,e3⟩:=t.p2 hj
 rw [ends_get (by omega)] at hy
 cases hy
 exact ⟨bb,oo,by rw [hya]; exact vv_iaN 2 bb oo j _ _ _ hj,e1 H (Grow.refl _),e2 H (Grow.refl _),e3 H (Grow.refl _)⟩
theorem ag_same (x y:Int):vv (.ag [.i .i64,.i .i64] true) [.agg #[.int .i64 x,.int .i64 y],.agg #[.int .i64 x,.int .i64 y]]=some (.bool false):=by rw [vv_ag2]; simp
set_option maxHeartbeats 4000000 in
theorem c3 {H:Heap}{r:BeR}{b:Bench}{a ah:Option Addr}{l kk lh kh:Nat}{p hs:List Int}(hb:BeOk H r b)(hx:Ints H a l p)(hh:Ints H ah lh hs)(hF:Fam H) :
  R (.func 3) [.agg #[.int .i64 r.app,.slice r.ba r.bl r.bk,.slice r.sa r.sl r.sk],.slice a l kk,.slice ah lh kh] H=some ⟨.ok (.bool true),H,H.length⟩:=by
 refine run_k (pr 3) P3 (by simp [p3]) rfl ?_
 have l1:=hb.br.isLoc r.bk
 have l2:=hb.st.isLoc r.sk
 have l3:=hx.isLoc kk
 have l4:=hh.isLoc kh
 have k21:=c21 hb H (Grow.refl _)
 have k22:=c22 (H:=H) a l kk l3
 have k22h:=c22 (H:=H) ah lh kh l4
 cases q1:(shortB r.xs r&&isBench b) with
 | false=>rw [q1] at k21; simp (maxDischargeDepth:=8) only [↓SD,SU,SV,SW,simprocAttr,Int.cast_ofNat_Int,small,resV, B3,R3,N3,b3, l1,l2,l3,l4,k21,c25,R3,N3]
 | true =>
 rw [q1] at k21
 obtain ⟨q1a,hB⟩:=Bool.and_eq_true_iff.1 q1
 have hd:=short_sm hb q1a
 by_cases q2:l≤9
 case neg=>simp (maxDischargeDepth:=8) only [↓SD,SU,SV,SW,simprocAttr,Int.cast_ofNat_Int,small,resV, B3,R3,N3,b3, l1,l2,l3,l4,k21,k22,q2,c25,R3,N3]
 by_cases q2h:lh≤9
 case neg=>simp (maxDischargeDepth:=8) only [↓SD,SU,SV,SW,simprocAttr,Int.cast_ofNat_Int,small,resV, B3,R3,N3,b3, l1,l2,l3,l4,k21,k22,k22h,q2,q2h,c25,R3,N3]
 have hl:l < 1000000:=by omega
 have k23:=c23 (kk:=kk) hb hx hl H (Grow.refl _)
 cases hP:isPlan b p with
 | false=>rw [hP] at k23; simp (maxDischargeDepth:=8) only [↓SD,SU,SV,SW,simprocAttr,Int.cast_ofNat_Int,small,resV, B3,R3,N3,b3, l1,l2,l3,l4,k21,k22,k22h,q2,q2h,k23,c25,R3,N3]
 | true =>
 rw [hP] at k23
 have k24:=c24 (kk:=kh) hb hh (by omega) H (Grow.refl _)
 cases hW:isBtw b hs with
 | false=>rw [hW] at k24; simp (maxDischargeDepth:=8) only [↓SD,SU,SV,SW,simprocAttr,Int.cast_ofNat_Int,small,resV, B3,R3,N3,b3, l1,l2,l3,l4,k21,k22,k22h,q2,q2h,k23,k24,c25,R3,N3]
 | true =>
 rw [hW] at k24
 obtain ⟨hhl,hin⟩:=isBtw_in hW
 have hf:=fine_of hB
 have n6:=hf.n6
 have hlen:p.length=b.strokes.length:=by simp only [isPlan,Bool.and_eq_true,decide_eq_true_eq] at hP; exact hP.1
 have hlb:b.strokes.length=l:=by rw [←hlen]; exact hx.len
 have hsl:=hb.len
 obtain rfl:lh=r.sl:=by rw [←hsl,←hhl]; exact hh.len.symm
 obtain rfl:l=r.sl:=by omega
 have hel:∀b',(endsL b' p b.strokes.length).length=r.sl:=fun b'=>by simp [endsL,hlb]
 have hN:∀g,(hoursL b g b.strokes.length).length=r.sl:=fun g=>by simp [hoursL,hlb]
 obtain ⟨o,ho1,a1,m1,H1,lo1,rfl,u1,hlo1,s1⟩:=c26 (kk:=kk) hb hd hx hl hB hP H (Grow.refl _)
 have hF1:Fam H1:=famR ho1 hF
 rw [hel] at ho1 s1
 obtain ⟨Hm2,k27b,v2,o,ho2,a2,m2,H2,lo2,rfl,u2,hlo2,s2⟩:=ex_run (kk:=kk) (mh:=kh) hb hd hx hl hB hP hin u1.grow hF1 (hh.grow u1.grow)
 have hF2:Fam H2:=famR ho2 (famR k27b hF1)
 rw [hel] at ho2 s2
 have w2:=(u1.trans v2).trans u2
 obtain ⟨o,ho3,a3,m3,H3,lo3,rfl,u3,hlo3,s3⟩:=c28 hb hd false H2 w2.grow
 have hF3:Fam H3:=famR ho3 hF2
 rw [hN] at ho3 s3
 have w3:=w2.trans u3
 obtain ⟨Hm4,k27c,v4,o,ho4,a4,m4,H4,lo4,rfl,u4,hlo4,s4⟩:=ex_run (kk:=kk) (mh:=m3) hb hd hx hl hB hP (hoursL_in hf false) w3.grow hF3 s3
 have hF4:Fam H4:=famR ho4 (famR k27c hF3)
 rw [hel] at ho4 s4
 have w4:=(w3.trans v4).trans u4
 obtain ⟨o,ho5,a5,m5,H5,lo5,rfl,u5,hlo5,s5⟩:=c28 hb hd true H4 w4.grow
 have hF5:Fam H5:=famR ho5 hF4
 rw [hN] at ho5 s5
 have w5:=w4.trans u5
 obtain ⟨Hm6,k27d,v6,o,ho6,a6,m6,H6,lo6,rfl,u6,hlo6,s6⟩:=ex_run (kk:=kk) (mh:=m5) hb hd hx hl hB hP (hoursL_in hf true) w5.grow hF5 s5
 rw [hel] at ho6 s6
 have g6:=(w5.trans v6).trans u6
 have t1':=s1.grow (((((v2.trans u2).trans u3).trans v4).trans u4).trans ((u5.trans v6).trans u6)).grow
 have t2':=s2.grow (((u3.trans v4).trans u4).trans ((u5.trans v6).trans u6)).grow
 have t4':=s4.grow ((u5.trans v6).trans u6).grow
 have i1:=s1.isLoc m1
 have i2:=s2.isLoc m2
 have i3:=s3.isLoc m3
 have i4:=s4.isLoc m4
 have i5:=s5.isLoc m5
 have i6:=s6.isLoc m6
 have h1:=u1.len
 have h2:=u2.len
 have h2':=v2.len
 have h3:=u3.len
 have h4:=u4.len
 have h4':=v4.len
 have h5:=u5.len
 have h6:=u6.len
 have h6':=v6.len
 have l5:∀n,isLoc (.slice (some ⟨n,0,none⟩) r.sl 5)=false:=fun n=>rfl
 simp (maxDischargeDepth:=8) only [↓SD,SU,SV,SW,simprocAttr,Int.cast_ofNat_Int,small,resV, B3,R3,N3,b3, l1,l2,l3,l4,l5,i1,i2,i3,i4,i5,i6,k21,k22,k22h,q2,q2h,k23,k24,ho1,k27b,ho2,ho3,k27c,ho4,ho5,k27d,ho6,hlo3,hlo4,hlo5,hlo6]
 have hB':=ex_bench (hs:=hs) hb hB hin
 have hf':=fine_of hB'
 have hel':=ex_len (hs:=hs) hb
 have hfo:=ex_follows (hs:=hs) hb
 obtain ⟨X,hX⟩:∃X:Nat→Int,(fun n=>en (exB b r hs) p true n)=X:=⟨_,rfl⟩
 have hXt:∀n,en (exB b r hs) p true n=X n:=fun n=>congrFun hX n
 have hXf:∀n,en (exB b r hs) p false n=X n:=fun n=>by rw [ex_same hb,hXt]
 have hXe:∀n,X n=eN (follows b p) (durW (exB b r hs) (-1) 0 true) n:=fun n=>by rw [←hXt,←hfo]; rfl
 have hXl:∀n,(X n < en b p false n)=False:=fun n=>by have:=(ex_en hb hin hf p true n).1; rw [hXt] at this; simp; omega
 have hXu:∀n,(en b p true n < X n)=False:=fun n=>by have:=(ex_en hb hin hf p true n).2; rw [hXt] at this; simp; omega
 have hXs:∀n,n < r.sl→X n=bgP (follows b p) (durW (exB b r hs) (-1) 0 true) n n+hs.getD n 0:=fun n hn=>by
  rw [hXe]
  show bN _ _ n+_=_
  rw [bN_fold,ex_dur hb true (by omega)]; rfl
 have hX36:∀n,n < r.sl→0≤bgP (follows b p) (durW (exB b r hs) (-1) 0 true) n n∧bgP (follows b p) (durW (exB b r hs) (-1) 0 true) n n≤36∧1≤hs.getD n 0∧hs.getD n 0≤6:=fun n hn=>by
  have h1:=en_b hf' p true (n:=n) (by omega)
  rw [hXt,hXs n hn] at h1
  have h2:=bN_nonneg (follows b p) (durW (exB b r hs) (-1) 0 true) n
  rw [bN_fold] at h2
  have h3:b.strokes[n]?=some b.strokes[n]:=List.getElem?_eq_getElem (by omega)
  have h4:=hf.hours n _ h3
  have h5:=hin n _ h3
  exact ⟨h2,by omega,by omega,by omega⟩
 have pq:=fun n (hn:n < r.sl)=>pair_at (m:=m1) t1' hn hlb
 have px:=fun n (hn:n < r.sl)=>pair_at (m:=m2) t2' hn hlb
 have pl:=fun n (hn:n < r.sl)=>pair_at (m:=m4) t4' hn hlb
 have pu:=fun n (hn:n < r.sl)=>pair_at (m:=m6) s6 hn hlb
 have hhr:∀n g,hoursL b g b.strokes.length=hoursL b g b.strokes.length∧en (exB b r (hoursL b g b.strokes.length)) p false n=en b p g n∧en (exB b r (hoursL b g b.strokes.length)) p true n=en b p g n:=fun n g=>⟨rfl,ex_hours hb p g false n,ex_hours hb p g true n⟩
 have plan:∀n,n < r.sl→∃(pb po:Nat) (v:Int),vv (.ia 1) [.slice a r.sl kk,.int .i64 (n:Nat)]=some (.pointer (some ⟨pb,po+n*1,none⟩))∧rdO (hcells H6 pb) (po+n*1) none=some (.int .i64 v)∧p[n]?=some v:=fun n hn=>by
  obtain ⟨pb,po,v,h1,h2,f1⟩:=hx.i1 (j:=n) hn
  exact ⟨pb,po,v,by rw [h1]; exact vv_iaN 1 pb po n _ _ _ hn,f1 H6 g6.grow,h2⟩
 have hour:∀n,n < r.sl→∃(pb po:Nat),vv (.ia 1) [.slice ah r.sl kh,.int .i64 (n:Nat)]=some (.pointer (some ⟨pb,po+n*1,none⟩))∧rdO (hcells H6 pb) (po+n*1) none=some (.int .i64 (hs.getD n 0)):=fun n hn=>by
  obtain ⟨pb,po,v,h1,h2,f1⟩:=hh.i1 (j:=n) hn
  rw [getD_of h2]
  exact ⟨pb,po,by rw [h1]; exact vv_iaN 1 pb po n _ _ _ hn,f1 H6 g6.grow⟩
 have stro:∀n,n < r.sl→∃(sb so:Nat) (xk:Sk),vv (.ia 5) [.slice r.sa r.sl r.sk,.int .i64 (n:Nat)]=some (.pointer (some ⟨sb,so+n*5,none⟩))∧rdO (hcells H6 sb) (so+n*5+4) none=some (.slice xk.a xk.l xk.m)∧isLoc (.slice xk.a xk.l xk.m)=false∧b.strokes[n]?=some xk.s∧Ints H xk.a xk.l xk.s.needs∧xk.l < 1000000:=fun n hn=>by
  obtain ⟨sb,so,xk,hsa,hxk,fk⟩:=hb.st.k5 (j:=n) hn
  have hN:=hb.nd xk (mem_drop hxk)
  exact ⟨sb,so,xk,by rw [hsa]; exact vv_iaN 5 sb so n _ _ _ hn,fk.v4 H6 g6.grow,hN.isLoc xk.m,hb.at hxk,hN,hd.n xk (mem_drop hxk)⟩
 refine loop_ind (G:=(·=_)) (fun j σ=>∃T S lim,σ=⟨T,S,[],H6,lim,243,false⟩∧get T 1=.slice a r.sl kk∧get T 2=.slice ah r.sl kh∧get T 3=.pointer (some ⟨3,0,some 1⟩)∧get T 7=.slice a1 r.sl m1∧get T 9=.slice a2 r.sl m2∧get T 11=.slice a4 r.sl m4∧get T 13=.slice a6 r.sl m6∧get T 15=.int .i64 (r.sl:Nat)∧get T 16=.int .i64 (j:Nat)∧sget S 3=(1,.cells [.int .i64 r.app,.slice r.ba r.bl r.bk,.slice r.sa r.sl r.sk])∧(H.length≤lim)) (r.sl) ?_ ?_ 0 _ (Nat.zero_le _) ⟨_,_,_,rfl,rfl,rfl,rfl,rfl,rfl,rfl,rfl,rfl,rfl,rfl,by omega⟩
 ·rintro c' j s hj ⟨T,S,lim,rfl,t1,t2,t3,t7,t9,t11,t13,t15,t16,s0,hp⟩ ih
  have ihO:=ih
  clear ih
  obtain ⟨d,rfl⟩:∃d,d=j:=⟨j,rfl⟩
  have hd':=hj
  obtain ⟨b1,o1,e11,e12,e13,e14⟩:=pq d hj
  obtain ⟨b2,o2,e21,e22,e23,e24⟩:=px d hj
  obtain ⟨b4,o4,e41,e42,e43,e44⟩:=pl d hj
  obtain ⟨b6,o6,e61,e62,e63,e64⟩:=pu d hj
  rw [hXf] at e23
  rw [hXt] at e24
  rw [(hhr d false).2.1,(hhr d false).2.2] at e42
  rw [(hhr d true).2.1,(hhr d true).2.2] at e62
  have z1:=hXl d
  have z2:=hXu d
  simp (maxDischargeDepth:=8) only [↓SD,SU,SV,SW,simprocAttr,Int.cast_ofNat_Int,small,resV, q3x1,t1,t2,t3,t7,t9,t11,t13,t15,t16,s0, s0,lt_nat,hj,l1,l2,l3,l4,i1,i2,i4,i6,e11,e12,e13,e14,e21,e22,e23,e24,e41,e42,e61,e62,z1,z2,c29,ag_same]
  refine loop_ind (G:=(·=_)) (fun j σ=>∃T S m lim2,σ=⟨T,S,[],H6,lim2,243,false⟩∧get T 1=.slice a r.sl kk∧get T 2=.slice ah r.sl kh∧get T 3=.pointer (some ⟨3,0,some 1⟩)∧get T 7=.slice a1 r.sl m1∧get T 9=.slice a2 r.sl m2∧get T 11=.slice a4 r.sl m4∧get T 13=.slice a6 r.sl m6∧get T 15=.int .i64 (r.sl:Nat)∧get T 16=.int .i64 (d:Nat)∧get T 17=.int .i64 m∧get T 18=.int .i64 (j:Nat)∧sget S 3=(1,.cells [.int .i64 r.app,.slice r.ba r.bl r.bk,.slice r.sa r.sl r.sk])∧(m=bgP (follows b p) (durW (exB b r hs) (-1) 0 true) d j∧H.length≤lim2)) (d) ?_ ?_ 0 _ (Nat.zero_le _) ⟨_,_,_,_,rfl,(by first | (simp [get_set,t1,t2,t3,t7,t9,t11,t13,t15,t16]; done) | rfl),(by first | (simp [get_set,t1,t2,t3,t7,t9,t11,t13,t15,t16]; done) | rfl),(by first | (simp [get_set,t1,t2,t3,t7,t9,t11,t13,t15,t16]; done) | rfl),(by first | (simp [get_set,t1,t2,t3,t7,t9,t11,t13,t15,t16]; done) | rfl),(by first | (simp [get_set,t1,t2,t3,t7,t9,t11,t13,t15,t16]; done) | rfl),(by first | (simp [get_set,t1,t2,t3,t7,t9,t11,t13,t15,t16]; done) | rfl),(by first | (simp [get_set,t1,t2,t3,t7,t9,t11,t13,t15,t16]; done) | rfl),(by first | (simp [get_set,t1,t2,t3,t7,t9,t11,t13,t15,t16]; done) | rfl),(by first | (simp [get_set,t1,t2,t3,t7,t9,t11,t13,t15,t16]; done) | rfl),(by first | (simp [get_set,t1,t2,t3,t7,t9,t11,t13,t15,t16]; done) | rfl),(by first | (simp [get_set,t1,t2,t3,t7,t9,t11,t13,t15,t16]; done) | rfl),(by first | rfl | exact s0),⟨(show (0:Int)=bgP (follows b p) (durW (exB b r hs) (-1) 0 true) d 0 from rfl),by omega⟩⟩
  ·rintro c' j s hj ⟨T,S,m,lim2,rfl,t1,t2,t3,t7,t9,t11,t13,t15,t16,t17,t18,s0,hp⟩ ih
   obtain ⟨hm,hlim⟩:=hp
   have hjs:j < r.sl:=by omega
   obtain ⟨pb,po,v1,f1,f2,f3⟩:=plan j hjs
   obtain ⟨pc,pd,v2,f4,f5,f6⟩:=plan d hd'
   obtain ⟨sb,so,xk,k1,k2,k3,k4,k5,k6⟩:=stro d hd'
   obtain ⟨b3,o3,e31,e32,e33,e34⟩:=px j hjs
   rw [hXf] at e33
   have hfa:=follows_at f3 f6 k4
   have hsu:=bgP_succ (follows b p) (durW (exB b r hs) (-1) 0 true) d j
   rw [←hXe,←hm] at hsu
   have hw:=wrap_succ j (by omega)
   by_cases hv:v1=v2
   ·have e:follows b p j d=true:=by rw [hfa]; simp [hv]
    rw [e,if_pos rfl] at hsu
    simp (maxDischargeDepth:=8) only [↓SD,SU,SV,SW,simprocAttr,Int.cast_ofNat_Int,small,resV, q3x0,t1,t2,t3,t7,t9,t11,t13,t15,t16,t17,t18,s0, s0,lt_nat,hj,l1,l2,l3,l4,i1,i2,i4,i6,f1,f2,f4,f5,hv,e31,e33,hw]
    exact ih _ ⟨_,_,(max m (X j)),(_),rfl,(by simp [get_set,t1] <;> omega),(by simp [get_set,t2] <;> omega),(by simp [get_set,t3] <;> omega),(by simp [get_set,t7] <;> omega),(by simp [get_set,t9] <;> omega),(by simp [get_set,t11] <;> omega),(by simp [get_set,t13] <;> omega),(by simp [get_set,t15] <;> omega),(by simp [get_set,t16] <;> omega),(by simp [get_set,t17] <;> omega),(by simp [get_set,t18] <;> omega),by simp [sget_sset,s0],⟨hsu.symm,by omega⟩⟩
   ·have k30:=c30 (kk:=xk.m) (j:Int) k5 k6 H6 g6.grow
    cases hA:xk.s.needs.any fun x=>decide (x=(j:Int)) with
    | false =>
     rw [hA] at k30
     have e:follows b p j d=false:=by rw [hfa,hA]; simp [hv]
     rw [e,if_neg (by decide)] at hsu
     simp (maxDischargeDepth:=8) only [↓SD,SU,SV,SW,simprocAttr,Int.cast_ofNat_Int,small,resV, q3x0,t1,t2,t3,t7,t9,t11,t13,t15,t16,t17,t18,s0, s0,lt_nat,hj,l1,l2,l3,l4,i1,i2,i4,i6,f1,f2,f4,f5,hv,k1,k2,k3,k30,hw]
     exact ih _ ⟨_,_,(m),(_),rfl,(by simp [get_set,t1] <;> omega),(by simp [get_set,t2] <;> omega),(by simp [get_set,t3] <;> omega),(by simp [get_set,t7] <;> omega),(by simp [get_set,t9] <;> omega),(by simp [get_set,t11] <;> omega),(by simp [get_set,t13] <;> omega),(by simp [get_set,t15] <;> omega),(by simp [get_set,t16] <;> omega),(by simp [get_set,t17] <;> omega),(by simp [get_set,t18] <;> omega),by simp [sget_sset,s0],⟨hsu.symm,by omega⟩⟩
    | true =>
     rw [hA] at k30
     have e:follows b p j d=true:=by rw [hfa,hA,Bool.or_true]
     rw [e,if_pos rfl] at hsu
     simp (maxDischargeDepth:=8) only [↓SD,SU,SV,SW,simprocAttr,Int.cast_ofNat_Int,small,resV, q3x0,t1,t2,t3,t7,t9,t11,t13,t15,t16,t17,t18,s0, s0,lt_nat,hj,l1,l2,l3,l4,i1,i2,i4,i6,f1,f2,f4,f5,hv,k1,k2,k3,k30,e31,e33,hw]
     exact ih _ ⟨_,_,(max m (X j)),(_),rfl,(by simp [get_set,t1] <;> omega),(by simp [get_set,t2] <;> omega),(by simp [get_set,t3] <;> omega),(by simp [get_set,t7] <;> omega),(by simp [get_set,t9] <;> omega),(by simp [get_set,t11] <;> omega),(by simp [get_set,t13] <;> omega),(by simp [get_set,t15] <;> omega),(by simp [get_set,t16] <;> omega),(by simp [get_set,t17] <;> omega),(by simp [get_set,t18] <;> omega),by simp [sget_sset,s0],⟨hsu.symm,by omega⟩⟩
  ·rintro c' s ⟨T,S,m,lim2,rfl,t1,t2,t3,t7,t9,t11,t13,t15,t16,t17,t18,s0,hp⟩
   obtain ⟨hm,hlim⟩:=hp
   obtain ⟨hb0,hb36,hh1,hh6⟩:=hX36 d hd'
   have hsx:=hXs d hd'
   rw [←hm] at hb0 hb36 hsx
   obtain ⟨qb,qo,k1,k2⟩:=hour d hd'
   have z3:((60:Int) < m)=False:=by simp; omega
   have hws:IntKind.wrap .i64 (m+hs.getD d 0)=X d:=by rw [wrap_id _ (by omega) (by omega),hsx]
   have hw:=wrap_succ d (by omega)
   simp (maxDischargeDepth:=8) only [↓SD,SU,SV,SW,simprocAttr,Int.cast_ofNat_Int,small,resV, q3x0,t1,t2,t3,t7,t9,t11,t13,t15,t16,t17,t18,s0, s0,lt_nat,Nat.lt_irrefl,l1,l2,l3,l4,i1,i2,i4,i6,e21,e23,z3,k1,k2,hws,hw]
   exact ihO _ ⟨_,_,_,rfl,by simp [get_set,t1],by simp [get_set,t2],by simp [get_set,t3],by simp [get_set,t7],by simp [get_set,t9],by simp [get_set,t11],by simp [get_set,t13],by simp [get_set,t15],by first | (simp [get_set,t16]; done) | (simp [get_set,t16]; omega),by first | exact s0 | simp [sget_sset,s0],by omega⟩
 ·rintro c' s ⟨T,S,lim,rfl,t1,t2,t3,t7,t9,t11,t13,t15,t16,s0,hlim⟩
  simp (maxDischargeDepth:=8) only [↓SD,SU,SV,SW,simprocAttr,Int.cast_ofNat_Int,small,resV, q3x1,t1,t2,t3,t7,t9,t11,t13,t15,t16,s0,lt_nat,Nat.lt_irrefl,c25,R3,N3]
  rw [gc_ite (by omega)]; simp [flat]
end Go.Pi.L.Ben
