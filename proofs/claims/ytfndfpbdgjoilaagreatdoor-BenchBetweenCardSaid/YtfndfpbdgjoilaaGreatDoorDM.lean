/- Benches: hours that are changed; hours to spare, as the document has them. -/
import Derived.Test.YtfndfpbdgjoilaaGreatDoorDL
set_option linter.all false
set_option maxRecDepth 100000
namespace Go.Pi.L.Ben
open Go Go.Pi Go.Pi.L Go.Pi.E Go.Pi.Ben BM

end Go.Pi.L.Ben
set_option maxRecDepth 100000
namespace Go.Pi.L.Ben
open Go Go.Pi Go.Pi.L Go.Pi.E Go.Pi.Ben BM

def exS (x:Sk)(h:Int):Sk:=⟨⟨x.s.board,x.s.round,h,h,x.s.needs⟩,x.a,x.l,x.m⟩
def exJ (xs:List Sk)(hs:List Int)(j:Nat):List Sk:=xs.mapIdx fun n x=>if n < j then exS x (hs.getD n 0) else x
theorem exJ_get (xs:List Sk)(hs:List Int)(j n:Nat):(exJ xs hs j)[n]?=(xs[n]?).map fun x=>if n < j then exS x (hs.getD n 0) else x:=by
 unfold exJ; rw [List.getElem?_mapIdx]
theorem exJ_zero (xs:List Sk)(hs:List Int):exJ xs hs 0=xs:=by
 refine List.ext_getElem? fun n=>?_
 rw [exJ_get]; cases xs[n]? <;> simp
theorem exJ_len (xs:List Sk)(hs:List Int)(j:Nat):(exJ xs hs j).length=xs.length:=by simp [exJ]
theorem exJ_succ {xs:List Sk}{hs:List Int}{j:Nat}{x:Sk}{h:Int}(hx:xs[j]?=some x)(hh:hs[j]?=some h):(exJ xs hs j).set j (exS x h)=exJ xs hs (j+1):=by
 refine List.ext_getElem? fun n=>?_
 have hl:=(List.getElem?_eq_some_iff.1 hx).1
 by_cases e:n=j
 ·subst e
  rw [List.getElem?_set_self (by rw [exJ_len]; exact hl),exJ_get,hx,Option.map_some,if_pos (Nat.lt_succ_self _),getD_of hh]
 ·rw [List.getElem?_set_ne (fun q=>e q.symm),exJ_get,exJ_get]
  cases xs[n]? with
  | none=>rfl
  | some y =>
   simp only [Option.map_some,Option.some.injEq]
   by_cases q:n < j
   ·rw [if_pos q,if_pos (by omega)]
   ·rw [if_neg q,if_neg (by omega)]
theorem st_new' {α:Type}{call:CallT}{F:Ex→St→Option α}{k:List It}{H:Heap}{xs xs':List Sk}{j:Nat}{x y:Int}{d:Option Tmp}{T S D lo nn rnd}(hF:Fam H)(hj:j < xs.length)(hsp:splice (cells eK xs) (j*5+2) [.int .i64 x,.int .i64 y]=cells eK xs') :
  stH call F ((copH H xs)[H.length]?) 2 H.length (j*5+2) (.agg #[.int .i64 x,.int .i64 y]) d k ⟨T,S,D,copH H xs,lo,nn,rnd⟩=nxt call F (some undef) d k ⟨T,S,D,copH H xs',min lo H.length,nn,rnd⟩:=by
 have:=st_new (call:=call) (F:=F) (k:=k) (H:=H) (H1:=copH H xs) (n:=2) (off:=j*5+2) (c:=cells eK xs) (v:=.agg #[.int .i64 x,.int .i64 y]) (d:=d) (T:=T) (S:=S) (D:=D) (lo:=lo) (nn:=nn) (rnd:=rnd) hF rfl rfl (by rfl) rfl (by rw [cells_len eK_len]; omega)
 rw [this]
 rw [show (Value.agg #[.int .i64 x,.int .i64 y]).cells.toList=[.int .i64 x,.int .i64 y] from rfl,hsp]
 rfl
set_option maxHeartbeats 1000000 in
theorem c27 {H:Heap}{r:BeR}{b:Bench}{a:Option Addr}{l kk:Nat}{hs:List Int}(hb:BeOk H r b)(hx:Ints H a l hs)(hl:l=r.sl)(hs0:0 < r.sl)(hs1:r.sl < 100) :
  ∀H',Grow H H'→Fam H'→R (.func 27) [.agg #[.int .i64 r.app,.slice r.ba r.bl r.bk,.slice r.sa r.sl r.sk],.slice a l kk] H'=some ⟨.ok (.agg #[.int .i64 r.app,.slice r.ba r.bl r.bk,.slice (some ⟨H'.length,0,none⟩) r.sl 5]),copH H' (exJ r.xs hs l),H'.length⟩:=by
 intro H' hg hF
 subst hl
 have l1:=hb.br.isLoc r.bk
 have l2:=hb.st.isLoc r.sk
 have l3:=hx.isLoc kk
 have hxl:r.xs.length=r.sl:=hb.st.len
 have hcl:(cells eK r.xs).length=r.sl*5:=by rw [cells_len eK_len,hxl]
 have qe:=fun T S D lo n rnd=>(hb.st.grow hg).elems eK_len (by decide) r.sk T S D lo n rnd
 have qa:∀{α:Type} (call:CallT) (F:Ex→St→Option α) d kk T S D lo n rnd,ap1 call F (some (cells eK r.xs)) (.slice none 0 0) 5 d kk ⟨T,S,D,H',lo,n,rnd⟩=nxt call F (some (.slice (some ⟨H'.length,0,none⟩) r.sl 5)) d kk ⟨T,S,D,copH H' (exJ r.xs hs 0),lo,n,rnd⟩:=fun call F d kk T S D lo n rnd=>by
  rw [exJ_zero,apA_nil _ _ _ _ _ _ _ _ _ _ (by rw [hcl]; exact Nat.mul_mod_left _ _) (by omega) (by cases hxs:cells eK r.xs with | nil=>rw [hxs] at hcl; simp at hcl; omega | cons=>rfl),hcl,Nat.mul_div_cancel _ (by decide)]
  rfl
 have hcl2:∀xs,(copH H' xs).length=H'.length+1:=fun xs=>by simp [copH]
 refine run_k (pr 27) P27 (by simp [p27]) rfl ?_
 simp (maxDischargeDepth:=8) only [↓SD,SU,SV,SW,simprocAttr,Int.cast_ofNat_Int,small,resV, B27,R27,N27,b27, l1,l2,l3,qe,qa]
 refine loop_ind (G:=(·=_)) (fun j σ=>∃T S lim,σ=⟨T,S,[],(copH H' (exJ r.xs hs j)),lim,33,false⟩∧get T 1=.slice a r.sl kk∧get T 4=.pointer (some ⟨4,0,some 1⟩)∧get T 5=.pointer (some ⟨5,0,some 1⟩)∧get T 6=.int .i64 (j:Nat)∧sget S 4=(1,.cells [.int .i64 0,.slice none 0 0,.slice none 0 0])∧sget S 5=(1,.cells [.int .i64 r.app,.slice r.ba r.bl r.bk,.slice (some ⟨H'.length,0,none⟩) r.sl 5])∧(lim=H'.length)) (r.sl) ?_ ?_ 0 _ (Nat.zero_le _) ⟨_,_,_,rfl,rfl,rfl,rfl,rfl,rfl,rfl,rfl⟩
 ·rintro c' j s hj ⟨T,S,lim,rfl,t1,t4,t5,t6,s0,s1,hp⟩ ih
  obtain ⟨sb,so,xk,hsa,hxk,fk⟩:=hb.st.k5 (j:=j) hj
  obtain ⟨hb_,ho,h,hha,hhk,fh⟩:=hx.i1 (j:=j) hj
  have u:Up H' (copH H' (exJ r.xs hs j)):=(Up.refl _).app
  have fh1:=fh _ (hg.trans u.grow)
  have iah:vv (.ia 1) [.slice a r.sl kk,.int .i64 (j:Nat)]=some (.pointer (some ⟨hb_,ho+j*1,none⟩)):=by rw [hha]; exact vv_iaN 1 hb_ ho j _ _ _ hj
  have ian:vv (.ia 5) [.slice (some ⟨H'.length,0,none⟩) r.sl 5,.int .i64 (j:Nat)]=some (.pointer (some ⟨H'.length,0+j*5,none⟩)):=vv_iaN 5 _ 0 j _ _ _ hj
  have hex:(exJ r.xs hs j)[j]?=some xk:=by rw [exJ_get,hxk,Option.map_some,if_neg (Nat.lt_irrefl _)]
  have hsp:splice (cells eK (exJ r.xs hs j)) (j*5+2) [.int .i64 h,.int .i64 h]=cells eK (exJ r.xs hs (j+1)):=by
   rw [←exJ_succ hxk hhk]
   exact splice_part eK_len (by simp) hex (by simp [eK,exS,splice])
  have qs:=fun (F:Ex→St→Option Out) d kk T S D lo n rnd=>st_new' (call:=runL PP primsL) (F:=F) (k:=kk) (d:=d) (T:=T) (S:=S) (D:=D) (lo:=lo) (nn:=n) (rnd:=rnd) hF (by rw [exJ_len,hxl]; exact hj) hsp
  have hw:=wrap_succ j (by omega)
  simp (maxDischargeDepth:=8) only [↓SD,SU,SV,SW,simprocAttr,Int.cast_ofNat_Int,small,resV, q27x0,t1,t4,t5,t6,s0,s1, s0,s1,lt_nat,hj,l1,l2,l3,iah,fh1,c29,ian,qs,k_fixb,hw]
  exact ih _ ⟨_,_,_,rfl,(by simp [get_set,t1] <;> omega),(by simp [get_set,t4] <;> omega),(by simp [get_set,t5] <;> omega),(by simp [get_set,t6] <;> omega),by simp [sget_sset,s0],by simp [sget_sset,s1],by have:=hcl2 (exJ r.xs hs j); omega⟩
 ·rintro c' s ⟨T,S,lim,rfl,t1,t4,t5,t6,s0,s1,hp⟩
  simp (maxDischargeDepth:=8) only [↓SD,SU,SV,SW,simprocAttr,Int.cast_ofNat_Int,small,resV, q27x0,t1,t4,t5,t6,s0,s1, s0,s1,lt_nat,Nat.lt_irrefl,l1,l2,l3,k_fixb,R27,N27]
  rw [gc_keep (by simp [flat])]
  rw [hp]
end Go.Pi.L.Ben
