/- Benches: lists that are the same; the specification's Done, Late, Waits. -/
import Derived.Test.YtfndfpbdgjoilaaGreatDoorDD
set_option linter.all false
set_option maxRecDepth 100000
namespace Go.Pi.L
open Go Go.Pi
end Go.Pi.L
namespace Go.Pi.L.Ben
open Go Go.Pi Go.Pi.L Go.Pi.E Go.Pi.Ben BM

theorem dec_cons {β:Type}[DecidableEq β]{xs ys:List β}{j:Nat}{x y:β}(hx:xs[j]?=some x)(hy:ys[j]?=some y):decide (xs.drop j=ys.drop j)=(decide (x=y)&&decide (xs.drop (j+1)=ys.drop (j+1))):=by
 rw [drop_cons hx,drop_cons hy]
 by_cases h:x=y <;> simp [h]
theorem c35 {H:Heap}{a1 a2:Option Addr}{l1 l2 m1 m2:Nat}{xs ys:List Int}(h1:Ints H a1 l1 xs)(h2:Ints H a2 l2 ys)(hl:l1 < 1000000) :
  ∀H',Grow H H'→R (.func 35) [.slice a1 l1 m1,.slice a2 l2 m2] H'=some ⟨.ok (.bool (decide (xs=ys))),H',H'.length⟩:=by
 intro H' hg
 refine run_k (pr 35) P35 (by simp [p35]) rfl ?_
 have i1:=h1.isLoc m1
 have i2:=h2.isLoc m2
 by_cases hll:l1=l2
 case neg =>
  have:¬xs=ys:=fun e=>hll (by rw [←h1.len,←h2.len,e])
  simp (maxDischargeDepth:=8) only [↓SD,SU,SV,SW,simprocAttr,Int.cast_ofNat_Int,small,resV, B35,R35,N35,b35, i1,i2,eq_nat,hll,this,R35,N35]
 subst hll
 simp (maxDischargeDepth:=8) only [↓SD,SU,SV,SW,simprocAttr,Int.cast_ofNat_Int,small,resV, B35,R35,N35,b35, i1,i2,eq_nat]
 refine loop_ind (G:=(·=_)) (fun j σ=>∃T,σ=⟨T,[],[],H',(H').length,26,false⟩∧get T 0=.slice a1 l1 m1∧get T 1=.slice a2 l1 m2∧get T 5=.int .i64 (j:Nat)∧(decide (xs.drop j=ys.drop j)=decide (xs=ys))) (l1) ?_ ?_ 0 _ (Nat.zero_le _) ⟨_,rfl,rfl,rfl,rfl,rfl⟩
 ·rintro c' j s hj ⟨T,rfl,t0,t1,t5,hp⟩ ih
  obtain ⟨b1,o1,x,hx1,hx,e1⟩:=h1.i1 hj
  obtain ⟨b2,o2,y,hy1,hy,e2⟩:=h2.i1 hj
  have e1:=e1 H' hg
  have e2:=e2 H' hg
  have hw:=wrap_succ j (by omega)
  rw [dec_cons hx hy] at hp
  by_cases q:x=y
  ·subst q
   simp only [decide_true,Bool.true_and] at hp
   simp (maxDischargeDepth:=8) only [↓SD,SU,SV,SW,simprocAttr,Int.cast_ofNat_Int,small,resV, q35x0,t0,t1,t5, lt_nat,hj,i1,i2,hx1,hy1,e1,e2,hw]
   exact ih _ ⟨_,rfl,(by simp [get_set,t0] <;> omega),(by simp [get_set,t1] <;> omega),(by simp [get_set,t5] <;> omega),hp⟩
  ·simp only [q,decide_false,Bool.false_and] at hp
   simp (maxDischargeDepth:=8) only [↓SD,SU,SV,SW,simprocAttr,Int.cast_ofNat_Int,small,resV, q35x0,t0,t1,t5, lt_nat,hj,i1,i2,hx1,hy1,e1,e2,q,R35,N35,←hp]
 ·rintro c' s ⟨T,rfl,t0,t1,t5,hp⟩
  rw [drop_all h1.len,drop_all h2.len] at hp
  have hp:decide (xs=ys)=true:=by rw [←hp]; rfl
  simp (maxDischargeDepth:=8) only [↓SD,SU,SV,SW,simprocAttr,Int.cast_ofNat_Int,small,resV, q35x0,t0,t1,t5, lt_nat,Nat.lt_irrefl,i1,i2,R35,N35,hp]
theorem c37 {H:Heap}{a1 a2:Option Addr}{l1 l2 m1 m2:Nat}{xs ys:List Int}(h1:Ints H a1 l1 xs)(h2:Ints H a2 l2 ys)(hl:l1 < 1000000) :
  ∀H',Grow H H'→R (.func 37) [.slice a1 l1 m1,.slice a2 l2 m2] H'=some ⟨.ok (.bool (decide (xs=ys))),H',H'.length⟩:=by
 intro H' hg
 refine run_k (pr 37) P37 (by simp [p37]) rfl ?_
 have i1:=h1.isLoc m1
 have i2:=h2.isLoc m2
 by_cases hll:l1=l2
 case neg =>
  have:¬xs=ys:=fun e=>hll (by rw [←h1.len,←h2.len,e])
  simp (maxDischargeDepth:=8) only [↓SD,SU,SV,SW,simprocAttr,Int.cast_ofNat_Int,small,resV, B37,R37,N37,b37, i1,i2,eq_nat,hll,this,R37,N37]
 subst hll
 simp (maxDischargeDepth:=8) only [↓SD,SU,SV,SW,simprocAttr,Int.cast_ofNat_Int,small,resV, B37,R37,N37,b37, i1,i2,eq_nat]
 refine loop_ind (G:=(·=_)) (fun j σ=>∃T,σ=⟨T,[],[],H',(H').length,26,false⟩∧get T 0=.slice a1 l1 m1∧get T 1=.slice a2 l1 m2∧get T 5=.int .i64 (j:Nat)∧(decide (xs.drop j=ys.drop j)=decide (xs=ys))) (l1) ?_ ?_ 0 _ (Nat.zero_le _) ⟨_,rfl,rfl,rfl,rfl,rfl⟩
 ·rintro c' j s hj ⟨T,rfl,t0,t1,t5,hp⟩ ih
  obtain ⟨b1,o1,x,hx1,hx,e1⟩:=h1.i1 hj
  obtain ⟨b2,o2,y,hy1,hy,e2⟩:=h2.i1 hj
  have e1:=e1 H' hg
  have e2:=e2 H' hg
  have hw:=wrap_succ j (by omega)
  rw [dec_cons hx hy] at hp
  by_cases q:x=y
  ·subst q
   simp only [decide_true,Bool.true_and] at hp
   simp (maxDischargeDepth:=8) only [↓SD,SU,SV,SW,simprocAttr,Int.cast_ofNat_Int,small,resV, q37x0,t0,t1,t5, lt_nat,hj,i1,i2,hx1,hy1,e1,e2,hw]
   exact ih _ ⟨_,rfl,(by simp [get_set,t0] <;> omega),(by simp [get_set,t1] <;> omega),(by simp [get_set,t5] <;> omega),hp⟩
  ·simp only [q,decide_false,Bool.false_and] at hp
   simp (maxDischargeDepth:=8) only [↓SD,SU,SV,SW,simprocAttr,Int.cast_ofNat_Int,small,resV, q37x0,t0,t1,t5, lt_nat,hj,i1,i2,hx1,hy1,e1,e2,q,R37,N37,←hp]
 ·rintro c' s ⟨T,rfl,t0,t1,t5,hp⟩
  rw [drop_all h1.len,drop_all h2.len] at hp
  have hp:decide (xs=ys)=true:=by rw [←hp]; rfl
  simp (maxDischargeDepth:=8) only [↓SD,SU,SV,SW,simprocAttr,Int.cast_ofNat_Int,small,resV, q37x0,t0,t1,t5, lt_nat,Nat.lt_irrefl,i1,i2,R37,N37,hp]
theorem _root_.Go.Pi.L.Sl.p2 {H:Heap}{a:Option Addr}{l:Nat}{xs:List (Int×Int)}(h:Sl H 2 encP a l xs){j:Nat}(hj:j < l) :
  ∃b off x,a=some ⟨b,off,none⟩∧xs[j]?=some x∧(∀H',Grow H H'→rdO (hcells H' b) (off+j*2) (some 2)=some (.agg #[.int .i64 x.1,.int .i64 x.2])) ∧
   (∀H',Grow H H'→rdO (hcells H' b) (off+j*2) none=some (.int .i64 x.1))∧(∀H',Grow H H'→rdO (hcells H' b) (off+j*2+1) none=some (.int .i64 x.2)):=by
 obtain ⟨b,off,x,h1,h2,h3⟩:=h.at encP_len (by decide) hj
 exact ⟨b,off,x,h1,h2,h3.all,At.v0 h3,At.v1 h3⟩
theorem lastH_snoc (l:List Int)(x:Int):lastH (l++[x])=max (lastH l) x:=by unfold lastH; rw [List.foldl_append]; rfl
theorem c66 {H:Heap}{r:BeR}{b:Bench}{a:Option Addr}{l kk:Nat}{p:List Int}(hb:BeOk H r b)(hf:Fine b)(hx:Sl H 2 encP a l (endsL b p b.strokes.length))(board:Int) :
  ∀H',Grow H H'→R (.func 66) [.agg #[.int .i64 r.app,.slice r.ba r.bl r.bk,.slice r.sa r.sl r.sk],.slice a l kk,.int .i64 board] H'=some ⟨.ok (.agg #[.int .i64 (dn b p false board),.int .i64 (dn b p true board)]),H',H'.length⟩:=by
 intro H' hg
 refine run_k (pr 66) P66 (by simp [p66]) rfl ?_
 have l3:=hx.isLoc kk
 have hlb:b.strokes.length=l:=by rw [←hx.len]; simp [endsL]
 have hsl:r.sl=l:=by rw [←hlb]; exact hb.len.symm
 have n6:=hf.n6
 have hst:∀{j:Nat} {k:Sk},r.xs[j]?=some k→b.strokes[j]?=some k.s:=fun h=>hb.at h
 unfold dn doneN
 rw [hlb] at hx n6 ⊢
 obtain ⟨app,ba,bl,bk,sa,sl,sk,xs⟩:=r
 have hB:Ints H ba bl b.boards:=hb.br
 have hS:Sl H 5 eK sa sl xs:=hb.st
 have l1:=hB.isLoc bk
 have l2:=hS.isLoc sk
 simp only at hsl hst ⊢
 subst hsl
 simp (maxDischargeDepth:=8) only [↓SD,SU,SV,SW,simprocAttr,Int.cast_ofNat_Int,small,resV, B66,R66,N66,b66, l1,l2,l3]
 refine loop_ind (G:=(·=_)) (fun j σ=>∃T S,σ=⟨T,S,[],H',(H').length,41,false⟩∧get T 1=.slice a sl kk∧get T 2=.int .i64 board∧get T 3=.pointer (some ⟨3,0,some 1⟩)∧get T 6=.pointer (some ⟨6,0,some 1⟩)∧get T 7=.pointer (some ⟨7,0,some 1⟩)∧get T 8=.int .i64 (j:Nat)∧sget S 3=(1,.cells [.int .i64 app,.slice ba bl bk,.slice sa sl sk])∧sget S 6=(1,.cells [.int .i64 0,.int .i64 0])∧sget S 7=(1,.cells [.int .i64 (lastH ((ofB b board j).map (vE b p (-1) 0 false))),.int .i64 (lastH ((ofB b board j).map (vE b p (-1) 0 true)))])∧(True)) (sl) ?_ ?_ 0 _ (Nat.zero_le _) ⟨_,_,rfl,rfl,rfl,rfl,rfl,rfl,rfl,rfl,rfl,rfl,trivial⟩
 ·rintro c' j s hj ⟨T,S,rfl,t1,t2,t3,t6,t7,t8,s0,s1,s2,hp⟩ ih
  obtain ⟨b1,o1,x,hxa,hx5,e1⟩:=hS.k5 hj
  have e1:=e1.v0 H' hg
  obtain ⟨b2,o2,y,hya,hy,_,e2,e3⟩:=hx.p2 hj
  have e2:=e2 H' hg
  have e3:=e3 H' hg
  have hye:y=(en b p false j,en b p true j):=by
   rw [show (endsL b p sl)[j]?=some (en b p false j,en b p true j) by simp [endsL,hj]] at hy
   cases hy; rfl
  subst hye
  have hw:=wrap_succ j (by omega)
  have hs:=ofB_succ (board:=board) (hst hx5)
  by_cases q:x.s.board=board
  ·rw [if_pos q] at hs
   have m1:lastH ((ofB b board (j+1)).map (vE b p (-1) 0 false))=max (lastH ((ofB b board j).map (vE b p (-1) 0 false))) (en b p false j):=by rw [hs,List.map_append,List.map_singleton,lastH_snoc]
   have m2:lastH ((ofB b board (j+1)).map (vE b p (-1) 0 true))=max (lastH ((ofB b board j).map (vE b p (-1) 0 true))) (en b p true j):=by rw [hs,List.map_append,List.map_singleton,lastH_snoc]
   simp (maxDischargeDepth:=8) only [↓SD,SU,SV,SW,simprocAttr,Int.cast_ofNat_Int,small,resV, q66x0,t1,t2,t3,t6,t7,t8,s0,s1,s2, lt_nat,hj,l1,l2,l3,hxa,hya,e1,e2,e3,q,hw,k_fixb]
   exact ih _ ⟨_,_,rfl,by simp [get_set,t1],by simp [get_set,t2],by simp [get_set,t3],by simp [get_set,t6],by simp [get_set,t7],by simp [get_set],by simp [sget_sset,s0],by simp [sget_sset,s1],(by simp [sget_sset,m1,m2]; constructor <;> (split <;> omega)),trivial⟩
  ·rw [if_neg q] at hs
   rw [←hs] at s2
   simp (maxDischargeDepth:=8) only [↓SD,SU,SV,SW,simprocAttr,Int.cast_ofNat_Int,small,resV, q66x0,t1,t2,t3,t6,t7,t8,s0,s1,s2, lt_nat,hj,l1,l2,l3,hxa,hya,e1,q,hw]
   exact ih _ ⟨_,_,rfl,(by simp [get_set,t1] <;> omega),(by simp [get_set,t2] <;> omega),(by simp [get_set,t3] <;> omega),(by simp [get_set,t6] <;> omega),(by simp [get_set,t7] <;> omega),(by simp [get_set,t8] <;> omega),by simp [sget_sset,s0],by simp [sget_sset,s1],by simp [sget_sset,s2],trivial⟩
 ·rintro c' s ⟨T,S,rfl,t1,t2,t3,t6,t7,t8,s0,s1,s2,hp⟩
  simp (maxDischargeDepth:=8) only [↓SD,SU,SV,SW,simprocAttr,Int.cast_ofNat_Int,small,resV, q66x0,t1,t2,t3,t6,t7,t8,s0,s1,s2, lt_nat,Nat.lt_irrefl,l1,l2,l3,R66,N66]
end Go.Pi.L.Ben
set_option maxRecDepth 100000
namespace Go.Pi.L.Ben
open Go Go.Pi Go.Pi.L Go.Pi.E Go.Pi.Ben BM

theorem c36 {H:Heap}{r:BeR}{b:Bench}{a:Option Addr}{l kk:Nat}{p:List Int}(hb:BeOk H r b)(hd:SmB r)(hx:Ints H a l p)(hf:Fine b)(hlen:p.length=b.strokes.length) :
  ∀H',Grow H H'→Fam H'→Yes (R (.func 36) [.agg #[.int .i64 r.app,.slice r.ba r.bl r.bk,.slice r.sa r.sl r.sk],.slice a l kk] H') (QS H' 1 encI (lateL b p b.boards b.boards.length)):=by
 intro H' hg hF
 refine run_y (pr 36) P36 (by simp [p36]) rfl ?_
 have l3:=hx.isLoc kk
 have b3:=hf.b3
 obtain ⟨o,ho1,a1,m1,H1,lo1,rfl,u1,hlo1,s1⟩:=c65 (kk:=kk) hb hd hx hf hlen H' hg hF
 have k6:=fun board H2 (hu:Up H1 H2)=>c66 (kk:=m1) (hb.grow (hg.trans u1.grow)) hf (by rw [show (endsL b p b.strokes.length).length=b.strokes.length by simp [endsL]] at s1; exact s1) board H2 hu.grow
 have hel:(endsL b p b.strokes.length).length=b.strokes.length:=by simp [endsL]
 rw [hel] at ho1 s1
 have l4:=s1.isLoc m1
 have hbl:b.boards.length=r.bl:=hb.blen
 have h1:=u1.len
 have hbr:=hb.br
 rw [hbl] at b3 ⊢
 obtain ⟨app,ba,bl,bk,sa,sl,sk,xs⟩:=r
 have hB:Ints H ba bl b.boards:=hb.br
 have hS:Sl H 5 eK sa sl xs:=hb.st
 have l1:=hB.isLoc bk
 have l2:=hS.isLoc sk
 simp only at ho1 k6 b3 hbr ⊢
 simp (maxDischargeDepth:=8) only [↓SD,SU,SV,SW,simprocAttr,Int.cast_ofNat_Int,small,resV, B36,R36,N36,b36, l1,l2,l3,l4,ho1]
 refine loop_ind (G:=(Yes · (QS H' 1 encI (lateL b p b.boards bl)))) (fun j σ=>∃T S H3 al m lim,σ=⟨T,S,[],H3,lim,45,false⟩∧get T 2=.pointer (some ⟨2,0,some 1⟩)∧get T 5=.slice a1 b.strokes.length m1∧get T 6=.slice al j m∧get T 7=.int .i64 (j:Nat)∧sget S 2=(1,.cells [.int .i64 app,.slice ba bl bk,.slice sa sl sk])∧(Bld H1.length H3 1 al j m (cells encI (lateL b p b.boards j))∧Up H1 H3∧H'.length≤lim)) (bl) ?_ ?_ 0 _ (Nat.zero_le _) ⟨_,_,_,_,_,_,rfl,rfl,rfl,rfl,rfl,rfl,⟨Bld.nil _ _ _,Up.refl _,by omega⟩⟩
 ·rintro c' j s hj ⟨T,S,H3,al,m,lim,rfl,t2,t5,t6,t7,s0,hp⟩ ih
  obtain ⟨hbd,hu,hlim⟩:=hp
  have hw:=wrap_succ j (by omega)
  have l8:isLoc (.slice al j m)=false:=hbd.isLoc _ _
  obtain ⟨b7,o7,due,hba,hdue,f1⟩:=hbr.i1 hj
  have f1:=f1 H3 (hg.trans (u1.grow.trans hu.grow))
  have k7:=k6 (j:Nat) H3 hu
  have hul:=hu.len
  have fin:∀word,word=late1 due (dn b p false j) (dn b p true j)→∃H6,(∀{α:Type} (call:CallT) (F:Ex→St→Option α) d kk T S D lo n rnd,ap1 call F (some [.int .i64 word]) (.slice al j m) 1 d kk ⟨T,S,D,H3,lo,n,rnd⟩=nxt call F (some (.slice (some ⟨H3.length,0,none⟩) (j+1) 1)) d kk ⟨T,S,D,H6,lo,n,rnd⟩) ∧
    Bld H1.length H6 1 (some ⟨H3.length,0,none⟩) (j+1) 1 (cells encI (lateL b p b.boards (j+1)))∧Up H1 H6:=by
   intro word hword
   obtain ⟨H6,q1,q2,q3,q4⟩:=hbd.app (by decide) (by decide) (by omega) hul [.int .i64 word] rfl
   exact ⟨H6,q1,by rw [lateL_succ hdue,cells_app,←hword]; exact q2,q3.up hbd hu (Nat.le_refl _)⟩
  subst hba
  by_cases g1:due < dn b p false j
  ·obtain ⟨H6,q1,q2,q3⟩:=fin 3 (by rw [late1,if_pos g1])
   simp (maxDischargeDepth:=8) only [↓SD,SU,SV,SW,simprocAttr,Int.cast_ofNat_Int,small,resV, q36x0,t2,t5,t6,t7,s0, lt_nat,hj,l1,l2,l3,l4,l8,f1,k7,hw,g1,q1]
   exact ih _ ⟨_,_,(H6),(some ⟨H3.length,0,none⟩),(1),(_),rfl,(by simp [get_set,t2] <;> omega),(by simp [get_set,t5] <;> omega),(by simp [get_set,t6] <;> omega),(by simp [get_set,t7] <;> omega),by simp [sget_sset,s0],⟨q2,q3,by omega⟩⟩
  ·by_cases g2:due < dn b p true j
   ·obtain ⟨H6,q1,q2,q3⟩:=fin 2 (by rw [late1,if_neg g1,if_pos g2])
    simp (maxDischargeDepth:=8) only [↓SD,SU,SV,SW,simprocAttr,Int.cast_ofNat_Int,small,resV, q36x0,t2,t5,t6,t7,s0, lt_nat,hj,l1,l2,l3,l4,l8,f1,k7,hw,g1,g2,q1]
    exact ih _ ⟨_,_,(H6),(some ⟨H3.length,0,none⟩),(1),(_),rfl,(by simp [get_set,t2] <;> omega),(by simp [get_set,t5] <;> omega),(by simp [get_set,t6] <;> omega),(by simp [get_set,t7] <;> omega),by simp [sget_sset,s0],⟨q2,q3,by omega⟩⟩
   ·obtain ⟨H6,q1,q2,q3⟩:=fin 1 (by rw [late1,if_neg g1,if_neg g2])
    simp (maxDischargeDepth:=8) only [↓SD,SU,SV,SW,simprocAttr,Int.cast_ofNat_Int,small,resV, q36x0,t2,t5,t6,t7,s0, lt_nat,hj,l1,l2,l3,l4,l8,f1,k7,hw,g1,g2,q1]
    exact ih _ ⟨_,_,(H6),(some ⟨H3.length,0,none⟩),(1),(_),rfl,(by simp [get_set,t2] <;> omega),(by simp [get_set,t5] <;> omega),(by simp [get_set,t6] <;> omega),(by simp [get_set,t7] <;> omega),by simp [sget_sset,s0],⟨q2,q3,by omega⟩⟩
 ·rintro c' s ⟨T,S,H3,al,m,lim,rfl,t2,t5,t6,t7,s0,hp⟩
  obtain ⟨hbd,hu,hlim⟩:=hp
  have l8:isLoc (.slice al bl m)=false:=hbd.isLoc _ _
  simp (maxDischargeDepth:=8) only [↓SD,SU,SV,SW,simprocAttr,Int.cast_ofNat_Int,small,resV, q36x0,t2,t5,t6,t7,s0, lt_nat,Nat.lt_irrefl,l1,l2,l3,l4,l8,R36,N36]
  rw [yes_some]
  exact gc_sl (hbd.sl encI_len (by decide)) (u1.trans hu) (by omega)

def frJ (p:List Int)(e:Nat→Int)(n j:Nat):Int:=match beforeN p n j with | some k=>e k | none=>0
theorem frJ_succ {p:List Int}{e:Nat→Int}{n j:Nat}{x y:Int}(hx:p[j]?=some x)(hy:p[n]?=some y):frJ p e n (j+1)=if x=y then e j else frJ p e n j:=by
 unfold frJ
 rw [beforeN,getD_of hx,getD_of hy]
 by_cases q:x=y
 ·rw [if_pos q,if_pos q]
 ·rw [if_neg q,if_neg q]
theorem c38 {H:Heap}{r:BeR}{b:Bench}{a:Option Addr}{l kk:Nat}{p:List Int}(hb:BeOk H r b)(hd:SmB r)(hx:Ints H a l p)(hf:Fine b)(hlen:p.length=b.strokes.length) :
  ∀H',Grow H H'→Fam H'→Yes (R (.func 38) [.agg #[.int .i64 r.app,.slice r.ba r.bl r.bk,.slice r.sa r.sl r.sk],.slice a l kk] H') (QS H' 1 encI (waitsL b p b.strokes.length)):=by
 intro H' hg hF
 refine run_y (pr 38) P38 (by simp [p38]) rfl ?_
 have l3:=hx.isLoc kk
 have hlb:b.strokes.length=l:=by rw [←hlen]; exact hx.len
 have n6:=hf.n6
 obtain ⟨o,ho1,a1,m1,H1,lo1,rfl,u1,hlo1,s1⟩:=c28 hb hd true H' hg
 have hF1:Fam H1:=famR ho1 hF
 have hN1:(hoursL b true b.strokes.length).length=l:=by unfold hoursL; rw [List.length_map,List.length_range,hlb]
 rw [hN1] at ho1 s1
 obtain ⟨o,ho2,a2,m2,H2,lo2,rfl,u2,hlo2,bd2⟩:=c82 (kk:=kk) (mh:=m1) (hb.grow (hg.trans u1.grow)) hd (Sl.grow hx (hg.trans u1.grow)) hf hlen (dur:=durG b true) s1 (durG_b hf true) H1 (Grow.refl _) hF1
 have s2:=bd2.sl encI_len (by decide)
 rw [List.length_map,List.length_range,hlb] at ho2 s2
 have s1:=s1.grow u2.grow
 unfold hoursL at s1
 rw [hlb] at s1
 have l5:=s1.isLoc m1
 have l6:=s2.isLoc m2
 have h1:=u1.len
 have h2:=u2.len
 have eb:∀n,bN (follows b p) (durG b true) n=be b p true n:=fun n=>(be_eq b p true n).symm
 have ee:∀n,be b p true n+durG b true n=en b p true n:=fun n=>by rw [be_eq,en_eq]; rfl
 have hbb:∀n,n < l→0≤en b p true n∧en b p true n≤100∧0≤be b p true n∧be b p true n≤100:=fun n hn=>by
  have h0:=vE_b hf (p:=p) (lg:=-1) (by_:=0) (by decide) (by decide) true n
  have h3:=bN_nonneg (follows b p) (durG b true) n
  have h4:=durG_b hf true n
  have h5:=ee n
  rw [eb] at h3
  have h6:en b p true n=vE b p (-1) 0 true n:=rfl
  omega
 rw [hlb]
 obtain ⟨app,ba,bl,bk,sa,sl,sk,xs⟩:=r
 have hB:Ints H ba bl b.boards:=hb.br
 have hS:Sl H 5 eK sa sl xs:=hb.st
 have l1:=hB.isLoc bk
 have l2:=hS.isLoc sk
 simp only at ho1 ho2 ⊢
 simp (maxDischargeDepth:=8) only [↓SD,SU,SV,SW,simprocAttr,Int.cast_ofNat_Int,small,resV, B38,R38,N38,b38, l1,l2,l3,l5,l6,ho1,ho2]
 refine loop_ind (G:=(Yes · (QS H' 1 encI (waitsL b p l)))) (fun j σ=>∃T S H3 al m lim,σ=⟨T,S,[],H3,lim,56,false⟩∧get T 1=.slice a l kk∧get T 5=.slice a1 l m1∧get T 6=.slice a2 l m2∧get T 7=.slice al j m∧get T 8=.int .i64 (j:Nat)∧(Bld H2.length H3 1 al j m (cells encI (waitsL b p j))∧Up H2 H3∧H'.length≤lim)) (l) ?_ ?_ 0 _ (Nat.zero_le _) ⟨_,_,_,_,_,_,rfl,rfl,rfl,rfl,rfl,rfl,⟨Bld.nil _ _ _,Up.refl _,by omega⟩⟩
 ·rintro c' j s hj ⟨T,S,H3,al,m,lim,rfl,t1,t5,t6,t7,t8,hp⟩ ih
  obtain ⟨hbd,hu,hlim⟩:=hp
  have ihO:=ih
  clear ih
  obtain ⟨i,rfl⟩:∃i,i=j:=⟨j,rfl⟩
  have hil:=hj
  have hg3:=(hg.trans (u1.grow.trans u2.grow)).trans hu.grow
  have hul:=hu.len
  obtain ⟨b4,o4,y,hy4,hy,e4⟩:=hx.i1 hil
  have e4:=e4 H3 hg3
  have l8:isLoc (.slice al i m)=false:=hbd.isLoc _ _
  simp (maxDischargeDepth:=8) only [↓SD,SU,SV,SW,simprocAttr,Int.cast_ofNat_Int,small,resV, q38x1,t1,t5,t6,t7,t8, lt_nat,hj,l1,l2,l3,l5,l6,l8]
  refine loop_ind (G:=(Yes · (QS H' 1 encI (waitsL b p l)))) (fun j σ=>∃T S lim,σ=⟨T,S,[],H3,lim,56,false⟩∧get T 1=.slice a l kk∧get T 5=.slice a1 l m1∧get T 6=.slice a2 l m2∧get T 7=.slice al i m∧get T 8=.int .i64 (i:Nat)∧get T 9=.int .i64 (frJ p (en b p true) i j)∧get T 10=.int .i64 (j:Nat)∧(H'.length≤lim)) (i) ?_ ?_ 0 _ (Nat.zero_le _) ⟨_,_,_,rfl,(by first | rfl | simp [get_set,t1,t5,t6,t7,t8,frJ,beforeN]),(by first | rfl | simp [get_set,t1,t5,t6,t7,t8,frJ,beforeN]),(by first | rfl | simp [get_set,t1,t5,t6,t7,t8,frJ,beforeN]),(by first | rfl | simp [get_set,t1,t5,t6,t7,t8,frJ,beforeN]),(by first | rfl | simp [get_set,t1,t5,t6,t7,t8,frJ,beforeN]),(by first | rfl | simp [get_set,t1,t5,t6,t7,t8,frJ,beforeN]),(by first | rfl | simp [get_set,t1,t5,t6,t7,t8,frJ,beforeN]),by omega⟩
  ·rintro c' j s hj ⟨T,S,lim,rfl,t1,t5,t6,t7,t8,t9,t10,hp⟩ ih
   have hw:=wrap_succ j (by omega)
   have hjl:j < l:=by omega
   obtain ⟨b5,o5,x,hx5,hx',e5⟩:=hx.i1 hjl
   have e5:=e5 H3 hg3
   have hfr:=frJ_succ (e:=en b p true) hx' hy
   rw [hy4] at hx5
   cases hx5
   by_cases q:x=y
   ·rw [if_pos q] at hfr
    obtain ⟨b6,o6,z,hz6,hz,e6⟩:=s2.i1 hjl
    obtain ⟨b7,o7,u,hu7,hu',e7⟩:=s1.i1 hjl
    have e6:=e6 H3 hu.grow
    have e7:=e7 H3 hu.grow
    have hze:z=be b p true j:=by
     rw [show ((List.range l).map (bN (follows b p) (durG b true)))[j]?=some (bN (follows b p) (durG b true) j) by simp [hjl]] at hz
     cases hz; exact eb j
    have hue:u=durG b true j:=by
     rw [show ((List.range l).map (durG b true))[j]?=some (durG b true j) by simp [hjl]] at hu'
     cases hu'; rfl
    subst hze; subst hue
    have hbj:=hbb j hjl
    have hee:=ee j
    have hw2:IntKind.wrap .i64 (be b p true j+durG b true j)=en b p true j:=by rw [hee]; exact wrap_id _ (by omega) (by omega)
    simp (maxDischargeDepth:=8) only [↓SD,SU,SV,SW,simprocAttr,Int.cast_ofNat_Int,small,resV, q38x0,t1,t5,t6,t7,t8,t9,t10, lt_nat,hj,hil,hjl,l1,l2,l3,l5,l6,l8,hy4,hz6,hu7,e4,e5,e6,e7,q,hw,hw2]
    rw [←hfr]
    exact ih _ ⟨_,_,(_),rfl,(by simp [get_set,t1] <;> omega),(by simp [get_set,t5] <;> omega),(by simp [get_set,t6] <;> omega),(by simp [get_set,t7] <;> omega),(by simp [get_set,t8] <;> omega),(by simp [get_set,t9] <;> omega),(by simp [get_set,t10] <;> omega),by omega⟩
   ·rw [if_neg q] at hfr
    rw [←hfr] at t9
    simp (maxDischargeDepth:=8) only [↓SD,SU,SV,SW,simprocAttr,Int.cast_ofNat_Int,small,resV, q38x0,t1,t5,t6,t7,t8,t9,t10, lt_nat,hj,hil,hjl,l1,l2,l3,l5,l6,l8,hy4,e4,e5,q,hw]
    exact ih _ ⟨_,_,(_),rfl,(by simp [get_set,t1] <;> omega),(by simp [get_set,t5] <;> omega),(by simp [get_set,t6] <;> omega),(by simp [get_set,t7] <;> omega),(by simp [get_set,t8] <;> omega),(by simp [get_set,t9] <;> omega),(by simp [get_set,t10] <;> omega),by omega⟩
  ·rintro c' s ⟨T,S,lim,rfl,t1,t5,t6,t7,t8,t9,t10,hp⟩
   have hw:=wrap_succ i (by omega)
   obtain ⟨b6,o6,z,hz6,hz,e6⟩:=s2.i1 hil
   have e6:=e6 H3 hu.grow
   have hze:z=be b p true i:=by
    rw [show ((List.range l).map (bN (follows b p) (durG b true)))[i]?=some (bN (follows b p) (durG b true) i) by simp [hil]] at hz
    cases hz; exact eb i
   subst hze
   have hfb:0≤frJ p (en b p true) i i∧frJ p (en b p true) i i≤100:=by
    unfold frJ
    cases hbf:beforeN p i i with
    | none=>simp
    | some k =>
     have:=(before_some hbf).1
     have:=hbb k (by omega)
     simp only; omega
   have hbi:=hbb i hil
   have hw2:IntKind.wrap .i64 (be b p true i - frJ p (en b p true) i i)=be b p true i - frJ p (en b p true) i i:=wrap_id _ (by omega) (by omega)
   obtain ⟨H6,q1,q2,q3,q4⟩:=hbd.app (by decide) (by decide) (by omega) hul [.int .i64 (be b p true i - frJ p (en b p true) i i)] rfl
   have u6:=q3.up hbd hu (Nat.le_refl _)
   have h6:=u6.len
   simp (maxDischargeDepth:=8) only [↓SD,SU,SV,SW,simprocAttr,Int.cast_ofNat_Int,small,resV, q38x0,t1,t5,t6,t7,t8,t9,t10, lt_nat,Nat.lt_irrefl,hil,l1,l2,l3,l5,l6,l8,hz6,e6,hw,hw2,q1]
   exact ihO _ ⟨_,_,H6,some ⟨H3.length,0,none⟩,1,_,rfl,by simp [get_set,t1],by simp [get_set,t5],by simp [get_set,t6],by simp [get_set],by simp [get_set,t8],by rw [waitsL_succ,cells_app]; exact q2,u6,by omega⟩
 ·rintro c' s ⟨T,S,H3,al,m,lim,rfl,t1,t5,t6,t7,t8,hp⟩
  obtain ⟨hbd,hu,hlim⟩:=hp
  have l8:isLoc (.slice al l m)=false:=hbd.isLoc _ _
  simp (maxDischargeDepth:=8) only [↓SD,SU,SV,SW,simprocAttr,Int.cast_ofNat_Int,small,resV, q38x1,t1,t5,t6,t7,t8,lt_nat,Nat.lt_irrefl,l1,l2,l3,l5,l6,l8,R38,N38]
  rw [yes_some]
  exact gc_sl (hbd.sl encI_len (by decide)) ((u1.trans u2).trans hu) (by omega)
end Go.Pi.L.Ben
set_option maxRecDepth 100000
namespace Go.Pi.L
open Go Go.Pi
end Go.Pi.L
namespace Go.Pi.L.Ben
open Go Go.Pi Go.Pi.L Go.Pi.E Go.Pi.Ben BM

theorem c25 (H:Heap):R (.func 25) [] H=some ⟨.ok (.bool true),H,H.length⟩:=runL_prim (by rfl) rfl
theorem c4 {H:Heap}{r:BeR}{b:Bench}{a:Option Addr}{l kk:Nat}{p:List Int}(hb:BeOk H r b)(hx:Ints H a l p)(hF:Fam H) :
  R (.func 4) [.agg #[.int .i64 r.app,.slice r.ba r.bl r.bk,.slice r.sa r.sl r.sk],.slice a l kk] H=some ⟨.ok (.bool true),H,H.length⟩:=by
 refine run_k (pr 4) P4 (by simp [p4]) rfl ?_
 have l1:=hb.br.isLoc r.bk
 have l2:=hb.st.isLoc r.sk
 have l3:=hx.isLoc kk
 have k31:=c31 hb H (Grow.refl _)
 have k22:=c22 (H:=H) a l kk l3
 cases q1:shortB r.xs r with
 | false=>rw [q1] at k31; simp (maxDischargeDepth:=8) only [↓SD,SU,SV,SW,simprocAttr,Int.cast_ofNat_Int,small,resV, B4,R4,N4,b4, l1,l2,l3,k31,c25,R4,N4]
 | true =>
 rw [q1] at k31
 have hd:=short_sm hb q1
 by_cases q2:l≤9
 case neg=>simp (maxDischargeDepth:=8) only [↓SD,SU,SV,SW,simprocAttr,Int.cast_ofNat_Int,small,resV, B4,R4,N4,b4, l1,l2,l3,k31,k22,q2,c25,R4,N4]
 have hl:l < 1000000:=by omega
 cases q3:(isBench b&&isPlan b p) with
 | false =>
  have k32:=e32 (kk:=kk) hb hd hx hl q3 H (Grow.refl _)
  have k33:=e33 (kk:=kk) hb hd hx hl q3 H (Grow.refl _)
  have k34:=c34 hb hd H (Grow.refl _)
  have k23:=c23 (kk:=kk) hb hx hl H (Grow.refl _)
  cases q4:isBench b with
  | false =>
   rw [q4] at k34
   simp (maxDischargeDepth:=8) only [↓SD,SU,SV,SW,simprocAttr,Int.cast_ofNat_Int,small,resV, B4,R4,N4,b4, l1,l2,l3,k31,k22,q2,k32,k33,k34,c25,R4,N4]
  | true =>
   rw [q4,Bool.true_and] at q3
   rw [q4] at k34
   rw [q3] at k23
   simp (maxDischargeDepth:=8) only [↓SD,SU,SV,SW,simprocAttr,Int.cast_ofNat_Int,small,resV, B4,R4,N4,b4, l1,l2,l3,k31,k22,q2,k32,k33,k34,k23,c25,R4,N4]
 | true =>
  obtain ⟨hB,hP⟩:=Bool.and_eq_true_iff.1 q3
  have hf:=fine_of hB
  have hlen:p.length=b.strokes.length:=by simp only [isPlan,Bool.and_eq_true,decide_eq_true_eq] at hP; exact hP.1
  have b3:=hf.b3
  have n6:=hf.n6
  have hll:(lateL b p b.boards b.boards.length).length=b.boards.length:=lateL_len (Nat.le_refl _)
  have hwl:(waitsL b p b.strokes.length).length=b.strokes.length:=by simp [waitsL]
  obtain ⟨o,ho1,a1,m1,H1,lo1,rfl,u1,hlo1,s1⟩:=c32 (kk:=kk) hb hd hx hl hB hP H (Grow.refl _)
  have hF1:Fam H1:=famR ho1 hF
  obtain ⟨o,ho2,a2,m2,H2,lo2,rfl,u2,hlo2,s2⟩:=c33 (kk:=kk) hb hd hx hl hB hP H1 u1.grow
  have hF2:Fam H2:=famR ho2 hF1
  have g2:=u1.grow.trans u2.grow
  have k34:=c34 hb hd H2 g2
  have k23:=c23 (kk:=kk) hb hx hl H2 g2
  rw [hB] at k34
  rw [hP] at k23
  obtain ⟨o,ho3,a3,m3,H3,lo3,rfl,u3,hlo3,s3⟩:=c36 (kk:=kk) hb hd hx hf hlen H2 g2 hF2
  have hF3:Fam H3:=famR ho3 hF2
  have g3:=g2.trans u3.grow
  have k35:=c35 (m1:=m1) (m2:=m3) (s1.grow (u2.grow.trans u3.grow)) s3 (by rw [hll]; omega) H3 (Grow.refl _)
  obtain ⟨o,ho4,a4,m4,H4,lo4,rfl,u4,hlo4,s4⟩:=c38 (kk:=kk) hb hd hx hf hlen H3 g3 hF3
  have k37:=c37 (m1:=m2) (m2:=m4) (s2.grow (u3.grow.trans u4.grow)) s4 (by rw [hwl]; omega) H4 (Grow.refl _)
  have i1:=s1.isLoc m1
  have i2:=s2.isLoc m2
  have i3:=s3.isLoc m3
  have i4:=s4.isLoc m4
  have h1:=u1.len
  have h2:=u2.len
  have h3:=u3.len
  have h4:=u4.len
  simp only [decide_true] at k35 k37
  simp (maxDischargeDepth:=8) only [↓SD,SU,SV,SW,simprocAttr,Int.cast_ofNat_Int,small,resV, B4,R4,N4,b4, l1,l2,l3,i1,i2,i3,i4,k31,k22,q2,ho1,ho2,k34,k23,ho3,k35,ho4,k37,c25,R4,N4]
  first | (rw [gc_ite (by omega)]; simp [flat]; done) | (simp [gcR,flat]; omega)
end Go.Pi.L.Ben
