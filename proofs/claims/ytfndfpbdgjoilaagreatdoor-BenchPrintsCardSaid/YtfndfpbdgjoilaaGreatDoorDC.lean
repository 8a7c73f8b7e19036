/- Benches: Check, Ends, Waits, Late, Done. -/
import Derived.Test.YtfndfpbdgjoilaaGreatDoorDB
import Derived.Test.YtfndfpbdgjoilaaGreatDoorLB
set_option linter.all false
set_option maxRecDepth 100000
namespace Go.Pi.L.Ben
open Go Go.Pi Go.Pi.L Go.Pi.E Go.Pi.Ben BM

def encP (x:Int×Int):List Value:=[.int .i64 x.1,.int .i64 x.2]
theorem encP_len (x:Int×Int):(encP x).length=2:=rfl
def wk0 (r:BeR)(a:Option Addr)(l kk mb:Nat):WkR:=⟨r,a,l,kk,mb,-1,0⟩
theorem wk0_ok {H:Heap}{r:BeR}{b:Bench}{a:Option Addr}{l kk mb:Nat}{p:List Int}(hb:BeOk H r b)(hx:Ints H a l p)(hB:isBench b=true)(hP:isPlan b p=true):WkOk H (wk0 r a l kk mb) b p :=
 ⟨hb,hx,fine_of hB,by simp only [isPlan,Bool.and_eq_true,decide_eq_true_eq] at hP; exact hP.1,by simp [wk0],by simp [wk0]⟩
theorem mp_new (V:Bool→Nat→Int)(H:Heap):Mp V (H++[{ obj:=.map mSh [] }]) H.length:=⟨[],by simp,fun e he=>by cases he⟩
abbrev en (b:Bench)(p:List Int)(g:Bool)(n:Nat):Int:=vE b p (-1) 0 g n
abbrev be (b:Bench)(p:List Int)(g:Bool)(n:Nat):Int:=vB b p (-1) 0 g n
def endsL (b:Bench)(p:List Int)(j:Nat):List (Int×Int):=(List.range j).map fun n=>(en b p false n,en b p true n)
theorem endsL_succ (b:Bench)(p:List Int)(j:Nat):endsL b p (j+1)=endsL b p j++[(en b p false j,en b p true j)]:=by simp [endsL,List.range_succ]
def waitsL (b:Bench)(p:List Int)(j:Nat):List Int:=(List.range j).map fun n=>be b p true n - freeN p (en b p true) n
theorem waitsL_succ (b:Bench)(p:List Int)(j:Nat):waitsL b p (j+1)=waitsL b p j++[be b p true j - freeN p (en b p true) j]:=by simp [waitsL,List.range_succ]

theorem e32 {H:Heap}{r:BeR}{b:Bench}{a:Option Addr}{l kk:Nat}{p:List Int}(hb:BeOk H r b)(hd:SmB r)(hx:Ints H a l p)(hl:l < 1000000)(h:(isBench b&&isPlan b p)=false) :
  ∀H',Grow H H'→R (.func 32) [.agg #[.int .i64 r.app,.slice r.ba r.bl r.bk,.slice r.sa r.sl r.sk],.slice a l kk] H'=some ⟨.ok (.tuple #[.slice none 0 0,.int .i64 2]),H',H'.length⟩:=by
 intro H' hg
 refine run_k (pr 32) P32 (by simp [p32]) rfl ?_
 have k1:=c74 hb hd H' hg
 have k2:=c75 (kk:=kk) hb hx hl H' hg
 have l3:=hx.isLoc kk
 obtain ⟨app,ba,bl,bk,sa,sl,sk,xs⟩:=r
 have hB:Ints H ba bl b.boards:=hb.br
 have hS:Sl H 5 eK sa sl xs:=hb.st
 have l1:=hB.isLoc bk
 have l2:=hS.isLoc sk
 simp only at k1 k2 ⊢
 cases q:isBench b with
 | false=>rw [q] at k1; simp (maxDischargeDepth:=8) only [↓SD,SU,SV,SW,simprocAttr,Int.cast_ofNat_Int,small,resV, B32,R32,N32,b32, l1,l2,l3,k1,R32,N32]
 | true =>
  rw [q,Bool.true_and] at h
  rw [q] at k1
  rw [h] at k2
  simp (maxDischargeDepth:=8) only [↓SD,SU,SV,SW,simprocAttr,Int.cast_ofNat_Int,small,resV, B32,R32,N32,b32, l1,l2,l3,k1,k2,R32,N32]
theorem e33 {H:Heap}{r:BeR}{b:Bench}{a:Option Addr}{l kk:Nat}{p:List Int}(hb:BeOk H r b)(hd:SmB r)(hx:Ints H a l p)(hl:l < 1000000)(h:(isBench b&&isPlan b p)=false) :
  ∀H',Grow H H'→R (.func 33) [.agg #[.int .i64 r.app,.slice r.ba r.bl r.bk,.slice r.sa r.sl r.sk],.slice a l kk] H'=some ⟨.ok (.tuple #[.slice none 0 0,.int .i64 2]),H',H'.length⟩:=by
 intro H' hg
 refine run_k (pr 33) P33 (by simp [p33]) rfl ?_
 have k1:=c74 hb hd H' hg
 have k2:=c75 (kk:=kk) hb hx hl H' hg
 have l3:=hx.isLoc kk
 obtain ⟨app,ba,bl,bk,sa,sl,sk,xs⟩:=r
 have hB:Ints H ba bl b.boards:=hb.br
 have hS:Sl H 5 eK sa sl xs:=hb.st
 have l1:=hB.isLoc bk
 have l2:=hS.isLoc sk
 simp only at k1 k2 ⊢
 cases q:isBench b with
 | false=>rw [q] at k1; simp (maxDischargeDepth:=8) only [↓SD,SU,SV,SW,simprocAttr,Int.cast_ofNat_Int,small,resV, B33,R33,N33,b33, l1,l2,l3,k1,R33,N33]
 | true =>
  rw [q,Bool.true_and] at h
  rw [q] at k1
  rw [h] at k2
  simp (maxDischargeDepth:=8) only [↓SD,SU,SV,SW,simprocAttr,Int.cast_ofNat_Int,small,resV, B33,R33,N33,b33, l1,l2,l3,k1,k2,R33,N33]
theorem freeN_b {p:List Int}{e:Nat→Int}(h:∀n,0≤e n∧e n≤15*((n:Int)+1)){n:Nat}(hn:n < 6):0≤freeN p e n∧freeN p e n≤90:=by
 unfold freeN
 cases hb:beforeN p n n with
 | none=>exact ⟨by simp,by simp⟩
 | some k =>
  have:=(before_some hb).1
  have:=h k
  simp only
  omega
theorem c33 {H:Heap}{r:BeR}{b:Bench}{a:Option Addr}{l kk:Nat}{p:List Int}(hb:BeOk H r b)(hd:SmB r)(hx:Ints H a l p)(hl:l < 1000000)(hB:isBench b=true)(hP:isPlan b p=true) :
  ∀H',Grow H H'→Yes (R (.func 33) [.agg #[.int .i64 r.app,.slice r.ba r.bl r.bk,.slice r.sa r.sl r.sk],.slice a l kk] H') (QP H' 1 encI (waitsL b p b.strokes.length) (.int .i64 0)):=by
 intro H' hg
 refine run_y (pr 33) P33 (by simp [p33]) rfl ?_
 have k1:=c74 hb hd H' hg
 have k2:=c75 (kk:=kk) hb hx hl H' hg
 have k3:=c76 (kk:=kk) hb hx H' hg
 rw [hB] at k1
 rw [hP] at k2
 have l3:=hx.isLoc kk
 generalize hH0:H'++[({ obj:=.map mSh [] }:Blk)]=H0 at k3
 have u0:Up H' H0:=by rw [←hH0]; exact (Up.refl _).app
 have hw:=wk0_ok (kk:=kk) (mb:=H'.length) (hb.grow (hg.trans u0.grow)) (hx.grow (hg.trans u0.grow)) hB hP
 have hm:Mp (vE b p (-1) 0) H0 H'.length:=by rw [←hH0]; exact mp_new _ _
 have hsl:r.sl=b.strokes.length:=hb.len.symm
 have n6:=hw.fi.n6
 have hE:=fun n hn=>c79' hw (n:=n) hn true
 have hF:=fun n hn=>c80' hw (n:=n) hn true
 have hvb:=fun n=>vE_b hw.fi (p:=p) (lg:=-1) hw.by0 hw.by9 true n
 have hmb:=hm.lt
 unfold V wk0 at hE hF
 simp only [wk0] at hvb
 obtain ⟨app,ba,bl,bk,sa,sl,sk,xs⟩:=r
 have hB:Ints H ba bl b.boards:=hb.br
 have hS:Sl H 5 eK sa sl xs:=hb.st
 have l1:=hB.isLoc bk
 have l2:=hS.isLoc sk
 simp only [wI] at k1 k2 k3 hE hF hsl ⊢
 rw [←hsl]
 simp (maxDischargeDepth:=8) only [↓SD,SU,SV,SW,simprocAttr,Int.cast_ofNat_Int,small,resV, B33,R33,N33,b33, l1,l2,l3,loc_m,k1,k2,k3]
 refine loop_ind (G:=(Yes · (QP H' 1 encI (waitsL b p sl) (.int .i64 0)))) (fun j σ=>∃T S H3 al c m lim,σ=⟨T,S,[],H3,lim,43,false⟩∧get T 2=.pointer (some ⟨2,0,some 1⟩)∧get T 6=.pointer (some ⟨6,0,some 1⟩)∧get T 7=.slice al c m∧get T 24=.slice sa sl sk∧get T 25=.int .i64 sl∧get T 26=.int .i64 (j:Nat)∧sget S 6=(1,.cells [.int .i64 app,.slice ba bl bk,.slice sa sl sk,.slice a l kk,.map (some H'.length),.int .i64 (-1),.int .i64 0])∧(Bld H0.length H3 1 al c m (cells encI (waitsL b p j))∧Chg (·=H'.length) H0 H3∧Mp (vE b p (-1) 0) H3 H'.length∧H'.length≤lim)) (sl) ?_ ?_ 0 _ (Nat.zero_le _) ⟨_,_,_,_,_,_,_,rfl,rfl,rfl,rfl,rfl,rfl,rfl,rfl,⟨Bld.nil _ _ _,Chg.refl _ _,hm,by omega⟩⟩
 ·rintro c' j s hj ⟨T,S,H3,al,c,m,lim,rfl,t2,t6,t7,t24,t25,t26,s0,hp⟩ ih
  obtain ⟨hbd,hch,hm3,hlim⟩:=hp
  have hg3:Grow H0 H3:=hch.grow_map hm.hc
  have hw1:=wrap_succ j (by omega)
  have hl3:=hm3.lt
  have l7:isLoc (.slice al c m)=false:=hbd.isLoc _ _
  have hcl:c=(waitsL b p j).length:=by rw [←(hbd.sl encI_len (by decide)).len]
  have hcj:c=j:=by rw [hcl]; simp [waitsL]
  obtain ⟨o,ho1,H4,lo4,rfl,ch4,hm4,hl4⟩:=hE j (by omega) H3 hg3 hm3
  obtain ⟨o,ho2,H5,lo5,rfl,ch5,hm5,hl5⟩:=hF j (by omega) H4 (hg3.trans (ch4.grow_map hm3.hc)) hm4
  have hl4:H'.length≤lo4:=hl4
  have hl5:H'.length≤lo5:=hl5
  have hkp:=kept_of ch4 hm3 hm4
  have hkp2:=kept_of ch5 hm4 hm5
  have bd4:=(hbd.chg ch4 (fun i hi=>by subst hi; exact hmb)).chg ch5 (fun i hi=>by subst hi; exact hmb)
  have h34:=ch4.len
  have h45:=ch5.len
  have h03:=hch.len
  obtain ⟨H6,q1,q2,q3,q4⟩:=bd4.app (by decide) (by decide) (by omega) (by omega) [.int .i64 (be b p true j - freeN p (en b p true) j)] rfl
  have ch6:=q3.chg bd4 ((hch.trans ch4 (fun _ _ h=>h)).trans ch5 (fun _ _ h=>h)) (Nat.le_refl _)
  have hm6:=hm5.same (q3.at bd4 hmb hm5.lt)
  have h56:=q3.len
  have hfb:=freeN_b (p:=p) hvb (n:=j) (by omega)
  have hbb:=hvb j
  have hbe:vE b p (-1) 0 true j=vB b p (-1) 0 true j+durW b (-1) 0 true j:=rfl
  have hdb:=durW_b hw.fi (lg:=-1) hw.by0 hw.by9 true j
  simp only [wk0] at hdb
  have hw2:IntKind.wrap .i64 (vB b p (-1) 0 true j - freeN p (vE b p (-1) 0 true) j)=be b p true j - freeN p (en b p true) j:=wrap_id _ (by omega) (by omega)
  simp (maxDischargeDepth:=8) only [↓SD,SU,SV,SW,simprocAttr,Int.cast_ofNat_Int,small,resV, q33x0,t2,t6,t7,t24,t25,t26,s0, lt_nat,hj,l1,l2,l3,l7,loc_m,hw1,hw2,ho1,ho2,rD_kept,hkp,hkp2,q1]
  exact ih _ ⟨_,_,(H6),(some ⟨H5.length,0,none⟩),(c+1),(1),(_),rfl,(by simp [get_set,t2] <;> omega),(by simp [get_set,t6] <;> omega),(by simp [get_set,t7] <;> omega),(by simp [get_set,t24] <;> omega),(by simp [get_set,t25] <;> omega),(by simp [get_set,t26] <;> omega),by simp [sget_sset,s0],⟨by rw [waitsL_succ,cells_app]; exact q2,ch6,hm6,by omega⟩⟩
 ·rintro c' s ⟨T,S,H3,al,c,m,lim,rfl,t2,t6,t7,t24,t25,t26,s0,hp⟩
  obtain ⟨hbd,hch,hm3,hlim⟩:=hp
  have l7:isLoc (.slice al c m)=false:=hbd.isLoc _ _
  simp (maxDischargeDepth:=8) only [↓SD,SU,SV,SW,simprocAttr,Int.cast_ofNat_Int,small,resV, q33x0,t2,t6,t7,t24,t25,t26,s0, lt_nat,Nat.lt_irrefl,l1,l2,l3,l7,loc_m,R33,N33]
  rw [yes_some]
  exact gc_sp (hbd.sl encI_len (by decide)) (hch.up' u0 (fun i hi h=>by omega)) (by have:=hm3.lt; omega)
end Go.Pi.L.Ben
set_option maxRecDepth 100000
namespace Go.Pi.L.Ben
open Go Go.Pi Go.Pi.L Go.Pi.E Go.Pi.Ben BM

abbrev dn (b:Bench)(p:List Int)(g:Bool)(n:Int):Int:=doneN b (vE b p (-1) 0 g) n
def late1 (due lo hi:Int):Int:=if due < lo then 3 else if due < hi then 2 else 1
def lateL (b:Bench)(p:List Int)(bs:List Int)(j:Nat):List Int:=(bs.take j).zipIdx.map fun x=>late1 x.1 (dn b p false x.2) (dn b p true x.2)
theorem lateL_succ {b:Bench}{p bs:List Int}{j:Nat}{d:Int}(h:bs[j]?=some d):lateL b p bs (j+1)=lateL b p bs j++[late1 d (dn b p false j) (dn b p true j)]:=by
 unfold lateL
 rw [take_get h,List.zipIdx_append,List.map_append,List.length_take]
 have:min j bs.length=j:=by have:=(List.getElem?_eq_some_iff.1 h).1; omega
 simp [this]
theorem lateL_len {b:Bench}{p bs:List Int}{j:Nat}(h:j≤bs.length):(lateL b p bs j).length=j:=by
 unfold lateL
 simp; omega
theorem c32 {H:Heap}{r:BeR}{b:Bench}{a:Option Addr}{l kk:Nat}{p:List Int}(hb:BeOk H r b)(hd:SmB r)(hx:Ints H a l p)(hl:l < 1000000)(hB:isBench b=true)(hP:isPlan b p=true) :
  ∀H',Grow H H'→Yes (R (.func 32) [.agg #[.int .i64 r.app,.slice r.ba r.bl r.bk,.slice r.sa r.sl r.sk],.slice a l kk] H') (QP H' 1 encI (lateL b p b.boards b.boards.length) (.int .i64 0)):=by
 intro H' hg
 refine run_y (pr 32) P32 (by simp [p32]) rfl ?_
 have k1:=c74 hb hd H' hg
 have k2:=c75 (kk:=kk) hb hx hl H' hg
 have k3:=c76 (kk:=kk) hb hx H' hg
 rw [hB] at k1
 rw [hP] at k2
 have l3:=hx.isLoc kk
 generalize hH0:H'++[({ obj:=.map mSh [] }:Blk)]=H0 at k3
 have u0:Up H' H0:=by rw [←hH0]; exact (Up.refl _).app
 have hw:=wk0_ok (kk:=kk) (mb:=H'.length) (hb.grow (hg.trans u0.grow)) (hx.grow (hg.trans u0.grow)) hB hP
 have hm:Mp (vE b p (-1) 0) H0 H'.length:=by rw [←hH0]; exact mp_new _ _
 have n6:=hw.fi.n6
 have hE:=fun n g=>c78 hw n g
 have hbl:r.bl=b.boards.length:=hb.blen.symm
 have b3:=hw.fi.b3
 have hbr:=hb.br
 have hmb:=hm.lt
 unfold V wk0 at hE
 obtain ⟨app,ba,bl,bk,sa,sl,sk,xs⟩:=r
 have hB:Ints H ba bl b.boards:=hb.br
 have hS:Sl H 5 eK sa sl xs:=hb.st
 have l1:=hB.isLoc bk
 have l2:=hS.isLoc sk
 simp only at k1 k2 k3 hE hbl hbr ⊢
 rw [←hbl]
 simp (maxDischargeDepth:=8) only [↓SD,SU,SV,SW,simprocAttr,Int.cast_ofNat_Int,small,resV, B32,R32,N32,b32, l1,l2,l3,loc_m,k1,k2,k3]
 refine loop_ind (G:=(Yes · (QP H' 1 encI (lateL b p b.boards bl) (.int .i64 0)))) (fun j σ=>∃T S H3 al c m lim,σ=⟨T,S,[],H3,lim,57,false⟩∧get T 2=.pointer (some ⟨2,0,some 1⟩)∧get T 6=.pointer (some ⟨6,0,some 1⟩)∧get T 7=.slice al c m∧get T 25=.slice ba bl bk∧get T 26=.int .i64 bl∧get T 27=.int .i64 (j:Nat)∧sget S 6=(1,.cells [.int .i64 app,.slice ba bl bk,.slice sa sl sk,.slice a l kk,.map (some H'.length),.int .i64 (-1),.int .i64 0])∧(Bld H0.length H3 1 al c m (cells encI (lateL b p b.boards j))∧Chg (·=H'.length) H0 H3∧Mp (vE b p (-1) 0) H3 H'.length∧H'.length≤lim)) (bl) ?_ ?_ 0 _ (Nat.zero_le _) ⟨_,_,_,_,_,_,_,rfl,rfl,rfl,rfl,rfl,rfl,rfl,rfl,⟨Bld.nil _ _ _,Chg.refl _ _,hm,by omega⟩⟩
 ·rintro c' j s hj ⟨T,S,H3,al,c,m,lim,rfl,t2,t6,t7,t25,t26,t27,s0,hp⟩ ih
  obtain ⟨hbd,hch,hm3,hlim⟩:=hp
  have hg3:Grow H0 H3:=hch.grow_map hm.hc
  have hw1:=wrap_succ j (by omega)
  have hl3:=hm3.lt
  have l7:isLoc (.slice al c m)=false:=hbd.isLoc _ _
  have hcl:c=(lateL b p b.boards j).length:=by rw [←(hbd.sl encI_len (by decide)).len]
  have hcj:c=j:=by rw [hcl]; exact lateL_len (by omega)
  obtain ⟨b7,o7,due,rfl,hdue,f1⟩:=hbr.i1 hj
  have f1:=f1 H3 (hg.trans (u0.grow.trans hg3))
  have hbl':b.boards.length≤3:=b3
  obtain ⟨o,ho1,H4,lo4,rfl,ch4,hm4,hl4⟩:=hE (j:Nat) false H3 hg3 hm3
  obtain ⟨o,ho2,H5,lo5,rfl,ch5,hm5,hl5⟩:=hE (j:Nat) true H4 (hg3.trans (ch4.grow_map hm3.hc)) hm4
  have hl4:H'.length≤lo4:=hl4
  have hl5:H'.length≤lo5:=hl5
  have hkp:=kept_of ch4 hm3 hm4
  have hkp2:=kept_of ch5 hm4 hm5
  have bd4:=(hbd.chg ch4 (fun i hi=>by subst hi; exact hmb)).chg ch5 (fun i hi=>by subst hi; exact hmb)
  have h34:=ch4.len
  have h45:=ch5.len
  have h03:=hch.len
  have fin:∀word,word=late1 due (dn b p false j) (dn b p true j)→∃H6,(∀{α:Type} (call:CallT) (F:Ex→St→Option α) d kk T S D lo n rnd,ap1 call F (some [.int .i64 word]) (.slice al c m) 1 d kk ⟨T,S,D,H5,lo,n,rnd⟩=nxt call F (some (.slice (some ⟨H5.length,0,none⟩) (c+1) 1)) d kk ⟨T,S,D,H6,lo,n,rnd⟩) ∧
    Bld H0.length H6 1 (some ⟨H5.length,0,none⟩) (c+1) 1 (cells encI (lateL b p b.boards (j+1)))∧Chg (·=H'.length) H0 H6∧Mp (vE b p (-1) 0) H6 H'.length:=by
   intro word hword
   obtain ⟨H6,q1,q2,q3,q4⟩:=bd4.app (by decide) (by decide) (by omega) (by omega) [.int .i64 word] rfl
   exact ⟨H6,q1,by rw [lateL_succ hdue,cells_app,←hword]; exact q2,q3.chg bd4 ((hch.trans ch4 (fun _ _ h=>h)).trans ch5 (fun _ _ h=>h)) (Nat.le_refl _),hm5.same (q3.at bd4 hmb hm5.lt)⟩
  simp only [wI] at ho1 ho2
  by_cases g1:due < dn b p false j
  ·obtain ⟨H6,q1,q2,q3,q4⟩:=fin 3 (by rw [late1,if_pos g1])
   simp (maxDischargeDepth:=8) only [↓SD,SU,SV,SW,simprocAttr,Int.cast_ofNat_Int,small,resV, q32x0,t2,t6,t7,t25,t26,t27,s0, lt_nat,hj,l1,l2,l3,l7,loc_m,f1,hw1,ho1,ho2,rD_kept,hkp,hkp2,g1,q1]
   exact ih _ ⟨_,_,(H6),(some ⟨H5.length,0,none⟩),(c+1),(1),(_),rfl,(by simp [get_set,t2] <;> omega),(by simp [get_set,t6] <;> omega),(by simp [get_set,t7] <;> omega),(by simp [get_set,t25] <;> omega),(by simp [get_set,t26] <;> omega),(by simp [get_set,t27] <;> omega),by simp [sget_sset,s0],⟨q2,q3,q4,by omega⟩⟩
  ·by_cases g2:due < dn b p true j
   ·obtain ⟨H6,q1,q2,q3,q4⟩:=fin 2 (by rw [late1,if_neg g1,if_pos g2])
    simp (maxDischargeDepth:=8) only [↓SD,SU,SV,SW,simprocAttr,Int.cast_ofNat_Int,small,resV, q32x0,t2,t6,t7,t25,t26,t27,s0, lt_nat,hj,l1,l2,l3,l7,loc_m,f1,hw1,ho1,ho2,rD_kept,hkp,hkp2,g1,g2,q1]
    exact ih _ ⟨_,_,(H6),(some ⟨H5.length,0,none⟩),(c+1),(1),(_),rfl,(by simp [get_set,t2] <;> omega),(by simp [get_set,t6] <;> omega),(by simp [get_set,t7] <;> omega),(by simp [get_set,t25] <;> omega),(by simp [get_set,t26] <;> omega),(by simp [get_set,t27] <;> omega),by simp [sget_sset,s0],⟨q2,q3,q4,by omega⟩⟩
   ·obtain ⟨H6,q1,q2,q3,q4⟩:=fin 1 (by rw [late1,if_neg g1,if_neg g2])
    simp (maxDischargeDepth:=8) only [↓SD,SU,SV,SW,simprocAttr,Int.cast_ofNat_Int,small,resV, q32x0,t2,t6,t7,t25,t26,t27,s0, lt_nat,hj,l1,l2,l3,l7,loc_m,f1,hw1,ho1,ho2,rD_kept,hkp,hkp2,g1,g2,q1]
    exact ih _ ⟨_,_,(H6),(some ⟨H5.length,0,none⟩),(c+1),(1),(_),rfl,(by simp [get_set,t2] <;> omega),(by simp [get_set,t6] <;> omega),(by simp [get_set,t7] <;> omega),(by simp [get_set,t25] <;> omega),(by simp [get_set,t26] <;> omega),(by simp [get_set,t27] <;> omega),by simp [sget_sset,s0],⟨q2,q3,q4,by omega⟩⟩
 ·rintro c' s ⟨T,S,H3,al,c,m,lim,rfl,t2,t6,t7,t25,t26,t27,s0,hp⟩
  obtain ⟨hbd,hch,hm3,hlim⟩:=hp
  have l7:isLoc (.slice al c m)=false:=hbd.isLoc _ _
  simp (maxDischargeDepth:=8) only [↓SD,SU,SV,SW,simprocAttr,Int.cast_ofNat_Int,small,resV, q32x0,t2,t6,t7,t25,t26,t27,s0, lt_nat,Nat.lt_irrefl,l1,l2,l3,l7,loc_m,R32,N32]
  rw [yes_some]
  exact gc_sp (hbd.sl encI_len (by decide)) (hch.up' u0 (fun i hi h=>by omega)) (by have:=hm3.lt; omega)

end Go.Pi.L.Ben
set_option maxRecDepth 100000
namespace Go.Pi.L.Ben
open Go Go.Pi Go.Pi.L Go.Pi.E Go.Pi.Ben BM

theorem c30 {H:Heap}{a:Option Addr}{l kk:Nat}{xs:List Int}(v:Int)(hs:Ints H a l xs)(hl:l < 1000000) :
  ∀H',Grow H H'→R (.func 30) [.slice a l kk,.int .i64 v] H'=some ⟨.ok (.bool (xs.any fun x=>decide (x=v))),H',H'.length⟩:=by
 intro H' hg
 refine run_k (pr 30) P30 (by simp [p30]) rfl ?_
 have l1:=hs.isLoc kk
 simp (maxDischargeDepth:=8) only [↓SD,SU,SV,SW,simprocAttr,Int.cast_ofNat_Int,small,resV, B30,R30,N30,b30, l1]
 refine loop_ind (G:=(·=_)) (fun j σ=>∃T,σ=⟨T,[],[],H',(H').length,18,false⟩∧get T 0=.slice a l kk∧get T 1=.int .i64 v∧get T 5=.int .i64 (j:Nat)∧(((xs.drop j).any fun x=>decide (x=v))=(xs.any fun x=>decide (x=v)))) (l) ?_ ?_ 0 _ (Nat.zero_le _) ⟨_,rfl,rfl,rfl,rfl,rfl⟩
 ·rintro c' j s hj ⟨T,rfl,t0,t1,t5,hp⟩ ih
  obtain ⟨b1,o1,x,hxa,hx,e1⟩:=hs.i1 hj
  have e1:=e1 H' hg
  have hw:=wrap_succ j (by omega)
  rw [drop_cons hx,List.any_cons] at hp
  by_cases q:x=v
  ·simp only [q,decide_true,Bool.true_or] at hp
   simp (maxDischargeDepth:=8) only [↓SD,SU,SV,SW,simprocAttr,Int.cast_ofNat_Int,small,resV, q30x0,t0,t1,t5, lt_nat,hj,l1,hxa,e1,q,R30,N30,←hp]
  ·simp only [q,decide_false,Bool.false_or] at hp
   simp (maxDischargeDepth:=8) only [↓SD,SU,SV,SW,simprocAttr,Int.cast_ofNat_Int,small,resV, q30x0,t0,t1,t5, lt_nat,hj,l1,hxa,e1,q,hw]
   exact ih _ ⟨_,rfl,(by simp [get_set,t0] <;> omega),(by simp [get_set,t1] <;> omega),(by simp [get_set,t5] <;> omega),hp⟩
 ·rintro c' s ⟨T,rfl,t0,t1,t5,hp⟩
  rw [drop_all hs.len,List.any_nil] at hp
  simp (maxDischargeDepth:=8) only [↓SD,SU,SV,SW,simprocAttr,Int.cast_ofNat_Int,small,resV, q30x0,t0,t1,t5, lt_nat,Nat.lt_irrefl,l1,R30,N30,←hp]
theorem follows_at {b:Bench}{p:List Int}{k n:Nat}{x y:Int}{s:Stroke}(hx:p[k]?=some x)(hy:p[n]?=some y)(hs:b.strokes[n]?=some s):follows b p k n=(decide (x=y)||s.needs.any fun z=>decide (z=(k:Int))):=by
 unfold follows
 rw [getD_of hx,getD_of hy,hs]
theorem c91 {H:Heap}{r:BeR}{b:Bench}{a:Option Addr}{l kk:Nat}{p:List Int}(hb:BeOk H r b)(hd:SmB r)(hx:Ints H a l p)(hl:l=r.sl){k n:Nat}(hk:k < r.sl)(hn:n < r.sl) :
  ∀H',Grow H H'→R (.func 91) [.agg #[.int .i64 r.app,.slice r.ba r.bl r.bk,.slice r.sa r.sl r.sk],.slice a l kk,.int .i64 k,.int .i64 n] H'=some ⟨.ok (.bool (decide (k < n)&&follows b p k n)),H',H'.length⟩:=by
 intro H' hg
 refine run_k (pr 91) P91 (by simp [p91]) rfl ?_
 have l3:=hx.isLoc kk
 have hst:∀{j:Nat} {k:Sk},r.xs[j]?=some k→b.strokes[j]?=some k.s:=fun h=>hb.at h
 obtain ⟨b1,o1,x,hxa,hx1,e1⟩:=hx.i1 (j:=k) (by omega)
 obtain ⟨b2,o2,y,hya,hy1,e2⟩:=hx.i1 (j:=n) (by omega)
 obtain ⟨b3,o3,s,hsa,hs1,e3⟩:=hb.st.k5 hn
 rw [hxa] at hya
 cases hya
 have e1:=e1 H' hg
 have e2:=e2 H' hg
 have e3:=e3.v4 H' hg
 have hN:=hb.nd s (mem_drop hs1)
 have k1:=c30 (kk:=s.m) (k:Int) hN (hd.n s (mem_drop hs1)) H' hg
 have l4:=hN.isLoc s.m
 rw [follows_at hx1 hy1 (hst hs1)]
 have hkl:k < l:=by omega
 have hnl:n < l:=by omega
 have hn':=hn
 obtain ⟨app,ba,bl,bk,sa,sl,sk,xs⟩:=r
 have hB:Ints H ba bl b.boards:=hb.br
 have hS:Sl H 5 eK sa sl xs:=hb.st
 have l1:=hB.isLoc bk
 have l2:=hS.isLoc sk
 simp only at hsa hn' ⊢
 subst hsa
 by_cases q:k < n
 ·by_cases q2:x=y
  ·simp (maxDischargeDepth:=8) only [↓SD,SU,SV,SW,simprocAttr,Int.cast_ofNat_Int,small,resV, B91,R91,N91,b91, l1,l2,l3,l4,lt_nat,q,hxa,hkl,hnl,e1,e2,q2,R91,N91,Bool.true_and,Bool.true_or]
  ·simp (maxDischargeDepth:=8) only [↓SD,SU,SV,SW,simprocAttr,Int.cast_ofNat_Int,small,resV, B91,R91,N91,b91, l1,l2,l3,l4,lt_nat,q,hxa,hkl,hnl,hn',e1,e2,q2,e3,k1,R91,N91,Bool.true_and,Bool.false_or]
 ·simp (maxDischargeDepth:=8) only [↓SD,SU,SV,SW,simprocAttr,Int.cast_ofNat_Int,small,resV, B91,R91,N91,b91, l1,l2,l3,l4,lt_nat,q,R91,N91,Bool.false_and]
def durG (b:Bench)(g:Bool)(n:Nat):Int:=bif g then high b n else low b n
def hoursL (b:Bench)(g:Bool)(j:Nat):List Int:=(List.range j).map (durG b g)
theorem hoursL_succ (b:Bench)(g:Bool)(j:Nat):hoursL b g (j+1)=hoursL b g j++[durG b g j]:=by simp [hoursL,List.range_succ]
theorem c28 {H:Heap}{r:BeR}{b:Bench}(hb:BeOk H r b)(hd:SmB r)(g:Bool):∀H',Grow H H'→Yes (R (.func 28) [.agg #[.int .i64 r.app,.slice r.ba r.bl r.bk,.slice r.sa r.sl r.sk],.bool g] H') (QS H' 1 encI (hoursL b g b.strokes.length)):=by
 intro H' hg
 refine run_y (pr 28) P28 (by simp [p28]) rfl ?_
 have hst:∀{j:Nat} {k:Sk},r.xs[j]?=some k→b.strokes[j]?=some k.s:=fun h=>hb.at h
 have hle:b.strokes.length=r.sl:=hb.len
 have hdb:=hd.s
 obtain ⟨app,ba,bl,bk,sa,sl,sk,xs⟩:=r
 have hB:Ints H ba bl b.boards:=hb.br
 have hS:Sl H 5 eK sa sl xs:=hb.st
 have l1:=hB.isLoc bk
 have l2:=hS.isLoc sk
 simp only at hst hle hdb ⊢
 rw [hle]
 simp (maxDischargeDepth:=8) only [↓SD,SU,SV,SW,simprocAttr,Int.cast_ofNat_Int,small,resV, B28,R28,N28,b28, l1,l2]
 refine loop_ind (G:=(Yes · (QS H' 1 encI (hoursL b g sl)))) (fun j σ=>∃T S H3 a m lim,σ=⟨T,S,[],H3,lim,36,false⟩∧get T 1=.bool g∧get T 2=.pointer (some ⟨2,0,some 1⟩)∧get T 5=.slice a j m∧get T 6=.int .i64 (j:Nat)∧sget S 2=(1,.cells [.int .i64 app,.slice ba bl bk,.slice sa sl sk])∧(Bld H'.length H3 1 a j m (cells encI (hoursL b g j))∧Up H' H3∧H'.length≤lim)) (sl) ?_ ?_ 0 _ (Nat.zero_le _) ⟨_,_,_,_,_,_,rfl,rfl,rfl,rfl,rfl,rfl,⟨Bld.nil _ _ _,Up.refl _,Nat.le_refl _⟩⟩
 ·rintro c' j s hj ⟨T,S,H3,a,m,lim,rfl,t1,t2,t5,t6,s0,hp⟩ ih
  obtain ⟨hbd,hu,hlim⟩:=hp
  obtain ⟨b1,o1,x,rfl,hx,e1⟩:=hS.k5 hj
  have e2:=e1.v2 H3 (hg.trans hu.grow)
  have e3:=e1.v3 H3 (hg.trans hu.grow)
  have hw:=wrap_succ j (by omega)
  have l7:isLoc (.slice a j m)=false:=hbd.isLoc _ _
  have hlo:low b j=x.s.lo:=by unfold low; rw [hst hx]
  have hhi:high b j=x.s.hi:=by unfold high; rw [hst hx]
  have hul:=hu.len
  obtain ⟨H6,q1,q2,q3,q4⟩:=hbd.app (by decide) (by decide) (by omega) (by omega) [.int .i64 (durG b g j)] rfl
  have u6:=q3.up hbd hu (Nat.le_refl _)
  have h6:=u6.len
  have hdu:durG b g j=bif g then x.s.hi else x.s.lo:=by unfold durG; rw [hlo,hhi]
  cases g with
  | false =>
   rw [cond_false] at hdu
   rw [hdu] at q1
   simp (maxDischargeDepth:=8) only [↓SD,SU,SV,SW,simprocAttr,Int.cast_ofNat_Int,small,resV, q28x0,t1,t2,t5,t6,s0, lt_nat,hj,l1,l2,l7,e2,hw,q1]
   exact ih _ ⟨_,_,(H6),(some ⟨H3.length,0,none⟩),(1),(_),rfl,(by simp [get_set,t1] <;> omega),(by simp [get_set,t2] <;> omega),(by simp [get_set,t5] <;> omega),(by simp [get_set,t6] <;> omega),by simp [sget_sset,s0],⟨by rw [hoursL_succ,cells_app]; exact q2,u6,by omega⟩⟩
  | true =>
   rw [cond_true] at hdu
   rw [hdu] at q1
   simp (maxDischargeDepth:=8) only [↓SD,SU,SV,SW,simprocAttr,Int.cast_ofNat_Int,small,resV, q28x0,t1,t2,t5,t6,s0, lt_nat,hj,l1,l2,l7,e3,hw,q1]
   exact ih _ ⟨_,_,(H6),(some ⟨H3.length,0,none⟩),(1),(_),rfl,(by simp [get_set,t1] <;> omega),(by simp [get_set,t2] <;> omega),(by simp [get_set,t5] <;> omega),(by simp [get_set,t6] <;> omega),by simp [sget_sset,s0],⟨by rw [hoursL_succ,cells_app]; exact q2,u6,by omega⟩⟩
 ·rintro c' s ⟨T,S,H3,a,m,lim,rfl,t1,t2,t5,t6,s0,hp⟩
  obtain ⟨hbd,hu,hlim⟩:=hp
  have l7:isLoc (.slice a sl m)=false:=hbd.isLoc _ _
  simp (maxDischargeDepth:=8) only [↓SD,SU,SV,SW,simprocAttr,Int.cast_ofNat_Int,small,resV, q28x0,t1,t2,t5,t6,s0, lt_nat,Nat.lt_irrefl,l1,l2,l7,R28,N28]
  rw [yes_some]
  exact gc_sl (hbd.sl encI_len (by decide)) hu (by have:=hu.len; omega)
end Go.Pi.L.Ben
set_option maxRecDepth 100000
namespace Go.Pi.L.Ben
open Go Go.Pi Go.Pi.L Go.Pi.E Go.Pi.Ben BM

def castL (ks:List Nat):List Int:=ks.map fun k:Nat=>(k:Int)
theorem castL_get {ks:List Nat}{j:Nat}{x:Int}(h:(castL ks)[j]?=some x):∃k,ks[j]?=some k∧x=(k:Nat):=needs_get rfl h
def readyB (bs hs:List Int)(now:Int)(ks:List Nat):Bool:=ks.all fun k=>!(decide (bs.getD k 0 < 0)||decide (now < bs.getD k 0+hs.getD k 0))
theorem c118 {H:Heap}{a1 a2 a3:Option Addr}{l1 l2 m1 m2 m3:Nat}{ks:List Nat}{bs hs:List Int}{now:Int}(h1:Ints H a1 l1 (castL ks))(h2:Ints H a2 l2 bs)(h3:Ints H a3 l2 hs)(hl:l1 < 1000000)
  (hk:∀k∈ks,k < l2) (hb:∀x∈bs,-1≤x∧x≤1000) (hh:∀x∈hs,0≤x∧x≤1000) :
  ∀H',Grow H H'→R (.func 118) [.slice a1 l1 m1,.slice a2 l2 m2,.slice a3 l2 m3,.int .i64 now] H'=some ⟨.ok (.bool (readyB bs hs now ks)),H',H'.length⟩:=by
 intro H' hg
 refine run_k (pr 118) P118 (by simp [p118]) rfl ?_
 have i1:=h1.isLoc m1
 have i2:=h2.isLoc m2
 have i3:=h3.isLoc m3
 simp (maxDischargeDepth:=8) only [↓SD,SU,SV,SW,simprocAttr,Int.cast_ofNat_Int,small,resV, B118,R118,N118,b118, i1,i2,i3]
 refine loop_ind (G:=(·=_)) (fun j σ=>∃T,σ=⟨T,[],[],H',(H').length,43,false⟩∧get T 0=.slice a1 l1 m1∧get T 1=.slice a2 l2 m2∧get T 2=.slice a3 l2 m3∧get T 3=.int .i64 now∧get T 9=.int .i64 (j:Nat)∧(readyB bs hs now (ks.drop j)=readyB bs hs now ks)) (l1) ?_ ?_ 0 _ (Nat.zero_le _) ⟨_,rfl,rfl,rfl,rfl,rfl,rfl,rfl⟩
 ·rintro c' j s hj ⟨T,rfl,t0,t1,t2,t3,t9,hp⟩ ih
  obtain ⟨b1,o1,x,hx1,hx,e1⟩:=h1.i1 hj
  obtain ⟨k,hkx,rfl⟩:=castL_get hx
  have hkl:=hk k (List.mem_of_getElem? hkx)
  obtain ⟨b2,o2,y,hy1,hy,e2⟩:=h2.i1 hkl
  obtain ⟨b3,o3,z,hz1,hz,e3⟩:=h3.i1 hkl
  have e1:=e1 H' hg
  have e2:=e2 H' hg
  have e3:=e3 H' hg
  have hw:=wrap_succ j (by omega)
  have by_:=hb y (List.mem_of_getElem? hy)
  have bz_:=hh z (List.mem_of_getElem? hz)
  have hw2:IntKind.wrap .i64 (y+z)=y+z:=wrap_id _ (by omega) (by omega)
  unfold readyB at hp
  rw [drop_cons hkx,List.all_cons,getD_of hy,getD_of hz] at hp
  by_cases q1:y < 0
  ·simp only [q1,decide_true,Bool.true_or,Bool.not_true,Bool.false_and] at hp
   simp (maxDischargeDepth:=8) only [↓SD,SU,SV,SW,simprocAttr,Int.cast_ofNat_Int,small,resV, q118x0,t0,t1,t2,t3,t9, lt_nat,hj,hkl,i1,i2,i3,hx1,hy1,hz1,e1,e2,e3,hw2,q1,R118,N118,readyB,←hp]
  ·by_cases q2:now < y+z
   ·simp only [q1,q2,decide_true,decide_false,Bool.false_or,Bool.not_true,Bool.false_and] at hp
    simp (maxDischargeDepth:=8) only [↓SD,SU,SV,SW,simprocAttr,Int.cast_ofNat_Int,small,resV, q118x0,t0,t1,t2,t3,t9, lt_nat,hj,hkl,i1,i2,i3,hx1,hy1,hz1,e1,e2,e3,hw2,q1,q2,R118,N118,readyB,←hp]
   ·simp only [q1,q2,decide_false,Bool.false_or,Bool.not_false,Bool.true_and] at hp
    simp (maxDischargeDepth:=8) only [↓SD,SU,SV,SW,simprocAttr,Int.cast_ofNat_Int,small,resV, q118x0,t0,t1,t2,t3,t9, lt_nat,hj,hkl,i1,i2,i3,hx1,hy1,hz1,e1,e2,e3,hw2,q1,q2,hw]
    exact ih _ ⟨_,rfl,(by simp [get_set,t0] <;> omega),(by simp [get_set,t1] <;> omega),(by simp [get_set,t2] <;> omega),(by simp [get_set,t3] <;> omega),(by simp [get_set,t9] <;> omega),hp⟩
 ·rintro c' s ⟨T,rfl,t0,t1,t2,t3,t9,hp⟩
  have hlen:ks.length=l1:=by rw [←h1.len,castL,List.length_map]
  rw [drop_all hlen] at hp
  have hp:readyB bs hs now ks=true:=hp.symm
  simp (maxDischargeDepth:=8) only [↓SD,SU,SV,SW,simprocAttr,Int.cast_ofNat_Int,small,resV, q118x0,t0,t1,t2,t3,t9, lt_nat,Nat.lt_irrefl,i1,i2,i3,R118,N118,hp]
theorem keepL:∀f g,primsL f=some g→∀args H out,g args H=some out→Fam H→Fam out.H∧Same out.lo H out.H:=by
 intro f g hf
 unfold primsL at hf
 by_cases h:f=25
 ·rw [if_pos h] at hf
  cases hf
  intro args H out ho hF
  dsimp only at ho
  split at ho
  ·cases ho; exact ⟨hF,Same.refl _ _⟩
  ·cases ho
 ·rw [if_neg h] at hf
  by_cases h2:f=96
  ·rw [if_pos h2] at hf
   cases hf
   exact fun args H out ho hF=>Go.Pi.Q.sort_keep ho hF
  ·rw [if_neg h2] at hf
   by_cases h3:f=97
   ·rw [if_pos h3] at hf
    cases hf
    exact fun args H out ho hF=>Go.Pi.Q.compact_keep ho hF
   ·rw [if_neg h3] at hf; exact Go.Pi.Ben.pkeeps f g hf
theorem famR {fn:Fn}{args:List Value}{H:Heap}{o:Out}(h:R fn args H=some o)(hF:Fam H):Fam o.H:=runL_fam keepL h hF

def encV (v:Option Addr×Nat×Nat):List Value:=[.slice v.1 v.2.1 v.2.2]
theorem encV_len (v:Option Addr×Nat×Nat):(encV v).length=1:=rfl
structure LL (n0 n1:Nat)(H:Heap)(vs:List (Option Addr×Nat×Nat))(L:List (List Nat)):Prop where
 len:vs.length=L.length
 inn:∀(i:Nat) (v:Option Addr×Nat×Nat) (ks:List Nat),vs[i]?=some v→L[i]?=some ks→Bld n0 H 1 v.1 v.2.1 v.2.2 (cells encI (castL ks))
 dis:∀(i j:Nat) (v w:Option Addr×Nat×Nat),vs[i]?=some v→vs[j]?=some w→i≠j→v.1=w.1→v.1=none
 low:∀(i:Nat) (v:Option Addr×Nat×Nat) (b off:Nat),vs[i]?=some v→v.1=some ⟨b,off,none⟩→n1 < b
theorem _root_.Go.Pi.L.Bld.grown' {n0:Nat}{H H1:Heap}{k l m:Nat}{a a':Option Addr}{c:List Value}(h:Bld n0 H k a l m c)(g:Grown H H1 a')(hne:a=a'→a=none):Bld n0 H1 k a l m c:=by
 by_cases e:a=a'
 ·have:=hne e
  subst e; subst this
  refine ⟨h.len,?_⟩
  rcases h.ok with h | ⟨b,f,h1,_⟩
  ·exact .inl h
  ·cases h1
 ·exact h.grown g e
theorem set_some {β:Type}{l:List β}{i j:Nat}{x y:β}(h:(l.set i x)[j]?=some y)(hi:i < l.length):(j=i∧y=x)∨(j≠i∧l[j]?=some y):=by
 rw [List.getElem?_set] at h
 by_cases e:i=j
 ·subst e
  rw [if_pos rfl,if_pos hi] at h
  cases h; exact .inl ⟨rfl,rfl⟩
 ·rw [if_neg e] at h
  exact .inr ⟨Ne.symm e,h⟩
theorem LL.app {n0 n1:Nat}{H:Heap}{vs:List (Option Addr×Nat×Nat)}{L:List (List Nat)}(h:LL n0 n1 H vs L)(hF:Fam H)(hn:n0≤H.length)(hn1:n1 < H.length){i:Nat}{v:Option Addr×Nat×Nat}{ks:List Nat}(hv:vs[i]?=some v)(hk:L[i]?=some ks)(hl:v.2.1 < 1000000)(k:Nat) :
  ∃H1,(∀{α:Type} (call:CallT) (F:Ex→St→Option α) d kk T S D lo n rnd,ap1 call F (some [.int .i64 k]) (.slice v.1 v.2.1 v.2.2) 1 d kk ⟨T,S,D,H,lo,n,rnd⟩=nxt call F (some (.slice (some ⟨H.length,0,none⟩) (v.2.1+1) 1)) d kk ⟨T,S,D,H1,lo,n,rnd⟩) ∧
   LL n0 n1 H1 (vs.set i (some ⟨H.length,0,none⟩,v.2.1+1,1)) (L.set i (ks++[k]))∧Grown H H1 v.1∧Fam H1:=by
 obtain ⟨H1,q1,q2,q3,q4⟩:=(h.inn i v ks hv hk).appF hF (by decide) (by decide) hl hn [.int .i64 k] rfl
 have hil:=(List.getElem?_eq_some_iff.1 hv).1
 have lt_of:∀(j:Nat) (w:Option Addr×Nat×Nat) (b off:Nat),vs[j]?=some w→w.1=some ⟨b,off,none⟩→b < H.length:=fun j w b off hw hb=>by
  obtain ⟨ks',hks⟩:∃ks',L[j]?=some ks':=⟨_,List.getElem?_eq_getElem (by rw [←h.len]; exact (List.getElem?_eq_some_iff.1 hw).1)⟩
  rcases (h.inn j w ks' hw hks).ok with ⟨h0,_⟩ | ⟨b',f,h1,_,_,_,h5⟩
  ·rw [hb] at h0; cases h0
  ·rw [hb] at h1; cases h1; exact (List.getElem?_eq_some_iff.1 h5).1
 have hil':i < L.length:=by rw [←h.len]; exact hil
 refine ⟨H1,q1,⟨by simp [h.len],fun j w ks' hw hks=>?_,fun j j' w w' hw hw' hne he=>?_,fun j w b off hw hb=>?_⟩,q3,q4⟩
 ·rcases set_some hw hil with ⟨rfl,rfl⟩ | ⟨hij,hw⟩
  ·rcases set_some hks hil' with ⟨_,rfl⟩ | ⟨hij,_⟩
   ·rw [castL,List.map_append,List.map_singleton,cells_app]; exact q2
   ·exact absurd rfl hij
  ·rcases set_some hks hil' with ⟨rfl,_⟩ | ⟨_,hks⟩
   ·exact absurd rfl hij
   ·exact (h.inn j w ks' hw hks).grown' q3 fun e=>h.dis j i w v hw hv hij e
 ·rcases set_some hw hil with ⟨e1,e2⟩ | ⟨hij,hw2⟩
  ·rcases set_some hw' hil with ⟨e3,_⟩ | ⟨_,hw3⟩
   ·exact absurd (e1.trans e3.symm) hne
   ·exfalso
    rw [e2] at he
    have:=lt_of j' w' H.length 0 hw3 he.symm
    omega
  ·rcases set_some hw' hil with ⟨e3,e4⟩ | ⟨_,hw3⟩
   ·exfalso
    rw [e4] at he
    have:=lt_of j w H.length 0 hw2 he
    omega
   ·exact h.dis j j' w w' hw2 hw3 hne he
 ·rcases set_some hw hil with ⟨rfl,rfl⟩ | ⟨hij,hw⟩
  ·cases hb; exact hn1
  ·exact h.low j w b off hw hb
theorem LL.at {n0 n1:Nat}{H:Heap}{vs:List (Option Addr×Nat×Nat)}{L:List (List Nat)}(h:LL n0 n1 H vs L){i:Nat}{ks:List Nat}(hk:L[i]?=some ks):∃v,vs[i]?=some v∧Ints H v.1 v.2.1 (castL ks)∧v.2.1=ks.length:=by
 obtain ⟨v,hv⟩:∃v,vs[i]?=some v:=⟨_,List.getElem?_eq_getElem (by rw [h.len]; exact (List.getElem?_eq_some_iff.1 hk).1)⟩
 have hs:=(h.inn i v ks hv hk).sl encI_len (by decide)
 exact ⟨v,hv,hs,by rw [←hs.len,castL,List.length_map]⟩
end Go.Pi.L.Ben
