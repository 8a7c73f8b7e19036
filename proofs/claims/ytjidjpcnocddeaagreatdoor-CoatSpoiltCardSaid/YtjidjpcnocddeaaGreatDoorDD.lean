/- Coats: what the program reads of a text. -/
import Derived.Test.YtjidjpcnocddeaaGreatDoorDC
set_option linter.all false
set_option maxRecDepth 100000
namespace Go.Pi.L.Coa
open Go Go.Pi Go.Pi.L Go.Pi.Coa CM Go.Pi.Q

def normW (n:Nat)(w:List Int):List Int:=((List.range n).filter fun i=>decide (((i:Nat):Int)∈w)).map fun i:Nat=>(i:Int)
theorem mem_normW {n:Nat}{w:List Int}{z:Int}:z∈normW n w↔∃i:Nat,i < n∧z=i∧z∈w:=by
 unfold normW
 simp only [List.mem_map,List.mem_filter,List.mem_range,decide_eq_true_eq]
 constructor
 ·rintro ⟨i,⟨h1,h2⟩,rfl⟩; exact ⟨i,h1,rfl,h2⟩
 ·rintro ⟨i,h1,rfl,h2⟩; exact ⟨i,⟨h1,h2⟩,rfl⟩
theorem normW_succ (n:Nat)(w:List Int):normW (n+1) w=normW n w++(if ((n:Nat):Int)∈w then [((n:Nat):Int)] else []):=by
 unfold normW
 rw [List.range_succ,List.filter_append,List.map_append]
 by_cases h:((n:Nat):Int)∈w <;> simp [h]
theorem normW_congr {n:Nat}{w w':List Int}(h:∀i:Nat,i < n→(((i:Nat):Int)∈w↔((i:Nat):Int)∈w')):normW n w=normW n w':=by
 unfold normW
 congr 1
 refine List.filter_congr fun i hi=>?_
 rw [List.mem_range] at hi
 exact decide_eq_decide.2 (h i hi)
theorem normW_app {n:Nat}(w:List Int):normW n (w++[((n:Nat):Int)])=normW n w:=normW_congr fun i hi=>by
 rw [List.mem_append,List.mem_singleton]
 exact ⟨fun h=>h.resolve_right (by omega),.inl⟩
theorem normW_self {n:Nat}{w:List Int}(h:w=normW n w):((n:Nat):Int) ∉ w:=fun hm=>by
 rw [h,mem_normW] at hm
 obtain ⟨i,h1,h2,_⟩:=hm
 omega
def twoW (w:List (List UInt8)):Option (Int×Int) :=
 match numW (w.getD 1 []),numW (w.getD 2 []) with
 | some a,some b=>some (a,b)
 | _,_=>none
theorem twoW_num {w:List (List UInt8)}{p:Int×Int}(h:twoW w=some p):Num2 p:=by
 unfold twoW at h
 split at h
 ·rename_i a b h1 h2
  cases h
  exact ⟨numW_num h1,numW_num h2⟩
 ·cases h
def addD (s:Sheet)(p:Int×Int)(y:Bool):Sheet:=⟨s.dry++[p],if y=true then s.work++[((s.dry.length:Nat):Int)] else s.work,s.coats⟩
def addC (s:Sheet)(p:Int×Int):Sheet:=⟨s.dry,s.work,s.coats++[p]⟩
def rowP (s:Sheet)(r:List UInt8):Option Sheet :=
 if (spl 32 r).getD 0 []=wDay∧(spl 32 r).length=4 then (twoW (spl 32 r)).map fun p=>addD s p (decide ((spl 32 r).getD 3 []=wYes))
 else if (spl 32 r).getD 0 []=wCoat∧(spl 32 r).length=3 then (twoW (spl 32 r)).map fun p=>addC s p
 else none
def rowsP (t:List UInt8):List (List UInt8):=(spl 10 t).take ((spl 10 t).length - 2)
def s0':Sheet:=⟨[],[],[]⟩
def foldP (s:Sheet)(R:List (List UInt8)):Option Sheet:=R.foldlM rowP s
def parseT (o:Option Sheet)(t:List UInt8):Option Sheet:=match o with | some s=>if textC s=t then some s else none | none=>none
def parseP (t:List UInt8):Option Sheet :=
 if 2≤(spl 10 t).length then parseT (foldP s0' (rowsP t)) t else none
theorem foldP_snoc (s:Sheet)(R:List (List UInt8))(r:List UInt8):foldP s (R++[r])=(foldP s R).bind fun b'=>rowP b' r:=by
 unfold foldP
 rw [List.foldlM_append]
 cases R.foldlM rowP s with
 | none=>rfl
 | some b'=>show (List.foldlM rowP b' [r])=_; simp [List.foldlM]
theorem fold_cut (b0:Sheet):∀R:List (List UInt8),∃K,K≤R.length∧(∀j,j≤K→∃b,foldP b0 (R.take j)=some b)∧(K=R.length∨∃b r,R[K]?=some r∧foldP b0 (R.take K)=some b∧rowP b r=none∧foldP b0 R=none):=by
 intro R
 have key:∀n,n≤R.length→(∀j,j≤n→∃b,foldP b0 (R.take j)=some b)∨∃K b r,K < n∧(∀j,j≤K→∃b,foldP b0 (R.take j)=some b)∧R[K]?=some r∧foldP b0 (R.take K)=some b∧rowP b r=none:=by
  intro n
  induction n with
  | zero=>intro _; exact .inl fun j hj=>⟨b0,(show j=0 by omega) ▸ (by simp [foldP])⟩
  | succ n ih =>
   intro hn
   rcases ih (by omega) with h | ⟨K,b,r,h1,h2,h3,h4,h5⟩
   ·obtain ⟨b,hb⟩:=h n (Nat.le_refl _)
    have hr:R[n]?=some R[n]:=List.getElem?_eq_getElem (by omega)
    cases hrow:rowP b R[n] with
    | none=>exact .inr ⟨n,b,R[n],by omega,h,hr,hb,hrow⟩
    | some b' =>
     refine .inl fun j hj=>?_
     rcases Nat.lt_or_ge j (n+1) with h' | h'
     ·exact h j (by omega)
     ·obtain rfl:j=n+1:=by omega
      exact ⟨b',by rw [take_get hr,foldP_snoc,hb]; exact hrow⟩
   ·exact .inr ⟨K,b,r,by omega,h2,h3,h4,h5⟩
 rcases key R.length (Nat.le_refl _) with h | ⟨K,b,r,h1,h2,h3,h4,h5⟩
 ·exact ⟨R.length,Nat.le_refl _,h,.inl rfl⟩
 ·refine ⟨K,by omega,h2,.inr ⟨b,r,h3,h4,h5,?_⟩⟩
  have e:R=R.take K++r :: R.drop (K+1):=by
   have:=take_drop_step (f:=0) h3 (Nat.zero_le _)
   simpa using this
  rw [e]
  unfold foldP at h4 ⊢
  rw [List.foldlM_append,h4]
  show List.foldlM rowP b (r :: R.drop (K+1))=none
  rw [List.foldlM_cons,h5]; rfl
structure NuP (s:Sheet)(j:Nat):Prop where
 d:∀x∈s.dry,Num2 x
 c:∀x∈s.coats,Num2 x
 wk:s.work=normW s.dry.length s.work
 ln:s.dry.length+s.coats.length=j
theorem NuP.nuc {s:Sheet}{j:Nat}(h:NuP s j)(hj:j≤400):NuC s:=⟨h.d,h.c,by have:=h.ln; omega⟩
theorem NuP.nil:NuP s0' 0:=⟨fun x hx=>(by cases hx),fun x hx=>(by cases hx),rfl,rfl⟩
theorem NuP.day {s:Sheet}{j:Nat}(h:NuP s j){p:Int×Int}(hp:Num2 p)(y:Bool):NuP (addD s p y) (j+1):=by
 have hln:=h.ln
 have hwk:=h.wk
 refine ⟨fun x hx=>?_,h.c,?_,by simp only [addD,List.length_append,List.length_singleton]; omega⟩
 ·rcases List.mem_append.1 hx with hx | hx
  ·exact h.d x hx
  ·rw [List.mem_singleton.1 hx]; exact hp
 ·simp only [addD,List.length_append,List.length_singleton]
  rw [normW_succ]
  cases y with
  | true =>
   simp only [if_true]
   rw [normW_app,←hwk,if_pos (List.mem_append_right _ (List.mem_singleton.2 rfl))]
  | false =>
   simp only [Bool.false_eq_true,if_false]
   rw [←hwk,if_neg (normW_self hwk),List.append_nil]
theorem NuP.coat {s:Sheet}{j:Nat}(h:NuP s j){p:Int×Int}(hp:Num2 p):NuP (addC s p) (j+1):=by
 have hln:=h.ln
 refine ⟨h.d,fun x hx=>?_,h.wk,by simp only [addC,List.length_append,List.length_singleton]; omega⟩
 rcases List.mem_append.1 hx with hx | hx
 ·exact h.c x hx
 ·rw [List.mem_singleton.1 hx]; exact hp
theorem rowP_nu {s s':Sheet}{j:Nat}{r:List UInt8}(hs:NuP s j)(h:rowP s r=some s'):NuP s' (j+1):=by
 unfold rowP at h
 split at h
 ·rw [Option.map_eq_some_iff] at h
  obtain ⟨p,hp,rfl⟩:=h
  exact hs.day (twoW_num hp) _
 ·split at h
  ·rw [Option.map_eq_some_iff] at h
   obtain ⟨p,hp,rfl⟩:=h
   exact hs.coat (twoW_num hp)
  ·cases h
theorem foldP_nu:∀{R:List (List UInt8)} {s s':Sheet} {j:Nat},NuP s j→foldP s R=some s'→NuP s' (j+R.length)
 | [],s,s',j,hs,h=>by cases h; exact hs
 | r :: R,s,s',j,hs,h=>by
  unfold foldP at h
  rw [List.foldlM_cons] at h
  cases hr:rowP s r with
  | none=>rw [hr] at h; cases h
  | some b =>
   rw [hr] at h
   have:=foldP_nu (rowP_nu hs hr) h
   rw [List.length_cons,show j+(R.length+1)=j+1+R.length by omega]; exact this
theorem parse_some {t:List UInt8}{s:Sheet}(h:parseP t=some s):foldP s0' (rowsP t)=some s∧textC s=t∧2≤(spl 10 t).length:=by
 unfold parseP at h
 split at h
 ·rename_i h2
  unfold parseT at h
  split at h
  ·rename_i o s' he
   split at h
   ·rename_i ht
    cases h; exact ⟨he,ht,h2⟩
   ·cases h
  ·cases h
 ·cases h
theorem rowsP_len (t:List UInt8):(rowsP t).length=(spl 10 t).length - 2:=by unfold rowsP; rw [List.length_take]; omega
theorem parse_nup {t:List UInt8}{s:Sheet}(h:parseP t=some s):NuP s ((spl 10 t).length - 2):=by
 have:=foldP_nu NuP.nil (parse_some h).1
 rw [rowsP_len,Nat.zero_add] at this; exact this
theorem parse_nu {t:List UInt8}{s:Sheet}(ht:t.length≤400)(h:parseP t=some s):NuC s:=by
 refine (parse_nup h).nuc ?_
 rw [spl_len]
 have:=List.count_le_length (a:=10) (l:=t)
 omega
end Go.Pi.L.Coa
set_option maxRecDepth 100000
namespace Go.Pi.L.Coa
open Go Go.Pi Go.Pi.L Go.Pi.Coa CM Go.Pi.Q

theorem _root_.Go.Pi.L.Bld.grown' {n0:Nat}{H H1:Heap}{k l m:Nat}{a a':Option Addr}{c:List Value}(h:Bld n0 H k a l m c)(g:Grown H H1 a')(hne:a=a'→a=none):Bld n0 H1 k a l m c:=by
 by_cases e:a=a'
 ·have:=hne e
  subst e; subst this
  refine ⟨h.len,?_⟩
  rcases h.ok with h | ⟨b,f,h1,_⟩
  ·exact .inl h
  ·cases h1
 ·exact h.grown g e
def Nw (n:Nat)(a:Option Addr):Prop:=a=none∨∃b off,a=some ⟨b,off,none⟩∧n≤b
theorem Nw.less {n m:Nat}{a:Option Addr}(h:Nw n a)(hm:m≤n):Nw m a:=h.imp id fun ⟨b,off,h1,h2⟩=>⟨b,off,h1,by omega⟩
theorem bld_nw {n0:Nat}{H:Heap}{k:Nat}{a:Option Addr}{l m:Nat}{c:List Value}(h:Bld n0 H k a l m c):Nw n0 a:=by
 rcases h.ok with ⟨h,_⟩ | ⟨b,f,h,_,h3,_⟩
 ·exact .inl h
 ·exact .inr ⟨b,0,h,h3⟩
theorem rD_pan {α:Type}{call:CallT}{F:Ex→St→Option α}{k:List It}(v H' lo' c hb ds d T S D H lo n rnd):retD call F (some ⟨.panic v,H',lo'⟩) ⟨c,hb,some ds⟩ d k ⟨T,S,D,H,lo,n,rnd⟩=F (.panic v) ⟨wipe ds T,S,D,H',min lo (min H.length lo'),n,rnd⟩:=rfl

theorem spl_len1 (c:UInt8)(l:List UInt8):1≤(spl c l).length:=by rw [spl_len]; omega
theorem s_at {H:Heap}{a:Option Addr}{l m:Nat}{xs:List (List UInt8)}(hs:Sl H 1 encT a l xs){i:Nat}(hi:i < l):∃b off,vv (.ia 1) [.slice a l m,.int .i64 ((i:Nat):Int)]=some (.pointer (some ⟨b,off,none⟩))∧∀H',Grow H H'→rdO (hcells H' b) off none=some (.string ⟨(xs.getD i []).toArray⟩):=by
 obtain ⟨b,o,w,hwa,hw1,hat⟩:=hs.at encT_len (by decide) hi
 refine ⟨b,o+i*1,by rw [hwa]; exact vv_iaN 1 b o i _ _ _ hi,fun H' g=>?_⟩
 have e:xs.getD i []=w:=by rw [List.getD_eq_getElem?_getD,hw1]; rfl
 rw [e]
 exact At.v0 hat H' g
structure PC (n0:Nat)(H:Heap)(da:Option Addr)(dl dm:Nat)(wa:Option Addr)(wl wm:Nat)(ca:Option Addr)(cl cm:Nat)(s:Sheet):Prop where
 d:Bld n0 H 2 da dl dm (cells encS s.dry)
 w:Bld n0 H 1 wa wl wm (cells encI s.work)
 c:Bld n0 H 2 ca cl cm (cells encS s.coats)
 dw:da=wa→da=none
 dc:da=ca→da=none
 wc:wa=ca→wa=none
section
variable {n0:Nat} {H H1:Heap} {da:Option Addr} {dl dm:Nat} {wa:Option Addr} {wl wm:Nat} {ca:Option Addr} {cl cm:Nat} {s:Sheet}
theorem PC.up (h:PC n0 H da dl dm wa wl wm ca cl cm s)(u:Up H H1):PC n0 H1 da dl dm wa wl wm ca cl cm s :=
 ⟨h.d.up u,h.w.up u,h.c.up u,h.dw,h.dc,h.wc⟩
theorem PC.ld (h:PC n0 H da dl dm wa wl wm ca cl cm s):dl=s.dry.length:=(h.d.sl encS_len (by decide)).len.symm
theorem PC.lw (h:PC n0 H da dl dm wa wl wm ca cl cm s):wl=s.work.length:=(h.w.sl encI_len (by decide)).len.symm
theorem PC.lc (h:PC n0 H da dl dm wa wl wm ca cl cm s):cl=s.coats.length:=(h.c.sl encS_len (by decide)).len.symm
theorem PC.sh (h:PC n0 H da dl dm wa wl wm ca cl cm s):ShOk H ⟨da,dl,dm,wa,wl,wm,ca,cl,cm⟩ s :=
 ⟨h.d.sl encS_len (by decide),h.w.sl encI_len (by decide),h.c.sl encS_len (by decide)⟩
theorem bld_ne {k l m:Nat}{a:Option Addr}{c:List Value}(h:Bld n0 H k a l m c)(e:a=some ⟨H.length,0,none⟩):a=none:=by
 rcases h.ok with ⟨h,_⟩ | ⟨b2,f2,h,_,_,_,h5⟩
 ·exact h
 ·rw [h] at e; cases e
  have:=(List.getElem?_eq_some_iff.1 h5).1; omega
theorem PC.addW (h:PC n0 H da dl dm wa wl wm ca cl cm s)(hF:Fam H)(hn:n0≤H.length)(hl:wl < 1000000)(z:Int) :
  ∃H1,(∀{α:Type} (call:CallT) (F:Ex→St→Option α) d kk T S D lo n rnd,ap1 call F (some [.int .i64 z]) (.slice wa wl wm) 1 d kk ⟨T,S,D,H,lo,n,rnd⟩=nxt call F (some (.slice (some ⟨H.length,0,none⟩) (wl+1) 1)) d kk ⟨T,S,D,H1,lo,n,rnd⟩) ∧
   PC n0 H1 da dl dm (some ⟨H.length,0,none⟩) (wl+1) 1 ca cl cm ⟨s.dry,s.work++[z],s.coats⟩∧Fam H1∧Grow H H1∧(∀H0,Up H0 H→H0.length≤n0→Up H0 H1):=by
 obtain ⟨H1,p1,p2,p3,p4⟩:=h.w.appF hF (by decide) (by decide) hl hn [.int .i64 z] rfl
 refine ⟨H1,p1,⟨h.d.grown' p3 h.dw,?_,h.c.grown' p3 (fun e=>by have:=h.wc e.symm; rw [e]; exact this),bld_ne h.d,h.dc,fun e=>?_⟩,p4,p3.grow,fun H0 u hn=>p3.up h.w u hn⟩
 ·have hc:cells encI (s.work++[z])=cells encI s.work++[.int .i64 z]:=by rw [cells_app]; rfl
  rw [hc]; exact p2
 ·have:=bld_ne h.c e.symm; rw [this] at e; cases e
theorem PC.addD (h:PC n0 H da dl dm wa wl wm ca cl cm s)(hF:Fam H)(hn:n0≤H.length)(hl:dl < 1000000)(z:Int×Int) :
  ∃H1,(∀{α:Type} (call:CallT) (F:Ex→St→Option α) d kk T S D lo n rnd,ap1 call F (some [.int .i64 z.1,.int .i64 z.2]) (.slice da dl dm) 2 d kk ⟨T,S,D,H,lo,n,rnd⟩=nxt call F (some (.slice (some ⟨H.length,0,none⟩) (dl+1) 2)) d kk ⟨T,S,D,H1,lo,n,rnd⟩) ∧
   PC n0 H1 (some ⟨H.length,0,none⟩) (dl+1) 2 wa wl wm ca cl cm ⟨s.dry++[z],s.work,s.coats⟩∧Fam H1∧Grow H H1∧(∀H0,Up H0 H→H0.length≤n0→Up H0 H1):=by
 obtain ⟨H1,p1,p2,p3,p4⟩:=h.d.appF hF (by decide) (by decide) hl hn [.int .i64 z.1,.int .i64 z.2] rfl
 refine ⟨H1,p1,⟨?_,h.w.grown' p3 (fun e=>by have:=h.dw e.symm; rw [e]; exact this),h.c.grown' p3 (fun e=>by have:=h.dc e.symm; rw [e]; exact this),fun e=>?_,fun e=>?_,h.wc⟩,p4,p3.grow,fun H0 u hn=>p3.up h.d u hn⟩
 ·have hc:cells encS (s.dry++[z])=cells encS s.dry++[.int .i64 z.1,.int .i64 z.2]:=by rw [cells_app]; rfl
  rw [hc]; exact p2
 ·have:=bld_ne h.w e.symm; rw [this] at e; cases e
 ·have:=bld_ne h.c e.symm; rw [this] at e; cases e
theorem PC.addC (h:PC n0 H da dl dm wa wl wm ca cl cm s)(hF:Fam H)(hn:n0≤H.length)(hl:cl < 1000000)(z:Int×Int) :
  ∃H1,(∀{α:Type} (call:CallT) (F:Ex→St→Option α) d kk T S D lo n rnd,ap1 call F (some [.int .i64 z.1,.int .i64 z.2]) (.slice ca cl cm) 2 d kk ⟨T,S,D,H,lo,n,rnd⟩=nxt call F (some (.slice (some ⟨H.length,0,none⟩) (cl+1) 2)) d kk ⟨T,S,D,H1,lo,n,rnd⟩) ∧
   PC n0 H1 da dl dm wa wl wm (some ⟨H.length,0,none⟩) (cl+1) 2 ⟨s.dry,s.work,s.coats++[z]⟩∧Fam H1∧Grow H H1∧(∀H0,Up H0 H→H0.length≤n0→Up H0 H1):=by
 obtain ⟨H1,p1,p2,p3,p4⟩:=h.c.appF hF (by decide) (by decide) hl hn [.int .i64 z.1,.int .i64 z.2] rfl
 refine ⟨H1,p1,⟨h.d.grown' p3 h.dc,h.w.grown' p3 h.wc,?_,h.dw,bld_ne h.d,bld_ne h.w⟩,p4,p3.grow,fun H0 u hn=>p3.up h.c u hn⟩
 have hc:cells encS (s.coats++[z])=cells encS s.coats++[.int .i64 z.1,.int .i64 z.2]:=by rw [cells_app]; rfl
 rw [hc]; exact p2
theorem PC.nil (n0:Nat)(H:Heap):PC n0 H none 0 0 none 0 0 none 0 0 s0':=⟨Bld.nil _ _ _,Bld.nil _ _ _,Bld.nil _ _ _,fun _=>rfl,fun _=>rfl,fun _=>rfl⟩
end
theorem normW_len (n:Nat)(w:List Int):(normW n w).length≤n:=by
 unfold normW
 rw [List.length_map]
 exact Nat.le_trans (List.length_filter_le ..) (by simp)
theorem NuP.wl {s:Sheet}{j:Nat}(h:NuP s j):s.work.length≤j:=by
 rw [h.wk]
 have:=normW_len s.dry.length s.work
 have:=h.ln
 omega
def QPa (H:Heap)(t:List UInt8)(o:Out):Prop :=
 match parseP t with
 | none=>∃w,o=⟨.panic (.iface 157 (.agg #[.string w])),H,H.length⟩
 | some s=>∃(r:ShR) (H1:Heap) (lo:Nat),o=⟨.ok (.agg #[.slice r.da r.dl r.dk,.slice r.wa r.wl r.wk,.slice r.ca r.cl r.ck]),H1,lo⟩∧Up H H1∧H.length≤lo∧ShOk H1 r s∧Nw H.length r.da∧Nw H.length r.wa∧Nw H.length r.ca
theorem c145 (H:Heap):R (.func 145) [.agg #[.int .i64 0,.int .i64 0,.bool false]] H=some ⟨.ok (.int .i64 4),H,H.length⟩:=by
 refine run_k (pr 145) P145 (by simp [p145]) rfl ?_
 simp (maxDischargeDepth:=8) only [↓SD,SU,SV,SW,simprocAttr,Int.cast_ofNat_Int,small,resV, B145,R145,N145,b145, R145,N145]
theorem c147 (H:Heap):R (.func 147) [.agg #[.int .i64 0,.int .i64 0]] H=some ⟨.ok (.int .i64 3),H,H.length⟩:=by
 refine run_k (pr 147) P147 (by simp [p147]) rfl ?_
 simp (maxDischargeDepth:=8) only [↓SD,SU,SV,SW,simprocAttr,Int.cast_ofNat_Int,small,resV, B147,R147,N147,b147, R147,N147]
theorem getD_len {r:List UInt8}{i:Nat}:((spl 32 r).getD i []).length≤r.length:=by
 rw [List.getD_eq_getElem?_getD]
 cases e:(spl 32 r)[i]? with
 | none=>simp
 | some p=>exact (spl_parts (c:=32) r).2 p (List.mem_of_getElem? e)
end Go.Pi.L.Coa
set_option maxRecDepth 100000
namespace Go.Pi.L.Coa
open Go Go.Pi Go.Pi.L Go.Pi.Coa CM Go.Pi.Q

theorem qw_some {H:Heap}{w:List UInt8}{z:Int}(hl:w.length≤100000)(h:numW w=some z):R (.func 146) [.string ⟨w.toArray⟩] H=some ⟨.ok (.int .i64 z),H,H.length⟩:=by
 obtain ⟨o,ho,q⟩:=c146 w hl H
 unfold QW at q
 rw [h] at q
 simp only at q
 rw [ho,q]
theorem qw_none {H:Heap}{w:List UInt8}(hl:w.length≤100000)(h:numW w=none):∃v,R (.func 146) [.string ⟨w.toArray⟩] H=some ⟨.panic (.iface 157 (.agg #[.string v])),H,H.length⟩:=by
 obtain ⟨o,ho,q⟩:=c146 w hl H
 unfold QW at q
 rw [h] at q
 obtain ⟨v,q⟩:=q
 exact ⟨v,by rw [ho,q]⟩
theorem twoW_none {w:List (List UInt8)}(h:twoW w=none):numW (w.getD 1 [])=none∨(∃a,numW (w.getD 1 [])=some a)∧numW (w.getD 2 [])=none:=by
 unfold twoW at h
 split at h
 ·cases h
 ·rename_i hn
  cases h1:numW (w.getD 1 []) with
  | none=>exact .inl rfl
  | some a =>
   cases h2:numW (w.getD 2 []) with
   | none=>exact .inr ⟨⟨a,rfl⟩,rfl⟩
   | some b=>exact (hn a b h1 h2).elim
theorem twoW_some {w:List (List UInt8)}{p:Int×Int}(h:twoW w=some p):numW (w.getD 1 [])=some p.1∧numW (w.getD 2 [])=some p.2:=by
 unfold twoW at h
 split at h
 ·rename_i a b h1 h2
  cases h; exact ⟨h1,h2⟩
 ·cases h
set_option maxHeartbeats 4000000 in
theorem c111 (t:List UInt8)(ht:t.length≤360)(H':Heap)(hF:Fam H'):Yes (R (.func 111) [.string ⟨t.toArray⟩] H') (QPa H' t):=by
 have fin:parseP t=none→∀w H5 lo,H'.length≤lo→Yes (some (gcR H' (.panic (.iface 157 (.agg #[.string w]))) H5 lo)) (QPa H' t):=fun e w H5 lo h=>by
  rw [yes_some]
  unfold QPa
  rw [e]
  exact ⟨w,by simp [gcR,flat]; omega⟩
 refine run_y (pr 111) P111 (by simp [p111]) rfl ?_
 obtain ⟨o,ho1,a1,m1,H1,lo1,rfl,u1,hlo1,s1⟩:=c143 t 10 (by omega) H' hF
 have hF1:Fam H1:=famR ho1 hF
 have la1:=s1.isLoc m1
 have hn1:=spl_len1 10 t
 have hnl:(spl 10 t).length≤361:=by rw [spl_len]; have:=List.count_le_length (a:=10) (l:=t); omega
 have hpl:=(spl_parts (c:=10) t).2
 have h1:=u1.len
 obtain ⟨n,hn⟩:∃n,(spl 10 t).length=n:=⟨_,rfl⟩
 rw [hn] at ho1 s1 la1 hn1 hnl
 by_cases h3:2≤n
 case neg =>
  have z1:((2:Int)≤((n:Nat):Int))=False:=eq_false (by omega)
  have z1':(((n:Nat):Int)≥2)=False:=z1
  have k144:=c144f ⟨t.toArray⟩ H1
  simp (maxDischargeDepth:=8) only [↓SD,SU,SV,SW,simprocAttr,Int.cast_ofNat_Int,small,resV, B111,R111,N111,b111, ho1,la1,z1,z1',k144]
  exact fin (by unfold parseP; rw [hn,if_neg h3]) _ _ _ (by omega)
 have z1:((2:Int)≤((n:Nat):Int))=True:=eq_true (by omega)
 have z1':(((n:Nat):Int)≥2)=True:=z1
 have k144:=c144t ⟨t.toArray⟩ H1
 obtain ⟨a5,m5,c5,s5⟩:=s1.cut m1 0 (n - 2) (by omega) (by omega)
 have hR:((spl 10 t).drop 0).take (n - 2 - 0)=rowsP t:=by unfold rowsP; rw [hn]; rfl
 rw [hR] at s5
 obtain ⟨N,hN⟩:∃N,n - 2=N:=⟨_,rfl⟩
 rw [hN,Nat.sub_zero] at c5 s5
 have c5':VOp.ev.slc 1 a1 n m1 0 ((N:Nat):Int)=some (.slice a5 N m5):=c5
 have la5:=s5.isLoc m5
 have hwn:IntKind.wrap .i64 (((n:Nat):Int) - 2)=((N:Nat):Int):=by rw [wrap_id _ (by omega) (by omega)]; omega
 have hpar:parseP t=parseT (foldP s0' (rowsP t)) t:=by unfold parseP; rw [hn,if_pos h3]
 simp (maxDischargeDepth:=8) only [↓SD,SU,SV,SW,simprocAttr,Int.cast_ofNat_Int,small,resV, B111,R111,N111,b111, ho1,la1,z1,z1',k144,hwn,vv_slh,c5',la5]
 obtain ⟨K,hK,hpre,hend⟩:=fold_cut s0' (rowsP t)
 have hRN:(rowsP t).length=N:=s5.len
 have hRl:∀r∈rowsP t,r.length≤360:=fun r hr=>by
  unfold rowsP at hr
  have:=hpl r (List.mem_of_mem_take hr); omega
 refine loop_ind (G:=(Yes · (QPa H' t))) (fun j σ=>∃T S H5 da dl dm wa wl wm ca cl cm lim,σ=⟨T,S,[],H5,lim,101,false⟩∧get T 0=.string ⟨t.toArray⟩∧get T 2=.pointer (some ⟨2,0,some 1⟩)∧get T 4=.pointer (some ⟨4,0,some 1⟩)∧get T 19=.slice a5 N m5∧get T 20=.int .i64 N∧get T 21=.int .i64 (j:Nat)∧sget S 2=(1,.cells [.slice none 0 0,.slice none 0 0,.slice none 0 0])∧sget S 4=(1,.cells [.slice da dl dm,.slice wa wl wm,.slice ca cl cm])∧((∃s,foldP s0' ((rowsP t).take j)=some s∧PC H1.length H5 da dl dm wa wl wm ca cl cm s∧NuP s j)∧Up H1 H5∧Fam H5∧H'.length≤lim)) (K) ?_ ?_ 0 _ (Nat.zero_le _) ⟨_,_,_,_,_,_,_,_,_,_,_,_,_,rfl,rfl,rfl,rfl,rfl,rfl,rfl,rfl,rfl,⟨⟨_,rfl,PC.nil _ _,NuP.nil⟩,Up.refl _,hF1,by omega⟩⟩
 ·rintro c' j s hj ⟨T,S,H5,da,dl,dm,wa,wl,wm,ca,cl,cm,lim,rfl,t0,t2,t4,t19,t20,t21,s0,s1,hp⟩ ih
  obtain ⟨⟨s,hfo,hpc,hnp⟩,hu,hF5,hlim⟩:=hp
  have hw:=wrap_succ j (by omega)
  have hjN:j < N:=by omega
  have hul:=hu.len
  obtain ⟨r,hr⟩:∃r,(rowsP t)[j]?=some r:=⟨_,List.getElem?_eq_getElem (by omega)⟩
  have hrl:=hRl r (List.mem_of_getElem? hr)
  obtain ⟨s',hs'⟩:=hpre (j+1) (by omega)
  have hfo':=hs'
  rw [take_get hr,foldP_snoc,hfo] at hs'
  have hrow:rowP s r=some s':=hs'
  have hnp':=rowP_nu hnp hrow
  obtain ⟨br,offr,iar,fr⟩:=s_at (m:=m5) s5 (i:=j) hjN
  have fr:=fr H5 hu.grow
  have er:(rowsP t).getD j []=r:=by rw [List.getD_eq_getElem?_getD,hr]; rfl
  rw [er] at fr
  obtain ⟨o,ho6,a6,m6,H6,lo6,rfl,u6,hlo6,s6⟩:=c143 r 32 (by omega) H5 hF5
  have hF6:Fam H6:=famR ho6 hF5
  have la6:=s6.isLoc m6
  have h6:=u6.len
  have hg1:=getD_len (r:=r) (i:=1)
  have hg2:=getD_len (r:=r) (i:=2)
  obtain ⟨W,hW⟩:∃W,spl 32 r=W:=⟨_,rfl⟩
  have hWne:=spl_len1 32 r
  have hWl:W.length≤361:=by rw [←hW,spl_len]; have:=List.count_le_length (a:=32) (l:=r); omega
  rw [hW] at ho6 s6 la6 hWne hg1 hg2
  unfold rowP at hrow
  rw [hW] at hrow
  obtain ⟨nW,hnW⟩:∃nW,W.length=nW:=⟨_,rfl⟩
  rw [hnW] at ho6 s6 la6 hWne hWl hrow
  obtain ⟨bw,offw,iaw,fw⟩:=s_at (m:=m6) s6 (i:=0) (by omega)
  replace iaw:vv (.ia 1) [.slice a6 nW m6,.int .i64 0]=some (.pointer (some ⟨bw,offw,none⟩)):=iaw
  have fw:=fw H6 (Grow.refl _)
  have k145:=c145 H6
  have k147:=c147 H6
  have seq1:=vv_seq' (W.getD 0 []) [100,97,121]
  have seq2:=vv_seq' (W.getD 0 []) [99,111,97,116]
  have seq3:=vv_seq' (W.getD 3 []) [121,101,115]
  have lda:∀x y,isLoc (.slice da x y)=false:=hpc.d.isLoc
  have lwa:∀x y,isLoc (.slice wa x y)=false:=hpc.w.isLoc
  have lca:∀x y,isLoc (.slice ca x y)=false:=hpc.c.isLoc
  have bl0:vv (.bld [.int .i64 0,.int .i64 0,.bool false] []) []=some (.agg #[.int .i64 0,.int .i64 0,.bool false]):=by rw [vv_of (by rfl)]; rfl
  have bl0':vv (.bld [.int .i64 0,.int .i64 0] []) []=some (.agg #[.int .i64 0,.int .i64 0]):=by rw [vv_of (by rfl)]; rfl
  have bl1:∀x y:Int,vv (.bld [.int .i64 0,.int .i64 0] [(0,1),(1,1)]) [.int .i64 x,.int .i64 y]=some (.agg #[.int .i64 x,.int .i64 y]):=fun x y=>by rw [vv_of (by rfl)]; rfl
  have hpc6:=hpc.up u6
  have hdl:=hpc.ld
  have hwl:=hpc.lw
  have hcl:=hpc.lc
  have hln:=hnp.ln
  have hwln:=hnp.wl
  have u16:=hu.trans u6
  split at hrow
  ·rename_i hday
   obtain ⟨hd0,hd4⟩:=hday
   subst hd4
   rw [Option.map_eq_some_iff] at hrow
   obtain ⟨p,hp2,rfl⟩:=hrow
   obtain ⟨hna,hnb⟩:=twoW_some hp2
   rw [decide_eq_true (show W.getD 0 []=[100,97,121] from hd0)] at seq1
   have z3:(((4:Nat):Int)=4)=True:=eq_true rfl
   obtain ⟨b1,o1,i1,f1⟩:=s_at (m:=m6) s6 (i:=1) (by decide)
   replace i1:vv (.ia 1) [.slice a6 4 m6,.int .i64 1]=some (.pointer (some ⟨b1,o1,none⟩)):=i1
   obtain ⟨b2,o2,i2,f2⟩:=s_at (m:=m6) s6 (i:=2) (by decide)
   replace i2:vv (.ia 1) [.slice a6 4 m6,.int .i64 2]=some (.pointer (some ⟨b2,o2,none⟩)):=i2
   obtain ⟨b3,o3,i3,f3⟩:=s_at (m:=m6) s6 (i:=3) (by decide)
   replace i3:vv (.ia 1) [.slice a6 4 m6,.int .i64 3]=some (.pointer (some ⟨b3,o3,none⟩)):=i3
   have f3:=f3 H6 (Grow.refl _)
   by_cases hy:W.getD 3 []=wYes
   ·rw [decide_eq_true (show W.getD 3 []=[121,101,115] from hy)] at seq3
    rw [decide_eq_true hy] at hfo' hnp'
    obtain ⟨H7,p1,hpc7,hF7,g7,q7⟩:=hpc6.addW hF6 (by omega) (by omega) ((s.dry.length:Nat):Int)
    have u7:=q7 H1 u16 (Nat.le_refl _)
    have h7:=u7.len
    have f1:=f1 H7 g7
    have f2:=f2 H7 g7
    have k1:=qw_some (H:=H7) (by omega) hna
    have k2:=qw_some (H:=H7) (by omega) hnb
    obtain ⟨H8,p2,hpc8,hF8,g8,q8⟩:=hpc7.addD hF7 (by omega) (by omega) p
    have u8:=q8 H1 u7 (Nat.le_refl _)
    have h8:=u8.len
    rw [←hdl] at p1
    simp (maxDischargeDepth:=8) only [↓SD,SU,SV,SW,simprocAttr,Int.cast_ofNat_Int,small,resV, q111x0,t0,t2,t4,t19,t20,t21,s0,s1, lt_nat,hjN,la5,iar,fr,ho6,la6,hlo6,iaw,fw,seq1,bl0,k145,z3,i3,f3,seq3,p1,i1,f1,i2,f2,k1,k2,bl1,p2,lda,lwa,lca,hw,so_loc,k_fixb,sget_sset]
    exact ih _ ⟨_,_,(H8),(some ⟨H7.length,0,none⟩),(dl+1),(2),(some ⟨H6.length,0,none⟩),(wl+1),(1),(ca),(cl),(cm),(_),rfl,(by simp [get_set,t0] <;> omega),(by simp [get_set,t2] <;> omega),(by simp [get_set,t4] <;> omega),(by simp [get_set,t19] <;> omega),(by simp [get_set,t20] <;> omega),(by simp [get_set,t21] <;> omega),by simp [sget_sset,s0],by simp [sget_sset,s1],⟨⟨_,hfo',hpc8,hnp'⟩,u8,hF8,by omega⟩⟩
   ·rw [decide_eq_false (show ¬W.getD 3 []=[121,101,115] from hy)] at seq3
    rw [decide_eq_false hy] at hfo' hnp'
    have f1:=f1 H6 (Grow.refl _)
    have f2:=f2 H6 (Grow.refl _)
    have k1:=qw_some (H:=H6) (by omega) hna
    have k2:=qw_some (H:=H6) (by omega) hnb
    obtain ⟨H8,p2,hpc8,hF8,g8,q8⟩:=hpc6.addD hF6 (by omega) (by omega) p
    have u8:=q8 H1 u16 (Nat.le_refl _)
    have h8:=u8.len
    simp (maxDischargeDepth:=8) only [↓SD,SU,SV,SW,simprocAttr,Int.cast_ofNat_Int,small,resV, q111x0,t0,t2,t4,t19,t20,t21,s0,s1, lt_nat,hjN,la5,iar,fr,ho6,la6,hlo6,iaw,fw,seq1,bl0,k145,z3,i3,f3,seq3,i1,f1,i2,f2,k1,k2,bl1,p2,lda,lwa,lca,hw,so_loc,k_fixb,sget_sset]
    exact ih _ ⟨_,_,(H8),(some ⟨H6.length,0,none⟩),(dl+1),(2),(wa),(wl),(wm),(ca),(cl),(cm),(_),rfl,(by simp [get_set,t0] <;> omega),(by simp [get_set,t2] <;> omega),(by simp [get_set,t4] <;> omega),(by simp [get_set,t19] <;> omega),(by simp [get_set,t20] <;> omega),(by simp [get_set,t21] <;> omega),by simp [sget_sset,s0],by simp [sget_sset,s1],⟨⟨_,hfo',hpc8,hnp'⟩,u8,hF8,by omega⟩⟩
  ·rename_i hnday
   split at hrow
   ·rename_i hco
    obtain ⟨hd0,hd3⟩:=hco
    subst hd3
    rw [Option.map_eq_some_iff] at hrow
    obtain ⟨p,hp2,rfl⟩:=hrow
    obtain ⟨hna,hnb⟩:=twoW_some hp2
    rw [decide_eq_false (show ¬W.getD 0 []=[100,97,121] from fun e=>by rw [hd0] at e; exact absurd e (by decide))] at seq1
    rw [decide_eq_true (show W.getD 0 []=[99,111,97,116] from hd0)] at seq2
    have z3:(((3:Nat):Int)=3)=True:=eq_true rfl
    obtain ⟨b1,o1,i1,f1⟩:=s_at (m:=m6) s6 (i:=1) (by decide)
    replace i1:vv (.ia 1) [.slice a6 3 m6,.int .i64 1]=some (.pointer (some ⟨b1,o1,none⟩)):=i1
    obtain ⟨b2,o2,i2,f2⟩:=s_at (m:=m6) s6 (i:=2) (by decide)
    replace i2:vv (.ia 1) [.slice a6 3 m6,.int .i64 2]=some (.pointer (some ⟨b2,o2,none⟩)):=i2
    have f1:=f1 H6 (Grow.refl _)
    have f2:=f2 H6 (Grow.refl _)
    have k1:=qw_some (H:=H6) (by omega) hna
    have k2:=qw_some (H:=H6) (by omega) hnb
    obtain ⟨H8,p2,hpc8,hF8,g8,q8⟩:=hpc6.addC hF6 (by omega) (by omega) p
    have u8:=q8 H1 u16 (Nat.le_refl _)
    have h8:=u8.len
    simp (maxDischargeDepth:=8) only [↓SD,SU,SV,SW,simprocAttr,Int.cast_ofNat_Int,small,resV, q111x0,t0,t2,t4,t19,t20,t21,s0,s1, lt_nat,hjN,la5,iar,fr,ho6,la6,hlo6,iaw,fw,seq1,seq2,bl0',k147,z3,i1,f1,i2,f2,k1,k2,bl1,p2,lda,lwa,lca,hw,so_loc,k_fixb,sget_sset]
    exact ih _ ⟨_,_,(H8),(da),(dl),(dm),(wa),(wl),(wm),(some ⟨H6.length,0,none⟩),(cl+1),(2),(_),rfl,(by simp [get_set,t0] <;> omega),(by simp [get_set,t2] <;> omega),(by simp [get_set,t4] <;> omega),(by simp [get_set,t19] <;> omega),(by simp [get_set,t20] <;> omega),(by simp [get_set,t21] <;> omega),by simp [sget_sset,s0],by simp [sget_sset,s1],⟨⟨_,hfo',hpc8,hnp'⟩,u8,hF8,by omega⟩⟩
   ·cases hrow
 ·rintro c' s ⟨T,S,H5,da,dl,dm,wa,wl,wm,ca,cl,cm,lim,rfl,t0,t2,t4,t19,t20,t21,s0,s1,hp⟩
  obtain ⟨⟨s,hfo,hpc,hnp⟩,hu,hF5,hlim⟩:=hp
  have hul:=hu.len
  have lda:∀x y,isLoc (.slice da x y)=false:=hpc.d.isLoc
  have lwa:∀x y,isLoc (.slice wa x y)=false:=hpc.w.isLoc
  have lca:∀x y,isLoc (.slice ca x y)=false:=hpc.c.isLoc
  have hdl:=hpc.ld
  have hwl:=hpc.lw
  have hcl:=hpc.lc
  have hln:=hnp.ln
  have hwln:=hnp.wl
  rcases hend with hend | ⟨s2,r,hr,hfo2,hrow,hnone⟩
  ·have hKN:K=N:=by omega
   subst hKN
   rw [List.take_of_length_le (by omega)] at hfo
   have hpar2:parseP t=parseT (some s) t:=by rw [hpar,hfo]
   have hsh:=hpc.sh
   have hnu:=hnp.nuc (by omega)
   have k108:=c108 hsh hnu (by show wl < 1000000; omega) H5 (Grow.refl _)
   by_cases htx:textC s=t
   case neg =>
    have hpar3:parseP t=none:=by rw [hpar2]; unfold parseT; simp only; rw [if_neg htx]
    have seq:=vv_seq' (textC s) t
    rw [decide_eq_false htx] at seq
    have k144c:=c144f ⟨t.toArray⟩ H5
    simp (maxDischargeDepth:=8) only [↓SD,SU,SV,SW,simprocAttr,Int.cast_ofNat_Int,small,resV, q111x0,t0,t2,t4,t19,t20,t21,s0,s1, lt_nat,Nat.lt_irrefl,la5,k108,seq,k144c,lda,lwa,lca,sget_sset,R111,N111]
    exact fin hpar3 _ _ _ (by omega)
   have hpar3:parseP t=some s:=by rw [hpar2]; unfold parseT; simp only; rw [if_pos htx]
   rw [htx] at k108
   have seq:=vv_seq' t t
   rw [decide_eq_true rfl] at seq
   have k144c:=c144t ⟨t.toArray⟩ H5
   simp (maxDischargeDepth:=8) only [↓SD,SU,SV,SW,simprocAttr,Int.cast_ofNat_Int,small,resV, q111x0,t0,t2,t4,t19,t20,t21,s0,s1, lt_nat,Nat.lt_irrefl,la5,k108,seq,k144c,lda,lwa,lca,sget_sset,R111,N111]
   rw [yes_some]
   unfold QPa
   rw [hpar3]
   have u5:Up H' H5:=u1.trans hu
   have hnw:Nw H'.length da∧Nw H'.length wa∧Nw H'.length ca:=⟨(bld_nw hpc.d).less (by omega),(bld_nw hpc.w).less (by omega),(bld_nw hpc.c).less (by omega)⟩
   by_cases hfl:flat 4 (.agg #[.slice da dl dm,.slice wa wl wm,.slice ca cl cm])=true
   ·rw [gc_ite (by omega),if_pos hfl]
    have hfl':flat 3 (.slice da dl dm)=true∧flat 3 (.slice wa wl wm)=true∧flat 3 (.slice ca cl cm)=true:=by simpa [flat] using hfl
    exact ⟨⟨da,dl,dm,wa,wl,wm,ca,cl,cm⟩,H',H'.length,rfl,Up.refl _,Nat.le_refl _,⟨hsh.d.flat hfl'.1,hsh.w.flat hfl'.2.1,hsh.c.flat hfl'.2.2⟩,hnw⟩
   ·rw [gc_ite (by omega),if_neg hfl]
    exact ⟨⟨da,dl,dm,wa,wl,wm,ca,cl,cm⟩,H5,_,rfl,u5,by omega,hsh,hnw⟩
  ·have hno:parseP t=none:=by rw [hpar,hnone]; rfl
   rw [hfo2] at hfo
   cases hfo
   have hjN:K < N:=by have:=(List.getElem?_eq_some_iff.1 hr).1; omega
   have hrl:=hRl r (List.mem_of_getElem? hr)
   obtain ⟨br,offr,iar,fr⟩:=s_at (m:=m5) s5 (i:=K) hjN
   have fr:=fr H5 hu.grow
   have er:(rowsP t).getD K []=r:=by rw [List.getD_eq_getElem?_getD,hr]; rfl
   rw [er] at fr
   obtain ⟨o,ho6,a6,m6,H6,lo6,rfl,u6,hlo6,s6⟩:=c143 r 32 (by omega) H5 hF5
   have hF6:Fam H6:=famR ho6 hF5
   have la6:=s6.isLoc m6
   have h6:=u6.len
   have hg1:=getD_len (r:=r) (i:=1)
   have hg2:=getD_len (r:=r) (i:=2)
   obtain ⟨W,hW⟩:∃W,spl 32 r=W:=⟨_,rfl⟩
   have hWne:=spl_len1 32 r
   have hWl:W.length≤361:=by rw [←hW,spl_len]; have:=List.count_le_length (a:=32) (l:=r); omega
   rw [hW] at ho6 s6 la6 hWne hg1 hg2
   unfold rowP at hrow
   rw [hW] at hrow
   obtain ⟨nW,hnW⟩:∃nW,W.length=nW:=⟨_,rfl⟩
   rw [hnW] at ho6 s6 la6 hWne hWl hrow
   obtain ⟨bw,offw,iaw,fw⟩:=s_at (m:=m6) s6 (i:=0) (by omega)
   replace iaw:vv (.ia 1) [.slice a6 nW m6,.int .i64 0]=some (.pointer (some ⟨bw,offw,none⟩)):=iaw
   have fw:=fw H6 (Grow.refl _)
   have k145:=c145 H6
   have k147:=c147 H6
   have k144r:=c144f ⟨r.toArray⟩ H6
   have seq1:=vv_seq' (W.getD 0 []) [100,97,121]
   have seq2:=vv_seq' (W.getD 0 []) [99,111,97,116]
   have seq3:=vv_seq' (W.getD 3 []) [121,101,115]
   have bl0:vv (.bld [.int .i64 0,.int .i64 0,.bool false] []) []=some (.agg #[.int .i64 0,.int .i64 0,.bool false]):=by rw [vv_of (by rfl)]; rfl
   have bl0':vv (.bld [.int .i64 0,.int .i64 0] []) []=some (.agg #[.int .i64 0,.int .i64 0]):=by rw [vv_of (by rfl)]; rfl
   have hpc6:=hpc.up u6
   have u16:=hu.trans u6
   split at hrow
   ·rename_i hday
    obtain ⟨hd0,hd4⟩:=hday
    subst hd4
    rw [Option.map_eq_none_iff] at hrow
    rw [decide_eq_true (show W.getD 0 []=[100,97,121] from hd0)] at seq1
    have z3:(((4:Nat):Int)=4)=True:=eq_true rfl
    obtain ⟨b1,o1,i1,f1⟩:=s_at (m:=m6) s6 (i:=1) (by decide)
    replace i1:vv (.ia 1) [.slice a6 4 m6,.int .i64 1]=some (.pointer (some ⟨b1,o1,none⟩)):=i1
    obtain ⟨b2,o2,i2,f2⟩:=s_at (m:=m6) s6 (i:=2) (by decide)
    replace i2:vv (.ia 1) [.slice a6 4 m6,.int .i64 2]=some (.pointer (some ⟨b2,o2,none⟩)):=i2
    obtain ⟨b3,o3,i3,f3⟩:=s_at (m:=m6) s6 (i:=3) (by decide)
    replace i3:vv (.ia 1) [.slice a6 4 m6,.int .i64 3]=some (.pointer (some ⟨b3,o3,none⟩)):=i3
    have f3:=f3 H6 (Grow.refl _)
    by_cases hy:W.getD 3 []=wYes
    ·rw [decide_eq_true (show W.getD 3 []=[121,101,115] from hy)] at seq3
     obtain ⟨H7,p1,hpc7,hF7,g7,q7⟩:=hpc6.addW hF6 (by omega) (by omega) ((s.dry.length:Nat):Int)
     have u7:=q7 H1 u16 (Nat.le_refl _)
     have h7:=u7.len
     have f1:=f1 H7 g7
     have f2:=f2 H7 g7
     rw [←hdl] at p1
     rcases twoW_none hrow with hna | ⟨⟨za,hna⟩,hnb⟩
     ·obtain ⟨v,k1⟩:=qw_none (H:=H7) (by omega) hna
      simp (maxDischargeDepth:=8) only [↓SD,SU,SV,SW,simprocAttr,Int.cast_ofNat_Int,small,resV, q111x0,t0,t2,t4,t19,t20,t21,s0,s1, lt_nat,hjN,la5,iar,fr,ho6,la6,hlo6,iaw,fw,seq1,bl0,k145,z3,i3,f3,seq3,p1,i1,f1,i2,f2,k1,lda,lwa,lca,so_loc,k_fixb,sget_sset,rD_pan,N111]
      exact fin hno _ _ _ (by omega)
     ·have k1:=qw_some (H:=H7) (by omega) hna
      obtain ⟨v,k2⟩:=qw_none (H:=H7) (by omega) hnb
      simp (maxDischargeDepth:=8) only [↓SD,SU,SV,SW,simprocAttr,Int.cast_ofNat_Int,small,resV, q111x0,t0,t2,t4,t19,t20,t21,s0,s1, lt_nat,hjN,la5,iar,fr,ho6,la6,hlo6,iaw,fw,seq1,bl0,k145,z3,i3,f3,seq3,p1,i1,f1,i2,f2,k1,k2,lda,lwa,lca,so_loc,k_fixb,sget_sset,rD_pan,N111]
      exact fin hno _ _ _ (by omega)
    ·rw [decide_eq_false (show ¬W.getD 3 []=[121,101,115] from hy)] at seq3
     have f1:=f1 H6 (Grow.refl _)
     have f2:=f2 H6 (Grow.refl _)
     rcases twoW_none hrow with hna | ⟨⟨za,hna⟩,hnb⟩
     ·obtain ⟨v,k1⟩:=qw_none (H:=H6) (by omega) hna
      simp (maxDischargeDepth:=8) only [↓SD,SU,SV,SW,simprocAttr,Int.cast_ofNat_Int,small,resV, q111x0,t0,t2,t4,t19,t20,t21,s0,s1, lt_nat,hjN,la5,iar,fr,ho6,la6,hlo6,iaw,fw,seq1,bl0,k145,z3,i3,f3,seq3,i1,f1,i2,f2,k1,lda,lwa,lca,so_loc,k_fixb,sget_sset,rD_pan,N111]
      exact fin hno _ _ _ (by omega)
     ·have k1:=qw_some (H:=H6) (by omega) hna
      obtain ⟨v,k2⟩:=qw_none (H:=H6) (by omega) hnb
      simp (maxDischargeDepth:=8) only [↓SD,SU,SV,SW,simprocAttr,Int.cast_ofNat_Int,small,resV, q111x0,t0,t2,t4,t19,t20,t21,s0,s1, lt_nat,hjN,la5,iar,fr,ho6,la6,hlo6,iaw,fw,seq1,bl0,k145,z3,i3,f3,seq3,i1,f1,i2,f2,k1,k2,lda,lwa,lca,so_loc,k_fixb,sget_sset,rD_pan,N111]
      exact fin hno _ _ _ (by omega)
   ·rename_i hnday
    have key1:(W.getD 0 []=[100,97,121]∧(((nW:Nat):Int)=4)=False)∨¬W.getD 0 []=[100,97,121]:=by
     by_cases h0:W.getD 0 []=[100,97,121]
     ·exact .inl ⟨h0,eq_false (fun h=>hnday ⟨h0,by omega⟩)⟩
     ·exact .inr h0
    split at hrow
    ·rename_i hco
     obtain ⟨hd0,hd3⟩:=hco
     subst hd3
     rw [Option.map_eq_none_iff] at hrow
     rw [decide_eq_false (show ¬W.getD 0 []=[100,97,121] from fun e=>by rw [hd0] at e; exact absurd e (by decide))] at seq1
     rw [decide_eq_true (show W.getD 0 []=[99,111,97,116] from hd0)] at seq2
     have z3:(((3:Nat):Int)=3)=True:=eq_true rfl
     obtain ⟨b1,o1,i1,f1⟩:=s_at (m:=m6) s6 (i:=1) (by decide)
     replace i1:vv (.ia 1) [.slice a6 3 m6,.int .i64 1]=some (.pointer (some ⟨b1,o1,none⟩)):=i1
     obtain ⟨b2,o2,i2,f2⟩:=s_at (m:=m6) s6 (i:=2) (by decide)
     replace i2:vv (.ia 1) [.slice a6 3 m6,.int .i64 2]=some (.pointer (some ⟨b2,o2,none⟩)):=i2
     have f1:=f1 H6 (Grow.refl _)
     have f2:=f2 H6 (Grow.refl _)
     rcases twoW_none hrow with hna | ⟨⟨za,hna⟩,hnb⟩
     ·obtain ⟨v,k1⟩:=qw_none (H:=H6) (by omega) hna
      simp (maxDischargeDepth:=8) only [↓SD,SU,SV,SW,simprocAttr,Int.cast_ofNat_Int,small,resV, q111x0,t0,t2,t4,t19,t20,t21,s0,s1, lt_nat,hjN,la5,iar,fr,ho6,la6,hlo6,iaw,fw,seq1,seq2,bl0',k147,z3,i1,f1,i2,f2,k1,lda,lwa,lca,so_loc,k_fixb,sget_sset,rD_pan,N111]
      exact fin hno _ _ _ (by omega)
     ·have k1:=qw_some (H:=H6) (by omega) hna
      obtain ⟨v,k2⟩:=qw_none (H:=H6) (by omega) hnb
      simp (maxDischargeDepth:=8) only [↓SD,SU,SV,SW,simprocAttr,Int.cast_ofNat_Int,small,resV, q111x0,t0,t2,t4,t19,t20,t21,s0,s1, lt_nat,hjN,la5,iar,fr,ho6,la6,hlo6,iaw,fw,seq1,seq2,bl0',k147,z3,i1,f1,i2,f2,k1,k2,lda,lwa,lca,so_loc,k_fixb,sget_sset,rD_pan,N111]
      exact fin hno _ _ _ (by omega)
    ·rename_i hnco
     rcases key1 with ⟨h0,z4⟩ | h0
     ·rw [decide_eq_true h0] at seq1
      rw [decide_eq_false (show ¬W.getD 0 []=[99,111,97,116] from fun e=>by rw [h0] at e; exact absurd e (by decide))] at seq2
      simp (maxDischargeDepth:=8) only [↓SD,SU,SV,SW,simprocAttr,Int.cast_ofNat_Int,small,resV, q111x0,t0,t2,t4,t19,t20,t21,s0,s1, lt_nat,hjN,la5,iar,fr,ho6,la6,hlo6,iaw,fw,seq1,seq2,bl0,bl0',k145,z4,k144r,lda,lwa,lca,sget_sset,N111]
      exact fin hno _ _ _ (by omega)
     ·rw [decide_eq_false h0] at seq1
      by_cases hc0:W.getD 0 []=[99,111,97,116]
      ·rw [decide_eq_true hc0] at seq2
       have z4:(((nW:Nat):Int)=3)=False:=eq_false (fun h=>hnco ⟨hc0,by omega⟩)
       simp (maxDischargeDepth:=8) only [↓SD,SU,SV,SW,simprocAttr,Int.cast_ofNat_Int,small,resV, q111x0,t0,t2,t4,t19,t20,t21,s0,s1, lt_nat,hjN,la5,iar,fr,ho6,la6,hlo6,iaw,fw,seq1,seq2,bl0,bl0',k147,z4,k144r,lda,lwa,lca,sget_sset,N111]
       exact fin hno _ _ _ (by omega)
      ·rw [decide_eq_false hc0] at seq2
       simp (maxDischargeDepth:=8) only [↓SD,SU,SV,SW,simprocAttr,Int.cast_ofNat_Int,small,resV, q111x0,t0,t2,t4,t19,t20,t21,s0,s1, lt_nat,hjN,la5,iar,fr,ho6,la6,hlo6,iaw,fw,seq1,seq2,bl0,bl0',k144r,lda,lwa,lca,sget_sset,N111]
       exact fin hno _ _ _ (by omega)
end Go.Pi.L.Coa
