/- Coats: the text of a sheet is read as the sheet. -/
import Derived.Test.YtjidjpcnocddeaaGreatDoorDD
import Derived.Test.YtjidjpcnocddeaaGreatDoorDC
set_option linter.all false
set_option maxRecDepth 100000
namespace Go.Pi.L.Coa
open Go Go.Pi Go.Pi.L Go.Pi.Coa CM Go.Pi.Q

theorem yesT_no (b:Bool){c:UInt8}(h:c=32∨c=10):c ∉ yesT b:=by
 rcases h with rfl | rfl <;> cases b <;> decide
theorem headT_no (x:Rw){c:UInt8}(h:c=32∨c=10):c ∉ headT x:=by
 obtain ⟨p,o⟩:=x
 rcases h with rfl | rfl <;> cases o <;> simp [headT,wDay,wCoat]
theorem wordsT_no {x:Rw}(hx:Num2 x.1){c:UInt8}(h:c=32∨c=10):∀q∈wordsT x,c ∉ q:=by
 have hd:isDig c=false:=by rcases h with rfl | rfl <;> decide
 intro q hq
 obtain ⟨p,o⟩:=x
 cases o with
 | some b =>
  simp only [wordsT,List.mem_cons,List.not_mem_nil,or_false] at hq
  rcases hq with rfl | rfl | rfl
  ·exact dgI_no hx.1 hd
  ·exact dgI_no hx.2 hd
  ·exact yesT_no b h
 | none =>
  simp only [wordsT,List.mem_cons,List.not_mem_nil,or_false] at hq
  rcases hq with rfl | rfl
  ·exact dgI_no hx.1 hd
  ·exact dgI_no hx.2 hd
theorem spl_row {x:Rw}(hx:Num2 x.1):spl 32 (rowT x)=headT x :: wordsT x:=by
 unfold rowT
 refine spl_join (c:=32) fun q hq=>?_
 rcases List.mem_cons.1 hq with rfl | hq
 ·exact headT_no x (.inl rfl)
 ·exact wordsT_no hx (.inl rfl) q hq
theorem row_no {x:Rw}(hx:Num2 x.1):(10:UInt8) ∉ rowT x:=by
 unfold rowT
 intro h
 rcases List.mem_append.1 h with h | h
 ·exact headT_no x (.inr rfl) h
 ·obtain ⟨l,hl,hc⟩:=List.mem_flatten.1 h
  obtain ⟨q,hq,rfl⟩:=List.mem_map.1 hl
  rcases List.mem_cons.1 hc with hc | hc
  ·exact absurd hc (by decide)
  ·exact wordsT_no hx (.inr rfl) q hq hc
theorem yes_iff (b:Bool):decide (yesT b=wYes)=b:=by cases b <;> decide
theorem rowP_day (s:Sheet){p:Int×Int}(hp:Num2 p)(b:Bool):rowP s (rowT (p,some b))=some (addD s p b):=by
 unfold rowP
 rw [spl_row (x:=(p,some b)) hp]
 have e:twoW (headT (p,some b) :: wordsT (p,some b))=some p:=by
  unfold twoW
  show (match numW (dgI p.1),numW (dgI p.2) with | some a,some b=>some (a,b) | _,_=>none)=_
  rw [dgI_num hp.1,dgI_num hp.2]
 rw [e,if_pos ⟨rfl,rfl⟩]
 show some (addD s p (decide (yesT b=wYes)))=_
 rw [yes_iff]
theorem rowP_coat (s:Sheet){p:Int×Int}(hp:Num2 p):rowP s (rowT (p,none))=some (addC s p):=by
 unfold rowP
 rw [spl_row (x:=(p,none)) hp]
 have e:twoW (headT (p,none) :: wordsT (p,none))=some p:=by
  unfold twoW
  show (match numW (dgI p.1),numW (dgI p.2) with | some a,some b=>some (a,b) | _,_=>none)=_
  rw [dgI_num hp.1,dgI_num hp.2]
 rw [e,if_neg (fun h=>absurd h.2 (by simp [wordsT])),if_pos ⟨rfl,rfl⟩]
 rfl
theorem fold_coats:∀{cs:List (Int×Int)} (s:Sheet),(∀x∈cs,Num2 x)→foldP s ((cs.map fun c=>((c,none):Rw)).map rowT)=some ⟨s.dry,s.work,s.coats++cs⟩
 | [],s,_=>by simp [foldP]
 | c :: cs,s,h=>by
  have ih:=fold_coats (cs:=cs) (addC s c) fun x hx=>h x (List.mem_cons_of_mem _ hx)
  unfold foldP at ih ⊢
  rw [List.map_cons,List.map_cons,List.foldlM_cons,rowP_coat s (h c (List.mem_cons_self ..))]
  show List.foldlM rowP (addC s c) _=_
  rw [ih]; simp [addC]
theorem fold_days (w:List Int):∀{ds:List (Int×Int)} (s:Sheet),(∀x∈ds,Num2 x)→s.work=normW s.dry.length w→foldP s (((ds.zipIdx s.dry.length).map fun x=>((x.1,some (decide (((x.2:Nat):Int)∈w))):Rw)).map rowT)=some ⟨s.dry++ds,normW (s.dry.length+ds.length) w,s.coats⟩
 | [],s,_,hw=>by simp [foldP,←hw]
 | d :: ds,s,h,hw=>by
  have hw':(addD s d (decide (((s.dry.length:Nat):Int)∈w))).work=normW (addD s d (decide (((s.dry.length:Nat):Int)∈w))).dry.length w:=by
   simp only [addD,List.length_append,List.length_singleton]
   rw [normW_succ,←hw]
   by_cases hm:((s.dry.length:Nat):Int)∈w <;> simp [hm]
  have ih:=fold_days w (ds:=ds) (addD s d (decide (((s.dry.length:Nat):Int)∈w))) (fun x hx=>h x (List.mem_cons_of_mem _ hx)) hw'
  have el:(addD s d (decide (((s.dry.length:Nat):Int)∈w))).dry.length=s.dry.length+1:=by simp [addD]
  rw [el] at ih
  unfold foldP at ih ⊢
  rw [List.zipIdx_cons,List.map_cons,List.map_cons,List.foldlM_cons,rowP_day s (h d (List.mem_cons_self ..))]
  show List.foldlM rowP (addD s d _) _=_
  rw [ih]
  simp only [addD,List.append_assoc,List.singleton_append,List.length_cons]
  rw [show s.dry.length+1+ds.length=s.dry.length+(ds.length+1) by omega]
theorem fold_rows {s:Sheet}(hn:NuC s)(hw:s.work=normW s.dry.length s.work):foldP s0' (rowsC s)=some s:=by
 have h1:=fold_days s.work (ds:=s.dry) s0' hn.d rfl
 have h2:=fold_coats (cs:=s.coats) ⟨[]++s.dry,normW (0+s.dry.length) s.work,[]⟩ hn.c
 have e0:s0'.dry.length=0:=rfl
 rw [e0] at h1
 unfold rowsC rws
 rw [List.map_append]
 unfold foldP at h1 h2 ⊢
 rw [List.foldlM_append]
 unfold dayR
 rw [h1]
 show List.foldlM rowP ⟨[]++s.dry,normW (0+s.dry.length) s.work,[]⟩ _=_
 rw [h2,Nat.zero_add,←hw]
 simp
theorem end_all:∀c,c < 181→(10:UInt8) ∉ endT c∧(endT c).length=7:=by decide +kernel
theorem spl_text {s:Sheet}(hn:NuC s):spl 10 (textC s)=rowsC s++[endT (chkL 0 (rowsC s) % 181),[]]:=by
 have hQ:chkL 0 (rowsC s) % 181 < 181:=Nat.mod_lt _ (by decide)
 unfold textC flatT
 rw [spl_rows fun r hr=>by
  obtain ⟨x,hx,rfl⟩:=List.mem_map.1 hr
  exact row_no (rws_num hn x hx)]
 rw [spl_hit [] (end_all _ hQ).1]; rfl
theorem rowsP_text {s:Sheet}(hn:NuC s):rowsP (textC s)=rowsC s:=by
 unfold rowsP
 rw [spl_text hn]
 simp
theorem parse_text {s:Sheet}(hn:NuC s)(hw:s.work=normW s.dry.length s.work):parseP (textC s)=some s:=by
 unfold parseP
 rw [rowsP_text hn,fold_rows hn hw,if_pos (by rw [spl_text hn]; simp)]
 unfold parseT
 simp
end Go.Pi.L.Coa
set_option maxRecDepth 100000
namespace Go.Pi.L.Coa
open Go Go.Pi Go.Pi.L Go.Pi.Coa CM Go.Pi.Q

def rowR (s:Sheet)(r:List UInt8):Option Sheet :=
 if (spl 32 r).length < 3 then none
 else (twoW (spl 32 r)).map fun p=>if (spl 32 r).length=3 then addC s p else addD s p (decide ((spl 32 r).getD 3 []=wYes))
def foldR (s:Sheet)(R:List (List UInt8)):Option Sheet:=R.foldlM rowR s
def readR (t:List UInt8):Option Sheet:=parseT (foldR s0' (rowsP t)) t
theorem foldR_snoc (s:Sheet)(R:List (List UInt8))(r:List UInt8):foldR s (R++[r])=(foldR s R).bind fun b'=>rowR b' r:=by
 unfold foldR
 rw [List.foldlM_append]
 cases R.foldlM rowR s with
 | none=>rfl
 | some b'=>show (List.foldlM rowR b' [r])=_; simp [List.foldlM]
theorem foldR_cut (b0:Sheet):∀R:List (List UInt8),∃K,K≤R.length∧(∀j,j≤K→∃b,foldR b0 (R.take j)=some b)∧(K=R.length∨∃b r,R[K]?=some r∧foldR b0 (R.take K)=some b∧rowR b r=none∧foldR b0 R=none):=by
 intro R
 have key:∀n,n≤R.length→(∀j,j≤n→∃b,foldR b0 (R.take j)=some b)∨∃K b r,K < n∧(∀j,j≤K→∃b,foldR b0 (R.take j)=some b)∧R[K]?=some r∧foldR b0 (R.take K)=some b∧rowR b r=none:=by
  intro n
  induction n with
  | zero=>intro _; exact .inl fun j hj=>⟨b0,(show j=0 by omega) ▸ (by simp [foldR])⟩
  | succ n ih =>
   intro hn
   rcases ih (by omega) with h | ⟨K,b,r,h1,h2,h3,h4,h5⟩
   ·obtain ⟨b,hb⟩:=h n (Nat.le_refl _)
    have hr:R[n]?=some R[n]:=List.getElem?_eq_getElem (by omega)
    cases hrow:rowR b R[n] with
    | none=>exact .inr ⟨n,b,R[n],by omega,h,hr,hb,hrow⟩
    | some b' =>
     refine .inl fun j hj=>?_
     rcases Nat.lt_or_ge j (n+1) with h' | h'
     ·exact h j (by omega)
     ·obtain rfl:j=n+1:=by omega
      exact ⟨b',by rw [take_get hr,foldR_snoc,hb]; exact hrow⟩
   ·exact .inr ⟨K,b,r,by omega,h2,h3,h4,h5⟩
 rcases key R.length (Nat.le_refl _) with h | ⟨K,b,r,h1,h2,h3,h4,h5⟩
 ·exact ⟨R.length,Nat.le_refl _,h,.inl rfl⟩
 ·refine ⟨K,by omega,h2,.inr ⟨b,r,h3,h4,h5,?_⟩⟩
  have e:R=R.take K++r :: R.drop (K+1):=by
   have:=take_drop_step (f:=0) h3 (Nat.zero_le _)
   simpa using this
  rw [e]
  unfold foldR at h4 ⊢
  rw [List.foldlM_append,h4]
  show List.foldlM rowR b (r :: R.drop (K+1))=none
  rw [List.foldlM_cons,h5]; rfl
theorem rowR_nu {s s':Sheet}{j:Nat}{r:List UInt8}(hs:NuP s j)(h:rowR s r=some s'):NuP s' (j+1):=by
 unfold rowR at h
 split at h
 ·cases h
 ·rw [Option.map_eq_some_iff] at h
  obtain ⟨p,hp,h⟩:=h
  split at h
  ·cases h; exact hs.coat (twoW_num hp)
  ·cases h; exact hs.day (twoW_num hp) _
theorem foldR_nu:∀{R:List (List UInt8)} {s s':Sheet} {j:Nat},NuP s j→foldR s R=some s'→NuP s' (j+R.length)
 | [],s,s',j,hs,h=>by cases h; exact hs
 | r :: R,s,s',j,hs,h=>by
  unfold foldR at h
  rw [List.foldlM_cons] at h
  cases hr:rowR s r with
  | none=>rw [hr] at h; cases h
  | some b =>
   rw [hr] at h
   have:=foldR_nu (rowR_nu hs hr) h
   rw [List.length_cons,show j+(R.length+1)=j+1+R.length by omega]; exact this
theorem rowR_row (s:Sheet){x:Rw}(hx:Num2 x.1):rowR s (rowT x)=rowP s (rowT x):=by
 obtain ⟨p,o⟩:=x
 cases o with
 | some b =>
  rw [rowP_day s hx]
  unfold rowR
  rw [spl_row (x:=(p,some b)) hx]
  have e:twoW (headT (p,some b) :: wordsT (p,some b))=some p:=by
   unfold twoW
   show (match numW (dgI p.1),numW (dgI p.2) with | some a,some b=>some (a,b) | _,_=>none)=_
   rw [dgI_num hx.1,dgI_num hx.2]
  rw [e,if_neg (by simp [wordsT])]
  show some (if (headT (p,some b) :: wordsT (p,some b)).length=3 then addC s p else addD s p (decide (yesT b=wYes)))=_
  rw [if_neg (by simp [wordsT]),yes_iff]
 | none =>
  rw [rowP_coat s hx]
  unfold rowR
  rw [spl_row (x:=(p,none)) hx]
  have e:twoW (headT (p,none) :: wordsT (p,none))=some p:=by
   unfold twoW
   show (match numW (dgI p.1),numW (dgI p.2) with | some a,some b=>some (a,b) | _,_=>none)=_
   rw [dgI_num hx.1,dgI_num hx.2]
  rw [e,if_neg (by simp [wordsT])]
  show some (if (headT (p,none) :: wordsT (p,none)).length=3 then addC s p else _)=_
  rw [if_pos (by simp [wordsT])]
theorem foldR_rows:∀(l:List Rw) (s:Sheet),(∀x∈l,Num2 x.1)→foldR s (l.map rowT)=foldP s (l.map rowT)
 | [],s,_=>rfl
 | x :: l,s,h=>by
  unfold foldR foldP
  rw [List.map_cons,List.foldlM_cons,List.foldlM_cons,rowR_row s (h x (List.mem_cons_self ..))]
  cases rowP s (rowT x) with
  | none=>rfl
  | some b=>exact foldR_rows l b fun y hy=>h y (List.mem_cons_of_mem _ hy)
theorem read_some {t:List UInt8}{s:Sheet}(h:readR t=some s):foldR s0' (rowsP t)=some s∧textC s=t:=by
 unfold readR parseT at h
 split at h
 ·rename_i o s' he
  split at h
  ·rename_i ht
   cases h; exact ⟨he,ht⟩
  ·cases h
 ·cases h
theorem read_nup {t:List UInt8}{s:Sheet}(h:foldR s0' (rowsP t)=some s):NuP s ((spl 10 t).length - 2):=by
 have:=foldR_nu NuP.nil h
 rw [rowsP_len,Nat.zero_add] at this; exact this
theorem spl_le (t:List UInt8):(spl 10 t).length≤t.length+1:=by
 rw [spl_len]; have:=List.count_le_length (a:=10) (l:=t); omega
theorem read_parse {t:List UInt8}(ht:t.length≤400):readR t=parseP t:=by
 have hl:=spl_le t
 cases hp:parseP t with
 | some s =>
  obtain ⟨h1,h2,h3⟩:=parse_some hp
  have hn:=parse_nup hp
  have hn2:=hn.nuc (by omega)
  have h4:rowsP t=rowsC s:=by rw [←h2]; exact rowsP_text hn2
  have h5:=foldR_rows (rws s) s0' (rws_num hn2)
  have h6:foldP s0' ((rws s).map rowT)=some s:=by rw [←h1,h4]; rfl
  unfold readR
  rw [h4]
  unfold rowsC
  rw [h5,h6]
  unfold parseT
  simp [h2]
 | none =>
  cases hr:readR t with
  | none=>rfl
  | some s =>
   obtain ⟨h1,h2⟩:=read_some hr
   have hn:=read_nup h1
   have:=parse_text (hn.nuc (by omega)) hn.wk
   rw [h2,hp] at this; cases this
theorem pw_eq:∀{a b:List Int},a.Pairwise (· < ·)→b.Pairwise (· < ·)→(∀z,z∈a↔z∈b)→a=b
 | [],[],_,_,_=>rfl
 | [],y :: b,_,_,h=>absurd ((h y).2 (List.mem_cons_self ..)) (by simp)
 | x :: a,[],_,_,h=>absurd ((h x).1 (List.mem_cons_self ..)) (by simp)
 | x :: a,y :: b,ha,hb,h=>by
  rw [List.pairwise_cons] at ha hb
  have hxy:x=y:=by
   rcases List.mem_cons.1 ((h x).1 (List.mem_cons_self ..)) with h1 | h1
   ·exact h1
   ·rcases List.mem_cons.1 ((h y).2 (List.mem_cons_self ..)) with h2 | h2
    ·exact h2.symm
    ·have:=hb.1 x h1; have:=ha.1 y h2; omega
  subst hxy
  rw [pw_eq ha.2 hb.2 fun z=>?_]
  constructor
  ·intro hz
   rcases List.mem_cons.1 ((h z).1 (List.mem_cons_of_mem _ hz)) with h1 | h1
   ·have:=ha.1 z hz; omega
   ·exact h1
  ·intro hz
   rcases List.mem_cons.1 ((h z).2 (List.mem_cons_of_mem _ hz)) with h1 | h1
   ·have:=hb.1 z hz; omega
   ·exact h1
theorem rises_pw:∀{l:List Int},rises l=true→l.Pairwise (· < ·)
 | [],_=>.nil
 | [x],_=>by simp
 | x :: y :: l,h=>by
  simp only [rises,Bool.and_eq_true,decide_eq_true_eq] at h
  have ih:=rises_pw h.2
  rw [List.pairwise_cons]
  refine ⟨fun z hz=>?_,ih⟩
  rcases List.mem_cons.1 hz with rfl | hz
  ·exact h.1
  ·have:=(List.pairwise_cons.1 ih).1 z hz; omega
theorem normW_pw (n:Nat)(w:List Int):(normW n w).Pairwise (· < ·):=by
 unfold normW
 rw [List.pairwise_map]
 refine (List.Pairwise.filter _ List.pairwise_lt_range).imp fun h=>by omega
theorem inL_iff {x lo hi:Int}:inL x lo hi=true↔lo≤x∧x≤hi:=by simp [inL]
theorem sheet_nu {s:Sheet}(h:isSheet s=true):NuC s∧s.work=normW s.dry.length s.work∧(textC s).length≤260:=by
 unfold isSheet at h
 simp only [Bool.and_eq_true,inL_iff,List.all_eq_true,spanOk,coatOk,isDay] at h
 obtain ⟨⟨d1,d2⟩,⟨c1,c2⟩,hd,hc,hr,hw⟩:=h
 have hn:NuC s:=by
  refine ⟨fun x hx=>?_,fun x hx=>?_,by omega⟩
  ·have:=hd x hx; exact ⟨⟨by omega,by omega⟩,⟨by omega,by omega⟩⟩
  ·have:=hc x hx; exact ⟨⟨by omega,by omega⟩,⟨by omega,by omega⟩⟩
 refine ⟨hn,pw_eq (rises_pw hr) (normW_pw _ _) fun z=>?_,?_⟩
 ·rw [mem_normW]
  constructor
  ·intro hz
   have:=hw z hz
   exact ⟨z.toNat,by omega,by omega,hz⟩
  ·rintro ⟨_,_,_,hz⟩; exact hz
 ·have hQ:chkL 0 (rowsC s) % 181 < 181:=Nat.mod_lt _ (by decide)
  have h7:=(end_all _ hQ).2
  have l1:(flatT ((dayR s).map rowT)).length≤((dayR s).map rowT).length*(13+1):=flatT_len fun r hr=>by
   obtain ⟨x,hx,rfl⟩:=List.mem_map.1 hr
   obtain ⟨y,hy,rfl⟩:=List.mem_map.1 hx
   have hm:=hd _ (List.fst_mem_of_mem_zipIdx hy)
   have e1:(dgI y.1.1).length≤2:=(dig3_all y.1.1.toNat (by omega)).2.2.1 (by omega)
   have e2:(dgI y.1.2).length≤2:=(dig3_all y.1.2.toNat (by omega)).2.2.1 (by omega)
   have e3:=yesT_len (decide (((y.2:Nat):Int)∈s.work))
   simp [rowT,headT,wordsT,wDay]; omega
  have l2:(flatT ((s.coats.map fun c=>((c,none):Rw)).map rowT)).length≤((s.coats.map fun c=>((c,none):Rw)).map rowT).length*(12+1):=flatT_len fun r hr=>by
   obtain ⟨x,hx,rfl⟩:=List.mem_map.1 hr
   obtain ⟨y,hy,rfl⟩:=List.mem_map.1 hx
   have e1:(dgI y.1).length≤3:=(dig_len _).1
   have e2:(dgI y.2).length≤3:=(dig_len _).1
   simp [rowT,headT,wordsT,wCoat]; omega
  simp only [List.length_map,dayR_len] at l1 l2
  have e:flatT (rowsC s)=flatT ((dayR s).map rowT)++flatT ((s.coats.map fun c=>((c,none):Rw)).map rowT):=by
   unfold rowsC rws flatT; simp
  unfold textC
  rw [e]
  simp only [List.length_append,List.length_singleton,h7]
  omega
end Go.Pi.L.Coa
set_option maxRecDepth 100000
namespace Go.Pi.L.Coa
open Go Go.Pi Go.Pi.L Go.Pi.Coa CM Go.Pi.Q
theorem Nw.mv {β:Type}{H:Heap}{n y k l:Nat}{enc:β→List Value}{a:Option Addr}{xs:List β}(h:Sl H k enc a l xs)(hn:Nw n a)(hy:y < n)(c:Blk):Sl (H.set y c) k enc a l xs:=by
 rcases hn with rfl | ⟨b,off,rfl,hb⟩
 ·exact ⟨h.len,.inl rfl,fun j x hx=>by obtain ⟨b,off,c,h1,_⟩:=h.rd j x hx; cases h1⟩
 ·refine ⟨h.len,h.loc,fun j x hx=>?_⟩
  obtain ⟨b',off',c',h1,h2,h3⟩:=h.rd j x hx
  refine ⟨b',off',c',h1,?_,h3⟩
  cases h1
  unfold hcells at h2 ⊢
  rw [List.getElem?_set_ne (by omega)]; exact h2
theorem c110 {H:Heap}{x y:Nat}{t:List UInt8}{b:Sheet}(hx:hcells H x=some [.string ⟨t.toArray⟩])(hy:H[y]?=some ⟨.cells [.slice none 0 0,.slice none 0 0,.slice none 0 0],true,true,none⟩)(ht:t.length≤360)(hp:parseP t=some b)(hF:Fam H) :
  ∃(r:ShR) (H1:Heap) (lo:Nat),R (.func 110) [.pointer (some ⟨x,0,none⟩),.pointer (some ⟨y,0,none⟩)] H=some ⟨.ok (.tuple #[]),H1.set y { obj:=.cells [.slice r.da r.dl r.dk,.slice r.wa r.wl r.wk,.slice r.ca r.cl r.ck] },lo⟩∧Up H H1∧lo=y∧ShOk (H1.set y { obj:=.cells [.slice r.da r.dl r.dk,.slice r.wa r.wl r.wk,.slice r.ca r.cl r.ck] }) r b∧isLoc (.slice r.da r.dl r.dk)=false∧isLoc (.slice r.wa r.wl r.wk)=false∧isLoc (.slice r.ca r.cl r.ck)=false:=by
 obtain ⟨o,ho,hq⟩:=c111 t ht H hF
 unfold QPa at hq
 rw [hp] at hq
 obtain ⟨r,H1,lo1,rfl,u1,hlo1,hbe,n1,n2,n3⟩:=hq
 have hyl:=lt_of_get hy
 have l1:=hbe.d.isLoc r.dk
 have l2:=hbe.w.isLoc r.wk
 have l3:=hbe.c.isLoc r.ck
 have hy1:H1[y]?=some ⟨.cells [.slice none 0 0,.slice none 0 0,.slice none 0 0],true,true,none⟩:=by rw [u1.old _ hyl]; exact hy
 obtain ⟨H2,hH2⟩:∃H2,H1.set y { obj:=.cells [.slice r.da r.dl r.dk,.slice r.wa r.wl r.wk,.slice r.ca r.cl r.ck] }=H2:=⟨_,rfl⟩
 have hul:=u1.len
 have key:Yes (R (.func 110) [.pointer (some ⟨x,0,none⟩),.pointer (some ⟨y,0,none⟩)] H) (fun o=>∃lo,o=⟨.ok (.tuple #[]),H2,lo⟩∧lo=y):=by
  refine run_y (pr 110) P110 (by simp [p110]) rfl ?_
  simp (maxDischargeDepth:=8) only [↓SD,SU,SV,SW,simprocAttr,Int.cast_ofNat_Int,small,resV, B110,R110,N110,b110, hx,ho,l1,l2,l3,hy1,stH_ok,hH2,R110,N110]
  rw [yes_some]
  refine ⟨min (min H.length lo1) y,?_,by omega⟩
  unfold gcR
  rw [if_neg (by simp; omega)]
 obtain ⟨o,ho2,lo,rfl,hlo⟩:=key
 refine ⟨r,H1,lo,by rw [hH2]; exact ho2,u1,hlo,?_,l1,l2,l3⟩
 exact ⟨Nw.mv hbe.d n1 hyl _,Nw.mv hbe.w n2 hyl _,Nw.mv hbe.c n3 hyl _⟩
theorem c109n {g:FuncId}{caps:List Value}{H H3:Heap}{lo3:Nat}{v:Value}(hc:(caps.all fun v=>!isLoc v)=true)
  (hf:R (.func g) caps (H++[({ obj:=.cells [.int .i64 0,.int .i64 0] }:Blk)]++[({ obj:=.cells [.int .i64 0] }:Blk)])=some ⟨.ok v,H3,lo3⟩)
  (hA:H3[H.length]?=some ⟨.cells [.int .i64 0,.int .i64 0],true,true,none⟩) (hB:H3[H.length+1]?=some ⟨.cells [.int .i64 0],true,true,none⟩) :
  Yes (R (.func 109) [.func (.func g) #[] caps.toArray] H) (fun o=>∃lo,min lo3 H.length≤lo∧lo≤lo3∧o=gcR H (.ok (.tuple #[.agg #[.int .i64 0,.int .i64 0],.int .i64 0])) H3 lo):=by
 generalize hH:H++[({ obj:=.cells [.int .i64 0,.int .i64 0] }:Blk)]++[({ obj:=.cells [.int .i64 0] }:Blk)]=H1 at hf
 have a0:H1.length=H.length+2:=by rw [←hH]; simp
 have rd1:hcells H3 H.length=some [.int .i64 0,.int .i64 0]:=by unfold hcells; rw [hA]
 have rd2:hcells H3 (H.length+1)=some [.int .i64 0]:=by unfold hcells; rw [hB]
 have e1:H3.set H.length { obj:=.cells [.int .i64 0,.int .i64 0] }=H3:=set_same hA
 have e2:H3.set (H.length+1) { obj:=.cells [.int .i64 0] }=H3:=set_same hB
 have d1:=fun call H=>d142n call H.length (H.length+1) H
 have d2:=fun call=>d142n call H.length (H.length+1) H3
 refine run_y (pr 109) P109 (by simp [p109]) rfl ?_
 simp (maxDischargeDepth:=8) only [↓SD,SU,SV,SW,simprocAttr,Int.cast_ofNat_Int,small,resV, B109,R109,N109,b109, List.length_singleton,hH,hc,hf,hA,hB,stH_ok,e1,e2,d2,rd1,rd2,a0,R109,N109]
 rw [yes_some]
 have hB3:=lt_of_get hB
 exact ⟨min (min (min (min H.length lo3) H.length) (H.length+1)) H3.length,by omega,by omega,rfl⟩
structure RdB (H':Heap)(t:List UInt8)(Ha Hb Hc:Heap):Prop where
 ea:H'++[({ obj:=.cells [.string ⟨t.toArray⟩] }:Blk)]=Ha
 eb:Ha++[({ obj:=.cells [.slice none 0 0,.slice none 0 0,.slice none 0 0] }:Blk)]=Hb
 ec:Hb++[({ obj:=.cells [.int .i64 0,.int .i64 0] }:Blk)]++[({ obj:=.cells [.int .i64 0] }:Blk)]=Hc
 la:Ha.length=H'.length+1
 lb:Hb.length=H'.length+2
 lc:Hc.length=H'.length+4
 ua:Up H' Ha
 ub:Up Ha Hb
 uc:Up Hb Hc
 fc:Fam Hc
 ca:hcells Ha H'.length=some [.string ⟨t.toArray⟩]
 cc:hcells Hc H'.length=some [.string ⟨t.toArray⟩]
 yb:Hc[Ha.length]?=some ⟨.cells [.slice none 0 0,.slice none 0 0,.slice none 0 0],true,true,none⟩
 yA:Hc[Hb.length]?=some ⟨.cells [.int .i64 0,.int .i64 0],true,true,none⟩
 yB:Hc[Hb.length+1]?=some ⟨.cells [.int .i64 0],true,true,none⟩
theorem rdB (t:List UInt8){H':Heap}(hF:Fam H'):∃Ha Hb Hc,RdB H' t Ha Hb Hc:=by
 obtain ⟨Ha,hHa⟩:∃Ha,H'++[({ obj:=.cells [.string ⟨t.toArray⟩] }:Blk)]=Ha:=⟨_,rfl⟩
 obtain ⟨Hb,hHb⟩:∃Hb,Ha++[({ obj:=.cells [.slice none 0 0,.slice none 0 0,.slice none 0 0] }:Blk)]=Hb:=⟨_,rfl⟩
 obtain ⟨Hc,hHc⟩:∃Hc,Hb++[({ obj:=.cells [.int .i64 0,.int .i64 0] }:Blk)]++[({ obj:=.cells [.int .i64 0] }:Blk)]=Hc:=⟨_,rfl⟩
 have la:Ha.length=H'.length+1:=by rw [←hHa]; simp
 have lb:Hb.length=H'.length+2:=by rw [←hHb]; simp [la]
 have lc:Hc.length=H'.length+4:=by rw [←hHc]; simp [lb]
 have ua:Up H' Ha:=by rw [←hHa]; exact (Up.refl _).app
 have ub:Up Ha Hb:=by rw [←hHb]; exact (Up.refl _).app
 have uc:Up Hb Hc:=by rw [←hHc]; exact (Up.refl _).app.app
 have hFc:Fam Hc:=by
  rw [←hHc,←hHb,←hHa]
  exact (((hF.append (fun f h=>by cases h)).append (fun f h=>by cases h)).append (fun f h=>by cases h)).append (fun f h=>by cases h)
 have xa:Ha[H'.length]?=some ⟨.cells [.string ⟨t.toArray⟩],true,true,none⟩:=by rw [←hHa]; exact app_get
 have xb:Hb[Ha.length]?=some ⟨.cells [.slice none 0 0,.slice none 0 0,.slice none 0 0],true,true,none⟩:=by rw [←hHb]; exact app_get
 have ya:Hc[H'.length]?=some ⟨.cells [.string ⟨t.toArray⟩],true,true,none⟩:=by rw [uc.old _ (by omega),ub.old _ (by omega)]; exact xa
 have yb:Hc[Ha.length]?=some ⟨.cells [.slice none 0 0,.slice none 0 0,.slice none 0 0],true,true,none⟩:=by rw [uc.old _ (by omega)]; exact xb
 have yA:Hc[Hb.length]?=some ⟨.cells [.int .i64 0,.int .i64 0],true,true,none⟩:=by rw [←hHc,List.append_assoc,List.getElem?_append_right (Nat.le_refl _)]; simp
 have yB:Hc[Hb.length+1]?=some ⟨.cells [.int .i64 0],true,true,none⟩:=by rw [←hHc,List.append_assoc,List.getElem?_append_right (by omega),Nat.add_sub_cancel_left]; rfl
 exact ⟨Ha,Hb,Hc,hHa,hHb,hHc,la,lb,lc,ua,ub,uc,hFc,by unfold hcells; rw [xa],by unfold hcells; rw [ya],yb,yA,yB⟩
theorem read_mid {t:List UInt8}{b:Sheet}(ht:t.length≤260)(hp:parseP t=some b){H' Ha Hb Hc:Heap}(B:RdB H' t Ha Hb Hc) :
  ∃(r:ShR) (H2:Heap) (lo2:Nat),R (.func 109) [.func (.func 110) #[] #[.pointer (some ⟨H'.length,0,none⟩),.pointer (some ⟨Ha.length,0,none⟩)]] Hb=some ⟨.ok (.tuple #[.agg #[.int .i64 0,.int .i64 0],.int .i64 0]),H2,lo2⟩∧H'.length≤lo2 ∧
   hcells H2 Ha.length=some [.slice r.da r.dl r.dk,.slice r.wa r.wl r.wk,.slice r.ca r.cl r.ck]∧Up H' H2∧ShOk H2 r b∧isLoc (.slice r.da r.dl r.dk)=false∧isLoc (.slice r.wa r.wl r.wk)=false∧isLoc (.slice r.ca r.cl r.ck)=false∧Small r:=by
 have la:=B.la
 have lb:=B.lb
 have lc:=B.lc
 obtain ⟨r,H1,lo,k110,u1,hlo,hbe,l1,l2,l3⟩:=c110 (x:=H'.length) (y:=Ha.length) B.cc B.yb (by omega) hp B.fc
 obtain ⟨H2,hH2⟩:∃H2,H1.set Ha.length { obj:=.cells [.slice r.da r.dl r.dk,.slice r.wa r.wl r.wk,.slice r.ca r.cl r.ck] }=H2:=⟨_,rfl⟩
 rw [hH2] at k110 hbe
 have h1l:=u1.len
 have e2:H2.length=H1.length:=by rw [←hH2]; simp
 have o2:∀i,i≠Ha.length→H2[i]?=H1[i]?:=fun i hi=>by rw [←hH2,List.getElem?_set_ne (fun e=>hi e.symm)]
 rw [←B.ec] at k110
 obtain ⟨o,k109,lo2,hlo2,hlo3,ho⟩:=c109n (g:=110) (caps:=[.pointer (some ⟨H'.length,0,none⟩),.pointer (some ⟨Ha.length,0,none⟩)]) (H:=Hb) (by rfl) k110 (by rw [o2 _ (by omega),u1.old _ (by omega)]; exact B.yA) (by rw [o2 _ (by omega),u1.old _ (by omega)]; exact B.yB)
 rw [gc_not (by omega)] at ho
 subst ho
 have u2:Up H' H2:=by rw [←hH2]; exact (((B.ua.trans B.ub).trans B.uc).trans u1).set (by omega)
 have hnu:=parse_nup hp
 have hn2:=hnu.ln
 have hwl:=hnu.wl
 have hsl:=spl_le t
 exact ⟨r,H2,lo2,k109,by omega,by unfold hcells; rw [←hH2,List.getElem?_set_self (by omega)],u2,hbe,l1,l2,l3,⟨by have:=hbe.d.len; omega,by have:=hbe.w.len; omega,by have:=hbe.c.len; omega⟩⟩
theorem c68 {t:List UInt8}{b:Sheet}(ht:t.length≤260)(hp:parseP t=some b)(hB:isSheet b=true)(H':Heap)(hF:Fam H') :
  ∃(r:ShR) (H1:Heap) (lo:Nat),R (.func 68) [.string ⟨t.toArray⟩] H'=some ⟨.ok (.tuple #[.agg #[.slice r.da r.dl r.dk,.slice r.wa r.wl r.wk,.slice r.ca r.cl r.ck],.int .i64 0]),H1,lo⟩∧Up H' H1∧H'.length≤lo∧ShOk H1 r b:=by
 obtain ⟨Ha,Hb,Hc,B⟩:=rdB t hF
 obtain ⟨r,H2,lo2,k109,hlo2,hcy,u2,hbe,l1,l2,l3,hsm⟩:=read_mid ht hp B
 have hHa:=B.ea
 have hHb:=B.eb
 have hca:=B.ca
 have la:=B.la
 have lb:=B.lb
 have h2:=u2.len
 have k75:=c75 hbe hsm H2 (Grow.refl _)
 rw [hB] at k75
 have sl0:=vv_slen' t
 have z1:((260:Int) < ((t.length:Nat):Int))=False:=eq_false (by omega)
 have z1':(((t.length:Nat):Int) > 260)=False:=z1
 have key:Yes (R (.func 68) [.string ⟨t.toArray⟩] H') (fun o=>∃(H3:Heap) (lo:Nat),o=⟨.ok (.tuple #[.agg #[.slice r.da r.dl r.dk,.slice r.wa r.wl r.wk,.slice r.ca r.cl r.ck],.int .i64 0]),H3,lo⟩∧Up H' H3∧H'.length≤lo∧ShOk H3 r b):=by
  refine run_y (pr 68) P68 (by simp [p68]) rfl ?_
  simp (maxDischargeDepth:=8) only [↓SD,SU,SV,SW,simprocAttr,Int.cast_ofNat_Int,small,resV, B68,R68,N68,b68, l1,l2,l3,hHa,hca,sl0,z1,z1',hHb,k109,hcy,k75,R68,N68]
  rw [yes_some]
  by_cases hfl:flat 4 (.tuple #[.agg #[.slice r.da r.dl r.dk,.slice r.wa r.wl r.wk,.slice r.ca r.cl r.ck],.int .i64 0])=true
  ·rw [gc_ite (by omega),if_pos hfl]
   have hfl':flat 2 (.slice r.da r.dl r.dk)=true∧flat 2 (.slice r.wa r.wl r.wk)=true∧flat 2 (.slice r.ca r.cl r.ck)=true:=by simpa [flat] using hfl
   exact ⟨H',H'.length,rfl,Up.refl _,Nat.le_refl _,⟨hbe.d.flat hfl'.1,hbe.w.flat hfl'.2.1,hbe.c.flat hfl'.2.2⟩⟩
  ·rw [gc_ite (by omega),if_neg hfl]
   exact ⟨H2,_,rfl,u2,by omega,hbe⟩
 obtain ⟨o,ho,H3,lo3,rfl,w1,w2,w3⟩:=key
 exact ⟨r,H3,lo3,ho,w1,w2,w3⟩
theorem c68a {t:List UInt8}{b:Sheet}(ht:t.length≤260)(hp:parseP t=some b)(hB:isSheet b=false)(H':Heap)(hF:Fam H') :
  R (.func 68) [.string ⟨t.toArray⟩] H'=some ⟨.ok (.tuple #[.agg #[.slice none 0 0,.slice none 0 0,.slice none 0 0],.int .i64 2]),H',H'.length⟩:=by
 obtain ⟨Ha,Hb,Hc,B⟩:=rdB t hF
 obtain ⟨r,H2,lo2,k109,hlo2,hcy,u2,hbe,l1,l2,l3,hsm⟩:=read_mid ht hp B
 have hHa:=B.ea
 have hHb:=B.eb
 have hca:=B.ca
 have la:=B.la
 have lb:=B.lb
 have h2:=u2.len
 have k75:=c75 hbe hsm H2 (Grow.refl _)
 rw [hB] at k75
 have sl0:=vv_slen' t
 have z1:((260:Int) < ((t.length:Nat):Int))=False:=eq_false (by omega)
 have z1':(((t.length:Nat):Int) > 260)=False:=z1
 have bl:vv (.bld [.slice none 0 0,.slice none 0 0,.slice none 0 0] []) []=some (.agg #[.slice none 0 0,.slice none 0 0,.slice none 0 0]):=by rw [vv_of (by rfl)]; rfl
 have key:Yes (R (.func 68) [.string ⟨t.toArray⟩] H') (fun o=>o=⟨.ok (.tuple #[.agg #[.slice none 0 0,.slice none 0 0,.slice none 0 0],.int .i64 2]),H',H'.length⟩):=by
  refine run_y (pr 68) P68 (by simp [p68]) rfl ?_
  simp (maxDischargeDepth:=8) only [↓SD,SU,SV,SW,simprocAttr,Int.cast_ofNat_Int,small,resV, B68,R68,N68,b68, l1,l2,l3,hHa,hca,sl0,z1,z1',hHb,k109,hcy,k75,bl,R68,N68]
  rw [yes_some]
  all_goals first | rfl | (rw [gc_ite (by omega)]; simp [flat])
 obtain ⟨o,ho,rfl⟩:=key
 exact ho
theorem c68l {t:List UInt8}(ht:260 < t.length)(H':Heap) :
  R (.func 68) [.string ⟨t.toArray⟩] H'=some ⟨.ok (.tuple #[.agg #[.slice none 0 0,.slice none 0 0,.slice none 0 0],.int .i64 3]),H',H'.length⟩:=by
 obtain ⟨Ha,hHa⟩:∃Ha,H'++[({ obj:=.cells [.string ⟨t.toArray⟩] }:Blk)]=Ha:=⟨_,rfl⟩
 have la:Ha.length=H'.length+1:=by rw [←hHa]; simp
 have hca:hcells Ha H'.length=some [.string ⟨t.toArray⟩]:=by rw [←hHa]; unfold hcells; rw [app_get]
 have sl0:=vv_slen' t
 have z1:((260:Int) < ((t.length:Nat):Int))=True:=eq_true (by omega)
 have z1':(((t.length:Nat):Int) > 260)=True:=z1
 have bl:vv (.bld [.slice none 0 0,.slice none 0 0,.slice none 0 0] []) []=some (.agg #[.slice none 0 0,.slice none 0 0,.slice none 0 0]):=by rw [vv_of (by rfl)]; rfl
 have key:Yes (R (.func 68) [.string ⟨t.toArray⟩] H') (fun o=>o=⟨.ok (.tuple #[.agg #[.slice none 0 0,.slice none 0 0,.slice none 0 0],.int .i64 3]),H',H'.length⟩):=by
  refine run_y (pr 68) P68 (by simp [p68]) rfl ?_
  simp (maxDischargeDepth:=8) only [↓SD,SU,SV,SW,simprocAttr,Int.cast_ofNat_Int,small,resV, B68,R68,N68,b68, hHa,hca,sl0,z1,z1',bl,R68,N68]
  rw [yes_some]
  all_goals first | rfl | (rw [gc_ite (by omega)]; simp [flat])
 obtain ⟨o,ho,rfl⟩:=key
 exact ho
theorem c110p {H:Heap}{x y:Nat}{t:List UInt8}(hx:hcells H x=some [.string ⟨t.toArray⟩])(ht:t.length≤360)(hp:parseP t=none)(hF:Fam H) :
  ∃w,R (.func 110) [.pointer (some ⟨x,0,none⟩),.pointer (some ⟨y,0,none⟩)] H=some ⟨.panic (.iface 157 (.agg #[.string w])),H,H.length⟩:=by
 obtain ⟨o,ho,hq⟩:=c111 t ht H hF
 unfold QPa at hq
 rw [hp] at hq
 obtain ⟨w,rfl⟩:=hq
 have key:Yes (R (.func 110) [.pointer (some ⟨x,0,none⟩),.pointer (some ⟨y,0,none⟩)] H) (fun o=>o=⟨.panic (.iface 157 (.agg #[.string w])),H,H.length⟩):=by
  refine run_y (pr 110) P110 (by simp [p110]) rfl ?_
  simp (maxDischargeDepth:=8) only [↓SD,SU,SV,SW,simprocAttr,Int.cast_ofNat_Int,small,resV, B110,R110,N110,b110, hx,ho,R110,N110]
  rw [yes_some]
  all_goals simp [gcR,flat]
 obtain ⟨o,ho2,rfl⟩:=key
 exact ⟨w,ho2⟩
theorem d142t (call:CallT)(x y:Nat)(w:ByteArray)(H:Heap)(ha:H[y]?=some ⟨.cells [.int .i64 0],true,true,none⟩) :
  drunL PP primsL call (.func 142) [.pointer (some ⟨x,0,none⟩),.pointer (some ⟨y,0,none⟩)] H (some (.iface 157 (.agg #[.string w]))) =
   some (H.set y { obj:=.cells [.int .i64 4] },min H.length y,none):=by
 rw [drun_rc (d:=6) (pr 142) P142 (by simp [p142]) rfl (by simp [p142])]
 have t1:∀z x,vv (.tas 100 z) [.iface 157 (.agg #[.string x])]=some (.tuple #[z,.bool false]):=fun z x=>by rw [vv_of (by rfl)]; rfl
 have t2:∀z x,vv (.tas 157 z) [.iface 157 (.agg #[.string x])]=some (.tuple #[.agg #[.string x],.bool true]):=fun z x=>by rw [vv_of (by rfl)]; rfl
 simp (maxDischargeDepth:=8) only [↓SD,SU,SV,SW,simprocAttr,Int.cast_ofNat_Int,small,resV, B142,R142,N142,b142, Option.getD_some,ha,t1,t2]
 exact dfin_n _ _ _ _ _ _ _ _ R142
theorem c109t {g:FuncId}{caps:List Value}{H:Heap}{w:ByteArray}(hc:(caps.all fun v=>!isLoc v)=true)
  (hf:R (.func g) caps (H++[({ obj:=.cells [.int .i64 0,.int .i64 0] }:Blk)]++[({ obj:=.cells [.int .i64 0] }:Blk)])=some ⟨.panic (.iface 157 (.agg #[.string w])),H++[({ obj:=.cells [.int .i64 0,.int .i64 0] }:Blk)]++[({ obj:=.cells [.int .i64 0] }:Blk)],H.length+2⟩) :
  R (.func 109) [.func (.func g) #[] caps.toArray] H=some ⟨.ok (.tuple #[.agg #[.int .i64 0,.int .i64 0],.int .i64 4]),H,H.length⟩:=by
 have hB:(H++[({ obj:=.cells [.int .i64 0,.int .i64 0] }:Blk)]++[({ obj:=.cells [.int .i64 0] }:Blk)])[H.length+1]?=some ⟨.cells [.int .i64 0],true,true,none⟩:=by
  rw [List.append_assoc,List.getElem?_append_right (by omega),Nat.add_sub_cancel_left]; rfl
 have hA:(H++[({ obj:=.cells [.int .i64 0,.int .i64 0] }:Blk)]++[({ obj:=.cells [.int .i64 0] }:Blk)])[H.length]?=some ⟨.cells [.int .i64 0,.int .i64 0],true,true,none⟩:=by
  rw [List.append_assoc,List.getElem?_append_right (Nat.le_refl _)]; simp
 generalize hH:H++[({ obj:=.cells [.int .i64 0,.int .i64 0] }:Blk)]++[({ obj:=.cells [.int .i64 0] }:Blk)]=H1 at hf hA hB
 have a0:H1.length=H.length+2:=by rw [←hH]; simp
 have rd1:hcells (H1.set (H.length+1) { obj:=.cells [.int .i64 4] }) H.length=some [.int .i64 0,.int .i64 0]:=by unfold hcells; rw [List.getElem?_set_ne (by omega),hA]
 have rd2:hcells (H1.set (H.length+1) { obj:=.cells [.int .i64 4] }) (H.length+1)=some [.int .i64 4]:=by unfold hcells; rw [List.getElem?_set_self (by omega)]
 have d1:=fun call=>d142t call H.length (H.length+1) w H1 hB
 have key:Yes (R (.func 109) [.func (.func g) #[] caps.toArray] H) (fun o=>o=⟨.ok (.tuple #[.agg #[.int .i64 0,.int .i64 0],.int .i64 4]),H,H.length⟩):=by
  refine run_y (pr 109) P109 (by simp [p109]) rfl ?_
  simp (maxDischargeDepth:=8) only [↓SD,SU,SV,SW,simprocAttr,Int.cast_ofNat_Int,small,resV, B109,R109,N109,b109, List.length_singleton,hH,hc,hf,d1,hA,hB,rd1,rd2,a0,R109,N109]
  rw [yes_some]
  all_goals first | rfl | (rw [gc_ite (by omega)]; simp [flat])
 obtain ⟨o,ho,rfl⟩:=key
 exact ho
theorem c68t {t:List UInt8}(ht:t.length≤260)(hp:parseP t=none)(H':Heap)(hF:Fam H') :
  R (.func 68) [.string ⟨t.toArray⟩] H'=some ⟨.ok (.tuple #[.agg #[.slice none 0 0,.slice none 0 0,.slice none 0 0],.int .i64 4]),H',H'.length⟩:=by
 obtain ⟨Ha,Hb,Hc,B⟩:=rdB t hF
 have la:=B.la
 have lb:=B.lb
 have lc:=B.lc
 obtain ⟨w,k110⟩:=c110p (x:=H'.length) (y:=Ha.length) (t:=t) B.cc (by omega) hp B.fc
 have lc':Hc.length=Hb.length+2:=by omega
 rw [lc',←B.ec] at k110
 have k109:R (.func 109) [.func (.func 110) #[] #[.pointer (some ⟨H'.length,0,none⟩),.pointer (some ⟨Ha.length,0,none⟩)]] Hb=some ⟨.ok (.tuple #[.agg #[.int .i64 0,.int .i64 0],.int .i64 4]),Hb,Hb.length⟩ :=
  c109t (g:=110) (caps:=[.pointer (some ⟨H'.length,0,none⟩),.pointer (some ⟨Ha.length,0,none⟩)]) (H:=Hb) (by rfl) k110
 have hHa:=B.ea
 have hHb:=B.eb
 have hca:=B.ca
 have sl0:=vv_slen' t
 have z1:((260:Int) < ((t.length:Nat):Int))=False:=eq_false (by omega)
 have z1':(((t.length:Nat):Int) > 260)=False:=z1
 have bl:vv (.bld [.slice none 0 0,.slice none 0 0,.slice none 0 0] []) []=some (.agg #[.slice none 0 0,.slice none 0 0,.slice none 0 0]):=by rw [vv_of (by rfl)]; rfl
 have key:Yes (R (.func 68) [.string ⟨t.toArray⟩] H') (fun o=>o=⟨.ok (.tuple #[.agg #[.slice none 0 0,.slice none 0 0,.slice none 0 0],.int .i64 4]),H',H'.length⟩):=by
  refine run_y (pr 68) P68 (by simp [p68]) rfl ?_
  simp (maxDischargeDepth:=8) only [↓SD,SU,SV,SW,simprocAttr,Int.cast_ofNat_Int,small,resV, B68,R68,N68,b68, hHa,hca,sl0,z1,z1',hHb,k109,bl,R68,N68]
  rw [yes_some]
  all_goals first | rfl | (rw [gc_ite (by omega)]; simp [flat])
 obtain ⟨o,ho,rfl⟩:=key
 exact ho
theorem c67 {H:Heap}{r:ShR}{s:Sheet}(hs:ShOk H r s)(hd:Small r):∀H',Grow H H'→R (.func 67) [.agg #[.slice r.da r.dl r.dk,.slice r.wa r.wl r.wk,.slice r.ca r.cl r.ck]] H'=some ⟨.ok (if isSheet s=true then .tuple #[.string ⟨(textC s).toArray⟩,.int .i64 0] else .tuple #[.string ⟨#[]⟩,.int .i64 2]),H',H'.length⟩:=by
 intro H' hg
 have l1:=hs.d.isLoc r.dk
 have l2:=hs.w.isLoc r.wk
 have l3:=hs.c.isLoc r.ck
 have k75:=c75 hs hd H' hg
 refine run_k (pr 67) P67 (by simp [p67]) rfl ?_
 cases hB:isSheet s with
 | false =>
  rw [hB] at k75
  simp (maxDischargeDepth:=8) only [↓SD,SU,SV,SW,simprocAttr,Int.cast_ofNat_Int,small,resV, B67,R67,N67,b67, l1,l2,l3,k75,R67,N67]
  try simp
 | true =>
  rw [hB] at k75
  have k108:=c108 hs (sheet_nu hB).1 hd.w H' hg
  simp (maxDischargeDepth:=8) only [↓SD,SU,SV,SW,simprocAttr,Int.cast_ofNat_Int,small,resV, B67,R67,N67,b67, l1,l2,l3,k75,k108,R67,N67]
  try simp
end Go.Pi.L.Coa
set_option maxRecDepth 100000
namespace Go.Pi.L.Coa
open Go Go.Pi Go.Pi.L Go.Pi.Coa CM Go.Pi.Q
theorem dig3_step:∀n,n < 1000→10≤n→dig3 (n / 10)++[UInt8.ofNat (48+n % 10)]=dig3 n:=by decide +kernel
theorem dig3_one:∀n,n < 10→dig3 n=[UInt8.ofNat (48+n)]:=by decide +kernel
theorem c148a {n:Nat}(h:n < 10)(H:Heap):R (.func 148) [.int .i64 (n:Nat)] H=some ⟨.ok (.string ⟨(dig3 n).toArray⟩),H,H.length⟩:=by
 refine run_k (pr 148) P148 (by simp [p148]) rfl ?_
 have z1:((-10:Int) < ((n:Nat):Int))=True:=eq_true (by omega)
 have z2:(((n:Nat):Int) < 0)=False:=eq_false (by omega)
 have z3:(((n:Nat):Int) < 10)=True:=eq_true (by omega)
 have w1:IntKind.wrap .i64 (48+((n:Nat):Int))=((48+n:Nat):Int):=by rw [wrap_id _ (by omega) (by omega)]; omega
 have w2:IntKind.wrap .u8 ((48+n:Nat):Int)=((48+n:Nat):Int):=by unfold IntKind.wrap; simp [IntKind.bits,IntKind.signed]; omega
 have hb:Option.map (fun bs=>Value.string { data:=List.toArray bs }) ((some [Value.int .u8 ((48+n:Nat):Int)]).bind bytesOf)=some (.string ⟨(dig3 n).toArray⟩):=by rw [dig3_one n h]; rfl
 simp (maxDischargeDepth:=8) only [↓SD,SU,SV,SW,simprocAttr,Int.cast_ofNat_Int,small,resV, B148,R148,N148,b148, z1,z2,z3,w1,w2,g_b2s,b2sV,hb,R148,N148]
theorem c148s {n:Nat}(h:10≤n)(h9:n < 1000)(H:Heap)(k0:R (.func 148) [.int .i64 ((n / 10:Nat):Int)] H=some ⟨.ok (.string ⟨(dig3 (n / 10)).toArray⟩),H,H.length⟩):R (.func 148) [.int .i64 (n:Nat)] H=some ⟨.ok (.string ⟨(dig3 n).toArray⟩),H,H.length⟩:=by
 refine run_k (pr 148) P148 (by simp [p148]) rfl ?_
 have z1:((-10:Int) < ((n:Nat):Int))=True:=eq_true (by omega)
 have z2:(((n:Nat):Int) < 0)=False:=eq_false (by omega)
 have z3:(((n:Nat):Int) < 10)=False:=eq_false (by omega)
 have q1:Int.tdiv ((n:Nat):Int) 10=((n / 10:Nat):Int):=rfl
 have q2:Int.tmod ((n:Nat):Int) 10=((n % 10:Nat):Int):=rfl
 have w0:IntKind.wrap .i64 ((n / 10:Nat):Int)=((n / 10:Nat):Int):=wrapN (by omega)
 have w1:IntKind.wrap .i64 (48+((n % 10:Nat):Int))=((48+n % 10:Nat):Int):=by rw [wrap_id _ (by omega) (by omega)]; omega
 have w2:IntKind.wrap .u8 ((48+n % 10:Nat):Int)=((48+n % 10:Nat):Int):=by unfold IntKind.wrap; simp [IntKind.bits,IntKind.signed]; omega
 have hb:Option.map (fun bs=>Value.string { data:=List.toArray bs }) ((some [Value.int .u8 ((48+n % 10:Nat):Int)]).bind bytesOf)=some (.string ⟨[UInt8.ofNat (48+n % 10)].toArray⟩):=rfl
 have s1:=vv_sadd (dig3 (n / 10)) [UInt8.ofNat (48+n % 10)] (by have:=(dig_len (n / 10)).1; simp; omega)
 rw [dig3_step n h9 h] at s1
 simp (maxDischargeDepth:=8) only [↓SD,SU,SV,SW,simprocAttr,Int.cast_ofNat_Int,small,resV, B148,R148,N148,b148, z1,z2,z3,vv_quo,vv_rem,q1,q2,w0,k0,w1,w2,goD_b2s,b2sV,hb,s1,so_loc,k_fixb,R148,N148]
theorem c148 {z:Int}(h0:0≤z)(h9:z≤999)(H:Heap):R (.func 148) [.int .i64 z] H=some ⟨.ok (.string ⟨(dgI z).toArray⟩),H,H.length⟩:=by
 obtain ⟨n,rfl⟩:∃n:Nat,z=n:=⟨z.toNat,by omega⟩
 show R (.func 148) [.int .i64 (n:Nat)] H=some ⟨.ok (.string ⟨(dig3 n).toArray⟩),H,H.length⟩
 have h2:∀m:Nat,m < 100→R (.func 148) [.int .i64 (m:Nat)] H=some ⟨.ok (.string ⟨(dig3 m).toArray⟩),H,H.length⟩:=fun m hm=>by
  by_cases h:m < 10
  ·exact c148a h H
  ·exact c148s (by omega) (by omega) H (c148a (by omega) H)
 by_cases h:n < 100
 ·exact h2 n h
 ·exact c148s (by omega) (by omega) H (h2 (n / 10) (by omega))
def numsT (ns:List Int):List UInt8:=(ns.map fun z=>32 :: dgI z).flatten
theorem numsT_snoc (ns:List Int)(z:Int):numsT (ns++[z])=numsT ns++(32 :: dgI z):=by
 unfold numsT; simp
theorem numsT_len {ns:List Int}:(numsT ns).length≤4*ns.length:=by
 unfold numsT
 induction ns with
 | nil=>simp
 | cons z ns ih =>
  have:(dgI z).length≤3:=(dig_len z.toNat).1
  simp only [List.map_cons,List.flatten_cons,List.length_append,List.length_cons] at ih ⊢
  omega
theorem new_ints {H:Heap}(ns:List Int):Ints (H++[⟨.cells (cells encI ns),true,true,some H.length⟩]) (some ⟨H.length,0,none⟩) ns.length ns :=
 Sl.of_cells encI_len (by simp [hcells])
theorem numsT_take {ns:List Int}{j:Nat}{z:Int}(h:ns[j]?=some z):numsT (ns.take (j+1))=numsT (ns.take j)++(32 :: dgI z):=by
 rw [take_get h,numsT_snoc]
theorem c112 {H:Heap}{a:Option Addr}{l kk:Nat}{ns:List Int}(hs:Ints H a l ns)(hn:∀z∈ns,0≤z∧z≤999)(hl:l≤300)(w:List UInt8)(hw8:w.length≤100) :
  ∀H',Grow H H'→R (.func 112) [.string ⟨w.toArray⟩,.slice a l kk] H'=some ⟨.ok (.string ⟨(w++numsT ns).toArray⟩),H',H'.length⟩:=by
 intro H' hg
 refine run_k (pr 112) P112 (by simp [p112]) rfl ?_
 have l1:=hs.isLoc kk
 have hll:=hs.len
 have e0:w=w++numsT (ns.take 0):=by simp [numsT]
 simp (maxDischargeDepth:=8) only [↓SD,SU,SV,SW,simprocAttr,Int.cast_ofNat_Int,small,resV, B112,R112,N112,b112, l1]
 refine loop_ind (G:=(·=_)) (fun j σ=>∃T S out,σ=⟨T,S,[],H',(H').length,21,false⟩∧get T 0=.string ⟨out.toArray⟩∧get T 1=.slice a l kk∧get T 5=.int .i64 (j:Nat)∧(out=w++numsT (ns.take j))) (l) ?_ ?_ 0 _ (Nat.zero_le _) ⟨_,_,_,rfl,rfl,rfl,rfl,e0⟩
 ·rintro c' j s hj ⟨T,S,out,rfl,t0,t1,t5,hp⟩ ih
  have hw:=wrap_succ j (by omega)
  obtain ⟨b1,o1,v,hva,hv1,fv⟩:=hs.i1 hj
  have fv:=fv H' hg
  obtain ⟨v0,v9⟩:=hn v (List.mem_of_getElem? hv1)
  have k148:=c148 v0 v9 H'
  have hd2:(dgI v).length≤3:=(dig_len v.toNat).1
  have hol:out.length≤2000:=by
   rw [hp]
   have:=numsT_len (ns:=ns.take j)
   simp only [List.length_append,List.length_take] at this ⊢
   omega
  have iav:vv (.ia 1) [.slice a l kk,.int .i64 (j:Nat)]=some (.pointer (some ⟨b1,o1+j*1,none⟩)):=by rw [hva]; exact vv_iaN 1 b1 o1 j _ _ _ hj
  have s1:=vv_sadd out [32] (by simp; omega)
  have s2:=vv_sadd (out++[32]) (dgI v) (by simp; omega)
  simp (maxDischargeDepth:=8) only [↓SD,SU,SV,SW,simprocAttr,Int.cast_ofNat_Int,small,resV, q112x0,t0,t1,t5, lt_nat,hj,l1,iav,fv,k148,hw,s1,s2]
  exact ih _ ⟨_,_,(out++[32]++dgI v),rfl,(by simp [get_set,t0] <;> omega),(by simp [get_set,t1] <;> omega),(by simp [get_set,t5] <;> omega),by rw [numsT_take hv1,hp,List.append_assoc,List.append_assoc]; rfl⟩
 ·rintro c' s ⟨T,S,out,rfl,t0,t1,t5,hp⟩
  rw [List.take_of_length_le (by omega)] at hp
  simp (maxDischargeDepth:=8) only [↓SD,SU,SV,SW,simprocAttr,Int.cast_ofNat_Int,small,resV, q112x0,t0,t1,t5, lt_nat,Nat.lt_irrefl,l1,R112,N112]
  rw [hp]
set_option maxHeartbeats 4000000 in
theorem c113 {H:Heap}{a:Option Addr}{N m:Nat}{rows:List (List UInt8)}(hrw:Sl H 1 encT a N rows)(hN:N≤601)(hR2:∀r∈rows,r.length≤1020) :
  ∀H',Grow H H'→R (.func 113) [.slice a N m,.int .i64 181] H'=some ⟨.ok (.string ⟨(flatT rows++(endT (chkL 0 rows % 181)++[10])).toArray⟩),H',H'.length⟩:=by
 intro H' hg
 refine run_k (pr 113) P113 (by simp [p113]) rfl ?_
 have l9:=hrw.isLoc m
 have hRN:=hrw.len
 simp (maxDischargeDepth:=8) only [↓SD,SU,SV,SW,simprocAttr,Int.cast_ofNat_Int,small,resV, B113,R113,N113,b113, l9]
 refine loop_ind (G:=(·=_)) (fun j σ=>∃T S out C lim3,σ=⟨T,S,[],H',lim3,65,false⟩∧get T 0=.slice a N m∧get T 1=.int .i64 181∧get T 5=.string ⟨out.toArray⟩∧get T 6=.int .i64 ((C:Nat):Int)∧get T 7=.int .i64 (j:Nat)∧(out=flatT (rows.take j)∧C=chkL 0 (rows.take j)∧out.length≤1021*j∧H'.length≤lim3)) (N) ?_ ?_ 0 _ (Nat.zero_le _) ⟨_,_,_,_,_,rfl,rfl,rfl,rfl,rfl,rfl,⟨(show []=flatT (rows.take 0) from rfl),(show 0=chkL 0 (rows.take 0) from rfl),Nat.le_refl 0,Nat.le_refl _⟩⟩
 ·rintro c' j s hj ⟨T,S,out,C,lim3,rfl,t0,t1,t5,t6,t7,hp⟩ ih
  obtain ⟨ho,hC,hol,hlim3⟩:=hp
  have ihO:=ih
  clear ih
  have hw:=wrap_succ j (by omega)
  obtain ⟨b1,o1,R0,hRa,hR0,hat⟩:=hrw.at encT_len (by decide) hj
  have fR:rdO (hcells H' b1) (o1+j*1) none=some (.string ⟨R0.toArray⟩):=At.v0 hat H' hg
  have iaR:vv (.ia 1) [.slice a N m,.int .i64 (j:Nat)]=some (.pointer (some ⟨b1,o1+j*1,none⟩)):=by rw [hRa]; exact vv_iaN 1 b1 o1 j _ _ _ hj
  have hRl:=hR2 R0 (List.mem_of_getElem? hR0)
  have hCb:C≤255*1100*700*1100*700:=by
   rw [hC]
   refine Nat.le_trans (chkL_le _ 0 (fun x hx=>by have:=hR2 x (List.mem_of_mem_take hx); omega) (by rw [List.length_take]; omega)) ?_
   refine Nat.mul_le_mul_left _ ?_
   rw [List.length_take]; omega
  obtain ⟨M,hM⟩:∃M,R0.length=M:=⟨_,rfl⟩
  have sl0:=vv_slen' R0
  rw [hM] at sl0
  have s1:=vv_sadd out R0 (by omega)
  have s2:=vv_sadd (out++R0) [10] (by simp; omega)
  simp (maxDischargeDepth:=8) only [↓SD,SU,SV,SW,simprocAttr,Int.cast_ofNat_Int,small,resV, q113x1,t0,t1,t5,t6,t7, lt_nat,hj,l9]
  obtain ⟨j0,hj0⟩:∃j0,j0=j:=⟨_,rfl⟩
  subst hj0
  refine loop_ind (G:=(·=_)) (fun j σ=>∃T S D lim4,σ=⟨T,S,[],H',lim4,65,false⟩∧get T 0=.slice a N m∧get T 1=.int .i64 181∧get T 5=.string ⟨out.toArray⟩∧get T 6=.int .i64 ((D:Nat):Int)∧get T 7=.int .i64 (j0:Nat)∧get T 8=.int .i64 (j:Nat)∧(D=C+chkR j0 0 (R0.take j)∧H'.length≤lim4)) (M) ?_ ?_ 0 _ (Nat.zero_le _) ⟨_,_,_,_,rfl,(by first | (simp [get_set,t0,t1,t5,t6,t7]; done) | rfl),(by first | (simp [get_set,t0,t1,t5,t6,t7]; done) | rfl),(by first | (simp [get_set,t0,t1,t5,t6,t7]; done) | rfl),(by first | (simp [get_set,t0,t1,t5,t6,t7]; done) | rfl),(by first | (simp [get_set,t0,t1,t5,t6,t7]; done) | rfl),(by first | (simp [get_set,t0,t1,t5,t6,t7]; done) | rfl),⟨(show C=C+chkR j0 0 (R0.take 0) from rfl),by omega⟩⟩
  ·rintro c' j s hj ⟨T,S,D,lim4,rfl,t0,t1,t5,t6,t7,t8,hp⟩ ih
   obtain ⟨hD,hlim4⟩:=hp
   have hw2:=wrap_succ j (by omega)
   obtain ⟨x,hx⟩:∃x,R0[j]?=some x:=⟨_,List.getElem?_eq_getElem (by omega)⟩
   have ix:=vv_ix' R0 .i64 j x hx
   have hx8:x.toNat≤255:=by have:=x.toNat_lt; omega
   have hm1:IntKind.wrap .i64 (((x.toNat:Nat):Int)*((j+1:Nat):Int))=((x.toNat*(j+1):Nat):Int):=by
    rw [←Int.natCast_mul]
    exact wrapN (Nat.lt_of_le_of_lt (Nat.mul_le_mul hx8 (show j+1≤1100 by omega)) (by omega))
   have hm2:IntKind.wrap .i64 (((x.toNat*(j+1):Nat):Int)*((j0+1:Nat):Int))=((x.toNat*(j+1)*(j0+1):Nat):Int):=by
    rw [←Int.natCast_mul]
    exact wrapN (Nat.lt_of_le_of_lt (Nat.mul_le_mul (Nat.mul_le_mul hx8 (show j+1≤1100 by omega)) (show j0+1≤700 by omega)) (by omega))
   have hDb:D≤255*1100*700*1100*701:=by
    rw [hD]
    have h1:=chkR_le j0 (R0.take j) 0 (by rw [List.length_take]; omega) (by omega)
    have h2:(R0.take j).length≤1100:=by rw [List.length_take]; omega
    have h3:=Nat.mul_le_mul_left (255*1100*700) h2
    omega
   have hp1:x.toNat*(j+1)*(j0+1)≤255*1100*700:=Nat.mul_le_mul (Nat.mul_le_mul hx8 (show j+1≤1100 by omega)) (show j0+1≤700 by omega)
   have hp2:IntKind.wrap .i64 (((D:Nat):Int)+((x.toNat*(j+1)*(j0+1):Nat):Int))=((D+x.toNat*(j+1)*(j0+1):Nat):Int):=by
    rw [←Int.natCast_add]
    exact wrapN (Nat.lt_of_le_of_lt (Nat.add_le_add hDb hp1) (by omega))
   have hcv:=vv_cvI .u8 .i64 ((x.toNat:Nat):Int) (wrapN (by omega))
   simp (maxDischargeDepth:=8) only [↓SD,SU,SV,SW,simprocAttr,Int.cast_ofNat_Int,small,resV, q113x0,t0,t1,t5,t6,t7,t8, lt_nat,hj,l9,iaR,fR,sl0,ix,hcv,hw,hw2,hm1,hm2,hp2]
   exact ih _ ⟨_,_,(D+x.toNat*(j+1)*(j0+1)),(_),rfl,(by simp [get_set,t0] <;> omega),(by simp [get_set,t1] <;> omega),(by simp [get_set,t5] <;> omega),(by simp [get_set,t6] <;> omega),(by simp [get_set,t7] <;> omega),(by simp [get_set,t8] <;> omega),⟨by rw [chkR_take hx,hD,Nat.add_assoc],by omega⟩⟩
  ·rintro c' s ⟨T,S,D,lim4,rfl,t0,t1,t5,t6,t7,t8,hp⟩
   obtain ⟨hD,hlim4⟩:=hp
   rw [List.take_of_length_le (by omega)] at hD
   simp (maxDischargeDepth:=8) only [↓SD,SU,SV,SW,simprocAttr,Int.cast_ofNat_Int,small,resV, q113x0,t0,t1,t5,t6,t7,t8, lt_nat,Nat.lt_irrefl,l9,iaR,fR,sl0,s1,s2,hw]
   exact ihO _ ⟨_,_,out++R0++[10],D,_,rfl,by simp [get_set,t0],by simp [get_set,t1],by simp [get_set],by simp [get_set,t6],by simp [get_set],by rw [flatT_take hR0,ho],by rw [hD,hC,chkL_take hR0],by simp only [List.length_append,List.length_singleton]; omega,by omega⟩
 ·rintro c' s ⟨T,S,out,C,lim3,rfl,t0,t1,t5,t6,t7,ho,hC,hol,hlim3⟩
  rw [List.take_of_length_le (by omega)] at hC ho
  obtain ⟨Q,hQ⟩:∃Q,C % 181=Q:=⟨_,rfl⟩
  have hQ9:Q < 181:=by rw [←hQ]; exact Nat.mod_lt _ (by decide)
  have rm1:Int.tmod ((C:Nat):Int) 181=((Q:Nat):Int):=by rw [←hQ]; rfl
  have qu1:Int.tdiv ((Q:Nat):Int) 100=((Q / 100:Nat):Int):=rfl
  have qu2:Int.tdiv ((Q:Nat):Int) 10=((Q / 10:Nat):Int):=rfl
  have rm2:Int.tmod ((Q / 10:Nat):Int) 10=((Q / 10 % 10:Nat):Int):=rfl
  have rm3:Int.tmod ((Q:Nat):Int) 10=((Q % 10:Nat):Int):=rfl
  have w1:IntKind.wrap .i64 ((Q / 100:Nat):Int)=((Q / 100:Nat):Int):=wrapN (by omega)
  have w2:IntKind.wrap .i64 ((Q / 10:Nat):Int)=((Q / 10:Nat):Int):=wrapN (by omega)
  have ka:R (.func 148) [.int .i64 ((Q / 100:Nat):Int)] H'=some ⟨.ok (.string ⟨(dig3 (Q / 100)).toArray⟩),H',H'.length⟩:=c148 (by omega) (by omega) H'
  have kb:R (.func 148) [.int .i64 ((Q / 10 % 10:Nat):Int)] H'=some ⟨.ok (.string ⟨(dig3 (Q / 10 % 10)).toArray⟩),H',H'.length⟩:=c148 (by omega) (by omega) H'
  have kc:R (.func 148) [.int .i64 ((Q % 10:Nat):Int)] H'=some ⟨.ok (.string ⟨(dig3 (Q % 10)).toArray⟩),H',H'.length⟩:=c148 (by omega) (by omega) H'
  have d1:=(dig_len (Q / 100)).1
  have d2:=(dig_len (Q / 10 % 10)).1
  have d3:=(dig_len (Q % 10)).1
  have s0:=vv_sadd out [101,110,100,32] (by simp; omega)
  have s1:=vv_sadd (out++[101,110,100,32]) (dig3 (Q / 100)) (by simp; omega)
  have s2:=vv_sadd (out++[101,110,100,32]++dig3 (Q / 100)) (dig3 (Q / 10 % 10)) (by simp; omega)
  have s3:=vv_sadd (out++[101,110,100,32]++dig3 (Q / 100)++dig3 (Q / 10 % 10)) (dig3 (Q % 10)) (by simp; omega)
  have s4:=vv_sadd (out++[101,110,100,32]++dig3 (Q / 100)++dig3 (Q / 10 % 10)++dig3 (Q % 10)) [10] (by simp; omega)
  simp (maxDischargeDepth:=8) only [↓SD,SU,SV,SW,simprocAttr,Int.cast_ofNat_Int,small,resV, q113x1,t0,t1,t5,t6,t7,lt_nat,Nat.lt_irrefl,l9,vv_rem,vv_quo,rm1,qu1,qu2,rm2,rm3,w1,w2,ka,kb,kc,s0,s1,s2,s3,s4,R113,N113]
  rw [←hC,hQ,ho,gc_ite (by omega)]
  simp [endT,flatT,List.append_assoc,flat]
theorem rowT_day (p:Int×Int)(y:Bool):wDay++numsT [p.1,p.2]++(32 :: yesT y)=rowT (p,some y):=by simp [rowT,headT,wordsT,numsT]
theorem rowT_coat (p:Int×Int):wCoat++numsT [p.1,p.2]=rowT (p,none):=by simp [rowT,headT,wordsT,numsT]
set_option maxHeartbeats 4000000 in
theorem c69 {H:Heap}{r:ShR}{s:Sheet}(hs:ShOk H r s)(hn:NuC s)(hwl:r.wl < 1000000):∀H',Grow H H'→R (.func 69) [.agg #[.slice r.da r.dl r.dk,.slice r.wa r.wl r.wk,.slice r.ca r.cl r.ck]] H'=some ⟨.ok (.string ⟨(textC s).toArray⟩),H',H'.length⟩:=by
 intro H' hg
 obtain ⟨hR1,hR2⟩:=rowsC_len hn
 obtain ⟨da,dl,dk,wa,wl,wk,ca,cl,ck⟩:=r
 have hD:Spans H da dl s.dry:=hs.d
 have hW:Ints H wa wl s.work:=hs.w
 have hC:Spans H ca cl s.coats:=hs.c
 have hdl:=hD.len
 have hcl:=hC.len
 have hnn:=hn.n
 have nW:wl < 1000000:=hwl
 have l1:=hD.isLoc dk
 have l2:=hW.isLoc wk
 have l3:=hC.isLoc ck
 refine run_k (pr 69) P69 (by simp [p69]) rfl ?_
 simp (maxDischargeDepth:=8) only [↓SD,SU,SV,SW,simprocAttr,Int.cast_ofNat_Int,small,resV, B69,R69,N69,b69, l1,l2,l3]
 refine loop_ind (G:=(·=_)) (fun j σ=>∃T S H3 al m lim,σ=⟨T,S,[],H3,lim,63,false⟩∧get T 1=.pointer (some ⟨1,0,some 1⟩)∧get T 3=.slice al j m∧get T 4=.int .i64 (j:Nat)∧sget S 1=(1,.cells [.slice da dl dk,.slice wa wl wk,.slice ca cl ck])∧(Bld H'.length H3 1 al j m (cells encT (((dayR s).take j).map rowT))∧Up H' H3∧H'.length≤lim)) (dl) ?_ ?_ 0 _ (Nat.zero_le _) ⟨_,_,_,_,_,_,rfl,rfl,rfl,rfl,rfl,⟨Bld.nil _ _ _,Up.refl _,Nat.le_refl _⟩⟩
 ·rintro c' j s hj ⟨T,S,H3,al,m,lim,rfl,t1,t3,t4,s0,hp⟩ ih
  obtain ⟨hbd,hu,hlim⟩:=hp
  have hw:=wrap_succ j (by omega)
  have l8:isLoc (.slice al j m)=false:=hbd.isLoc _ _
  have hul:=hu.len
  obtain ⟨b1,o1,d,hda,hd1,fd,fd0,fd1⟩:=hD.s2 hj
  have fd0:=fd0 H3 (hg.trans hu.grow)
  have fd1:=fd1 H3 (hg.trans hu.grow)
  have hdn:=hn.d d (List.mem_of_getElem? hd1)
  have k51:=c51 (kk:=wk) ((j:Nat):Int) hW nW H3 (hg.trans hu.grow)
  first | rw [any_mem] at k51 | skip
  obtain ⟨y,hy⟩:∃y,decide (((j:Nat):Int)∈s.work)=y:=⟨_,rfl⟩
  rw [hy] at k51
  have hrj:=dayR_get hd1
  rw [hy] at hrj
  have iad:vv (.ia 2) [.slice da dl dk,.int .i64 (j:Nat)]=some (.pointer (some ⟨b1,o1+j*2,none⟩)):=by rw [hda]; exact vv_iaN 2 b1 o1 j _ _ _ hj
  obtain ⟨H4,hH4⟩:∃H4,H3++[(⟨.cells [.int .i64 d.1,.int .i64 d.2],true,true,some H3.length⟩:Blk)]=H4:=⟨_,rfl⟩
  have e4:H4.length=H3.length+1:=by rw [←hH4]; simp
  have u4:Up H3 H4:=by rw [←hH4]; exact (Up.refl _).app
  have hs4:Ints H4 (some ⟨H3.length,0,none⟩) 2 [d.1,d.2]:=by rw [←hH4]; exact new_ints [d.1,d.2]
  have kd:=c112 (kk:=1) hs4 (fun z hz=>by
   rcases List.mem_cons.1 hz with h | hz
   ·rw [h]; exact hdn.1
   ·rw [List.mem_singleton.1 hz]; exact hdn.2) (by omega) wDay (by decide) H4 (Grow.refl _)
  have hwD:(⟨#[100,97,121]⟩:ByteArray)=⟨wDay.toArray⟩:=rfl
  have hnl:=numsT_len (ns:=[d.1,d.2])
  have hyl:=yesT_len y
  have s1:=vv_sadd (wDay++numsT [d.1,d.2]) (32 :: yesT y) (by simp [wDay] at hnl ⊢; omega)
  rw [rowT_day] at s1
  obtain ⟨H6,p1,p2,p3,p4⟩:=(hbd.up u4).app (by decide) (by decide) (by omega) (by omega) [.string ⟨(rowT (d,some y)).toArray⟩] rfl
  have u6:=p3.up (hbd.up u4) (hu.trans u4) (Nat.le_refl _)
  have hl6:=u6.len
  have hcl2:cells encT (((dayR s).take (j+1)).map rowT)=cells encT (((dayR s).take j).map rowT)++[.string ⟨(rowT (d,some y)).toArray⟩]:=by
   rw [take_get hrj,List.map_append,List.map_singleton,cells_app]; rfl
  cases y with
  | true =>
   have hwY:(⟨#[32,121,101,115]⟩:ByteArray)=⟨(32 :: yesT true).toArray⟩:=rfl
   simp (maxDischargeDepth:=8) only [↓SD,SU,SV,SW,simprocAttr,Int.cast_ofNat_Int,small,resV, q69x1,t1,t3,t4,s0, s0,lt_nat,hj,l1,l2,l3,l8,iad,fd0,fd1,k51,hH4,hwD,kd,hwY,s1,hw,p1,so_loc,k_fixb,sget_sset]
   exact ih _ ⟨_,_,(H6),(some ⟨H4.length,0,none⟩),(1),(_),rfl,(by simp [get_set,t1] <;> omega),(by simp [get_set,t3] <;> omega),(by simp [get_set,t4] <;> omega),by simp [sget_sset,s0],⟨by rw [hcl2]; exact p2,u6,by omega⟩⟩
  | false =>
   have hwY:(⟨#[32,110,111]⟩:ByteArray)=⟨(32 :: yesT false).toArray⟩:=rfl
   simp (maxDischargeDepth:=8) only [↓SD,SU,SV,SW,simprocAttr,Int.cast_ofNat_Int,small,resV, q69x1,t1,t3,t4,s0, s0,lt_nat,hj,l1,l2,l3,l8,iad,fd0,fd1,k51,hH4,hwD,kd,hwY,s1,hw,p1,so_loc,k_fixb,sget_sset]
   exact ih _ ⟨_,_,(H6),(some ⟨H4.length,0,none⟩),(1),(_),rfl,(by simp [get_set,t1] <;> omega),(by simp [get_set,t3] <;> omega),(by simp [get_set,t4] <;> omega),by simp [sget_sset,s0],⟨by rw [hcl2]; exact p2,u6,by omega⟩⟩
 ·rintro c' s ⟨T,S,H3,al,m,lim,rfl,t1,t3,t4,s0,hp⟩
  obtain ⟨hbd,hu,hlim⟩:=hp
  have l8:isLoc (.slice al dl m)=false:=hbd.isLoc _ _
  rw [List.take_of_length_le (by rw [dayR_len]; omega)] at hbd
  simp (maxDischargeDepth:=8) only [↓SD,SU,SV,SW,simprocAttr,Int.cast_ofNat_Int,small,resV, q69x1,t1,t3,t4,s0, s0,lt_nat,Nat.lt_irrefl,l1,l2,l3,l8,sget_sset]
  have hbd0:Bld H'.length H3 1 al dl m (cells encT ((dayR s).map rowT++(s.coats.take 0).map fun c=>rowT (c,none))):=by rw [List.take_zero,List.map_nil,List.append_nil]; exact hbd
  refine loop_ind (G:=(·=_)) (fun j σ=>∃T S H4 al2 c m2 lim2,σ=⟨T,S,[],H4,lim2,63,false⟩∧get T 1=.pointer (some ⟨1,0,some 1⟩)∧get T 3=.slice al2 c m2∧get T 6=.int .i64 (j:Nat)∧sget S 1=(1,.cells [.slice da dl dk,.slice wa wl wk,.slice ca cl ck])∧(c=dl+j∧Bld H'.length H4 1 al2 c m2 (cells encT ((dayR s).map rowT++(s.coats.take j).map fun c=>rowT (c,none)))∧Up H' H4∧H'.length≤lim2)) (cl) ?_ ?_ 0 _ (Nat.zero_le _) ⟨_,_,_,_,_,_,_,rfl,(by first | (simp [get_set,t1,t3,t4]; done) | rfl),(by first | (simp [get_set,t1,t3,t4]; done) | rfl),(by first | (simp [get_set,t1,t3,t4]; done) | rfl),(by first | rfl | exact s0),⟨(show dl=dl+0 from rfl),hbd0,hu,by omega⟩⟩
  ·rintro c' j s hj ⟨T,S,H4,al2,c,m2,lim2,rfl,t1,t3,t6,s0,hp⟩ ih
   obtain ⟨rfl,hbd,hu,hlim⟩:=hp
   have hw:=wrap_succ j (by omega)
   have l8:isLoc (.slice al2 (dl+j) m2)=false:=hbd.isLoc _ _
   have hul:=hu.len
   obtain ⟨b1,o1,d,hda,hd1,fd,fd0,fd1⟩:=hC.s2 hj
   have fd0:=fd0 H4 (hg.trans hu.grow)
   have fd1:=fd1 H4 (hg.trans hu.grow)
   have hdn:=hn.c d (List.mem_of_getElem? hd1)
   have iad:vv (.ia 2) [.slice ca cl ck,.int .i64 (j:Nat)]=some (.pointer (some ⟨b1,o1+j*2,none⟩)):=by rw [hda]; exact vv_iaN 2 b1 o1 j _ _ _ hj
   obtain ⟨H5,hH5⟩:∃H5,H4++[(⟨.cells [.int .i64 d.1,.int .i64 d.2],true,true,some H4.length⟩:Blk)]=H5:=⟨_,rfl⟩
   have e5:H5.length=H4.length+1:=by rw [←hH5]; simp
   have u5:Up H4 H5:=by rw [←hH5]; exact (Up.refl _).app
   have hs5:Ints H5 (some ⟨H4.length,0,none⟩) 2 [d.1,d.2]:=by rw [←hH5]; exact new_ints [d.1,d.2]
   have kd:=c112 (kk:=1) hs5 (fun z hz=>by
    rcases List.mem_cons.1 hz with h | hz
    ·rw [h]; exact hdn.1
    ·rw [List.mem_singleton.1 hz]; exact hdn.2) (by omega) wCoat (by decide) H5 (Grow.refl _)
   rw [rowT_coat] at kd
   have hwD:(⟨#[99,111,97,116]⟩:ByteArray)=⟨wCoat.toArray⟩:=rfl
   obtain ⟨H6,p1,p2,p3,p4⟩:=(hbd.up u5).app (by decide) (by decide) (by omega) (by omega) [.string ⟨(rowT (d,none)).toArray⟩] rfl
   have u6:=p3.up (hbd.up u5) (hu.trans u5) (Nat.le_refl _)
   have hl6:=u6.len
   have hcl2:cells encT ((dayR s).map rowT++(s.coats.take (j+1)).map fun c=>rowT (c,none))=cells encT ((dayR s).map rowT++(s.coats.take j).map fun c=>rowT (c,none))++[.string ⟨(rowT (d,none)).toArray⟩]:=by
    rw [take_get hd1,List.map_append,List.map_singleton,←List.append_assoc,cells_app]; rfl
   simp (maxDischargeDepth:=8) only [↓SD,SU,SV,SW,simprocAttr,Int.cast_ofNat_Int,small,resV, q69x0,t1,t3,t6,s0, s0,lt_nat,hj,l1,l2,l3,l8,iad,fd0,fd1,hH5,hwD,kd,hw,p1,so_loc,k_fixb,sget_sset]
   exact ih _ ⟨_,_,(H6),(some ⟨H5.length,0,none⟩),(dl+j+1),(1),(_),rfl,(by simp [get_set,t1] <;> omega),(by simp [get_set,t3] <;> omega),(by simp [get_set,t6] <;> omega),by simp [sget_sset,s0],⟨by omega,by rw [hcl2]; exact p2,u6,by omega⟩⟩
  ·rintro c' s ⟨T,S,H4,al2,c,m2,lim2,rfl,t1,t3,t6,s0,hp⟩
   obtain ⟨rfl,hbd,hu,hlim⟩:=hp
   have hrs:(dayR s).map rowT++s.coats.map (fun c=>rowT (c,none))=rowsC s:=by unfold rowsC rws; rw [List.map_append,List.map_map]; rfl
   rw [List.take_of_length_le (by omega),hrs] at hbd
   obtain ⟨N,hN⟩:∃N,dl+cl=N:=⟨_,rfl⟩
   rw [hN] at hbd t3
   have l9:isLoc (.slice al2 N m2)=false:=hbd.isLoc _ _
   have hrw:=hbd.sl encT_len (by decide)
   have hul:=hu.len
   have k113:=c113 (m:=m2) hrw (by omega) (fun r hr=>by have:=hR2 r hr; omega) H4 (Grow.refl _)
   simp (maxDischargeDepth:=8) only [↓SD,SU,SV,SW,simprocAttr,Int.cast_ofNat_Int,small,resV, q69x0,t1,t3,t6,s0, s0,lt_nat,Nat.lt_irrefl,l1,l2,l3,l9,k113,sget_sset,R69,N69]
   rw [gc_ite (by omega)]
   simp [flat,textC]
end Go.Pi.L.Coa
