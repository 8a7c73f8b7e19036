/- Benches: the numbers that words are, as the specification reads them. -/
import Derived.Test.YtfndfpbdgjoilaaGreatDoorDM
import Derived.Test.YtfndfpbdgjoilaaGreatDoorDJ
import Derived.Test.YtfndfpbdgjoilaaGreatDoorDL
set_option linter.all false
set_option maxRecDepth 100000
namespace BM
open Go
def decM (n:Nat):List UInt8:=if n=0 then [48] else if n < 10 then [45,UInt8.ofNat (48+n)] else [45,UInt8.ofNat (48+n / 10),UInt8.ofNat (48+n % 10)]
def numR (w:List UInt8):Int×Bool :=
 if w.getD 0 0=45 then (if 1≤(w.drop 1).length∧(w.drop 1).length≤2∧(w.drop 1).all isDig=true then (-((valD (w.drop 1) 0:Nat):Int),decide (decM (valD (w.drop 1) 0)=w)) else (0,false))
 else (if 1≤w.length∧w.length≤2∧w.all isDig=true then (((valD w 0:Nat):Int),decide (Pi.Q.dig (valD w 0)=w)) else (0,false))
theorem numR_W (w:List UInt8):numW w=if (numR w).2=true∧0≤(numR w).1 then some (numR w).1 else none:=by
 unfold numR
 by_cases h45:w.getD 0 0=45
 ·rw [if_pos h45]
  have hn:numW w=none:=by
   unfold numW
   rw [if_neg]
   rintro ⟨h1,_,h3,_⟩
   cases w with
   | nil=>exact h1 rfl
   | cons x l =>
    have hx:x=45:=h45
    have:=List.all_eq_true.1 h3 x (List.mem_cons_self ..)
    rw [hx] at this; exact absurd this (by decide)
  rw [hn,if_neg]
  split
  ·rename_i hc
   rintro ⟨h1,h2⟩
   simp only at h1 h2
   have h0:valD (w.drop 1) 0=0:=by omega
   rw [h0] at h1
   have hw:=of_decide_eq_true h1
   rw [←hw] at h45
   exact absurd h45 (by decide)
  ·rintro ⟨h1,_⟩; cases h1
 ·rw [if_neg h45]
  unfold numW
  by_cases hc:1≤w.length∧w.length≤2∧w.all isDig=true
  ·rw [if_pos hc]
   by_cases hd:Pi.Q.dig (valD w 0)=w
   ·rw [if_pos ⟨fun e=>by rw [e] at hc; exact absurd hc.1 (by decide),hc.2.1,hc.2.2,hd⟩,if_pos ⟨decide_eq_true hd,by omega⟩]
   ·rw [if_neg (fun h=>hd h.2.2.2),if_neg (fun h=>hd (of_decide_eq_true h.1))]
  ·rw [if_neg hc,if_neg (fun h=>hc ⟨by have:=h.1; cases w with | nil=>exact (this rfl).elim | cons=>simp,h.2.1,h.2.2.1⟩),if_neg (by simp)]
def numsR (xs:List (List UInt8)):Option (List Int):=xs.mapM fun w=>if (numR w).2=true then some (numR w).1 else none
end BM
namespace Go.Pi.L.Ben
open Go Go.Pi Go.Pi.L Go.Pi.E Go.Pi.Ben BM Go.Pi.Q

theorem mapM_cut (f:List UInt8→Option Int):∀xs:List (List UInt8),∃K ns,K≤xs.length∧ns.length=K∧(∀j,j < K→∃w z,xs[j]?=some w∧ns[j]?=some z∧f w=some z)∧((K=xs.length∧xs.mapM f=some ns)∨(xs.mapM f=none∧∃w,xs[K]?=some w∧f w=none))
 | []=>⟨0,[],Nat.le_refl _,rfl,fun j hj=>by omega,.inl ⟨rfl,rfl⟩⟩
 | w :: xs=>by
  obtain ⟨K,ns,a1,a2,a3,a4⟩:=mapM_cut f xs
  cases hw:f w with
  | none=>exact ⟨0,[],Nat.zero_le _,rfl,fun j hj=>by omega,.inr ⟨by simp [List.mapM_cons,hw],w,rfl,hw⟩⟩
  | some z =>
   refine ⟨K+1,z :: ns,by simp; omega,by simp [a2],fun j hj=>?_,?_⟩
   ·cases j with
    | zero=>exact ⟨w,z,rfl,rfl,hw⟩
    | succ j=>exact a3 j (by omega)
   ·rcases a4 with ⟨b1,b2⟩ | ⟨b1,y,b2,b3⟩
    ·exact .inl ⟨by simp [b1],by rw [List.mapM_cons,hw,b2]; rfl⟩
    ·exact .inr ⟨by rw [List.mapM_cons,hw,b1]; rfl,y,b2,b3⟩
theorem numsR_W:∀xs:List (List UInt8),numsW xs=(numsR xs).bind fun zs=>if zs.all (fun z=>decide (0≤z))=true then some zs else none
 | []=>rfl
 | w :: xs=>by
  have ih:=numsR_W xs
  unfold numsW numsR at ih ⊢
  rw [List.mapM_cons,List.mapM_cons,ih,numR_W w]
  cases h2:(numR w).2 with
  | false=>simp
  | true =>
   cases hx:List.mapM (fun w=>if (numR w).2=true then some (numR w).1 else none) xs with
   | none=>by_cases h0:0≤(numR w).1 <;> simp [h0]
   | some zs =>
    by_cases h0:0≤(numR w).1
    ·by_cases ha:zs.all (fun z=>decide (0≤z))=true
     ·have ha':∀z∈zs,0≤z:=by simpa using ha
      simp [h0]
      rw [if_pos ha',if_pos ha']; rfl
     ·have ha':¬∀z∈zs,0≤z:=by simpa using ha
      simp [h0]
      rw [if_neg ha',if_neg ha']; rfl
    ·simp [h0]
theorem c132m1 {n:Nat}(h0:0 < n)(h:n < 10)(H:Heap):R (.func 132) [.int .i64 (-((n:Nat):Int))] H=some ⟨.ok (.string ⟨([45,UInt8.ofNat (48+n)]:List UInt8).toArray⟩),H,H.length⟩:=by
 refine run_k (pr 132) P132 (by simp [p132]) rfl ?_
 have z1:((-10:Int) < -((n:Nat):Int))=True:=eq_true (by omega)
 have z2:(-((n:Nat):Int) < 0)=True:=eq_true (by omega)
 have w1:IntKind.wrap .i64 (48 - -((n:Nat):Int))=((48+n:Nat):Int):=by rw [wrap_id _ (by omega) (by omega)]; omega
 have w2:IntKind.wrap .u8 ((48+n:Nat):Int)=((48+n:Nat):Int):=by unfold IntKind.wrap; simp [IntKind.bits,IntKind.signed]; omega
 have hb:Option.map (fun bs=>Value.string { data:=List.toArray bs }) ((some [Value.int .u8 ((48+n:Nat):Int)]).bind bytesOf)=some (.string ⟨[UInt8.ofNat (48+n)].toArray⟩):=rfl
 have s1:vv (.sb .add) [.string ⟨#[45]⟩,.string ⟨[UInt8.ofNat (48+n)].toArray⟩]=some (.string ⟨([45,UInt8.ofNat (48+n)]:List UInt8).toArray⟩):=vv_sadd [45] [UInt8.ofNat (48+n)] (by simp)
 simp (maxDischargeDepth:=8) only [↓SD,SU,SV,SW,simprocAttr,Int.cast_ofNat_Int,small,resV, B132,R132,N132,b132, z1,z2,w1,w2,g_b2s,b2sV,hb,s1,R132,N132]
theorem c132m {n:Nat}(h0:n≤99)(H:Heap):R (.func 132) [.int .i64 (-((n:Nat):Int))] H=some ⟨.ok (.string ⟨(decM n).toArray⟩),H,H.length⟩:=by
 by_cases hz:n=0
 ·subst hz
  exact c132 (z:=0) (by omega) (by omega) H
 by_cases h:n < 10
 ·have e:decM n=[45,UInt8.ofNat (48+n)]:=by unfold decM; rw [if_neg hz,if_pos h]
  rw [e]; exact c132m1 (by omega) h H
 ·have e:decM n=[45,UInt8.ofNat (48+n / 10)]++[UInt8.ofNat (48+n % 10)]:=by unfold decM; rw [if_neg hz,if_neg h]; rfl
  rw [e]
  refine run_k (pr 132) P132 (by simp [p132]) rfl ?_
  have z1:((-10:Int) < -((n:Nat):Int))=False:=eq_false (by omega)
  have z2:(-((n:Nat):Int) < 0)=True:=eq_true (by omega)
  have q1:Int.tdiv (-((n:Nat):Int)) 10=-((n / 10:Nat):Int):=by rw [Int.neg_tdiv]; rfl
  have q2:Int.tmod (-((n:Nat):Int)) 10=-((n % 10:Nat):Int):=by rw [Int.neg_tmod]; rfl
  have w0:IntKind.wrap .i64 (-((n / 10:Nat):Int))=-((n / 10:Nat):Int):=wrap_id _ (by omega) (by omega)
  have k0:=c132m1 (n:=n / 10) (by omega) (by omega) H
  have w1:IntKind.wrap .i64 (48 - -((n % 10:Nat):Int))=((48+n % 10:Nat):Int):=by rw [wrap_id _ (by omega) (by omega)]; omega
  have w2:IntKind.wrap .u8 ((48+n % 10:Nat):Int)=((48+n % 10:Nat):Int):=by unfold IntKind.wrap; simp [IntKind.bits,IntKind.signed]; omega
  have hb:Option.map (fun bs=>Value.string { data:=List.toArray bs }) ((some [Value.int .u8 ((48+n % 10:Nat):Int)]).bind bytesOf)=some (.string ⟨[UInt8.ofNat (48+n % 10)].toArray⟩):=rfl
  have s1:=vv_sadd [45,UInt8.ofNat (48+n / 10)] [UInt8.ofNat (48+n % 10)] (by simp)
  simp (maxDischargeDepth:=8) only [↓SD,SU,SV,SW,simprocAttr,Int.cast_ofNat_Int,small,resV, B132,R132,N132,b132, z1,z2,vv_quo,vv_rem,q1,q2,w0,k0,w1,w2,goD_b2s,b2sV,hb,s1,so_loc,k_fixb,R132,N132]
theorem wrap8 {x:Nat}(h1:48≤x)(h2:x < 256):IntKind.wrap .u8 (((x:Nat):Int) - 48)=((x - 48:Nat):Int):=by
 have e:((x:Nat):Int) - 48=((x - 48:Nat):Int):=by omega
 rw [e]; unfold IntKind.wrap; simp [IntKind.bits,IntKind.signed]; omega
theorem c153p {w:List UInt8}(hw0:w.length≤1000)(h45:¬w.getD 0 0=45)(H:Heap):R (.func 153) [.string ⟨w.toArray⟩,.int .i64 2] H=some ⟨.ok (.tuple #[.int .i64 (numR w).1,.bool (numR w).2]),H,H.length⟩:=by
 have eyb:1≤w.length∧w.length≤2∧w.all isDig=true→numR w=(((valD w 0:Nat):Int),decide (dig (valD w 0)=w)):=fun h=>by unfold numR; rw [if_neg h45,if_pos h]
 have enb:¬(1≤w.length∧w.length≤2∧w.all isDig=true)→numR w=(0,false):=fun h=>by unfold numR; rw [if_neg h45,if_neg h]
 have sl1:=vv_slen' w
 refine run_k (pr 153) P153 (by simp [p153]) rfl ?_
 by_cases hne:w=[]
 ·have y0:((0:Int) < ((w.length:Nat):Int))=False:=eq_false (by rw [hne]; simp)
  have y2:(((w.length:Nat):Int) < 1)=True:=eq_true (by rw [hne]; simp)
  rw [enb (fun h=>by rw [hne] at h; exact absurd h.1 (by decide))]
  simp (maxDischargeDepth:=8) only [↓SD,SU,SV,SW,simprocAttr,Int.cast_ofNat_Int,small,resV, B153,R153,N153,b153, sl1,y0,y2,R153,N153]
 obtain ⟨x0,hx0,hx45⟩:∃x,w[0]?=some x∧x≠45:=by
  cases w with
  | nil=>exact (hne rfl).elim
  | cons x l=>exact ⟨x,rfl,fun e=>h45 (by rw [e]; rfl)⟩
 have hwl:=(List.getElem?_eq_some_iff.1 hx0).1
 have y0:((0:Int) < ((w.length:Nat):Int))=True:=eq_true (by omega)
 have ix0:vv .ix [.string ⟨w.toArray⟩,.int .i64 0]=some (.int .u8 ((x0.toNat:Nat):Int)):=vv_ix' w .i64 0 x0 hx0
 have y1:(((x0.toNat:Nat):Int)=45)=False:=eq_false (fun h=>hx45 (UInt8.toNat_inj.1 (by show x0.toNat=45; omega)))
 obtain ⟨g,hg,hpre,hend⟩:=good_len w
 by_cases hl2:1≤w.length∧w.length≤2
 case neg =>
  rw [enb (fun h=>hl2 ⟨h.1,h.2.1⟩)]
  by_cases h1:w.length < 1
  ·have y2:(((w.length:Nat):Int) < 1)=True:=eq_true (by omega)
   simp (maxDischargeDepth:=8) only [↓SD,SU,SV,SW,simprocAttr,Int.cast_ofNat_Int,small,resV, B153,R153,N153,b153, y0,ix0,y1,sl1,y2,R153,N153]
  ·have y2:(((w.length:Nat):Int) < 1)=False:=eq_false (by omega)
   have y3:((2:Int) < ((w.length:Nat):Int))=True:=eq_true (by omega)
   simp (maxDischargeDepth:=8) only [↓SD,SU,SV,SW,simprocAttr,Int.cast_ofNat_Int,small,resV, B153,R153,N153,b153, y0,ix0,y1,sl1,y2,y3,R153,N153]
 have y2:(((w.length:Nat):Int) < 1)=False:=eq_false (by omega)
 have y3:((2:Int) < ((w.length:Nat):Int))=False:=eq_false (by omega)
 simp (maxDischargeDepth:=8) only [↓SD,SU,SV,SW,simprocAttr,Int.cast_ofNat_Int,small,resV, B153,R153,N153,b153, y0,ix0,y1,sl1,y2,y3]
 refine loop_ind (G:=(·=_)) (fun j σ=>∃T S V2,σ=⟨T,S,[],H,(H).length,63,false⟩∧get T 0=.string ⟨w.toArray⟩∧get T 6=.int .i64 1∧get T 7=.string ⟨(w).toArray⟩∧get T 8=.int .i64 ((V2:Nat):Int)∧get T 9=.int .i64 (j:Nat)∧(V2=valD (w.take j) 0)) (g) ?_ ?_ 0 _ (Nat.zero_le _) ⟨_,_,_,rfl,rfl,rfl,rfl,rfl,rfl,rfl⟩
 ·rintro c' j s hj ⟨T,S,V2,rfl,t0,t6,t7,t8,t9,hp⟩ ih
  obtain ⟨x,hx,hxd,_⟩:=hpre j hj
  rw [isDig_iff] at hxd
  have hw:=wrap_succ j (by omega)
  have hjl:j < w.length:=by omega
  have ix:=vv_ix' w .i64 j x hx
  have hx8:x.toNat < 256:=x.toNat_lt
  have v9:V2≤99:=by rw [hp]; exact valD_le (by rw [List.length_take]; omega) (by
   rw [List.all_eq_true]; intro y hy
   obtain ⟨i,hi,e⟩:=List.mem_iff_getElem.1 hy
   rw [List.length_take] at hi
   obtain ⟨y',hy1,hy2,_⟩:=hpre i (by omega)
   rw [List.getElem_take] at e
   rw [List.getElem?_eq_getElem (by omega),e] at hy1
   cases hy1; exact hy2)
  have hV3:valD (w.take (j+1)) 0=10*V2+(x.toNat - 48):=by rw [take_get hx,valD_snoc,hp]
  have y4:(((x.toNat:Nat):Int) < 48)=False:=eq_false (by omega)
  have y5:((57:Int) < ((x.toNat:Nat):Int))=False:=eq_false (by omega)
  have m1:IntKind.wrap .i64 (10*((V2:Nat):Int))=((10*V2:Nat):Int):=by rw [wrap_id _ (by omega) (by omega)]; omega
  have m2:=wrap8 (x:=x.toNat) (by omega) hx8
  have m3:IntKind.wrap .i64 ((x.toNat - 48:Nat):Int)=((x.toNat - 48:Nat):Int):=wrapN (by omega)
  have m4:IntKind.wrap .i64 (((10*V2:Nat):Int)+((x.toNat - 48:Nat):Int))=((10*V2+(x.toNat - 48):Nat):Int):=by
   rw [←Int.natCast_add]; exact wrapN (by omega)
  simp (maxDischargeDepth:=8) only [↓SD,SU,SV,SW,simprocAttr,Int.cast_ofNat_Int,small,resV, q153x0,t0,t6,t7,t8,t9, lt_nat,hjl,sl1,ix,y4,y5,m1,m2,m3,m4,hw]
  exact ih _ ⟨_,_,(10*V2+(x.toNat - 48)),rfl,(by simp [get_set,t0] <;> omega),(by simp [get_set,t6] <;> omega),(by simp [get_set,t7] <;> omega),(by simp [get_set,t8] <;> omega),(by simp [get_set,t9] <;> omega),hV3.symm⟩
 ·rintro c' s ⟨T,S,V2,rfl,t0,t6,t7,t8,t9,hp⟩
  rcases hend with ⟨e1,e2,_⟩ | ⟨_,x,hx,hbad⟩
  ·have hc:1≤w.length∧w.length≤2∧w.all isDig=true:=⟨hl2.1,hl2.2,e2⟩
   rw [eyb hc]
   subst e1
   rw [List.take_length] at hp
   subst hp
   have v9:valD w 0≤99:=valD_le hl2.2 e2
   have m1:IntKind.wrap .i64 (1*((valD w 0:Nat):Int))=((valD w 0:Nat):Int):=by rw [wrap_id _ (by omega) (by omega)]; omega
   have k132:R (.func 132) [.int .i64 ((valD w 0:Nat):Int)] H=some ⟨.ok (.string ⟨(dig (valD w 0)).toArray⟩),H,H.length⟩:=c132 (z:=((valD w 0:Nat):Int)) (by omega) (by omega) H
   have seq:=vv_seq' (dig (valD w 0)) w
   simp (maxDischargeDepth:=8) only [↓SD,SU,SV,SW,simprocAttr,Int.cast_ofNat_Int,small,resV, q153x0,t0,t6,t7,t8,t9, lt_nat,Nat.lt_irrefl,sl1,m1,k132,seq,R153,N153]
  ·have hxd:isDig x=false:=hbad.resolve_right (fun h=>h hl2.2)
   have hall:¬(1≤w.length∧w.length≤2∧w.all isDig=true):=fun h=>by
    have:=List.all_eq_true.1 h.2.2 x (List.mem_of_getElem? hx)
    rw [hxd] at this; cases this
   rw [enb hall]
   have hgl:g < w.length:=(List.getElem?_eq_some_iff.1 hx).1
   have ix:=vv_ix' w .i64 g x hx
   have hx2:¬(48≤x.toNat∧x.toNat≤57):=fun h=>by rw [isDig_iff.2 h] at hxd; cases hxd
   by_cases h48:x.toNat < 48
   ·have y4:(((x.toNat:Nat):Int) < 48)=True:=eq_true (by omega)
    simp (maxDischargeDepth:=8) only [↓SD,SU,SV,SW,simprocAttr,Int.cast_ofNat_Int,small,resV, q153x0,t0,t6,t7,t8,t9, lt_nat,hgl,sl1,ix,y4,R153,N153]
   ·have y4:(((x.toNat:Nat):Int) < 48)=False:=eq_false (by omega)
    have y5:((57:Int) < ((x.toNat:Nat):Int))=True:=eq_true (by omega)
    simp (maxDischargeDepth:=8) only [↓SD,SU,SV,SW,simprocAttr,Int.cast_ofNat_Int,small,resV, q153x0,t0,t6,t7,t8,t9, lt_nat,hgl,sl1,ix,y4,y5,R153,N153]
theorem c153m {s:List UInt8}(hw0:s.length≤1000)(H:Heap):R (.func 153) [.string ⟨(45 :: s).toArray⟩,.int .i64 2] H=some ⟨.ok (.tuple #[.int .i64 (numR (45 :: s)).1,.bool (numR (45 :: s)).2]),H,H.length⟩:=by
 have eyb:1≤s.length∧s.length≤2∧s.all isDig=true→numR (45 :: s)=(-((valD s 0:Nat):Int),decide (decM (valD s 0)=45 :: s)):=fun h=>by unfold numR; rw [if_pos (show (45 :: s).getD 0 0=45 from rfl)]; exact if_pos h
 have enb:¬(1≤s.length∧s.length≤2∧s.all isDig=true)→numR (45 :: s)=(0,false):=fun h=>by unfold numR; rw [if_pos (show (45 :: s).getD 0 0=45 from rfl)]; exact if_neg h
 have sl1:=vv_slen' s
 have sl0:=vv_slen' (45 :: s)
 have y0:((0:Int) < (((45 :: s).length:Nat):Int))=True:=eq_true (by rw [List.length_cons]; omega)
 have ix0:vv .ix [.string ⟨(45 :: s).toArray⟩,.int .i64 0]=some (.int .u8 45):=vv_ix' (45 :: s) .i64 0 45 rfl
 have sls:vv (.sls true false) [.string ⟨(45 :: s).toArray⟩,.int .i64 1]=some (.string ⟨s.toArray⟩):=vv_slsL (45 :: s) .i64 1 (by simp)
 obtain ⟨w,hw⟩:∃w,45 :: s=w:=⟨_,rfl⟩
 rw [hw] at sl0 y0 ix0 sls enb eyb ⊢
 refine run_k (pr 153) P153 (by simp [p153]) rfl ?_
 obtain ⟨g,hg,hpre,hend⟩:=good_len s
 by_cases hl2:1≤s.length∧s.length≤2
 case neg =>
  rw [enb (fun h=>hl2 ⟨h.1,h.2.1⟩)]
  by_cases h1:s.length < 1
  ·have y2:(((s.length:Nat):Int) < 1)=True:=eq_true (by omega)
   simp (maxDischargeDepth:=8) only [↓SD,SU,SV,SW,simprocAttr,Int.cast_ofNat_Int,small,resV, B153,R153,N153,b153, sl0,y0,ix0,sls,sl1,y2,R153,N153]
  ·have y2:(((s.length:Nat):Int) < 1)=False:=eq_false (by omega)
   have y3:((2:Int) < ((s.length:Nat):Int))=True:=eq_true (by omega)
   simp (maxDischargeDepth:=8) only [↓SD,SU,SV,SW,simprocAttr,Int.cast_ofNat_Int,small,resV, B153,R153,N153,b153, sl0,y0,ix0,sls,sl1,y2,y3,R153,N153]
 have y2:(((s.length:Nat):Int) < 1)=False:=eq_false (by omega)
 have y3:((2:Int) < ((s.length:Nat):Int))=False:=eq_false (by omega)
 simp (maxDischargeDepth:=8) only [↓SD,SU,SV,SW,simprocAttr,Int.cast_ofNat_Int,small,resV, B153,R153,N153,b153, sl0,y0,ix0,sls,sl1,y2,y3]
 refine loop_ind (G:=(·=_)) (fun j σ=>∃T S V2,σ=⟨T,S,[],H,(H).length,63,false⟩∧get T 0=.string ⟨w.toArray⟩∧get T 6=.int .i64 (-1)∧get T 7=.string ⟨(s).toArray⟩∧get T 8=.int .i64 ((V2:Nat):Int)∧get T 9=.int .i64 (j:Nat)∧(V2=valD (s.take j) 0)) (g) ?_ ?_ 0 _ (Nat.zero_le _) ⟨_,_,_,rfl,rfl,rfl,rfl,rfl,rfl,rfl⟩
 ·rintro c' j s hj ⟨T,S,V2,rfl,t0,t6,t7,t8,t9,hp⟩ ih
  obtain ⟨x,hx,hxd,_⟩:=hpre j hj
  rw [isDig_iff] at hxd
  have hw:=wrap_succ j (by omega)
  have hjl:j < s.length:=by omega
  have ix:=vv_ix' s .i64 j x hx
  have hx8:x.toNat < 256:=x.toNat_lt
  have v9:V2≤99:=by rw [hp]; exact valD_le (by rw [List.length_take]; omega) (by
   rw [List.all_eq_true]; intro y hy
   obtain ⟨i,hi,e⟩:=List.mem_iff_getElem.1 hy
   rw [List.length_take] at hi
   obtain ⟨y',hy1,hy2,_⟩:=hpre i (by omega)
   rw [List.getElem_take] at e
   rw [List.getElem?_eq_getElem (by omega),e] at hy1
   cases hy1; exact hy2)
  have hV3:valD (s.take (j+1)) 0=10*V2+(x.toNat - 48):=by rw [take_get hx,valD_snoc,hp]
  have y4:(((x.toNat:Nat):Int) < 48)=False:=eq_false (by omega)
  have y5:((57:Int) < ((x.toNat:Nat):Int))=False:=eq_false (by omega)
  have m1:IntKind.wrap .i64 (10*((V2:Nat):Int))=((10*V2:Nat):Int):=by rw [wrap_id _ (by omega) (by omega)]; omega
  have m2:=wrap8 (x:=x.toNat) (by omega) hx8
  have m3:IntKind.wrap .i64 ((x.toNat - 48:Nat):Int)=((x.toNat - 48:Nat):Int):=wrapN (by omega)
  have m4:IntKind.wrap .i64 (((10*V2:Nat):Int)+((x.toNat - 48:Nat):Int))=((10*V2+(x.toNat - 48):Nat):Int):=by
   rw [←Int.natCast_add]; exact wrapN (by omega)
  simp (maxDischargeDepth:=8) only [↓SD,SU,SV,SW,simprocAttr,Int.cast_ofNat_Int,small,resV, q153x0,t0,t6,t7,t8,t9, lt_nat,hjl,sl1,ix,y4,y5,m1,m2,m3,m4,hw]
  exact ih _ ⟨_,_,(10*V2+(x.toNat - 48)),rfl,(by simp [get_set,t0] <;> omega),(by simp [get_set,t6] <;> omega),(by simp [get_set,t7] <;> omega),(by simp [get_set,t8] <;> omega),(by simp [get_set,t9] <;> omega),hV3.symm⟩
 ·rintro c' s ⟨T,S,V2,rfl,t0,t6,t7,t8,t9,hp⟩
  rcases hend with ⟨e1,e2,_⟩ | ⟨_,x,hx,hbad⟩
  ·have hc:1≤s.length∧s.length≤2∧s.all isDig=true:=⟨hl2.1,hl2.2,e2⟩
   rw [eyb hc]
   subst e1
   rw [List.take_length] at hp
   subst hp
   have v9:valD s 0≤99:=valD_le hl2.2 e2
   have m1:IntKind.wrap .i64 ((-1)*((valD s 0:Nat):Int))=(-((valD s 0:Nat):Int)):=by rw [wrap_id _ (by omega) (by omega)]; omega
   have k132:R (.func 132) [.int .i64 (-((valD s 0:Nat):Int))] H=some ⟨.ok (.string ⟨(decM (valD s 0)).toArray⟩),H,H.length⟩:=c132m v9 H
   have seq:=vv_seq' (decM (valD s 0)) w
   simp (maxDischargeDepth:=8) only [↓SD,SU,SV,SW,simprocAttr,Int.cast_ofNat_Int,small,resV, q153x0,t0,t6,t7,t8,t9, lt_nat,Nat.lt_irrefl,sl1,m1,k132,seq,R153,N153]
  ·have hxd:isDig x=false:=hbad.resolve_right (fun h=>h hl2.2)
   have hall:¬(1≤s.length∧s.length≤2∧s.all isDig=true):=fun h=>by
    have:=List.all_eq_true.1 h.2.2 x (List.mem_of_getElem? hx)
    rw [hxd] at this; cases this
   rw [enb hall]
   have hgl:g < s.length:=(List.getElem?_eq_some_iff.1 hx).1
   have ix:=vv_ix' s .i64 g x hx
   have hx2:¬(48≤x.toNat∧x.toNat≤57):=fun h=>by rw [isDig_iff.2 h] at hxd; cases hxd
   by_cases h48:x.toNat < 48
   ·have y4:(((x.toNat:Nat):Int) < 48)=True:=eq_true (by omega)
    simp (maxDischargeDepth:=8) only [↓SD,SU,SV,SW,simprocAttr,Int.cast_ofNat_Int,small,resV, q153x0,t0,t6,t7,t8,t9, lt_nat,hgl,sl1,ix,y4,R153,N153]
   ·have y4:(((x.toNat:Nat):Int) < 48)=False:=eq_false (by omega)
    have y5:((57:Int) < ((x.toNat:Nat):Int))=True:=eq_true (by omega)
    simp (maxDischargeDepth:=8) only [↓SD,SU,SV,SW,simprocAttr,Int.cast_ofNat_Int,small,resV, q153x0,t0,t6,t7,t8,t9, lt_nat,hgl,sl1,ix,y4,y5,R153,N153]
theorem c153 {w:List UInt8}(hw0:w.length≤1000)(H:Heap):R (.func 153) [.string ⟨w.toArray⟩,.int .i64 2] H=some ⟨.ok (.tuple #[.int .i64 (numR w).1,.bool (numR w).2]),H,H.length⟩:=by
 by_cases h45:w.getD 0 0=45
 ·cases w with
  | nil=>exact absurd h45 (by decide)
  | cons x s =>
   have hx:x=45:=h45
   subst hx
   exact c153m (by simp at hw0; omega) H
 ·exact c153p hw0 h45 H
end Go.Pi.L.Ben
set_option maxRecDepth 100000
namespace Go.Pi.L.Ben
open Go Go.Pi Go.Pi.L Go.Pi.E Go.Pi.Ben BM Go.Pi.Q

def QR (H:Heap)(xs:List (List UInt8))(o:Out):Prop :=
 ∃(a:Option Addr) (m:Nat) (zs:List Int) (ok:Bool) (H1:Heap) (lo:Nat),o=⟨.ok (.tuple #[.slice a zs.length m,.bool ok]),H1,lo⟩∧Up H H1∧H.length≤lo∧Ints H1 a zs.length zs∧Nw H.length a∧zs.length≤xs.length∧(match numsR xs with | some ns=>zs=ns∧ok=true | none=>ok=false)
theorem gc_tup {H H1:Heap}{xs:List (List UInt8)}{m lo:Nat}{a:Option Addr}{zs:List Int}{ok:Bool}(hs:Ints H1 a zs.length zs)(hu:Up H H1)(h:H.length≤lo)(hn:Nw H.length a)(hl:zs.length≤xs.length)(he:match numsR xs with | some ns=>zs=ns∧ok=true | none=>ok=false) :
  QR H xs (gcR H (.ok (.tuple #[.slice a zs.length m,.bool ok])) H1 lo):=by
 rw [gc_ite h]
 split
 ·rename_i hf
  have hf':flat 3 (.slice a zs.length m)=true:=by simpa [flat] using hf
  exact ⟨a,m,zs,ok,H,H.length,rfl,Up.refl H,Nat.le_refl _,hs.flat hf',hn,hl,he⟩
 ·exact ⟨a,m,zs,ok,H1,lo,rfl,hu,h,hs,hn,hl,he⟩
theorem c133 {H:Heap}{a:Option Addr}{l kk:Nat}{xs:List (List UInt8)}(hs:Sl H 1 encS a l xs)(hl:l≤1000)(hx:∀w∈xs,w.length≤1000):∀H',Grow H H'→Yes (R (.func 133) [.slice a l kk,.int .i64 2] H') (QR H' xs):=by
 intro H' hg
 obtain ⟨K,ns,hK,hns,hgood,hend⟩:=mapM_cut (fun w=>if (numR w).2=true then some (numR w).1 else none) xs
 have hlen:=hs.len
 refine run_y (pr 133) P133 (by simp [p133]) rfl ?_
 have l1:=hs.isLoc kk
 simp (maxDischargeDepth:=8) only [↓SD,SU,SV,SW,simprocAttr,Int.cast_ofNat_Int,small,resV, B133,R133,N133,b133, l1]
 refine loop_ind (G:=(Yes · (QR H' xs))) (fun j σ=>∃T S H3 al m lim,σ=⟨T,S,[],H3,lim,32,false⟩∧get T 0=.slice a l kk∧get T 1=.int .i64 2∧get T 6=.slice al j m∧get T 7=.int .i64 (j:Nat)∧(Bld H'.length H3 1 al j m (cells encI (ns.take j))∧Up H' H3∧H'.length≤lim)) (K) ?_ ?_ 0 _ (Nat.zero_le _) ⟨_,_,_,_,_,_,rfl,rfl,rfl,rfl,rfl,⟨Bld.nil _ _ _,Up.refl _,Nat.le_refl _⟩⟩
 ·rintro c' j s hj ⟨T,S,H3,al,m,lim,rfl,t0,t1,t6,t7,hp⟩ ih
  obtain ⟨hbd,hu,hlim⟩:=hp
  have hw:=wrap_succ j (by omega)
  have l8:isLoc (.slice al j m)=false:=hbd.isLoc _ _
  have hul:=hu.len
  have hjl:j < l:=by omega
  obtain ⟨w,z,hwj,hzj,hnw⟩:=hgood j hj
  obtain ⟨b1,o1,w',hwa,hw1,hat⟩:=hs.at encS_len (by decide) hjl
  rw [hwj] at hw1; cases hw1
  have fw:rdO (hcells H3 b1) (o1+j*1) none=some (.string ⟨w.toArray⟩):=At.v0 hat H3 (hg.trans hu.grow)
  have iaw:vv (.ia 1) [.slice a l kk,.int .i64 (j:Nat)]=some (.pointer (some ⟨b1,o1+j*1,none⟩)):=by rw [hwa]; exact vv_iaN 1 b1 o1 j _ _ _ hjl
  split at hnw
  ·rename_i hok
   cases hnw
   have k153:=c153 (hx w (List.mem_of_getElem? hwj)) H3
   rw [hok] at k153
   obtain ⟨z,hz⟩:∃z,(numR w).1=z:=⟨_,rfl⟩
   rw [hz] at k153 hzj
   obtain ⟨H6,p1,p2,p3,p4⟩:=hbd.app (by decide) (by decide) (by omega) hul [.int .i64 z] rfl
   have u6:=p3.up hbd hu (Nat.le_refl _)
   have p2':Bld H'.length H6 1 (some ⟨H3.length,0,none⟩) (j+1) 1 (cells encI (ns.take (j+1))):=by rw [take_get hzj,cells_app]; exact p2
   simp (maxDischargeDepth:=8) only [↓SD,SU,SV,SW,simprocAttr,Int.cast_ofNat_Int,small,resV, q133x0,t0,t1,t6,t7, lt_nat,hjl,l1,l8,iaw,fw,k153,hw,p1]
   exact ih _ ⟨_,_,(H6),(some ⟨H3.length,0,none⟩),(1),(_),rfl,(by simp [get_set,t0] <;> omega),(by simp [get_set,t1] <;> omega),(by simp [get_set,t6] <;> omega),(by simp [get_set,t7] <;> omega),⟨p2',u6,by omega⟩⟩
  ·cases hnw
 ·rintro c' s ⟨T,S,H3,al,m,lim,rfl,t0,t1,t6,t7,hp⟩
  obtain ⟨hbd,hu,hlim⟩:=hp
  have l8:isLoc (.slice al K m)=false:=hbd.isLoc _ _
  have hul:=hu.len
  rcases hend with ⟨e1,e2⟩ | ⟨e1,w,hw,hn⟩
  ·have hKl:K=l:=by omega
   subst hKl
   rw [List.take_of_length_le (by omega)] at hbd
   simp (maxDischargeDepth:=8) only [↓SD,SU,SV,SW,simprocAttr,Int.cast_ofNat_Int,small,resV, q133x0,t0,t1,t6,t7, lt_nat,Nat.lt_irrefl,l1,l8,R133,N133]
   rw [yes_some]
   have hsl:=hbd.sl encI_len (by decide)
   obtain rfl:=hns
   exact gc_tup (zs:=ns) hsl hu (by omega) (bld_nw hbd) hK (by rw [show numsR xs=some ns from e2]; exact ⟨rfl,rfl⟩)
  ·have hKx:=(List.getElem?_eq_some_iff.1 hw).1
   have hjl:K < l:=by omega
   obtain ⟨b1,o1,w',hwa,hw1,hat⟩:=hs.at encS_len (by decide) hjl
   rw [hw] at hw1; cases hw1
   have fw:rdO (hcells H3 b1) (o1+K*1) none=some (.string ⟨w.toArray⟩):=At.v0 hat H3 (hg.trans hu.grow)
   have iaw:vv (.ia 1) [.slice a l kk,.int .i64 (K:Nat)]=some (.pointer (some ⟨b1,o1+K*1,none⟩)):=by rw [hwa]; exact vv_iaN 1 b1 o1 K _ _ _ hjl
   have hok:(numR w).2=false:=by
    cases h:(numR w).2 with
    | false=>rfl
    | true=>rw [if_pos h] at hn; cases hn
   have k153:=c153 (hx w (List.mem_of_getElem? hw)) H3
   rw [hok] at k153
   simp (maxDischargeDepth:=8) only [↓SD,SU,SV,SW,simprocAttr,Int.cast_ofNat_Int,small,resV, q133x0,t0,t1,t6,t7, lt_nat,hjl,l1,l8,iaw,fw,k153,R133,N133]
   rw [yes_some]
   exact gc_tup (zs:=[]) Sl.none hu (by omega) (.inl rfl) (Nat.zero_le _) (by rw [show numsR xs=none from e1])
def QPl (H:Heap)(xs:List (List UInt8))(o:Out):Prop :=
 ∃(a:Option Addr) (m:Nat) (zs:List Int) (ok:Bool) (H1:Heap) (lo:Nat),o=⟨.ok (.tuple #[.slice a zs.length m,.bool ok]),H1,lo⟩∧Up H H1∧H.length≤lo∧Ints H1 a zs.length zs∧Nw H.length a∧(match numsW xs with | some ns=>zs=ns∧ok=true | none=>ok=false)
theorem gc_tup2 {H H1:Heap}{xs:List (List UInt8)}{m lo:Nat}{a:Option Addr}{zs:List Int}{ok:Bool}(hs:Ints H1 a zs.length zs)(hu:Up H H1)(h:H.length≤lo)(hn:Nw H.length a)(he:match numsW xs with | some ns=>zs=ns∧ok=true | none=>ok=false) :
  QPl H xs (gcR H (.ok (.tuple #[.slice a zs.length m,.bool ok])) H1 lo):=by
 rw [gc_ite h]
 split
 ·rename_i hf
  have hf':flat 3 (.slice a zs.length m)=true:=by simpa [flat] using hf
  exact ⟨a,m,zs,ok,H,H.length,rfl,Up.refl H,Nat.le_refl _,hs.flat hf',hn,he⟩
 ·exact ⟨a,m,zs,ok,H1,lo,rfl,hu,h,hs,hn,he⟩
theorem c110 {H:Heap}{a:Option Addr}{l kk:Nat}{xs:List (List UInt8)}(hs:Sl H 1 encS a l xs)(hl:l≤1000)(hx:∀w∈xs,w.length≤1000):∀H',Grow H H'→Yes (R (.func 110) [.slice a l kk,.int .i64 2] H') (QPl H' xs):=by
 intro H' hg
 have hlen:=hs.len
 obtain ⟨o,ho,a1,m1,zs,ok,H1,lo1,rfl,u1,hlo1,s1,n1,hzx,he⟩:=c133 (kk:=kk) hs hl hx H' hg
 have h1:=u1.len
 have l1:=hs.isLoc kk
 have la1:=s1.isLoc m1
 have hzl:zs.length≤1000:=by omega
 have hW:=numsR_W xs
 obtain ⟨n,hn⟩:∃n,zs.length=n:=⟨_,rfl⟩
 have ho':=ho
 rw [hn] at ho' la1 s1
 refine run_y (pr 110) P110 (by simp [p110]) rfl ?_
 simp (maxDischargeDepth:=8) only [↓SD,SU,SV,SW,simprocAttr,Int.cast_ofNat_Int,small,resV, B110,R110,N110,b110, l1,ho',la1]
 refine loop_ind (G:=(Yes · (QPl H' xs))) (fun j σ=>∃T S q lim,σ=⟨T,S,[],H1,lim,31,false⟩∧get T 6=.slice a1 n m1∧get T 7=.bool q∧get T 8=.int .i64 (j:Nat)∧(q=(ok&&(zs.take j).all fun z=>decide (0≤z))∧H'.length≤lim)) (n) ?_ ?_ 0 _ (Nat.zero_le _) ⟨_,_,_,_,rfl,rfl,rfl,rfl,⟨by simp,by omega⟩⟩
 ·rintro c' j s hj ⟨T,S,q,lim,rfl,t6,t7,t8,hp⟩ ih
  obtain ⟨hq,hlim⟩:=hp
  have hw:=wrap_succ j (by omega)
  obtain ⟨b1,o1,v,hva,hv1,fv⟩:=s1.i1 hj
  have fv:=fv H1 (Grow.refl _)
  have iav:vv (.ia 1) [.slice a1 n m1,.int .i64 (j:Nat)]=some (.pointer (some ⟨b1,o1+j*1,none⟩)):=by rw [hva]; exact vv_iaN 1 b1 o1 j _ _ _ hj
  have hall:(ok&&(zs.take (j+1)).all fun z=>decide (0≤z))=(q&&decide (0≤v)):=by
   rw [take_get hv1,List.all_append,←Bool.and_assoc,←hq]; simp
  cases q with
  | false =>
   simp (maxDischargeDepth:=8) only [↓SD,SU,SV,SW,simprocAttr,Int.cast_ofNat_Int,small,resV, q110x0,t6,t7,t8, lt_nat,hj,la1,hw]
   exact ih _ ⟨_,_,(false),(_),rfl,(by simp [get_set,t6] <;> omega),(by simp [get_set,t7] <;> omega),(by simp [get_set,t8] <;> omega),⟨by rw [hall]; rfl,by omega⟩⟩
  | true =>
   simp (maxDischargeDepth:=8) only [↓SD,SU,SV,SW,simprocAttr,Int.cast_ofNat_Int,small,resV, q110x0,t6,t7,t8, lt_nat,hj,la1,iav,fv,hw]
   exact ih _ ⟨_,_,(decide (0≤v)),(_),rfl,(by simp [get_set,t6] <;> omega),(by simp [get_set,t7] <;> omega),(by simp [get_set,t8] <;> omega),⟨by rw [hall,Bool.true_and],by omega⟩⟩
 ·rintro c' s ⟨T,S,q,lim,rfl,t6,t7,t8,hp⟩
  obtain ⟨hq,hlim⟩:=hp
  rw [List.take_of_length_le (by omega)] at hq
  simp (maxDischargeDepth:=8) only [↓SD,SU,SV,SW,simprocAttr,Int.cast_ofNat_Int,small,resV, q110x0,t6,t7,t8, lt_nat,Nat.lt_irrefl,la1,R110,N110]
  rw [yes_some]
  subst hn
  refine gc_tup2 (zs:=zs) s1 u1 (by omega) n1 ?_
  rw [hW]
  cases e:numsR xs with
  | none =>
   rw [e] at he
   simp only at he
   show q=false
   rw [hq,he]; rfl
  | some ns =>
   rw [e] at he
   simp only at he
   obtain ⟨rfl,he2⟩:=he
   rw [he2,Bool.true_and] at hq
   rw [Option.bind_some]
   cases ha:zs.all fun z=>decide (0≤z) with
   | false=>rw [ha] at hq; simpa using hq
   | true=>rw [ha] at hq; simpa using hq
end Go.Pi.L.Ben
set_option maxRecDepth 100000
namespace Go.Pi.L.Ben
open Go Go.Pi Go.Pi.L Go.Pi.E Go.Pi.Ben BM Go.Pi.Q

def rowR (i:Nat)(b:Bench)(r:List UInt8):Option Bench :=
 if (spl 32 r).length=5 then
  (match numsW (((spl 32 r).drop 1).take 3),needW ((spl 32 r).getD 4 []) with
   | some l,some nd=>some ⟨b.app,b.boards,b.strokes++[strokeW (spl 32 r) l nd]⟩
   | _,_=>none)
 else
  (match numsW ((spl 32 r).drop 1) with
   | some [z]=>some (if i=0 then ⟨z,b.boards,b.strokes⟩ else ⟨b.app,b.boards++[z],b.strokes⟩)
   | _=>none)
def foldR:Nat→Bench→List (List UInt8)→Option Bench
 | _,b,[]=>some b
 | i,b,r :: R=>(rowR i b r).bind fun b'=>foldR (i+1) b' R
def rowsR (t:List UInt8):List (List UInt8):=(spl 10 t).take ((spl 10 t).length - 2)
def readR (t:List UInt8):Option Bench:=parseT (foldR 0 ⟨0,[],[]⟩ (rowsR t)) t
theorem foldR_app:∀(R R2:List (List UInt8)) (i:Nat) (b:Bench),foldR i b (R++R2)=(foldR i b R).bind fun b'=>foldR (i+R.length) b' R2
 | [],R2,i,b=>rfl
 | r :: R,R2,i,b=>by
  show (rowR i b r).bind (fun b'=>foldR (i+1) b' (R++R2))=((rowR i b r).bind fun b'=>foldR (i+1) b' R).bind _
  cases rowR i b r with
  | none=>rfl
  | some b' =>
   show foldR (i+1) b' (R++R2)=(foldR (i+1) b' R).bind _
   rw [foldR_app R R2 (i+1) b',List.length_cons,show i+1+R.length=i+(R.length+1) by omega]
theorem foldR_snoc (i:Nat)(b:Bench)(R:List (List UInt8))(r:List UInt8):foldR i b (R++[r])=(foldR i b R).bind fun b'=>rowR (i+R.length) b' r:=by
 rw [foldR_app]
 congr 1; funext b'
 show (rowR (i+R.length) b' r).bind (fun b''=>some b'')=_
 cases rowR (i+R.length) b' r <;> rfl
theorem foldR_cut (b0:Bench):∀R:List (List UInt8),∃K,K≤R.length∧(∀j,j≤K→∃b,foldR 0 b0 (R.take j)=some b)∧(K=R.length∨∃b r,R[K]?=some r∧foldR 0 b0 (R.take K)=some b∧rowR K b r=none∧foldR 0 b0 R=none):=by
 intro R
 have key:∀n,n≤R.length→(∀j,j≤n→∃b,foldR 0 b0 (R.take j)=some b)∨∃K b r,K < n∧(∀j,j≤K→∃b,foldR 0 b0 (R.take j)=some b)∧R[K]?=some r∧foldR 0 b0 (R.take K)=some b∧rowR K b r=none:=by
  intro n
  induction n with
  | zero=>intro _; exact .inl fun j hj=>⟨b0,by have h0:j=0:=(by omega); subst h0; rfl⟩
  | succ n ih =>
   intro hn
   rcases ih (by omega) with h | ⟨K,b,r,h1,h2,h3,h4,h5⟩
   ·obtain ⟨b,hb⟩:=h n (Nat.le_refl _)
    have hr:R[n]?=some R[n]:=List.getElem?_eq_getElem (by omega)
    have hln:(R.take n).length=n:=by rw [List.length_take]; omega
    cases hrow:rowR n b R[n] with
    | none=>exact .inr ⟨n,b,R[n],by omega,h,hr,hb,hrow⟩
    | some b' =>
     refine .inl fun j hj=>?_
     rcases Nat.lt_or_ge j (n+1) with h' | h'
     ·exact h j (by omega)
     ·obtain rfl:j=n+1:=by omega
      exact ⟨b',by rw [take_get hr,foldR_snoc,hb,Option.bind_some,hln,Nat.zero_add]; exact hrow⟩
   ·exact .inr ⟨K,b,r,by omega,h2,h3,h4,h5⟩
 rcases key R.length (Nat.le_refl _) with h | ⟨K,b,r,h1,h2,h3,h4,h5⟩
 ·exact ⟨R.length,Nat.le_refl _,h,.inl rfl⟩
 ·refine ⟨K,by omega,h2,.inr ⟨b,r,h3,h4,h5,?_⟩⟩
  have e:R=R.take K++r :: R.drop (K+1):=by
   have:=take_drop_step (f:=0) h3 (Nat.zero_le _)
   simpa using this
  have hln:(R.take K).length=K:=by rw [List.length_take]; omega
  rw [e,foldR_app,h4,Option.bind_some,hln,Nat.zero_add]
  show (rowR K b r).bind _=none
  rw [h5]; rfl
theorem NuP.add {b:Bench}{j:Nat}(h:NuP b j){z:Int}(h0:0≤z)(h9:z≤99):NuP ⟨b.app,b.boards++[z],b.strokes⟩ (j+1) :=
 ⟨h.a0,h.a9,fun w hw=>by
  rcases List.mem_append.1 hw with hw | hw
  ·exact h.bo w hw
  ·rw [List.mem_singleton.1 hw]; exact ⟨h0,h9⟩,h.st,by have:=h.ln; simp only [List.length_append,List.length_singleton]; omega⟩
theorem rowR_nu {i:Nat}{b b':Bench}{j:Nat}{r:List UInt8}(hb:NuP b j)(hr:r.length≤290)(h:rowR i b r=some b'):∃j',j'≤j+1∧NuP b' j':=by
 have hln:=hb.ln
 unfold rowR at h
 split at h
 ·split at h
  ·rename_i l nd hl hnd
   cases h
   obtain ⟨m1,m2⟩:=numsW_b hl
   have hnd':Nn nd:=by
    unfold needW at hnd
    split at hnd
    ·cases hnd; exact ⟨fun z hz=>(by cases hz),by simp⟩
    ·obtain ⟨q1,q2⟩:=numsW_b hnd
     refine ⟨q2,?_⟩
     rw [q1,spl_len]
     have h1:=List.count_le_length (a:=44) (l:=(spl 32 r).getD 4 [])
     have h2:((spl 32 r).getD 4 []).length≤r.length:=by
      rw [List.getD_eq_getElem?_getD]
      cases e:(spl 32 r)[4]? with
      | none=>simp
      | some p=>exact (spl_parts r).2 p (List.mem_of_getElem? e)
     omega
   refine ⟨j+1,Nat.le_refl _,hb.a0,hb.a9,hb.bo,fun s hs=>?_,by simp only [List.length_append,List.length_singleton]; omega⟩
   rcases List.mem_append.1 hs with hs | hs
   ·exact hb.st s hs
   ·rw [List.mem_singleton.1 hs]
    unfold strokeW
    exact ⟨(getD_b m2 0).1,(getD_b m2 0).2,(getD_b m2 1).1,(getD_b m2 1).2,(getD_b m2 2).1,(getD_b m2 2).2,hnd'⟩
  ·cases h
 ·split at h
  ·rename_i z hz
   have hz9:=(numsW_b hz).2 z (List.mem_singleton.2 rfl)
   cases h
   split
   ·exact ⟨j,by omega,hz9.1,hz9.2,hb.bo,hb.st,hln⟩
   ·exact ⟨j+1,Nat.le_refl _,hb.add hz9.1 hz9.2⟩
  ·cases h
theorem rowR_head (b:Bench){a:Int}(h0:0≤a)(h9:a≤99):rowR 0 b (rowHead a)=some ⟨a,b.boards,b.strokes⟩:=by
 unfold rowR
 rw [spl_head h0 h9,if_neg (show ¬([wBench,dgI a]:List (List UInt8)).length=5 from (by decide:¬(2:Nat)=5))]
 have:numsW ([wBench,dgI a].drop 1)=some [a]:=numsW_map (ns:=[a]) fun w hw=>by rw [List.mem_singleton.1 hw]; exact ⟨h0,h9⟩
 rw [this]; rfl
theorem rowR_due (i:Nat)(b:Bench){z:Int}(h0:0≤z)(h9:z≤99):rowR (i+1) b (rowDue z)=some ⟨b.app,b.boards++[z],b.strokes⟩:=by
 unfold rowR
 rw [spl_due h0 h9,if_neg (show ¬([wBoard,dgI z]:List (List UInt8)).length=5 from (by decide:¬(2:Nat)=5))]
 have:numsW ([wBoard,dgI z].drop 1)=some [z]:=numsW_map (ns:=[z]) fun w hw=>by rw [List.mem_singleton.1 hw]; exact ⟨h0,h9⟩
 rw [this]; rfl
theorem rowR_st (i:Nat)(b:Bench){s:Stroke}(h:NuS s):rowR i b (rowSt s)=some ⟨b.app,b.boards,b.strokes++[s]⟩:=by
 have hp:=rowP_st b h
 unfold rowP at hp
 rw [spl_st h] at hp
 rw [if_neg (by show ¬(if s.round=true then wRound else wStraight)=wBoard; split <;> decide)] at hp
 unfold rowR
 rw [spl_st h]
 exact hp
theorem foldR_due:∀(zs:List Int) (i:Nat) (b:Bench),(∀z∈zs,0≤z∧z≤99)→foldR (i+1) b (zs.map rowDue)=some ⟨b.app,b.boards++zs,b.strokes⟩
 | [],i,b,_=>by simp [foldR]
 | z :: zs,i,b,h=>by
  have ih:=foldR_due zs (i+1) ⟨b.app,b.boards++[z],b.strokes⟩ fun w hw=>h w (List.mem_cons_of_mem _ hw)
  show (rowR (i+1) b (rowDue z)).bind _=_
  rw [rowR_due i b (h z (List.mem_cons_self ..)).1 (h z (List.mem_cons_self ..)).2,Option.bind_some,ih]; simp
theorem foldR_st:∀(ss:List Stroke) (i:Nat) (b:Bench),(∀s∈ss,NuS s)→foldR i b (ss.map rowSt)=some ⟨b.app,b.boards,b.strokes++ss⟩
 | [],i,b,_=>by simp [foldR]
 | s :: ss,i,b,h=>by
  have ih:=foldR_st ss (i+1) ⟨b.app,b.boards,b.strokes++[s]⟩ fun w hw=>h w (List.mem_cons_of_mem _ hw)
  show (rowR i b (rowSt s)).bind _=_
  rw [rowR_st i b (h s (List.mem_cons_self ..)),Option.bind_some,ih]; simp
theorem read_text {b:Bench}(h:NuB b):readR (textT b)=some b:=by
 have hQ:chkL 0 (rowsT b) % 197 < 197:=Nat.mod_lt _ (by decide)
 have hsp:spl 10 (textT b)=rowsT b++[endT (chkL 0 (rowsT b) % 197),[]]:=by
  rw [textT_flat,spl_rows (rows_no h),spl_hit [] (endT_no _ hQ)]; rfl
 have hR:rowsR (textT b)=rowsT b:=by
  unfold rowsR
  rw [hsp,List.length_append]
  show (rowsT b++_).take ((rowsT b).length+2 - 2)=_
  rw [Nat.add_sub_cancel,List.take_left]
 have hrow:rowsT b=rowHead b.app :: (b.boards.map rowDue++b.strokes.map rowSt):=rfl
 unfold readR
 rw [hR,hrow]
 have hf:foldR 0 ⟨0,[],[]⟩ (rowHead b.app :: (b.boards.map rowDue++b.strokes.map rowSt))=some b:=by
  show (rowR 0 ⟨0,[],[]⟩ (rowHead b.app)).bind _=_
  rw [rowR_head _ h.a0 h.a9,Option.bind_some,foldR_app,foldR_due b.boards 0 ⟨b.app,[],[]⟩ h.bo.1,Option.bind_some,foldR_st b.strokes _ ⟨b.app,[]++b.boards,[]⟩ h.st]
  rfl
 rw [hf]
 unfold parseT
 simp only [if_true]
theorem parse_sound {t:List UInt8}{b:Bench}(h:parseP t=some b):textT b=t:=by
 unfold parseP at h
 split at h
 ·unfold parseQ at h
  split at h
  ·unfold parseT at h
   split at h
   ·split at h
    ·rename_i e; cases h; exact e
    ·cases h
   ·cases h
  ·cases h
 ·cases h
theorem read_sound {t:List UInt8}{b:Bench}(h:readR t=some b):textT b=t:=by
 unfold readR parseT at h
 split at h
 ·split at h
  ·rename_i e; cases h; exact e
  ·cases h
 ·cases h
end Go.Pi.L.Ben
set_option maxRecDepth 100000
namespace Go.Pi.L.Ben
open Go Go.Pi Go.Pi.L Go.Pi.E Go.Pi.Ben BM Go.Pi.Q

def QRd (H:Heap)(t:List UInt8)(o:Out):Prop :=
 match readR t with
 | none=>o=⟨.ok (.tuple #[.agg #[.int .i64 0,.slice none 0 0,.slice none 0 0],.bool false]),H,H.length⟩
 | some b=>∃(r:BeR) (H1:Heap) (lo:Nat),o=⟨.ok (.tuple #[.agg #[.int .i64 r.app,.slice r.ba r.bl r.bk,.slice r.sa r.sl r.sk],.bool true]),H1,lo⟩∧Up H H1∧H.length≤lo∧BeOk H1 r b∧NuB b
set_option maxHeartbeats 4000000 in
theorem c71 (t:List UInt8)(ht:t.length≤290)(H':Heap)(hF:Fam H'):Yes (R (.func 71) [.string ⟨t.toArray⟩] H') (QRd H' t):=by
 have fin:readR t=none→∀H5 lo,H'.length≤lo→Yes (some (gcR H' (.ok (.tuple #[.agg #[.int .i64 0,.slice none 0 0,.slice none 0 0],.bool false])) H5 lo)) (QRd H' t):=fun e H5 lo h=>by
  rw [yes_some]
  unfold QRd
  rw [e]
  simp [gcR,flat]; omega
 refine run_y (pr 71) P71 (by simp [p71]) rfl ?_
 obtain ⟨o,ho1,a1,m1,H1,lo1,rfl,u1,hlo1,q1⟩:=c109 t 10 (by omega) H'
 have hF1:Fam H1:=famR ho1 hF
 have la1:=q1.isLoc m1
 have hn1:=spl_len1 10 t
 have hnl:(spl 10 t).length≤291:=by rw [spl_len]; have:=List.count_le_length (a:=10) (l:=t); omega
 have hpl:=(spl_parts (c:=10) t).2
 have h1:=u1.len
 obtain ⟨n,hn⟩:∃n,(spl 10 t).length=n:=⟨_,rfl⟩
 rw [hn] at ho1 q1 la1 hn1 hnl
 have ho1':R (.func 109) [.string ⟨t.toArray⟩,.int .u8 10] H'=some ⟨.ok (.slice a1 n m1),H1,lo1⟩:=ho1
 simp (maxDischargeDepth:=8) only [↓SD,SU,SV,SW,simprocAttr,Int.cast_ofNat_Int,small,resV, B71,R71,N71,b71, ho1',la1]
 have hRN:(rowsR t).length=n - 2:=by unfold rowsR; rw [List.length_take,hn]; omega
 have hRl:∀r∈rowsR t,r.length≤290:=fun r hr=>by
  unfold rowsR at hr
  have:=hpl r (List.mem_of_mem_take hr); omega
 have hwn:IntKind.wrap .i64 (((n:Nat):Int) - 2)=((n:Nat):Int) - 2:=wrap_id _ (by omega) (by omega)
 have bnil:vv (.bld [.int .i64 0,.slice none 0 0,.slice none 0 0] []) []=some (.agg #[.int .i64 0,.slice none 0 0,.slice none 0 0]):=by rw [vv_of (by rfl)]; rfl
 have bl1:∀x y:Int,vv (.bld [.int .i64 0,.int .i64 0] [(0,1),(1,1)]) [.int .i64 x,.int .i64 y]=some (.agg #[.int .i64 x,.int .i64 y]):=fun x y=>by rw [vv_of (by rfl)]; rfl
 have bl2:∀(x y z:Int) (q:Bool) (a:Option Addr) (l m:Nat),isLoc (.slice a l m)=false→vv (.bld [.int .i64 0,.bool false,.int .i64 0,.int .i64 0,.slice none 0 0] [(0,1),(1,1),(2,2),(4,1)]) [.int .i64 x,.bool q,.agg #[.int .i64 y,.int .i64 z],.slice a l m]=some (.agg #[.int .i64 x,.bool q,.int .i64 y,.int .i64 z,.slice a l m]):=fun x y z q a l m h=>by
  rw [vv_of (by simp only [List.all_cons,List.all_nil,h]; rfl)]; rfl
 obtain ⟨K,hK,hpre,hend⟩:=foldR_cut ⟨0,[],[]⟩ (rowsR t)
 have pb0:PB H1.length H1 none 0 0 none 0 0 ⟨0,[],[]⟩ []:=⟨Bld.nil _ _ _,Bld.nil _ _ _,rfl,fun k hk=>(by cases hk),fun _=>rfl⟩
 have np0:NuP ⟨0,[],[]⟩ 0:=⟨by decide,by decide,fun z hz=>(by cases hz),fun s hs=>(by cases hs),rfl⟩
 refine loop_ind (G:=(Yes · (QRd H' t))) (fun j σ=>∃T S H5 A ba bl bm sa sl sm lim,σ=⟨T,S,[],H5,lim,111,false⟩∧get T 0=.string ⟨t.toArray⟩∧get T 2=.pointer (some ⟨2,0,some 1⟩)∧get T 3=.bool false∧get T 4=.pointer (some ⟨4,0,some 1⟩)∧get T 5=.slice a1 n m1∧get T 6=.int .i64 (j:Nat)∧sget S 2=(1,.cells [.int .i64 0,.slice none 0 0,.slice none 0 0])∧sget S 4=(1,.cells [.int .i64 A,.slice ba bl bm,.slice sa sl sm])∧((∃b xs j',foldR 0 ⟨0,[],[]⟩ ((rowsR t).take j)=some b∧PB H1.length H5 ba bl bm sa sl sm b xs∧NuP b j'∧j'≤j∧b.app=A)∧Up H1 H5∧Fam H5∧H'.length≤lim)) (K) ?_ ?_ 0 _ (Nat.zero_le _) ⟨_,_,_,_,_,_,_,_,_,_,_,rfl,rfl,rfl,rfl,rfl,rfl,rfl,rfl,rfl,⟨⟨_,[],0,rfl,pb0,np0,Nat.le_refl _,rfl⟩,Up.refl _,hF1,by omega⟩⟩
 ·rintro c' j s hj ⟨T,S,H5,A,ba,bl,bm,sa,sl,sm,lim,rfl,t0,t2,t3,t4,t5,t6,s0,s1,hp⟩ ih
  obtain ⟨⟨b,xs,j',hfo,hpb,hnp,hjj,hbA⟩,hu,hF5,hlim⟩:=hp
  have hw:=wrap_succ j (by omega)
  have zN:(((j:Nat):Int) < ((n:Nat):Int) - 2)=True:=eq_true (by omega)
  have hul:=hu.len
  obtain ⟨r,hr⟩:∃r,(rowsR t)[j]?=some r:=⟨_,List.getElem?_eq_getElem (by omega)⟩
  have hrl:=hRl r (List.mem_of_getElem? hr)
  obtain ⟨b',hb'⟩:=hpre (j+1) (by omega)
  have hln:((rowsR t).take j).length=j:=by rw [List.length_take]; omega
  rw [take_get hr,foldR_snoc,hfo,Option.bind_some,hln,Nat.zero_add] at hb'
  have hrow:rowR j b r=some b':=hb'
  have hfo':foldR 0 ⟨0,[],[]⟩ ((rowsR t).take (j+1))=some b':=by rw [take_get hr,foldR_snoc,hfo,Option.bind_some,hln,Nat.zero_add]; exact hrow
  obtain ⟨j2,hj2,hnp'⟩:=rowR_nu hnp hrl hrow
  obtain ⟨br,offr,iar,fr⟩:=s_at (m:=m1) q1 (i:=j) (by omega)
  have fr:=fr H5 hu.grow
  have er0:(spl 10 t)[j]?=some r:=by
   unfold rowsR at hr; rw [List.getElem?_take_of_lt (by omega)] at hr; exact hr
  have er:(spl 10 t).getD j []=r:=by rw [List.getD_eq_getElem?_getD,er0]; rfl
  rw [er] at fr
  obtain ⟨o,ho6,a6,m6,H6,lo6,rfl,u6,hlo6,s6⟩:=c109 r 32 (by omega) H5
  have hF6:Fam H6:=famR ho6 hF5
  have la6:=s6.isLoc m6
  have h6:=u6.len
  obtain ⟨W,hW⟩:∃W,spl 32 r=W:=⟨_,rfl⟩
  have hWne:=spl_len1 32 r
  have hWl:W.length≤291:=by rw [←hW,spl_len]; have:=List.count_le_length (a:=32) (l:=r); omega
  have hWp:∀p∈W,p.length≤1000:=fun p hp=>by have:=(spl_parts (c:=32) r).2 p (by rw [hW]; exact hp); omega
  rw [hW] at ho6 s6 la6 hWne
  unfold rowR at hrow
  rw [hW] at hrow
  obtain ⟨nW,hnW⟩:∃nW,W.length=nW:=⟨_,rfl⟩
  rw [hnW] at ho6 s6 la6 hWne hWl
  have ho6':R (.func 109) [.string ⟨r.toArray⟩,.int .u8 32] H5=some ⟨.ok (.slice a6 nW m6),H6,lo6⟩:=ho6
  have lba:∀x y,isLoc (.slice ba x y)=false:=hpb.bo.isLoc
  have lsa:∀x y,isLoc (.slice sa x y)=false:=hpb.st.isLoc
  have hbl:bl=b.boards.length:=(hpb.bo.sl encI_len (by decide)).len.symm
  have hsl:sl=b.strokes.length:=by rw [hpb.eq,List.length_map]; exact (hpb.st.sl eK_len (by decide)).len.symm
  have hlnn:=hnp.ln
  split at hrow
  ·rename_i hl5
   have hnWfive:nW=5:=by omega
   subst hnWfive
   split at hrow
   ·rename_i l3 nd hl3 hnd
    cases hrow
    obtain ⟨hl3l,_⟩:=numsW_b hl3
    have hl33:l3.length=3:=by rw [hl3l,List.length_take,List.length_drop]; omega
    have z3:(((5:Nat):Int)=5)=True:=eq_true rfl
    obtain ⟨a7,m7,c7,s7⟩:=s6.cut m6 1 4 (by omega) (by omega)
    have c7':VOp.ev.slc 1 a6 5 m6 1 4=some (.slice a7 3 m7):=c7
    have la7:isLoc (.slice a7 3 m7)=false:=s7.isLoc m7
    obtain ⟨o,ho8,a8,m8,zs,ok,H8,lo8,rfl,u8,hlo8,s8,n8,he8⟩:=c110 (kk:=m7) s7 (by omega) (fun w hw=>hWp w (List.mem_of_mem_drop (List.mem_of_mem_take hw))) H6 (Grow.refl _)
    rw [hl3] at he8
    obtain ⟨rfl,rfl⟩:=he8
    have hF8:Fam H8:=famR ho8 hF6
    rw [hl33] at ho8 s8
    have ho8':R (.func 110) [.slice a7 3 m7,.int .i64 2] H6=some ⟨.ok (.tuple #[.slice a8 3 m8,.bool true]),H8,lo8⟩:=ho8
    have la8:=s8.isLoc m8
    have h8:=u8.len
    have u58:=u6.trans u8
    obtain ⟨e0b,e0o,ie0,fe0⟩:=n_at (m:=m8) s8 (i:=0) (by decide)
    replace ie0:vv (.ia 1) [.slice a8 3 m8,.int .i64 0]=some (.pointer (some ⟨e0b,e0o,none⟩)):=ie0
    obtain ⟨e1b,e1o,ie1,fe1⟩:=n_at (m:=m8) s8 (i:=1) (by decide)
    replace ie1:vv (.ia 1) [.slice a8 3 m8,.int .i64 1]=some (.pointer (some ⟨e1b,e1o,none⟩)):=ie1
    obtain ⟨e2b,e2o,ie2,fe2⟩:=n_at (m:=m8) s8 (i:=2) (by decide)
    replace ie2:vv (.ia 1) [.slice a8 3 m8,.int .i64 2]=some (.pointer (some ⟨e2b,e2o,none⟩)):=ie2
    obtain ⟨bw,offw,iaw,fw⟩:=s_at (m:=m6) s6 (i:=0) (by omega)
    replace iaw:vv (.ia 1) [.slice a6 5 m6,.int .i64 0]=some (.pointer (some ⟨bw,offw,none⟩)):=iaw
    obtain ⟨n4b,n4o,in4,fn4⟩:=s_at (m:=m6) s6 (i:=4) (by omega)
    replace in4:vv (.ia 1) [.slice a6 5 m6,.int .i64 4]=some (.pointer (some ⟨n4b,n4o,none⟩)):=in4
    have fn4:=fn4 H8 u8.grow
    have seq3:=vv_seq' (W.getD 0 []) [114,111,117,110,100]
    have sne:=vv_sne' (W.getD 4 []) [45]
    have hR:decide (W.getD 0 []=[114,111,117,110,100])=decide (W.getD 0 []=wRound):=rfl
    rw [hR] at seq3
    obtain ⟨RR,hRR⟩:∃RR,decide (W.getD 0 []=wRound)=RR:=⟨_,rfl⟩
    rw [hRR] at seq3
    by_cases hdash:W.getD 4 []=[45]
    ·rw [decide_eq_true hdash] at sne
     have hnd0:nd=[]:=by unfold needW at hnd; rw [if_pos hdash] at hnd; cases hnd; rfl
     subst hnd0
     have fe0:=fe0 H8 (Grow.refl _)
     have fe1:=fe1 H8 (Grow.refl _)
     have fe2:=fe2 H8 (Grow.refl _)
     have fw:=fw H8 u8.grow
     have b2:=bl2 (zs.getD 0 0) (zs.getD 1 0) (zs.getD 2 0) RR none 0 0 rfl
     have hpb8:=hpb.up u58
     obtain ⟨H9,p1,p2,p3,p4⟩:=hpb8.st.appF hF8 (by decide) (by decide) (by omega) (by omega) [.int .i64 (zs.getD 0 0),.bool RR,.int .i64 (zs.getD 1 0),.int .i64 (zs.getD 2 0),.slice none 0 0] rfl
     have u9:Up H1 H9:=p3.up hpb8.st (hu.trans u58) (Nat.le_refl _)
     have h9:=u9.len
     have hpb9:PB H1.length H9 ba bl bm (some ⟨H8.length,0,none⟩) (sl+1) 5 ⟨b.app,b.boards,b.strokes++[strokeW W zs []]⟩ (xs++[⟨strokeW W zs [],none,0,0⟩]):=by
      refine ⟨hpb8.bo.grown' p3 hpb.ne,by rw [cells_app,show eK (⟨strokeW W zs [],none,0,0⟩:Sk)=[.int .i64 (zs.getD 0 0),.bool RR,.int .i64 (zs.getD 1 0),.int .i64 (zs.getD 2 0),.slice none 0 0] by unfold eK strokeW; simp only; rw [hRR]]; exact p2,by rw [List.map_append,←hpb.eq]; rfl,fun k hk=>?_,fun e=>?_⟩
      ·rcases List.mem_append.1 hk with hk | hk
       ·exact ⟨(hpb8.nd k hk).1.grow p3.grow,(hpb8.nd k hk).2⟩
       ·rw [List.mem_singleton.1 hk]; exact ⟨Sl.none,.inl rfl⟩
      ·rcases hpb8.bo.ok with ⟨h,_⟩ | ⟨b2,f2,h,_,_,_,h5⟩
       ·exact h
       ·rw [h] at e; cases e
        have:=(List.getElem?_eq_some_iff.1 h5).1; omega
     simp (maxDischargeDepth:=8) only [↓SD,SU,SV,SW,simprocAttr,Int.cast_ofNat_Int,small,resV, q71x0,t0,t2,t3,t4,t5,t6,s0,s1, hwn,zN,la1,iar,fr,ho6',la6,hlo6,z3,vv_slc,c7',la7,ho8',la8,hlo8,ie0,fe0,ie1,fe1,ie2,fe2,iaw,fw,in4,fn4,bl1,b2,seq3,sne,p1,lba,lsa,hw,so_loc,k_fixb,sget_sset]
     exact ih _ ⟨_,_,(H9),(A),(ba),(bl),(bm),(some ⟨H8.length,0,none⟩),(sl+1),(5),(_),rfl,(by simp [get_set,t0] <;> omega),(by simp [get_set,t2] <;> omega),(by simp [get_set,t3] <;> omega),(by simp [get_set,t4] <;> omega),(by simp [get_set,t5] <;> omega),(by simp [get_set,t6] <;> omega),by simp [sget_sset,s0],by simp [sget_sset,s1],⟨⟨_,_,j2,hfo',hpb9,hnp',by omega,hbA⟩,u9,p4,by omega⟩⟩
    ·rw [decide_eq_false hdash] at sne
     have hnd':numsW (spl 44 (W.getD 4 []))=some nd:=by unfold needW at hnd; rw [if_neg hdash] at hnd; exact hnd
     have hW4:(W.getD 4 []).length≤290:=by
      rw [List.getD_eq_getElem?_getD]
      cases e:W[4]? with
      | none=>simp
      | some p=>have:=(spl_parts (c:=32) r).2 p (by rw [hW]; exact List.mem_of_getElem? e); simp; omega
     obtain ⟨o,hoA,aA,mA,HA,loA,rfl,uA,hloA,sA⟩:=c109 (W.getD 4 []) 44 (by omega) H8
     have hFA:Fam HA:=famR hoA hF8
     have laA:=sA.isLoc mA
     have hAl:=uA.len
     have hsA:(spl 44 (W.getD 4 [])).length≤291:=by rw [spl_len]; have:=List.count_le_length (a:=44) (l:=W.getD 4 []); omega
     have hoA':R (.func 109) [.string ⟨(W.getD 4 []).toArray⟩,.int .u8 44] H8=some ⟨.ok (.slice aA (spl 44 (W.getD 4 [])).length mA),HA,loA⟩:=hoA
     obtain ⟨o,hoB,aB,mB,zB,okB,HB,loB,rfl,uB,hloB,sB,nB,heB⟩:=c110 (kk:=mA) sA (by omega) (fun w hw=>by have:=(spl_parts (c:=44) (W.getD 4 [])).2 w hw; omega) HA (Grow.refl _)
     rw [hnd'] at heB
     obtain ⟨rfl,rfl⟩:=heB
     have hFB:Fam HB:=famR hoB hFA
     have laB:=sB.isLoc mB
     have hBl:=uB.len
     have u5B:=(u58.trans uA).trans uB
     have fe0:=fe0 HB (uA.grow.trans uB.grow)
     have fe1:=fe1 HB (uA.grow.trans uB.grow)
     have fe2:=fe2 HB (uA.grow.trans uB.grow)
     have fw:=fw HB (u8.grow.trans (uA.grow.trans uB.grow))
     have b2:=bl2 (zs.getD 0 0) (zs.getD 1 0) (zs.getD 2 0) RR aB zB.length mB laB
     have hpb8:=hpb.up u5B
     obtain ⟨H9,p1,p2,p3,p4⟩:=hpb8.st.appF hFB (by decide) (by decide) (by omega) (by omega) [.int .i64 (zs.getD 0 0),.bool RR,.int .i64 (zs.getD 1 0),.int .i64 (zs.getD 2 0),.slice aB zB.length mB] rfl
     have u9:Up H1 H9:=p3.up hpb8.st (hu.trans u5B) (Nat.le_refl _)
     have h9:=u9.len
     have hpb9:PB H1.length H9 ba bl bm (some ⟨HB.length,0,none⟩) (sl+1) 5 ⟨b.app,b.boards,b.strokes++[strokeW W zs zB]⟩ (xs++[⟨strokeW W zs zB,aB,zB.length,mB⟩]):=by
      refine ⟨hpb8.bo.grown' p3 hpb.ne,by rw [cells_app,show eK (⟨strokeW W zs zB,aB,zB.length,mB⟩:Sk)=[.int .i64 (zs.getD 0 0),.bool RR,.int .i64 (zs.getD 1 0),.int .i64 (zs.getD 2 0),.slice aB zB.length mB] by unfold eK strokeW; simp only; rw [hRR]]; exact p2,by rw [List.map_append,←hpb.eq]; rfl,fun k hk=>?_,fun e=>?_⟩
      ·rcases List.mem_append.1 hk with hk | hk
       ·exact ⟨(hpb8.nd k hk).1.grow p3.grow,(hpb8.nd k hk).2⟩
       ·rw [List.mem_singleton.1 hk]; exact ⟨sB.grow p3.grow,nB.less (by omega)⟩
      ·rcases hpb8.bo.ok with ⟨h,_⟩ | ⟨b2,f2,h,_,_,_,h5⟩
       ·exact h
       ·rw [h] at e; cases e
        have:=(List.getElem?_eq_some_iff.1 h5).1; omega
     simp (maxDischargeDepth:=8) only [↓SD,SU,SV,SW,simprocAttr,Int.cast_ofNat_Int,small,resV, q71x0,t0,t2,t3,t4,t5,t6,s0,s1, hwn,zN,la1,iar,fr,ho6',la6,hlo6,z3,vv_slc,c7',la7,ho8',la8,hlo8,ie0,fe0,ie1,fe1,ie2,fe2,iaw,fw,in4,fn4,bl1,b2,seq3,sne,hoA',laA,hoB,laB,p1,lba,lsa,hw,so_loc,k_fixb,sget_sset]
     exact ih _ ⟨_,_,(H9),(A),(ba),(bl),(bm),(some ⟨HB.length,0,none⟩),(sl+1),(5),(_),rfl,(by simp [get_set,t0] <;> omega),(by simp [get_set,t2] <;> omega),(by simp [get_set,t3] <;> omega),(by simp [get_set,t4] <;> omega),(by simp [get_set,t5] <;> omega),(by simp [get_set,t6] <;> omega),by simp [sget_sset,s0],by simp [sget_sset,s1],⟨⟨_,_,j2,hfo',hpb9,hnp',by omega,hbA⟩,u9,p4,by omega⟩⟩
   ·cases hrow
  ·rename_i hl5
   split at hrow
   ·rename_i z hz
    have z3:(((nW:Nat):Int)=5)=False:=eq_false (by omega)
    obtain ⟨a7,m7,c7,s7⟩:=s6.cut m6 1 nW hWne (Nat.le_refl _)
    have hd7:(W.drop 1).take (nW - 1)=W.drop 1:=List.take_of_length_le (by rw [List.length_drop]; omega)
    rw [hd7] at s7
    have c7':VOp.ev.slc 1 a6 nW m6 1 ((nW:Nat):Int)=some (.slice a7 (nW - 1) m7):=c7
    have la7:isLoc (.slice a7 (nW - 1) m7)=false:=s7.isLoc m7
    obtain ⟨o,ho8,a8,m8,zs,ok,H8,lo8,rfl,u8,hlo8,s8,n8,he8⟩:=c110 (kk:=m7) s7 (by omega) (fun w hw=>hWp w (List.mem_of_mem_drop hw)) H6 (Grow.refl _)
    rw [hz] at he8
    obtain ⟨rfl,rfl⟩:=he8
    have hF8:Fam H8:=famR ho8 hF6
    have ho8':R (.func 110) [.slice a7 (nW - 1) m7,.int .i64 2] H6=some ⟨.ok (.tuple #[.slice a8 1 m8,.bool true]),H8,lo8⟩:=ho8
    have la8:isLoc (.slice a8 1 m8)=false:=s8.isLoc m8
    have h8:=u8.len
    have u58:=u6.trans u8
    have z4:(((1:Nat):Int)=1)=True:=eq_true rfl
    obtain ⟨e0b,e0o,ie0,fe0⟩:=n_at (m:=m8) s8 (i:=0) (by simp)
    replace ie0:vv (.ia 1) [.slice a8 1 m8,.int .i64 0]=some (.pointer (some ⟨e0b,e0o,none⟩)):=ie0
    have fe0:rdO (hcells H8 e0b) e0o none=some (.int .i64 z):=fe0 H8 (Grow.refl _)
    have hpb8:=hpb.up u58
    by_cases hj0:j=0
    ·have z5:(((j:Nat):Int)=0)=True:=eq_true (by omega)
     rw [if_pos hj0] at hrow
     cases hrow
     simp (maxDischargeDepth:=8) only [↓SD,SU,SV,SW,simprocAttr,Int.cast_ofNat_Int,small,resV, q71x0,t0,t2,t3,t4,t5,t6,s0,s1, hwn,zN,la1,iar,fr,ho6',la6,hlo6,z3,vv_sll',c7',la7,ho8',la8,hlo8,z4,z5,ie0,fe0,lba,lsa,hw,k_fixb,sget_sset]
     exact ih _ ⟨_,_,(H8),(z),(ba),(bl),(bm),(sa),(sl),(sm),(_),rfl,(by simp [get_set,t0] <;> omega),(by simp [get_set,t2] <;> omega),(by simp [get_set,t3] <;> omega),(by simp [get_set,t4] <;> omega),(by simp [get_set,t5] <;> omega),(by simp [get_set,t6] <;> omega),by simp [sget_sset,s0],by simp [sget_sset,s1],⟨⟨_,xs,j2,hfo',⟨hpb8.bo,hpb8.st,hpb8.eq,hpb8.nd,hpb8.ne⟩,hnp',by omega,rfl⟩,hu.trans u58,hF8,by omega⟩⟩
    ·have z5:(((j:Nat):Int)=0)=False:=eq_false (by omega)
     rw [if_neg hj0] at hrow
     cases hrow
     obtain ⟨H9,p1,p2,p3,p4⟩:=hpb8.bo.appF hF8 (by decide) (by decide) (by omega) (by omega) [.int .i64 z] rfl
     have u9:Up H1 H9:=p3.up hpb8.bo (hu.trans u58) (Nat.le_refl _)
     have h9:=u9.len
     have hpb9:PB H1.length H9 (some ⟨H8.length,0,none⟩) (bl+1) 1 sa sl sm ⟨b.app,b.boards++[z],b.strokes⟩ xs:=by
      refine ⟨by rw [cells_app]; exact p2,hpb8.st.grown' p3 (fun e=>by
       have:=hpb.ne e.symm; rw [e]; exact this),hpb.eq,fun k hk=>⟨(hpb8.nd k hk).1.grow p3.grow,(hpb8.nd k hk).2⟩,fun e=>?_⟩
      rcases hpb8.st.ok with ⟨h,_⟩ | ⟨b2,f2,h,_,_,_,h5⟩
      ·rw [h] at e; cases e
      ·rw [h] at e; cases e
       have:=(List.getElem?_eq_some_iff.1 h5).1; omega
     simp (maxDischargeDepth:=8) only [↓SD,SU,SV,SW,simprocAttr,Int.cast_ofNat_Int,small,resV, q71x0,t0,t2,t3,t4,t5,t6,s0,s1, hwn,zN,la1,iar,fr,ho6',la6,hlo6,z3,vv_sll',c7',la7,ho8',la8,hlo8,z4,z5,ie0,fe0,p1,lba,lsa,hw,so_loc,k_fixb,sget_sset]
     exact ih _ ⟨_,_,(H9),(A),(some ⟨H8.length,0,none⟩),(bl+1),(1),(sa),(sl),(sm),(_),rfl,(by simp [get_set,t0] <;> omega),(by simp [get_set,t2] <;> omega),(by simp [get_set,t3] <;> omega),(by simp [get_set,t4] <;> omega),(by simp [get_set,t5] <;> omega),(by simp [get_set,t6] <;> omega),by simp [sget_sset,s0],by simp [sget_sset,s1],⟨⟨_,xs,j2,hfo',hpb9,hnp',by omega,hbA⟩,u9,p4,by omega⟩⟩
   ·cases hrow
 ·rintro c' s ⟨T,S,H5,A,ba,bl,bm,sa,sl,sm,lim,rfl,t0,t2,t3,t4,t5,t6,s0,s1,⟨b,xs,j',hfo,hpb,hnp,hjj,hbA⟩,hu,hF5,hlim⟩
  have hul:=hu.len
  have lba:∀x y,isLoc (.slice ba x y)=false:=hpb.bo.isLoc
  have lsa:∀x y,isLoc (.slice sa x y)=false:=hpb.st.isLoc
  rcases hend with e | ⟨b',r,hr,hfo',hrow,hnone⟩
  ·have z0:(((K:Nat):Int) < ((n:Nat):Int) - 2)=False:=eq_false (by omega)
   rw [List.take_of_length_le (by omega)] at hfo
   have hpar2:readR t=parseT (some b) t:=by unfold readR; rw [hfo]
   have hbe:BeOk H5 ⟨A,ba,bl,bm,sa,sl,sm,xs⟩ b:=⟨hbA.symm,hpb.bo.sl encI_len (by decide),hpb.st.sl eK_len (by decide),fun k hk=>(hpb.nd k hk).1,hpb.eq⟩
   have hnb:=hnp.nub (by omega)
   have k69:=c69 hbe hnb H5 (Grow.refl _)
   have sne:=vv_sne' (textT b) t
   by_cases htx:textT b=t
   ·have hpar3:readR t=some b:=by rw [hpar2]; unfold parseT; simp only; rw [if_pos htx]
    rw [decide_eq_true htx] at sne
    simp (maxDischargeDepth:=8) only [↓SD,SU,SV,SW,simprocAttr,Int.cast_ofNat_Int,small,resV, q71x0,t0,t2,t3,t4,t5,t6,s0,s1,hwn,z0,la1,k69,sne,lba,lsa,sget_sset,R71,N71]
    rw [yes_some]
    unfold QRd
    rw [hpar3]
    have u5:Up H' H5:=u1.trans hu
    by_cases hfl:flat 4 (.tuple #[.agg #[.int .i64 A,.slice ba bl bm,.slice sa sl sm],.bool true])=true
    ·rw [gc_ite (by omega),if_pos hfl]
     have hfl':flat 2 (.slice ba bl bm)=true∧flat 2 (.slice sa sl sm)=true:=by simpa [flat] using hfl
     have hx0:xs=[]:=by
      rcases hpb.st.ok with ⟨_,h,_⟩ | ⟨b2,f2,h,_⟩
      ·have:=hbe.st.len; exact List.eq_nil_of_length_eq_zero (by show xs.length=0; simp only at this; omega)
      ·rw [h] at hfl'; simp [flat] at hfl'
     exact ⟨⟨A,ba,bl,bm,sa,sl,sm,xs⟩,H',H'.length,rfl,Up.refl _,Nat.le_refl _,⟨hbA.symm,hbe.br.flat hfl'.1,hbe.st.flat hfl'.2,fun k hk=>(by rw [hx0] at hk; cases hk),hpb.eq⟩,hnb⟩
    ·rw [gc_ite (by omega),if_neg hfl]
     exact ⟨⟨A,ba,bl,bm,sa,sl,sm,xs⟩,H5,_,rfl,u5,by omega,hbe,hnb⟩
   ·have hno:readR t=none:=by rw [hpar2]; unfold parseT; simp only; rw [if_neg htx]
    rw [decide_eq_false htx] at sne
    simp (maxDischargeDepth:=8) only [↓SD,SU,SV,SW,simprocAttr,Int.cast_ofNat_Int,small,resV, q71x0,t0,t2,t3,t4,t5,t6,s0,s1,hwn,z0,la1,k69,sne,bnil,lba,lsa,sget_sset,R71,N71]
    exact fin hno _ _ (by omega)
  ·have hno:readR t=none:=by unfold readR; rw [hnone]; rfl
   rw [hfo] at hfo'
   cases hfo'
   have hKN:=(List.getElem?_eq_some_iff.1 hr).1
   have zN:(((K:Nat):Int) < ((n:Nat):Int) - 2)=True:=eq_true (by omega)
   have hrl:=hRl r (List.mem_of_getElem? hr)
   obtain ⟨br,offr,iar,fr⟩:=s_at (m:=m1) q1 (i:=K) (by omega)
   have fr:=fr H5 hu.grow
   have er0:(spl 10 t)[K]?=some r:=by
    unfold rowsR at hr; rw [List.getElem?_take_of_lt (by omega)] at hr; exact hr
   have er:(spl 10 t).getD K []=r:=by rw [List.getD_eq_getElem?_getD,er0]; rfl
   rw [er] at fr
   obtain ⟨o,ho6,a6,m6,H6,lo6,rfl,u6,hlo6,s6⟩:=c109 r 32 (by omega) H5
   have hF6:Fam H6:=famR ho6 hF5
   have la6:=s6.isLoc m6
   have h6:=u6.len
   obtain ⟨W,hW⟩:∃W,spl 32 r=W:=⟨_,rfl⟩
   have hWne:=spl_len1 32 r
   have hWl:W.length≤291:=by rw [←hW,spl_len]; have:=List.count_le_length (a:=32) (l:=r); omega
   have hWp:∀p∈W,p.length≤1000:=fun p hp=>by have:=(spl_parts (c:=32) r).2 p (by rw [hW]; exact hp); omega
   rw [hW] at ho6 s6 la6 hWne
   unfold rowR at hrow
   rw [hW] at hrow
   obtain ⟨nW,hnW⟩:∃nW,W.length=nW:=⟨_,rfl⟩
   rw [hnW] at ho6 s6 la6 hWne hWl
   have ho6':R (.func 109) [.string ⟨r.toArray⟩,.int .u8 32] H5=some ⟨.ok (.slice a6 nW m6),H6,lo6⟩:=ho6
   by_cases hl5:W.length=5
   ·rw [if_pos hl5] at hrow
    have hnWfive:nW=5:=by omega
    subst hnWfive
    have z3:(((5:Nat):Int)=5)=True:=eq_true rfl
    obtain ⟨a7,m7,c7,s7⟩:=s6.cut m6 1 4 (by omega) (by omega)
    have c7':VOp.ev.slc 1 a6 5 m6 1 4=some (.slice a7 3 m7):=c7
    have la7:isLoc (.slice a7 3 m7)=false:=s7.isLoc m7
    obtain ⟨o,ho8,a8,m8,zs,ok,H8,lo8,rfl,u8,hlo8,s8,n8,he8⟩:=c110 (kk:=m7) s7 (by omega) (fun w hw=>hWp w (List.mem_of_mem_drop (List.mem_of_mem_take hw))) H6 (Grow.refl _)
    have ho8':R (.func 110) [.slice a7 3 m7,.int .i64 2] H6=some ⟨.ok (.tuple #[.slice a8 zs.length m8,.bool ok]),H8,lo8⟩:=ho8
    have la8:=s8.isLoc m8
    have h8:=u8.len
    obtain ⟨n4b,n4o,in4,fn4⟩:=s_at (m:=m6) s6 (i:=4) (by omega)
    replace in4:vv (.ia 1) [.slice a6 5 m6,.int .i64 4]=some (.pointer (some ⟨n4b,n4o,none⟩)):=in4
    have fn4:=fn4 H8 u8.grow
    have sne:=vv_sne' (W.getD 4 []) [45]
    by_cases hdash:W.getD 4 []=[45]
    ·rw [decide_eq_true hdash] at sne
     have hok:ok=false:=by
      have hnd:needW (W.getD 4 [])=some []:=by unfold needW; rw [if_pos hdash]
      cases hl3:numsW ((W.drop 1).take 3) with
      | none=>rw [hl3] at he8; exact he8
      | some l3=>rw [hl3,hnd] at hrow; cases hrow
     subst hok
     simp (maxDischargeDepth:=8) only [↓SD,SU,SV,SW,simprocAttr,Int.cast_ofNat_Int,small,resV, q71x0,t0,t2,t3,t4,t5,t6,s0,s1,hwn,zN,la1,iar,fr,ho6',la6,hlo6,z3,vv_slc,c7',la7,ho8',la8,hlo8,in4,fn4,sne,bnil,lba,lsa,sget_sset,R71,N71]
     exact fin hno _ _ (by omega)
    ·rw [decide_eq_false hdash] at sne
     have hW4:(W.getD 4 []).length≤290:=by
      rw [List.getD_eq_getElem?_getD]
      cases e:W[4]? with
      | none=>simp
      | some p=>have:=(spl_parts (c:=32) r).2 p (by rw [hW]; exact List.mem_of_getElem? e); simp; omega
     obtain ⟨o,hoA,aA,mA,HA,loA,rfl,uA,hloA,sA⟩:=c109 (W.getD 4 []) 44 (by omega) H8
     have laA:=sA.isLoc mA
     have hAl:=uA.len
     have hsA:(spl 44 (W.getD 4 [])).length≤291:=by rw [spl_len]; have:=List.count_le_length (a:=44) (l:=W.getD 4 []); omega
     have hoA':R (.func 109) [.string ⟨(W.getD 4 []).toArray⟩,.int .u8 44] H8=some ⟨.ok (.slice aA (spl 44 (W.getD 4 [])).length mA),HA,loA⟩:=hoA
     obtain ⟨o,hoB,aB,mB,zB,okB,HB,loB,rfl,uB,hloB,sB,nB,heB⟩:=c110 (kk:=mA) sA (by omega) (fun w hw=>by have:=(spl_parts (c:=44) (W.getD 4 [])).2 w hw; omega) HA (Grow.refl _)
     have laB:=sB.isLoc mB
     have hBl:=uB.len
     cases ok with
     | false =>
      simp (maxDischargeDepth:=8) only [↓SD,SU,SV,SW,simprocAttr,Int.cast_ofNat_Int,small,resV, q71x0,t0,t2,t3,t4,t5,t6,s0,s1,hwn,zN,la1,iar,fr,ho6',la6,hlo6,z3,vv_slc,c7',la7,ho8',la8,hlo8,in4,fn4,sne,hoA',laA,hoB,laB,bnil,lba,lsa,sget_sset,R71,N71]
      exact fin hno _ _ (by omega)
     | true =>
      have hok:okB=false:=by
       cases hl3:numsW ((W.drop 1).take 3) with
       | none=>rw [hl3] at he8; cases he8
       | some l3 =>
        rw [hl3] at hrow
        cases e:numsW (spl 44 (W.getD 4 [])) with
        | none=>rw [e] at heB; exact heB
        | some nd =>
         have hnd:needW (W.getD 4 [])=some nd:=by unfold needW; rw [if_neg hdash,e]
         rw [hnd] at hrow; cases hrow
      subst hok
      simp (maxDischargeDepth:=8) only [↓SD,SU,SV,SW,simprocAttr,Int.cast_ofNat_Int,small,resV, q71x0,t0,t2,t3,t4,t5,t6,s0,s1,hwn,zN,la1,iar,fr,ho6',la6,hlo6,z3,vv_slc,c7',la7,ho8',la8,hlo8,in4,fn4,sne,hoA',laA,hoB,laB,bnil,lba,lsa,sget_sset,R71,N71]
      exact fin hno _ _ (by omega)
   ·rw [if_neg hl5] at hrow
    have z3:(((nW:Nat):Int)=5)=False:=eq_false (by omega)
    obtain ⟨a7,m7,c7,s7⟩:=s6.cut m6 1 nW hWne (Nat.le_refl _)
    have hd7:(W.drop 1).take (nW - 1)=W.drop 1:=List.take_of_length_le (by rw [List.length_drop]; omega)
    rw [hd7] at s7
    have c7':VOp.ev.slc 1 a6 nW m6 1 ((nW:Nat):Int)=some (.slice a7 (nW - 1) m7):=c7
    have la7:isLoc (.slice a7 (nW - 1) m7)=false:=s7.isLoc m7
    obtain ⟨o,ho8,a8,m8,zs,ok,H8,lo8,rfl,u8,hlo8,s8,n8,he8⟩:=c110 (kk:=m7) s7 (by omega) (fun w hw=>hWp w (List.mem_of_mem_drop hw)) H6 (Grow.refl _)
    have la8:=s8.isLoc m8
    have h8:=u8.len
    cases ok with
    | false =>
     simp (maxDischargeDepth:=8) only [↓SD,SU,SV,SW,simprocAttr,Int.cast_ofNat_Int,small,resV, q71x0,t0,t2,t3,t4,t5,t6,s0,s1,hwn,zN,la1,iar,fr,ho6',la6,hlo6,z3,vv_sll',c7',la7,ho8,la8,hlo8,bnil,lba,lsa,sget_sset,R71,N71]
     exact fin hno _ _ (by omega)
    | true =>
     have hzl:zs.length≠1:=fun h=>by
      cases e:numsW (W.drop 1) with
      | none=>rw [e] at he8; cases he8
      | some ns =>
       rw [e] at he8 hrow
       obtain ⟨rfl,_⟩:=he8
       match zs,h with
       | [x],_=>cases hrow
     obtain ⟨nz,hnz⟩:∃nz,zs.length=nz:=⟨_,rfl⟩
     rw [hnz] at ho8 la8 hzl
     have z4:(((nz:Nat):Int)=1)=False:=eq_false (by omega)
     simp (maxDischargeDepth:=8) only [↓SD,SU,SV,SW,simprocAttr,Int.cast_ofNat_Int,small,resV, q71x0,t0,t2,t3,t4,t5,t6,s0,s1,hwn,zN,la1,iar,fr,ho6',la6,hlo6,z3,vv_sll',c7',la7,ho8,la8,hlo8,z4,bnil,lba,lsa,sget_sset,R71,N71]
     exact fin hno _ _ (by omega)
end Go.Pi.L.Ben
set_option maxRecDepth 100000
namespace Go.Pi.L.Ben
open Go Go.Pi Go.Pi.L Go.Pi.E Go.Pi.Ben BM Go.Pi.Q

theorem parse_nu {t:List UInt8}(ht:t.length≤290){b:Bench}(hp:parseP t=some b){H:Heap}(hF:Fam H):NuB b:=by
 obtain ⟨o,_,hq⟩:=c105 t ht H hF
 unfold QPa at hq
 rw [hp] at hq
 obtain ⟨r,H1,lo1,rfl,_,_,_,hnb,_⟩:=hq
 exact hnb
theorem read_nu {t:List UInt8}(ht:t.length≤290){b:Bench}(hp:readR t=some b){H:Heap}(hF:Fam H):NuB b:=by
 obtain ⟨o,_,hq⟩:=c71 t ht H hF
 unfold QRd at hq
 rw [hp] at hq
 obtain ⟨r,H1,lo1,rfl,_,_,_,hnb⟩:=hq
 exact hnb
theorem parse_read {t:List UInt8}(ht:t.length≤290){H:Heap}(hF:Fam H):readR t=parseP t:=by
 cases hp:parseP t with
 | some b =>
  have h:=read_text (parse_nu ht hp hF)
  rwa [parse_sound hp] at h
 | none =>
  cases hr:readR t with
  | none=>rfl
  | some b =>
   have h:=parse_text (read_nu ht hr hF)
   rw [read_sound hr,hp] at h
   cases h
theorem smb_of {H:Heap}{r:BeR}{b:Bench}(hbe:BeOk H r b)(hnb:NuB b):SmB r:=by
 have h1:=hbe.blen
 have h2:=hbe.len
 refine ⟨by have:=hnb.bo.2; omega,by have:=hnb.sl; omega,fun k hk=>?_⟩
 have hk2:k.s∈b.strokes:=by rw [hbe.eq]; exact List.mem_map_of_mem hk
 have:=(hnb.st k.s hk2).nd.2
 have:=(hbe.nd k hk).len
 omega
theorem c70n (H:Heap):R (.func 70) [.agg #[.int .i64 0,.slice none 0 0,.slice none 0 0],.agg #[.int .i64 0,.slice none 0 0,.slice none 0 0]] H=some ⟨.ok (.bool true),H,H.length⟩:=by
 have hb:BeOk H ⟨0,none,0,0,none,0,0,[]⟩ ⟨0,[],[]⟩:=⟨rfl,Sl.none,Sl.none,fun k hk=>(by cases hk),rfl⟩
 exact c70 hb hb ⟨by decide,by decide,⟨fun z hz=>(by cases hz),by simp⟩,fun s hs=>(by cases hs),by simp⟩ H (Grow.refl _)
set_option maxHeartbeats 2000000 in
theorem c19 (s:ByteArray){H:Heap}(hF:Fam H):R (.func 19) [.string s] H=some ⟨.ok (.bool true),H,H.length⟩:=by
 rw [ba_eta s]
 obtain ⟨l,hl⟩:∃l,s.data.toList=l:=⟨_,rfl⟩
 rw [hl]
 have sl0:=vv_slen' l
 have bnil:vv (.bld [.int .i64 0,.slice none 0 0,.slice none 0 0] []) []=some (.agg #[.int .i64 0,.slice none 0 0,.slice none 0 0]):=by rw [vv_of (by rfl)]; rfl
 refine run_k (pr 19) P19 (by simp [p19]) rfl ?_
 by_cases h280:280 < l.length
 ·have z1:((280:Int) < ((l.length:Nat):Int))=True:=eq_true (by omega)
  simp (maxDischargeDepth:=8) only [↓SD,SU,SV,SW,simprocAttr,Int.cast_ofNat_Int,small,resV, B19,R19,N19,b19, sl0,z1,c25,R19,N19]
 have z1:((280:Int) < ((l.length:Nat):Int))=False:=eq_false (by omega)
 by_cases h180:180 < l.length
 ·have z2:((180:Int) < ((l.length:Nat):Int))=True:=eq_true (by omega)
  have k68:=c68l h180 H
  obtain ⟨o,k71,hq⟩:=c71 l (by omega) H hF
  unfold QRd at hq
  cases hr:readR l with
  | none =>
   rw [hr] at hq
   subst hq
   have k70:=c70n H
   simp (maxDischargeDepth:=8) only [↓SD,SU,SV,SW,simprocAttr,Int.cast_ofNat_Int,small,resV, B19,R19,N19,b19, sl0,z1,z2,k68,k71,bnil,k70,c25,R19,N19]
  | some b =>
   rw [hr] at hq
   obtain ⟨r,H1,lo1,rfl,u1,hlo1,hbe,hnb⟩:=hq
   have l1:=hbe.br.isLoc r.bk
   have l2:=hbe.st.isLoc r.sk
   have h1:=u1.len
   have k70:=c70n H1
   simp (maxDischargeDepth:=8) only [↓SD,SU,SV,SW,simprocAttr,Int.cast_ofNat_Int,small,resV, B19,R19,N19,b19, sl0,z1,z2,k68,k71,l1,l2,bnil,k70,c25,R19,N19]
   first | (rw [gc_ite (by omega)]; simp [flat]; done) | (simp [gcR,flat]; omega)
 have z2:((180:Int) < ((l.length:Nat):Int))=False:=eq_false (by omega)
 have hag:=parse_read (t:=l) (by omega) hF
 cases hp:parseP l with
 | none =>
  have k68:=c68t (by omega) hp H hF
  obtain ⟨o,k71,hq⟩:=c71 l (by omega) H hF
  unfold QRd at hq
  rw [hag,hp] at hq
  subst hq
  have k70:=c70n H
  simp (maxDischargeDepth:=8) only [↓SD,SU,SV,SW,simprocAttr,Int.cast_ofNat_Int,small,resV, B19,R19,N19,b19, sl0,z1,z2,k68,k71,bnil,k70,c25,R19,N19]
 | some b =>
  cases hB:isBench b with
  | false =>
   have k68:=c68a (by omega) hp hB H hF
   obtain ⟨o,k71,hq⟩:=c71 l (by omega) H hF
   unfold QRd at hq
   rw [hag,hp] at hq
   obtain ⟨r,H1,lo1,rfl,u1,hlo1,hbe,hnb⟩:=hq
   have l1:=hbe.br.isLoc r.bk
   have l2:=hbe.st.isLoc r.sk
   have h1:=u1.len
   have k34:=c34 hbe (smb_of hbe hnb) H1 (Grow.refl _)
   rw [hB] at k34
   have k70:=c70n H1
   simp (maxDischargeDepth:=8) only [↓SD,SU,SV,SW,simprocAttr,Int.cast_ofNat_Int,small,resV, B19,R19,N19,b19, sl0,z1,z2,k68,k71,l1,l2,k34,bnil,k70,c25,R19,N19]
   first | (rw [gc_ite (by omega)]; simp [flat]; done) | (simp [gcR,flat]; omega)
  | true =>
   obtain ⟨rr,H1,lo1,k68,u1,hlo1,hbp⟩:=c68 (by omega) hp hB H hF
   have hF1:Fam H1:=famR k68 hF
   obtain ⟨o,k71,hq⟩:=c71 l (by omega) H1 hF1
   unfold QRd at hq
   rw [hag,hp] at hq
   obtain ⟨r,H2,lo2,rfl,u2,hlo2,hbe,hnb⟩:=hq
   have l1:=hbe.br.isLoc r.bk
   have l2:=hbe.st.isLoc r.sk
   have l3:=hbp.br.isLoc rr.bk
   have l4:=hbp.st.isLoc rr.sk
   have h1:=u1.len
   have h2:=u2.len
   have hbp2:=hbp.grow u2.grow
   have k34:=c34 hbe (smb_of hbe hnb) H2 (Grow.refl _)
   rw [hB] at k34
   have k67:=c67 hbp2 (smb_of hbp2 hnb) H2 (Grow.refl _)
   rw [hB,if_pos rfl,parse_sound hp] at k67
   have k70:=c70 hbp2 hbe hnb H2 (Grow.refl _)
   have seq:=vv_seq' l l
   rw [decide_eq_true rfl] at seq
   simp (maxDischargeDepth:=8) only [↓SD,SU,SV,SW,simprocAttr,Int.cast_ofNat_Int,small,resV, B19,R19,N19,b19, sl0,z1,z2,k68,k71,l1,l2,l3,l4,k34,k67,k70,seq,c25,R19,N19]
   first | (rw [gc_ite (by omega)]; simp [flat]; done) | (simp [gcR,flat]; omega)
end Go.Pi.L.Ben
set_option maxRecDepth 100000
namespace Go.Pi.L.Ben
open Go Go.Pi Go.Pi.L Go.Pi.E Go.Pi.Ben BM Go.Pi.Q

theorem spl_set {c d:UInt8}(hd:d≠c):∀(l:List UInt8) (n:Nat) (x:UInt8),l[n]?=some x→x≠c→∃i k r,(spl c l)[i]?=some r∧r[k]?=some x∧spl c (l.set n d)=(spl c l).set i (r.set k d)
 | [],n,x,h,_=>by cases h
 | y :: l,0,x,h,hx=>by
  have e:y=x:=by simpa using h
  subst e
  rw [List.set_cons_zero,spl,spl,if_neg hx,if_neg hd]
  cases hs:spl c l with
  | nil=>exact (spl_ne c l hs).elim
  | cons z zs=>exact ⟨0,0,y :: z,rfl,rfl,rfl⟩
 | y :: l,n+1,x,h,hx=>by
  obtain ⟨i,k,r,h1,h2,h3⟩:=spl_set hd l n x (by simpa using h) hx
  rw [List.set_cons_succ,spl,spl]
  by_cases hy:y=c
  ·rw [if_pos hy,if_pos hy,h3]
   exact ⟨i+1,k,r,by simpa using h1,h2,rfl⟩
  ·rw [if_neg hy,if_neg hy,h3]
   cases hs:spl c l with
   | nil=>exact (spl_ne c l hs).elim
   | cons z zs =>
    rw [hs] at h1
    cases i with
    | zero =>
     have e:z=r:=by simpa using h1
     subst e
     exact ⟨0,k+1,y :: z,rfl,by simpa using h2,rfl⟩
    | succ i=>exact ⟨i+1,k,r,by simpa using h1,h2,rfl⟩
theorem chkR_set (i:Nat){d x:UInt8}:∀(r:List UInt8) (k m:Nat),r[k]?=some x→chkR i m (r.set k d)+x.toNat*((m+k+1)*(i+1))=chkR i m r+d.toNat*((m+k+1)*(i+1))
 | [],k,m,h=>by cases h
 | y :: r,0,m,h=>by
  have e:y=x:=by simpa using h
  subst e
  rw [List.set_cons_zero,chkR,chkR,Nat.mul_assoc,Nat.mul_assoc]; simp only [Nat.add_zero]; omega
 | y :: r,k+1,m,h=>by
  have ih:=chkR_set i r k (m+1) (d:=d) (by simpa using h)
  rw [List.set_cons_succ,chkR,chkR]
  rw [show m+(k+1)+1=m+1+k+1 by omega]; omega
theorem chkL_set {r r':List UInt8}:∀(L:List (List UInt8)) (i j:Nat),L[i]?=some r→chkL j (L.set i r')+chkR (j+i) 0 r=chkL j L+chkR (j+i) 0 r'
 | [],i,j,h=>by cases h
 | y :: L,0,j,h=>by
  have e:y=r:=by simpa using h
  subst e
  rw [List.set_cons_zero,chkL,chkL]; simp only [Nat.add_zero]; omega
 | y :: L,i+1,j,h=>by
  have ih:=chkL_set L i (j+1) (r':=r') (by simpa using h)
  rw [List.set_cons_succ,chkL,chkL]
  rw [show j+(i+1)=j+1+i by omega]; omega
theorem cop197:∀n,n < 197→0 < n→Nat.gcd 197 n=1:=by decide +kernel
theorem not_dvd {a b c:Nat}(ha:0 < a)(ha2:a < 197)(hb:0 < b)(hb2:b < 197)(hc:0 < c)(hc2:c < 197):¬197 ∣ a*(b*c):=by
 intro h
 have h1:197 ∣ b*c:=Nat.Coprime.dvd_of_dvd_mul_left (cop197 a ha2 ha) h
 have h2:197 ∣ c:=Nat.Coprime.dvd_of_dvd_mul_left (cop197 b hb2 hb) h1
 have:=Nat.le_of_dvd hc h2
 omega
def decE (l:List UInt8):Nat:=((l.getD 4 0).toNat - 48)*100+((l.getD 5 0).toNat - 48)*10+((l.getD 6 0).toNat - 48)
theorem endT_inj {c c':Nat}(h:c < 197)(h':c' < 197)(e:endT c=endT c'):c=c':=by
 have key:∀c,c < 197→decE (endT c)=c:=by decide +kernel
 rw [←key c h,←key c' h',e]
theorem spoilt {b:Bench}(hb:NuB b){k:Nat}{x d:UInt8}(hx:(textT b)[k]?=some x)(hlen:(textT b).length≤180)(hxd:48≤x.toNat∧x.toNat≤57)(hdd:48≤d.toNat∧d.toNat≤57)(hne:x≠d)
  (hnu:∀b',parseP ((textT b).set k d)=some b'→NuB b'):parseP ((textT b).set k d)=none:=by
 cases hp:parseP ((textT b).set k d) with
 | none=>rfl
 | some b' =>
  exfalso
  have hb':=hnu b' hp
  have ht:=parse_sound hp
  have hQ:chkL 0 (rowsT b) % 197 < 197:=Nat.mod_lt _ (by decide)
  have hQ':chkL 0 (rowsT b') % 197 < 197:=Nat.mod_lt _ (by decide)
  have hsp:spl 10 (textT b)=rowsT b++[endT (chkL 0 (rowsT b) % 197),[]]:=by
   rw [textT_flat,spl_rows (rows_no hb),spl_hit [] (endT_no _ hQ)]; rfl
  have hsp':spl 10 (textT b')=rowsT b'++[endT (chkL 0 (rowsT b') % 197),[]]:=by
   rw [textT_flat,spl_rows (rows_no hb'),spl_hit [] (endT_no _ hQ')]; rfl
  have hx10:x≠10:=fun e=>by rw [e] at hxd; exact absurd hxd.1 (by decide)
  have hd10:d≠10:=fun e=>by rw [e] at hdd; exact absurd hdd.1 (by decide)
  obtain ⟨i,m,r,h1,h2,h3⟩:=spl_set hd10 (textT b) k x hx hx10
  have hrl:r.length≤180:=Nat.le_trans ((spl_parts (c:=10) (textT b)).2 r (List.mem_of_getElem? h1)) hlen
  have hsl:(spl 10 (textT b)).length≤181:=by rw [spl_len]; have:=List.count_le_length (a:=10) (l:=textT b); omega
  have hil:=(List.getElem?_eq_some_iff.1 h1).1
  have hml:=(List.getElem?_eq_some_iff.1 h2).1
  rw [←ht,hsp',hsp] at h3
  rw [hsp] at h1 hil hsl
  have hll:(rowsT b').length=(rowsT b).length:=by
   have:=congrArg List.length h3
   simp only [List.length_append,List.length_set,List.length_cons,List.length_nil] at this; omega
  rcases Nat.lt_or_ge i (rowsT b).length with hi | hi
  ·rw [List.getElem?_append_left hi] at h1
   rw [List.set_append_left _ _ hi] at h3
   obtain ⟨e1,e2⟩:=List.append_inj h3 (by rw [List.length_set]; exact hll)
   have e3:endT (chkL 0 (rowsT b') % 197)=endT (chkL 0 (rowsT b) % 197):=by simpa using e2
   have e4:=endT_inj hQ' hQ e3
   rw [e1] at e4
   have c1:=chkL_set (r':=r.set m d) (rowsT b) i 0 h1
   have c2:=chkR_set (0+i) (d:=d) r m 0 h2
   rw [Nat.zero_add,Nat.zero_add] at c2
   rw [Nat.zero_add] at c1
   have hi2:i+1 < 197:=by rw [List.length_append] at hsl; omega
   have hm2:m+1 < 197:=by omega
   rcases Nat.lt_or_ge x.toNat d.toNat with hlt | hge
   ·have hd:=not_dvd (a:=d.toNat - x.toNat) (b:=m+1) (c:=i+1) (by omega) (by omega) (by omega) hm2 (by omega) hi2
    rw [Nat.sub_mul] at hd
    generalize d.toNat*((m+1)*(i+1))=P at *
    generalize x.toNat*((m+1)*(i+1))=Q at *
    exact hd (Nat.dvd_of_mod_eq_zero (by omega))
   ·have hne':x.toNat≠d.toNat:=fun e=>hne (UInt8.toNat_inj.1 e)
    have hd:=not_dvd (a:=x.toNat - d.toNat) (b:=m+1) (c:=i+1) (by omega) (by omega) (by omega) hm2 (by omega) hi2
    rw [Nat.sub_mul] at hd
    generalize d.toNat*((m+1)*(i+1))=P at *
    generalize x.toNat*((m+1)*(i+1))=Q at *
    exact hd (Nat.dvd_of_mod_eq_zero (by omega))
  ·rw [List.getElem?_append_right hi] at h1
   rw [List.set_append_right _ _ hi] at h3
   obtain ⟨e1,e2⟩:=List.append_inj h3 hll
   rw [e1] at e2
   obtain ⟨q,hq⟩:∃q,i - (rowsT b).length=q:=⟨_,rfl⟩
   rw [hq] at h1 e2
   match q,h1,e2 with
   | 0,h1,e2 =>
    have er:endT (chkL 0 (rowsT b) % 197)=r:=by simpa using h1
    rw [er] at e2
    simp only [List.set_cons_zero,List.cons.injEq,and_true] at e2
    have h4:(r.set m d)[m]?=some d:=List.getElem?_set_self hml
    rw [←e2,h2] at h4
    cases h4
    exact hne rfl
   | 1,h1,e2 =>
    have er:[]=r:=by simpa using h1
    rw [←er] at h2; cases h2
   | q+2,h1,e2=>simp at h1
end Go.Pi.L.Ben
set_option maxRecDepth 100000
namespace Go.Pi.L.Ben
open Go Go.Pi Go.Pi.L Go.Pi.E Go.Pi.Ben BM Go.Pi.Q

def encB (b:UInt8):List Value:=[.int .u8 ((b.toNat:Nat):Int)]
theorem encB_len:∀b,(encB b).length=1:=fun _=>rfl
theorem bytes_enc:∀l:List UInt8,bytesOf (cells encB l)=some l
 | []=>rfl
 | x :: l=>by
  have ih:=bytes_enc l
  have e:cells encB (x :: l)=.int .u8 ((x.toNat:Nat):Int) :: cells encB l:=rfl
  rw [e,bytesOf,ih]
  simp
theorem s2b_enc {l:List UInt8}(h:l.length < 1000):s2bA (.string ⟨l.toArray⟩)=some ⟨.cells (cells encB l),true,fun i=>.slice (some ⟨i,0,none⟩) l.length 1⟩:=by
 have hs:(⟨l.toArray⟩:ByteArray).size=l.length:=rfl
 unfold s2bA
 simp only
 rw [if_pos (by rw [hs]; exact Nat.lt_trans h (by decide)),hs]
 have e:∀l:List UInt8,(l.map fun b=>Value.int .u8 ((b.toNat:Nat):Int))=cells encB l:=by
  intro l
  induction l with
  | nil=>rfl
  | cons x l ih=>rw [List.map_cons,ih]; rfl
 rw [←e]
theorem c20 {H:Heap}{r:BeR}{b:Bench}{at_ dg:Int}(hb:BeOk H r b)(hF:Fam H):R (.func 20) [.agg #[.int .i64 r.app,.slice r.ba r.bl r.bk,.slice r.sa r.sl r.sk],.int .i64 at_,.int .i64 dg] H=some ⟨.ok (.bool true),H,H.length⟩:=by
 refine run_k (pr 20) P20 (by simp [p20]) rfl ?_
 have l1:=hb.br.isLoc r.bk
 have l2:=hb.st.isLoc r.sk
 have k21:=c21 hb H (Grow.refl _)
 cases q1:shortB r.xs r&&isBench b with
 | false=>rw [q1] at k21; simp (maxDischargeDepth:=8) only [↓SD,SU,SV,SW,simprocAttr,Int.cast_ofNat_Int,small,resV, B20,R20,N20,b20, l1,l2,k21,c25,R20,N20]
 | true =>
 rw [q1] at k21
 rw [Bool.and_eq_true] at q1
 obtain ⟨q1,hB⟩:=q1
 have hd:=short_sm hb q1
 have k67:=c67 hb hd H (Grow.refl _)
 rw [hB,if_pos rfl] at k67
 obtain ⟨hnb,hT⟩:=bench_nu hB
 by_cases hg0:dg < 0
 ·have z1:(dg < 0)=True:=eq_true hg0
  simp (maxDischargeDepth:=8) only [↓SD,SU,SV,SW,simprocAttr,Int.cast_ofNat_Int,small,resV, B20,R20,N20,b20, l1,l2,k21,z1,c25,R20,N20]
 have z1:(dg < 0)=False:=eq_false hg0
 by_cases hg9:9 < dg
 ·have z2:(9 < dg)=True:=eq_true hg9
  simp (maxDischargeDepth:=8) only [↓SD,SU,SV,SW,simprocAttr,Int.cast_ofNat_Int,small,resV, B20,R20,N20,b20, l1,l2,k21,z1,z2,c25,R20,N20]
 have z2:(9 < dg)=False:=eq_false hg9
 by_cases ha0:at_ < 0
 ·have z3:(at_ < 0)=True:=eq_true ha0
  simp (maxDischargeDepth:=8) only [↓SD,SU,SV,SW,simprocAttr,Int.cast_ofNat_Int,small,resV, B20,R20,N20,b20, l1,l2,k21,z1,z2,k67,z3,c25,R20,N20]
 obtain ⟨k,rfl⟩:∃k:Nat,at_=k:=⟨at_.toNat,by omega⟩
 have z3:(((k:Nat):Int) < 0)=False:=eq_false ha0
 obtain ⟨t,ht⟩:∃t,textT b=t:=⟨_,rfl⟩
 rw [ht] at k67 hT
 have sl0:=vv_slen' t
 by_cases hkl:t.length≤k
 ·have z4:(((t.length:Nat):Int)≤((k:Nat):Int))=True:=eq_true (by omega)
  have z4':(((k:Nat):Int)≥((t.length:Nat):Int))=True:=z4
  simp (maxDischargeDepth:=8) only [↓SD,SU,SV,SW,simprocAttr,Int.cast_ofNat_Int,small,resV, B20,R20,N20,b20, l1,l2,k21,z1,z2,k67,z3,sl0,z4,z4',c25,R20,N20]
 have z4:(((t.length:Nat):Int)≤((k:Nat):Int))=False:=eq_false (by omega)
 have z4':(((k:Nat):Int)≥((t.length:Nat):Int))=False:=z4
 obtain ⟨x,hx⟩:∃x,t[k]?=some x:=⟨_,List.getElem?_eq_getElem (by omega)⟩
 have ix:=vv_ix' t .i64 k x hx
 by_cases h48:x.toNat < 48
 ·have y4:(((x.toNat:Nat):Int) < 48)=True:=eq_true (by omega)
  simp (maxDischargeDepth:=8) only [↓SD,SU,SV,SW,simprocAttr,Int.cast_ofNat_Int,small,resV, B20,R20,N20,b20, l1,l2,k21,z1,z2,k67,z3,sl0,z4,z4',ix,y4,c25,R20,N20]
 have y4:(((x.toNat:Nat):Int) < 48)=False:=eq_false (by omega)
 by_cases h57:57 < x.toNat
 ·have y5:((57:Int) < ((x.toNat:Nat):Int))=True:=eq_true (by omega)
  simp (maxDischargeDepth:=8) only [↓SD,SU,SV,SW,simprocAttr,Int.cast_ofNat_Int,small,resV, B20,R20,N20,b20, l1,l2,k21,z1,z2,k67,z3,sl0,z4,z4',ix,y4,y5,c25,R20,N20]
 have y5:((57:Int) < ((x.toNat:Nat):Int))=False:=eq_false (by omega)
 have m2:=wrap8 (x:=x.toNat) (by omega) x.toNat_lt
 have m3:IntKind.wrap .i64 ((x.toNat - 48:Nat):Int)=((x.toNat - 48:Nat):Int):=wrapN (by omega)
 by_cases heq:((x.toNat - 48:Nat):Int)=dg
 ·have y6:(((x.toNat - 48:Nat):Int)=dg)=True:=eq_true heq
  simp (maxDischargeDepth:=8) only [↓SD,SU,SV,SW,simprocAttr,Int.cast_ofNat_Int,small,resV, B20,R20,N20,b20, l1,l2,k21,z1,z2,k67,z3,sl0,z4,z4',ix,y4,y5,m2,m3,y6,c25,R20,N20]
 have y6:(((x.toNat - 48:Nat):Int)=dg)=False:=eq_false heq
 obtain ⟨g,rfl⟩:∃g:Nat,dg=g:=⟨dg.toNat,by omega⟩
 have w1:IntKind.wrap .i64 (48+((g:Nat):Int))=((48+g:Nat):Int):=by rw [wrap_id _ (by omega) (by omega)]; omega
 have w2:IntKind.wrap .u8 ((48+g:Nat):Int)=((48+g:Nat):Int):=by unfold IntKind.wrap; simp [IntKind.bits,IntKind.signed]; omega
 obtain ⟨d,hd0⟩:∃d:UInt8,d.toNat=48+g:=⟨UInt8.ofNat (48+g),by simp; omega⟩
 have hne:x≠d:=fun e=>by rw [e] at heq; omega
 have s2:=s2b_enc (l:=t) (by omega)
 obtain ⟨Hb,hHb⟩:∃Hb,H++[(⟨.cells (cells encB t),true,true,some H.length⟩:Blk)]=Hb:=⟨_,rfl⟩
 have lb:Hb.length=H.length+1:=by rw [←hHb]; simp
 have hFb:Fam Hb:=by rw [←hHb]; exact Fam.app1 hF (Nat.le_refl _)
 have bd:Bld H.length Hb 1 (some ⟨H.length,0,none⟩) t.length 1 (cells encB t) :=
  ⟨by rw [cells_len encB_len],.inr ⟨H.length,H.length,rfl,rfl,Nat.le_refl _,Nat.le_refl _,by rw [←hHb,List.getElem?_append_right (Nat.le_refl _),Nat.sub_self]; rfl⟩⟩
 obtain ⟨H2,f,hf0,hf1,p1,p2,p3,p4,p5,_⟩:=bd.put hFb (i:=k) (by omega) (v:=.int .u8 ((48+g:Nat):Int)) rfl rfl rfl
 have iap:vv (.ia 1) [.slice (some ⟨H.length,0,none⟩) t.length 1,.int .i64 (k:Nat)]=some (.pointer (some ⟨H.length,0+k*1,none⟩)):=vv_iaN 1 _ 0 k _ _ _ (by omega)
 rw [Nat.zero_add] at iap
 have hset:splice (cells encB t) (k*1) (Value.int .u8 ((48+g:Nat):Int)).cells.toList=cells encB (t.set k d):=by
  have e1:(Value.int .u8 ((48+g:Nat):Int)).cells.toList=encB d:=by unfold encB; rw [hd0]; rfl
  rw [e1,splice_cells encB_len d (by omega)]
 rw [hset] at p2
 have sl2:=p2.sl encB_len (by decide)
 have qe:=fun T S D lo n rnd=>sl2.elems encB_len (by decide) 1 T S D lo n rnd
 have hby:Option.map (fun bs=>Value.string { data:=List.toArray bs }) ((some (cells encB (t.set k d))).bind bytesOf)=some (.string ⟨(t.set k d).toArray⟩):=by
  rw [Option.bind_some,bytes_enc]; rfl
 have hsl:(t.set k d).length≤180:=by rw [List.length_set]; exact hT
 have hno:parseP (t.set k d)=none:=by
  rw [←ht] at hx hT hsl ⊢
  exact spoilt hnb hx hT ⟨by omega,by omega⟩ ⟨by omega,by omega⟩ hne fun b' hb'=>parse_nu (by omega) hb' hF
 have k68:=c68t hsl hno H2 p3
 have k70:=c70n H2
 have bnil:vv (.bld [.int .i64 0,.slice none 0 0,.slice none 0 0] []) []=some (.agg #[.int .i64 0,.slice none 0 0,.slice none 0 0]):=by rw [vv_of (by rfl)]; rfl
 simp (maxDischargeDepth:=8) only [↓SD,SU,SV,SW,simprocAttr,Int.cast_ofNat_Int,small,resV, B20,R20,N20,b20, l1,l2,k21,z1,z2,k67,z3,sl0,z4,z4',ix,y4,y5,m2,m3,y6,w1,w2,g_s2b,s2,hHb,iap,p1,g_b2s,b2sV,qe,hby,k68,bnil,k70,c25,R20,N20]
 first | (rw [gc_ite (by omega)]; simp [flat]; done) | (simp [gcR,flat]; omega)
end Go.Pi.L.Ben
