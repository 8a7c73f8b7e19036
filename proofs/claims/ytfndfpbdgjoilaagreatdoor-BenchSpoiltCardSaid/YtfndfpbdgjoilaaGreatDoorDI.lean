/- Benches: texts: numbers, lists, lines, as the program writes them. -/
import Derived.Test.YtfndfpbdgjoilaaGreatDoorDH
import Derived.Test.YtfndfpbdgjoilaaGreatDoorLB
set_option linter.all false
set_option maxRecDepth 100000
namespace Go.Pi.L.Ben
open Go Go.Pi Go.Pi.L Go.Pi.E Go.Pi.Ben BM Go.Pi.Q

def dgI (z:Int):List UInt8:=dig z.toNat
theorem dig_len (n:Nat):(dig n).length≤2∧1≤(dig n).length:=by
 unfold dig
 rw [blt_dec]
 by_cases h:n < 10
 ·simp [h]
 ·simp [h]
theorem c126 {z:Int}(h0:0≤z)(h1:z≤99)(H:Heap):R (.func 126) [.int .i64 z] H=some ⟨.ok (.string ⟨(dgI z).toArray⟩),H,H.length⟩:=by
 obtain ⟨n,rfl⟩:∃n:Nat,z=n:=⟨z.toNat,by omega⟩
 refine runL_prim (g:=lp pItoa) (by rfl) ?_
 have hb:Nat.blt n 100=true:=by rw [blt_dec]; simp; omega
 show ((bif Nat.blt n 100 then some (Value.string ⟨(dig n).toArray⟩) else none).map fun v=>(⟨.ok v,H,H.length⟩:Out))=_
 rw [hb]
 rfl
def encS (l:List UInt8):List Value:=[.string ⟨l.toArray⟩]
theorem encS_len (l:List UInt8):(encS l).length=1:=rfl
theorem strs_enc:∀xs:List (List UInt8),strs (cells encS xs)=some (xs.map fun l=>(⟨l.toArray⟩:ByteArray))
 | []=>rfl
 | x :: xs=>by
  have h:=strs_enc xs
  unfold cells at h ⊢
  rw [List.map_cons,List.flatten_cons]
  show (strs (xs.map encS).flatten).map _=_
  rw [h]; rfl
theorem c127 {n0:Nat}{H:Heap}{a:Option Addr}{l m:Nat}{xs:List (List UInt8)}(h:Bld n0 H 1 a l m (cells encS xs))(h0:0 < l)(h1:l≤1000000)(sep:List UInt8)(hj:(Lib.join xs sep).length≤1000000) :
  R (.func 127) [.slice a l m,.string ⟨sep.toArray⟩] H=some ⟨.ok (.string ⟨(Lib.join xs sep).toArray⟩),H,H.length⟩:=by
 have hlen:xs.length=l:=by have:=h.len; rw [cells_len encS_len] at this; omega
 rcases h.ok with ⟨_,h2,_⟩ | ⟨b,f,rfl,rfl,h3,h4,h5⟩
 ·omega
 ·refine runL_prim (g:=lJoin) (by rfl) ?_
  have hc:hcells H b=some (cells encS xs):=by unfold hcells; rw [h5]
  have hcl:(cells encS xs).length=l:=by rw [cells_len encS_len]; omega
  unfold lJoin pJoin
  simp only [hc]
  rw [if_pos ⟨by omega,h0,h1⟩,List.drop_zero,List.take_of_length_le (by omega),strs_enc]
  have e:(xs.map fun l=>(⟨l.toArray⟩:ByteArray)).map (fun x=>x.data.toList)=xs:=by
   rw [List.map_map]
   exact (List.map_congr_left fun l _=>rfl).trans (List.map_id' xs)
  simp only [e]
  have hb:Nat.ble (Lib.join xs sep).length 1000000=true:=by rw [ble_dec]; simp; exact hj
  rw [hb]; rfl
def listT (ns:List Int):List UInt8:=if ns=[] then [45] else Lib.join (ns.map dgI) [44]
theorem join_len:∀(xs:List (List UInt8)) (sep:List UInt8) (k:Nat),(∀x∈xs,x.length≤k)→(Lib.join xs sep).length≤xs.length*(k+sep.length)
 | [],sep,k,_=>by simp [Lib.join_nil]
 | [x],sep,k,h=>by
  have:=h x (by simp)
  rw [Lib.join_one]; simp; omega
 | x :: y :: xs,sep,k,h=>by
  have h1:=h x (by simp)
  have h2:=join_len (y :: xs) sep k fun z hz=>h z (List.mem_cons_of_mem _ hz)
  have e:Lib.join (x :: y :: xs) sep=x++sep++Lib.join (y :: xs) sep:=by simp [Lib.join,List.intercalate,List.intersperse]
  rw [e]
  simp only [List.length_append,List.length_cons,Nat.add_mul] at h2 ⊢
  omega
def Nn (ns:List Int):Prop:=(∀z∈ns,0≤z∧z≤99)∧ns.length≤300
theorem listT_len {ns:List Int}(h:Nn ns):(listT ns).length≤1000:=by
 unfold listT
 split
 ·simp
 ·have:=join_len (ns.map dgI) [44] 2 (fun x hx=>by
   obtain ⟨z,_,rfl⟩:=List.mem_map.1 hx
   exact (dig_len _).1)
  have h2:=h.2
  rw [List.length_map] at this
  simp at this
  omega
theorem c147 {H:Heap}{a:Option Addr}{l kk:Nat}{ns:List Int}(hs:Ints H a l ns)(hn:Nn ns) :
  ∀H',Grow H H'→R (.func 147) [.slice a l kk] H'=some ⟨.ok (.string ⟨(listT ns).toArray⟩),H',H'.length⟩:=by
 intro H' hg
 refine run_k (pr 147) P147 (by simp [p147]) rfl ?_
 have l1:=hs.isLoc kk
 have hl:=hs.len
 have h300:=hn.2
 by_cases h0:l=0
 ·have e:ns=[]:=List.eq_nil_of_length_eq_zero (by omega)
  subst e
  have z:(((l:Nat):Int)=0)=True:=eq_true (by omega)
  simp (maxDischargeDepth:=8) only [↓SD,SU,SV,SW,simprocAttr,Int.cast_ofNat_Int,small,resV, B147,R147,N147,b147, l1,z,R147,N147]
  unfold listT; rw [if_pos rfl]
 ·have z:(((l:Nat):Int)=0)=False:=eq_false (by omega)
  simp (maxDischargeDepth:=8) only [↓SD,SU,SV,SW,simprocAttr,Int.cast_ofNat_Int,small,resV, B147,R147,N147,b147, l1,z]
  refine loop_ind (G:=(·=_)) (fun j σ=>∃T S H3 al m lim,σ=⟨T,S,[],H3,lim,23,false⟩∧get T 3=.slice al j m∧get T 9=.slice a l kk∧get T 10=.int .i64 l∧get T 11=.int .i64 (j:Nat)∧(Bld H'.length H3 1 al j m (cells encS ((ns.take j).map dgI))∧Up H' H3∧H'.length≤lim)) (l) ?_ ?_ 0 _ (Nat.zero_le _) ⟨_,_,_,_,_,_,rfl,rfl,rfl,rfl,rfl,⟨Bld.nil _ _ _,Up.refl _,Nat.le_refl _⟩⟩
  ·rintro c' j s hj ⟨T,S,H3,al,m,lim,rfl,t3,t9,t10,t11,hp⟩ ih
   obtain ⟨hbd,hu,hlim⟩:=hp
   have hw:=wrap_succ j (by omega)
   have l8:isLoc (.slice al j m)=false:=hbd.isLoc _ _
   have hul:=hu.len
   obtain ⟨b1,o1,v,hva,hv1,fv⟩:=hs.i1 hj
   have fv:=fv H3 (hg.trans hu.grow)
   have iav:vv (.ia 1) [.slice a l kk,.int .i64 (j:Nat)]=some (.pointer (some ⟨b1,o1+j*1,none⟩)):=by rw [hva]; exact vv_iaN 1 b1 o1 j _ _ _ hj
   obtain ⟨v0,v9⟩:=hn.1 v (List.mem_of_getElem? hv1)
   have k126:=c126 v0 v9 H3
   obtain ⟨H6,p1,p2,p3,p4⟩:=hbd.app (by decide) (by decide) (by omega) hul [.string ⟨(dgI v).toArray⟩] rfl
   have u6:=p3.up hbd hu (Nat.le_refl _)
   have hcl:cells encS ((ns.take (j+1)).map dgI)=cells encS ((ns.take j).map dgI)++[.string ⟨(dgI v).toArray⟩]:=by
    rw [take_get hv1,List.map_append,List.map_singleton,cells_app]; rfl
   simp (maxDischargeDepth:=8) only [↓SD,SU,SV,SW,simprocAttr,Int.cast_ofNat_Int,small,resV, q147x0,t3,t9,t10,t11, lt_nat,hj,l1,l8,iav,fv,k126,hw,p1]
   exact ih _ ⟨_,_,(H6),(some ⟨H3.length,0,none⟩),(1),(_),rfl,(by simp [get_set,t3] <;> omega),(by simp [get_set,t9] <;> omega),(by simp [get_set,t10] <;> omega),(by simp [get_set,t11] <;> omega),⟨by rw [hcl]; exact p2,u6,by omega⟩⟩
  ·rintro c' s ⟨T,S,H3,al,m,lim,rfl,t3,t9,t10,t11,hp⟩
   obtain ⟨hbd,hu,hlim⟩:=hp
   have l8:isLoc (.slice al l m)=false:=hbd.isLoc _ _
   rw [List.take_of_length_le (by omega)] at hbd
   have hne:ns≠[]:=fun e=>by subst e; simp at hl; omega
   have k127:=c127 hbd (by omega) (by omega) [44] (by
    have:=listT_len hn
    unfold listT at this
    rw [if_neg hne] at this
    omega)
   have e0:=hu.len
   simp (maxDischargeDepth:=8) only [↓SD,SU,SV,SW,simprocAttr,Int.cast_ofNat_Int,small,resV, q147x0,t3,t9,t10,t11, lt_nat,Nat.lt_irrefl,l1,l8,k127,R147,N147]
   rw [gc_ite (by omega)]
   unfold listT; rw [if_neg hne]
   simp [flat]
end Go.Pi.L.Ben
set_option maxRecDepth 100000
namespace Go.Pi.L.Ben
open Go Go.Pi Go.Pi.L Go.Pi.E Go.Pi.Ben BM Go.Pi.Q

def wBench:List UInt8:=[98,101,110,99,104]
def wBoard:List UInt8:=[98,111,97,114,100]
def wStraight:List UInt8:=[115,116,114,97,105,103,104,116]
def wRound:List UInt8:=[114,111,117,110,100]
def numsT (ns:List Int):List UInt8:=(ns.map fun z=>32 :: dgI z).flatten
theorem numsT_snoc (ns:List Int)(z:Int):numsT (ns++[z])=numsT ns++(32 :: dgI z):=by
 unfold numsT; simp
theorem numsT_len {ns:List Int}:(numsT ns).length≤3*ns.length:=by
 unfold numsT
 induction ns with
 | nil=>simp
 | cons z ns ih =>
  have:(dgI z).length≤2:=(dig_len z.toNat).1
  simp only [List.map_cons,List.flatten_cons,List.length_append,List.length_cons] at ih ⊢
  omega
def rowHead (a:Int):List UInt8:=wBench++numsT [a]
def rowDue (n:Int):List UInt8:=wBoard++numsT [n]
def rowSt (s:Stroke):List UInt8:=(if s.round=true then wRound else wStraight)++numsT [s.board,s.lo,s.hi]++(32 :: listT s.needs)
theorem c131 (H:Heap):R (.func 131) [] H=some ⟨.ok (.agg #[.string ⟨#[98,101,110,99,104]⟩,.string ⟨#[98,111,97,114,100]⟩,.string ⟨#[115,116,114,97,105,103,104,116]⟩,.string ⟨#[114,111,117,110,100]⟩]),H,H.length⟩:=by
 refine run_k (pr 131) P131 (by simp [p131]) rfl ?_
 simp (maxDischargeDepth:=8) only [↓SD,SU,SV,SW,simprocAttr,Int.cast_ofNat_Int,small,resV, B131,R131,N131,b131, R131,N131]
theorem vv_ixa0 (a b c d:Value)(h:([.agg #[a,b,c,d],.int .i64 0].all fun v=>!isLoc v)=true:=by rfl):vv (.ixa 1 4 none) [.agg #[a,b,c,d],.int .i64 0]=some a:=by rw [vv_of h]; rfl
theorem vv_ixa1 (a b c d:Value)(h:([.agg #[a,b,c,d],.int .i64 1].all fun v=>!isLoc v)=true:=by rfl):vv (.ixa 1 4 none) [.agg #[a,b,c,d],.int .i64 1]=some b:=by rw [vv_of h]; rfl
theorem vv_ixa2 (a b c d:Value)(h:([.agg #[a,b,c,d],.int .i64 2].all fun v=>!isLoc v)=true:=by rfl):vv (.ixa 1 4 none) [.agg #[a,b,c,d],.int .i64 2]=some c:=by rw [vv_of h]; rfl
theorem vv_ixa3 (a b c d:Value)(h:([.agg #[a,b,c,d],.int .i64 3].all fun v=>!isLoc v)=true:=by rfl):vv (.ixa 1 4 none) [.agg #[a,b,c,d],.int .i64 3]=some d:=by rw [vv_of h]; rfl
theorem c207 (z:Int)(H:Heap):R (.func 207) [.int .i64 z] H=some ⟨.ok (.slice (some ⟨H.length,0,none⟩) 1 1),H++[⟨.cells [.int .i64 z],true,true,some H.length⟩],H.length⟩:=by
 refine run_k (pr 207) P207 (by simp [p207]) rfl ?_
 simp (maxDischargeDepth:=8) only [↓SD,SU,SV,SW,simprocAttr,Int.cast_ofNat_Int,small,resV, B207,R207,N207,b207, R207,N207]
 rw [gc_keep (by simp [flat])]
theorem c208 (z:Int)(H:Heap):R (.func 208) [.int .i64 z] H=some ⟨.ok (.slice (some ⟨H.length,0,none⟩) 1 1),H++[⟨.cells [.int .i64 z],true,true,some H.length⟩],H.length⟩:=by
 refine run_k (pr 208) P208 (by simp [p208]) rfl ?_
 simp (maxDischargeDepth:=8) only [↓SD,SU,SV,SW,simprocAttr,Int.cast_ofNat_Int,small,resV, B208,R208,N208,b208, R208,N208]
 rw [gc_keep (by simp [flat])]
theorem c206 (k:Sk)(hl:isLoc (.slice k.a k.l k.m)=false)(H:Heap):R (.func 206) [.agg #[.int .i64 k.s.board,.bool k.s.round,.int .i64 k.s.lo,.int .i64 k.s.hi,.slice k.a k.l k.m]] H =
  some ⟨.ok (.slice (some ⟨H.length,0,none⟩) 3 1),H++[⟨.cells [.int .i64 k.s.board,.int .i64 k.s.lo,.int .i64 k.s.hi],true,true,some H.length⟩],H.length⟩:=by
 refine run_k (pr 206) P206 (by simp [p206]) rfl ?_
 simp (maxDischargeDepth:=8) only [↓SD,SU,SV,SW,simprocAttr,Int.cast_ofNat_Int,small,resV, B206,R206,N206,b206, hl,R206,N206]
 rw [gc_keep (by simp [flat])]
theorem new_ints {H:Heap}(ns:List Int):Ints (H++[⟨.cells (cells encI ns),true,true,some H.length⟩]) (some ⟨H.length,0,none⟩) ns.length ns :=
 Sl.of_cells encI_len (by simp [hcells])
theorem numsT_take {ns:List Int}{j:Nat}{z:Int}(h:ns[j]?=some z):numsT (ns.take (j+1))=numsT (ns.take j)++(32 :: dgI z):=by
 rw [take_get h,numsT_snoc]
theorem c125h {z:Int}(h0:0≤z)(h9:z≤99)(H:Heap):R (.func 125) [.iface 148 (.int .i64 z)] H=some ⟨.ok (.string ⟨(rowHead z).toArray⟩),H,H.length⟩:=by
 refine run_k (pr 125) P125 (by simp [p125]) rfl ?_
 have kw:=c131 H
 have kn:=c207 z H
 obtain ⟨H1,hH1⟩:∃H1,H++[(⟨.cells [.int .i64 z],true,true,some H.length⟩:Blk)]=H1:=⟨_,rfl⟩
 have hs:Ints H1 (some ⟨H.length,0,none⟩) 1 [z]:=by rw [←hH1]; exact new_ints [z]
 have l1:H1.length=H.length+1:=by rw [←hH1]; simp
 rw [hH1] at kn
 have e0:wBench++numsT (([z]:List Int).take 0)=wBench:=by simp [numsT]
 have iv:invF [(134,206),(148,207),(149,208)] (.iface 148 (.int .i64 z)) []=some (.func 207,[.int .i64 z]):=by rfl
 have t1:∀zz,vv (.tas 149 zz) [.iface 148 (.int .i64 z)]=some (.tuple #[zz,.bool false]):=fun zz=>by rw [vv_of (by rfl)]; rfl
 have t2:∀zz,vv (.tas 134 zz) [.iface 148 (.int .i64 z)]=some (.tuple #[zz,.bool false]):=fun zz=>by rw [vv_of (by rfl)]; rfl
 simp (maxDischargeDepth:=8) only [↓SD,SU,SV,SW,simprocAttr,Int.cast_ofNat_Int,small,resV, B125,R125,N125,b125, g_inv,iv,t1,t2,kw,kn,vv_ixa0]
 refine loop_ind (G:=(·=_)) (fun j σ=>∃T S out lim,σ=⟨T,S,[],H1,lim,44,false⟩∧get T 4=.string ⟨#[]⟩∧get T 7=.string ⟨out.toArray⟩∧get T 29=.slice (some ⟨H.length,0,none⟩) 1 1∧get T 30=.int .i64 1∧get T 31=.int .i64 (j:Nat)∧(out=wBench++numsT (([z]:List Int).take j)∧H.length≤lim)) (1) ?_ ?_ 0 _ (Nat.zero_le _) ⟨_,_,_,_,rfl,rfl,rfl,rfl,rfl,rfl,⟨e0.symm,by omega⟩⟩
 ·rintro c' j s hj ⟨T,S,out,lim,rfl,t4,t7,t29,t30,t31,hp⟩ ih
  obtain ⟨ho,hlim⟩:=hp
  have hw:=wrap_succ j (by omega)
  obtain ⟨b1,o1,v,hva,hv1,fv⟩:=hs.i1 hj
  cases hva
  have fv:=fv H1 (Grow.refl _)
  have hvz:v=z:=by
   have:j=0:=by omega
   subst this; simp at hv1; exact hv1.symm
  subst hvz
  have k126:=c126 h0 h9 H1
  have hd2:(dgI v).length≤2:=(dig_len v.toNat).1
  have hol:out.length≤20:=by
   rw [ho]
   have:=numsT_len (ns:=([v]:List Int).take j)
   simp only [List.length_append,List.length_take,List.length_singleton] at this ⊢
   have:wBench.length≤8:=by decide
   omega
  have iav:vv (.ia 1) [.slice (some ⟨H.length,0,none⟩) 1 1,.int .i64 (j:Nat)]=some (.pointer (some ⟨H.length,0+j*1,none⟩)):=vv_iaN 1 H.length 0 j _ _ _ hj
  rw [Nat.zero_add] at iav fv
  have s1:=vv_sadd [32] (dgI v) (by simp; omega)
  have s2:=vv_sadd out ([32]++dgI v) (by simp; omega)
  have z1:(((j:Nat):Int) < 1)=True:=eq_true (by omega)
  simp (maxDischargeDepth:=8) only [↓SD,SU,SV,SW,simprocAttr,Int.cast_ofNat_Int,small,resV, q125x0,t4,t7,t29,t30,t31, z1,iav,fv,k126,hw,s1,s2]
  exact ih _ ⟨_,_,(out++([32]++dgI v)),(_),rfl,(by simp [get_set,t4] <;> omega),(by simp [get_set,t7] <;> omega),(by simp [get_set,t29] <;> omega),(by simp [get_set,t30] <;> omega),(by simp [get_set,t31] <;> omega),⟨by rw [numsT_take hv1,ho,List.append_assoc]; rfl,by omega⟩⟩
 ·rintro c' s ⟨T,S,out,lim,rfl,t4,t7,t29,t30,t31,hp⟩
  obtain ⟨ho,hlim⟩:=hp
  have hol:out.length≤20:=by
   rw [ho]
   have:=numsT_len (ns:=([z]:List Int).take 1)
   simp only [List.length_append,List.length_take,List.length_singleton] at this ⊢
   have:wBench.length≤8:=by decide
   omega
  have s3:=vv_sadd out [] (by simp; omega)
  rw [List.append_nil] at s3
  simp (maxDischargeDepth:=8) only [↓SD,SU,SV,SW,simprocAttr,Int.cast_ofNat_Int,small,resV, q125x0,t4,t7,t29,t30,t31, lt_nat,Nat.lt_irrefl,s3,R125,N125]
  rw [ho,gc_ite (by omega)]
  simp [flat,rowHead]
theorem c125d {z:Int}(h0:0≤z)(h9:z≤99)(H:Heap):R (.func 125) [.iface 149 (.int .i64 z)] H=some ⟨.ok (.string ⟨(rowDue z).toArray⟩),H,H.length⟩:=by
 refine run_k (pr 125) P125 (by simp [p125]) rfl ?_
 have kw:=c131 H
 have kn:=c208 z H
 obtain ⟨H1,hH1⟩:∃H1,H++[(⟨.cells [.int .i64 z],true,true,some H.length⟩:Blk)]=H1:=⟨_,rfl⟩
 have hs:Ints H1 (some ⟨H.length,0,none⟩) 1 [z]:=by rw [←hH1]; exact new_ints [z]
 have l1:H1.length=H.length+1:=by rw [←hH1]; simp
 rw [hH1] at kn
 have e0:wBoard++numsT (([z]:List Int).take 0)=wBoard:=by simp [numsT]
 have iv:invF [(134,206),(148,207),(149,208)] (.iface 149 (.int .i64 z)) []=some (.func 208,[.int .i64 z]):=by rfl
 have t1:∀zz,vv (.tas 149 zz) [.iface 148 (.int .i64 z)]=some (.tuple #[zz,.bool false]):=fun zz=>by rw [vv_of (by rfl)]; rfl
 have t2:∀zz,vv (.tas 134 zz) [.iface 148 (.int .i64 z)]=some (.tuple #[zz,.bool false]):=fun zz=>by rw [vv_of (by rfl)]; rfl
 simp (maxDischargeDepth:=8) only [↓SD,SU,SV,SW,simprocAttr,Int.cast_ofNat_Int,small,resV, B125,R125,N125,b125, g_inv,iv,t1,t2,kw,kn,vv_ixa1]
 refine loop_ind (G:=(·=_)) (fun j σ=>∃T S out lim,σ=⟨T,S,[],H1,lim,44,false⟩∧get T 4=.string ⟨#[]⟩∧get T 7=.string ⟨out.toArray⟩∧get T 29=.slice (some ⟨H.length,0,none⟩) 1 1∧get T 30=.int .i64 1∧get T 31=.int .i64 (j:Nat)∧(out=wBoard++numsT (([z]:List Int).take j)∧H.length≤lim)) (1) ?_ ?_ 0 _ (Nat.zero_le _) ⟨_,_,_,_,rfl,rfl,rfl,rfl,rfl,rfl,⟨e0.symm,by omega⟩⟩
 ·rintro c' j s hj ⟨T,S,out,lim,rfl,t4,t7,t29,t30,t31,hp⟩ ih
  obtain ⟨ho,hlim⟩:=hp
  have hw:=wrap_succ j (by omega)
  obtain ⟨b1,o1,v,hva,hv1,fv⟩:=hs.i1 hj
  cases hva
  have fv:=fv H1 (Grow.refl _)
  have hvz:v=z:=by
   have:j=0:=by omega
   subst this; simp at hv1; exact hv1.symm
  subst hvz
  have k126:=c126 h0 h9 H1
  have hd2:(dgI v).length≤2:=(dig_len v.toNat).1
  have hol:out.length≤20:=by
   rw [ho]
   have:=numsT_len (ns:=([v]:List Int).take j)
   simp only [List.length_append,List.length_take,List.length_singleton] at this ⊢
   have:wBoard.length≤8:=by decide
   omega
  have iav:vv (.ia 1) [.slice (some ⟨H.length,0,none⟩) 1 1,.int .i64 (j:Nat)]=some (.pointer (some ⟨H.length,0+j*1,none⟩)):=vv_iaN 1 H.length 0 j _ _ _ hj
  rw [Nat.zero_add] at iav fv
  have s1:=vv_sadd [32] (dgI v) (by simp; omega)
  have s2:=vv_sadd out ([32]++dgI v) (by simp; omega)
  have z1:(((j:Nat):Int) < 1)=True:=eq_true (by omega)
  simp (maxDischargeDepth:=8) only [↓SD,SU,SV,SW,simprocAttr,Int.cast_ofNat_Int,small,resV, q125x0,t4,t7,t29,t30,t31, z1,iav,fv,k126,hw,s1,s2]
  exact ih _ ⟨_,_,(out++([32]++dgI v)),(_),rfl,(by simp [get_set,t4] <;> omega),(by simp [get_set,t7] <;> omega),(by simp [get_set,t29] <;> omega),(by simp [get_set,t30] <;> omega),(by simp [get_set,t31] <;> omega),⟨by rw [numsT_take hv1,ho,List.append_assoc]; rfl,by omega⟩⟩
 ·rintro c' s ⟨T,S,out,lim,rfl,t4,t7,t29,t30,t31,hp⟩
  obtain ⟨ho,hlim⟩:=hp
  have hol:out.length≤20:=by
   rw [ho]
   have:=numsT_len (ns:=([z]:List Int).take 1)
   simp only [List.length_append,List.length_take,List.length_singleton] at this ⊢
   have:wBoard.length≤8:=by decide
   omega
  have s3:=vv_sadd out [] (by simp; omega)
  rw [List.append_nil] at s3
  simp (maxDischargeDepth:=8) only [↓SD,SU,SV,SW,simprocAttr,Int.cast_ofNat_Int,small,resV, q125x0,t4,t7,t29,t30,t31, lt_nat,Nat.lt_irrefl,s3,R125,N125]
  rw [ho,gc_ite (by omega)]
  simp [flat,rowDue]
end Go.Pi.L.Ben
set_option maxRecDepth 100000
namespace Go.Pi.L.Ben
open Go Go.Pi Go.Pi.L Go.Pi.E Go.Pi.Ben BM Go.Pi.Q

structure NuS (s:Stroke):Prop where
 b0:0≤s.board
 b9:s.board≤99
 l0:0≤s.lo
 l9:s.lo≤99
 h0:0≤s.hi
 h9:s.hi≤99
 nd:Nn s.needs
theorem rowSt_len {s:Stroke}(h:NuS s):(rowSt s).length≤1020:=by
 have h1:=listT_len h.nd
 have h2:=numsT_len (ns:=[s.board,s.lo,s.hi])
 unfold rowSt
 simp only [List.length_append,List.length_cons,List.length_nil] at h2 ⊢
 have h3:(if s.round=true then wRound else wStraight).length≤8:=by split <;> decide
 omega
set_option maxHeartbeats 1000000 in
theorem c125s {H:Heap}{k:Sk}(hn:Ints H k.a k.l k.s.needs)(hk:NuS k.s):∀H',Grow H H'→R (.func 125) [.iface 134 (.agg #[.int .i64 k.s.board,.bool k.s.round,.int .i64 k.s.lo,.int .i64 k.s.hi,.slice k.a k.l k.m])] H'=some ⟨.ok (.string ⟨(rowSt k.s).toArray⟩),H',H'.length⟩:=by
 intro H' hg
 refine run_k (pr 125) P125 (by simp [p125]) rfl ?_
 have hl:=hn.isLoc k.m
 have kw:=c131 H'
 have kl:=c147 (kk:=k.m) hn hk.nd H' hg
 have kn:=c206 k hl H'
 obtain ⟨H1,hH1⟩:∃H1,H'++[(⟨.cells [.int .i64 k.s.board,.int .i64 k.s.lo,.int .i64 k.s.hi],true,true,some H'.length⟩:Blk)]=H1:=⟨_,rfl⟩
 have hs:Ints H1 (some ⟨H'.length,0,none⟩) 3 [k.s.board,k.s.lo,k.s.hi]:=by rw [←hH1]; exact new_ints [k.s.board,k.s.lo,k.s.hi]
 have e1:H1.length=H'.length+1:=by rw [←hH1]; simp
 rw [hH1] at kn
 have hll:=listT_len hk.nd
 have iv:invF [(134,206),(148,207),(149,208)] (.iface 134 (.agg #[.int .i64 k.s.board,.bool k.s.round,.int .i64 k.s.lo,.int .i64 k.s.hi,.slice k.a k.l k.m])) []=some (.func 206,[.agg #[.int .i64 k.s.board,.bool k.s.round,.int .i64 k.s.lo,.int .i64 k.s.hi,.slice k.a k.l k.m]]):=by rfl
 have hal:isLoc (.iface 134 (.agg #[.int .i64 k.s.board,.bool k.s.round,.int .i64 k.s.lo,.int .i64 k.s.hi,.slice k.a k.l k.m]))=false:=by rfl
 have t1:∀zz,isLoc zz=false→vv (.tas 149 zz) [.iface 134 (.agg #[.int .i64 k.s.board,.bool k.s.round,.int .i64 k.s.lo,.int .i64 k.s.hi,.slice k.a k.l k.m])]=some (.tuple #[zz,.bool false]):=fun zz _=>by rw [vv_of (by simp [hal])]; rfl
 have t2:∀zz,vv (.tas 134 zz) [.iface 134 (.agg #[.int .i64 k.s.board,.bool k.s.round,.int .i64 k.s.lo,.int .i64 k.s.hi,.slice k.a k.l k.m])]=some (.tuple #[.agg #[.int .i64 k.s.board,.bool k.s.round,.int .i64 k.s.lo,.int .i64 k.s.hi,.slice k.a k.l k.m],.bool true]):=fun zz=>by rw [vv_of (by simp [hal])]; rfl
 have s0:=vv_sadd [32] (listT k.s.needs) (by simp; omega)
 obtain ⟨W,hW⟩:∃W,(if k.s.round=true then wRound else wStraight)=W:=⟨_,rfl⟩
 have hWl:W.length≤8:=by rw [←hW]; split <;> decide
 have e0:W++numsT (([k.s.board,k.s.lo,k.s.hi]:List Int).take 0)=W:=by simp [numsT]
 have hbn:∀z∈([k.s.board,k.s.lo,k.s.hi]:List Int),0≤z∧z≤99:=fun z hz=>by
  rcases List.mem_cons.1 hz with h | hz
  ·rw [h]; exact ⟨hk.b0,hk.b9⟩
  rcases List.mem_cons.1 hz with h | hz
  ·rw [h]; exact ⟨hk.l0,hk.l9⟩
  rcases List.mem_cons.1 hz with h | hz
  ·rw [h]; exact ⟨hk.h0,hk.h9⟩
  cases hz
 cases e:k.s.round with
 | false =>
  rw [e] at t1 t2 iv kn
  simp (maxDischargeDepth:=8) only [↓SD,SU,SV,SW,simprocAttr,Int.cast_ofNat_Int,small,resV, B125,R125,N125,b125, g_inv,iv,t1,t2,kw,kl,hl,s0,kn,vv_ixa2]
  refine loop_ind (G:=(·=_)) (fun j σ=>∃T S out lim,σ=⟨T,S,[],H1,lim,44,false⟩∧get T 4=.string ⟨([32]++listT k.s.needs).toArray⟩∧get T 7=.string ⟨out.toArray⟩∧get T 29=.slice (some ⟨H'.length,0,none⟩) 3 1∧get T 30=.int .i64 3∧get T 31=.int .i64 (j:Nat)∧(out=W++numsT (([k.s.board,k.s.lo,k.s.hi]:List Int).take j)∧H'.length≤lim)) (3) ?_ ?_ 0 _ (Nat.zero_le _) ⟨_,_,_,_,rfl,rfl,rfl,rfl,rfl,rfl,⟨by rw [e0,←hW,e]; rfl,by omega⟩⟩
  ·rintro c' j s hj ⟨T,S,out,lim,rfl,t4,t7,t29,t30,t31,hp⟩ ih
   obtain ⟨ho,hlim⟩:=hp
   have hw:=wrap_succ j (by omega)
   obtain ⟨b1,o1,v,hva,hv1,fv⟩:=hs.i1 hj
   cases hva
   have fv:=fv H1 (Grow.refl _)
   obtain ⟨v0,v9⟩:=hbn v (List.mem_of_getElem? hv1)
   have k126:=c126 v0 v9 H1
   have hd2:(dgI v).length≤2:=(dig_len v.toNat).1
   have hol:out.length≤20:=by
    rw [ho]
    have:=numsT_len (ns:=([k.s.board,k.s.lo,k.s.hi]:List Int).take j)
    simp only [List.length_append,List.length_take,List.length_cons,List.length_nil] at this ⊢
    omega
   have iav:vv (.ia 1) [.slice (some ⟨H'.length,0,none⟩) 3 1,.int .i64 (j:Nat)]=some (.pointer (some ⟨H'.length,0+j*1,none⟩)):=vv_iaN 1 H'.length 0 j _ _ _ hj
   rw [Nat.zero_add] at iav fv
   have s1:=vv_sadd [32] (dgI v) (by simp; omega)
   have s2:=vv_sadd out ([32]++dgI v) (by simp; omega)
   have z1:(((j:Nat):Int) < 3)=True:=eq_true (by omega)
   simp (maxDischargeDepth:=8) only [↓SD,SU,SV,SW,simprocAttr,Int.cast_ofNat_Int,small,resV, q125x0,t4,t7,t29,t30,t31, z1,iav,fv,k126,hw,s1,s2]
   exact ih _ ⟨_,_,(out++([32]++dgI v)),(_),rfl,(by simp [get_set,t4] <;> omega),(by simp [get_set,t7] <;> omega),(by simp [get_set,t29] <;> omega),(by simp [get_set,t30] <;> omega),(by simp [get_set,t31] <;> omega),⟨by rw [numsT_take hv1,ho,List.append_assoc]; rfl,by omega⟩⟩
  ·rintro c' s ⟨T,S,out,lim,rfl,t4,t7,t29,t30,t31,hp⟩
   obtain ⟨ho,hlim⟩:=hp
   have hol:out.length≤20:=by
    rw [ho]
    have:=numsT_len (ns:=([k.s.board,k.s.lo,k.s.hi]:List Int).take 3)
    simp only [List.length_append,List.length_take,List.length_cons,List.length_nil] at this ⊢
    omega
   have s3:=vv_sadd out ([32]++listT k.s.needs) (by simp; omega)
   simp (maxDischargeDepth:=8) only [↓SD,SU,SV,SW,simprocAttr,Int.cast_ofNat_Int,small,resV, q125x0,t4,t7,t29,t30,t31, lt_nat,Nat.lt_irrefl,s3,R125,N125]
   rw [ho,gc_ite (by omega)]
   simp [flat,rowSt,hW]
 | true =>
  rw [e] at t1 t2 iv kn
  simp (maxDischargeDepth:=8) only [↓SD,SU,SV,SW,simprocAttr,Int.cast_ofNat_Int,small,resV, B125,R125,N125,b125, g_inv,iv,t1,t2,kw,kl,hl,s0,kn,vv_ixa3]
  refine loop_ind (G:=(·=_)) (fun j σ=>∃T S out lim,σ=⟨T,S,[],H1,lim,44,false⟩∧get T 4=.string ⟨([32]++listT k.s.needs).toArray⟩∧get T 7=.string ⟨out.toArray⟩∧get T 29=.slice (some ⟨H'.length,0,none⟩) 3 1∧get T 30=.int .i64 3∧get T 31=.int .i64 (j:Nat)∧(out=W++numsT (([k.s.board,k.s.lo,k.s.hi]:List Int).take j)∧H'.length≤lim)) (3) ?_ ?_ 0 _ (Nat.zero_le _) ⟨_,_,_,_,rfl,rfl,rfl,rfl,rfl,rfl,⟨by rw [e0,←hW,e]; rfl,by omega⟩⟩
  ·rintro c' j s hj ⟨T,S,out,lim,rfl,t4,t7,t29,t30,t31,hp⟩ ih
   obtain ⟨ho,hlim⟩:=hp
   have hw:=wrap_succ j (by omega)
   obtain ⟨b1,o1,v,hva,hv1,fv⟩:=hs.i1 hj
   cases hva
   have fv:=fv H1 (Grow.refl _)
   obtain ⟨v0,v9⟩:=hbn v (List.mem_of_getElem? hv1)
   have k126:=c126 v0 v9 H1
   have hd2:(dgI v).length≤2:=(dig_len v.toNat).1
   have hol:out.length≤20:=by
    rw [ho]
    have:=numsT_len (ns:=([k.s.board,k.s.lo,k.s.hi]:List Int).take j)
    simp only [List.length_append,List.length_take,List.length_cons,List.length_nil] at this ⊢
    omega
   have iav:vv (.ia 1) [.slice (some ⟨H'.length,0,none⟩) 3 1,.int .i64 (j:Nat)]=some (.pointer (some ⟨H'.length,0+j*1,none⟩)):=vv_iaN 1 H'.length 0 j _ _ _ hj
   rw [Nat.zero_add] at iav fv
   have s1:=vv_sadd [32] (dgI v) (by simp; omega)
   have s2:=vv_sadd out ([32]++dgI v) (by simp; omega)
   have z1:(((j:Nat):Int) < 3)=True:=eq_true (by omega)
   simp (maxDischargeDepth:=8) only [↓SD,SU,SV,SW,simprocAttr,Int.cast_ofNat_Int,small,resV, q125x0,t4,t7,t29,t30,t31, z1,iav,fv,k126,hw,s1,s2]
   exact ih _ ⟨_,_,(out++([32]++dgI v)),(_),rfl,(by simp [get_set,t4] <;> omega),(by simp [get_set,t7] <;> omega),(by simp [get_set,t29] <;> omega),(by simp [get_set,t30] <;> omega),(by simp [get_set,t31] <;> omega),⟨by rw [numsT_take hv1,ho,List.append_assoc]; rfl,by omega⟩⟩
  ·rintro c' s ⟨T,S,out,lim,rfl,t4,t7,t29,t30,t31,hp⟩
   obtain ⟨ho,hlim⟩:=hp
   have hol:out.length≤20:=by
    rw [ho]
    have:=numsT_len (ns:=([k.s.board,k.s.lo,k.s.hi]:List Int).take 3)
    simp only [List.length_append,List.length_take,List.length_cons,List.length_nil] at this ⊢
    omega
   have s3:=vv_sadd out ([32]++listT k.s.needs) (by simp; omega)
   simp (maxDischargeDepth:=8) only [↓SD,SU,SV,SW,simprocAttr,Int.cast_ofNat_Int,small,resV, q125x0,t4,t7,t29,t30,t31, lt_nat,Nat.lt_irrefl,s3,R125,N125]
   rw [ho,gc_ite (by omega)]
   simp [flat,rowSt,hW]
end Go.Pi.L.Ben
