/- Boards of at most four names, each spot of two: which there are, as plain lists; as they are laid. -/
import Derived.Test.YtjgmlngcknehhaaGreatPiQ
import Derived.Test.YtjgmlngcknehhaaGreatTPs
import Derived.Test.YtjgmlngcknehhaaGreatLB
import Derived.Test.YtjgmlngcknehhaaGreatEE
set_option linter.all false
set_option maxRecDepth 100000
namespace UP
open Go Go.Pi Go.Pi.Q
def subs:Nat→List (List Nat)
 | 0=>[[]]
 | n+1=>subs n++(subs n).map fun l=>l++[n]
def needs:Nat→List (List (List Nat))
 | 0=>[[]]
 | n+1=>(needs n).flatMap fun c=>(subs n).map fun l=>c++[l]
def edgesF:Nat→List (List Nat)→List (Nat×Nat)
 | _,[]=>[]
 | i,l :: c=>l.map (fun a=>(a,i))++edgesF (i+1) c
def edges (c:List (List Nat)):List (Nat×Nat):=edgesF 0 c
def depth (c:List (List Nat)):List Nat:=c.foldl (fun ds l=>ds++[(l.map fun a=>ds.getD a 0).foldl max 0+1]) []
def owners (c:List (List Nat)):Nat:=(depth c).foldl max 0
def blkE (e:Nat×Nat):Blk:=⟨.cells [.int .i64 (.ofNat e.1),.int .i64 (.ofNat e.2)],true,false,none⟩
def outE (m:Nat):Blk:=⟨.cells ((List.range m).map fun k=>.slice (some ⟨k,0,none⟩) 2 0),true,false,none⟩
def heapE (es:List (Nat×Nat)):Heap:=match es with | []=>[] | _=>es.map blkE++[outE es.length]
def bgE (es:List (Nat×Nat)):List (Nat×Blk):=(heapE es).zipIdx.map fun p=>(p.2,p.1)
def valE (n:Nat)(es:List (Nat×Nat)):Value:=.agg #[.int .i64 (.ofNat n),match es with | []=>.slice none 0 0 | _=>.slice (some ⟨es.length,0,none⟩) es.length 0]
def baseE (es:List (Nat×Nat)):Base:=⟨(heapE es).length,bgE es⟩
end UP
set_option maxRecDepth 100000
namespace UP
open Go Go.Pi Go.Pi.Q
theorem edgesF_ge:∀(c:List (List Nat)) (i:Nat),∀e∈edgesF i c,i≤e.2
 | [],_,e,h=>by cases h
 | l :: c,i,e,h=>by
  rw [edgesF] at h
  rcases List.mem_append.1 h with h | h
  ·obtain ⟨a,_,rfl⟩:=List.mem_map.1 h; exact Nat.le_refl _
  ·have:=edgesF_ge c (i+1) e h; omega
theorem filter_edges (l:List Nat)(c:List (List Nat))(i:Nat):(edgesF i (l :: c)).filter (fun e=>e.2 == i)=l.map fun a=>(a,i):=by
 rw [edgesF,List.filter_append]
 have h1:(l.map fun a=>(a,i)).filter (fun e=>e.2 == i)=l.map fun a=>(a,i):=List.filter_eq_self.2 fun e he=>by
  obtain ⟨a,_,rfl⟩:=List.mem_map.1 he
  simp
 have h2:(edgesF (i+1) c).filter (fun e=>e.2 == i)=[]:=List.filter_eq_nil_iff.2 fun e he=>by
  have:=edgesF_ge c (i+1) e he
  simp; omega
 rw [h1,h2,List.append_nil]
theorem edgesF_inj:∀(c c':List (List Nat)) (i:Nat),c.length=c'.length→edgesF i c=edgesF i c'→c=c'
 | [],[],_,_,_=>rfl
 | [],_ :: _,_,h,_=>by simp at h
 | _ :: _,[],_,h,_=>by simp at h
 | l :: c,l' :: c',i,h,he=>by
  have h1:=filter_edges l c i
  rw [he,filter_edges] at h1
  have hl:l'=l:=by
   have:=congrArg (List.map Prod.fst) h1
   simpa [List.map_map,Function.comp_def] using this
  subst hl
  rw [edgesF,edgesF] at he
  have:=List.append_cancel_left he
  rw [edgesF_inj c c' (i+1) (by simpa using h) this]
def allC:List (List (List Nat)):=needs 1++needs 2++needs 3++needs 4
end UP
namespace Go.Pi.L.Ch
open Go Go.Pi Go.Pi.L Go.Pi.E Go.Pi.Top UP
def encI (x:Int):List Value:=[.int .i64 x]
theorem encI_len (x:Int):(encI x).length=1:=rfl
abbrev Ints (H:Heap)(a:Option Addr)(l:Nat)(xs:List Int):Prop:=Sl H 1 encI a l xs
structure SpR where
 a:Option Addr
 m:Nat
 x:Nat
 y:Nat
def eQ (q:SpR):List Value:=[.slice q.a 2 q.m]
theorem eQ_len (q:SpR):(eQ q).length=1:=rfl
structure BoardAt (H:Heap)(v:Value)(c:List (List Nat))(a:Option Addr)(m:Nat)(qs:List SpR):Prop where
 eq:v=.agg #[.int .i64 (c.length:Nat),.slice a qs.length m]
 nil:qs=[]→a=none∧m=0
 sl:Sl H 1 eQ a qs.length qs
 sp:∀q∈qs,Ints H q.a 2 [(q.x:Int),(q.y:Int)]
 ed:edges c=qs.map fun q=>(q.x,q.y)
def Board (H:Heap)(v:Value)(c:List (List Nat)):Prop:=∃a m qs,BoardAt H v c a m qs
theorem BoardAt.grow {H H':Heap}{v:Value}{c:List (List Nat)}{a:Option Addr}{m:Nat}{qs:List SpR}(h:BoardAt H v c a m qs)(g:Grow H H'):BoardAt H' v c a m qs:=⟨h.eq,h.nil,h.sl.grow g,fun q hq=>(h.sp q hq).grow g,h.ed⟩
theorem sl_uniq {β:Type}{H:Heap}{k:Nat}{enc:β→List Value}{a:Option Addr}{l:Nat}{xs ys:List β}(hx:Sl H k enc a l xs)(hy:Sl H k enc a l ys)(j:Nat)(x y:β)(h1:xs[j]?=some x)(h2:ys[j]?=some y):enc x=enc y:=by
 obtain ⟨b,o,c,e1,e2,e3⟩:=hx.rd j x h1
 obtain ⟨b',o',c',e1',e2',e3'⟩:=hy.rd j y h2
 rw [e1] at e1'
 cases e1'
 rw [e2] at e2'
 cases e2'
 rw [←e3,←e3']
theorem board_uniq {H:Heap}{v:Value}{c c':List (List Nat)}(h:Board H v c)(h':Board H v c'):c=c':=by
 obtain ⟨a,m,qs,hb⟩:=h
 obtain ⟨a',m',qs',hb'⟩:=h'
 have he:=hb.eq.symm.trans hb'.eq
 simp only [Value.agg.injEq,Array.mk.injEq,List.cons.injEq,Value.int.injEq,Value.slice.injEq,and_true,true_and] at he
 obtain ⟨h1,rfl,h2,rfl⟩:=he
 have hl:c.length=c'.length:=by omega
 refine edgesF_inj c c' 0 hl ?_
 show edges c=edges c'
 rw [hb.ed,hb'.ed]
 apply List.ext_getElem?
 intro j
 rw [List.getElem?_map,List.getElem?_map]
 cases hq:qs[j]? with
 | none =>
  have:qs'[j]?=none:=by rw [List.getElem?_eq_none_iff] at hq ⊢; omega
  rw [this]
 | some q =>
  have hj:=(List.getElem?_eq_some_iff.1 hq).1
  obtain ⟨q',hq'⟩:∃q',qs'[j]?=some q':=⟨_,List.getElem?_eq_getElem (by omega)⟩
  rw [hq']
  have e:=sl_uniq hb.sl (by rw [h2]; exact hb'.sl) j q q' hq hq'
  simp only [eQ,List.cons.injEq,Value.slice.injEq,and_true,true_and] at e
  have i1:=hb.sp q (List.mem_of_getElem? hq)
  have i2:=hb'.sp q' (List.mem_of_getElem? hq')
  rw [←e.1] at i2
  have e0:=sl_uniq i1 i2 0 _ _ rfl rfl
  have e1:=sl_uniq i1 i2 1 _ _ rfl rfl
  simp only [encI,List.cons.injEq,Value.int.injEq,and_true,true_and] at e0 e1
  simp only [Option.map_some,Option.some.injEq,Prod.mk.injEq]
  omega
def IsB (args:List Value)(H:Heap)(c:List (List Nat)):Prop:=c∈allC∧∃v,args=[v]∧Board H v c
theorem isB_uniq {args:List Value}{H:Heap}{c c':List (List Nat)}(h:IsB args H c)(h':IsB args H c'):c=c':=by
 obtain ⟨_,v,rfl,hb⟩:=h
 obtain ⟨_,v',e,hb'⟩:=h'
 cases e
 exact board_uniq hb hb'
open Classical in
noncomputable def pOwn (args:List Value)(H:Heap):Option Out:=if h:∃c,IsB args H c then some ⟨.ok (.tuple #[.int .i64 (owners h.choose:Nat),.int .i64 0]),H,H.length⟩ else none
def ordB (n:Nat):Blk:=⟨.cells ((List.range n).map fun i:Nat=>.int .i64 (i:Nat)),true,false,none⟩
open Classical in
noncomputable def pFst (args:List Value)(H:Heap):Option Out:=if h:∃c,IsB args H c then some ⟨.ok (.tuple #[.slice (some ⟨H.length,0,none⟩) h.choose.length 0,.int .i64 0]),H++[ordB h.choose.length],H.length⟩ else none
theorem pOwn_eq {args:List Value}{H:Heap}{c:List (List Nat)}(h:IsB args H c):pOwn args H=some ⟨.ok (.tuple #[.int .i64 (owners c:Nat),.int .i64 0]),H,H.length⟩:=by
 have hx:∃c,IsB args H c:=⟨c,h⟩
 unfold pOwn
 rw [dif_pos hx,isB_uniq hx.choose_spec h]
theorem pFst_eq {args:List Value}{H:Heap}{c:List (List Nat)}(h:IsB args H c):pFst args H=some ⟨.ok (.tuple #[.slice (some ⟨H.length,0,none⟩) c.length 0,.int .i64 0]),H++[ordB c.length],H.length⟩:=by
 have hx:∃c,IsB args H c:=⟨c,h⟩
 unfold pFst
 rw [dif_pos hx,isB_uniq hx.choose_spec h]
noncomputable def primsL:Prims:=fun f=>if f=7 then some (fun args H=>if args.isEmpty=true then some ⟨.ok (.bool true),H,H.length⟩ else none) else if f=14 then some pOwn else if f=15 then some pFst else prims0 f
theorem pr (f:FuncId)(hk:f≠7:=by decide)(h1:f≠14:=by decide)(h2:f≠15:=by decide):primsL f=none:=by unfold primsL; rw [if_neg hk,if_neg h1,if_neg h2]; rfl
noncomputable abbrev R:CallT:=runL PP primsL
theorem keepL:∀f g,primsL f=some g→∀args H out,g args H=some out→Fam H→Fam out.H∧Same out.lo H out.H:=by
 intro f g hf
 unfold primsL at hf
 by_cases h:f=7
 ·rw [if_pos h] at hf
  cases hf
  intro args H out ho hF
  dsimp only at ho
  split at ho
  ·cases ho; exact ⟨hF,Same.refl _ _⟩
  ·cases ho
 rw [if_neg h] at hf
 by_cases h1:f=14
 ·rw [if_pos h1] at hf
  cases hf
  intro args H out ho hF
  unfold pOwn at ho
  split at ho
  ·cases ho; exact ⟨hF,Same.refl _ _⟩
  ·cases ho
 rw [if_neg h1] at hf
 by_cases h2:f=15
 ·rw [if_pos h2] at hf
  cases hf
  intro args H out ho hF
  unfold pFst at ho
  split at ho
  ·cases ho
   refine ⟨fun i b f hb hf=>?_,by simp,fun i b hi hb=>⟨b,by simp only; rw [List.getElem?_append_left hi]; exact hb,rfl,rfl,rfl,fun _=>rfl⟩⟩
   simp only at hb
   rcases Nat.lt_or_ge i H.length with hlt | hge
   ·rw [List.getElem?_append_left hlt] at hb; exact hF i b f hb hf
   ·rw [List.getElem?_append_right hge] at hb
    rcases Nat.eq_zero_or_pos (i - H.length) with h0 | h0
    ·rw [h0] at hb
     simp at hb
     subst hb
     cases hf
    ·rw [List.getElem?_eq_none (by simp; omega)] at hb; cases hb
  ·cases ho
 rw [if_neg h2] at hf
 cases hf
theorem famR {fn:Fn}{args:List Value}{H:Heap}{o:Out}(h:R fn args H=some o)(hF:Fam H):Fam o.H:=runL_fam keepL h hF
theorem c7 (H:Heap):R (.func 7) [] H=some ⟨.ok (.bool true),H,H.length⟩:=runL_prim (by unfold primsL; rw [if_pos rfl]) rfl
theorem c14 {H:Heap}{v:Value}{c:List (List Nat)}(hc:c∈allC)(h:Board H v c):R (.func 14) [v] H=some ⟨.ok (.tuple #[.int .i64 (owners c:Nat),.int .i64 0]),H,H.length⟩ :=
 runL_prim (g:=pOwn) (by unfold primsL; rw [if_neg (by decide),if_pos rfl]) (pOwn_eq ⟨hc,v,rfl,h⟩)
theorem c15 {H:Heap}{v:Value}{c:List (List Nat)}(hc:c∈allC)(h:Board H v c):R (.func 15) [v] H=some ⟨.ok (.tuple #[.slice (some ⟨H.length,0,none⟩) c.length 0,.int .i64 0]),H++[ordB c.length],H.length⟩ :=
 runL_prim (g:=pFst) (by unfold primsL; rw [if_neg (by decide),if_neg (by decide),if_pos rfl]) (pFst_eq ⟨hc,v,rfl,h⟩)
end Go.Pi.L.Ch
