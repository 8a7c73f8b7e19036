/- Which operations come before others, without repetitions: the compiler does the same with these lists. -/
import Derived.KernelRfl
import Derived.Test.YtjgmlngcknehhaaGreatPiA
import Derived.Test.YtjgmlngcknehhaaGreatTPs
import Derived.Test.YtjgmlngcknehhaaGreatPiH
import Derived.Test.YtjgmlngcknehhaaGreatProg
set_option linter.all false
namespace Go.Pi
open Go

def dd (l:List Nat):List Nat:=l.foldr (fun x acc=>if acc.contains x then acc else x :: acc) []
theorem dd_mem (i:Nat):∀l:List Nat,(dd l).contains i=l.contains i
 | []=>rfl
 | x :: l=>by
  have ih:=dd_mem i l
  have e:dd (x :: l)=if (dd l).contains x then dd l else x :: dd l:=rfl
  rw [e]
  split
  ·rename_i h
   rw [ih,List.contains_cons]
   by_cases hx:i=x
   ·subst hx; rw [dd_mem] at h; rw [h]; simp
   ·have:(i == x)=false:=by simp [hx]
    rw [this,Bool.false_or]
  ·rw [List.contains_cons,List.contains_cons,ih]
def befsD:List Oper→List (List Nat)→List (List Nat)
 | [],acc=>acc
 | o :: r,acc=>befsD r (acc++[dd ((o.after.toList.filter (Region.binds .any ·)).flatMap fun e=>e.on :: acc.getD e.on [])])
def SameB (a b:List (List Nat)):Prop:=a.length=b.length∧∀j i,(a.getD j []).contains i=(b.getD j []).contains i
theorem flat_mem (f g:Nat→List Nat)(i:Nat)(h:∀j,(f j).contains i=(g j).contains i):∀l:List Edge,(l.flatMap fun e=>e.on :: f e.on).contains i=(l.flatMap fun e=>e.on :: g e.on).contains i
 | []=>rfl
 | e :: l=>by
  have ih:=flat_mem f g i h l
  simp only [List.flatMap_cons,List.contains_eq_mem,List.mem_append,List.mem_cons,decide_eq_decide] at ih h ⊢
  rw [ih,h]
theorem befs_same:∀(l:List Oper) (a b:List (List Nat)),SameB a b→SameB (befs l a) (befsD l b)
 | [],_,_,h=>h
 | o :: r,a,b,h=>by
  simp only [befs,befsD]
  refine befs_same r _ _ ⟨by simp [h.1],fun j i=>?_⟩
  have hl:=h.1
  by_cases hj:j < a.length
  ·simp only [List.getD_eq_getElem?_getD,List.getElem?_append_left hj,List.getElem?_append_left (show j < b.length by omega)]
   have:=h.2 j i
   simpa only [List.getD_eq_getElem?_getD] using this
  ·simp only [List.getD_eq_getElem?_getD,List.getElem?_append_right (show a.length≤j by omega),List.getElem?_append_right (show b.length≤j by omega),hl]
   by_cases h0:j - b.length=0
   ·rw [h0]
    simp only [List.getElem?_cons_zero,Option.getD_some]
    rw [dd_mem]
    exact flat_mem _ _ i (fun k=>h.2 k i) _
   ·obtain ⟨k,hk⟩:∃k,j - b.length=k+1:=⟨j - b.length - 1,by omega⟩
    rw [hk]; rfl
theorem pairs_same {ops:List PIns}{cls:List Nat}{a b:List (List Nat)}(h:SameB a b):pairsOk ops cls a=pairsOk ops cls b:=by
 unfold pairsOk
 congr 1; funext j
 congr 1; funext i
 rw [h.2]
theorem flags_same {ops:List PIns}{cls:List Nat}{a b:List (List Nat)}(h:SameB a b):flagsOf ops cls a=flagsOf ops cls b:=by
 unfold flagsOf
 simp only [h.2]
def compCD (P:Program)(L:List Tmp):Code→Option PCode
 | .skip=>some .skip
 | .region _ ops false=>(ops.toList.mapM (compI P L ops.toList)).map .reg
 | .region _ ops true =>
  ((ordL L ops).toList.mapM (compI P L (ordL L ops).toList)).bind fun l =>
   let cls:=l.map (clsOf L l)
   let bf:=befsD (ordL L ops).toList []
   if pairsOk l cls bf=true∧(ordL L ops).toList.zipIdx.all (fun (o,i)=>o.after.toList.all fun e=>!Region.binds .any e||e.on < i)=true then some (.dreg l (flagsOf l cls bf)) else none
 | .seq a b=>(compCD P L a).bind fun a=>(compCD P L b).map fun b=>.seq a b
 | .cond c a b=>(compCD P L a).bind fun a=>(compCD P L b).map fun b=>.cond c a b
 | .block id c=>(compCD P L c).map (.blk id)
 | .loop c=>(compCD P L c).map .loop
 | .rangeFunc f ps a b=>if opndOk f=true then (compCD P L a).bind fun a=>(compCD P L b).map fun b=>.rf f ps.toList a b else none
 | .exit id=>some (.exit id)
 | .scope c=>compCD P L c
 | .label _=>some .skip
 | .ret=>some .ret
 | .goto _=>none
 | .refuse _=>none
theorem compC_eq (P:Program)(L:List Tmp):∀c:Code,compC P L c=compCD P L c:=by
 intro c
 induction c with
 | region t ops any =>
  cases any with
  | false=>rfl
  | true =>
   simp only [compC,compCD]
   have hs:SameB (befs (ordL L ops).toList []) (befsD (ordL L ops).toList []):=befs_same _ _ _ ⟨rfl,fun _ _=>rfl⟩
   simp only [pairs_same hs,flags_same hs]
 | seq a b iha ihb=>simp only [compC,compCD,iha,ihb]
 | cond c a b iha ihb=>simp only [compC,compCD,iha,ihb]
 | block id c ih=>simp only [compC,compCD,ih]
 | loop c ih=>simp only [compC,compCD,ih]
 | rangeFunc f ps a b iha ihb=>simp only [compC,compCD,iha,ihb]
 | scope c ih=>simp only [compC,compCD,ih]
 | _=>rfl
def compFD (P:Program)(L:List Tmp)(f:FuncId):Option PFunc :=
 match P.funcs[f]? with
 | some fn=>if fn.name == "runtime.NumGoroutine" || !(fn.results.toList.all (resOk P)) then none else
  fn.body.bind fun c =>
   match rcOf c with
   | some (d,c)=>(compCD P L c).map fun c=>⟨fn.ntmps,fn.results.toList.map (compRes P),some d,c⟩
   | none=>(compCD P L c).map fun c=>⟨fn.ntmps,fn.results.toList.map (compRes P),none,c⟩
 | none=>none
theorem compF_eq (P:Program)(L:List Tmp)(f:FuncId):compF P L f=compFD P L f:=by
 unfold compF compFD
 cases P.funcs[f]? with
 | none=>rfl
 | some fn =>
  simp only
  split
  ·rfl
  ·cases fn.body with
   | none=>rfl
   | some c =>
    simp only [Option.bind_some]
    cases rcOf c with
    | none=>simp only [compC_eq]
    | some x=>simp only [compC_eq]
end Go.Pi
set_option maxRecDepth 1000000
namespace Go.Pi.Top
open Go Go.Pi
theorem K4:compF Go.Proofs.Tryz.prog [112,107,95,5,4] 4=some p4:=(compF_eq _ _ _).trans (by kernel_rfl)
theorem K6:compF Go.Proofs.Tryz.prog [] 6=some p6:=(compF_eq _ _ _).trans (by kernel_rfl)
theorem K7:compF Go.Proofs.Tryz.prog [] 7=some p7:=(compF_eq _ _ _).trans (by kernel_rfl)
theorem K9:compF Go.Proofs.Tryz.prog [6,1] 9=some p9:=(compF_eq _ _ _).trans (by kernel_rfl)
theorem K13:compF Go.Proofs.Tryz.prog [1] 13=some p13:=(compF_eq _ _ _).trans (by kernel_rfl)
theorem K14:compF Go.Proofs.Tryz.prog [30,6,1] 14=some p14:=(compF_eq _ _ _).trans (by kernel_rfl)
theorem K15:compF Go.Proofs.Tryz.prog [] 15=some p15:=(compF_eq _ _ _).trans (by kernel_rfl)
theorem K16:compF Go.Proofs.Tryz.prog [] 16=some p16:=(compF_eq _ _ _).trans (by kernel_rfl)
theorem K17:compF Go.Proofs.Tryz.prog [] 17=some p17:=(compF_eq _ _ _).trans (by kernel_rfl)
theorem K23:compF Go.Proofs.Tryz.prog [1,0] 23=some p23:=(compF_eq _ _ _).trans (by kernel_rfl)
theorem K24:compF Go.Proofs.Tryz.prog [1] 24=some p24:=(compF_eq _ _ _).trans (by kernel_rfl)
theorem K25:compF Go.Proofs.Tryz.prog [0] 25=some p25:=(compF_eq _ _ _).trans (by kernel_rfl)
theorem K26:compF Go.Proofs.Tryz.prog [4] 26=some p26:=(compF_eq _ _ _).trans (by kernel_rfl)
theorem K27:compF Go.Proofs.Tryz.prog [5,3,2,1] 27=some p27:=(compF_eq _ _ _).trans (by kernel_rfl)
theorem K28:compF Go.Proofs.Tryz.prog [42,7,5,4,2] 28=some p28:=(compF_eq _ _ _).trans (by kernel_rfl)
theorem K29:compF Go.Proofs.Tryz.prog [6] 29=some p29:=(compF_eq _ _ _).trans (by kernel_rfl)
theorem K36:compF Go.Proofs.Tryz.prog [1] 36=some p36:=(compF_eq _ _ _).trans (by kernel_rfl)
theorem K37:compF Go.Proofs.Tryz.prog [15] 37=some p37:=(compF_eq _ _ _).trans (by kernel_rfl)
theorem K38:compF Go.Proofs.Tryz.prog [2] 38=some p38:=(compF_eq _ _ _).trans (by kernel_rfl)
theorem K39:compF Go.Proofs.Tryz.prog [] 39=some p39:=(compF_eq _ _ _).trans (by kernel_rfl)
theorem K40:compF Go.Proofs.Tryz.prog [3,2,1] 40=some p40:=(compF_eq _ _ _).trans (by kernel_rfl)
theorem K41:compF Go.Proofs.Tryz.prog [2] 41=some p41:=(compF_eq _ _ _).trans (by kernel_rfl)
theorem K42:compF Go.Proofs.Tryz.prog [] 42=some p42:=(compF_eq _ _ _).trans (by kernel_rfl)
theorem K43:compF Go.Proofs.Tryz.prog [] 43=some p43:=(compF_eq _ _ _).trans (by kernel_rfl)
theorem K44:compF Go.Proofs.Tryz.prog [] 44=some p44:=(compF_eq _ _ _).trans (by kernel_rfl)
theorem K45:compF Go.Proofs.Tryz.prog [] 45=some p45:=(compF_eq _ _ _).trans (by kernel_rfl)
theorem K46:compF Go.Proofs.Tryz.prog [] 46=some p46:=(compF_eq _ _ _).trans (by kernel_rfl)
theorem K47:compF Go.Proofs.Tryz.prog [] 47=some p47:=(compF_eq _ _ _).trans (by kernel_rfl)
theorem K48:compF Go.Proofs.Tryz.prog [] 48=some p48:=(compF_eq _ _ _).trans (by kernel_rfl)
theorem K49:compF Go.Proofs.Tryz.prog [4,2] 49=some p49:=(compF_eq _ _ _).trans (by kernel_rfl)
theorem K50:compF Go.Proofs.Tryz.prog [4,2] 50=some p50:=(compF_eq _ _ _).trans (by kernel_rfl)
theorem K51:compF Go.Proofs.Tryz.prog [16,1] 51=some p51:=(compF_eq _ _ _).trans (by kernel_rfl)
theorem K53:compF Go.Proofs.Tryz.prog [0] 53=some p53:=(compF_eq _ _ _).trans (by kernel_rfl)
theorem K54:compF Go.Proofs.Tryz.prog [2] 54=some p54:=(compF_eq _ _ _).trans (by kernel_rfl)
theorem K55:compF Go.Proofs.Tryz.prog [4] 55=some p55:=(compF_eq _ _ _).trans (by kernel_rfl)
theorem K56:compF Go.Proofs.Tryz.prog [] 56=some p56:=(compF_eq _ _ _).trans (by kernel_rfl)
theorem K57:compF Go.Proofs.Tryz.prog [3,2] 57=some p57:=(compF_eq _ _ _).trans (by kernel_rfl)
theorem K58:compF Go.Proofs.Tryz.prog [3,2] 58=some p58:=(compF_eq _ _ _).trans (by kernel_rfl)
theorem K59:compF Go.Proofs.Tryz.prog [] 59=some p59:=(compF_eq _ _ _).trans (by kernel_rfl)
theorem K60:compF Go.Proofs.Tryz.prog [] 60=some p60:=(compF_eq _ _ _).trans (by kernel_rfl)
theorem K61:compF Go.Proofs.Tryz.prog [3] 61=some p61:=(compF_eq _ _ _).trans (by kernel_rfl)
theorem K62:compF Go.Proofs.Tryz.prog [] 62=some p62:=(compF_eq _ _ _).trans (by kernel_rfl)
end Go.Pi.Top
