/- New blocks. -/
import Derived.Laws.MakeOwn
import Derived.IntWalk
import Derived.Laws.IdiomCopy
import Derived.Test.YtjgmlngcknehhaaGreatPiC
set_option linter.all false
namespace Go.Pi
open Go

section
variable {P:Program} {φ:Map} {lm:LMap}
variable {L:List Tmp} {T:List Value} {ρ:Operand→Value}

def Lays (P:Program)(φ:Map)(w:World)(r:Result Next)(a:Alc):Prop :=
 ∃ob siz top v' w',r=.ok (.value v') w'∧(w'.heap=w.heap.push ob∧w'.os=w.os∧w'.output=w.output)∧(∀j,j < top→w'.frozen? ⟨w.heap.size,j,none⟩=false) ∧
  ∀k (φ':Map),(∀i s,φ i=some s→φ' i=some s)→φ' k=some ⟨w.heap.size,0,siz,top⟩→ObjR P φ' a.obj ⟨w.heap.size,0,siz,top⟩ ob∧VR φ' (a.val k) v'

theorem frozen_new {w w':World}{c:Array Value}{t:TypeId}(h:w'.heap=w.heap.push (.cells c t (0,0)))(j:Nat):w'.frozen? ⟨w.heap.size,j,none⟩=false:=by
 simp [World.frozen?,h]

theorem VRs.objR {cs cs':List Value}(h:VRs φ cs cs')(h1:cs.all one=true)(b:Nat)(e:TypeId)(fr:Nat×Nat)(extra:List Value) :
  ObjR P φ (.cells cs) ⟨b,0,cs.length,cs.length+extra.length⟩ (.cells (cs'++extra).toArray e fr):=by
 refine .cells _ _ _ _ _ rfl (by simp) (by simp [h.1]) h1 fun j x hx=>?_
 obtain ⟨y,hy,hv⟩:=h.get hx
 have hlt:=(List.getElem?_eq_some_iff.1 hy).1
 exact ⟨y,by simp [List.getElem?_append_left hlt,hy],hv⟩

theorem cells_lays {w:World}{cs cs':Array Value}{t:TypeId}(h:VRs φ cs.toList cs'.toList)(h1:cs.toList.all one=true) :
  Lays P φ w (.ok (.value (.pointer (some ⟨w.heap.size,0,none⟩))) { w with heap:=w.heap.push (.cells cs' t) }) ⟨.cells cs.toList,false,ptrA⟩:=by
 refine ⟨_,cs.toList.length,cs.toList.length,_,_,rfl,⟨rfl,rfl,rfl⟩,fun j _=>frozen_new rfl j,fun k φ' hsub hk=>⟨?_,?_⟩⟩
 ·have:=(h.mono hsub).objR (P:=P) h1 w.heap.size t (0,0) []
  simpa using this
 ·exact .ptr k 0 _ hk

theorem rep_length (n:Nat)(z:List Value):(rep n z).length=n*z.length:=by
 induction n with
 | zero=>simp [rep]
 | succ n ih=>simp [rep,ih,Nat.add_mul]; omega

theorem rep_get (n:Nat)(z:List Value)(j:Nat)(h:j < n*z.length):(rep n z)[j]?=z[j % z.length]?:=by
 induction n generalizing j with
 | zero=>simp at h
 | succ n ih =>
  simp only [rep]
  rcases Nat.lt_or_ge j z.length with h1 | h1
  ·rw [List.getElem?_append_left h1,Nat.mod_eq_of_lt h1]
  ·rw [List.getElem?_append_right h1,ih (j - z.length) (by rw [Nat.add_mul] at h; omega)]
   congr 1
   rw [←Nat.mod_eq_sub_mod h1]

theorem rep_add (m n:Nat)(z:List Value):rep (m+n) z=rep m z++rep n z:=by
 induction m with
 | zero=>simp [rep]
 | succ m ih=>rw [show m+1+n=(m+n)+1 by omega]; simp only [rep,ih,List.append_assoc]

theorem rep_vrs (n:Nat){z z':List Value}(h:VRs φ z z'):VRs φ (rep n z) (rep n z'):=by
 induction n with
 | zero=>exact .nil
 | succ n ih=>exact h.append ih

theorem rep_all (n:Nat)(z:List Value)(h:z.all one=true):(rep n z).all one=true:=by
 induction n with
 | zero=>rfl
 | succ n ih=>simp only [rep,List.all_append,h,ih,Bool.and_self]

theorem rep_model (z:Value)(n:Nat)(h:0 < z.cells.size):((Array.range (n*z.cells.size)).map (z.cells[· % z.cells.size]!)).toList=rep n z.cells.toList:=by
 apply List.ext_getElem?
 intro j
 rcases Nat.lt_or_ge j (n*z.cells.size) with h1 | h1
 ·rw [rep_get _ _ _ (by simpa using h1)]
  have:j % z.cells.size < z.cells.size:=Nat.mod_lt _ h
  simp [h1,this]
 ·rw [List.getElem?_eq_none (by simpa using h1),List.getElem?_eq_none (by rw [rep_length]; simpa using h1)]

theorem elemOf_spec {t e:TypeId}(h:Go.Pi.elemOf P t=some e):P.underlying t=some (.slice e):=by
 unfold Go.Pi.elemOf at h
 split at h
 ·cases h; assumption
 ·cases h

theorem fillP_one:∀{ps:List (Nat×Nat)} {vs cs l:List Value},fillP cs ps vs=some l→cs.all one=true→l.all one=true:=by
 intro ps
 induction ps with
 | nil =>
  intro vs cs l h hc
  cases vs with
  | nil=>simp only [fillP] at h; cases h; exact hc
  | cons v vs=>simp [fillP] at h
 | cons p ps ih =>
  intro vs cs l h hc
  obtain ⟨off,n⟩:=p
  cases vs with
  | nil=>simp [fillP] at h
  | cons v vs =>
   simp only [fillP] at h
   split at h
   ·rename_i hh
    refine ih h ?_
    have h1:∀x∈cs,one x=true:=List.all_eq_true.1 hc
    have h2:∀x∈v.cells.toList,one x=true:=List.all_eq_true.1 hh.2.2
    rw [List.all_eq_true]
    intro x hx
    simp only [List.mem_append] at hx
    rcases hx with (hx | hx) | hx
    ·exact h1 x (List.mem_of_mem_take hx)
    ·exact h2 x hx
    ·exact h1 x (List.mem_of_mem_drop hx)
   ·cases h

theorem bs_lays {t e:TypeId}{z:Value}{len:Nat}{ps:List (Nat×Operand)}{a:Alc}(ht:P.underlying t=some (.slice e))(hz:zeroOf P e=some z)(hc:len*P.cellsOf e≤2 ^ 24∧z.cells.size=P.cellsOf e∧0 < P.cellsOf e)
  (hR:∀x∈ps.map (·.2),TR φ lm (ev T x) (ρ x)) (ha:bsA (P.cellsOf e) z.cells.toList len ps T=some a) (w:World) :
  ∃l':Array Value,(Instr.buildSlice t len (ps.toArray.map fun (i,x)=>(i,ρ x))).run P w=.ok (.slice (some ⟨w.heap.size,0,none⟩) len len) { w with heap:=w.heap.push (.cells l' e) } ∧
   ∃l,a=⟨.cells l,true,fun i=>.slice (some ⟨i,0,none⟩) len (P.cellsOf e)⟩∧VRs φ l l'.toList∧l.all one=true∧l.length=len*P.cellsOf e:=by
 obtain ⟨h1,h2,h3⟩:=hc
 obtain ⟨i,hi,hiz,hz1,hz2,hz3⟩:=zeroOf_spec hz
 unfold bsA at ha
 simp only at ha
 split at ha
 ·rename_i hl
  split at ha
  ·rename_i l hf
   cases ha
   have hzr:=rep_model z len (by omega)
   have hzv:VRs φ (rep len z.cells.toList) ((Array.range (len*P.cellsOf e)).map (z.cells[· % z.cells.size]!)).toList:=by
    rw [←h2,hzr]
    have h0:VRs φ z.cells.toList z.cells.toList:=(flat_refl φ 8 z hz3).cellsL hz1
    clear hf hzr
    induction len with
    | zero=>exact .nil
    | succ n ih=>exact h0.append (ih (by rw [Nat.add_mul] at h1; omega))
   have hxs:VRs φ ((ps.map (·.2)).map (ev T)) ((ps.map (·.2)).map ρ):=VRs.map_ev hR (by simpa [List.map_map,Function.comp_def] using hl)
   have hf':fillP (rep len z.cells.toList) (ps.map fun p=>(p.1*P.cellsOf e,P.cellsOf e)) ((ps.map (·.2)).map (ev T))=some l:=by simpa [List.map_map,Function.comp_def] using hf
   obtain ⟨l',g1,g2,g3⟩:=fillP_run (φ:=φ) (fun i=>some (i*P.cellsOf e,P.cellsOf e)) _ (ps.map (·.1)) _ _ _ _ l
    (by simp) (by
     intro j p i hp hi
     simp only [List.getElem?_map,Option.map_eq_some_iff] at hi hp
     obtain ⟨q,hq,rfl⟩:=hi
     obtain ⟨q',hq',rfl⟩:=hp
     rw [hq] at hq'; cases hq'
     rfl) hxs hzv hf'
   refine ⟨l',?_,l,rfl,g2,fillP_one hf (rep_all _ _ hz1),by rw [g3,rep_length]; simp [h2]⟩
   have hzip:(ps.toArray.map fun (i,x)=>(i,ρ x)).toList=(ps.map (·.1)).zip ((ps.map (·.2)).map ρ):=by rw [zip_parts]; simp
   have hinf:(P.info? e).isSome=true:=by rw [hi]; rfl
   simp only [Instr.buildSlice,Sem.run_bind,run_underlying ht,Result.andThen_ok,cellsOf_run hinf,hzip]
   rw [if_neg (by omega)]
   by_cases h0:len*P.cellsOf e=0
   ·have hl0:len=0:=by
     rcases Nat.mul_eq_zero.1 h0 with h | h
     ·exact h
     ·omega
    subst hl0
    simp only [Nat.zero_mul,Array.range_zero',List.map_toArray,List.map_nil] at g1
    simp only [Nat.zero_mul,if_true,Array.range_zero',List.map_toArray,List.map_nil,Sem.run_bind,Sem.run_pure,Result.andThen_ok,g1]
    simp [newRow]
   ·simp only [h0,if_false,Sem.run_bind,zeroOf_run hz,Result.andThen_ok,Sem.run_pure,g1]
    simp [newRow]
  ·cases ha
 ·cases ha

theorem pushFreeze (w:World)(c:Array Value)(t:TypeId)(n:Nat):∃fr,((w.alloc (.cells c t)).freeze ⟨w.heap.size,c.size,none⟩ 1).heap=w.heap.push (.cells c t fr)∧∀j,j < c.size→(fr.1≤j&&j < fr.2)=false:=by
 refine ⟨(c.size,c.size+1),?_,fun j hj=>by simp; omega⟩
 apply Array.ext_getElem?
 intro i
 simp only [World.freeze,World.alloc]
 simp only [Nat.one_ne_zero,if_false,Array.getElem?_modify]
 by_cases h:w.heap.size=i
 ·subst h; simp
 ·simp only [h,if_false]
  rw [Array.getElem?_push,Array.getElem?_push]
  simp [Ne.symm h]

theorem alloc_run {o:Oper}{p:POp}{a:Alc}(hc:comp P L o=some p)(ha:allocOf p T=some a)(hR:∀x∈o.op.operands.toList,TR φ lm (ev T x) (ρ x))(w:World):Lays P φ w ((execOp ρ o).run P w) a:=by
 cases ho:o.op with
 | alloc t =>
  simp only [comp,ho,Option.bind_eq_some_iff] at hc
  obtain ⟨z,hz,hc⟩:=hc
  split at hc
  ·split at hc
   ·cases hc; simp [allocOf] at ha
   ·cases hc
    simp only [allocOf,Option.some.injEq] at ha
    subst ha
    obtain ⟨i,hi,hiz,hz1,hz2,hz3⟩:=zeroOf_spec hz
    have:=cells_lays (P:=P) (φ:=φ) (w:=w) (t:=t) ((flat_refl φ 8 z hz3).cellsL hz1) hz1
    simp only [execOp,ho,Instr.alloc,Sem.run_bind,zeroOf_run hz,Result.andThen_ok,newVar,newRow,run_newObj,Sem.run_pure]
    exact this
  ·cases hc
 | box t x =>
  simp only [comp,ho] at hc
  split at hc
  ·cases hc; simp [allocOf] at ha
  ·cases hc
   simp only [allocOf,boxA] at ha
   split at ha
   ·cases ha
   ·rename_i hl
    simp only [Bool.or_eq_true,Bool.not_eq_true',not_or,Bool.not_eq_false,Bool.not_eq_true] at hl
    cases ha
    have hx:=(hR x (by simp [ho,Op.operands])).to_vr hl.1
    have:=cells_lays (P:=P) (φ:=φ) (w:=w) (t:=t) (hx.cellsL hl.2) hl.2
    simp only [execOp,ho,Instr.box,Sem.run_bind,newVar,newRow,run_newObj,Result.andThen_ok,Sem.run_pure]
    exact this
 | buildSlice t len ps =>
  simp only [comp,ho,Option.bind_eq_some_iff] at hc
  obtain ⟨e,he,z,hz,hc⟩:=hc
  split at hc
  ·rename_i hh
   split at hc
   ·cases hc; simp [allocOf] at ha
   ·cases hc
    simp only [allocOf] at ha
    obtain ⟨pl⟩:=ps
    obtain ⟨l',h1,l,rfl,h2,h3,h4⟩:=bs_lays (elemOf_spec he) hz hh (fun x hx=>hR x (by simp [ho,Op.operands]; simpa using hx)) ha w
    simp only [execOp,ho,Sem.run_bind]
    rw [h1]
    refine ⟨_,l.length,l.length,_,_,rfl,⟨rfl,rfl,rfl⟩,fun j _=>frozen_new rfl j,fun k φ' hsub hk=>⟨?_,?_⟩⟩
    ·have:=(h2.mono hsub).objR (P:=P) h3 w.heap.size e (0,0) []
     simpa using this
    ·exact .sl k 0 len _ _ _ (Nat.le_refl _) fun _=>⟨_,hk,rfl,fun _=>by simp [h4]⟩
  ·cases hc
 | makeSlice t l c =>
  simp only [comp,ho,Option.bind_eq_some_iff] at hc
  obtain ⟨e,he,z,hz,hc⟩:=hc
  split at hc
  ·rename_i hh
   cases hc
   simp only [allocOf] at ha
   have hl:=hR l (by simp [ho,Op.operands])
   have hcc:=hR c (by simp [ho,Op.operands])
   generalize ev T l=u at *
   generalize ev T c=q at *
   cases u <;> (try (simp [mksA] at ha; done))
   cases q <;> (try (simp [mksA] at ha; done))
   rename_i kl l' kc c'
   simp only [mksA] at ha
   split at ha
   ·rename_i hb
    cases ha
    obtain ⟨hb1,hb2,hb3,hb4⟩:=hb
    obtain ⟨i,hi,hiz,hz1,hz2,hz3⟩:=zeroOf_spec hz
    have hbytes:(i.bytes:Int) < small:=by
     have:P.bytesOf e=i.bytes:=by simp [Program.bytesOf,hi]
     omega
    have hsz:P.cellsOf e=i.size:=by simp [Program.cellsOf,hi]
    have hmul:(i.bytes:Int)*c'≤281474976710656:=by
     have h1:(i.bytes:Int)*c'≤(small:Int)*c':=Int.mul_le_mul_of_nonneg_right (by omega) (by omega)
     simp only [small] at h1 hb3
     omega
    have hrun:=run_make (P:=P) w t e i z (elemOf_spec he) hi hiz kl kc l' c' hb1 hb2 hmul (by simp only [small] at hb3; omega)
    have he1:(execOp ρ o).run P w=.ok (.value (.slice (some ⟨w.heap.size,0,none⟩) l'.toNat c'.toNat)) (w.alloc (.cells (madeCells z.cells (c'.toNat*i.size)) e)):=by
     simp only [execOp,ho,Sem.run_bind]
     rw [hl.int,hcc.int,hrun]
     rfl
    have hmade:madeCells z.cells (c'.toNat*i.size)=(rep l'.toNat z.cells.toList++rep (c'.toNat - l'.toNat) z.cells.toList).toArray:=by
     apply Array.toList_inj.1
     rw [←rep_add,show l'.toNat+(c'.toNat - l'.toNat)=c'.toNat by omega,←rep_model z _ (by omega),←hsz,←hz2]
     rfl
    have hv0:VRs φ (rep l'.toNat z.cells.toList) (rep l'.toNat z.cells.toList):=rep_vrs _ ((flat_refl φ 8 z hz3).cellsL hz1)
    rw [he1]
    refine ⟨_,(rep l'.toNat z.cells.toList).length,(rep l'.toNat z.cells.toList).length+(rep (c'.toNat - l'.toNat) z.cells.toList).length,_,_,rfl,⟨rfl,rfl,rfl⟩,fun j _=>frozen_new rfl j,fun k φ' hsub hk=>⟨?_,?_⟩⟩
    ·rw [hmade]
     exact (hv0.mono hsub).objR (P:=P) (rep_all _ _ hz1) w.heap.size e (0,0) _
    ·refine .sl k 0 _ _ _ _ (by omega) fun _=>⟨_,hk,rfl,fun _=>?_⟩
     simp only [rep_length,Array.length_toList,hz2,Nat.zero_add,←Nat.add_mul]
     rw [show l'.toNat+(c'.toNat - l'.toNat)=c'.toNat by omega]
     exact Nat.le_refl _
   ·cases ha
  ·cases hc
 | makeMap t r =>
  have key:∀sh,p=.mkm sh→(execOp ρ o).run P w=.ok (.value (.map (some w.heap.size))) { w with heap:=w.heap.push (.map #[] 0) }→Lays P φ w ((execOp ρ o).run P w) a:=by
   intro sh hp he
   subst hp
   simp only [allocOf,Option.some.injEq] at ha
   subst ha
   rw [he]
   refine ⟨_,0,0,_,_,rfl,⟨rfl,rfl,rfl⟩,fun j hj=>absurd hj (Nat.not_lt_zero _),fun k φ' hsub hk=>⟨?_,?_⟩⟩
   ·exact .map sh [] _ #[] 0 rfl fun j k v e hk=>by simp at hk
   ·exact .map k _ hk
  simp only [comp,ho] at hc
  split at hc
  ·simp only [Option.map_eq_some_iff] at hc
   obtain ⟨sh,_,hc⟩:=hc
   exact key sh hc.symm (by simp [execOp,ho,Instr.makeMap])
  ·rename_i ht
   simp only [Option.map_eq_some_iff] at hc
   obtain ⟨sh,_,hc⟩:=hc
   have hk:=hR _ (by simp [ho,Op.operands]; rfl)
   refine key sh hc.symm ?_
   simp [execOp,ho,Instr.makeMap,run_underlying ht,hk.int,asInt,asIntOf]
  ·cases hc
 | range t x =>
  simp only [comp,ho] at hc
  split at hc
  ·rename_i ht
   cases hc
   have hx:=hR x (by simp [ho,Op.operands])
   simp only [allocOf] at ha
   generalize ev T x=u at *
   cases u <;> (try (simp [rngA] at ha; done))
   rename_i b
   simp only [rngA,Option.some.injEq] at ha
   subst ha
   have he:(execOp ρ o).run P w=.ok (.value (.pointer (some ⟨w.heap.size,0,none⟩))) { w with heap:=w.heap.push (.stringIter b 0) }:=by
    simp [execOp,ho,Instr.range,run_underlying ht,hx.string]
   rw [he]
   refine ⟨_,0,0,_,_,rfl,⟨rfl,rfl,rfl⟩,fun j hj=>absurd hj (Nat.not_lt_zero _),fun k φ' hsub hk=>⟨.iter b 0 _ rfl,.ptr k 0 _ hk⟩⟩
  ·cases hc
 | convert s d x =>
  simp only [comp,ho] at hc
  split at hc
  ·cases hc; simp [allocOf] at ha
  ·cases hc; simp [allocOf] at ha
  ·rename_i e hs hd
   split at hc
   ·rename_i he
    cases hc
    have hx:=hR x (by simp [ho,Op.operands])
    simp only [allocOf] at ha
    generalize ev T x=u at *
    cases u <;> (try (simp [s2bA] at ha; done))
    rename_i b
    simp only [s2bA] at ha
    split at ha
    ·cases ha
     have hcap:b.size≤(Question.appendCap b.size 0 e).cut (w.tape w.drawn (.appendCap b.size 0 e)):=by simp [Question.cut]
     generalize hcp:(Question.appendCap b.size 0 e).cut (w.tape w.drawn (.appendCap b.size 0 e))=cap at hcap
     generalize hcells:(b.data.map fun b=>Value.int .u8 b.toNat)++Array.replicate (cap - b.size) (Value.int .u8 0)=cells
     have hcl:cells.toList=(b.data.toList.map fun b=>Value.int .u8 b.toNat)++List.replicate (cap - b.size) (Value.int .u8 0):=by rw [←hcells]; simp
     have hcs:cells.size=cap:=by rw [←hcells]; simp; have:b.data.size=b.size:=rfl; omega
     obtain ⟨fr,hfr1,hfr2⟩:=pushFreeze { w with drawn:=w.drawn+1 } cells e cells.size
     have hrun:(execOp ρ o).run P w=.ok (.value (.slice (some ⟨w.heap.size,0,none⟩) b.size cap)) (({ w with drawn:=w.drawn+1 }:World).alloc (.cells cells e) |>.freeze ⟨w.heap.size,cells.size,none⟩ 1):=by
      have hshape:(({ w with drawn:=w.drawn+1 }:World).alloc (.cells cells e)).shape? w.heap.size=some (e,cells.size):=by
       simp [World.shape?,World.alloc,-World.alloc_eq]
      simp only [execOp,ho,convert,Sem.run_bind,run_underlying hs,run_underlying hd,run_underlying he,Result.andThen_ok,hx.string,Conv.stringToBytes,run_choose,Question.forced,Bool.false_eq_true,if_false,hcp,hcells,newRow,run_newObj,Sem.run_pure,markStringish,run_shape]
      erw [hshape]
      rfl
     rw [hrun]
     refine ⟨.cells cells e fr,b.data.toList.length,cap,_,_,rfl,⟨hfr1,rfl,rfl⟩,fun j hj=>?_,fun k φ' hsub hk=>⟨?_,?_⟩⟩
     ·simp only [World.frozen?,hfr1]
      simp
      have:=hfr2 j (by omega)
      simpa using this
     ·have hv:VRs φ' (b.data.toList.map fun b=>Value.int .u8 b.toNat) (b.data.toList.map fun b=>Value.int .u8 b.toNat):=by
       refine ⟨rfl,fun j x y hx hy=>?_⟩
       rw [hx] at hy; cases hy
       simp only [List.getElem?_map,Option.map_eq_some_iff] at hx
       obtain ⟨c,_,rfl⟩:=hx
       exact .int _ _
      have:=hv.objR (P:=P) (by rw [List.all_eq_true]; intro x hx; simp only [List.mem_map] at hx; obtain ⟨c,_,rfl⟩:=hx; rfl) w.heap.size e fr (List.replicate (cap - b.size) (Value.int .u8 0))
      rw [←hcl] at this
      have hbs:b.size+(cap - b.size)=cap:=by omega
      have hbs2:b.data.size=b.size:=rfl
      simpa [hbs,hbs2] using this
     ·exact .sl k 0 _ _ _ _ hcap fun _=>⟨_,hk,rfl,fun _=>by simp⟩
    ·cases ha
   ·cases hc
  ·split at hc <;> cases hc
   simp [allocOf] at ha
  ·cases hc
 | build t ps =>
  simp only [comp,ho] at hc
  split at hc
  ·split at hc
   ·cases hc
   ·simp only [Option.map_eq_some_iff] at hc
    obtain ⟨_,_,hc⟩:=hc
    subst hc; simp [allocOf] at ha
  ·split at hc
   ·cases hc
   ·cases hc; simp [allocOf] at ha
  ·cases hc
 | binOp op t x y b =>
  simp only [comp,ho,compBin] at hc
  split at hc
  ·cases hc; simp [allocOf] at ha
  ·cases hc; simp [allocOf] at ha
  ·split at hc <;> cases hc <;> simp [allocOf] at ha
  ·simp only [Option.bind_eq_some_iff] at hc
   obtain ⟨_,_,hc⟩:=hc
   split at hc <;> cases hc <;> simp [allocOf] at ha
  ·simp only [Option.bind_eq_some_iff] at hc
   obtain ⟨_,_,hc⟩:=hc
   split at hc <;> cases hc <;> simp [allocOf] at ha
  ·cases hc
 | unOp op t x=>cases op <;> simp only [comp,ho] at hc <;> cases hc <;> simp [allocOf] at ha
 | makeInterface t x=>simp only [comp,ho] at hc; split at hc <;> cases hc; simp [allocOf] at ha
 | makeFunc fn first cap=>cases fn <;> simp only [comp,ho] at hc <;> first | (split at hc <;> cases hc; simp [allocOf] at ha; done) | cases hc
 | slice t x lo hi mx =>
  cases mx with
  | some m=>simp [comp,ho] at hc
  | none =>
   simp only [comp,ho] at hc
   split at hc
   ·cases hc; simp [allocOf] at ha
   ·split at hc <;> cases hc; simp [allocOf] at ha
   ·cases hc
 | fieldAddr t x i =>
  simp only [comp,ho] at hc
  split at hc
  ·simp only [Option.bind_eq_some_iff] at hc
   obtain ⟨_,_,hc⟩:=hc
   split at hc <;> cases hc; simp [allocOf] at ha
  ·cases hc
 | field t x i =>
  simp only [comp,ho] at hc
  split at hc
  ·simp only [Option.bind_eq_some_iff] at hc
   obtain ⟨_,_,hc⟩:=hc
   split at hc <;> cases hc; simp [allocOf] at ha
  ·cases hc
 | indexAddr t x y =>
  simp only [comp,ho] at hc
  split at hc
  ·split at hc <;> cases hc; simp [allocOf] at ha
  ·split at hc <;> cases hc; simp [allocOf] at ha
  ·cases hc
 | index t x y =>
  simp only [comp,ho] at hc
  split at hc
  ·cases hc; simp [allocOf] at ha
  ·split at hc <;> cases hc; simp [allocOf] at ha
  ·cases hc
 | typeAssert x u t ok =>
  cases ok <;> simp only [comp,ho] at hc
  ·cases hc
  ·split at hc
   ·cases hc
   ·cases hc
   ·simp only [Option.map_eq_some_iff] at hc
    obtain ⟨_,_,hc⟩:=hc
    subst hc; simp [allocOf] at ha
 | load t a=>simp only [comp,ho] at hc; split at hc <;> cases hc; simp [allocOf] at ha
 | store t a x=>simp only [comp,ho] at hc; split at hc <;> cases hc; simp [allocOf] at ha
 | lookup t m k ok =>
  simp only [comp,ho] at hc
  split at hc
  ·simp only [Option.bind_eq_some_iff,Option.map_eq_some_iff] at hc; obtain ⟨_,_,_,_,hc⟩:=hc; subst hc; simp [allocOf] at ha
  ·cases hc
 | mapUpdate t m k x =>
  simp only [comp,ho] at hc
  split at hc
  ·simp only [Option.map_eq_some_iff] at hc; obtain ⟨_,_,hc⟩:=hc; subst hc; simp [allocOf] at ha
  ·cases hc
 | insert t m k x =>
  simp only [comp,ho] at hc
  split at hc
  ·simp only [Option.map_eq_some_iff] at hc; obtain ⟨_,_,hc⟩:=hc; subst hc; simp [allocOf] at ha
  ·cases hc
 | next x b=>cases b <;> simp [comp,ho] at hc; subst hc; simp [allocOf] at ha
 | defer c=>simp only [comp,ho] at hc; split at hc <;> cases hc; simp [allocOf] at ha
 | call c =>
  simp only [comp,ho] at hc
  unfold compCall at hc
  split at hc
  ·split at hc
   ·split at hc
    ·split at hc <;> cases hc; simp [allocOf] at ha
    ·split at hc <;> cases hc; simp [allocOf] at ha
    ·cases hc
   ·cases hc
  ·split at hc <;> cases hc <;> simp [allocOf] at ha
  ·split at hc
   ·simp only [Option.bind_eq_some_iff] at hc
    obtain ⟨_,_,_,_,hc⟩:=hc
    split at hc <;> cases hc; simp [allocOf] at ha
   ·cases hc
  ·cases hc; simp [allocOf] at ha
  ·cases hc; simp [allocOf] at ha
  ·cases hc; simp [allocOf] at ha
  ·cases hc; simp [allocOf] at ha
  ·cases hc
 | _=>first | (simp [comp,ho] at hc; done) | (simp [comp,ho] at hc; subst hc; simp [allocOf] at ha)

end
end Go.Pi
namespace Go.Pi
open Go

section
variable {P:Program} {φ:Map} {lm:LMap}

theorem collect {Q:Nat→Value→Prop}:∀{xs:List Value} {n:Nat},(∀(j:Nat) x,xs[j]?=some x→∃y,Q (n+j) y∧VR φ x y)→∃ys,VRs φ xs ys∧∀(j:Nat) y,ys[j]?=some y→Q (n+j) y:=by
 intro xs
 induction xs with
 | nil=>intro n _; exact ⟨[],.nil,fun j y hy=>by simp at hy⟩
 | cons x xs ih =>
  intro n h
  obtain ⟨y,hq,hv⟩:=h 0 x rfl
  obtain ⟨ys,h1,h2⟩:=ih (n:=n+1) fun j x hx=>by
   obtain ⟨y,a,b⟩:=h (j+1) x (by simpa using hx)
   exact ⟨y,by rw [show n+1+j=n+(j+1) by omega]; exact a,b⟩
  refine ⟨y :: ys,.cons hv h1,fun j z hz=>?_⟩
  cases j with
  | zero=>simp at hz; subst hz; exact hq
  | succ j =>
   have:=h2 j z (by simpa using hz)
   rw [show n+1+j=n+(j+1) by omega] at this
   exact this

variable {E:Ent} {s:St} {a:Act} {w:World}

theorem add_none (b o n:Nat):(⟨b,o,none⟩:Addr).add n=⟨b,o+n,none⟩:=Addr.add_lit b o n

theorem SR.read (h:SR E φ lm s a w){p:Addr}{pv:Value}(hp:TR φ lm (.pointer (some p)) pv){c:List Value}(hc:cellsAt s p=some c) :
  ∃b o,pv=.pointer (some ⟨b,o,none⟩)∧c.all one=true∧∀(j:Nat) x,c[p.off+j]?=some x→∃y,w.cell? ⟨b,o+j,none⟩=some y∧VR φ x y:=by
 cases hp with
 | vr _ _ hp =>
  cases hp with
  | ptr i off sl hs =>
   refine ⟨_,_,rfl,?_⟩
   simp only [cellsAt,hcells] at hc
   split at hc
   ·rename_i c' tip fam hH
    cases hc
    obtain ⟨o,h1,h2⟩:=h.emb.obj i sl _ hs hH rfl
    cases h2 with
    | cells _ _ cs e fr g1 g2 g3 g4 g5 =>
     refine ⟨g4,fun j x hx=>?_⟩
     obtain ⟨y,hy,hv⟩:=g5 _ x hx
     refine ⟨y,?_,hv⟩
     simp only [World.cell?,h1]
     simpa [Nat.add_assoc] using hy
   ·cases hc
 | ptr d off g b hb =>
  refine ⟨_,_,rfl,?_⟩
  simp only [cellsAt] at hc
  split at hc
  ·rename_i g' c' hS
   split at hc
   ·rename_i hg
    cases hc
    subst hg
    obtain ⟨b',ob,h1,h2,h3,_⟩:=h.loc.cur d g' _ hS (h.loc.gen d g' b hb).1
    rw [hb] at h1; cases h1
    cases h3 with
    | cells _ _ cs e fr g1 g2 g3 g4 g5 =>
     refine ⟨g4,fun j x hx=>?_⟩
     obtain ⟨y,hy,hv⟩:=g5 _ x hx
     refine ⟨y,?_,hv⟩
     simp only [World.cell?,h2]
     simpa using hy
   ·cases hc
  ·cases hc

theorem SR.load (h:SR E φ lm s a w){p:Addr}{pv:Value}(hp:TR φ lm (.pointer (some p)) pv){c:List Value}(hc:cellsAt s p=some c){t:TypeId}(hk:Go.Pi.known P t=true){v:Value}(hv:rd c p.off (cellsN P t)=some v) :
  ∃v',(Instr.loadAt t pv).run P w=.ok v' w∧VR φ v v':=by
 obtain ⟨b,o,rfl,h1,h2⟩:=h.read hp hc
 obtain ⟨k1,k2⟩:=known_spec hk
 simp only [Instr.loadAt,Instr.sureAddr,Sem.run_bind,Sem.run_pure,Result.andThen_ok,loadVar,aggOf_run k1]
 cases ha:aggOf P t with
 | false =>
  simp only [cellsN,ha,Bool.false_eq_true,if_false,rd] at hv
  obtain ⟨y,hy,hyv⟩:=h2 0 v (by simpa using hv)
  refine ⟨y,?_,hyv⟩
  simp only [Nat.add_zero] at hy
  simp [hy]
 | true =>
  simp only [cellsN,ha,if_true,rd] at hv
  split at hv
  ·rename_i hle
   cases hv
   obtain ⟨ys,g1,g2⟩:=collect (φ:=φ) (Q:=fun j y=>w.cell? ⟨b,o+j,none⟩=some y) (xs:=(c.drop p.off).take (P.cellsOf t)) (n:=0) fun j x hx=>by
    rw [List.getElem?_take] at hx
    split at hx
    ·rw [List.getElem?_drop] at hx
     obtain ⟨y,a,b⟩:=h2 j x hx
     exact ⟨y,by simpa using a,b⟩
    ·cases hx
   have hlen:ys.length=P.cellsOf t:=by rw [←g1.1]; simp; omega
   have hl:=run_loadCells_list (P:=P) w ⟨b,o,none⟩ ys fun j v hj=>by rw [add_none]; simpa using g2 j v hj
   rw [hlen] at hl
   refine ⟨.agg ys.toArray,?_,g1.agg⟩
   simp [cellsOf_run k2,hl]
  ·cases hv

def setL (cs:Array Value)(o:Nat):List Value→Array Value
 | []=>cs
 | v :: vs=>setL (cs.setIfInBounds o v) (o+1) vs

theorem setL_size (vs:List Value):∀(cs:Array Value) (o:Nat),(setL cs o vs).size=cs.size:=by
 induction vs with
 | nil=>intro cs o; rfl
 | cons v vs ih=>intro cs o; simp [setL,ih]

theorem setL_get (vs:List Value):∀(cs:Array Value) (o:Nat),o+vs.length≤cs.size→∀i:Nat,(setL cs o vs)[i]?=if o≤i∧i < o+vs.length then vs[i - o]? else cs[i]?:=by
 induction vs with
 | nil=>intro cs o _ i; simp [setL]; omega
 | cons v vs ih =>
  intro cs o h i
  simp only [setL,List.length_cons] at h ⊢
  rw [ih _ _ (by simp; omega)]
  by_cases h1:o+1≤i∧i < o+1+vs.length
  ·rw [if_pos h1,if_pos (by omega),show i - o=(i - (o+1))+1 by omega,List.getElem?_cons_succ]
  ·rw [if_neg h1]
   by_cases h2:i=o
   ·subst h2
    rw [if_pos (by omega),Array.getElem?_setIfInBounds_self_of_lt (by omega)]
    simp
   ·rw [if_neg (by omega),Array.getElem?_setIfInBounds_ne (by omega)]

theorem setCells_heap (b:Nat)(e:TypeId)(fr:Nat×Nat):∀(vs:List Value) (o:Nat) (w:World) (cs:Array Value),w.heap[b]?=some (.cells cs e fr)→(w.setCells b o vs).heap=w.heap.setIfInBounds b (.cells (setL cs o vs) e fr):=by
 intro vs
 induction vs with
 | nil =>
  intro o w cs h
  have hlt:=(Array.getElem?_eq_some_iff.1 h).1
  apply Array.ext_getElem?
  intro i
  by_cases hi:b=i
  ·subst hi; rw [Array.getElem?_setIfInBounds_self_of_lt hlt]; exact h
  ·rw [Array.getElem?_setIfInBounds_ne hi]; rfl
 | cons v vs ih =>
  intro o w cs h
  have hlt:=(Array.getElem?_eq_some_iff.1 h).1
  have h1:(w.setCell ⟨b,o,none⟩ v).heap=w.heap.setIfInBounds b (.cells (cs.setIfInBounds o v) e fr):=by
   apply Array.ext_getElem?
   intro i
   simp only [World.setCell,Array.getElem?_modify]
   by_cases hi:b=i
   ·subst hi; rw [if_pos rfl,h,Array.getElem?_setIfInBounds_self_of_lt hlt]; simp
   ·rw [if_neg hi,Array.getElem?_setIfInBounds_ne hi]
  rw [World.setCells,ih (o+1) _ (cs.setIfInBounds o v) (by rw [h1]; simp [hlt]),h1,setL]
  simp

theorem storeCells_run {b o:Nat}{vs:List Value}{cs:Array Value}{e:TypeId}{fr:Nat×Nat}(hb:w.heap[b]?=some (.cells cs e fr))(hle:o+vs.length≤cs.size)(hf:∀j,j < vs.length→w.frozen? ⟨b,o+j,none⟩=false)(h1:∀v∈vs,v.oneCell'=true) :
  (storeCells ⟨b,o,none⟩ vs).run P w=.ok () (w.setCells b o vs):=by
 have:=run_storeCells_cells (P:=P) b o vs 0 w (fun j hj=>by simp [World.cell?,hb]; omega) (by simpa using hf) h1
 simpa using this

theorem splice_setL {c vs:List Value}{cs:Array Value}{o off:Nat}{ys:List Value}(hv:VRs φ vs ys)(hle:off+vs.length≤c.length)(hcs:o+c.length≤cs.size)(h:∀(j:Nat) x,c[j]?=some x→∃y,cs[o+j]?=some y∧VR φ x y) :
  ∀(j:Nat) x,(splice c off vs)[j]?=some x→∃y,(setL cs (o+off) ys)[o+j]?=some y∧VR φ x y:=by
 intro j x hx
 rw [splice,splice_get c vs off hle] at hx
 rw [setL_get ys cs (o+off) (by have:=hv.1; omega)]
 have hl:=hv.1
 split at hx
 ·rename_i hj
  rw [if_pos (by omega),show o+j - (o+off)=j - off by omega]
  exact hv.get hx
 ·rename_i hj
  rw [if_neg (by omega)]
  exact h j x hx

theorem splice_length {c vs:List Value}{off:Nat}(hle:off+vs.length≤c.length):(splice c off vs).length=c.length:=by simp [splice]; omega

theorem splice_one {c vs:List Value}{off:Nat}(hc:c.all one=true)(hv:vs.all one=true):(splice c off vs).all one=true:=by
 rw [List.all_eq_true] at *
 intro x hx
 simp only [splice,List.mem_append] at hx
 rcases hx with (hx | hx) | hx
 ·exact hc x (List.mem_of_mem_take hx)
 ·exact hv x hx
 ·exact hc x (List.mem_of_mem_drop hx)

theorem Ext.write {B:Nat}{φ0 φ:Map}{H0 H H':Heap}{w0 w w':World}(h:Ext B φ0 H0 w0 φ H w){i:Nat}{sl:Slot}(hi:φ i=some sl)(hB:B≤sl.b)(hl:H.length≤H'.length){ob:Obj}(hw':w'.heap=w.heap.setIfInBounds sl.b ob∧w'.os=w.os∧w'.output=w.output):Ext B φ0 H0 w0 φ H' w':=by
 obtain ⟨hw,ho1,ho2⟩:=hw'
 refine ⟨Nat.le_trans h.len hl,h.map,h.new,by rw [hw]; simpa using h.size,fun b hb hn=>?_,ho1.trans h.out.1,ho2.trans h.out.2⟩
 have hne:b≠sl.b:=by
  intro he
  subst he
  rcases Nat.lt_or_ge i H0.length with hlt | hge
  ·rw [h.map i hlt] at hi
   have:=hn i sl hi rfl
   omega
  ·rcases h.new i sl hge hi with h1 | ⟨k,sk,h1,h2⟩
   ·omega
   ·have:=hn k sk h1 h2
    omega
 rw [hw,Array.getElem?_setIfInBounds_ne (Ne.symm hne)]
 exact h.frame b hb hn

theorem Loc.write {lim:Nat}{S:Nat→Nat×PObj}{w':World}(h:Loc P lim φ lm S w){i:Nat}{sl:Slot}(hi:φ i=some sl){ob:Obj}(hw:w'.heap=w.heap.setIfInBounds sl.b ob):Loc P lim φ lm S w':=by
 refine h.world (fun _ _ h=>h) (by rw [hw]; simp) (fun d g b hb=>?_) (fun d g b i s hb hs=>(h.lim d g b hb).2.2 i s hs)
 rw [hw,Array.getElem?_setIfInBounds_ne ((h.lim d g b hb).2.2 i sl hi)]

theorem SR.setH (h:SR E φ lm s a w){i:Nat}{sl:Slot}{H':Heap}{ob:Obj}{w':World}(hi:φ i=some sl)(hB:E.B≤sl.b)(hl:H'.length=s.H.length)(hw:w'.heap=w.heap.setIfInBounds sl.b ob∧w'.os=w.os∧w'.output=w.output)(he:Emb E.P E.B φ H' w')(lo:Nat) :
  SR E φ lm { s with H:=H',lo:=lo } a w' :=
 ⟨he,h.ext.write hi hB (Nat.le_of_eq hl.symm) hw,h.loc.write hi hw.1,h.siz,h.env,h.dfr,h.hB,h.dom⟩

theorem frozen_setCells (b o:Nat)(vs:List Value)(w:World)(x:Addr):(w.setCells b o vs).frozen? x=w.frozen? x:=World.frozen?_setCells b vs o w x

theorem setCells_out:∀(ys:List Value) (w:World) (b o:Nat),(w.setCells b o ys).os=w.os∧(w.setCells b o ys).output=w.output
 | [],_,_,_=>⟨rfl,rfl⟩
 | v :: r,w,b,o=>setCells_out r (w.setCell ⟨b,o,none⟩ v) b (o+1)

theorem SR.write (h:SR E φ lm s a w){p:Addr}{pv:Value}(hp:TR φ lm (.pointer (some p)) pv){vs ys:List Value}(hv:VRs φ vs ys)(h1:vs.all one=true){s1:St}(hs:stCells s p vs=some s1) :
  ∃b o,pv=.pointer (some ⟨b,o,none⟩)∧(storeCells ⟨b,o,none⟩ ys).run E.P w=.ok () (w.setCells b o ys)∧SR E φ lm s1 a (w.setCells b o ys):=by
 have hy1:∀y∈ys,y.oneCell'=true:=by
  intro y hy
  obtain ⟨j,hj⟩:=List.mem_iff_getElem?.1 hy
  have hlt:j < vs.length:=hv.1 ▸ (List.getElem?_eq_some_iff.1 hj).1
  exact (hv.2 j _ y (List.getElem?_eq_getElem hlt) hj).one (List.all_eq_true.1 h1 _ (List.getElem_mem hlt))
 have hyl:=hv.1
 cases hp with
 | ptr d off g b hb =>
  simp only [stCells] at hs
  split at hs
  ·rename_i g' c hS
   split at hs
   ·rename_i hg
    obtain ⟨hg,hle⟩:=hg
    cases hs
    subst hg
    obtain ⟨hg0,_⟩:=h.loc.gen d g' b hb
    obtain ⟨b',ob,h2,h3,h4,h5⟩:=h.loc.cur d g' _ hS hg0
    rw [hb] at h2; cases h2
    cases h4 with
    | cells _ _ cs e fr k1 k2 k3 k4 k5 =>
     have k3':0+c.length≤cs.size:=k3
     simp only [sizOf,Nat.zero_add] at k3 k5 h5
     have hheap:=setCells_heap b e fr ys off w cs h3
     refine ⟨b,off,rfl,storeCells_run h3 (by omega) (fun j hj=>h5 _ (by omega)) hy1,?_⟩
     have hlt:=(Array.getElem?_eq_some_iff.1 h3).1
     have hne:∀i t,φ i=some t→t.b≠b:=(h.loc.lim d g' b hb).2.2
     refine ⟨h.emb.world (by rw [hheap]; simp) (fun i t hi=>by rw [hheap,Array.getElem?_setIfInBounds_ne (Ne.symm (hne i t hi))]) (fun b' hb' _=>by have h1:=(h.loc.lim d g' b hb).1; have h2:=h.hB; rw [hheap,Array.getElem?_setIfInBounds_ne (by omega)]),
      ⟨h.ext.len,h.ext.map,h.ext.new,by rw [hheap]; simpa using h.ext.size,fun b' hb' hn=>?_,(setCells_out _ _ _ _).1.trans h.ext.out.1,(setCells_out _ _ _ _).2.trans h.ext.out.2⟩,?_,h.siz,h.env,h.dfr,h.hB,h.dom⟩
     ·have:=(h.loc.lim d g' b hb).1
      rw [hheap,Array.getElem?_setIfInBounds_ne (by omega)]
      exact h.ext.frame b' hb' hn
     ·refine ⟨fun d2 g2 o2 hd2 hg2=>?_,fun d2 g2 b2 hb2=>?_,h.loc.inj,fun d2 g2 b2 hb2=>?_⟩
      ·rw [sget_sset] at hd2
       split at hd2
       ·rename_i hdd
        cases hd2
        subst hdd
        refine ⟨b,.cells (setL cs off ys) e fr,hb,by rw [hheap]; simp [hlt],?_,fun j hj=>by rw [frozen_setCells]; exact h5 j (by simpa [sizOf,splice_length hle] using hj)⟩
        have hsp:=splice_setL (o:=0) (off:=off) hv hle (by omega) (by simpa using k5)
        refine .cells _ _ _ _ _ rfl (Nat.le_refl _) (by show 0+(splice c off vs).length≤_; rw [splice_length hle,setL_size]; exact k3') (splice_one k4 h1) fun j x hx=>?_
        obtain ⟨y,hy,hyv⟩:=hsp j x hx
        exact ⟨y,by simpa using hy,hyv⟩
       ·rename_i hdd
        obtain ⟨b2,ob2,q1,q2,q3,q4⟩:=h.loc.cur d2 g2 o2 hd2 hg2
        have hbb:b≠b2:=fun e=>hdd (h.loc.inj d2 g2 d g' b2 q1 (e ▸ hb)).1
        exact ⟨b2,ob2,q1,by rw [hheap,Array.getElem?_setIfInBounds_ne hbb]; exact q2,q3,fun j hj=>by rw [frozen_setCells]; exact q4 j hj⟩
      ·obtain ⟨q1,q2,q3⟩:=h.loc.lim d2 g2 b2 hb2
       exact ⟨q1,by rw [hheap]; simpa using q2,q3⟩
      ·have q:=h.loc.gen d2 g2 b2 hb2
       rw [sget_sset]
       split
       ·rename_i hdd
        subst hdd
        rw [hS] at q
        exact q
       ·exact q
   ·cases hs
  ·cases hs
 | vr _ _ hp =>
  cases hp with
  | ptr i off sl hsl =>
   have hilt:=(h.emb.inb i sl hsl).1
   have key:∀(c:List Value) (fam:Option Nat) (H1:Heap) (lo:Nat),s.H[i]?=some ⟨.cells c,true,true,fam⟩→off+vs.length≤c.length→Emb E.P E.B φ H1 w→H1.length=s.H.length→H1[i]?=some ⟨.cells c,true,true,fam⟩ →
     (∀k sk bk,k≠i→φ k=some sk→H1[k]?=some bk→bk.ok=true→sk.b≠sl.b) →
     ∃b o,Value.pointer (some ⟨sl.b,sl.o+off,none⟩)=.pointer (some ⟨b,o,none⟩)∧(storeCells ⟨b,o,none⟩ ys).run E.P w=.ok () (w.setCells b o ys) ∧
      SR E φ lm { s with H:=H1.set i ⟨.cells (splice c off vs),true,true,fam⟩,lo:=lo } a (w.setCells b o ys):=by
    intro c fam H1 lo hH hle hE hl1 hH1 hal
    obtain ⟨o,h2,h3⟩:=h.emb.obj i sl _ hsl hH rfl
    cases h3 with
    | cells _ _ cs e fr k1 k2 k3 k4 k5 =>
     have hunf:=h.emb.unf i sl _ hsl hH (.inl rfl)
     have hown:=h.emb.own i sl _ hsl hH (.inl rfl)
     have hheap:=setCells_heap sl.b e fr ys (sl.o+off) w cs h2
     refine ⟨_,_,rfl,storeCells_run h2 (by omega) (fun j hj=>by rw [Nat.add_assoc]; exact hunf _ (by omega)) hy1,?_⟩
     refine h.setH hsl hown (by simp [hl1]) ⟨hheap,setCells_out _ _ _ _⟩ ?_ lo
     refine hE.put hsl hH1 rfl hal rfl (fun _=>rfl) hheap ?_ (fun a=>frozen_setCells _ _ _ _ _)
     refine .cells _ _ _ _ _ (by rw [splice_length hle]; exact k1) k2 (by rw [setL_size]; exact k3) (splice_one k4 h1) (splice_setL hv hle (by omega) k5)
   simp only [stCells] at hs
   split at hs
   ·rename_i c hH
    split at hs
    ·rename_i hle
     cases hs
     refine key c none s.H _ hH hle h.emb rfl hH fun k sk bk hk hsk hbk hok he=>?_
     exact (h.emb.sep i k sl sk _ bk (Ne.symm hk) hsl hsk hH hbk rfl hok he.symm).2.2.1 rfl
    ·cases hs
   ·rename_i c f hH
    split at hs
    ·rename_i hle
     cases hs
     refine key c (some f) (kill f s.H) _ hH hle (h.emb.kill f) (kill_length _ _) (by rw [kill_get,hH]; simp) fun k sk bk hk hsk hbk hok he=>?_
     rw [kill_get] at hbk
     cases hHk:s.H[k]? with
     | none=>rw [hHk] at hbk; cases hbk
     | some b0 =>
      rw [hHk] at hbk
      simp only [Option.map_some,Option.some.injEq] at hbk
      have hok0:b0.ok=true:=by
       subst hbk
       split at hok
       ·cases hok
       ·exact hok
      obtain ⟨q1,q2,q3,q4⟩:=h.emb.sep i k sl sk _ b0 (Ne.symm hk) hsl hsk hH hHk rfl hok0 he.symm
      subst hbk
      rw [if_pos ⟨q2,q1⟩] at hok
      cases hok
    ·cases hs
   ·cases hs

end
end Go.Pi
namespace Go.Pi
open Go

def OpG (E:Ent)(F:Fence)(n:Nat)(o:Oper)(a:Act)(w:World)(e:Ex)(s1:St)(R:Map→Prop):Prop :=
 o.wpIn F n E.P a w (fun a' w'=>e=.normal∧∃φ' lm',R φ'∧SR E φ' lm' s1 a' w')
  (fun e' a' w'=>∃v v' φ' lm',e=.panic v∧e'=.panic [{ v:=v',recovered:=false }]∧VR φ' v v'∧R φ'∧SR E φ' lm' s1 a' w')

section
variable {E:Ent} {F:Fence} {n:Nat} {φ:Map} {lm:LMap} {s:St} {a:Act} {w:World} {o:Oper} {R:Map→Prop}

theorem putO_put {s2 s1:St}{d:Option Tmp}{v:Value}{e:Ex}(h:putO s2 d v=some (e,s1)):e=.normal∧put s2 d v=some s1:=by
 simp only [putO,Option.map_eq_some_iff] at h
 obtain ⟨s',h1,h2⟩:=h
 cases h2
 exact ⟨rfl,h1⟩

theorem OpG.value {φ':Map}{lm':LMap}{s2 s1:St}{v v':Value}{e:Ex}{w':World}(hF:∀f,F.fn f)(hd:∀c,o.op≠.defer c)(hr:(execOp a.eval o).run E.P w=.ok (.value v') w')
  (hs:SR E φ' lm' s2 a w') (hp:putO s2 o.dst v=some (e,s1)) (hv:TR φ' lm' v v') (hR:R φ'):OpG E F n o a w e s1 R:=by
 obtain ⟨he,hp'⟩:=putO_put hp
 subst he
 refine ⟨fun f _=>hF f,?_⟩
 rw [Oper.semAt_eq _ _ _ hd,hr]
 exact ⟨rfl,φ',lm',hR,hs.put hv hp'⟩

theorem OpG.skip {φ':Map}{lm':LMap}{s2 s1:St}{e:Ex}{w':World}(hF:∀f,F.fn f)(hd:∀c,o.op≠.defer c)(hr:(execOp a.eval o).run E.P w=.ok .skip w')
  (hs:SR E φ' lm' s2 a w') (hp:putO s2 o.dst undef=some (e,s1)) (hR:R φ'):OpG E F n o a w e s1 R:=by
 obtain ⟨he,hp'⟩:=putO_put hp
 subst he
 refine ⟨fun f _=>hF f,?_⟩
 rw [Oper.semAt_eq _ _ _ hd,hr]
 exact ⟨rfl,φ',lm',hR,hs.put (.vr _ _ (VR.undef φ')) hp'⟩

theorem SR.opnds (h:SR E φ lm s a w){l:List Operand}(hx:l.all opndOk=true):∀x∈l,TR φ lm (ev s.T x) (a.eval x):=fun x hm=>h.opnd (List.all_eq_true.1 hx x hm)

theorem comp_v_not_defer {P:Program}{L:List Tmp}{p:POp}(hc:comp P L o=some p)(hp:∀f xs,p≠.dfr f xs):∀c,o.op≠.defer c:=by
 intro c ho
 simp only [comp,ho] at hc
 split at hc
 ·cases hc; exact hp _ _ rfl
 ·cases hc

variable {L:List Tmp} {call:CallT} {e:Ex} {s1:St}

theorem op_v {f:VOp}{xs:List Operand}{g:Option (Tmp×Bool)}(hF:∀f,F.fn f)(h:SR E φ lm s a w)(hc:comp E.P L o=some (.v f xs))(hx:o.op.operands.toList.all opndOk=true)(hr:opR call ⟨o.dst,.v f xs,g⟩ s=some (e,s1)) :
  OpG E F n o a w e s1 (·=φ):=by
 simp only [opR] at hr
 split at hr
 ·rename_i hl
  split at hr
  ·rename_i v hv
   obtain ⟨v',h1,h2⟩:=pureOp o hc (h.opnds hx) (fun c=>rfl) (by simpa using hl) hv w
   exact .value hF (comp_v_not_defer hc fun _ _ h=>by cases h) h1 h hr h2 rfl
  ·cases hr
 ·cases hr

theorem SR.fill (h:SR E φ lm s a w){k:Nat}{blk:Blk}{ob:Obj}{siz top:Nat}{w':World}(hφ:φ k=none)(hk:s.H[k]?=some blk)(hH:E.H.length≤k)(hw':w'.heap=w.heap.push ob∧w'.os=w.os∧w'.output=w.output)
  (ho:blk.ok=true→ObjR E.P (upd φ k ⟨w.heap.size,0,siz,top⟩) blk.obj ⟨w.heap.size,0,siz,top⟩ ob) (hf:∀j,j < top→w'.frozen? ⟨w.heap.size,j,none⟩=false) :
  SR E (upd φ k ⟨w.heap.size,0,siz,top⟩) lm s a w':=by
 obtain ⟨hw,ho1,ho2⟩:=hw'
 have hsub:=upd_sub (s:=⟨w.heap.size,0,siz,top⟩) hφ
 have hsz:w'.heap.size=w.heap.size+1:=by rw [hw]; simp
 have hold:∀b,b < w.heap.size→w'.heap[b]?=w.heap[b]?:=fun b hb=>by rw [hw,Array.getElem?_push_lt hb,Array.getElem?_eq_getElem hb]
 have hupd:∀i t,upd φ k ⟨w.heap.size,0,siz,top⟩ i=some t→(i=k∧t.b=w.heap.size)∨φ i=some t:=by
  intro i t hi
  unfold upd at hi
  split at hi
  ·cases hi; exact .inl ⟨by assumption,rfl⟩
  ·exact .inr hi
 have hge:=h.ext.size
 refine ⟨h.emb.fill hφ hk hw (Nat.le_trans h.hB hge) ho hf,⟨h.ext.len,fun i hi=>?_,fun i t hi ht=>?_,by omega,fun b hb hn=>?_,ho1.trans h.ext.out.1,ho2.trans h.ext.out.2⟩,?_,h.siz,fun t=>(h.env t).mono hsub fun _ _ _ h=>h,h.dfr.mono hsub,h.hB,h.dom⟩
 ·have:i≠k:=by omega
  simp only [upd,this,if_false]
  exact h.ext.map i hi
 ·rcases hupd i t ht with ⟨_,hb⟩ | ht
  ·exact .inl (by omega)
  ·exact h.ext.new i t hi ht
 ·rw [hold b (by omega)]; exact h.ext.frame b hb hn
 ·refine h.loc.world hsub (by omega) (fun d g b hb=>hold b (h.loc.lim d g b hb).2.1) fun d g b i t hb ht=>?_
  obtain ⟨_,h2,h3⟩:=h.loc.lim d g b hb
  rcases hupd i t ht with ⟨_,hb⟩ | ht
  ·omega
  ·exact h3 i t ht

theorem SR.hole (h:SR E φ lm s a w)(blk:Blk)(hb:blk.tip=true→blk.ok=true)(hfm:∀f,blk.fam=some f→f≤s.H.length:=by intro f h; cases h):SR E φ lm { s with H:=s.H++[blk] } a w :=
 ⟨h.emb.hole blk hb hfm,⟨by have:=h.ext.len; simp; omega,h.ext.map,h.ext.new,h.ext.size,h.ext.frame,h.ext.out⟩,h.loc,h.siz,h.env,h.dfr,h.hB,h.dom⟩

theorem SR.free (h:SR E φ lm s a w):φ s.H.length=none:=by
 cases hx:φ s.H.length with
 | none=>rfl
 | some t=>exact absurd (h.emb.inb _ _ hx).1 (Nat.lt_irrefl _)

theorem op_new {p:POp}{g:Option (Tmp×Bool)}(hF:∀f,F.fn f)(h:SR E φ lm s a w)(hc:comp E.P L o=some p)(hx:o.op.operands.toList.all opndOk=true)(hr:newO s o.dst (allocOf p s.T)=some (e,s1)) :
  OpG E F n o a w e s1 fun _=>True:=by
 cases ha:allocOf p s.T with
 | none=>rw [ha] at hr; simp [newO] at hr
 | some al =>
  rw [ha] at hr
  simp only [newO] at hr
  obtain ⟨ob,siz,top,v',w',h1,h2,h3,h4⟩:=alloc_run (P:=E.P) (φ:=φ) (lm:=lm) hc ha (h.opnds hx) w
  have h0:=h.hole (al.blk s.H.length) (fun _=>rfl) fun f hf=>by simp only [Alc.blk] at hf; split at hf <;> simp at hf; omega
  have hk:(s.H++[al.blk s.H.length])[s.H.length]?=some (al.blk s.H.length):=by simp
  have hup:upd φ s.H.length ⟨w.heap.size,0,siz,top⟩ s.H.length=some ⟨w.heap.size,0,siz,top⟩:=by simp [upd]
  obtain ⟨h5,h6⟩:=h4 s.H.length _ (upd_sub h.free) hup
  refine .value (R:=fun _=>True) hF (comp_v_not_defer hc fun f xs hp=>by subst hp; simp [allocOf] at ha) h1 (h0.fill h.free hk h.ext.len h2 (fun _=>h5) h3) hr (.vr _ _ h6) trivial

def lupd (lm:LMap)(d g b:Nat):LMap:=fun d' g'=>if d'=d∧g'=g then some b else lm d' g'

theorem SR.lal (h:SR E φ lm s a w){d:Nat}{obj:PObj}{ob:Obj}{w':World}(hw':w'.heap=w.heap.push ob∧w'.os=w.os∧w'.output=w.output)(ho:ObjR E.P φ obj ⟨w.heap.size,0,sizOf obj,sizOf obj⟩ ob)(hf:∀j,j < sizOf obj→w'.frozen? ⟨w.heap.size,j,none⟩=false) :
  SR E φ (lupd lm d ((sget s.S d).1+1) w.heap.size) { s with S:=sset s.S d ((sget s.S d).1+1,obj) } a w':=by
 obtain ⟨hw,ho1,ho2⟩:=hw'
 have hsz:w'.heap.size=w.heap.size+1:=by rw [hw]; simp
 have hold:∀b,b < w.heap.size→w'.heap[b]?=w.heap[b]?:=fun b hb=>by rw [hw,Array.getElem?_push_lt hb,Array.getElem?_eq_getElem hb]
 have hnone:lm d ((sget s.S d).1+1)=none:=by
  cases hx:lm d ((sget s.S d).1+1) with
  | none=>rfl
  | some b=>have:=(h.loc.gen d _ b hx).2; omega
 have hsub:∀d' g' b,lm d' g'=some b→lupd lm d ((sget s.S d).1+1) w.heap.size d' g'=some b:=by
  intro d' g' b hb
  unfold lupd
  split
  ·rename_i hh; rw [hh.1,hh.2,hnone] at hb; cases hb
  ·exact hb
 have hcase:∀d' g' b,lupd lm d ((sget s.S d).1+1) w.heap.size d' g'=some b→(d'=d∧g'=(sget s.S d).1+1∧b=w.heap.size)∨lm d' g'=some b:=by
  intro d' g' b hb
  unfold lupd at hb
  split at hb
  ·rename_i hh; cases hb; exact .inl ⟨hh.1,hh.2,rfl⟩
  ·exact .inr hb
 have hge:=h.ext.size
 refine ⟨h.emb.world (by omega) (fun i t hi=>hold _ (h.emb.inb i t hi).2) (fun b _ hb=>hold b hb),⟨h.ext.len,h.ext.map,h.ext.new,by omega,fun b hb hn=>?_,ho1.trans h.ext.out.1,ho2.trans h.ext.out.2⟩,⟨fun d2 g2 o2 hd2 hg2=>?_,fun d2 g2 b2 hb2=>?_,fun d2 g2 d3 g3 b2 hb2 hb3=>?_,fun d2 g2 b2 hb2=>?_⟩,
  h.siz,fun t=>(h.env t).mono (fun _ _ h=>h) hsub,h.dfr,h.hB,h.dom⟩
 ·rw [hold b (by omega)]; exact h.ext.frame b hb hn
 ·rw [sget_sset] at hd2
  split at hd2
  ·rename_i hdd
   cases hd2
   subst hdd
   exact ⟨w.heap.size,ob,by simp [lupd],by rw [hw]; simp,ho,hf⟩
  ·rename_i hdd
   obtain ⟨b2,ob2,q1,q2,q3,q4⟩:=h.loc.cur d2 g2 o2 hd2 hg2
   have hlt:=(h.loc.lim d2 g2 b2 q1).2.1
   exact ⟨b2,ob2,hsub _ _ _ q1,by rw [hold _ hlt]; exact q2,q3,fun j hj=>by rw [frozen_congr (hold _ hlt)]; exact q4 j hj⟩
 ·rcases hcase d2 g2 b2 hb2 with ⟨_,_,rfl⟩ | hb2
  ·exact ⟨hge,by omega,fun i t hi he=>by have:=(h.emb.inb i t hi).2; omega⟩
  ·obtain ⟨q1,q2,q3⟩:=h.loc.lim d2 g2 b2 hb2
   exact ⟨q1,by omega,q3⟩
 ·rcases hcase d2 g2 b2 hb2 with ⟨r1,r2,r3⟩ | hb2
  ·rcases hcase d3 g3 b2 hb3 with ⟨q1,q2,_⟩ | hb3
   ·exact ⟨by omega,by omega⟩
   ·have:=(h.loc.lim d3 g3 b2 hb3).2.1; omega
  ·rcases hcase d3 g3 b2 hb3 with ⟨q1,q2,q3⟩ | hb3
   ·have:=(h.loc.lim d2 g2 b2 hb2).2.1; omega
   ·exact h.loc.inj d2 g2 d3 g3 b2 hb2 hb3
 ·simp only [sget_sset]
  rcases hcase d2 g2 b2 hb2 with ⟨r1,r2,r3⟩ | hb2
  ·subst r1; subst r2; simp
  ·have q:=h.loc.gen d2 g2 b2 hb2
   split
   ·rename_i hdd; subst hdd; simp only; omega
   ·exact q

end
end Go.Pi
namespace Go.Pi
open Go

def Came (P:Program)(o:Oper):POp→Prop
 | .lbox t x=>o.op=.box t x
 | .lalloc t z=>o.op=.alloc t∧zeroOf P t=some z
 | .lbs e k zero len ps=>∃t z,o.op=.buildSlice t len ps.toArray∧Go.Pi.elemOf P t=some e∧zeroOf P e=some z∧k=P.cellsOf e∧zero=z.cells.toList∧len*P.cellsOf e≤2 ^ 24∧z.cells.size=P.cellsOf e∧0 < P.cellsOf e
 | .ld n a=>∃t,o.op=.load t a∧Go.Pi.known P t=true∧n=cellsN P t
 | .st n a x=>∃t,o.op=.store t a x∧Go.Pi.known P t=true∧n=P.cellsOf t
 | .app e k s x=>∃c t u,o.op=.call c∧c.callee=.builtin .append∧c.args=#[s,x]∧c.argTypes=#[t,u]∧Go.Pi.elemOf P t=some e∧k=P.cellsOf e∧P.bytesOf e < small∧0 < P.cellsOf e∧(zeroOf P e).isSome=true ∧
   ((∃e',P.underlying u=some (.slice e'))∨P.underlying u=some .string∧k=1)
 | .b2s x=>∃s d e,o.op=.convert s d x∧P.underlying s=some (.slice e)∧P.underlying d=some .string∧P.underlying e=some (.int .u8)
 | .mlk sh z ok m k=>∃t kt e,o.op=.lookup t m k ok∧P.underlying t=some (.map kt e)∧shapeOf P kt=some sh∧zeroOf P e=some z
 | .mup sh m k x=>∃t kt e,(o.op=.mapUpdate t m k x∨o.op=.insert t m k x)∧P.underlying t=some (.map kt e)∧shapeOf P kt=some sh
 | .nxt x=>o.op=.next x true
 | .call f xs=>∃c,o.op=.call c∧c.callee=.value f∧c.args.toList=xs
 | .inv r tb xs=>∃c m,o.op=.call c∧c.callee=.invoke r m∧tb=tableOf P m∧c.args.toList=xs
 | .dfr f xs=>∃c,o.op=.defer c∧c.callee=.value f∧c.args.toList=xs
 | .pnc x=>o.op=.panic x
 | .clr zero x=>∃c t e z,o.op=.call c∧c.callee=.builtin .clear∧c.args=#[x]∧c.argTypes=#[t]∧Go.Pi.elemOf P t=some e∧zeroOf P e=some z∧zero=z.cells.toList∧0 < P.cellsOf e
 | _=>True

theorem came {P:Program}{L:List Tmp}{o:Oper}{p:POp}(hc:comp P L o=some p):Came P o p:=by
 cases ho:o.op with
 | alloc t =>
  simp only [comp,ho,Option.bind_eq_some_iff] at hc
  obtain ⟨z,hz,hc⟩:=hc
  split at hc
  ·split at hc
   ·cases hc; exact ⟨ho,hz⟩
   ·cases hc; trivial
  ·cases hc
 | box t x =>
  simp only [comp,ho] at hc
  split at hc
  ·cases hc; exact ho
  ·cases hc; trivial
 | buildSlice t len ps =>
  simp only [comp,ho,Option.bind_eq_some_iff] at hc
  obtain ⟨e,he,z,hz,hc⟩:=hc
  split at hc
  ·rename_i hh
   split at hc
   ·cases hc; exact ⟨t,z,by simpa using ho,he,hz,rfl,rfl,hh⟩
   ·cases hc; trivial
  ·cases hc
 | load t a=>simp only [comp,ho] at hc; split at hc <;> cases hc; rename_i hk; exact ⟨t,ho,hk,rfl⟩
 | store t a x=>simp only [comp,ho] at hc; split at hc <;> cases hc; rename_i hk; exact ⟨t,ho,hk,rfl⟩
 | makeMap t r =>
  simp only [comp,ho] at hc
  split at hc
  ·simp only [Option.map_eq_some_iff] at hc; obtain ⟨_,_,hc⟩:=hc; subst hc; trivial
  ·simp only [Option.map_eq_some_iff] at hc; obtain ⟨_,_,hc⟩:=hc; subst hc; trivial
  ·cases hc
 | makeSlice t l c =>
  simp only [comp,ho,Option.bind_eq_some_iff] at hc
  obtain ⟨_,_,_,_,hc⟩:=hc
  split at hc <;> cases hc; trivial
 | range t x=>simp only [comp,ho] at hc; split at hc <;> cases hc; trivial
 | convert s d x =>
  simp only [comp,ho] at hc
  split at hc
  ·cases hc; trivial
  ·cases hc; trivial
  ·split at hc <;> cases hc; trivial
  ·rename_i e hs hd
   split at hc
   ·rename_i he; cases hc; exact ⟨s,d,e,ho,hs,hd,he⟩
   ·cases hc
  ·cases hc
 | build t ps =>
  simp only [comp,ho] at hc
  split at hc
  ·split at hc
   ·cases hc
   ·simp only [Option.map_eq_some_iff] at hc
    obtain ⟨_,_,hc⟩:=hc
    subst hc; trivial
  ·split at hc <;> cases hc; trivial
  ·cases hc
 | binOp op t x y b =>
  simp only [comp,ho,compBin] at hc
  split at hc
  ·cases hc; trivial
  ·cases hc; trivial
  ·split at hc <;> cases hc <;> trivial
  ·simp only [Option.bind_eq_some_iff] at hc
   obtain ⟨_,_,hc⟩:=hc
   split at hc <;> cases hc <;> trivial
  ·simp only [Option.bind_eq_some_iff] at hc
   obtain ⟨_,_,hc⟩:=hc
   split at hc <;> cases hc <;> trivial
  ·cases hc
 | unOp op t x=>cases op <;> simp only [comp,ho] at hc <;> cases hc <;> trivial
 | makeInterface t x=>simp only [comp,ho] at hc; split at hc <;> cases hc; trivial
 | makeFunc fn first cap =>
  cases fn <;> simp only [comp,ho] at hc
  ·split at hc <;> cases hc; trivial
  ·split at hc <;> cases hc; trivial
  all_goals cases hc
 | slice t x lo hi mx =>
  cases mx with
  | some m=>simp [comp,ho] at hc
  | none =>
   simp only [comp,ho] at hc
   split at hc
   ·cases hc; trivial
   ·split at hc <;> cases hc; trivial
   ·cases hc
 | fieldAddr t x i =>
  simp only [comp,ho] at hc
  split at hc
  ·simp only [Option.bind_eq_some_iff] at hc
   obtain ⟨_,_,hc⟩:=hc
   split at hc <;> cases hc; trivial
  ·cases hc
 | field t x i =>
  simp only [comp,ho] at hc
  split at hc
  ·simp only [Option.bind_eq_some_iff] at hc
   obtain ⟨_,_,hc⟩:=hc
   split at hc <;> cases hc; trivial
  ·cases hc
 | indexAddr t x y =>
  simp only [comp,ho] at hc
  split at hc
  ·split at hc <;> cases hc; trivial
  ·split at hc <;> cases hc; trivial
  ·cases hc
 | index t x y =>
  simp only [comp,ho] at hc
  split at hc
  ·cases hc; trivial
  ·split at hc <;> cases hc; trivial
  ·cases hc
 | typeAssert x u t ok =>
  cases ok <;> simp only [comp,ho] at hc
  ·cases hc
  ·split at hc
   ·cases hc
   ·cases hc
   ·simp only [Option.map_eq_some_iff] at hc
    obtain ⟨_,_,hc⟩:=hc
    subst hc; trivial
 | lookup t m k ok =>
  simp only [comp,ho] at hc
  split at hc
  ·rename_i kt e ht
   simp only [Option.bind_eq_some_iff,Option.map_eq_some_iff] at hc
   obtain ⟨sh,hsh,z,hz,hc⟩:=hc
   subst hc; exact ⟨t,kt,e,ho,ht,hsh,hz⟩
  ·cases hc
 | mapUpdate t m k x =>
  simp only [comp,ho] at hc
  split at hc
  ·rename_i kt e ht
   simp only [Option.map_eq_some_iff] at hc; obtain ⟨sh,hsh,hc⟩:=hc; subst hc; exact ⟨t,kt,e,.inl ho,ht,hsh⟩
  ·cases hc
 | insert t m k x =>
  simp only [comp,ho] at hc
  split at hc
  ·rename_i kt e ht
   simp only [Option.map_eq_some_iff] at hc; obtain ⟨sh,hsh,hc⟩:=hc; subst hc; exact ⟨t,kt,e,.inr ho,ht,hsh⟩
  ·cases hc
 | next x b=>cases b <;> simp [comp,ho] at hc; subst hc; exact ho
 | defer c =>
  simp only [comp,ho] at hc
  split at hc
  ·rename_i f hf; cases hc; exact ⟨c,ho,hf,rfl⟩
  ·cases hc
 | panic x=>simp only [comp,ho] at hc; cases hc; exact ho
 | call c =>
  have hargs':∀l,c.args.toList=l→c.args=l.toArray:=fun l h=>by rw [←h]
  simp only [comp,ho] at hc
  unfold compCall at hc
  split at hc
  ·rename_i s x hcal hargs
   split at hc
   ·rename_i t u htu
    have htu':c.argTypes=#[t,u]:=by rw [←Array.toList_inj]; exact htu
    split at hc
    ·rename_i e e' he he'
     split at hc
     ·rename_i hh; cases hc; exact ⟨c,t,u,ho,hcal,hargs' _ hargs,htu',he,rfl,hh.1,hh.2.1,hh.2.2,.inl ⟨_,he'⟩⟩
     ·cases hc
    ·rename_i e he he'
     split at hc
     ·rename_i hh; cases hc; exact ⟨c,t,u,ho,hcal,hargs' _ hargs,htu',he,rfl,hh.1,by omega,hh.2.2,.inr ⟨he',hh.2.1⟩⟩
     ·cases hc
    ·cases hc
   ·cases hc
  ·split at hc <;> cases hc <;> trivial
  ·rename_i x hcal hargs
   split at hc
   ·rename_i t ht
    simp only [Option.bind_eq_some_iff] at hc
    obtain ⟨e,he,z,hz,hc⟩:=hc
    split at hc
    ·rename_i h0; cases hc
     exact ⟨c,t,e,z,ho,hcal,hargs' _ hargs,by rw [←Array.toList_inj]; exact ht,he,hz,rfl,h0⟩
    ·cases hc
   ·cases hc
  ·cases hc; trivial
  ·cases hc; trivial
  ·rename_i f hcal; cases hc; exact ⟨c,ho,hcal,rfl⟩
  ·rename_i r m hcal; cases hc; exact ⟨c,m,ho,hcal,rfl,rfl⟩
  ·cases hc
 | _=>first | (simp [comp,ho] at hc; done) | (simp [comp,ho] at hc; subst hc; trivial)

end Go.Pi
