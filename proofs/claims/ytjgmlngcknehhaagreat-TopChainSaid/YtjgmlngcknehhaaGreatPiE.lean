/- Operations, as the model carries them out: the frame's own variables, loads, stores, and others. -/
import Derived.Laws.BytesString
import Derived.ChangeKeysEq
import Derived.Test.YtjgmlngcknehhaaGreatPiD
set_option linter.all false
namespace Go.Pi
open Go

section
variable {E:Ent} {F:Fence} {n:Nat} {φ:Map} {lm:LMap} {s:St} {a:Act} {w:World} {o:Oper} {R:Map→Prop}
variable {L:List Tmp} {call:CallT} {e:Ex} {s1:St} {g:Option (Tmp×Bool)}

theorem lal_spec {d:Tmp}{ob:PObj}{v:Nat→Value}(h:lal s d ob v=some (e,s1)):putO { s with S:=sset s.S d ((sget s.S d).1+1,ob) } (some d) (v ((sget s.S d).1+1))=some (e,s1):=h

theorem SR.lalCells (h:SR E φ lm s a w){cs cs':List Value}{d:Nat}{t:TypeId}(hv:VRs φ cs cs')(h1:cs.all one=true){w':World}(hw:w'.heap=w.heap.push (.cells cs'.toArray t)∧w'.os=w.os∧w'.output=w.output) :
  SR E φ (lupd lm d ((sget s.S d).1+1) w.heap.size) { s with S:=sset s.S d ((sget s.S d).1+1,.cells cs) } a w':=by
 refine h.lal hw ?_ fun j _=>frozen_new hw.1 j
 have:=hv.objR (P:=E.P) h1 w.heap.size t (0,0) []
 simpa [sizOf] using this

theorem lupd_self (lm:LMap)(d g b:Nat):lupd lm d g b d g=some b:=by simp [lupd]

theorem op_lbox {t:TypeId}{x:Operand}(hF:∀f,F.fn f)(h:SR E φ lm s a w)(hc:comp E.P L o=some (.lbox t x))(hx:o.op.operands.toList.all opndOk=true)(hr:opR call ⟨o.dst,.lbox t x,g⟩ s=some (e,s1)) :
  OpG E F n o a w e s1 (·=φ):=by
 have hnd:=comp_v_not_defer hc fun _ _ h=>by cases h
 have ho:o.op=.box t x:=came hc
 have hxx:=h.opnds hx x (by simp [ho,Op.operands])
 simp only [opR] at hr
 cases hd:o.dst with
 | none=>simp [hd] at hr
 | some d =>
  simp only [hd] at hr
  split at hr
  ·cases hr
  ·rename_i hl
   simp only [Bool.or_eq_true,Bool.not_eq_true',not_or,Bool.not_eq_false,Bool.not_eq_true] at hl
   have hxv:=(hxx.to_vr hl.1).cellsL hl.2
   have hrun:(execOp a.eval o).run E.P w=.ok (.value (.pointer (some ⟨w.heap.size,0,none⟩))) { w with heap:=w.heap.push (.cells (a.eval x).cells t) }:=by
    simp [execOp,ho,Instr.box,newVar,newRow]
   have hs:=h.lalCells (d:=d) (t:=t) hxv hl.2 (w':={ w with heap:=w.heap.push (.cells (a.eval x).cells t) }) (by simp)
   refine .value hF hnd hrun hs (by rw [hd]; exact lal_spec hr) ?_ rfl
   exact .ptr d 0 _ _ (lupd_self _ _ _ _)

theorem op_lalloc {t:TypeId}{z:Value}(hF:∀f,F.fn f)(h:SR E φ lm s a w)(hc:comp E.P L o=some (.lalloc t z))(hr:opR call ⟨o.dst,.lalloc t z,g⟩ s=some (e,s1)) :
  OpG E F n o a w e s1 (·=φ):=by
 have hnd:=comp_v_not_defer hc fun _ _ h=>by cases h
 obtain ⟨ho,hz⟩:o.op=.alloc t∧zeroOf E.P t=some z:=came hc
 obtain ⟨i,hi,hiz,hz1,hz2,hz3⟩:=zeroOf_spec hz
 simp only [opR] at hr
 cases hd:o.dst with
 | none=>simp [hd] at hr
 | some d =>
  simp only [hd] at hr
  have hxv:VRs φ z.cells.toList z.cells.toList:=(flat_refl φ 8 z hz3).cellsL hz1
  have hrun:(execOp a.eval o).run E.P w=.ok (.value (.pointer (some ⟨w.heap.size,0,none⟩))) { w with heap:=w.heap.push (.cells z.cells t) }:=by
   simp [execOp,ho,Instr.alloc,zeroOf_run hz,newVar,newRow]
  have hs:=h.lalCells (d:=d) (t:=t) hxv hz1 (w':={ w with heap:=w.heap.push (.cells z.cells t) }) (by simp)
  refine .value hF hnd hrun hs (by rw [hd]; exact lal_spec hr) ?_ rfl
  exact .ptr d 0 _ _ (lupd_self _ _ _ _)

theorem op_lbs {t:TypeId}{k:Nat}{zero:List Value}{len:Nat}{ps:List (Nat×Operand)}(hF:∀f,F.fn f)(h:SR E φ lm s a w)(hc:comp E.P L o=some (.lbs t k zero len ps))(hx:o.op.operands.toList.all opndOk=true)(hr:opR call ⟨o.dst,.lbs t k zero len ps,g⟩ s=some (e,s1)) :
  OpG E F n o a w e s1 (·=φ):=by
 have hnd:=comp_v_not_defer hc fun _ _ h=>by cases h
 obtain ⟨tt,z,ho,he,hz,rfl,rfl,hh⟩:=came hc
 simp only [opR] at hr
 cases hd:o.dst with
 | none=>simp [hd] at hr
 | some d =>
  simp only [hd] at hr
  split at hr
  ·rename_i hl
   split at hr
   ·rename_i c hf
    have ha:bsA (E.P.cellsOf t) z.cells.toList len ps s.T=some ⟨.cells c,true,fun i=>.slice (some ⟨i,0,none⟩) len (E.P.cellsOf t)⟩:=by
     simp only [bsA,hl,if_true,hf]
    obtain ⟨l',h1,l,hl2,h2,h3,h4⟩:=bs_lays (elemOf_spec he) hz hh (fun x hxm=>h.opnds hx x (by simp [ho,Op.operands]; simpa using hxm)) ha w
    cases hl2
    have hrun:(execOp a.eval o).run E.P w=.ok (.value (.slice (some ⟨w.heap.size,0,none⟩) len len)) { w with heap:=w.heap.push (.cells l' t) }:=by
     simp only [execOp,ho,Sem.run_bind,h1]; rfl
    have hs:=h.lalCells (d:=d) (t:=t) h2 h3 (w':={ w with heap:=w.heap.push (.cells l' t) }) (by simp)
    refine .value hF hnd hrun hs (by rw [hd]; exact lal_spec hr) ?_ rfl
    exact .sl d _ len len _ (lupd_self _ _ _ _) (Nat.le_refl _)
   ·cases hr
  ·cases hr

theorem op_ld {m:Option Nat}{x:Operand}(hF:∀f,F.fn f)(h:SR E φ lm s a w)(hc:comp E.P L o=some (.ld m x))(hx:o.op.operands.toList.all opndOk=true)(hr:opR call ⟨o.dst,.ld m x,g⟩ s=some (e,s1)) :
  OpG E F n o a w e s1 (·=φ):=by
 have hnd:=comp_v_not_defer hc fun _ _ h=>by cases h
 obtain ⟨t,ho,hk,rfl⟩:=came hc
 have hxx:=h.opnds hx x (by simp [ho,Op.operands])
 simp only [opR] at hr
 split at hr
 ·rename_i p hp
  split at hr
  ·rename_i c hcell
   split at hr
   ·rename_i v hv
    rw [hp] at hxx
    obtain ⟨v',h1,h2⟩:=h.load hxx hcell hk hv
    exact .value hF hnd (by simp [execOp,ho,h1]) h hr (.vr _ _ h2) rfl
   ·cases hr
  ·cases hr
 ·cases hr

theorem op_st {m:Nat}{x y:Operand}(hF:∀f,F.fn f)(h:SR E φ lm s a w)(hc:comp E.P L o=some (.st m x y))(hx:o.op.operands.toList.all opndOk=true)(hr:opR call ⟨o.dst,.st m x y,g⟩ s=some (e,s1)) :
  OpG E F n o a w e s1 (·=φ):=by
 have hnd:=comp_v_not_defer hc fun _ _ h=>by cases h
 obtain ⟨t,ho,hk,rfl⟩:=came hc
 have hxx:=h.opnds hx x (by simp [ho,Op.operands])
 have hyy:=h.opnds hx y (by simp [ho,Op.operands])
 simp only [opR] at hr
 split at hr
 ·rename_i p hp
  rw [hp] at hxx
  split at hr
  ·cases hr
  ·rename_i hl
   simp only [Bool.or_eq_true,Bool.not_eq_true',not_or,Bool.not_eq_false,Bool.not_eq_true,bne_iff_ne,ne_eq,Decidable.not_not] at hl
   split at hr
   ·rename_i s2 hst
    have hyv:=hyy.to_vr hl.1.1
    have hcl:=hyv.cellsL hl.2
    obtain ⟨b,oo,hpv,hrun,hs⟩:=h.write hxx hcl hl.2 hst
    have hsz:(a.eval y).cells.size=E.P.cellsOf t:=by rw [←hl.1.2]; simpa using hcl.1.symm
    refine .skip hF hnd ?_ hs hr rfl
    simp only [execOp,ho,Instr.storeAt,hpv,Instr.sureAddr,Sem.run_bind,Sem.run_pure,Result.andThen_ok,storeVar,cellsOf_run (known_spec hk).2,hsz]
    rw [if_neg (by simp)]
    simp [hrun]
   ·cases hr
 ·cases hr

theorem op_clr {zero:List Value}{x:Operand}(hF:∀f,F.fn f)(h:SR E φ lm s a w)(hc:comp E.P L o=some (.clr zero x))(hx:o.op.operands.toList.all opndOk=true)(hr:opR call ⟨o.dst,.clr zero x,g⟩ s=some (e,s1)) :
  OpG E F n o a w e s1 (·=φ):=by
 have hnd:=comp_v_not_defer hc fun _ _ h=>by cases h
 obtain ⟨c,t,el,z,ho,hcal,hargs,hts,he,hz,rfl,hpos⟩:=came hc
 obtain ⟨inf,hi,hiz,hz1,hz2,hz3⟩:=zeroOf_spec hz
 have ht:=elemOf_spec he
 have hxx:=h.opnds hx x (by simp [ho,Op.operands,Call.operands,hcal,hargs])
 obtain ⟨consts,hexec⟩:=builtin_exec (P:=E.P) a.eval ho hcal w
 have hexec':(execOp a.eval o).run E.P w=((Builtin.clear_ #[t] o.type #[a.eval x]).run E.P w).andThen fun v w'=>.ok (.value v) w':=by
  rw [hexec,hargs,hts]
  simp [builtin]
 have htu:VR φ (.tuple #[]) (.tuple #[]):=.tuple _ _ rfl fun j x y hx=>by simp at hx
 simp only [opR] at hr
 split at hr
 ·rename_i l m hp
  rw [hp] at hxx
  have hxv:=hxx.to_vr rfl
  generalize a.eval x=xv at *
  cases hxv with
  | sl0 =>
   refine .value hF hnd ?_ h hr (.vr _ _ htu) rfl
   rw [hexec']
   simp [Builtin.clear_,run_underlying ht]
 ·rename_i b off l m hp
  rw [hp] at hxx
  have hxv:=hxx.to_vr rfl
  generalize a.eval x=xv at *
  cases hxv with
  | sl _ _ _ _ aa cap hle hsl =>
   split at hr
   ·rename_i hl0
    subst hl0
    refine .value hF hnd ?_ h hr (.vr _ _ htu) rfl
    rw [hexec']
    simp [Builtin.clear_,run_underlying ht]
   ·rename_i hl0
    split at hr
    ·rename_i s2 hst
     obtain ⟨sl,hsl1,rfl,_⟩:=hsl (.inl (by omega))
     have hv:VRs φ (rep l z.cells.toList) (rep l z.cells.toList):=rep_vrs _ ((flat_refl φ 8 z hz3).cellsL hz1)
     obtain ⟨b',o',hpv,hrun,hs⟩:=h.write (.vr _ _ (.ptr b off sl hsl1)) hv (rep_all _ _ hz1) hst
     simp only [Value.pointer.injEq,Option.some.injEq,Addr.mk.injEq] at hpv
     obtain ⟨rfl,rfl,_⟩:=hpv
     refine .value hF hnd ?_ hs hr (.vr _ _ htu) rfl
     rw [hexec']
     have hzc:(Builtin.zeroCells z.cells l).toList=rep l z.cells.toList:=rep_model z l (by omega)
     have hgo:(Builtin.clear_ #[t] o.type #[.slice (some ⟨sl.b,sl.o+off,none⟩) l cap]).run E.P w=.ok (.tuple #[]) (w.setCells sl.b (sl.o+off) (rep l z.cells.toList)):=by
      obtain ⟨l',rfl⟩:∃l',l=l'+1:=⟨l - 1,by omega⟩
      simp [Builtin.clear_,run_underlying ht,zeroOf_run hz,hzc,hrun]
     rw [hgo]; rfl
    ·cases hr
 ·cases hr

def Src (P:Program)(φ:Map)(w:World)(k:Nat)(xv:Value)(n:Nat)(new:List Value):Prop :=
 new.length=n*k∧(Builtin.lenOf xv).run P w=.ok n w∧∃news,VRs φ new news∧∀m,m≤n→∀w2:World,w2.heap=w.heap→(Builtin.firstCells k m xv).run P w2=.ok (news.take (m*k)).toArray w2

theorem cell_heap {w w2:World}(h:w2.heap=w.heap)(x:Addr):w2.cell? x=w.cell? x:=by simp [World.cell?,h]

theorem src_cells {P:Program}{k b o:Nat}{l c:Nat}{new:List Value}(hl:new.length=l*k)(h:∀(j:Nat) v,new[j]?=some v→∃y,w.cell? ⟨b,o+j,none⟩=some y∧VR φ v y):Src P φ w k (.slice (some ⟨b,o,none⟩) l c) l new:=by
 refine ⟨hl,by simp [Builtin.lenOf],?_⟩
 obtain ⟨ys,h1,h2⟩:=collect (φ:=φ) (Q:=fun j y=>w.cell? ⟨b,o+j,none⟩=some y) (xs:=new) (n:=0) fun j x hx=>by simpa using h j x hx
 refine ⟨ys,h1,fun m hm w2 hw2=>?_⟩
 have hle:m*k≤ys.length:=by rw [←h1.1,hl]; exact Nat.mul_le_mul_right _ hm
 have:=run_loadCells_list (P:=P) w2 ⟨b,o,none⟩ (ys.take (m*k)) fun j v hj=>by
  rw [add_none,cell_heap hw2]
  rw [List.getElem?_take] at hj
  split at hj
  ·simpa using h2 j v hj
  ·cases hj
 rw [List.length_take,Nat.min_eq_left hle] at this
 simpa [Builtin.firstCells] using this

theorem src_nil {P:Program}{k c:Nat}{aa:Option Addr}:Src P φ w k (.slice aa 0 c) 0 []:=by
 refine ⟨by simp,by simp [Builtin.lenOf],[],.nil,fun m hm w2 _=>?_⟩
 have:m=0:=by omega
 subst this
 cases aa <;> simp [Builtin.firstCells,loadCells,loadCellsFrom]

theorem SR.src (h:SR E φ lm s a w){k:Nat}{x xv:Value}(hx:TR φ lm x xv){new:List Value}(he:elemsL s k x=some new) :
  new.all one=true∧∃n,Src E.P φ w k xv n new:=by
 cases hx with
 | ptr d off g b hb=>simp [elemsL,elems] at he
 | sl d g len c b hb hlc =>
  simp only [elemsL] at he
  split at he
  ·rename_i g' cc hS
   split at he
   ·rename_i hg
    obtain ⟨rfl,hlen⟩:=hg
    cases he
    obtain ⟨b0,o0,hpv,h1,h2⟩:=h.read (p:=⟨d,0,some g'⟩) (.ptr d 0 g' b hb) (c:=new) (by simp [cellsAt,hS])
    cases hpv
    refine ⟨h1,len,src_cells hlen fun j v hj=>?_⟩
    obtain ⟨y,hy,hyv⟩:=h2 j v (by simpa using hj)
    exact ⟨y,by simpa using hy,hyv⟩
   ·cases he
  ·cases he
 | vr _ _ hx =>
  cases hx with
  | str bs =>
   simp only [elemsL,elems] at he
   split at he
   case isFalse=>cases he
   rename_i hk
   subst hk
   simp only [Option.some.injEq] at he
   subst he
   refine ⟨by rw [List.all_eq_true]; intro x hx; simp only [List.mem_map] at hx; obtain ⟨c,_,rfl⟩:=hx; rfl,bs.size,?_,by simp [Builtin.lenOf],bs.data.toList.map fun b=>.int .u8 b.toNat,?_,fun m hm w2 _=>?_⟩
   ·simp
   ·refine ⟨rfl,fun j x y hx hy=>?_⟩
    rw [hx] at hy; cases hy
    simp only [List.getElem?_map,Option.map_eq_some_iff] at hx
    obtain ⟨c,_,rfl⟩:=hx
    exact .int _ _
   ·simp only [Builtin.firstCells,Sem.run_pure,Nat.mul_one]
    congr 1
    apply Array.toList_inj.1
    have hex:(bs.extract 0 m).data=bs.data.extract 0 m:=by simp
    simp only [Array.toList_map,hex]
    rw [List.toList_toArray,←List.map_take]
    congr 1
    simp
  | sl0 =>
   simp only [elemsL,elems,Option.some.injEq] at he
   subst he
   exact ⟨rfl,0,src_nil⟩
  | sl i off l m aa c hlc hp =>
   have he':elems s.H k (.slice (some ⟨i,off,none⟩) l m)=some new:=by
    have:elemsL s k (.slice (some ⟨i,off,none⟩) l m)=elems s.H k (.slice (some ⟨i,off,none⟩) l m):=by
     unfold elemsL
     split
     ·rename_i heq; cases heq
     ·rfl
    rw [←this]; exact he
   simp only [elems] at he'
   split at he'
   ·rename_i hl
    cases he'
    subst hl
    exact ⟨rfl,0,src_nil⟩
   ·rename_i hl
    split at he'
    ·rename_i c0 _ hc0
     split at he'
     ·rename_i hle
      cases he'
      obtain ⟨sl,h1,h2,_⟩:=hp (.inl (by omega))
      subst h2
      obtain ⟨b0,o0,hpv,h3,h4⟩:=h.read (p:=⟨i,off,none⟩) (.vr _ _ (.ptr i off sl h1)) (c:=c0) (by simpa [cellsAt] using hc0)
      cases hpv
      refine ⟨?_,l,src_cells (by simp; omega) fun j v hj=>?_⟩
      ·rw [List.all_eq_true] at h3 ⊢
       exact fun x hx=>h3 x (List.mem_of_mem_drop (List.mem_of_mem_take hx))
      ·rw [List.getElem?_take] at hj
       split at hj
       ·rw [List.getElem?_drop] at hj; exact h4 j v hj
       ·cases hj
     ·cases he'
    ·cases he'
  | _=>simp [elemsL,elems,junk] at he

end
end Go.Pi
namespace Go.Pi
open Go

section
variable {E:Ent} {F:Fence} {n:Nat} {φ:Map} {lm:LMap} {s:St} {a:Act} {w:World} {o:Oper} {R:Map→Prop}
variable {L:List Tmp} {call:CallT} {e:Ex} {s1:St} {g:Option (Tmp×Bool)}

theorem bytesOf_spec:∀{new:List Value} {bs:List UInt8},bytesOf new=some bs→∃ns:List Int,new=ns.map (Value.int .u8)∧bs=ns.map fun n=>UInt8.ofNat n.toNat:=by
 intro new
 induction new with
 | nil=>intro bs h; simp [bytesOf] at h; subst h; exact ⟨[],rfl,rfl⟩
 | cons v new ih =>
  intro bs h
  unfold bytesOf at h
  split at h
  ·rename_i heq; cases heq
  ·rename_i n r heq
   cases heq
   simp only [Option.map_eq_some_iff] at h
   obtain ⟨l,hl,rfl⟩:=h
   obtain ⟨ns,h1,h2⟩:=ih hl
   exact ⟨n :: ns,by rw [h1]; rfl,by rw [h2]; rfl⟩
  ·cases h

theorem VRs.ints {ns:List Int}{k:IntKind}{ys:List Value}(h:VRs φ (ns.map (Value.int k)) ys):ys=ns.map (Value.int k):=by
 apply List.ext_getElem?
 intro j
 cases hx:(ns.map (Value.int k))[j]? with
 | none =>
  have hl:=List.getElem?_eq_none_iff.1 hx
  exact List.getElem?_eq_none_iff.2 (h.1 ▸ hl)
 | some x =>
  obtain ⟨y,hy,hv⟩:=h.get hx
  rw [hy]
  simp only [List.getElem?_map,Option.map_eq_some_iff] at hx
  obtain ⟨m,_,rfl⟩:=hx
  rw [hv.int']

theorem fold_push (ns:List Int):∀(s:ByteArray),ns.foldl (fun r n=>r.push (UInt8.ofNat n.toNat)) s=⟨s.data++(ns.map fun n=>UInt8.ofNat n.toNat).toArray⟩:=by
 induction ns with
 | nil=>intro s; simp
 | cons n ns ih =>
  intro s
  rw [List.foldl_cons,ih]
  simp [ByteArray.push]

theorem op_b2s {x:Operand}(hF:∀f,F.fn f)(h:SR E φ lm s a w)(hc:comp E.P L o=some (.b2s x))(hx:o.op.operands.toList.all opndOk=true)(hr:opR call ⟨o.dst,.b2s x,g⟩ s=some (e,s1)) :
  OpG E F n o a w e s1 (·=φ):=by
 have hnd:=comp_v_not_defer hc fun _ _ h=>by cases h
 obtain ⟨sT,d,el,ho,h1,h2,h3⟩:=came hc
 have hxx:=h.opnds hx x (by simp [ho,Op.operands])
 simp only [opR] at hr
 split at hr
 ·rename_i aa l m hxe
  split at hr
  ·rename_i bs hb
   simp only [Option.bind_eq_some_iff] at hb
   obtain ⟨new,hnew,hbs⟩:=hb
   rw [hxe] at hxx
   obtain ⟨_,nn,hsl,hln,news,hnv,hfirst⟩:=h.src hxx hnew
   obtain ⟨ns,rfl,rfl⟩:=bytesOf_spec hbs
   have hn:=hnv.ints
   subst hn
   refine .value hF hnd (v':=.string ⟨(ns.map fun n=>UInt8.ofNat n.toNat).toArray⟩) ?_ h hr (.vr _ _ (.str _)) rfl
   generalize hxv:a.eval x=xv at *
   have hslice:∃aa' l' c',xv=.slice aa' l' c':=by
    cases hxx with
    | vr _ _ hh=>cases hh <;> exact ⟨_,_,_,rfl⟩
    | sl=>exact ⟨_,_,_,rfl⟩
   obtain ⟨aa',l',c',rfl⟩:=hslice
   simp only [Builtin.lenOf,Sem.run_pure,Result.ok.injEq,and_true] at hln
   subst hln
   have hcv:(execOp a.eval o).run E.P w=((Conv.bytesToString (.slice aa' l' c')).run E.P w).andThen fun v w=>.ok (.value v) w:=by
    simp only [execOp,ho,hxv,Sem.run_bind,run_convert_bytes_string w sT d el aa' l' c' h1 h3 h2]
    rfl
   rw [hcv]
   cases aa' with
   | none =>
    have hf:=hfirst l' (Nat.le_refl _) w rfl
    simp only [Builtin.firstCells,Sem.run_pure,Result.ok.injEq,and_true] at hf
    have hl0:l'=0:=by
     rcases Nat.eq_zero_or_pos l' with h0 | h0
     ·exact h0
     ·exfalso
      have h4:((ns.map (Value.int .u8)).take (l'*1)).length=0:=by
       have:=congrArg Array.size hf
       simpa using this.symm
      rw [List.length_take,hsl] at h4
      omega
    subst hl0
    simp only [Nat.zero_mul,List.length_map,List.length_eq_zero_iff] at hsl
    subst hsl
    simp [Conv.bytesToString]
    rfl
   | some ad =>
    have hf:=hfirst l' (Nat.le_refl _) w rfl
    simp only [Builtin.firstCells] at hf
    have htake:(ns.map (Value.int .u8)).take (l'*1)=ns.map (Value.int .u8):=List.take_of_length_le (by rw [hsl]; exact Nat.le_refl _)
    rw [htake,Nat.mul_one] at hf
    rw [run_bytesToString w ad l' c' ns hf,fold_push]
    simp
  ·cases hr
 ·cases hr

theorem op_pnc {x:Operand}(hF:∀f,F.fn f)(h:SR E φ lm s a w)(hc:comp E.P L o=some (.pnc x))(hx:o.op.operands.toList.all opndOk=true)(hr:opR call ⟨o.dst,.pnc x,g⟩ s=some (e,s1)) :
  OpG E F n o a w e s1 (·=φ):=by
 have hnd:=comp_v_not_defer hc fun _ _ h=>by cases h
 have ho:o.op=.panic x:=came hc
 have hxx:=h.opnds hx x (by simp [ho,Op.operands])
 simp only [opR] at hr
 split at hr
 ·rename_i t v hxe
  cases hr
  rw [hxe] at hxx
  have hxv:=hxx.to_vr rfl
  generalize hev:a.eval x=xv at *
  cases hxv with
  | iface _ _ y hy =>
   refine ⟨fun f _=>hF f,?_⟩
   have hrun:(execOp a.eval o).run E.P w=.halt (.panic (.iface t y)) w:=by simp [execOp,ho,hev,Instr.panic]
   rw [Oper.semAt_eq _ _ _ hnd,hrun]
   exact ⟨.iface t v,.iface t y,φ,lm,rfl,rfl,.iface t _ _ hy,rfl,h⟩
 ·cases hr

theorem op_nxt {x:Operand}(hF:∀f,F.fn f)(h:SR E φ lm s a w)(hc:comp E.P L o=some (.nxt x))(hx:o.op.operands.toList.all opndOk=true)(hr:opR call ⟨o.dst,.nxt x,g⟩ s=some (e,s1)) :
  OpG E F n o a w e s1 (·=φ):=by
 have hnd:=comp_v_not_defer hc fun _ _ h=>by cases h
 have ho:o.op=.next x true:=came hc
 have hxx:=h.opnds hx x (by simp [ho,Op.operands])
 simp only [opR] at hr
 split at hr
 ·rename_i i hxe
  rw [hxe] at hxx
  have hxv:=hxx.to_vr rfl
  generalize hev:a.eval x=xv at *
  split at hr
  ·rename_i b pos hH
   cases hxv with
   | ptr _ _ sl hsl =>
    obtain ⟨ob,h1,h2⟩:=h.emb.obj i sl _ hsl hH rfl
    cases h2 with
    | iter _ _ _ hoff =>
     have hlt1:=(Array.getElem?_eq_some_iff.1 h1).1
     have hget:(getObj sl.b).run E.P w=.ok (.stringIter b pos) w:=by simp [getObj,Sem.run,h1]
     have hset:∀ob',(setObj sl.b ob').run E.P w=.ok () { w with heap:=w.heap.setIfInBounds sl.b ob' }:=fun ob'=>by simp [setObj,Sem.run,h1]
     split at hr
     ·rename_i hlt
      have hrun:(execOp a.eval o).run E.P w=.ok (.value (.tuple #[.bool true,goInt pos,.int .i32 (Utf8.decode b pos).1])) { w with heap:=w.heap.setIfInBounds sl.b (.stringIter b (pos+(Utf8.decode b pos).2)) }:=by
       simp only [execOp,ho,hev,Instr.next,hoff,Nat.add_zero,Sem.run_bind,hget,Result.andThen_ok,hlt,if_true,hset,Sem.run_pure]
      have hs:SR E φ lm (setB s i (.iter b (pos+(Utf8.decode b pos).2))) a { w with heap:=w.heap.setIfInBounds sl.b (.stringIter b (pos+(Utf8.decode b pos).2)) }:=by
       refine h.setH (w':={ w with heap:=w.heap.setIfInBounds sl.b (.stringIter b (pos+(Utf8.decode b pos).2)) }) (ob:=.stringIter b (pos+(Utf8.decode b pos).2)) (H':=s.H.set i { obj:=.iter b (pos+(Utf8.decode b pos).2) }) hsl (h.emb.own i sl _ hsl hH (.inl rfl)) (by simp) ⟨rfl,rfl,rfl⟩ ?_ _
       refine h.emb.put hsl hH rfl (fun k sk bk hk hsk hbk hok he=>?_) rfl (fun _=>rfl) rfl (.iter _ _ _ hoff) (fun x=>?_)
       ·exact (h.emb.sep i k sl sk _ bk (Ne.symm hk) hsl hsk hH hbk rfl hok he.symm).2.2.1 rfl
       ·simp only [World.frozen?]
        by_cases hb:x.block=sl.b
        ·rw [hb,h1]; simp [hlt1]
        ·rw [Array.getElem?_setIfInBounds_ne (Ne.symm hb)]
      refine .value hF hnd hrun hs hr (.vr _ _ ?_) rfl
      refine .tuple _ _ rfl fun j x y hx hy=>?_
      match j with
      | 0=>simp at hx hy; subst hx; subst hy; exact .bool _
      | 1=>simp at hx hy; subst hx; subst hy; exact .int _ _
      | 2=>simp at hx hy; subst hx; subst hy; exact .int _ _
      | j+3=>simp at hx
     ·rename_i hlt
      have hrun:(execOp a.eval o).run E.P w=.ok (.value (.tuple #[.bool false])) w:=by
       simp only [execOp,ho,hev,Instr.next,hoff,Nat.add_zero,Sem.run_bind,hget,Result.andThen_ok,hlt,if_false,Sem.run_pure]
      refine .value hF hnd hrun h hr (.vr _ _ ?_) rfl
      refine .tuple _ _ rfl fun j x y hx hy=>?_
      match j with
      | 0=>simp at hx hy; subst hx; subst hy; exact .bool _
      | j+1=>simp at hx
  ·cases hr
 ·cases hr

theorem op_dfr {f:Operand}{xs:List Operand}(hF:∀f,F.fn f)(hro:F.round=none)(h:SR E φ lm s a w)(hc:comp E.P L o=some (.dfr f xs))(hx:o.op.operands.toList.all opndOk=true)(hr:opR call ⟨o.dst,.dfr f xs,g⟩ s=some (e,s1)) :
  OpG E F n o a w e s1 (·=φ):=by
 obtain ⟨c,ho,hcal,hargs⟩:=came hc
 have hops:∀x∈f :: xs,TR φ lm (ev s.T x) (a.eval x):=fun x hxm=>h.opnds hx x (by simp [ho,Op.operands,Call.operands,hcal,←hargs] at hxm ⊢; exact hxm)
 simp only [opR] at hr
 split at hr
 ·cases hr
 ·rename_i hl
  simp only [Bool.or_eq_true,not_or,Bool.not_eq_true,Bool.not_eq_eq_eq_not,Bool.not_true,Bool.not_false] at hl
  have hl2:(xs.map (ev s.T)).all (fun v=>!isLoc v)=true:=by simpa using hl.2
  have hxs:=VRs.map_ev (fun x hxm=>hops x (by simp [hxm])) hl2
  split at hr
  ·rename_i gg args hfa
   have hf:=hops f (by simp)
   generalize hfe:ev s.T f=fv at *
   generalize hfm:a.eval f=fm at *
   cases hf with
   | ptr=>simp [fnArgs] at hfa
   | sl=>simp [fnArgs] at hfa
   | vr _ _ hf =>
    cases hf with
    | func f0 a0 a0' c0 c0' k1 k2 k3 k4 =>
     simp only [fnArgs,Option.some.injEq,Prod.mk.injEq,Fn.func.injEq] at hfa
     obtain ⟨rfl,rfl⟩:=hfa
     have hres:(execOp a.eval o).run E.P w=.ok (.defer { target:=.fn (.func f0) c0',args:=a0'++c.args.map a.eval }) w:=by
      simp only [execOp,ho,resolve,hcal,hfm,Deferred.ofValue,Sem.run_bind,Sem.run_pure,Result.andThen_ok]
     obtain ⟨hen,hp⟩:=putO_put hr
     subst hen
     have hvr1:VRs φ a0.toList a0'.toList:=⟨by simpa using k1,fun j x y hx hy=>k2 j x y (by simpa using hx) (by simpa using hy)⟩
     have hvr2:VRs φ c0.toList c0'.toList:=⟨by simpa using k3,fun j x y hx hy=>k4 j x y (by simpa using hx) (by simpa using hy)⟩
     have hdef:DefR φ (.call (.func f0) (a0.toList++xs.map (ev s.T)++c0.toList)) { target:=.fn (.func f0) c0',args:=a0'++c.args.map a.eval }:=by
      refine ⟨c0',_,rfl,?_⟩
      have:(a0'++c.args.map a.eval++c0').toList=a0'.toList++xs.map a.eval++c0'.toList:=by simp [←hargs]
      rw [this]
      exact (hvr1.append hxs).append hvr2
     have hs:SR E φ lm { s with D:=.call (.func f0) (a0.toList++xs.map (ev s.T)++c0.toList) :: s.D } { a with defers:={ target:=.fn (.func f0) c0',args:=a0'++c.args.map a.eval } :: a.defers } w :=
      ⟨h.emb,h.ext,h.loc,h.siz,h.env,.cons _ _ _ _ hdef h.dfr,h.hB,h.dom⟩
     refine ⟨fun f _=>hF f,?_⟩
     rw [hro,Oper.semAt_none,hres]
     exact ⟨rfl,φ,lm,rfl,hs.put (.vr _ _ (VR.undef φ)) hp⟩
    | yield l sl hsl=>simp [fnArgs] at hfa
    | _=>simp [fnArgs,junk] at hfa
  ·cases hr

end
end Go.Pi
namespace Go.Pi
open Go

section
variable {E:Ent} {F:Fence} {n:Nat} {φ:Map} {lm:LMap} {s:St} {a:Act} {w:World} {o:Oper} {R:Map→Prop}
variable {L:List Tmp} {call:CallT} {e:Ex} {s1:St} {g:Option (Tmp×Bool)} {P:Program}

theorem checkKey_plain {t:TypeId}{k:PK}(h:pkOf P t=some k){v:Value}(hv:k.has v=true)(em:Bool)(d:Nat)(w:World):(Instr.checkKey em (d+1) t v).run P w=.ok () w:=by
 unfold pkOf at h
 split at h
 ·rename_i ht
  cases h
  cases v <;> simp [PK.has] at hv
  simp [Instr.checkKey,run_underlying ht]
 ·rename_i ht
  cases h
  cases v <;> simp [PK.has] at hv
  simp [Instr.checkKey,run_underlying ht]
 ·cases h

theorem checkFields {fs:List Field}{ks:List PK}(hk:fs.mapM (fun f=>pkOf P f.type)=some ks)(em:Bool)(d:Nat)(w:World):∀(n:Nat) (xs:Array Value),
  (∀(j:Nat) f,fs[j]?=some f→f.offset=n+j∧f.name ≠ "_")→hasAll ks (xs.toList.drop n)=true →
  (forIn fs PUnit.unit (fun f (_:PUnit)=>if f.name ≠ "_" then (do Instr.checkKey em (d+1) f.type (←part f.type xs f.offset); pure (ForInStep.yield PUnit.unit)) else pure (ForInStep.yield PUnit.unit)):Sem PUnit).run P w=.ok PUnit.unit w:=by
 induction fs generalizing ks with
 | nil=>intro n xs _ _; simp
 | cons f fs ih =>
  intro n xs hf hx
  simp only [List.mapM_cons,Option.bind_eq_bind,Option.bind_eq_some_iff,Option.pure_def,Option.some.injEq] at hk
  obtain ⟨k,hk1,ks',hk2,rfl⟩:=hk
  obtain ⟨hoff,hname⟩:=hf 0 f rfl
  have h1:∃z,xs[n]?=some z∧k.has z=true∧hasAll ks' (xs.toList.drop (n+1))=true:=by
   cases hd:xs.toList.drop n with
   | nil=>rw [hd] at hx; simp [hasAll] at hx
   | cons z r =>
    rw [hd] at hx
    simp only [hasAll,Bool.and_eq_true] at hx
    have hr:xs.toList.drop (n+1)=r:=by rw [←List.drop_drop,hd]; rfl
    have hzn:xs[n]?=some z:=by
     have:(xs.toList.drop n)[0]?=some z:=by rw [hd]; rfl
     simpa using this
    exact ⟨z,hzn,hx.1,by rw [hr]; exact hx.2⟩
  obtain ⟨z,hz1,hz2,hz3⟩:=h1
  have ih':=ih hk2 (n+1) xs (fun j g hg=>by
   have:=hf (j+1) g (by simpa using hg)
   exact ⟨by rw [this.1]; omega,this.2⟩) hz3
  simp only [List.forIn_cons,Sem.run_bind,hname,ne_eq,not_false_eq_true,if_true,hoff,Nat.add_zero]
  rw [run_part_plain hk1 xs n z hz1,Result.andThen_ok,checkKey_plain hk1 hz2]
  simp only [Result.andThen_ok,Sem.run_pure]
  exact ih'

theorem hasAll_append:∀{ks ks':List PK} {xs:List Value},hasAll (ks++ks') xs=true→hasAll ks (xs.take ks.length)=true∧hasAll ks' (xs.drop ks.length)=true∧ks.length≤xs.length
 | [],_,xs,h=>⟨rfl,h,Nat.zero_le _⟩
 | k :: ks,ks',[],h=>by simp [hasAll] at h
 | k :: ks,ks',x :: xs,h=>by
  simp only [List.cons_append,hasAll,Bool.and_eq_true] at h
  obtain ⟨h1,h2,h3⟩:=hasAll_append h.2
  simp only [List.length_cons,List.take_succ_cons,List.drop_succ_cons,hasAll,Bool.and_eq_true]
  exact ⟨⟨h.1,h1⟩,h2,by omega⟩

theorem eqs_append:∀{a b c d:List Value},a.length=c.length→eqs (a++b) (c++d)=(eqs a c&&eqs b d)
 | [],b,[],d,_=>by simp [eqs]
 | x :: a,b,y :: c,d,h=>by
  simp only [List.cons_append,eqs,Bool.and_assoc]
  rw [eqs_append (by simpa using h)]
 | [],_,_ :: _,_,h=>by simp at h
 | _ :: _,_,[],_,h=>by simp at h

theorem eqs_split {n:Nat}{xs ys:List Value}(hx:n≤xs.length)(hy:n≤ys.length):eqs xs ys=(eqs (xs.take n) (ys.take n)&&eqs (xs.drop n) (ys.drop n)):=by
 conv=>lhs; rw [←List.take_append_drop n xs,←List.take_append_drop n ys]
 rw [eqs_append (by simp; omega)]

theorem pks_length {fs:List Field}{ks:List PK}(h:fs.mapM (fun f=>pkOf P f.type)=some ks):ks.length=fs.length:=by
 induction fs generalizing ks with
 | nil=>simp at h; subst h; rfl
 | cons f fs ih =>
  simp only [List.mapM_cons,Option.bind_eq_bind,Option.bind_eq_some_iff,Option.pure_def,Option.some.injEq] at h
  obtain ⟨k,_,ks',h2,rfl⟩:=h
  simp [ih h2]

theorem fk_part {t:TypeId}{ks:List PK}(h:fkOf P t=some ks)(cs:Array Value)(n:Nat)(hn:n+ks.length≤cs.size)(w:World) :
  (∃k x,ks=[k]∧pkOf P t=some k∧cs[n]?=some x∧(part t cs n).run P w=.ok x w) ∨
  (pksOf P t=some ks∧(part t cs n).run P w=.ok (.agg (cs.extract n (n+ks.length))) w):=by
 unfold fkOf at h
 cases hk:pkOf P t with
 | some k =>
  rw [hk] at h
  cases h
  have hlt:n < cs.size:=by simp at hn; omega
  exact .inl ⟨k,cs[n],rfl,rfl,Array.getElem?_eq_getElem hlt,run_part_plain hk cs n _ (Array.getElem?_eq_getElem hlt) w⟩
 | none =>
  rw [hk] at h
  refine .inr ⟨h,?_⟩
  obtain ⟨h1,_,_,h4,_⟩:=pksOf_spec h
  have hc:P.cellsOf t=ks.length:=by
   rw [pks_length h4]
   unfold pksOf at h
   rw [h1] at h
   simp only at h
   split at h
   ·rename_i hh
    simp only [Bool.and_eq_true,beq_iff_eq] at hh
    rw [hh.1.1.2]; simp
   ·cases h
  have hag:(isAgg t).run P w=.ok true w:=by simp [isAgg,run_underlying h1]
  obtain ⟨i,hi⟩:∃i,P.info? t=some i:=by
   cases hi:P.info? t with
   | some i=>exact ⟨i,rfl⟩
   | none =>
    exfalso
    have:P.underlying t=none:=by simp [Program.underlying,hi]
    rw [this] at h1; cases h1
  have hsz:(sizeOf t).run P w=.ok ks.length w:=by
   have:=hc
   simp only [Program.cellsOf,hi,Option.map_some,Option.getD_some] at this
   simp [sizeOf,typeInfo,hi,this]
  simp only [part,Sem.run_bind,hag,Result.andThen_ok,if_true]
  rw [hsz]
  simp only [Result.andThen_ok]
  simp [hn]

theorem take_one {zs:Array Value}{n:Nat}{z:Value}(hz:zs[n]?=some z):(zs.toList.drop n).take 1=[z]:=by
 have h1:(zs.toList.drop n)[0]?=some z:=by simpa using hz
 cases hd:zs.toList.drop n with
 | nil=>rw [hd] at h1; cases h1
 | cons a l=>rw [hd] at h1; cases h1; rfl

theorem ext_take (zs:Array Value)(n k:Nat):(zs.extract n (n+k)).toList=(zs.toList.drop n).take k:=by simp [Array.toList_extract,List.extract]

theorem pk_not_pks {t:TypeId}{k:PK}{ks:List PK}(h:pkOf P t=some k)(h':pksOf P t=some ks):False:=by
 obtain ⟨h1,_⟩:=pksOf_spec h'
 unfold pkOf at h
 rw [h1] at h
 cases h

theorem fk_eq {t:TypeId}{ks:List PK}(h:fkOf P t=some ks)(xs ys:Array Value)(n:Nat)(hx:n+ks.length≤xs.size)(hy:n+ks.length≤ys.size)
  (ha:hasAll ks ((xs.toList.drop n).take ks.length)=true) (hb:hasAll ks ((ys.toList.drop n).take ks.length)=true) (d:Nat) (w:World) :
  ∃a b,(part t xs n).run P w=.ok a w∧(part t ys n).run P w=.ok b w∧(Op.equalIn (d+1+1) t a b).run P w=.ok (eqs ((xs.toList.drop n).take ks.length) ((ys.toList.drop n).take ks.length)) w:=by
 rcases fk_part h xs n hx w with ⟨k,x,rfl,hk,hxn,hp⟩ | ⟨hk,hp⟩
 ·rcases fk_part h ys n hy w with ⟨k',y,e,_,hyn,hp'⟩ | ⟨hk',_⟩
  ·refine ⟨x,y,hp,hp',?_⟩
   simp only [List.length_cons,List.length_nil,Nat.zero_add] at ha hb ⊢
   rw [take_one hxn] at ha ⊢
   rw [take_one hyn] at hb ⊢
   simp only [hasAll,Bool.and_true] at ha hb
   rw [pkOf_has hk ha hb]
   simp [eqs]
  ·exact (pk_not_pks hk hk').elim
 ·rcases fk_part h ys n hy w with ⟨k',y,_,hk',_,_⟩ | ⟨_,hp'⟩
  ·exact (pk_not_pks hk' hk).elim
  ·obtain ⟨h1,h2,h3,h4,h5⟩:=pksOf_spec hk
   have h6:=eqFields_run h4 d w 0 (xs.extract n (n+ks.length)) (ys.extract n (n+ks.length)) h5 (by rw [List.drop_zero,ext_take]; exact ha) (by rw [List.drop_zero,ext_take]; exact hb)
   have h7:=run_equalIn_agg (P:=P) w (d+1) t (xs.extract n (n+ks.length)) (ys.extract n (n+ks.length)) h1 h2
   simp only [List.drop_zero,ext_take] at h6
   exact ⟨_,_,hp,hp',by rw [h7,h6]⟩

theorem fk_check {t:TypeId}{ks:List PK}(h:fkOf P t=some ks)(xs:Array Value)(n:Nat)(hx:n+ks.length≤xs.size)
  (ha:hasAll ks ((xs.toList.drop n).take ks.length)=true) (em:Bool) (d:Nat) (w:World) :
  ∃a,(part t xs n).run P w=.ok a w∧(Instr.checkKey em (d+1+1) t a).run P w=.ok () w:=by
 rcases fk_part h xs n hx w with ⟨k,x,rfl,hk,hxn,hp⟩ | ⟨hk,hp⟩
 ·simp only [List.length_cons,List.length_nil,Nat.zero_add] at ha
  rw [take_one hxn] at ha
  simp only [hasAll,Bool.and_true] at ha
  exact ⟨x,hp,checkKey_plain hk ha em (d+1) w⟩
 ·obtain ⟨h1,h2,h3,h4,h5⟩:=pksOf_spec hk
  have hf:=checkFields h4 em d w 0 (xs.extract n (n+ks.length)) h5 (by rw [List.drop_zero,ext_take]; exact ha)
  refine ⟨_,hp,?_⟩
  rw [Instr.checkKey]
  simp only [Sem.run_bind,run_underlying h1,Result.andThen_ok]
  rw [←Array.forIn_toList]
  simp only [bind_pure_comp,ne_eq,ite_not] at hf ⊢
  rw [hf]
  rfl

theorem flds_cons {f:Field}{fs:List Field}{ks:List PK}{n:Nat}(h:flds P n (f :: fs)=some ks):f.offset=n∧f.name ≠ "_" ∧ ∃k l,fkOf P f.type=some k∧k.length≠0∧flds P (n+k.length) fs=some l∧ks=k++l:=by
 simp only [flds] at h
 split at h
 ·rename_i hc
  simp only [Bool.and_eq_true,beq_iff_eq,bne_iff_ne,ne_eq] at hc
  simp only [Option.bind_eq_some_iff] at h
  obtain ⟨k,hk,h⟩:=h
  split at h
  ·cases h
  ·rename_i hz
   obtain ⟨l,hl,rfl⟩:=Option.map_eq_some_iff.1 h
   exact ⟨hc.1,hc.2,k,l,hk,by simpa [Nat.beq_eq] using hz,hl,rfl⟩
 ·cases h

theorem flds_eq:∀{fs:List Field} {ks:List PK} {n:Nat},flds P n fs=some ks→∀(xs ys:Array Value) (d:Nat) (w:World),hasAll ks (xs.toList.drop n)=true→hasAll ks (ys.toList.drop n)=true →
  (Op.eqFields (d+1+1) xs ys fs).run P w=.ok (eqs (xs.toList.drop n) (ys.toList.drop n)) w
 | [],ks,n,h,xs,ys,d,w,hx,hy=>by
  simp only [flds,Option.some.injEq] at h
  subst h
  have e1:∀l,hasAll [] l=true→l=[]:=fun l h=>by cases l <;> simp [hasAll] at h ⊢
  rw [e1 _ hx,e1 _ hy]
  simp [Op.eqFields,eqs]
 | f :: fs,ks,n,h,xs,ys,d,w,hx,hy=>by
  obtain ⟨hoff,hname,k,l,hk,hz,hl,rfl⟩:=flds_cons h
  obtain ⟨a1,a2,a3⟩:=hasAll_append hx
  obtain ⟨b1,b2,b3⟩:=hasAll_append hy
  rw [List.drop_drop] at a2 b2
  have ih:=flds_eq hl xs ys d w a2 b2
  simp only [List.length_drop,Array.length_toList] at a3 b3
  obtain ⟨a,b,p1,p2,p3⟩:=fk_eq hk xs ys n (by omega) (by omega) a1 b1 d w
  have e1:=eqs_split (n:=k.length) (xs:=xs.toList.drop n) (ys:=ys.toList.drop n) (by simp; omega) (by simp; omega)
  rw [List.drop_drop,List.drop_drop] at e1
  rw [e1]
  simp only [Op.eqFields,hname,ne_eq,not_false_eq_true,if_true,hoff,Sem.run_bind,p1,p2,p3,Result.andThen_ok]
  cases he:eqs ((xs.toList.drop n).take k.length) ((ys.toList.drop n).take k.length)
  ·simp
  ·simpa using ih

theorem flds_check:∀{fs:List Field} {ks:List PK} {n:Nat},flds P n fs=some ks→∀(xs:Array Value) (em:Bool) (d:Nat) (w:World),hasAll ks (xs.toList.drop n)=true →
  (forIn fs PUnit.unit (fun f (_:PUnit)=>if f.name ≠ "_" then (do Instr.checkKey em (d+1+1) f.type (←part f.type xs f.offset); pure (ForInStep.yield PUnit.unit)) else pure (ForInStep.yield PUnit.unit)):Sem PUnit).run P w=.ok PUnit.unit w
 | [],ks,n,h,xs,em,d,w,hx=>by simp
 | f :: fs,ks,n,h,xs,em,d,w,hx=>by
  obtain ⟨hoff,hname,k,l,hk,hz,hl,rfl⟩:=flds_cons h
  obtain ⟨a1,a2,a3⟩:=hasAll_append hx
  rw [List.drop_drop] at a2
  have ih:=flds_check hl xs em d w a2
  simp only [List.length_drop,Array.length_toList] at a3
  obtain ⟨a,p1,p2⟩:=fk_check hk xs n (by omega) a1 em d w
  simp only [List.forIn_cons,Sem.run_bind,hname,ne_eq,not_false_eq_true,if_true,hoff]
  rw [p1,Result.andThen_ok,p2]
  simp only [Result.andThen_ok,Sem.run_pure]
  exact ih

theorem shapeOf_cases {t:TypeId}{sh:Shape}(h:shapeOf P t=some sh):(∃k,sh=.one k∧pkOf P t=some k)∨(∃ks,sh=.agg ks∧(pksOf P t=some ks∨pks2Of P t=some ks∨pkaOf P t=some ks)):=by
 unfold shapeOf at h
 split at h
 ·cases h; exact .inl ⟨_,rfl,by assumption⟩
 ·split at h
  ·cases h; exact .inr ⟨_,rfl,.inl (by assumption)⟩
  ·split at h
   ·cases h; exact .inr ⟨_,rfl,.inr (.inl (by assumption))⟩
   ·simp only [Option.map_eq_some_iff] at h
    obtain ⟨ks,h1,rfl⟩:=h
    exact .inr ⟨ks,rfl,.inr (.inr h1)⟩

theorem pkaOf_spec {t:TypeId}{ks:List PK}(h:pkaOf P t=some ks):∃n e k i,P.underlying t=some (.array n e)∧pkOf P e=some k∧ks=List.replicate n k∧P.info? e=some i∧P.cellsOf e=1:=by
 unfold pkaOf at h
 split at h
 ·rename_i n e ht
  split at h
  ·rename_i hc
   simp only [Bool.and_eq_true,beq_iff_eq] at hc
   obtain ⟨i,hi⟩:=Option.isSome_iff_exists.1 hc.2
   obtain ⟨k,hk,rfl⟩:=Option.map_eq_some_iff.1 h
   exact ⟨n,e,k,i,ht,hk,rfl,hi,hc.1⟩
  ·cases h
 ·cases h
theorem arr_cell {k:PK}{m i:Nat}{zs:Array Value}(hz:hasAll (List.replicate (m+1) k) (zs.toList.drop i)=true):∃z,zs[i]?=some z∧k.has z=true∧zs.toList.drop i=z :: zs.toList.drop (i+1)∧hasAll (List.replicate m k) (zs.toList.drop (i+1))=true:=by
 rw [List.replicate_succ] at hz
 cases hd:zs.toList.drop i with
 | nil=>rw [hd] at hz; simp [hasAll] at hz
 | cons z r =>
  rw [hd] at hz
  simp only [hasAll,Bool.and_eq_true] at hz
  have hr:zs.toList.drop (i+1)=r:=by rw [←List.drop_drop,hd]; rfl
  have hzn:zs[i]?=some z:=by
   have:(zs.toList.drop i)[0]?=some z:=by rw [hd]; rfl
   simpa using this
  exact ⟨z,hzn,hz.1,by rw [hr],by rw [hr]; exact hz.2⟩
theorem arr_eq {e:TypeId}{k:PK}(hk:pkOf P e=some k)(d:Nat)(w:World):∀(m i:Nat) (xs ys:Array Value),hasAll (List.replicate m k) (xs.toList.drop i)=true→hasAll (List.replicate m k) (ys.toList.drop i)=true →
  (Op.eqItems (d+1) e 1 xs ys (List.range' i m)).run P w=.ok (eqs (xs.toList.drop i) (ys.toList.drop i)) w:=by
 intro m
 induction m with
 | zero =>
  intro i xs ys hx hy
  have e1:∀l,hasAll [] l=true→l=[]:=fun l h=>by cases l <;> simp [hasAll] at h ⊢
  rw [e1 _ hx,e1 _ hy]
  simp [Op.eqItems,eqs]
 | succ m ih =>
  intro i xs ys hx hy
  obtain ⟨x,hx1,hx2,hx3,hx4⟩:=arr_cell hx
  obtain ⟨y,hy1,hy2,hy3,hy4⟩:=arr_cell hy
  have ih':=ih (i+1) xs ys hx4 hy4
  simp only [List.range'_succ,Op.eqItems,Sem.run_bind,Nat.mul_one]
  rw [run_part_plain hk xs i x hx1,Result.andThen_ok,run_part_plain hk ys i y hy1,Result.andThen_ok,pkOf_has hk hx2 hy2,Result.andThen_ok,hx3,hy3]
  simp only [eqs]
  cases he:eqv x y
  ·simp
  ·simp [ih']
theorem arr_check {e:TypeId}{k:PK}{ti:TypeInfo}(hk:pkOf P e=some k)(hi:P.info? e=some ti)(hc:P.cellsOf e=1)(em:Bool)(d:Nat)(w:World):∀(m i:Nat) (xs:Array Value),hasAll (List.replicate m k) (xs.toList.drop i)=true →
  (forIn (List.range' i m) PUnit.unit (fun j (_:PUnit)=>do Instr.checkKey em (d+1) e (←part e xs (j*(←sizeOf e))); pure (ForInStep.yield PUnit.unit)):Sem PUnit).run P w=.ok PUnit.unit w:=by
 intro m
 induction m with
 | zero=>intro i xs _; simp
 | succ m ih =>
  intro i xs hx
  obtain ⟨x,hx1,hx2,hx3,hx4⟩:=arr_cell hx
  have ih':=ih (i+1) xs hx4
  simp only [List.range'_succ,List.forIn_cons,Sem.run_bind,run_sizeOf w hi,hc,Result.andThen_ok,Nat.mul_one]
  rw [run_part_plain hk xs i x hx1,Result.andThen_ok,checkKey_plain hk hx2]
  simp only [Result.andThen_ok,Sem.run_pure]
  exact ih'

theorem pks2Of_spec {t:TypeId}{ks:List PK}(h:pks2Of P t=some ks):P.underlying t=some (.struct (P.fieldsOf t))∧P.stoodInHeld t=false∧flds P 0 (P.fieldsOf t).toList=some ks:=by
 unfold pks2Of at h
 split at h
 ·rename_i fs hfs
  split at h
  ·rename_i hc
   have hfo:P.fieldsOf t=fs:=by simp [Program.fieldsOf,hfs]
   rw [hfo]
   exact ⟨hfs,by simpa using hc,h⟩
  ·cases h
 ·cases h

theorem checkKey_run' {t:TypeId}{sh:Shape}(h:shapeOf P t=some sh){v:Value}(hv:sh.has v=true)(em:Bool)(w:World)(d:Nat):(Instr.checkKey em (d+1+1+1) t v).run P w=.ok () w:=by
 rcases shapeOf_cases h with ⟨k,rfl,hk⟩ | ⟨ks,rfl,hks⟩
 ·exact checkKey_plain hk hv em (d+1+1) w
 ·cases v <;> simp [Shape.has] at hv
  rename_i cs
  rcases hks with hks | hks | hks
  case' inr.inr =>
   obtain ⟨m,e,k,ti,h1,h2,rfl,h4,h5⟩:=pkaOf_spec hks
   have hf:=arr_check h2 h4 h5 em (d+1) w m 0 cs (by simpa using hv)
   rw [Instr.checkKey]
   simp only [Sem.run_bind,run_underlying h1,Result.andThen_ok]
   simp only [Std.Legacy.Range.forIn_eq_forIn_range',Std.Legacy.Range.size,Nat.sub_zero,Nat.add_one_sub_one,Nat.div_one]
   simp only [bind_pure_comp] at hf ⊢
   rw [hf]
   rfl
  case' inr.inl =>
   obtain ⟨h1,h2,h3⟩:=pks2Of_spec hks
   have hf:=flds_check h3 cs em d w (by simpa using hv)
   rw [Instr.checkKey]
   simp only [Sem.run_bind,run_underlying h1,Result.andThen_ok]
   rw [←Array.forIn_toList]
   simp only [bind_pure_comp,ne_eq,ite_not] at hf ⊢
   rw [hf]
   rfl
  obtain ⟨h1,h2,h3,h4,h5⟩:=pksOf_spec hks
  have hf:=checkFields h4 em (d+1) w 0 cs h5 (by simpa using hv)
  rw [Instr.checkKey]
  simp only [Sem.run_bind,run_underlying h1,Result.andThen_ok]
  rw [←Array.forIn_toList]
  simp only [bind_pure_comp,ne_eq,ite_not] at hf ⊢
  rw [hf]
  rfl

theorem checkKey_run {t:TypeId}{sh:Shape}(h:shapeOf P t=some sh){v:Value}(hv:sh.has v=true)(em:Bool)(w:World):(Instr.checkKey em 10000 t v).run P w=.ok () w:=checkKey_run' h hv em w 9997

theorem has_eql {t:TypeId}{sh:Shape}(h:shapeOf P t=some sh){x y:Value}(hx:sh.has x=true)(hy:sh.has y=true)(w:World):(Op.equal t x y).run P w=.ok (eqk x y) w:=by
 rcases shapeOf_cases h with ⟨k,rfl,hk⟩ | ⟨ks,rfl,hks⟩
 ·have h1:=pkOf_has hk hx hy 9999 w
  have h2:eqk x y=eqv x y:=by
   cases k <;> cases x <;> simp [Shape.has,PK.has] at hx <;> cases y <;> simp [Shape.has,PK.has] at hy <;> rfl
  rw [h2]; exact h1
 ·cases x <;> simp [Shape.has] at hx
  cases y <;> simp [Shape.has] at hy
  rename_i a b
  rcases hks with hks | hks | hks
  case' inr.inr =>
   obtain ⟨m,e,k,ti,h1,h2,rfl,h4,h5⟩:=pkaOf_spec hks
   have h6:=arr_eq h2 9998 w m 0 a b (by simpa using hx) (by simpa using hy)
   have h7:=run_equalIn_array (P:=P) (w:=w) 9999 a b h1 h4
   rw [List.range_eq_range',h5] at h7
   simp only [List.drop_zero] at h6
   show (Op.equalIn (9999+1) t (.agg a) (.agg b)).run P w=_
   rw [h7,h6]; rfl
  case' inr.inl =>
   obtain ⟨h1,h2,h3⟩:=pks2Of_spec hks
   have h6:=flds_eq h3 a b 9997 w (by simpa using hx) (by simpa using hy)
   have h7:=run_equalIn_agg (P:=P) w 9999 t a b h1 h2
   simp only [List.drop_zero] at h6
   show (Op.equalIn (9999+1) t (.agg a) (.agg b)).run P w=_
   rw [h7,h6]; rfl
  obtain ⟨h1,h2,h3,h4,h5⟩:=pksOf_spec hks
  have h6:=eqFields_run h4 9998 w 0 a b h5 (by simpa using hx) (by simpa using hy)
  have h7:=run_equalIn_agg (P:=P) w 9999 t a b h1 h2
  simp only [List.drop_zero] at h6
  show (Op.equalIn (9999+1) t (.agg a) (.agg b)).run P w=_
  rw [h7,h6]; rfl

def EntR (φ:Map)(sh:Shape)(es:List (Value×Value))(en:List MapEntry):Prop :=
 es.length=en.length∧∀(j:Nat) k v e,es[j]?=some (k,v)→en[j]?=some e→e.key=k∧sh.has k=true∧VR φ v e.val

theorem EntR.tail {sh:Shape}{x:Value×Value}{es:List (Value×Value)}{y:MapEntry}{en:List MapEntry}(h:EntR φ sh (x :: es) (y :: en)):EntR φ sh es en :=
 ⟨by simpa using h.1,fun j k v e h1 h2=>h.2 (j+1) k v e (by simpa using h1) (by simpa using h2)⟩

def Found (φ:Map)(i:Nat)(r:Option (Nat×Value))(q:Option (Nat×Value)):Prop :=
 match r,q with
 | none,none=>True
 | some (j,v),some (k,v')=>k=i+j∧VR φ v v'
 | _,_=>False

theorem Found.succ {i:Nat}{r q:Option (Nat×Value)}(h:Found φ (i+1) r q):Found φ i (r.map fun (j,v)=>(j+1,v)) q:=by
 cases r with
 | none =>
  cases q with
  | none=>trivial
  | some q=>simp [Found] at h
 | some p =>
  cases q with
  | none=>simp [Found] at h
  | some q=>obtain ⟨h1,h2⟩:=h; exact ⟨by omega,h2⟩

theorem findAsking_run {t:TypeId}{sh:Shape}(h:shapeOf P t=some sh){key:Value}(hk:sh.has key=true)(w:World):∀{es:List (Value×Value)} {en:List MapEntry} {i:Nat},EntR φ sh es en →
  ∃q,(Instr.findAsking t key en i).run P w=.ok q w∧Found φ i (kfind key es) q:=by
 intro es
 induction es with
 | nil =>
  intro en i he
  have:en=[]:=List.length_eq_zero_iff.1 (by simpa using he.1.symm)
  subst this
  exact ⟨none,by simp [Instr.findAsking],by simp [kfind,Found]⟩
 | cons x es ih =>
  intro en i he
  cases en with
  | nil=>have:=he.1; simp at this
  | cons y en =>
   obtain ⟨k,v⟩:=x
   obtain ⟨h1,h2,h3⟩:=he.2 0 k v y rfl rfl
   have heq:=has_eql h hk (h1 ▸ h2:sh.has y.key=true) w
   rw [h1] at heq
   simp only [Instr.findAsking,Sem.run_bind,h1,heq,Result.andThen_ok,kfind]
   cases hb:eqk key k with
   | true=>exact ⟨some (i,y.val),by simp,by simp [Found,h3]⟩
   | false =>
    obtain ⟨q,hq1,hq2⟩:=ih (i:=i+1) he.tail
    refine ⟨q,by simpa using hq1,?_⟩
    simpa using hq2.succ

theorem sameNow_shape {t:TypeId}{sh:Shape}{d:TypeDesc}(h:shapeOf P t=some sh)(ht:P.underlying t=some d){x y:Value}(hx:sh.has x=true)(hy:sh.has y=true) :
  Instr.sameNow d x y=none∨Instr.sameNow d x y=some (eqk x y):=by
 rcases shapeOf_cases h with ⟨k,rfl,hk⟩ | ⟨ks,rfl,hks⟩
 ·unfold pkOf at hk
  rw [ht] at hk
  split at hk
  ·rename_i heq; cases heq; cases hk
   cases x <;> simp [Shape.has,PK.has] at hx
   cases y <;> simp [Shape.has,PK.has] at hy
   exact .inr (by simp [Instr.sameNow,eqk,eqv])
  ·rename_i heq; cases heq; cases hk
   cases x <;> simp [Shape.has,PK.has] at hx
   cases y <;> simp [Shape.has,PK.has] at hy
   subst hx; subst hy
   exact .inr (by simp [Instr.sameNow,eqk,eqv])
  ·cases hk
 ·rcases hks with hks | hks | hks
  ·have h1:=(pksOf_spec hks).1
   rw [ht] at h1
   cases h1
   exact .inl (by cases x <;> cases y <;> rfl)
  ·have h1:=(pks2Of_spec hks).1
   rw [ht] at h1
   cases h1
   exact .inl (by cases x <;> cases y <;> rfl)
  ·obtain ⟨_,_,_,_,h1,_⟩:=pkaOf_spec hks
   rw [ht] at h1
   cases h1
   exact .inl (by cases x <;> cases y <;> rfl)

theorem findNow_run {t:TypeId}{sh:Shape}{d:TypeDesc}(h:shapeOf P t=some sh)(ht:P.underlying t=some d){key:Value}(hk:sh.has key=true):∀{es:List (Value×Value)} {en:List MapEntry} {i:Nat},EntR φ sh es en →
  ∀q,Instr.findNow d key en i=some q→Found φ i (kfind key es) q:=by
 intro es
 induction es with
 | nil =>
  intro en i he q hq
  have:en=[]:=List.length_eq_zero_iff.1 (by simpa using he.1.symm)
  subst this
  simp only [Instr.findNow,Option.some.injEq] at hq
  subst hq
  simp [kfind,Found]
 | cons x es ih =>
  intro en i he q hq
  cases en with
  | nil=>have:=he.1; simp at this
  | cons y en =>
   obtain ⟨k,v⟩:=x
   obtain ⟨h1,h2,h3⟩:=he.2 0 k v y rfl rfl
   simp only [Instr.findNow,h1] at hq
   rcases sameNow_shape h ht hk h2 with hs | hs
   ·rw [hs] at hq; cases hq
   ·rw [hs] at hq
    simp only [kfind]
    cases hb:eqk key k with
    | true =>
     rw [hb] at hq
     simp only [Option.some.injEq] at hq
     subst hq
     simp [Found,h3]
    | false =>
     rw [hb] at hq
     simp only at hq
     simpa using (ih he.tail q hq).succ

theorem findKey_run {t:TypeId}{sh:Shape}(h:shapeOf P t=some sh){key:Value}(hk:sh.has key=true){es:List (Value×Value)}{en:List MapEntry}(he:EntR φ sh es en)(w:World) :
  ∃q,(Instr.findKey t key en).run P w=.ok q w∧Found φ 0 (kfind key es) q:=by
 have hd:∃d,P.underlying t=some d:=by
  rcases shapeOf_cases h with ⟨k,rfl,hkk⟩ | ⟨ks,rfl,hks⟩
  ·unfold pkOf at hkk
   split at hkk
   ·exact ⟨_,by assumption⟩
   ·exact ⟨_,by assumption⟩
   ·cases hkk
  ·rcases hks with hks | hks | hks
   ·exact ⟨_,(pksOf_spec hks).1⟩
   ·exact ⟨_,(pks2Of_spec hks).1⟩
   ·obtain ⟨_,_,_,_,h1,_⟩:=pkaOf_spec hks
    exact ⟨_,h1⟩
 obtain ⟨d,hd⟩:=hd
 simp only [Instr.findKey,Sem.run_bind,run_underlying hd,Result.andThen_ok]
 cases hn:Instr.findNow d key en 0 with
 | some q=>exact ⟨q,by simp,findNow_run h hd hk he q hn⟩
 | none=>exact findAsking_run h hk w he

theorem has_flat {sh:Shape}{v v':Value}(h:VR φ v v')(hs:sh.has v=true):v'=v:=by
 cases sh with
 | one k=>exact h.plain hs
 | agg ks =>
  cases v <;> simp [Shape.has] at hs
  exact h.aggP hs

theorem op_mlk {sh:Shape}{z:Value}{ok:Bool}{m k:Operand}(hF:∀f,F.fn f)(h:SR E φ lm s a w)(hc:comp E.P L o=some (.mlk sh z ok m k))(hx:o.op.operands.toList.all opndOk=true)(hr:opR call ⟨o.dst,.mlk sh z ok m k,g⟩ s=some (e,s1)) :
  OpG E F n o a w e s1 (·=φ):=by
 have hnd:=comp_v_not_defer hc fun _ _ h=>by cases h
 obtain ⟨t,kt,et,ho,ht,hsh,hz⟩:=came hc
 have hmm:=h.opnds hx m (by simp [ho,Op.operands])
 have hkk:=h.opnds hx k (by simp [ho,Op.operands])
 obtain ⟨_,_,_,_,_,hzf⟩:=zeroOf_spec hz
 simp only [opR] at hr
 split at hr
 ·rename_i hhas
  have hkv:VR φ (ev s.T k) (a.eval k):=hkk.to_vr (by
   cases sh with
   | one q=>cases q <;> cases hq:ev s.T k <;> simp [hq,Shape.has,PK.has] at hhas <;> rfl
   | agg q=>cases hq:ev s.T k <;> simp [hq,Shape.has] at hhas; rfl)
  have hke:=has_flat hkv hhas
  split at hr
  ·cases hr
  ·rename_i es hes
   have hen:∃en:Array MapEntry,EntR φ sh es en.toList∧((a.eval m=.map none∧en=#[])∨∃r clock,a.eval m=.map (some r)∧w.heap[r]?=some (.map en clock)):=by
    generalize hev:ev s.T m=mv at *
    generalize hem:a.eval m=mv' at *
    cases hmm with
    | ptr=>simp at hes
    | sl=>simp at hes
    | vr _ _ hmm =>
     cases hmm with
     | map0=>simp only [Option.some.injEq] at hes; subst hes; exact ⟨#[],⟨rfl,fun j k v e hj=>by simp at hj⟩,.inl ⟨rfl,rfl⟩⟩
     | map i sl hsl =>
      simp only at hes
      split at hes
      ·rename_i sh' es' tip fam hH
       split at hes
       ·rename_i hsh'
        cases hes
        subst hsh'
        obtain ⟨ob,h1,h2⟩:=h.emb.obj i sl _ hsl hH rfl
        cases h2 with
        | map _ _ _ en clock g1 g2 =>
         refine ⟨en,⟨by simpa using g1,fun j k v e hj he=>g2 j k v e hj (by simpa using he)⟩,.inr ⟨_,_,rfl,h1⟩⟩
       ·cases hes
      ·cases hes
     | _=>simp [junk] at hes
   obtain ⟨en,he1,he2⟩:=hen
   obtain ⟨q,hq1,hq2⟩:=findKey_run hsh hhas he1 w
   have hchk:=checkKey_run hsh hhas en.isEmpty w
   have pair:∀(a a':Value) (b:Bool),VR φ a a'→VR φ (.tuple #[a,.bool b]) (.tuple #[a',.bool b]):=by
    intro a a' b ha
    refine .tuple _ _ rfl fun j x y hx hy=>?_
    match j with
    | 0=>simp at hx hy; subst hx; subst hy; exact ha
    | 1=>simp at hx hy; subst hx; subst hy; exact .bool b
    | j+2=>simp at hx
   have hrun:(execOp a.eval o).run E.P w=((match q with | some (_,v)=>pure (v,true) | none=>do pure (←zeroValue et,false):Sem (Value×Bool)).run E.P w).andThen fun r w'=>.ok (.value (if ok then .tuple #[r.1,.bool r.2] else r.1)) w':=by
    rcases he2 with ⟨he2,rfl⟩ | ⟨r,clock,he2,he3⟩
    ·simp only [execOp,ho,Instr.lookup,Sem.run_bind,run_underlying ht,Result.andThen_ok,hke,he2,Sem.run_pure,hchk,hq1]
     cases q with
     | none=>simp [zeroOf_run hz]
     | some q=>simp
    ·have hget:(getObj r).run E.P w=.ok (.map en clock) w:=by simp [getObj,Sem.run,he3]
     simp only [execOp,ho,Instr.lookup,Sem.run_bind,run_underlying ht,Result.andThen_ok,hke,he2,hget,Sem.run_pure,hchk,hq1]
     cases q with
     | none=>simp [zeroOf_run hz]
     | some q=>simp
   cases hkf:kfind (ev s.T k) es with
   | none =>
    rw [hkf] at hr hq2
    cases q with
    | some q=>simp [Found] at hq2
    | none =>
     have hv:VR φ z z:=flat_refl φ 8 z hzf
     refine .value (v':=if ok then .tuple #[z,.bool false] else z) hF hnd ?_ h hr (.vr _ _ ?_) rfl
     ·rw [hrun]; simp [zeroOf_run hz]
     ·cases ok
      ·simpa using hv
      ·simpa using pair _ _ _ hv
   | some p =>
    obtain ⟨j,v⟩:=p
    rw [hkf] at hr hq2
    cases q with
    | none=>simp [Found] at hq2
    | some q =>
     obtain ⟨k',v'⟩:=q
     obtain ⟨_,hv⟩:=hq2
     refine .value (v':=if ok then .tuple #[v',.bool true] else v') hF hnd ?_ h hr (.vr _ _ ?_) rfl
     ·rw [hrun]; simp
     ·cases ok
      ·simpa using hv
      ·simpa using pair _ _ _ hv
 ·cases hr

theorem sameBits_plain {k:PK}{x y:Value}(hx:k.has x=true)(hy:k.has y=true)(n:Nat):Instr.sameBits n x y=eqv x y:=by
 cases k <;> cases x <;> simp [PK.has] at hx <;> cases y <;> simp [PK.has] at hy
 ·cases n <;> rfl
 ·subst hx; subst hy
  cases n <;> simp [Instr.sameBits,eqv]

theorem sameBits_all {ks:List PK}(n:Nat):∀{xs ys:List Value},hasAll ks xs=true→hasAll ks ys=true→xs.length=ys.length∧((xs.zip ys).all fun (x,y)=>Instr.sameBits n x y)=eqs xs ys:=by
 induction ks with
 | nil =>
  intro xs ys hx hy
  cases xs <;> simp [hasAll] at hx
  cases ys <;> simp [hasAll] at hy
  exact ⟨rfl,rfl⟩
 | cons k ks ih =>
  intro xs ys hx hy
  cases xs with
  | nil=>simp [hasAll] at hx
  | cons x xs =>
   cases ys with
   | nil=>simp [hasAll] at hy
   | cons y ys =>
    simp only [hasAll,Bool.and_eq_true] at hx hy
    obtain ⟨h1,h2⟩:=ih hx.2 hy.2
    exact ⟨by simp [h1],by simp only [List.zip_cons_cons,List.all_cons,h2,sameBits_plain hx.1 hy.1,eqs]⟩

theorem sameBits_key {sh:Shape}{x y:Value}(hx:sh.has x=true)(hy:sh.has y=true)(n:Nat)(he:eqk x y=true):Instr.sameBits (n+1) x y=true:=by
 cases sh with
 | one k =>
  have:eqk x y=eqv x y:=by cases k <;> cases x <;> simp [Shape.has,PK.has] at hx <;> cases y <;> simp [Shape.has,PK.has] at hy <;> rfl
  rw [sameBits_plain hx hy,←this]; exact he
 | agg ks =>
  cases x <;> simp [Shape.has] at hx
  cases y <;> simp [Shape.has] at hy
  obtain ⟨h1,h2⟩:=sameBits_all n hx hy
  simp only [Instr.sameBits,h2,Bool.and_eq_true,beq_iff_eq]
  exact ⟨by simpa using h1,he⟩

theorem kfind_get {key:Value}:∀{es:List (Value×Value)} {j:Nat} {v:Value},kfind key es=some (j,v)→∃k,es[j]?=some (k,v)∧eqk key k=true:=by
 intro es
 induction es with
 | nil=>intro j v h; simp [kfind] at h
 | cons x es ih =>
  intro j v h
  obtain ⟨k,v0⟩:=x
  simp only [kfind] at h
  split at h
  ·rename_i hb; cases h; exact ⟨k,rfl,hb⟩
  ·simp only [Option.map_eq_some_iff] at h
   obtain ⟨⟨i,u⟩,h1,h2⟩:=h
   cases h2
   obtain ⟨k',h3,h4⟩:=ih h1
   exact ⟨k',by simpa using h3,h4⟩

theorem eqk_comm {sh:Shape}{x y:Value}(hx:sh.has x=true)(hy:sh.has y=true):eqk x y=eqk y x:=by
 have plain:∀{k:PK} {x y:Value},k.has x=true→k.has y=true→eqv x y=eqv y x:=by
  intro k x y hx hy
  cases k <;> cases x <;> simp [PK.has] at hx <;> cases y <;> simp [PK.has] at hy
  ·simp only [eqv]; exact Bool.beq_comm
  ·simp only [eqv]; exact Bool.beq_comm
 cases sh with
 | one k =>
  have h1:∀{x y:Value},k.has x=true→k.has y=true→eqk x y=eqv x y:=by
   intro x y hx hy
   cases k <;> cases x <;> simp [PK.has] at hx <;> cases y <;> simp [PK.has] at hy <;> rfl
  rw [h1 hx hy,h1 hy hx,plain hx hy]
 | agg ks =>
  cases x <;> simp [Shape.has] at hx
  cases y <;> simp [Shape.has] at hy
  simp only [eqk]
  have:∀{ks:List PK} {xs ys:List Value},hasAll ks xs=true→hasAll ks ys=true→eqs xs ys=eqs ys xs:=by
   intro ks
   induction ks with
   | nil =>
    intro xs ys hx hy
    cases xs <;> simp [hasAll] at hx
    cases ys <;> simp [hasAll] at hy
    rfl
   | cons k ks ih =>
    intro xs ys hx hy
    cases xs with
    | nil=>simp [hasAll] at hx
    | cons x xs =>
     cases ys with
     | nil=>simp [hasAll] at hy
     | cons y ys =>
      simp only [hasAll,Bool.and_eq_true] at hx hy
      simp only [eqs,plain hx.1 hy.1,ih hx.2 hy.2]
  exact this hx hy

theorem op_mup {sh:Shape}{m k x:Operand}(hF:∀f,F.fn f)(h:SR E φ lm s a w)(hc:comp E.P L o=some (.mup sh m k x))(hx:o.op.operands.toList.all opndOk=true)(hr:opR call ⟨o.dst,.mup sh m k x,g⟩ s=some (e,s1)) :
  OpG E F n o a w e s1 (·=φ):=by
 have hnd:=comp_v_not_defer hc fun _ _ h=>by cases h
 obtain ⟨t,kt,et,ho,ht,hsh⟩:=came hc
 have hopn:o.op.operands=#[m,k,x]:=by rcases ho with ho | ho <;> simp [ho,Op.operands]
 have hexec:execOp a.eval o=(do Instr.mapUpdate t (a.eval m) (a.eval k) (a.eval x); pure .skip):=by rcases ho with ho | ho <;> simp only [execOp,ho]
 have hmm:=h.opnds hx m (by simp [hopn])
 have hkk:=h.opnds hx k (by simp [hopn])
 have hxx:=h.opnds hx x (by simp [hopn])
 simp only [opR] at hr
 split at hr
 ·rename_i hh
  obtain ⟨hhas,hnl⟩:=hh
  have hkv:VR φ (ev s.T k) (a.eval k):=hkk.to_vr (by
   cases sh with
   | one q=>cases q <;> cases hq:ev s.T k <;> simp [hq,Shape.has,PK.has] at hhas <;> rfl
   | agg q=>cases hq:ev s.T k <;> simp [hq,Shape.has] at hhas; rfl)
  have hke:=has_flat hkv hhas
  have hxv:=hxx.to_vr hnl
  split at hr
  ·rename_i i hme
   rw [hme] at hmm
   generalize hem:a.eval m=mv' at *
   split at hr
   ·rename_i sh' es hH
    split at hr
    ·rename_i hsh'
     subst hsh'
     cases hmm with
     | vr _ _ hmm =>
      cases hmm with
      | map _ sl hsl =>
       obtain ⟨ob,h1,h2⟩:=h.emb.obj i sl _ hsl hH rfl
       cases h2 with
       | map _ _ _ en clock g1 g2 =>
        have he1:EntR φ sh' es en.toList:=⟨by simpa using g1,fun j k v e hj he=>g2 j k v e hj (by simpa using he)⟩
        obtain ⟨q,hq1,hq2⟩:=findKey_run hsh hhas he1 w
        have hchk:=checkKey_run hsh hhas false w
        have hlt1:=(Array.getElem?_eq_some_iff.1 h1).1
        have hget:(getObj sl.b).run E.P w=.ok (.map en clock) w:=by simp [getObj,Sem.run,h1]
        have hset:∀ob',(setObj sl.b ob').run E.P w=.ok () { w with heap:=w.heap.setIfInBounds sl.b ob' }:=fun ob'=>by simp [setObj,Sem.run,h1]
        have fin:∀(es':List (Value×Value)) (en':Array MapEntry) (clock':Nat),es'.length=en'.size→(∀(j:Nat) k v e,es'[j]?=some (k,v)→en'[j]?=some e→e.key=k∧sh'.has k=true∧VR φ v e.val) →
          SR E φ lm (setB s i (.map sh' es')) a { w with heap:=w.heap.setIfInBounds sl.b (.map en' clock') }:=by
         intro es' en' clock' hl hall
         refine h.setH (w':={ w with heap:=w.heap.setIfInBounds sl.b (.map en' clock') }) (ob:=.map en' clock') (H':=s.H.set i { obj:=.map sh' es' }) hsl (h.emb.own i sl _ hsl hH (.inl rfl)) (by simp) ⟨rfl,rfl,rfl⟩ ?_ _
         refine h.emb.put hsl hH rfl (fun k sk bk hk hsk hbk hok he=>?_) rfl (fun _=>rfl) rfl (.map _ _ _ _ _ hl hall) (fun x=>?_)
         ·exact (h.emb.sep i k sl sk _ bk (Ne.symm hk) hsl hsk hH hbk rfl hok he.symm).2.2.1 rfl
         ·simp only [World.frozen?]
          by_cases hb:x.block=sl.b
          ·rw [hb,h1]; simp [hlt1]
          ·rw [Array.getElem?_setIfInBounds_ne (Ne.symm hb)]
        cases hkf:kfind (ev s.T k) es with
        | none =>
         rw [hkf] at hr hq2
         cases q with
         | some q=>simp [Found] at hq2
         | none =>
          refine .skip hF hnd ?_ (fin _ (en.push { key:=ev s.T k,val:=a.eval x,born:=clock }) (clock+1) (by simp [g1]) fun j k' v' e' hj he'=>?_) hr rfl
          ·rw [hexec]
           simp only [Instr.mapUpdate,Sem.run_bind,run_underlying ht,Result.andThen_ok,hget,hke,hchk,hq1,hset,Sem.run_pure]
          ·rw [List.getElem?_append] at hj
           rw [Array.getElem?_push] at he'
           split at hj
           ·rename_i hlt
            rw [if_neg (by omega)] at he'
            exact g2 j k' v' e' hj he'
           ·rename_i hge
            have hj0:j=es.length:=by
             have:=(List.getElem?_eq_some_iff.1 hj).1
             simp at this; omega
            subst hj0
            rw [if_pos g1] at he'
            simp at hj
            cases he'
            obtain ⟨rfl,rfl⟩:=hj
            exact ⟨rfl,hhas,hxv⟩
        | some p =>
         obtain ⟨j0,v0⟩:=p
         rw [hkf] at hr hq2
         cases q with
         | none=>simp [Found] at hq2
         | some q =>
          obtain ⟨k',v'⟩:=q
          obtain ⟨hkk',_⟩:=hq2
          have hkj:k'=j0:=by omega
          subst hkj
          obtain ⟨kold,hko1,hko2⟩:=kfind_get hkf
          have hlt2:k' < en.size:=g1 ▸ (List.getElem?_eq_some_iff.1 hko1).1
          obtain ⟨r1,r2,r3⟩:=g2 k' kold v0 en[k'] hko1 (Array.getElem?_eq_getElem hlt2)
          have hsame:Instr.sameBits 10000 en[k'].key (ev s.T k)=true:=by
           rw [r1]
           exact sameBits_key r2 hhas 9999 (by rw [eqk_comm r2 hhas]; exact hko2)
          refine .skip hF hnd ?_ (fin _ (en.modify k' fun e=>{ e with key:=ev s.T k,val:=a.eval x }) clock (by simp [g1]) fun j k2 v2 e2 hj he'=>?_) hr rfl
          ·rw [hexec]
           simp only [Instr.mapUpdate,Sem.run_bind,run_underlying ht,Result.andThen_ok,hget,hke,hchk,hq1,Array.getElem?_eq_getElem hlt2,Option.map_some,Option.getD_some,Instr.keyThatStays,hsame,if_true,Sem.run_pure,hset]
          ·rw [List.getElem?_set] at hj
           rw [Array.getElem?_modify] at he'
           by_cases hjj:k'=j
           ·subst hjj
            have hlt3:k' < es.length:=by omega
            simp [hlt3] at hj
            simp [hlt2] at he'
            obtain ⟨rfl,rfl⟩:=hj
            subst he'
            exact ⟨rfl,hhas,hxv⟩
           ·rw [if_neg hjj] at hj he'
            exact g2 j k2 v2 e2 hj he'
    ·cases hr
   ·cases hr
  ·cases hr
 ·cases hr

end
end Go.Pi
