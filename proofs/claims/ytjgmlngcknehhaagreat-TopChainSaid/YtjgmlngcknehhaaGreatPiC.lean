/- An operation on values alone does in the model what it does here. -/
import Derived.Test.YtjgmlngcknehhaaGreatPiB
set_option linter.all false
namespace Go.Pi
open Go

section
variable {P:Program} {φ:Map} {lm:LMap}

theorem sizeOf_run {t:TypeId}{i:TypeInfo}(h:P.info? t=some i)(w:World):(sizeOf t).run P w=.ok i.size w:=by simp [sizeOf,typeInfo,h]

theorem cellsOf_run {t:TypeId}(h:(P.info? t).isSome=true)(w:World):(sizeOf t).run P w=.ok (P.cellsOf t) w:=by
 obtain ⟨i,hi⟩:=Option.isSome_iff_exists.1 h
 rw [sizeOf_run hi]; simp [Program.cellsOf,hi]

theorem aggOf_run {t:TypeId}(h:(P.underlying t).isSome=true)(w:World):(isAgg t).run P w=.ok (aggOf P t) w:=by
 obtain ⟨d,hd⟩:=Option.isSome_iff_exists.1 h
 simp only [isAgg,Sem.run_bind,run_underlying hd,Result.andThen_ok,aggOf,hd]
 cases d <;> rfl

theorem known_spec {t:TypeId}(h:Go.Pi.known P t=true):(P.underlying t).isSome=true∧(P.info? t).isSome=true:=by simpa [Go.Pi.known] using h

theorem zeroOf_spec {t:TypeId}{z:Value}(h:zeroOf P t=some z):∃i,P.info? t=some i∧i.zero=some z∧z.cells.toList.all one=true∧z.cells.size=P.cellsOf t∧flat 8 z=true:=by
 simp only [zeroOf,Option.filter_eq_some_iff,Option.bind_eq_some_iff,Bool.and_eq_true,beq_iff_eq] at h
 obtain ⟨⟨i,hi,hz⟩,h1,h2⟩:=h
 exact ⟨i,hi,hz,h1.1,h1.2,h2⟩

theorem zeroOf_run {t:TypeId}{z:Value}(h:zeroOf P t=some z)(w:World):(zeroValue t).run P w=.ok z w:=by
 obtain ⟨i,hi,hz,_⟩:=zeroOf_spec h
 simp [zeroValue,typeInfo,hi,hz]

theorem part_run {t:TypeId}(h:Go.Pi.known P t=true){cs cs':Array Value}(hcs:VR φ (.agg cs) (.agg cs')){off:Nat}{v:Value}
  (hv:(match cellsN P t with | none=>cs[off]? | some n=>if off+n≤cs.size then some (.agg (cs.extract off (off+n))) else none)=some v) (w:World):Does P φ lm w (part t cs' off) v:=by
 obtain ⟨h1,h2⟩:=known_spec h
 cases hcs with
 | agg _ _ hsz hall =>
  cases ha:aggOf P t with
  | false =>
   simp only [cellsN,ha,Bool.false_eq_true,if_false] at hv
   have hlt:off < cs'.size:=hsz ▸ (Array.getElem?_eq_some_iff.1 hv).1
   refine ⟨cs'[off],?_,.vr _ _ (hall off v _ hv (Array.getElem?_eq_getElem hlt))⟩
   simp [part,aggOf_run h1,ha,hlt]
  | true =>
   simp only [cellsN,ha,if_true] at hv
   split at hv
   ·rename_i hle
    cases hv
    refine ⟨.agg (cs'.extract off (off+P.cellsOf t)),by simp only [part,Sem.run_bind,aggOf_run h1,ha,Result.andThen_ok,if_true,cellsOf_run h2,Sem.run_pure],.vr _ _ (.agg _ _ (by simp [hsz]) fun j x y hx hy=>?_)⟩
    rw [Array.getElem?_extract] at hx hy
    split at hx
    ·rename_i hj
     rw [if_pos (by rw [←hsz]; exact hj)] at hy
     exact hall _ x y hx hy
    ·cases hx
   ·cases hv

theorem slc_run {t e:TypeId}{a:Option Addr}{ln m:Nat}{u' v:Value}{l h:Int}(ht:P.underlying t=some (.slice e))(he:Go.Pi.known P e=true)(hu:VR φ (.slice a ln m) u')(hs:VOp.ev.slc (P.cellsOf e) a ln m l h=some v)(w:World) :
  ∃a' c,u'=.slice a' ln c∧ln≤c∧0≤l∧l≤h∧h≤ln∧TR φ lm v (sliced a' l.toNat h.toNat c (P.cellsOf e)):=by
 unfold VOp.ev.slc at hs
 split at hs
 ·rename_i hc
  cases hu with
  | sl0 =>
   cases hs
   have hl:l=0:=by omega
   have hh:h=0:=by omega
   subst hl; subst hh
   exact ⟨none,0,rfl,by omega,by omega,by omega,by omega,.vr _ _ .sl0⟩
  | sl i off _ _ a' c hl hp =>
   refine ⟨some a',c,rfl,hl,by omega,by omega,by omega,?_⟩
   simp only at hs
   split at hs
   ·rename_i hlt
    cases hs
    obtain ⟨s,h1,h2,h3⟩:=hp (.inl (by omega))
    subst h2
    refine .vr _ _ ?_
    have hne:c≠l.toNat:=by omega
    rw [sliced,if_neg hne,Option.map_some,Addr.add_lit,show s.o+off+l.toNat*P.cellsOf e=s.o+(off+l.toNat*P.cellsOf e) by omega,show (h - l).toNat=h.toNat - l.toNat by omega]
    refine .sl i _ _ _ _ _ (by omega) fun _=>⟨s,h1,rfl,fun hm=>?_⟩
    split at hm
    ·rename_i hmk
     rw [if_pos hmk]
     have:=h3 (by omega)
     rw [hmk] at this ⊢
     have h5:l.toNat*P.cellsOf e+(c - l.toNat)*P.cellsOf e=c*P.cellsOf e:=by rw [←Nat.add_mul]; congr 1; omega
     omega
    ·omega
   ·rename_i hge
    cases hs
    have hh:h.toNat - l.toNat=0:=by omega
    refine .vr _ _ ?_
    rw [sliced,hh]
    split
    ·exact .sl i off 0 0 _ _ (by omega) fun hp=>by omega
    ·exact .sl i off 0 0 _ _ (by omega) fun hp=>by omega
 ·cases hs

theorem VRs.map_ev {T:List Value}{ρ:Operand→Value}{xs:List Operand}(h:∀x∈xs,TR φ lm (ev T x) (ρ x))(hl:(xs.map (ev T)).all (fun v=>!isLoc v)=true):VRs φ (xs.map (ev T)) (xs.map ρ):=by
 refine ⟨by simp,fun j x y hx hy=>?_⟩
 simp only [List.getElem?_map,Option.map_eq_some_iff] at hx hy
 obtain ⟨o,ho,rfl⟩:=hx
 obtain ⟨o',ho',rfl⟩:=hy
 rw [ho] at ho'; cases ho'
 have hm:=List.mem_of_getElem? ho
 exact (h o hm).to_vr (by simpa using List.all_eq_true.1 hl _ (List.mem_map_of_mem hm))

theorem mapM_get {α β:Type}{g:α→Option β}:∀{l:List α} {r:List β},l.mapM g=some r→r.length=l.length∧∀(j:Nat) x,l[j]?=some x→∃y,g x=some y∧r[j]?=some y:=by
 intro l
 induction l with
 | nil=>intro r h; simp at h; subst h; exact ⟨rfl,fun j x hx=>by simp at hx⟩
 | cons a l ih =>
  intro r h
  simp only [List.mapM_cons,Option.bind_eq_bind,Option.bind_eq_some_iff,Option.pure_def,Option.some.injEq] at h
  obtain ⟨y,hy,ys,hys,rfl⟩:=h
  obtain ⟨h1,h2⟩:=ih hys
  refine ⟨by simp [h1],fun j x hx=>?_⟩
  cases j with
  | zero=>simp at hx; subst hx; exact ⟨y,hy,rfl⟩
  | succ j=>simpa using h2 j x (by simpa using hx)

theorem places_run (fl:List Field)(h:∀f∈fl,(P.info? f.type).isSome=true)(w:World):(fl.mapM fun f=>do pure (f.offset,←sizeOf f.type):Sem (List (Nat×Nat))).run P w=.ok (fl.map fun f=>(f.offset,P.cellsOf f.type)) w:=by
 induction fl with
 | nil=>simp
 | cons f l ih =>
  simp only [List.mapM_cons,Sem.run_bind,cellsOf_run (h f (by simp)),Result.andThen_ok,Sem.run_pure,ih fun g hg=>h g (by simp [hg]),List.map_cons]

theorem zip_parts (ρ:Operand→Value):∀(ps:List (Nat×Operand)),(ps.map (·.1)).zip ((ps.map (·.2)).map ρ)=ps.map fun (i,x)=>(i,ρ x):=by
 intro ps; induction ps with
 | nil=>rfl
 | cons p ps ih=>simp only [List.map_cons,List.zip_cons_cons,ih]

theorem build_run {t:TypeId}{ps:List (Nat×Operand)}{o:Oper}{L:List Tmp}{T:List Value}{ρ:Operand→Value}{f:VOp}{xs:List Operand}{v:Value}(ho:o.op=.build t ps.toArray)(hc:comp P L o=some (.v f xs))
  (hR:∀x∈ps.map (·.2),TR φ lm (ev T x) (ρ x)) (hl:(xs.map (ev T)).all (fun v=>!isLoc v)=true) (hv:f.ev (xs.map (ev T))=some v) (w:World):Does P φ lm w (Instr.build t (ps.toArray.map fun (i,x)=>(i,ρ x))) v:=by
 have hzip:(ps.toArray.map fun (i,x)=>(i,ρ x)).toList=(ps.map (·.1)).zip ((ps.map (·.2)).map ρ):=by rw [zip_parts]; simp
 simp only [comp,ho] at hc
 split at hc
 ·rename_i fs z hfs hzz
  split at hc
  ·cases hc
  ·rename_i hinf
   simp only [Option.map_eq_some_iff] at hc
   obtain ⟨pl,hpl,hc⟩:=hc
   cases hc
   have hxs:=VRs.map_ev hR hl
   simp only [VOp.ev,Option.map_eq_some_iff] at hv
   obtain ⟨l,hl',rfl⟩:=hv
   obtain ⟨i,hi,hiz,hz1,hz2,hz3⟩:=zeroOf_spec hzz
   have hzv:VRs φ z.cells.toList z.cells.toList:=(flat_refl φ 8 z hz3).cellsL hz1
   obtain ⟨fl⟩:=fs
   have hplaces:((⟨fl⟩:Array Field).mapM fun f=>do pure (f.offset,←sizeOf f.type):Sem (Array (Nat×Nat))).run P w=.ok (fl.map fun f=>(f.offset,P.cellsOf f.type)).toArray w:=by
    rw [List.mapM_toArray,Sem.run_map,places_run fl (fun f hf=>List.all_eq_true.1 (eq_true_of_ne_false hinf) f hf)]
    rfl
   obtain ⟨m1,m2⟩:=mapM_get hpl
   obtain ⟨l',g1,g2,g3⟩:=fillP_run (φ:=φ) (fun i=>(fl.map fun f=>(f.offset,P.cellsOf f.type)).toArray[i]?) pl (ps.map (·.1)) _ _ _ z.cells l
    (by simp [m1]) (by
     intro j p i hp hi
     simp only [List.getElem?_map,Option.map_eq_some_iff] at hi
     obtain ⟨q,hq,rfl⟩:=hi
     obtain ⟨y,hy,hy2⟩:=m2 j q hq
     rw [hp] at hy2; cases hy2
     simp only [Option.map_eq_some_iff] at hy
     obtain ⟨f,hf,rfl⟩:=hy
     have hf':fl[q.1]?=some f:=by simpa using hf
     simp [hf']) hxs hzv hl'
   refine ⟨.agg l',?_,.vr _ _ ?_⟩
   ·simp only [Instr.build,Sem.run_bind,zeroOf_run hzz,Result.andThen_ok,run_underlying hfs,hplaces,hzip,g1]
    rfl
   ·have:=g2.agg; simpa using this
 ·rename_i n e z hfs hzz
  split at hc
  ·cases hc
  ·rename_i hinf
   cases hc
   have hxs:=VRs.map_ev hR hl
   simp only [VOp.ev,Option.map_eq_some_iff] at hv
   obtain ⟨l,hl',rfl⟩:=hv
   obtain ⟨i,hi,hiz,hz1,hz2,hz3⟩:=zeroOf_spec hzz
   have hzv:VRs φ z.cells.toList z.cells.toList:=(flat_refl φ 8 z hz3).cellsL hz1
   obtain ⟨l',g1,g2,g3⟩:=fillP_run (φ:=φ) (fun i=>some (i*P.cellsOf e,P.cellsOf e)) (ps.map fun (i,_)=>(i*P.cellsOf e,P.cellsOf e)) (ps.map (·.1)) _ _ _ z.cells l
    (by simp) (by
     intro j p i hp hi
     simp only [List.getElem?_map,Option.map_eq_some_iff] at hi hp
     obtain ⟨q,hq,rfl⟩:=hi
     obtain ⟨q',hq',rfl⟩:=hp
     rw [hq] at hq'; cases hq'
     rfl) hxs hzv hl'
   refine ⟨.agg l',?_,.vr _ _ ?_⟩
   ·simp only [Instr.build,Sem.run_bind,zeroOf_run hzz,Result.andThen_ok,run_underlying hfs,cellsOf_run (eq_true_of_ne_false hinf),hzip,g1]
    rfl
   ·have:=g2.agg; simpa using this
 ·cases hc

end
end Go.Pi
namespace Go.Pi
open Go

section
variable {P:Program} {φ:Map} {lm:LMap}

def DoesOp (P:Program)(φ:Map)(lm:LMap)(w:World)(ρ:Operand→Value)(o:Oper)(v:Value):Prop:=∃v',(execOp ρ o).run P w=.ok (.value v') w∧TR φ lm v v'

theorem DoesOp.of {w:World}{ρ:Operand→Value}{o:Oper}{v:Value}{s:Sem Value}(he:execOp ρ o=(do pure (.value (←s)):Sem Next))(h:Does P φ lm w s v):DoesOp P φ lm w ρ o v:=by
 obtain ⟨v',h1,h2⟩:=h
 exact ⟨v',by rw [he]; simp [h1],h2⟩

variable {L:List Tmp} {T:List Value} {ρ:Operand→Value} {f:VOp} {xs:List Operand} {v:Value}

theorem all1 {x:Operand}(h:(([x]:List Operand).map (ev T)).all (fun v=>!isLoc v)=true):isLoc (ev T x)=false:=by simpa using h
theorem all2 {x y:Operand}(h:(([x,y]:List Operand).map (ev T)).all (fun v=>!isLoc v)=true):isLoc (ev T x)=false∧isLoc (ev T y)=false:=by simpa using h

theorem bin_run {op:BinOp}{t:TypeId}{x y:Operand}{b:TypeId}{o:Oper}(ho:o.op=.binOp op t x y b)(hc:comp P L o=some (.v f xs))(hx:TR φ lm (ev T x) (ρ x))(hy:TR φ lm (ev T y) (ρ y))(hρ:∀c,ρ (.const c)=c)
  (hl:(xs.map (ev T)).all (fun v=>!isLoc v)=true) (hv:f.ev (xs.map (ev T))=some v) (w:World):DoesOp P φ lm w ρ o v:=by
 refine DoesOp.of (s:=do eqGuard op t x y (ρ x) (ρ y); binOp op t (ρ x) (ρ y)) (by simp only [execOp,ho]) ?_
 simp only [comp,ho,compBin] at hc
 split at hc
 ·cases hc
  simp only [List.map_cons,List.map_nil] at hv
  generalize ev T x=u at *
  generalize ev T y=z at *
  cases u <;> (try (simp [VOp.ev] at hv; done))
  cases z <;> (try (simp [VOp.ev] at hv; done))
  rw [hx.int,hy.int]
  exact run_ib w hv
 ·cases hc
  simp only [List.map_cons,List.map_nil] at hv
  generalize ev T x=u at *
  generalize ev T y=z at *
  cases u <;> (try (simp [VOp.ev] at hv; done))
  cases z <;> (try (simp [VOp.ev] at hv; done))
  rw [hx.string,hy.string]
  exact run_sb w hv
 ·rename_i ht
  have key:∀ne,f=.bb ne→xs=[x,y]→op=(if ne then .neq else .eql)→Does P φ lm w (do eqGuard op t x y (ρ x) (ρ y); binOp op t (ρ x) (ρ y)) v:=by
   intro ne hf hxs hop
   subst hf; subst hxs; subst hop
   simp only [List.map_cons,List.map_nil] at hv
   generalize ev T x=u at *
   generalize ev T y=z at *
   cases u <;> (try (simp [VOp.ev] at hv; done))
   cases z <;> (try (simp [VOp.ev] at hv; done))
   rw [hx.bool,hy.bool]
   simp only [VOp.ev,Option.some.injEq] at hv
   subst hv
   exact run_bb w ht
  split at hc
  ·cases hc; exact key false rfl rfl rfl
  ·cases hc; exact key true rfl rfl rfl
  ·cases hc
 ·rename_i ht
  simp only [Option.bind_eq_some_iff] at hc
  obtain ⟨ks,hks,hc⟩:=hc
  have key:∀ne,f=.ag ks ne→xs=[x,y]→op=(if ne then .neq else .eql)→Does P φ lm w (do eqGuard op t x y (ρ x) (ρ y); binOp op t (ρ x) (ρ y)) v:=by
   intro ne hf hxs hop
   subst hf; subst hxs; subst hop
   simp only [List.map_cons,List.map_nil] at hv
   obtain ⟨l1,l2⟩:=all2 hl
   have hx':=hx.to_vr l1
   have hy':=hy.to_vr l2
   generalize ev T x=u at *
   generalize ev T y=z at *
   cases u <;> (try (simp [VOp.ev] at hv; done))
   cases z <;> (try (simp [VOp.ev] at hv; done))
   simp only [VOp.ev] at hv
   split at hv
   ·rename_i hh
    cases hv
    rw [hx'.aggP hh.1,hy'.aggP hh.2]
    exact run_ag w hks hh.1 hh.2
   ·cases hv
  split at hc
  ·cases hc; exact key false rfl rfl rfl
  ·cases hc; exact key true rfl rfl rfl
  ·cases hc
 ·rename_i d hnd ht
  simp only [Option.bind_eq_some_iff] at hc
  obtain ⟨k,hk,hc⟩:=hc
  have key:∀ne,f=.nl k ne→xs=[x]→op=(if ne then .neq else .eql)→Does P φ lm w (do eqGuard op t x y (ρ x) (ρ y); binOp op t (ρ x) (ρ y)) v:=by
   intro ne hf hxs hop
   subst hf; subst hxs; subst hop
   simp only [List.map_cons,List.map_nil,VOp.ev,Option.map_eq_some_iff] at hv
   obtain ⟨b,hb,rfl⟩:=hv
   exact run_nl w ‹_› hk hb (hx.to_vr (all1 hl)) ρ hρ
  split at hc
  ·cases hc; exact key false rfl rfl rfl
  ·cases hc; exact key true rfl rfl rfl
  ·cases hc
 ·cases hc

end
end Go.Pi
namespace Go.Pi
open Go

section
variable {P:Program} {φ:Map} {lm:LMap}
variable {L:List Tmp} {T:List Value} {ρ:Operand→Value} {f:VOp} {xs:List Operand} {v:Value}

theorem Does.part {t:TypeId}{cs':Array Value}{off:Nat}{w:World}{s:Sem Value}(h:Does P φ lm w (part t cs' off) v)(he:s.run P w=(Go.part t cs' off).run P w):Does P φ lm w s v:=by
 obtain ⟨v',h1,h2⟩:=h
 exact ⟨v',by rw [he]; exact h1,h2⟩

theorem field_run {t:TypeId}{x:Operand}{i:Nat}{o:Oper}(ho:o.op=.field t x i)(hc:comp P L o=some (.v f xs))(hx:TR φ lm (ev T x) (ρ x))
  (hl:(xs.map (ev T)).all (fun v=>!isLoc v)=true) (hv:f.ev (xs.map (ev T))=some v) (w:World):DoesOp P φ lm w ρ o v:=by
 refine DoesOp.of (s:=Instr.field t (ρ x) i) (by simp only [execOp,ho]) ?_
 simp only [comp,ho] at hc
 split at hc
 ·rename_i fs hfs
  simp only [Option.bind_eq_some_iff] at hc
  obtain ⟨fd,hfd,hc⟩:=hc
  split at hc
  ·rename_i hk
   cases hc
   have hx':=hx.to_vr (all1 hl)
   simp only [List.map_cons,List.map_nil] at hv
   generalize ev T x=u at *
   generalize ρ x=u' at *
   cases hx' with
   | agg cs cs' h1 h2 =>
    have hp:Does P φ lm w (Go.part fd.type cs' fd.offset) v:=by
     refine part_run hk (.agg cs cs' h1 h2) ?_ w
     cases hcn:cellsN P fd.type <;> rw [hcn] at hv <;> simpa [VOp.ev] using hv
    refine hp.part ?_
    simp only [Instr.field,Sem.run_bind,run_underlying hfs,Result.andThen_ok,hfd,asAgg,Sem.run_pure]
   | _=>cases hcn:cellsN P fd.type <;> rw [hcn] at hv <;> simp [VOp.ev,junk] at hv
  ·cases hc
 ·cases hc

theorem index_run {t:TypeId}{x y:Operand}{o:Oper}(ho:o.op=.index t x y)(hc:comp P L o=some (.v f xs))(hx:TR φ lm (ev T x) (ρ x))(hy:TR φ lm (ev T y) (ρ y))
  (hl:(xs.map (ev T)).all (fun v=>!isLoc v)=true) (hv:f.ev (xs.map (ev T))=some v) (w:World):DoesOp P φ lm w ρ o v:=by
 refine DoesOp.of (s:=Instr.index t (ρ x) (ρ y)) (by simp only [execOp,ho]) ?_
 simp only [comp,ho] at hc
 split at hc
 ·rename_i ht
  cases hc
  simp only [List.map_cons,List.map_nil] at hv
  generalize ev T x=u at *
  generalize ev T y=z at *
  cases u <;> (try (simp [VOp.ev] at hv; done))
  cases z <;> (try (simp [VOp.ev] at hv; done))
  rename_i s k i
  simp only [VOp.ev] at hv
  split at hv
  ·rename_i hi
   simp only [Option.map_eq_some_iff] at hv
   obtain ⟨b,hb,rfl⟩:=hv
   rw [hx.string,hy.int]
   refine ⟨.int .u8 b.toNat,?_,.vr _ _ (.int _ _)⟩
   simp [Instr.index,asIntOf,run_underlying ht,hi,hb]
  ·cases hv
 ·rename_i n e ht
  split at hc
  ·rename_i hk
   cases hc
   obtain ⟨l1,l2⟩:=all2 hl
   have hx':=hx.to_vr l1
   simp only [List.map_cons,List.map_nil] at hv
   generalize ev T x=u at *
   generalize ev T y=z at *
   generalize ρ x=u' at *
   cases hx' with
   | agg cs cs' h1 h2 =>
    cases z <;> (try (cases hcn:cellsN P e <;> rw [hcn] at hv <;> simp [VOp.ev] at hv; done))
    rename_i k i
    rw [hy.int]
    by_cases hi:0≤i∧i < n
    ·have hp:Does P φ lm w (Go.part e cs' (i.toNat*P.cellsOf e)) v:=by
      refine part_run hk (.agg cs cs' h1 h2) ?_ w
      cases hcn:cellsN P e with
      | none=>rw [hcn] at hv; simpa [VOp.ev,hi] using hv
      | some m =>
       rw [hcn] at hv
       simp only [VOp.ev] at hv
       split at hv
       ·rename_i hh
        cases hv
        simp [hh.2.2]
       ·cases hv
     refine hp.part ?_
     simp [Instr.index,asIntOf,run_underlying ht,hi,cellsOf_run (known_spec hk).2]
    ·exfalso
     cases hcn:cellsN P e with
     | none=>rw [hcn] at hv; simp [VOp.ev] at hv; exact hi ⟨hv.1.1,hv.1.2⟩
     | some m=>rw [hcn] at hv; simp [VOp.ev] at hv; exact hi ⟨hv.1.1,hv.1.2.1⟩
   | _=>cases hcn:cellsN P e <;> rw [hcn] at hv <;> simp [VOp.ev,junk] at hv
  ·cases hc
 ·cases hc

theorem fieldAddr_run {t:TypeId}{x:Operand}{i:Nat}{o:Oper}(ho:o.op=.fieldAddr t x i)(hc:comp P L o=some (.v f xs))(hx:TR φ lm (ev T x) (ρ x))
  (hv:f.ev (xs.map (ev T))=some v) (w:World):DoesOp P φ lm w ρ o v:=by
 refine DoesOp.of (s:=Instr.fieldAt t (ρ x) i) (by simp only [execOp,ho]) ?_
 simp only [comp,ho] at hc
 split at hc
 ·rename_i fs hfs
  simp only [Option.bind_eq_some_iff] at hc
  obtain ⟨fd,hfd,hc⟩:=hc
  split at hc
  ·cases hc
  ·rename_i hk
   cases hc
   have hinfo:(P.info? fd.type).isSome=true:=by
    cases h:P.info? fd.type with
    | none=>exact absurd (by simp [Program.cellsOf,h]) hk
    | some i=>rfl
   have key:∀(a:Addr),ρ x=.pointer (some a)→(Instr.fieldAt t (ρ x) i).run P w=.ok (.pointer (some (a.add fd.offset))) w:=by
    intro a ha
    rw [ha]
    simp only [Instr.fieldAt,Sem.run_bind,run_underlying hfs,Result.andThen_ok,hfd,Instr.sureAddr,Sem.run_pure,fieldPlace,cellsOf_run hinfo]
    simp [hk]
   simp only [List.map_cons,List.map_nil] at hv
   generalize ev T x=u at *
   generalize ρ x=u' at *
   cases hx with
   | vr _ _ hx =>
    cases hx with
    | ptr i off s hs =>
     simp only [VOp.ev,Option.some.injEq] at hv
     subst hv
     refine ⟨_,key _ rfl,?_⟩
     rw [Addr.add_lit,Nat.add_assoc]
     exact .vr _ _ (.ptr i _ s hs)
    | _=>simp [VOp.ev,junk] at hv
   | ptr d off g b hb =>
    simp only [VOp.ev,Option.some.injEq] at hv
    subst hv
    refine ⟨_,key _ rfl,?_⟩
    rw [Addr.add_lit]
    exact .ptr d _ g b hb
   | sl d g len c b hb hc=>simp [VOp.ev] at hv
 ·cases hc

theorem indexAddr_run {t:TypeId}{x y:Operand}{o:Oper}(ho:o.op=.indexAddr t x y)(hc:comp P L o=some (.v f xs))(hx:TR φ lm (ev T x) (ρ x))(hy:TR φ lm (ev T y) (ρ y))
  (hl:f.addr=true∨(xs.map (ev T)).all (fun v=>!isLoc v)=true) (hv:f.ev (xs.map (ev T))=some v) (w:World):DoesOp P φ lm w ρ o v:=by
 refine DoesOp.of (s:=Instr.indexAt t (ρ x) (ρ y)) (by simp only [execOp,ho]) ?_
 simp only [comp,ho] at hc
 split at hc
 ·rename_i e ht
  split at hc
  ·rename_i hk
   cases hc
   have hx':=hx.to_vr (all2 (hl.resolve_left (by simp [VOp.addr]))).1
   simp only [List.map_cons,List.map_nil] at hv
   generalize ev T x=u at *
   generalize ev T y=z at *
   generalize ρ x=u' at *
   cases hx' with
   | sl i off l m a c hle hp =>
    cases z <;> (try (simp [VOp.ev] at hv; done))
    rename_i k ix
    simp only [VOp.ev] at hv
    split at hv
    ·rename_i hix
     cases hv
     obtain ⟨s,h1,h2,_⟩:=hp (.inl (by omega))
     subst h2
     rw [hy.int]
     refine ⟨.pointer (some ((⟨s.b,s.o+off,none⟩:Addr).add (ix.toNat*P.cellsOf e))),?_,?_⟩
     ·simp [Instr.indexAt,run_underlying ht,asIntOf,hix,cellsOf_run (known_spec hk).2]
     ·rw [Addr.add_lit,Nat.add_assoc]
      exact .vr _ _ (.ptr i _ s h1)
    ·cases hv
   | _=>simp [VOp.ev,junk] at hv
  ·cases hc
 ·rename_i n e ht
  split at hc
  ·rename_i hk
   cases hc
   have key:∀(a:Addr) (k:IntKind) (ix:Int),0≤ix∧ix < n→(Instr.indexAt t (.pointer (some a)) (.int k ix)).run P w=.ok (.pointer (some (a.add (ix.toNat*P.cellsOf e)))) w:=by
    intro a k ix hix
    simp [Instr.indexAt,run_underlying ht,asIntOf,hix,Instr.sureAddr,cellsOf_run (known_spec hk).2]
   simp only [List.map_cons,List.map_nil] at hv
   generalize ev T x=u at *
   generalize ev T y=z at *
   generalize ρ x=u' at *
   have hz:∃k ix,z=.int k ix:=by
    cases u <;> (try (simp [VOp.ev] at hv; done))
    rename_i a
    cases a <;> (try (simp [VOp.ev] at hv; done))
    cases z <;> (try (simp [VOp.ev] at hv; done))
    exact ⟨_,_,rfl⟩
   obtain ⟨k,ix,rfl⟩:=hz
   rw [hy.int]
   cases hx with
   | vr _ _ hx =>
    cases hx with
    | ptr i off s hs =>
     simp only [VOp.ev] at hv
     split at hv
     ·rename_i hix
      cases hv
      refine ⟨_,key _ _ _ hix,?_⟩
      rw [Addr.add_lit,Nat.add_assoc]
      exact .vr _ _ (.ptr i _ s hs)
     ·cases hv
    | _=>simp [VOp.ev,junk] at hv
   | ptr d off g b hb =>
    simp only [VOp.ev] at hv
    split at hv
    ·rename_i hix
     cases hv
     refine ⟨_,key _ _ _ hix,?_⟩
     rw [Addr.add_lit]
     exact .ptr d _ g b hb
    ·cases hv
   | sl d g len c b hb hc=>simp [VOp.ev] at hv
  ·cases hc
 ·cases hc

end
end Go.Pi
namespace Go.Pi
open Go

section
variable {P:Program} {φ:Map} {lm:LMap}
variable {L:List Tmp} {T:List Value} {ρ:Operand→Value} {f:VOp} {xs:List Operand} {v:Value}

theorem slice_run {t:TypeId}{x:Operand}{lo hi:Option Operand}{o:Oper}(ho:o.op=.slice t x lo hi none)(hc:comp P L o=some (.v f xs))(hx:TR φ lm (ev T x) (ρ x))(hlo:∀y,lo=some y→TR φ lm (ev T y) (ρ y))(hhi:∀y,hi=some y→TR φ lm (ev T y) (ρ y))
  (hl:(xs.map (ev T)).all (fun v=>!isLoc v)=true) (hv:f.ev (xs.map (ev T))=some v) (w:World):DoesOp P φ lm w ρ o v:=by
 refine DoesOp.of (s:=Instr.sliceAt t (ρ x) (lo.map ρ) (hi.map ρ) none) (by simp [execOp,ho]) ?_
 simp only [comp,ho] at hc
 split at hc
 ·rename_i ht
  cases hc
  have h1:(Instr.sliceAt t (ρ x) (lo.map ρ) (hi.map ρ) none).run P w=(Instr.slice t (ρ x) (lo.map ρ) (hi.map ρ) none).run P w:=run_sliceAt_string w t _ _ _ _ ht
  have fin:∀(s:ByteArray) (l h:Nat),(Instr.sliceBounds false s.size s.size (lo.map ρ) (hi.map ρ) none).run P w=.ok (l,h,s.size) w→ρ x=.string s→v=.string (s.extract l h)→Does P φ lm w (Instr.sliceAt t (ρ x) (lo.map ρ) (hi.map ρ) none) v:=by
   intro s l h hb hxs hvs
   refine ⟨.string (s.extract l h),?_,?_⟩
   ·rw [h1,hxs]
    simp [Instr.slice,run_underlying ht,hb]
   ·subst hvs; exact .vr _ _ (.str _)
  cases lo with
  | none =>
   cases hi with
   | none =>
    simp only [Option.isSome_none,Option.toList_none,List.append_nil,List.map_cons,List.map_nil] at hv
    generalize ev T x=u at *
    cases u <;> (try (simp [VOp.ev] at hv; done))
    rename_i s
    simp only [VOp.ev,Option.some.injEq] at hv
    exact fin s 0 s.size (by simp [Instr.sliceBounds]) hx.string hv.symm
   | some y =>
    simp only [Option.isSome_none,Option.isSome_some,Option.toList_none,Option.toList_some,List.append_nil,List.cons_append,List.nil_append,List.map_cons,List.map_nil] at hv
    have hy:=hhi y rfl
    generalize ev T x=u at *
    generalize ev T y=z at *
    cases u <;> (try (simp [VOp.ev] at hv; done))
    cases z <;> (try (simp [VOp.ev] at hv; done))
    rename_i s k i
    simp only [VOp.ev] at hv
    split at hv
    ·rename_i hi
     cases hv
     exact fin s 0 i.toNat (by simp [Instr.sliceBounds,hy.int,run_sliceBound,hi]) hx.string rfl
    ·cases hv
  | some z =>
   cases hi with
   | none =>
    simp only [Option.isSome_none,Option.isSome_some,Option.toList_none,Option.toList_some,List.append_nil,List.cons_append,List.nil_append,List.map_cons,List.map_nil] at hv
    have hy:=hlo z rfl
    generalize ev T x=u at *
    generalize ev T z=q at *
    cases u <;> (try (simp [VOp.ev] at hv; done))
    cases q <;> (try (simp [VOp.ev] at hv; done))
    rename_i s k i
    simp only [VOp.ev] at hv
    split at hv
    ·rename_i hi
     cases hv
     exact fin s i.toNat s.size (by simp [Instr.sliceBounds,hy.int,run_sliceBound,hi]) hx.string rfl
    ·cases hv
   | some y =>
    simp only [Option.isSome_some,Option.toList_some,List.cons_append,List.nil_append,List.map_cons,List.map_nil] at hv
    have hz:=hlo z rfl
    have hy:=hhi y rfl
    generalize ev T x=u at *
    generalize ev T z=q at *
    generalize ev T y=r at *
    cases u <;> (try (simp [VOp.ev] at hv; done))
    cases q <;> (try (simp [VOp.ev] at hv; done))
    cases r <;> (try (simp [VOp.ev] at hv; done))
    rename_i s k i k' i'
    simp only [VOp.ev] at hv
    split at hv
    ·rename_i hi
     cases hv
     have e:(i'.toNat:Int)=i':=Int.toNat_of_nonneg (by omega)
     exact fin s i.toNat i'.toNat (by simp [Instr.sliceBounds,hy.int,hz.int,run_sliceBound,hi,e,(by omega:0≤i')]) hx.string rfl
    ·cases hv
 ·rename_i e ht
  split at hc
  ·rename_i hk
   cases hc
   have ht':P.underlying t=some (.slice (P.elem t)):=by simp [Program.elem,ht]
   have he:P.elem t=e:=by simp [Program.elem,ht]
   have h1:(Instr.sliceAt t (ρ x) (lo.map ρ) (hi.map ρ) none).run P w=(Instr.slice t (ρ x) (lo.map ρ) (hi.map ρ) none).run P w:=run_sliceAt_slice w t _ _ _ _ ht'
   have hx':=hx.to_vr (by
    have:=List.all_eq_true.1 hl (ev T x) (by simp)
    simpa using this)
   have fin:∀(a:Option Addr) (ln m:Nat) (l h:Int),ev T x=.slice a ln m→VOp.ev.slc (P.cellsOf e) a ln m l h=some v →
     (∀c,0≤l→l≤h→h≤ln→ln≤c→(Instr.sliceBounds true ln c (lo.map ρ) (hi.map ρ) none).run P w=.ok (l.toNat,h.toNat,c) w)→Does P φ lm w (Instr.sliceAt t (ρ x) (lo.map ρ) (hi.map ρ) none) v:=by
    intro a ln m l h hxa hs hb
    rw [hxa] at hx'
    obtain ⟨a',c,h2,h3,h4,h5,h6,h7⟩:=slc_run ht hk hx' hs w (lm:=lm)
    refine ⟨_,?_,h7⟩
    rw [h1,h2,run_slice_any w t a' ln c ht',hb c h4 h5 h6 h3]
    simp [he,cellsOf_run (known_spec hk).2]
   cases lo with
   | none =>
    cases hi with
    | none =>
     simp only [Option.isSome_none,Option.toList_none,List.append_nil,List.map_cons,List.map_nil] at hv
     generalize hu:ev T x=u at *
     cases u <;> (try (simp [VOp.ev] at hv; done))
     rename_i a ln m
     exact fin a ln m 0 ln rfl (by simpa [VOp.ev] using hv) (fun c h1 h2 h3 h4=>by simp [Instr.sliceBounds])
    | some y =>
     simp only [Option.isSome_none,Option.isSome_some,Option.toList_none,Option.toList_some,List.append_nil,List.cons_append,List.nil_append,List.map_cons,List.map_nil] at hv
     have hy:=hhi y rfl
     generalize hu:ev T x=u at *
     generalize ev T y=z at *
     cases u <;> (try (simp [VOp.ev] at hv; done))
     rename_i a ln m
     cases z <;> (try (simp [VOp.ev] at hv; done))
     rename_i k i
     exact fin a ln m 0 i rfl (by simpa [VOp.ev] using hv) (fun c h1 h2 h3 h4=>by simp [Instr.sliceBounds,hy.int,run_sliceBound,h2,(by omega:i≤c)])
   | some z =>
    cases hi with
    | none =>
     simp only [Option.isSome_none,Option.isSome_some,Option.toList_none,Option.toList_some,List.append_nil,List.cons_append,List.nil_append,List.map_cons,List.map_nil] at hv
     have hy:=hlo z rfl
     generalize hu:ev T x=u at *
     generalize ev T z=q at *
     cases u <;> (try (simp [VOp.ev] at hv; done))
     rename_i a ln m
     cases q <;> (try (simp [VOp.ev] at hv; done))
     rename_i k i
     exact fin a ln m i ln rfl (by simpa [VOp.ev] using hv) (fun c h1 h2 h3 h4=>by simp [Instr.sliceBounds,hy.int,run_sliceBound,h1,h2])
    | some y =>
     simp only [Option.isSome_some,Option.toList_some,List.cons_append,List.nil_append,List.map_cons,List.map_nil] at hv
     have hz:=hlo z rfl
     have hy:=hhi y rfl
     generalize hu:ev T x=u at *
     generalize ev T z=q at *
     generalize ev T y=r at *
     cases u <;> (try (simp [VOp.ev] at hv; done))
     rename_i a ln m
     cases q <;> (try (simp [VOp.ev] at hv; done))
     cases r <;> (try (simp [VOp.ev] at hv; done))
     rename_i k i k' i'
     exact fin a ln m i i' rfl (by simpa [VOp.ev] using hv) (fun c h1 h2 h3 h4=>by
      have e:(i'.toNat:Int)=i':=Int.toNat_of_nonneg (by omega)
      simp [Instr.sliceBounds,hy.int,hz.int,run_sliceBound,h1,h2,e,(by omega:0≤i'),(by omega:i'≤c)])
  ·cases hc
 ·cases hc

theorem typeAssert_run {t u:TypeId}{x:Operand}{o:Oper}(ho:o.op=.typeAssert x u t true)(hc:comp P L o=some (.v f xs))(hx:TR φ lm (ev T x) (ρ x))
  (hl:(xs.map (ev T)).all (fun v=>!isLoc v)=true) (hv:f.ev (xs.map (ev T))=some v) (w:World):DoesOp P φ lm w ρ o v:=by
 refine DoesOp.of (s:=Instr.typeAssert (ρ x) u t true) (by simp only [execOp,ho]) ?_
 simp only [comp,ho] at hc
 split at hc
 ·cases hc
 ·cases hc
 ·rename_i d hd hd2
  simp only [Option.map_eq_some_iff] at hc
  obtain ⟨z,hz,hc⟩:=hc
  cases hc
  have hx':=hx.to_vr (all1 hl)
  obtain ⟨_,_,_,_,_,hzf⟩:=zeroOf_spec hz
  have pair:∀(a a':Value) (b:Bool),VR φ a a'→VR φ (.tuple #[a,.bool b]) (.tuple #[a',.bool b]):=by
   intro a a' b ha
   refine .tuple _ _ rfl fun j x y hx hy=>?_
   match j with
   | 0=>simp at hx hy; subst hx; subst hy; exact ha
   | 1=>simp at hx hy; subst hx; subst hy; exact .bool b
   | j+2=>simp at hx
  obtain ⟨dd,hdd⟩:∃dd,P.underlying t=some dd:=by
   cases h:P.underlying t with
   | none=>exact absurd h hd2
   | some dd=>exact ⟨dd,rfl⟩
  have hni:∀ms,dd≠.interface ms:=fun ms h=>hd ms (by rw [hdd,h])
  simp only [List.map_cons,List.map_nil] at hv
  generalize ev T x=q at *
  generalize ρ x=q' at *
  cases hx' with
  | nilI =>
   simp only [VOp.ev,Option.some.injEq] at hv
   subst hv
   refine ⟨.tuple #[z,.bool false],?_,.vr _ _ (pair _ _ _ (flat_refl φ 8 z hzf))⟩
   cases dd <;> first | exact absurd rfl (hni _) | simp [Instr.typeAssert,run_underlying hdd,zeroOf_run hz]
  | iface tt a b hab =>
   simp only [VOp.ev,Option.some.injEq] at hv
   by_cases h:tt=t
   ·subst h
    simp only [if_true] at hv
    subst hv
    refine ⟨.tuple #[b,.bool true],?_,.vr _ _ (pair _ _ _ hab)⟩
    cases dd <;> first | exact absurd rfl (hni _) | simp [Instr.typeAssert,run_underlying hdd]
   ·simp only [h,if_false] at hv
    subst hv
    refine ⟨.tuple #[z,.bool false],?_,.vr _ _ (pair _ _ _ (flat_refl φ 8 z hzf))⟩
    cases dd <;> first | exact absurd rfl (hni _) | simp [Instr.typeAssert,run_underlying hdd,zeroOf_run hz,h]
  | _=>simp [VOp.ev,junk] at hv
end
end Go.Pi
namespace Go.Pi
open Go

section
variable {P:Program} {φ:Map} {lm:LMap}
variable {L:List Tmp} {T:List Value} {ρ:Operand→Value} {f:VOp} {xs:List Operand} {v:Value}

theorem builtin_exec {o:Oper}{c:Call}{b:Builtin}(ρ:Operand→Value)(ho:o.op=.call c)(hc:c.callee=.builtin b)(w:World) :
  ∃consts,(execOp ρ o).run P w=(builtin b c.argTypes o.type consts (c.args.map ρ)).run P w:=by
 have h:∃consts,resolve ρ c o.type=pure { target:=.builtin b c.argTypes o.type consts,args:=c.args.map ρ }:=by
  unfold resolve
  simp only [hc]
  exact ⟨_,rfl⟩
 obtain ⟨consts,h⟩:=h
 refine ⟨consts,?_⟩
 simp only [execOp,ho,h,Sem.run_bind,Sem.run_pure,Result.andThen_ok,invoke]

theorem len_run {c:Call}{o:Oper}{x:Operand}(ho:o.op=.call c)(hcal:c.callee=.builtin .len)(hargs:c.args=#[x])
  (hc:(match (c.argTypes[0]?).bind P.underlying with | some .string=>some (POp.v .slen [x]) | some (.slice _)=>some (.v .len [x]) | _=>none)=some (.v f xs)) (hx:TR φ lm (ev T x) (ρ x))
  (hl:(xs.map (ev T)).all (fun v=>!isLoc v)=true) (hv:f.ev (xs.map (ev T))=some v) (w:World):DoesOp P φ lm w ρ o v:=by
 obtain ⟨consts,hexec⟩:=builtin_exec (P:=P) ρ ho hcal w
 rw [hargs] at hexec
 unfold DoesOp
 rw [hexec]
 cases ha:c.argTypes[0]? with
 | none=>simp [ha] at hc
 | some t =>
  simp only [ha,Option.bind_some] at hc
  split at hc
  ·rename_i ht
   cases hc
   simp only [List.map_cons,List.map_nil] at hv
   have hx':=hx.to_vr (all1 hl)
   simp only [List.map_toArray,List.map_cons,List.map_nil]
   generalize ev T x=u at *
   generalize ρ x=u' at *
   cases hx' with
   | str s =>
    simp only [VOp.ev,Option.some.injEq] at hv
    subst hv
    refine ⟨.int .i64 s.size,?_,.vr _ _ (.int _ _)⟩
    simp [builtin,Builtin.len_,ha,run_underlying ht,goInt]
   | _=>simp [VOp.ev,junk] at hv
  ·rename_i ht
   cases hc
   simp only [List.map_cons,List.map_nil] at hv
   have hx':=hx.to_vr (all1 hl)
   simp only [List.map_toArray,List.map_cons,List.map_nil]
   generalize ev T x=u at *
   generalize ρ x=u' at *
   cases hx' with
   | sl i off l m a c hle hp =>
    simp only [VOp.ev,Option.some.injEq] at hv
    subst hv
    refine ⟨.int .i64 l,?_,.vr _ _ (.int _ _)⟩
    simp [builtin,Builtin.len_,ha,run_underlying ht,goInt]
   | sl0 =>
    simp only [VOp.ev,Option.some.injEq] at hv
    subst hv
    refine ⟨.int .i64 0,?_,.vr _ _ (.int _ _)⟩
    simp [builtin,Builtin.len_,ha,run_underlying ht,goInt]
   | _=>simp [VOp.ev,junk] at hv
  ·cases hc

theorem minmax_run {c:Call}{o:Oper}{x y:Operand}{mx:Bool}(ho:o.op=.call c)(hcal:c.callee=.builtin (if mx then .max else .min))(hargs:c.args=#[x,y])(hx:TR φ lm (ev T x) (ρ x))(hy:TR φ lm (ev T y) (ρ y))
  (hv:(if mx then VOp.mx else VOp.mn).ev [ev T x,ev T y]=some v) (w:World):DoesOp P φ lm w ρ o v:=by
 obtain ⟨consts,hexec⟩:=builtin_exec (P:=P) ρ ho hcal w
 rw [hargs] at hexec
 unfold DoesOp
 rw [hexec]
 simp only [List.map_toArray,List.map_cons,List.map_nil]
 generalize ev T x=u at *
 generalize ev T y=z at *
 cases u <;> (try (cases mx <;> simp [VOp.ev] at hv; done))
 cases z <;> (try (cases mx <;> simp [VOp.ev] at hv; done))
 rename_i k a j b
 rw [hx.int,hy.int]
 cases mx
 ·simp only [VOp.ev,Option.some.injEq,Bool.false_eq_true,if_false] at hv
  subst hv
  exact ⟨_,by simp [builtin,run_min_int2],.vr _ _ (.int _ _)⟩
 ·simp only [VOp.ev,Option.some.injEq,if_true] at hv
  subst hv
  exact ⟨_,by simp [builtin,run_max_int2],.vr _ _ (.int _ _)⟩

theorem call_run {c:Call}{o:Oper}(ho:o.op=.call c)(hc:compCall P c=some (.v f xs))(hR:∀x∈c.operands,TR φ lm (ev T x) (ρ x))
  (hl:(xs.map (ev T)).all (fun v=>!isLoc v)=true) (hv:f.ev (xs.map (ev T))=some v) (w:World):DoesOp P φ lm w ρ o v:=by
 have hargs':∀l,c.args.toList=l→c.args=l.toArray:=fun l h=>by rw [←h]
 unfold compCall at hc
 split at hc
 ·split at hc
  ·split at hc
   ·split at hc <;> cases hc
   ·split at hc <;> cases hc
   ·cases hc
  ·cases hc
 ·rename_i x hcal hargs
  have hargs:=hargs' _ hargs
  exact len_run ho hcal hargs hc (hR x (by simp [Call.operands,hargs])) hl hv w
 ·exfalso
  split at hc
  ·simp only [Option.bind_eq_some_iff] at hc
   obtain ⟨_,_,_,_,hc⟩:=hc
   split at hc <;> cases hc
  ·cases hc
 ·rename_i x y hcal hargs
  have hargs:=hargs' _ hargs
  cases hc
  exact minmax_run (mx:=false) ho hcal hargs (hR x (by simp [Call.operands,hargs])) (hR y (by simp [Call.operands,hargs])) hv w
 ·rename_i x y hcal hargs
  have hargs:=hargs' _ hargs
  cases hc
  exact minmax_run (mx:=true) ho hcal hargs (hR x (by simp [Call.operands,hargs])) (hR y (by simp [Call.operands,hargs])) hv w
 ·cases hc
 ·cases hc
 ·cases hc

end
end Go.Pi
namespace Go.Pi
open Go

section
variable {P:Program} {φ:Map} {lm:LMap}
variable {L:List Tmp} {T:List Value} {ρ:Operand→Value} {f:VOp} {xs:List Operand} {v:Value}

theorem convert_run {s d:TypeId}{x:Operand}{o:Oper}(ho:o.op=.convert s d x)(hc:comp P L o=some (.v f xs))(hx:TR φ lm (ev T x) (ρ x))
  (hl:(xs.map (ev T)).all (fun v=>!isLoc v)=true) (hv:f.ev (xs.map (ev T))=some v) (w:World):DoesOp P φ lm w ρ o v:=by
 refine DoesOp.of (s:=convert s d (ρ x)) (by simp only [execOp,ho]) ?_
 simp only [comp,ho] at hc
 split at hc
 ·rename_i k hs hd
  cases hc
  simp only [List.map_cons,List.map_nil] at hv
  generalize ev T x=u at *
  cases u <;> (try (simp [VOp.ev] at hv; done))
  rw [hx.int]
  simp only [VOp.ev,Option.some.injEq] at hv
  subst hv
  exact ⟨_,by simp only [convert,Sem.run_bind,run_underlying hs,run_underlying hd,Result.andThen_ok,Conv.intToInt,Sem.run_pure],.vr _ _ (.int _ _)⟩
 ·rename_i hs hd
  cases hc
  simp only [List.map_cons,List.map_nil] at hv
  generalize ev T x=u at *
  cases u <;> (try (simp [VOp.ev] at hv; done))
  rw [hx.string]
  simp only [VOp.ev,Option.some.injEq] at hv
  subst hv
  exact ⟨_,by simp only [convert,Sem.run_bind,run_underlying hs,run_underlying hd,Result.andThen_ok,Sem.run_pure],.vr _ _ (.str _)⟩
 ·split at hc <;> cases hc
 ·split at hc <;> cases hc
 ·cases hc

theorem nckAll_spec {n:String}{t:TypeId}(h:(nckAll P).contains (n,t)=true):nckOk P n t=true:=by
 rw [List.contains_iff_mem] at h
 unfold nckAll at h
 obtain ⟨u,_,hu⟩:=List.mem_flatMap.1 h
 split at hu
 ·obtain ⟨m,_,hm⟩:=List.mem_filterMap.1 hu
  split at hm
  ·rename_i hk
   simp only [Option.some.injEq,Prod.mk.injEq] at hm
   obtain ⟨rfl,rfl⟩:=hm
   exact hk
  ·cases hm
 ·cases hu

theorem nilAhead_run {n:String}{t:TypeId}(h:nckOk P n t=true)(v:Value)(k:Nat)(w:World):(nilAhead (k+1) t v n).run P w=.ok (some false) w:=by
 unfold nckOk at h
 cases hi:P.info? t with
 | none=>rw [hi] at h; simp at h
 | some i =>
  rw [hi] at h
  simp only at h
  cases hm:i.methods.find? (·.name == n) with
  | none=>rw [hm] at h; simp at h
  | some m =>
   rw [hm] at h
   simp only at h
   have hti:(typeInfo t).run P w=.ok i w:=by simp [typeInfo,hi]
   split at h
   ·cases h
   ·rename_i g d hnp hsz hf hu
    have hp:m.path.toList=[]:=List.length_eq_zero_iff.1 (by simpa using hsz)
    simp only [nilAhead,Sem.run_bind,hti,Result.andThen_ok,hm,hp,followBlind,Sem.run_pure,hf]
    rw [run_underlying hu]
    simp only [Result.andThen_ok]
    cases d <;> first | rfl | exact (hnp _ rfl).elim | simp
   ·cases h

theorem pureOp (o:Oper)(hc:comp P L o=some (.v f xs))(hR:∀x∈o.op.operands.toList,TR φ lm (ev T x) (ρ x))(hρ:∀c,ρ (.const c)=c)
  (hl:f.addr=true∨(xs.map (ev T)).all (fun v=>!isLoc v)=true) (hv:f.ev (xs.map (ev T))=some v) (w:World):DoesOp P φ lm w ρ o v:=by
 cases ho:o.op with
 | move x =>
  simp only [comp,ho] at hc; cases hc
  have hx:=hR x (by simp [ho,Op.operands])
  simp only [List.map_cons,List.map_nil,VOp.ev,Option.some.injEq] at hv
  exact ⟨ρ x,by simp [execOp,ho],hv ▸ hx⟩
 | assign x =>
  simp only [comp,ho] at hc; cases hc
  have hx:=hR x (by simp [ho,Op.operands])
  simp only [List.map_cons,List.map_nil,VOp.ev,Option.some.injEq] at hv
  exact ⟨ρ x,by simp [execOp,ho],hv ▸ hx⟩
 | pick c a b =>
  simp only [comp,ho] at hc; cases hc
  have h1:=hR c (by simp [ho,Op.operands])
  have h2:=hR a (by simp [ho,Op.operands])
  have h3:=hR b (by simp [ho,Op.operands])
  simp only [List.map_cons,List.map_nil] at hv
  generalize ev T c=u at *
  cases u <;> (try (simp [VOp.ev] at hv; done))
  rename_i t
  simp only [VOp.ev,Option.some.injEq] at hv
  refine ⟨if t then ρ a else ρ b,by simp [execOp,ho,h1.bool,asBool],?_⟩
  cases t
  ·simp at hv ⊢; exact hv ▸ h3
  ·simp at hv ⊢; exact hv ▸ h2
 | build t ps =>
  have hl':(xs.map (ev T)).all (fun v=>!isLoc v)=true:=hl.resolve_left (by
   simp only [comp,ho] at hc
   split at hc
   ·split at hc
    ·cases hc
    ·simp only [Option.map_eq_some_iff] at hc
     obtain ⟨_,_,hc⟩:=hc
     cases hc; simp [VOp.addr]
   ·split at hc
    ·cases hc
    ·cases hc; simp [VOp.addr]
   ·cases hc)
  refine DoesOp.of (s:=Instr.build t (ps.map fun (i,x)=>(i,ρ x))) (by simp only [execOp,ho]) ?_
  obtain ⟨pl⟩:=ps
  exact build_run ho hc (fun x hx=>hR x (by simp [ho,Op.operands]; simpa using hx)) hl' hv w
 | binOp op t x y b =>
  refine bin_run ho hc (hR x (by simp [ho,Op.operands])) (hR y (by simp [ho,Op.operands])) hρ ?_ hv w
  refine hl.resolve_left ?_
  simp only [comp,ho,compBin] at hc
  split at hc
  ·cases hc; simp [VOp.addr]
  ·cases hc; simp [VOp.addr]
  ·split at hc <;> cases hc <;> simp [VOp.addr]
  ·simp only [Option.bind_eq_some_iff] at hc
   obtain ⟨_,_,hc⟩:=hc
   split at hc <;> cases hc <;> simp [VOp.addr]
  ·simp only [Option.bind_eq_some_iff] at hc
   obtain ⟨_,_,hc⟩:=hc
   split at hc <;> cases hc <;> simp [VOp.addr]
  ·cases hc
 | unOp op t x =>
  have hx:=hR x (by simp [ho,Op.operands])
  refine DoesOp.of (s:=Op.unary op (ρ x)) (by simp only [execOp,ho]) ?_
  cases op <;> simp only [comp,ho] at hc <;> cases hc
  all_goals
   simp only [List.map_cons,List.map_nil] at hv
   generalize ev T x=u at *
   cases u <;> (try (simp [VOp.ev] at hv; done))
   simp only [VOp.ev,Option.some.injEq] at hv
   subst hv
  ·rw [hx.int]; exact ⟨_,by simp only [Op.unary,Op.intArith,Sem.run_pure],.vr _ _ (.int _ _)⟩
  ·rw [hx.bool]; exact ⟨_,by simp only [Op.unary,Sem.run_pure],.vr _ _ (.bool _)⟩
 | convert s d x =>
  refine convert_run ho hc (hR x (by simp [ho,Op.operands])) ?_ hv w
  refine hl.resolve_left ?_
  simp only [comp,ho] at hc
  split at hc
  ·cases hc; simp [VOp.addr]
  ·cases hc; simp [VOp.addr]
  ·split at hc <;> cases hc
  ·split at hc <;> cases hc
  ·cases hc
 | makeInterface t x =>
  have hx:=hR x (by simp [ho,Op.operands])
  refine DoesOp.of (s:=Instr.makeInterface t (ρ x)) (by simp only [execOp,ho]) ?_
  simp only [comp,ho] at hc
  split at hc
  ·cases hc
  ·cases hc
  ·rename_i d h1 h2
   cases hc
   have hx':=hx.to_vr (all1 (hl.resolve_left (by simp [VOp.addr])))
   simp only [List.map_cons,List.map_nil,VOp.ev,Option.some.injEq] at hv
   subst hv
   refine ⟨.iface t (ρ x),run_makeInterface w t _ ?_,.vr _ _ (.iface _ _ _ hx')⟩
   cases hd:P.underlying t with
   | none=>exact absurd hd h2
   | some dd=>cases dd <;> first | exact absurd hd (h1 _) | simp [Program.concrete,hd]
 | makeFunc fn first cap =>
  cases fn <;> simp only [comp,ho] at hc
  ·rename_i g
   split at hc
   ·cases hc
    have hl':=hl.resolve_left (by simp [VOp.addr])
    have hall:VRs φ ((first.toList++cap.toList).map (ev T)) ((first.toList++cap.toList).map ρ):=VRs.map_ev (fun x hx=>hR x (by simpa [ho,Op.operands] using hx)) hl'
    simp only [VOp.ev] at hv
    split at hv
    ·cases hv
     have hft:=hall.take first.size
     have hfd:=hall.drop first.size
     refine ⟨.func (.func g) (first.map ρ) (cap.map ρ),by simp [execOp,ho,Instr.makeFunc],.vr _ _ (.func g _ _ _ _ ?_ ?_ ?_ ?_)⟩
     ·simp
     ·intro j x y hx hy
      refine hft.2 j x y (by simpa using hx) ?_
      rw [List.map_append,List.take_left' (by simp)]
      simpa using hy
     ·simp
     ·intro j x y hx hy
      refine hfd.2 j x y (by simpa using hx) ?_
      rw [List.map_append,List.drop_left' (by simp)]
      simpa using hy
    ·cases hv
   ·cases hc
  case method name =>
   split at hc
   ·rename_i x hf hcap
    cases hc
    have e1:first=#[x]:=Array.toList_inj.1 hf
    have e2:cap=#[]:=Array.toList_inj.1 hcap
    have hx:=hR x (by simp [ho,Op.operands,e1])
    have hx':=hx.to_vr (all1 (hl.resolve_left (by simp [VOp.addr])))
    simp only [List.map_cons,List.map_nil] at hv
    generalize ev T x=u at *
    generalize hρx:ρ x=u' at *
    cases hx' with
    | iface t a b _ =>
     simp only [VOp.ev,Option.some.injEq] at hv
     subst hv
     refine ⟨.func (.method name) #[.iface t b] #[],?_,.vr _ _ (.meth name t b)⟩
     simp [execOp,ho,Instr.makeFunc,e1,e2,hρx]
    | _=>simp [VOp.ev,junk] at hv
   ·cases hc
  all_goals cases hc
 | nilCheck x =>
  have hx:=hR x (by simp [ho,Op.operands])
  simp only [comp,ho] at hc
  cases hc
  have hx':=hx.to_vr (all1 (hl.resolve_left (by simp [VOp.addr])))
  simp only [List.map_cons,List.map_nil] at hv
  generalize ev T x=u at *
  generalize hρx:ρ x=u' at *
  cases hx' with
  | meth name t y =>
   have h2:(nckAll P).contains (name,t)=true∧v=junk:=by
    simp only [VOp.ev] at hv
    split at hv
    ·rename_i hk; cases hv; exact ⟨hk,rfl⟩
    ·cases hv
   obtain ⟨h2,rfl⟩:=h2
   refine ⟨.func (.method name) #[.iface t y] #[],?_,.vr _ _ (.junk _)⟩
   obtain ⟨k,hk⟩:∃k,P.types.size+Made.depth=k+1:=⟨P.types.size+99,rfl⟩
   have hn:=nilAhead_run (nckAll_spec h2) y k w
   simp [execOp,ho,hρx,hk,hn]
  | _=>simp [VOp.ev,junk] at hv
 | slice t x lo hi mx =>
  cases mx with
  | some m=>simp [comp,ho] at hc
  | none =>
   refine slice_run ho hc (hR x (by simp [ho,Op.operands])) (fun y hy=>hR y (by subst hy; simp [ho,Op.operands])) (fun y hy=>hR y (by subst hy; simp [ho,Op.operands])) ?_ hv w
   refine hl.resolve_left ?_
   simp only [comp,ho] at hc
   split at hc
   ·cases hc; simp [VOp.addr]
   ·split at hc
    ·cases hc; simp [VOp.addr]
    ·cases hc
   ·cases hc
 | fieldAddr t x i=>exact fieldAddr_run ho hc (hR x (by simp [ho,Op.operands])) hv w
 | field t x i =>
  refine field_run ho hc (hR x (by simp [ho,Op.operands])) ?_ hv w
  refine hl.resolve_left ?_
  simp only [comp,ho] at hc
  split at hc
  ·simp only [Option.bind_eq_some_iff] at hc
   obtain ⟨_,_,hc⟩:=hc
   split at hc
   ·cases hc; simp [VOp.addr]
   ·cases hc
  ·cases hc
 | indexAddr t x y=>exact indexAddr_run ho hc (hR x (by simp [ho,Op.operands])) (hR y (by simp [ho,Op.operands])) hl hv w
 | index t x y =>
  refine index_run ho hc (hR x (by simp [ho,Op.operands])) (hR y (by simp [ho,Op.operands])) ?_ hv w
  refine hl.resolve_left ?_
  simp only [comp,ho] at hc
  split at hc
  ·cases hc; simp [VOp.addr]
  ·split at hc
   ·cases hc; simp [VOp.addr]
   ·cases hc
  ·cases hc
 | typeAssert x u t ok =>
  cases ok with
  | false=>simp [comp,ho] at hc
  | true =>
   refine typeAssert_run ho hc (hR x (by simp [ho,Op.operands])) ?_ hv w
   refine hl.resolve_left ?_
   simp only [comp,ho] at hc
   split at hc
   ·cases hc
   ·cases hc
   ·simp only [Option.map_eq_some_iff] at hc
    obtain ⟨_,_,hc⟩:=hc
    cases hc; simp [VOp.addr]
 | extract x i =>
  have hx:=hR x (by simp [ho,Op.operands])
  refine DoesOp.of (s:=Instr.extract (ρ x) i) (by simp only [execOp,ho]) ?_
  simp only [comp,ho] at hc
  cases hc
  have hx':=hx.to_vr (all1 (hl.resolve_left (by simp [VOp.addr])))
  simp only [List.map_cons,List.map_nil] at hv
  generalize ev T x=u at *
  generalize ρ x=u' at *
  cases hx' with
  | tuple a a' h1 h2 =>
   simp only [VOp.ev] at hv
   have hlt:i < a'.size:=h1 ▸ (Array.getElem?_eq_some_iff.1 hv).1
   exact ⟨a'[i],by simp [Instr.extract,hlt],.vr _ _ (h2 i v _ hv (Array.getElem?_eq_getElem hlt))⟩
  | _=>simp [VOp.ev,junk] at hv
 | call c =>
  simp only [comp,ho] at hc
  refine call_run ho hc (fun x hx=>hR x (by simpa [ho,Op.operands] using hx)) ?_ hv w
  refine hl.resolve_left ?_
  unfold compCall at hc
  split at hc
  ·split at hc
   ·split at hc
    ·split at hc <;> cases hc
    ·split at hc <;> cases hc
    ·cases hc
   ·cases hc
  ·split at hc
   ·cases hc; simp [VOp.addr]
   ·cases hc; simp [VOp.addr]
   ·cases hc
  ·exfalso
   split at hc
   ·simp only [Option.bind_eq_some_iff] at hc
    obtain ⟨_,_,_,_,hc⟩:=hc
    split at hc <;> cases hc
   ·cases hc
  ·cases hc; simp [VOp.addr]
  ·cases hc; simp [VOp.addr]
  ·cases hc
  ·cases hc
  ·cases hc
 | alloc t =>
  simp only [comp,ho,Option.bind_eq_some_iff] at hc
  obtain ⟨_,_,hc⟩:=hc
  split at hc
  ·split at hc <;> cases hc
  ·cases hc
 | box t x=>simp only [comp,ho] at hc; split at hc <;> cases hc
 | buildSlice t n ps =>
  simp only [comp,ho,Option.bind_eq_some_iff] at hc
  obtain ⟨_,_,_,_,hc⟩:=hc
  split at hc
  ·split at hc <;> cases hc
  ·cases hc
 | load t a=>simp only [comp,ho] at hc; split at hc <;> cases hc
 | store t a x=>simp only [comp,ho] at hc; split at hc <;> cases hc
 | makeMap t r =>
  simp only [comp,ho] at hc
  split at hc
  ·simp only [Option.map_eq_some_iff] at hc; obtain ⟨_,_,hc⟩:=hc; cases hc
  ·simp only [Option.map_eq_some_iff] at hc; obtain ⟨_,_,hc⟩:=hc; cases hc
  ·cases hc
 | makeSlice t l c =>
  simp only [comp,ho,Option.bind_eq_some_iff] at hc
  obtain ⟨_,_,_,_,hc⟩:=hc
  split at hc <;> cases hc
 | lookup t m k ok =>
  simp only [comp,ho] at hc
  split at hc
  ·simp only [Option.bind_eq_some_iff,Option.map_eq_some_iff] at hc; obtain ⟨_,_,_,_,hc⟩:=hc; cases hc
  ·cases hc
 | mapUpdate t m k x =>
  simp only [comp,ho] at hc
  split at hc
  ·simp only [Option.map_eq_some_iff] at hc; obtain ⟨_,_,hc⟩:=hc; cases hc
  ·cases hc
 | insert t m k x =>
  simp only [comp,ho] at hc
  split at hc
  ·simp only [Option.map_eq_some_iff] at hc; obtain ⟨_,_,hc⟩:=hc; cases hc
  ·cases hc
 | range t x=>simp only [comp,ho] at hc; split at hc <;> cases hc
 | next x b=>cases b <;> simp [comp,ho] at hc
 | defer c=>simp only [comp,ho] at hc; split at hc <;> cases hc
 | _=>simp [comp,ho] at hc

end
end Go.Pi
