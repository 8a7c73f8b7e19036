/- From the rows' statements to the small language: what is read at a call's beginning is read behind it; arguments as they are laid. -/
import Derived.ProofKit
import Derived.Deep.Slices
import Derived.Deep.SlicePairs
import Derived.OpenShut
import Derived.Test.YtjgmlngcknehhaaGreatPiJ
import Derived.Test.YtjgmlngcknehhaaGreatLB
set_option linter.all false
namespace Go.Pi.E
open Go Go.Pi Go.Pi.L Go.ChangeShapes Go.WideShapes Go.RowKit

theorem cell_more {w w':World}(h:More w w'){a:Addr}{v:Value}(hc:w.cell? a=some v):w'.cell? a=some v:=by
 unfold World.cell? at hc ⊢
 cases hb:w.heap[a.block]? with
 | none=>rw [hb] at hc; cases hc
 | some o=>rw [hb] at hc; rw [h.old _ (Array.getElem?_eq_some_iff.1 hb).1,hb]; exact hc
theorem mapM_mono {α β:Type}{f g:α→Option β}:∀{l:List α} {ys:List β},l.mapM f=some ys→(∀x y,x∈l→f x=some y→y∈ys→g x=some y)→l.mapM g=some ys
 | [],ys,h,_=>by simpa using h
 | x :: l,ys,h,hg=>by
  rw [List.mapM_cons] at h ⊢
  cases hx:f x with
  | none=>rw [hx] at h; cases h
  | some y =>
   rw [hx] at h
   cases hl:l.mapM f with
   | none=>simp [hl] at h
   | some zs =>
    simp [hl] at h
    subst h
    rw [hg x y (List.mem_cons_self ..) hx (List.mem_cons_self ..)]
    simp only [Option.bind_eq_bind,Option.bind_some]
    rw [mapM_mono hl fun x' y' h1 h2 h3=>hg x' y' (List.mem_cons_of_mem _ h1) h2 (List.mem_cons_of_mem _ h3)]
    rfl
theorem cells_more {w w':World}(h:More w w'){base:Nat}{a:Addr}{n:Nat}{cs:List Value}(hc:w.cells? base a n=some cs):w'.cells? base a n=some cs:=by
 unfold World.cells? at hc ⊢
 split at hc
 ·rename_i hb
  rw [if_pos hb]
  exact mapM_mono hc fun x y _ hx _=>cell_more h hx
 ·cases hc

section
variable {H:Type} {enc:TypeId×Value→H} {P:Program}
def plainT (P:Program):Nat→TypeId→Bool
 | 0,_=>false
 | n+1,t =>
  match P.underlying t with
  | some .bool=>true
  | some (.int _)=>true
  | some .string=>true
  | some (.slice e)=>Nat.blt 0 (P.cellsOf e)&&plainT P n e
  | some (.struct fs)=>fs.toList.all fun f=>plainT P n f.type
  | _=>false
theorem plain_slice {m:Nat}{t e:TypeId}(h:plainT P m t=true)(ht:P.underlying t=some (.slice e)):0 < P.cellsOf e∧∃k,plainT P k e=true:=by
 cases m with
 | zero=>cases h
 | succ m =>
  simp only [plainT,ht,Bool.and_eq_true] at h
  exact ⟨Nat.le_of_ble_eq_true h.1,m,h.2⟩
theorem plain_struct {m:Nat}{t:TypeId}{fs:Array Field}(h:plainT P m t=true)(ht:P.underlying t=some (.struct fs)):∀f∈fs.toList,∃k,plainT P k f.type=true:=by
 cases m with
 | zero=>cases h
 | succ m =>
  simp only [plainT,ht,List.all_eq_true] at h
  exact fun f hf=>⟨m,h f hf⟩
theorem plain_not {m:Nat}{t:TypeId}{d:TypeDesc}(h:plainT P m t=true)(ht:P.underlying t=some d)(hd:match d with | .bool | .int _ | .string | .slice _ | .struct _=>False | _=>True):False:=by
 cases m with
 | zero=>cases h
 | succ m =>
  simp only [plainT,ht] at h
  cases d <;> first | exact hd | cases h
theorem trod_more {w w':World}(hm:More w w'){held:Bool}{base:Nat}{sp':Nat→Bool}:∀{fuel:Nat} {t:TypeId} {cs:List Value} {x:DataW H×List MemPlace} {m:Nat},plainT P m t=true →
  DataW.trod enc P w base (fun _=>true) held fuel t cs=some x→(∀p∈x.2,sp' p.block=true)→DataW.trod enc P w' base sp' held fuel t cs=some x:=by
 intro fuel
 induction fuel with
 | zero=>intro t cs x m hpl h; simp [DataW.trod] at h
 | succ n ih =>
  intro t cs x m hpl h hsp
  unfold DataW.trod at h ⊢
  split at h <;> try exact h
  ·rename_i ht; exact (plain_not hpl ht trivial).elim
  ·-- a slice
   rename_i e a len cap ht
   obtain ⟨hce,k,hke⟩:=plain_slice hpl ht
   simp only at h ⊢
   split at h
   ·rename_i hc
    rw [if_pos hc]
    rw [Option.bind_eq_some_iff] at h
    obtain ⟨elems,h1,h2⟩:=h
    rw [Option.map_eq_some_iff] at h2
    obtain ⟨rest,h3,rfl⟩:=h2
    simp only [if_true] at h3
    have hel:∀i y,(w.cells? base (a.add (i*P.cellsOf e)) (P.cellsOf e)).bind (DataW.trod enc P w base (fun _=>true) held n e)=some y→y∈elems++rest →
      (w'.cells? base (a.add (i*P.cellsOf e)) (P.cellsOf e)).bind (DataW.trod enc P w' base sp' held n e)=some y:=by
     intro i y hy hmem
     rw [Option.bind_eq_some_iff] at hy ⊢
     obtain ⟨c,g1,g2⟩:=hy
     exact ⟨c,cells_more hm g1,ih hke g2 fun p hp=>hsp p (List.mem_append.2 (.inr (List.mem_flatMap.2 ⟨y,hmem,hp⟩)))⟩
    rw [mapM_mono h1 fun i y _ hy hmem=>hel i y hy (List.mem_append.2 (.inl hmem))]
    simp only [Option.bind_some]
    have e1:elems.length=len:=by simpa using mapM_some_length h1
    have e2:rest.length=cap - len:=by simpa using mapM_some_length h3
    by_cases hz:cap=len
    ·have:rest=[]:=List.eq_nil_of_length_eq_zero (by omega)
     subst this
     have:(if sp' a.block=true then (List.range (cap - len)).mapM fun j=>(w'.cells? base (a.add ((len+j)*P.cellsOf e)) (P.cellsOf e)).bind (DataW.trod enc P w' base sp' held n e) else some [])=some []:=by
      rw [hz,Nat.sub_self]
      split <;> rfl
     rw [this]; rfl
    ·have hb:sp' a.block=true:=by
      refine hsp (.cell a.block (a.off+0)) (List.mem_append.2 (.inl ?_))
      simp only [MemPlace.row,List.mem_map,List.mem_range]
      exact ⟨0,Nat.mul_pos (by omega) hce,rfl⟩
     rw [if_pos hb,mapM_mono h3 fun j y _ hy hmem=>hel (len+j) y hy (List.mem_append.2 (.inr hmem))]
     rfl
   ·cases h
  ·-- a struct
   rename_i fs ht
   split at h
   ·rename_i hc
    rw [if_pos hc]
    rw [Option.map_eq_some_iff] at h ⊢
    obtain ⟨xs,h1,rfl⟩:=h
    exact ⟨xs,mapM_mono h1 fun f y hf hy hmem=>let ⟨k,hk⟩:=plain_struct hpl ht f hf; ih hk hy fun p hp=>hsp p (List.mem_flatMap.2 ⟨y,hmem,hp⟩),rfl⟩
   ·cases h
  ·rename_i ht; exact (plain_not hpl ht trivial).elim
  ·rename_i ht; exact (plain_not hpl ht trivial).elim
  ·rename_i ht; exact (plain_not hpl ht trivial).elim
theorem trodAll_more {w w':World}(hm:More w w'){held:Bool}{base:Nat}{sp':Nat→Bool}:∀{ts:List TypeId} {vs:List Value} {ds:List (DataW H)} {ps:List MemPlace},(∀t∈ts,plainT P 9 t=true) →
  DataW.TrodAll enc P w base (fun _=>true) held ts vs ds ps→(∀p∈ps,sp' p.block=true)→DataW.TrodAll enc P w' base sp' held ts vs ds ps
 | [],[],[],ps,_,h,_=>h
 | t :: ts,v :: vs,d :: ds,ps,hpl,h,hsp=>by
  obtain ⟨p,q,⟨fuel,h1⟩,h2,rfl⟩:=h
  exact ⟨p,q,⟨fuel,trod_more hm (hpl t (List.mem_cons_self ..)) h1 fun x hx=>hsp x (List.mem_append.2 (.inl hx))⟩,trodAll_more hm (fun t ht=>hpl t (List.mem_cons_of_mem _ ht)) h2 fun x hx=>hsp x (List.mem_append.2 (.inr hx)),rfl⟩
 | [],[],_ :: _,_,_,h,_=>h.elim
 | [],_ :: _,_,_,_,h,_=>by cases h
 | _ :: _,[],_,_,_,h,_=>by cases h
 | _ :: _,_ :: _,[],_,_,h,_=>by cases h

theorem frozen_more {w w':World}(h:More w w'){a:Addr}(ha:a.block < w.heap.size):w'.frozen? a=w.frozen? a:=frozen_congr (h.old _ ha)
end
end Go.Pi.E
namespace Go.Pi.E
open Go Go.Pi Go.Pi.L Go.ChangeShapes Go.WideShapes Go.RowKit
section
variable {H:Type} {enc:TypeId×Value→H} {P:Program}
theorem post_true {f:Func}(hpl:∀t∈f.params.toList,plainT P 9 t=true){s:ChangeSpec}{t4:TypeId}(ht4:P.underlying t4=some .bool)(hr:f.resultTypes=#[t4])(hvars:s.vars=[]){W W':World}{args:Array Value}{ds gs:List (DataW H)}{before:List MemPlace}
  (hW:DataW.Whole enc P f.params.toList s.vars false W args.toList ds gs before) (hf:s.fn H ds={ results:=[.lit (.bool true)],args:=ds }) (hm:More W W') :
  s.post enc P f false true false false W args (.bool true) W':=by
 have hW':=hW
 obtain ⟨p,q,hA,hV,rfl,hfz,_⟩:=hW
 rw [hvars] at hV
 have hgs:gs=[]∧q=[]:=by
  cases gs with
  | nil=>exact ⟨rfl,hV⟩
  | cons g r=>exact hV.elim
 obtain ⟨rfl,rfl⟩:=hgs
 have hfn:s.fn H (ds++[])={ results:=[.lit (.bool true)],args:=ds }:=by rw [List.append_nil]; exact hf
 have hres:∀(b:Nat) (sp:Nat→Bool) (hd:Bool),DataW.TrodAll enc P W' b sp hd f.resultTypes.toList ((Value.bool true).resultList f.resultTypes.size) (s.fn H (ds++[])).results []:=fun b sp hd=>by
  rw [hfn,hr]; exact trodAll_mk1 (shut_bool ht4 true)
 have hvs:∀sp:Nat→Bool,DataW.TrodVars enc P W' sp s.vars (s.fn H (ds++[])).vars []:=fun sp=>by rw [hfn,hvars]; rfl
 have hargs:∀sp:Nat→Bool,(∀x∈p,sp x.block=true)→DataW.TrodAll enc P W' 0 sp true f.params.toList args.toList (s.fn H (ds++[])).args p:=fun sp h=>by
  rw [hfn]; exact trodAll_more hm hpl hA h
 refine ⟨ds,[],p++[],[],p,[],hW',hres _ _ _,hargs _ (fun x hx=>by simpa using hW'.lt x (by simpa using hx)),hvs _,World.keptBut_mono (fun p' hp=>?_) (hm.kept fun _=>False),fun _=>?_⟩
 ·exact hp.elim
 ·have hall:∀p'∈p++([]:List MemPlace),p'.block < W.heap.size:=fun p' hp=>hW'.lt p' hp
  refine ⟨ok_one hr rfl (okWide_bool_mk ht4 true),_,_,([]++p)++[],⟨[]++p,[],trodAll_append (hargs _ fun _ _=>rfl) (hres _ _ _),hvs _,rfl,?_,fun h=>by cases h⟩,?_⟩
  ·intro b off hp
   rw [frozen_more hm (hall (.cell b off) (by simpa using hp))]
   exact hfz b off (by simpa using hp)
  ·intro p' hp _
   simpa using hp
end
end Go.Pi.E
namespace Go.Pi.E
open Go Go.Pi Go.Pi.L Go.ChangeShapes Go.WideShapes Go.RowKit

structure Ent0 (P:Program)(w:World)(φ:Map)(H:Heap):Prop where
 inb:∀i s,φ i=some s→i < H.length∧s.b < w.heap.size
 ro:∀(i:Nat) (blk:Blk),H[i]?=some blk→blk.tip=false∧blk.fam=none
 obj:∀(i:Nat) (s:Slot) (blk:Blk),φ i=some s→H[i]?=some blk→∃o,w.heap[s.b]?=some o∧ObjR P φ blk.obj s o
 tab:TabOk P w.heap.size w
theorem Ent0.nil (P:Program)(w:World)(ht:TabOk P w.heap.size w):Ent0 P w (fun _=>none) []:=⟨fun _ _ h=>(by cases h),fun _ _ h=>(by simp at h),fun _ _ _ h=>(by cases h),ht⟩
theorem Ent0.emb {P:Program}{w:World}{φ:Map}{H:Heap}(h:Ent0 P w φ H):Emb P w.heap.size φ H w:=by
 refine ⟨h.inb,fun i s blk hi hb _=>h.obj i s blk hi hb,fun i s blk hi hb ht=>?_,fun i s blk hi hb ht=>?_,fun i blk hb ht=>?_,fun i k si sk bi bk _ _ _ hbi _ ht=>?_,fun i b f hb hf=>?_,h.tab⟩
 ·obtain ⟨h1,h2⟩:=h.ro i blk hb
  rcases ht with ht | ht
  ·rw [h1] at ht; cases ht
  ·exact absurd h2 ht
 ·obtain ⟨h1,h2⟩:=h.ro i blk hb
  rcases ht with ht | ht
  ·rw [h1] at ht; cases ht
  ·exact absurd h2 ht
 ·rw [(h.ro i blk hb).1] at ht; cases ht
 ·rw [(h.ro i bi hbi).1] at ht; cases ht
 ·rw [(h.ro i b hb).2] at hf; cases hf

structure Sub (φ φ':Map)(H H':Heap):Prop where
 map:∀i s,φ i=some s→φ' i=some s
 up:Up H H'
theorem Sub.refl (φ:Map)(H:Heap):Sub φ φ H H:=⟨fun _ _ h=>h,Up.refl _⟩
theorem Sub.trans {φ φ1 φ2:Map}{H H1 H2:Heap}(h:Sub φ φ1 H H1)(h':Sub φ1 φ2 H1 H2):Sub φ φ2 H H2:=⟨fun i s hi=>h'.map i s (h.map i s hi),h.up.trans h'.up⟩

theorem Ent0.add {P:Program}{w:World}{φ:Map}{H:Heap}(h:Ent0 P w φ H){bk o:Nat}{cs:Array Value}{e:TypeId}{fr:Nat×Nat}(c:List Value)(hb:w.heap[bk]?=some (.cells cs e fr))(ho:o+c.length≤cs.size)
  (h1:c.all one=true) (hv:∀(j:Nat) x,c[j]?=some x→∃y,cs[o+j]?=some y∧VR φ x y) :
  Ent0 P w (upd φ H.length ⟨bk,o,c.length,c.length⟩) (H++[⟨.cells c,true,false,none⟩])∧Sub φ (upd φ H.length ⟨bk,o,c.length,c.length⟩) H (H++[⟨.cells c,true,false,none⟩]):=by
 have hn:φ H.length=none:=by
  cases hh:φ H.length with
  | none=>rfl
  | some s=>exact absurd (h.inb _ _ hh).1 (by omega)
 have hs:=upd_sub (s:=⟨bk,o,c.length,c.length⟩) hn
 have hold:∀i s,upd φ H.length ⟨bk,o,c.length,c.length⟩ i=some s→(i=H.length∧s=⟨bk,o,c.length,c.length⟩)∨(i < H.length∧φ i=some s):=by
  intro i s hi
  unfold upd at hi
  split at hi
  ·rename_i he; cases hi; exact .inl ⟨he,rfl⟩
  ·exact .inr ⟨(h.inb i s hi).1,hi⟩
 refine ⟨⟨fun i s hi=>?_,fun i blk hbk=>?_,fun i s blk hi hbk=>?_,h.tab⟩,hs,(Up.refl H).app⟩
 ·rcases hold i s hi with ⟨rfl,rfl⟩ | ⟨hlt,hi⟩
  ·exact ⟨by simp,(Array.getElem?_eq_some_iff.1 hb).1⟩
  ·exact ⟨by simp; omega,(h.inb i s hi).2⟩
 ·rcases Nat.lt_or_ge i H.length with hlt | hge
  ·rw [List.getElem?_append_left hlt] at hbk; exact h.ro i blk hbk
  ·rw [List.getElem?_append_right hge] at hbk
   rcases Nat.eq_zero_or_pos (i - H.length) with h0 | h0
   ·rw [h0] at hbk; simp at hbk; subst hbk; exact ⟨rfl,rfl⟩
   ·rw [List.getElem?_eq_none (by simp; omega)] at hbk; cases hbk
 ·rcases hold i s hi with ⟨rfl,rfl⟩ | ⟨hlt,hi⟩
  ·have hbk':blk=⟨.cells c,true,false,none⟩:=by simpa using hbk.symm
   subst hbk'
   exact ⟨_,hb,.cells c _ cs e fr rfl (Nat.le_refl _) ho h1 fun j x hx=>let ⟨y,hy,hvy⟩:=hv j x hx; ⟨y,hy,hvy.mono hs⟩⟩
  ·rw [List.getElem?_append_left hlt] at hbk
   obtain ⟨ob,h2,h3⟩:=h.obj i s blk hi hbk
   exact ⟨ob,h2,h3.mono hs⟩

theorem cell_block {w:World}{a:Addr}{v:Value}(h:w.cell? a=some v):∃cs e fr,w.heap[a.block]?=some (.cells cs e fr)∧a.spot=none∧cs[a.off]?=some v:=by
 unfold World.cell? at h
 split at h
 ·rename_i cs e fr hb
  split at h
  ·cases h
  ·rename_i hs
   exact ⟨cs,e,fr,hb,by simpa using hs,h⟩
 ·cases h

theorem Ent0.slice {P:Program}{w:World}{φ:Map}{H:Heap}(h:Ent0 P w φ H){β:Type}{enc:β→List Value}{k:Nat}(hk:∀x,(enc x).length=k)(k0:0 < k)(hflat:∀x,(enc x).all (fun v=>one v&&flat 8 v)=true)
  (a:Option Addr) (len cap:Nat) (xs:List β) (hlen:xs.length=len) (hc:a=none→len=0∧cap=0) (hcap:len≤cap)
  (hcell:∀ad,a=some ad→∀j v,j < len*k→(cells enc xs)[j]?=some v→w.cell? (ad.add j)=some v) :
  ∃φ' H' a' m,Ent0 P w φ' H'∧Sub φ φ' H H'∧VR φ' (.slice a' len m) (.slice a len cap)∧Sl H' k enc a' len xs:=by
 cases a with
 | none =>
  obtain ⟨rfl,rfl⟩:=hc rfl
  have:xs=[]:=List.eq_nil_of_length_eq_zero hlen
  subst this
  exact ⟨φ,H,none,0,h,.refl _ _,.sl0,Sl.none⟩
 | some ad =>
  by_cases h0:len=0
  ·subst h0
   have:xs=[]:=List.eq_nil_of_length_eq_zero hlen
   subst this
   exact ⟨φ,H,some ⟨0,0,none⟩,0,h,.refl _ _,.sl _ _ _ _ _ _ hcap (fun hp=>by omega),⟨rfl,.inr ⟨_,_,rfl⟩,fun j x hx=>by simp at hx⟩⟩
  ·have hcl:(cells enc xs).length=len*k:=by rw [cells_len hk,hlen]
   have hpos:0 < len*k:=Nat.mul_pos (by omega) k0
   have hget:∀j,j < len*k→∃v,(cells enc xs)[j]?=some v∧w.cell? (ad.add j)=some v:=fun j hj=>by
    have:(cells enc xs)[j]?=some ((cells enc xs)[j]'(by omega)):=List.getElem?_eq_getElem (by omega)
    exact ⟨_,this,hcell ad rfl j _ hj this⟩
   obtain ⟨v0,_,hv0⟩:=hget 0 hpos
   obtain ⟨cs,e,fr,hb,hsp,_⟩:=cell_block hv0
   have e0:ad.add 0=ad:=by simp [Addr.add]
   rw [e0] at hb hsp
   have hadd:∀j,ad.add j=⟨ad.block,ad.off+j,none⟩:=fun j=>by
    unfold Addr.add
    split
    ·rename_i hj; subst hj
     obtain ⟨b,off,sp⟩:=ad
     simp only at hsp
     subst hsp; rfl
    ·rfl
   have hcs:∀j v,(cells enc xs)[j]?=some v→cs[ad.off+j]?=some v:=fun j v hv=>by
    have hj:j < len*k:=by rw [←hcl]; exact (List.getElem?_eq_some_iff.1 hv).1
    have:=hcell ad rfl j v hj hv
    rw [hadd] at this
    simp only [World.cell?,hb] at this
    exact this
   have hall:∀v∈cells enc xs,one v=true∧flat 8 v=true:=fun v hv=>by
    unfold cells at hv
    rw [List.mem_flatten] at hv
    obtain ⟨l,hl,hvl⟩:=hv
    rw [List.mem_map] at hl
    obtain ⟨x,_,rfl⟩:=hl
    have:=List.all_eq_true.1 (hflat x) v hvl
    simpa using this
   have hlast:=hget (len*k - 1) (by omega)
   obtain ⟨v1,hl1,hl2⟩:=hlast
   have hsz:ad.off+(cells enc xs).length≤cs.size:=by
    have:=(Array.getElem?_eq_some_iff.1 (hcs _ _ hl1)).1
    omega
   have hflatVR:∀{v:Value},flat 8 v=true→VR φ v v:=by
    have key:∀(n:Nat) (v:Value),flat n v=true→VR φ v v:=by
     intro n
     induction n with
     | zero=>intro v hv; simp [flat] at hv
     | succ n ih =>
      intro v hv
      cases v with
      | bool b=>exact .bool b
      | int k n=>exact .int k n
      | string s=>exact .str s
      | nilIface=>exact .nilI
      | nilFunc=>exact .nilF
      | iface t v=>exact .iface t v v (ih v (by simpa [flat] using hv))
      | agg cs =>
       refine .agg cs cs rfl fun j x y hx hy=>?_
       rw [hx] at hy
       cases hy
       simp only [flat] at hv
       exact ih x (List.all_eq_true.1 hv x (by simpa using Array.mem_of_getElem? hx))
      | tuple cs =>
       refine .tuple cs cs rfl fun j x y hx hy=>?_
       rw [hx] at hy
       cases hy
       simp only [flat] at hv
       exact ih x (List.all_eq_true.1 hv x (by simpa using Array.mem_of_getElem? hx))
      | slice a l c =>
       obtain ⟨rfl,rfl,rfl⟩:=flat_sl hv
       exact .sl0
      | pointer p=>cases p with
       | none=>exact .ptr0
       | some p=>simp [flat] at hv
      | map m=>cases m with
       | none=>exact .map0
       | some m=>simp [flat] at hv
      | _=>simp [flat] at hv
    exact fun {v} h=>key 8 v h
   obtain ⟨g1,g2⟩:=h.add (cells enc xs) hb hsz (List.all_eq_true.2 fun v hv=>(hall v hv).1) (fun j x hx=>⟨x,hcs j x hx,hflatVR (hall x (List.mem_of_getElem? hx)).2⟩)
   refine ⟨_,_,some ⟨H.length,0,none⟩,0,g1,g2,.sl _ _ _ _ _ _ hcap (fun _=>⟨⟨ad.block,ad.off,(cells enc xs).length,(cells enc xs).length⟩,by simp [upd],?_,fun hp=>by omega⟩),?_⟩
   ·obtain ⟨b,off,sp⟩:=ad
    simp only at hsp
    subst hsp; rfl
   ·refine ⟨hlen,.inr ⟨_,_,rfl⟩,fun j x hx=>⟨H.length,0,cells enc xs,rfl,by simp [hcells],by rw [Nat.zero_add]; exact cells_get hk hx⟩⟩

theorem law_calls {P:Program}{PP:FuncId→Option PFunc}{prims:Prims}{f:FuncId}{args:List Value}{args':Array Value}{w:World}{φ:Map}{H:Heap}(hPP:PPok P PP)(hp:PrimsOk P w.heap.size prims)(hd:DrawsOk P w.heap.size)
  (hE:Ent0 P w φ H) (hr:runL PP prims (.func f) args H=some ⟨.ok (.bool true),H,H.length⟩) (hv:VRs φ args args'.toList):Calls P f args' w fun e w'=>e=.returned (.bool true)∧More w w':=by
 obtain ⟨m,hm⟩:=runL_ex hr
 obtain ⟨_,h⟩:=run_sim hPP hp hd m (.func f) args H _ (hm m (Nat.le_refl _)) φ w args' hE.emb (Nat.le_refl _) hv
 refine (callsIn_wide.1 (h 0)).mono fun e w' hl=>?_
 obtain ⟨φ',h1,h2,h3⟩:=hl
 refine ⟨?_,h2.out.1,h2.out.2,h2.size,fun j hj=>h2.frame j hj (fun i s _ hs=>by omega)⟩
 cases e with
 | returned v' =>
  have h3:VR φ' (.bool true) v':=h3
  cases h3
  rfl
 | _=>exact h3.elim
end Go.Pi.E
namespace Go.Pi.E
open Go Go.Pi Go.Pi.L Go.ChangeShapes Go.WideShapes Go.RowKit
abbrev eI (x:Int):List Value:=[.int .i64 x]
section
variable {HH:Type} {enc:TypeId×Value→HH} {P:Program} {w:World} {sp:Nat→Bool} {held:Bool} {base:Nat}
theorem add_add' (a:Addr)(i j:Nat):(a.add i).add j=a.add (i+j):=Go.Deep.add_add a i j
theorem cells_eI (xs:List Int):cells eI xs=xs.map fun x=>.int .i64 x:=by
 induction xs with
 | nil=>rfl
 | cons x xs ih=>simp only [cells,List.map_cons,List.flatten_cons] at ih ⊢; rw [ih]; rfl
theorem ent_ints {φ:Map}{H:Heap}(hE:Ent0 P w φ H){t e:TypeId}(ht:P.underlying t=some (.slice e))(he:P.underlying e=some (.int .i64))(hc:P.cellsOf e=1){fuel:Nat}{v:Value}{x:DataW HH×List MemPlace}
  (h:DataW.trod enc P w base sp held fuel t [v]=some x):∃φ' H' a l m xs,Ent0 P w φ' H'∧Sub φ φ' H H'∧VR φ' (.slice a l m) v∧Sl H' 1 eI a l xs:=by
 rcases open_ints ht he hc h with ⟨h1,_⟩ | ⟨a,len,cap,zs,h1,_,hl,_,hz,_,hcell,_⟩
 ·cases h1
  exact ⟨φ,H,none,0,0,[],hE,.refl _ _,.sl0,Sl.none⟩
 ·cases h1
  have hlz:len≤zs.length:=by rw [hz]; split <;> omega
  obtain ⟨φ',H',a',m,g1,g2,g3,g4⟩:=hE.slice (enc:=eI) (k:=1) (fun _=>rfl) (by decide) (fun x=>rfl) (some a) len cap (zs.take len) (by rw [List.length_take]; omega) (fun h=>by cases h) hl (by
   intro ad had j v hj hv
   cases had
   rw [cells_eI,List.getElem?_map,Option.map_eq_some_iff] at hv
   obtain ⟨n,hn,rfl⟩:=hv
   have hj':j < len:=by omega
   rw [List.getElem?_take_of_lt hj'] at hn
   rw [hcell j (by omega),List.getD,hn]; rfl)
  exact ⟨φ',H',a',len,m,_,g1,g2,g3,g4⟩

end
end Go.Pi.E
