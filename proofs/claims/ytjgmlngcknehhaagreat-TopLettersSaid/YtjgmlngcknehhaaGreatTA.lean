/- From the rows' statements to the small language: what is read at a call's beginning is read behind it; arguments as they are laid. -/
import Derived.ProofKit
import Derived.Deep.Slices
import Derived.Deep.SlicePairs
import Derived.OpenShut
import Derived.Test.YtjgmlngcknehhaaGreatPiJ
import Derived.Test.YtjgmlngcknehhaaGreatLB
import Derived.Test.YtjgmlngcknehhaaGreatTPs
set_option linter.all false
namespace Go.Pi.E
open Go Go.Pi Go.Pi.L Go.ChangeShapes Go.WideShapes Go.RowKit

theorem cell_more {w w':World}(h:More w w'){a:Addr}{v:Value}(hc:w.cell? a=some v):w'.cell? a=some v:=by
 unfold World.cell? at hc ⊢
 cases hb:w.heap[a.block]? with
 | none=>rw [hb] at hc; cases hc
 | some o=>rw [hb] at hc; rw [h.old _ (Array.getElem?_eq_some_iff.1 hb).1,hb]; exact hc
theorem mapM_mono {α β:Type}{f g:α→Option β}:∀{l:List α} {ys:List β},l.mapM f=some ys→(∀x y,x∈l→f x=some y→y∈ys→g x=some y)→l.mapM g=some ys
 | [],ys,h,_=>by simpa using h
 | x :: l,ys,h,hg=>by
  rw [List.mapM_cons] at h ⊢
  cases hx:f x with
  | none=>rw [hx] at h; cases h
  | some y =>
   rw [hx] at h
   cases hl:l.mapM f with
   | none=>simp [hl] at h
   | some zs =>
    simp [hl] at h
    subst h
    rw [hg x y (List.mem_cons_self ..) hx (List.mem_cons_self ..)]
    simp only [Option.bind_eq_bind,Option.bind_some]
    rw [mapM_mono hl fun x' y' h1 h2 h3=>hg x' y' (List.mem_cons_of_mem _ h1) h2 (List.mem_cons_of_mem _ h3)]
    rfl
theorem cells_more {w w':World}(h:More w w'){base:Nat}{a:Addr}{n:Nat}{cs:List Value}(hc:w.cells? base a n=some cs):w'.cells? base a n=some cs:=by
 unfold World.cells? at hc ⊢
 split at hc
 ·rename_i hb
  rw [if_pos hb]
  exact mapM_mono hc fun x y _ hx _=>cell_more h hx
 ·cases hc

section
variable {H:Type} {enc:TypeId×Value→H} {P:Program}
def plainT (P:Program):Nat→TypeId→Bool
 | 0,_=>false
 | n+1,t =>
  match P.underlying t with
  | some .bool=>true
  | some (.int _)=>true
  | some .string=>true
  | some (.slice e)=>Nat.blt 0 (P.cellsOf e)&&plainT P n e
  | some (.struct fs)=>fs.toList.all fun f=>plainT P n f.type
  | _=>false
theorem plain_slice {m:Nat}{t e:TypeId}(h:plainT P m t=true)(ht:P.underlying t=some (.slice e)):0 < P.cellsOf e∧∃k,plainT P k e=true:=by
 cases m with
 | zero=>cases h
 | succ m =>
  simp only [plainT,ht,Bool.and_eq_true] at h
  exact ⟨Nat.le_of_ble_eq_true h.1,m,h.2⟩
theorem plain_struct {m:Nat}{t:TypeId}{fs:Array Field}(h:plainT P m t=true)(ht:P.underlying t=some (.struct fs)):∀f∈fs.toList,∃k,plainT P k f.type=true:=by
 cases m with
 | zero=>cases h
 | succ m =>
  simp only [plainT,ht,List.all_eq_true] at h
  exact fun f hf=>⟨m,h f hf⟩
theorem plain_not {m:Nat}{t:TypeId}{d:TypeDesc}(h:plainT P m t=true)(ht:P.underlying t=some d)(hd:match d with | .bool | .int _ | .string | .slice _ | .struct _=>False | _=>True):False:=by
 cases m with
 | zero=>cases h
 | succ m =>
  simp only [plainT,ht] at h
  cases d <;> first | exact hd | cases h
theorem trod_more {w w':World}(hm:More w w'){held:Bool}{base:Nat}{sp':Nat→Bool}:∀{fuel:Nat} {t:TypeId} {cs:List Value} {x:DataW H×List MemPlace} {m:Nat},plainT P m t=true →
  DataW.trod enc P w base (fun _=>true) held fuel t cs=some x→(∀p∈x.2,sp' p.block=true)→DataW.trod enc P w' base sp' held fuel t cs=some x:=by
 intro fuel
 induction fuel with
 | zero=>intro t cs x m hpl h; simp [DataW.trod] at h
 | succ n ih =>
  intro t cs x m hpl h hsp
  unfold DataW.trod at h ⊢
  split at h <;> try exact h
  ·rename_i ht; exact (plain_not hpl ht trivial).elim
  ·-- a slice
   rename_i e a len cap ht
   obtain ⟨hce,k,hke⟩:=plain_slice hpl ht
   simp only at h ⊢
   split at h
   ·rename_i hc
    rw [if_pos hc]
    rw [Option.bind_eq_some_iff] at h
    obtain ⟨elems,h1,h2⟩:=h
    rw [Option.map_eq_some_iff] at h2
    obtain ⟨rest,h3,rfl⟩:=h2
    simp only [if_true] at h3
    have hel:∀i y,(w.cells? base (a.add (i*P.cellsOf e)) (P.cellsOf e)).bind (DataW.trod enc P w base (fun _=>true) held n e)=some y→y∈elems++rest →
      (w'.cells? base (a.add (i*P.cellsOf e)) (P.cellsOf e)).bind (DataW.trod enc P w' base sp' held n e)=some y:=by
     intro i y hy hmem
     rw [Option.bind_eq_some_iff] at hy ⊢
     obtain ⟨c,g1,g2⟩:=hy
     exact ⟨c,cells_more hm g1,ih hke g2 fun p hp=>hsp p (List.mem_append.2 (.inr (List.mem_flatMap.2 ⟨y,hmem,hp⟩)))⟩
    rw [mapM_mono h1 fun i y _ hy hmem=>hel i y hy (List.mem_append.2 (.inl hmem))]
    simp only [Option.bind_some]
    have e1:elems.length=len:=by simpa using mapM_some_length h1
    have e2:rest.length=cap - len:=by simpa using mapM_some_length h3
    by_cases hz:cap=len
    ·have:rest=[]:=List.eq_nil_of_length_eq_zero (by omega)
     subst this
     have:(if sp' a.block=true then (List.range (cap - len)).mapM fun j=>(w'.cells? base (a.add ((len+j)*P.cellsOf e)) (P.cellsOf e)).bind (DataW.trod enc P w' base sp' held n e) else some [])=some []:=by
      rw [hz,Nat.sub_self]
      split <;> rfl
     rw [this]; rfl
    ·have hb:sp' a.block=true:=by
      refine hsp (.cell a.block (a.off+0)) (List.mem_append.2 (.inl ?_))
      simp only [MemPlace.row,List.mem_map,List.mem_range]
      exact ⟨0,Nat.mul_pos (by omega) hce,rfl⟩
     rw [if_pos hb,mapM_mono h3 fun j y _ hy hmem=>hel (len+j) y hy (List.mem_append.2 (.inr hmem))]
     rfl
   ·cases h
  ·-- a struct
   rename_i fs ht
   split at h
   ·rename_i hc
    rw [if_pos hc]
    rw [Option.map_eq_some_iff] at h ⊢
    obtain ⟨xs,h1,rfl⟩:=h
    exact ⟨xs,mapM_mono h1 fun f y hf hy hmem=>let ⟨k,hk⟩:=plain_struct hpl ht f hf; ih hk hy fun p hp=>hsp p (List.mem_flatMap.2 ⟨y,hmem,hp⟩),rfl⟩
   ·cases h
  ·rename_i ht; exact (plain_not hpl ht trivial).elim
  ·rename_i ht; exact (plain_not hpl ht trivial).elim
  ·rename_i ht; exact (plain_not hpl ht trivial).elim
theorem trodAll_more {w w':World}(hm:More w w'){held:Bool}{base:Nat}{sp':Nat→Bool}:∀{ts:List TypeId} {vs:List Value} {ds:List (DataW H)} {ps:List MemPlace},(∀t∈ts,plainT P 9 t=true) →
  DataW.TrodAll enc P w base (fun _=>true) held ts vs ds ps→(∀p∈ps,sp' p.block=true)→DataW.TrodAll enc P w' base sp' held ts vs ds ps
 | [],[],[],ps,_,h,_=>h
 | t :: ts,v :: vs,d :: ds,ps,hpl,h,hsp=>by
  obtain ⟨p,q,⟨fuel,h1⟩,h2,rfl⟩:=h
  exact ⟨p,q,⟨fuel,trod_more hm (hpl t (List.mem_cons_self ..)) h1 fun x hx=>hsp x (List.mem_append.2 (.inl hx))⟩,trodAll_more hm (fun t ht=>hpl t (List.mem_cons_of_mem _ ht)) h2 fun x hx=>hsp x (List.mem_append.2 (.inr hx)),rfl⟩
 | [],[],_ :: _,_,_,h,_=>h.elim
 | [],_ :: _,_,_,_,h,_=>by cases h
 | _ :: _,[],_,_,_,h,_=>by cases h
 | _ :: _,_ :: _,[],_,_,h,_=>by cases h

theorem frozen_more {w w':World}(h:More w w'){a:Addr}(ha:a.block < w.heap.size):w'.frozen? a=w.frozen? a:=frozen_congr (h.old _ ha)
end
end Go.Pi.E
namespace Go.Pi.E
open Go Go.Pi Go.Pi.L Go.ChangeShapes Go.WideShapes Go.RowKit
section
variable {H:Type} {enc:TypeId×Value→H} {P:Program}
theorem post_true {f:Func}(hpl:∀t∈f.params.toList,plainT P 9 t=true){s:ChangeSpec}{t4:TypeId}(ht4:P.underlying t4=some .bool)(hr:f.resultTypes=#[t4])(hvars:s.vars=[]){W W':World}{args:Array Value}{ds gs:List (DataW H)}{before:List MemPlace}
  (hW:DataW.Whole enc P f.params.toList s.vars false W args.toList ds gs before) (hf:s.fn H ds={ results:=[.lit (.bool true)],args:=ds }) (hm:More W W') :
  s.post enc P f false true false false W args (.bool true) W':=by
 have hW':=hW
 obtain ⟨p,q,hA,hV,rfl,hfz,_⟩:=hW
 rw [hvars] at hV
 have hgs:gs=[]∧q=[]:=by
  cases gs with
  | nil=>exact ⟨rfl,hV⟩
  | cons g r=>exact hV.elim
 obtain ⟨rfl,rfl⟩:=hgs
 have hfn:s.fn H (ds++[])={ results:=[.lit (.bool true)],args:=ds }:=by rw [List.append_nil]; exact hf
 have hres:∀(b:Nat) (sp:Nat→Bool) (hd:Bool),DataW.TrodAll enc P W' b sp hd f.resultTypes.toList ((Value.bool true).resultList f.resultTypes.size) (s.fn H (ds++[])).results []:=fun b sp hd=>by
  rw [hfn,hr]; exact trodAll_mk1 (shut_bool ht4 true)
 have hvs:∀sp:Nat→Bool,DataW.TrodVars enc P W' sp s.vars (s.fn H (ds++[])).vars []:=fun sp=>by rw [hfn,hvars]; rfl
 have hargs:∀sp:Nat→Bool,(∀x∈p,sp x.block=true)→DataW.TrodAll enc P W' 0 sp true f.params.toList args.toList (s.fn H (ds++[])).args p:=fun sp h=>by
  rw [hfn]; exact trodAll_more hm hpl hA h
 refine ⟨ds,[],p++[],[],p,[],hW',hres _ _ _,hargs _ (fun x hx=>by simpa using hW'.lt x (by simpa using hx)),hvs _,World.keptBut_mono (fun p' hp=>?_) (hm.kept fun _=>False),fun _=>?_⟩
 ·exact hp.elim
 ·have hall:∀p'∈p++([]:List MemPlace),p'.block < W.heap.size:=fun p' hp=>hW'.lt p' hp
  refine ⟨ok_one hr rfl (okWide_bool_mk ht4 true),_,_,([]++p)++[],⟨[]++p,[],trodAll_append (hargs _ fun _ _=>rfl) (hres _ _ _),hvs _,rfl,?_,fun h=>by cases h⟩,?_⟩
  ·intro b off hp
   rw [frozen_more hm (hall (.cell b off) (by simpa using hp))]
   exact hfz b off (by simpa using hp)
  ·intro p' hp _
   simpa using hp
end
end Go.Pi.E
namespace Go.Pi.E
open Go Go.Pi Go.Pi.L Go.ChangeShapes Go.WideShapes Go.RowKit

structure Ent0 (P:Program)(w:World)(φ:Map)(H:Heap):Prop where
 inb:∀i s,φ i=some s→i < H.length∧s.b < w.heap.size
 ro:∀(i:Nat) (blk:Blk),H[i]?=some blk→blk.tip=false∧blk.fam=none
 obj:∀(i:Nat) (s:Slot) (blk:Blk),φ i=some s→H[i]?=some blk→∃o,w.heap[s.b]?=some o∧ObjR P φ blk.obj s o
 tab:TabOk P w.heap.size w
theorem Ent0.nil (P:Program)(w:World)(ht:TabOk P w.heap.size w):Ent0 P w (fun _=>none) []:=⟨fun _ _ h=>(by cases h),fun _ _ h=>(by simp at h),fun _ _ _ h=>(by cases h),ht⟩
theorem Ent0.emb {P:Program}{w:World}{φ:Map}{H:Heap}(h:Ent0 P w φ H):Emb P w.heap.size φ H w:=by
 refine ⟨h.inb,fun i s blk hi hb _=>h.obj i s blk hi hb,fun i s blk hi hb ht=>?_,fun i s blk hi hb ht=>?_,fun i blk hb ht=>?_,fun i k si sk bi bk _ _ _ hbi _ ht=>?_,fun i b f hb hf=>?_,h.tab⟩
 ·obtain ⟨h1,h2⟩:=h.ro i blk hb
  rcases ht with ht | ht
  ·rw [h1] at ht; cases ht
  ·exact absurd h2 ht
 ·obtain ⟨h1,h2⟩:=h.ro i blk hb
  rcases ht with ht | ht
  ·rw [h1] at ht; cases ht
  ·exact absurd h2 ht
 ·rw [(h.ro i blk hb).1] at ht; cases ht
 ·rw [(h.ro i bi hbi).1] at ht; cases ht
 ·rw [(h.ro i b hb).2] at hf; cases hf

structure Sub (φ φ':Map)(H H':Heap):Prop where
 map:∀i s,φ i=some s→φ' i=some s
 up:Up H H'
theorem Sub.refl (φ:Map)(H:Heap):Sub φ φ H H:=⟨fun _ _ h=>h,Up.refl _⟩
theorem Sub.trans {φ φ1 φ2:Map}{H H1 H2:Heap}(h:Sub φ φ1 H H1)(h':Sub φ1 φ2 H1 H2):Sub φ φ2 H H2:=⟨fun i s hi=>h'.map i s (h.map i s hi),h.up.trans h'.up⟩

theorem Ent0.add {P:Program}{w:World}{φ:Map}{H:Heap}(h:Ent0 P w φ H){bk o:Nat}{cs:Array Value}{e:TypeId}{fr:Nat×Nat}(c:List Value)(hb:w.heap[bk]?=some (.cells cs e fr))(ho:o+c.length≤cs.size)
  (h1:c.all one=true) (hv:∀(j:Nat) x,c[j]?=some x→∃y,cs[o+j]?=some y∧VR φ x y) :
  Ent0 P w (upd φ H.length ⟨bk,o,c.length,c.length⟩) (H++[⟨.cells c,true,false,none⟩])∧Sub φ (upd φ H.length ⟨bk,o,c.length,c.length⟩) H (H++[⟨.cells c,true,false,none⟩]):=by
 have hn:φ H.length=none:=by
  cases hh:φ H.length with
  | none=>rfl
  | some s=>exact absurd (h.inb _ _ hh).1 (by omega)
 have hs:=upd_sub (s:=⟨bk,o,c.length,c.length⟩) hn
 have hold:∀i s,upd φ H.length ⟨bk,o,c.length,c.length⟩ i=some s→(i=H.length∧s=⟨bk,o,c.length,c.length⟩)∨(i < H.length∧φ i=some s):=by
  intro i s hi
  unfold upd at hi
  split at hi
  ·rename_i he; cases hi; exact .inl ⟨he,rfl⟩
  ·exact .inr ⟨(h.inb i s hi).1,hi⟩
 refine ⟨⟨fun i s hi=>?_,fun i blk hbk=>?_,fun i s blk hi hbk=>?_,h.tab⟩,hs,(Up.refl H).app⟩
 ·rcases hold i s hi with ⟨rfl,rfl⟩ | ⟨hlt,hi⟩
  ·exact ⟨by simp,(Array.getElem?_eq_some_iff.1 hb).1⟩
  ·exact ⟨by simp; omega,(h.inb i s hi).2⟩
 ·rcases Nat.lt_or_ge i H.length with hlt | hge
  ·rw [List.getElem?_append_left hlt] at hbk; exact h.ro i blk hbk
  ·rw [List.getElem?_append_right hge] at hbk
   rcases Nat.eq_zero_or_pos (i - H.length) with h0 | h0
   ·rw [h0] at hbk; simp at hbk; subst hbk; exact ⟨rfl,rfl⟩
   ·rw [List.getElem?_eq_none (by simp; omega)] at hbk; cases hbk
 ·rcases hold i s hi with ⟨rfl,rfl⟩ | ⟨hlt,hi⟩
  ·have hbk':blk=⟨.cells c,true,false,none⟩:=by simpa using hbk.symm
   subst hbk'
   exact ⟨_,hb,.cells c _ cs e fr rfl (Nat.le_refl _) ho h1 fun j x hx=>let ⟨y,hy,hvy⟩:=hv j x hx; ⟨y,hy,hvy.mono hs⟩⟩
  ·rw [List.getElem?_append_left hlt] at hbk
   obtain ⟨ob,h2,h3⟩:=h.obj i s blk hi hbk
   exact ⟨ob,h2,h3.mono hs⟩

theorem cell_block {w:World}{a:Addr}{v:Value}(h:w.cell? a=some v):∃cs e fr,w.heap[a.block]?=some (.cells cs e fr)∧a.spot=none∧cs[a.off]?=some v:=by
 unfold World.cell? at h
 split at h
 ·rename_i cs e fr hb
  split at h
  ·cases h
  ·rename_i hs
   exact ⟨cs,e,fr,hb,by simpa using hs,h⟩
 ·cases h

theorem Ent0.slice {P:Program}{w:World}{φ:Map}{H:Heap}(h:Ent0 P w φ H){β:Type}{enc:β→List Value}{k:Nat}(hk:∀x,(enc x).length=k)(k0:0 < k)(hflat:∀x,(enc x).all (fun v=>one v&&flat 8 v)=true)
  (a:Option Addr) (len cap:Nat) (xs:List β) (hlen:xs.length=len) (hc:a=none→len=0∧cap=0) (hcap:len≤cap)
  (hcell:∀ad,a=some ad→∀j v,j < len*k→(cells enc xs)[j]?=some v→w.cell? (ad.add j)=some v) :
  ∃φ' H' a' m,Ent0 P w φ' H'∧Sub φ φ' H H'∧VR φ' (.slice a' len m) (.slice a len cap)∧Sl H' k enc a' len xs:=by
 cases a with
 | none =>
  obtain ⟨rfl,rfl⟩:=hc rfl
  have:xs=[]:=List.eq_nil_of_length_eq_zero hlen
  subst this
  exact ⟨φ,H,none,0,h,.refl _ _,.sl0,Sl.none⟩
 | some ad =>
  by_cases h0:len=0
  ·subst h0
   have:xs=[]:=List.eq_nil_of_length_eq_zero hlen
   subst this
   exact ⟨φ,H,some ⟨0,0,none⟩,0,h,.refl _ _,.sl _ _ _ _ _ _ hcap (fun hp=>by omega),⟨rfl,.inr ⟨_,_,rfl⟩,fun j x hx=>by simp at hx⟩⟩
  ·have hcl:(cells enc xs).length=len*k:=by rw [cells_len hk,hlen]
   have hpos:0 < len*k:=Nat.mul_pos (by omega) k0
   have hget:∀j,j < len*k→∃v,(cells enc xs)[j]?=some v∧w.cell? (ad.add j)=some v:=fun j hj=>by
    have:(cells enc xs)[j]?=some ((cells enc xs)[j]'(by omega)):=List.getElem?_eq_getElem (by omega)
    exact ⟨_,this,hcell ad rfl j _ hj this⟩
   obtain ⟨v0,_,hv0⟩:=hget 0 hpos
   obtain ⟨cs,e,fr,hb,hsp,_⟩:=cell_block hv0
   have e0:ad.add 0=ad:=by simp [Addr.add]
   rw [e0] at hb hsp
   have hadd:∀j,ad.add j=⟨ad.block,ad.off+j,none⟩:=fun j=>by
    unfold Addr.add
    split
    ·rename_i hj; subst hj
     obtain ⟨b,off,sp⟩:=ad
     simp only at hsp
     subst hsp; rfl
    ·rfl
   have hcs:∀j v,(cells enc xs)[j]?=some v→cs[ad.off+j]?=some v:=fun j v hv=>by
    have hj:j < len*k:=by rw [←hcl]; exact (List.getElem?_eq_some_iff.1 hv).1
    have:=hcell ad rfl j v hj hv
    rw [hadd] at this
    simp only [World.cell?,hb] at this
    exact this
   have hall:∀v∈cells enc xs,one v=true∧flat 8 v=true:=fun v hv=>by
    unfold cells at hv
    rw [List.mem_flatten] at hv
    obtain ⟨l,hl,hvl⟩:=hv
    rw [List.mem_map] at hl
    obtain ⟨x,_,rfl⟩:=hl
    have:=List.all_eq_true.1 (hflat x) v hvl
    simpa using this
   have hlast:=hget (len*k - 1) (by omega)
   obtain ⟨v1,hl1,hl2⟩:=hlast
   have hsz:ad.off+(cells enc xs).length≤cs.size:=by
    have:=(Array.getElem?_eq_some_iff.1 (hcs _ _ hl1)).1
    omega
   have hflatVR:∀{v:Value},flat 8 v=true→VR φ v v:=by
    have key:∀(n:Nat) (v:Value),flat n v=true→VR φ v v:=by
     intro n
     induction n with
     | zero=>intro v hv; simp [flat] at hv
     | succ n ih =>
      intro v hv
      cases v with
      | bool b=>exact .bool b
      | int k n=>exact .int k n
      | string s=>exact .str s
      | nilIface=>exact .nilI
      | nilFunc=>exact .nilF
      | iface t v=>exact .iface t v v (ih v (by simpa [flat] using hv))
      | agg cs =>
       refine .agg cs cs rfl fun j x y hx hy=>?_
       rw [hx] at hy
       cases hy
       simp only [flat] at hv
       exact ih x (List.all_eq_true.1 hv x (by simpa using Array.mem_of_getElem? hx))
      | tuple cs =>
       refine .tuple cs cs rfl fun j x y hx hy=>?_
       rw [hx] at hy
       cases hy
       simp only [flat] at hv
       exact ih x (List.all_eq_true.1 hv x (by simpa using Array.mem_of_getElem? hx))
      | slice a l c =>
       obtain ⟨rfl,rfl,rfl⟩:=flat_sl hv
       exact .sl0
      | pointer p=>cases p with
       | none=>exact .ptr0
       | some p=>simp [flat] at hv
      | map m=>cases m with
       | none=>exact .map0
       | some m=>simp [flat] at hv
      | _=>simp [flat] at hv
    exact fun {v} h=>key 8 v h
   obtain ⟨g1,g2⟩:=h.add (cells enc xs) hb hsz (List.all_eq_true.2 fun v hv=>(hall v hv).1) (fun j x hx=>⟨x,hcs j x hx,hflatVR (hall x (List.mem_of_getElem? hx)).2⟩)
   refine ⟨_,_,some ⟨H.length,0,none⟩,0,g1,g2,.sl _ _ _ _ _ _ hcap (fun _=>⟨⟨ad.block,ad.off,(cells enc xs).length,(cells enc xs).length⟩,by simp [upd],?_,fun hp=>by omega⟩),?_⟩
   ·obtain ⟨b,off,sp⟩:=ad
    simp only at hsp
    subst hsp; rfl
   ·refine ⟨hlen,.inr ⟨_,_,rfl⟩,fun j x hx=>⟨H.length,0,cells enc xs,rfl,by simp [hcells],by rw [Nat.zero_add]; exact cells_get hk hx⟩⟩

theorem law_calls {P:Program}{PP:FuncId→Option PFunc}{prims:Prims}{f:FuncId}{args:List Value}{args':Array Value}{w:World}{φ:Map}{H:Heap}(hPP:PPok P PP)(hp:PrimsOk P w.heap.size prims)(hd:DrawsOk P w.heap.size)
  (hE:Ent0 P w φ H) (hr:runL PP prims (.func f) args H=some ⟨.ok (.bool true),H,H.length⟩) (hv:VRs φ args args'.toList):Calls P f args' w fun e w'=>e=.returned (.bool true)∧More w w':=by
 obtain ⟨m,hm⟩:=runL_ex hr
 obtain ⟨_,h⟩:=run_sim hPP hp hd m (.func f) args H _ (hm m (Nat.le_refl _)) φ w args' hE.emb (Nat.le_refl _) hv
 refine (callsIn_wide.1 (h 0)).mono fun e w' hl=>?_
 obtain ⟨φ',h1,h2,h3⟩:=hl
 refine ⟨?_,h2.out.1,h2.out.2,h2.size,fun j hj=>h2.frame j hj (fun i s _ hs=>by omega)⟩
 cases e with
 | returned v' =>
  have h3:VR φ' (.bool true) v':=h3
  cases h3
  rfl
 | _=>exact h3.elim
end Go.Pi.E
namespace Go.Pi.E
open Go Go.Pi Go.Pi.L Go.ChangeShapes Go.WideShapes Go.RowKit
abbrev eI (x:Int):List Value:=[.int .i64 x]
section
variable {HH:Type} {enc:TypeId×Value→HH} {P:Program} {w:World} {sp:Nat→Bool} {held:Bool} {base:Nat}
theorem add_add' (a:Addr)(i j:Nat):(a.add i).add j=a.add (i+j):=Go.Deep.add_add a i j
theorem cells_eI (xs:List Int):cells eI xs=xs.map fun x=>.int .i64 x:=by
 induction xs with
 | nil=>rfl
 | cons x xs ih=>simp only [cells,List.map_cons,List.flatten_cons] at ih ⊢; rw [ih]; rfl
theorem ent_ints {φ:Map}{H:Heap}(hE:Ent0 P w φ H){t e:TypeId}(ht:P.underlying t=some (.slice e))(he:P.underlying e=some (.int .i64))(hc:P.cellsOf e=1){fuel:Nat}{v:Value}{x:DataW HH×List MemPlace}
  (h:DataW.trod enc P w base sp held fuel t [v]=some x):∃φ' H' a l m xs,Ent0 P w φ' H'∧Sub φ φ' H H'∧VR φ' (.slice a l m) v∧Sl H' 1 eI a l xs:=by
 rcases open_ints ht he hc h with ⟨h1,_⟩ | ⟨a,len,cap,zs,h1,_,hl,_,hz,_,hcell,_⟩
 ·cases h1
  exact ⟨φ,H,none,0,0,[],hE,.refl _ _,.sl0,Sl.none⟩
 ·cases h1
  have hlz:len≤zs.length:=by rw [hz]; split <;> omega
  obtain ⟨φ',H',a',m,g1,g2,g3,g4⟩:=hE.slice (enc:=eI) (k:=1) (fun _=>rfl) (by decide) (fun x=>rfl) (some a) len cap (zs.take len) (by rw [List.length_take]; omega) (fun h=>by cases h) hl (by
   intro ad had j v hj hv
   cases had
   rw [cells_eI,List.getElem?_map,Option.map_eq_some_iff] at hv
   obtain ⟨n,hn,rfl⟩:=hv
   have hj':j < len:=by omega
   rw [List.getElem?_take_of_lt hj'] at hn
   rw [hcell j (by omega),List.getD,hn]; rfl)
  exact ⟨φ',H',a',len,m,_,g1,g2,g3,g4⟩

end
end Go.Pi.E
namespace LM
open Go Go.Pi Go.Pi.L

structure Word where
 signs:List Int
 cuts:List Int
 free:Bool
structure Pair where
 left:Int
 right:Int
 lo:Int
 hi:Int
structure Sheet where
 widths:List Int
 pairs:List Pair
 other:Int×Int
 gap:Int×Int
 hyphen:Int
 words:List Word
 wide:Int
 rows:Int
def bef (a b:Pair):Prop:=a.left < b.left∨(a.left=b.left∧a.right < b.right)
structure FWord (n:Nat)(w:Word):Prop where
 l1:1≤w.signs.length
 l6:w.signs.length≤6
 sg:∀x∈w.signs,0≤x∧x < n
 ct:∀x∈w.cuts,1≤x∧x < w.signs.length
 pw:w.cuts.Pairwise (· < ·)
structure Fine (s:Sheet):Prop where
 w1:1≤s.widths.length
 w6:s.widths.length≤6
 wd:∀x∈s.widths,1≤x∧x≤20
 p6:s.pairs.length≤6
 pr:∀p∈s.pairs,(0≤p.left∧p.left < s.widths.length)∧(0≤p.right∧p.right < s.widths.length)∧(0≤p.lo∧p.lo≤9)∧(p.lo≤p.hi∧p.hi≤9)
 pb:∀(i:Nat) a b,s.pairs[i]?=some a→s.pairs[i+1]?=some b→bef a b
 ot:(0≤s.other.1∧s.other.1≤9)∧(s.other.1≤s.other.2∧s.other.2≤9)
 ga:(0≤s.gap.1∧s.gap.1≤20)∧(s.gap.1≤s.gap.2∧s.gap.2≤20)
 hy:1≤s.hyphen∧s.hyphen≤20
 n1:1≤s.words.length
 n4:s.words.length≤4
 ws:∀w∈s.words,FWord s.widths.length w
 wi:1≤s.wide∧s.wide≤400
 ro:1≤s.rows∧s.rows≤3
def allN (s:Sheet):Nat:=(s.words.map fun w=>w.signs.length).sum
abbrev End:=Int×Int
def endsW (n:Nat)(w:Word):List End:=(w.cuts.map fun k=>(((n:Nat):Int),k))++[(((n:Nat):Int),((w.signs.length:Nat):Int))]
def endsL:Nat→List Word→List End
 | _,[]=>[]
 | n,w :: ws=>endsW n w++endsL (n+1) ws
def ends (s:Sheet):List End:=endsL 0 s.words
def sets (rows:Int):List End→List End→List (List End)
 | [],now=>[now]
 | e :: T,now=>if ((now.length:Nat):Int) < rows then sets rows T (now++[e])++(match T with | []=>[] | _ :: _=>sets rows T now) else []
def posW (n:Nat)(k:Nat):List (Option (Int×Int)):=((List.range k).map fun i:Nat=>some (((n:Nat):Int),((i:Nat):Int)))++[none]
def posL:Nat→List Word→List (Option (Int×Int))
 | _,[]=>[]
 | n,w :: ws=>posW n w.signs.length++posL (n+1) ws
def place:List Word→Nat→Nat→Nat
 | [],_,l=>l
 | _ :: _,0,l=>l
 | w :: ws,n+1,l=>w.signs.length+1+place ws n l
def rowG (s:Sheet)(a b:Nat):List (Int×Int):=(((posL 0 s.words).drop a).take (b - a)).filterMap id
structure Line where
 gl:List (Int×Int)
 cut:Bool
def wordAt (s:Sheet)(n:Int):Word:=s.words.getD n.toNat ⟨[],[],false⟩
def placeE (s:Sheet)(e:End):Nat:=place s.words e.1.toNat e.2.toNat
def lineOf (s:Sheet)(a:Nat)(e:End):Line:=⟨rowG s a (placeE s e),decide (e.2 < ((wordAt s e.1).signs.length:Nat))⟩
def lines (s:Sheet):Nat→List End→List Line
 | _,[]=>[]
 | a,e :: x=>lineOf s a e :: lines s (placeE s e) x
def signOf (s:Sheet)(g:Int×Int):Int:=(wordAt s g.1).signs.getD g.2.toNat 0
def between (p:Int×Int)(st:Int):Int:=p.1+((p.2 - p.1)*st).tdiv 10
def keyV (a b:Int):Value:=.agg #[.int .i64 a,.int .i64 b]
def spanV (a b:Int):Value:=.agg #[.int .i64 a,.int .i64 b]
def encP (p:Pair):Value×Value:=(keyV p.left p.right,spanV p.lo p.hi)
def look (ps:List Pair)(a b:Int):Option (Int×Int):=(ps.find? fun p=>decide (a=p.left)&&decide (b=p.right)).map fun p=>(p.lo,p.hi)
theorem eqk_keyV (a b c d:Int):eqk (keyV a b) (keyV c d)=(decide (a=c)&&decide (b=d)):=by
 simp only [eqk,keyV,eqs,eqv,Bool.and_true]; rw [Bool.eq_iff_iff]; simp
theorem kfind_enc (a b:Int):∀ps:List Pair,((kfind (keyV a b) (ps.map encP)).map (·.2))=(look ps a b).map fun p=>spanV p.1 p.2
 | []=>rfl
 | p :: ps=>by
  have ih:=kfind_enc a b ps
  unfold look at ih ⊢
  rw [List.map_cons,List.find?_cons]
  show ((if eqk (keyV a b) (keyV p.left p.right)=true then some (0,spanV p.lo p.hi) else _).map _)=_
  rw [eqk_keyV]
  cases h:(decide (a=p.left)&&decide (b=p.right)) with
  | true=>simp
  | false =>
   simp only [Bool.false_eq_true,if_false]
   rw [←ih]
   cases kfind (keyV a b) (ps.map encP) <;> rfl
theorem bef_trans {a b c:Pair}(h:bef a b)(h':bef b c):bef a c:=by unfold bef at *; omega
theorem pairs_pw {ps:List Pair}(h:∀(i:Nat) a b,ps[i]?=some a→ps[i+1]?=some b→bef a b):ps.Pairwise bef:=by
 induction ps with
 | nil=>exact .nil
 | cons p ps ih =>
  have ih:=ih fun i a b h1 h2=>h (i+1) a b (by simpa using h1) (by simpa using h2)
  rw [List.pairwise_cons]
  refine ⟨fun q hq=>?_,ih⟩
  cases ps with
  | nil=>cases hq
  | cons r ps =>
   have h0:bef p r:=h 0 p r rfl rfl
   rcases List.mem_cons.1 hq with rfl | hq
   ·exact h0
   ·exact bef_trans h0 ((List.pairwise_cons.1 ih).1 q hq)
theorem upd_enc {ps:List Pair}{p:Pair}(h:∀q∈ps,bef q p):Go.Pi.L.upd (keyV p.left p.right) (spanV p.lo p.hi) (ps.map encP)=(ps++[p]).map encP:=by
 have hk:kfind (keyV p.left p.right) (ps.map encP)=none:=by
  have h1:=kfind_enc p.left p.right ps
  have h2:look ps p.left p.right=none:=by
   unfold look
   rw [Option.map_eq_none_iff,List.find?_eq_none]
   intro q hq
   have:=h q hq
   unfold bef at this
   simp; omega
  rw [h2] at h1
  cases hx:kfind (keyV p.left p.right) (ps.map encP) with
  | none=>rfl
  | some x=>rw [hx] at h1; cases h1
 unfold Go.Pi.L.upd
 rw [hk]
 simp [encP]
theorem look_mem {ps:List Pair}{a b:Int}{p:Int×Int}(h:look ps a b=some p):∃q∈ps,p=(q.lo,q.hi):=by
 unfold look at h
 rw [Option.map_eq_some_iff] at h
 obtain ⟨q,h1,h2⟩:=h
 exact ⟨q,List.mem_of_find?_eq_some h1,h2.symm⟩
def spaceP (s:Sheet)(a b:Int×Int)(st:Int):Int :=
 if a.1≠b.1 then between s.gap st
 else match look s.pairs (signOf s a) (signOf s b) with
  | some p=>between p st
  | none=>between s.other st
def lettersL (s:Sheet)(l:Line):List Int:=(l.gl.map fun g=>s.widths.getD (signOf s g).toNat 0)++(if l.cut=true then [s.hyphen] else [])
def gapsP (s:Sheet)(st:Int):List (Int×Int)→List Int
 | a :: b :: l=>spaceP s a b st :: gapsP s st (b :: l)
 | _=>[]
def gapsL (s:Sheet)(l:Line)(st:Int):List Int:=gapsP s st l.gl++(if l.cut=true then [between s.other st] else [])
def sumI:List Int→Int
 | []=>0
 | x :: l=>x+sumI l
def wideP (s:Sheet)(l:Line)(st:Int):Int:=sumI (lettersL s l)+sumI (gapsL s l st)
def fitsP (s:Sheet)(st:Int)(x:List End):Bool:=decide (((x.length:Nat):Int)≤s.rows)&&(lines s 0 x).all fun l=>decide (wideP s l st≤s.wide)
def setsP (s:Sheet):List (List End):=sets s.rows (ends s) []
def canP (s:Sheet):Bool:=(setsP s).any (fitsP s 0)
def fitP (s:Sheet):List (List End):=(setsP s).filter (fitsP s 0)
theorem can_fit (s:Sheet):canP s = !(fitP s).isEmpty:=by
 unfold canP fitP
 induction setsP s with
 | nil=>rfl
 | cons x l ih =>
  rw [List.any_cons,List.filter_cons,ih]
  cases fitsP s 0 x <;> simp
def shortW (n:Nat):List Word→List Word
 | []=>[]
 | w :: ws=>if n=0 then [] else ⟨w.signs.take (min n w.signs.length),w.cuts.filter fun k=>decide (k < ((min n w.signs.length:Nat):Int)),w.free⟩ :: shortW (n - min n w.signs.length) ws
def shortS (s:Sheet)(n:Nat):Sheet:={ s with words:=shortW n s.words }
theorem shortW_all (m:Nat):∀(ws:List Word) (n:Nat),(ws.map fun w=>w.signs.length).sum≤n→(∀w∈ws,FWord m w)→shortW n ws=ws
 | [],_,_,_=>rfl
 | w :: ws,n,h,hf=>by
  have hw:=hf w (List.mem_cons_self ..)
  have h1:=hw.l1
  simp only [List.map_cons,List.sum_cons] at h
  have e:min n w.signs.length=w.signs.length:=by omega
  rw [shortW,if_neg (by omega),e,List.take_length,shortW_all m ws _ (by omega) fun x hx=>hf x (List.mem_cons_of_mem _ hx)]
  have hc:w.cuts.filter (fun k=>decide (k < ((w.signs.length:Nat):Int)))=w.cuts:=List.filter_eq_self.2 fun k hk=>by have:=hw.ct k hk; simp; omega
  rw [hc]
theorem short_all {s:Sheet}(h:Fine s):shortS s (allN s)=s:=by
 have:=shortW_all s.widths.length s.words (allN s) (Nat.le_refl _) h.ws
 unfold shortS
 rw [this]
theorem shortW_fine (m:Nat):∀(ws:List Word) (n:Nat),(∀w∈ws,FWord m w)→(∀w∈shortW n ws,FWord m w)∧(shortW n ws).length≤ws.length∧(0 < n→ws≠[]→1≤(shortW n ws).length)
 | [],_,_=>⟨fun w (h:w∈[])=>(by cases h),Nat.le_refl _,fun _ h=>(h rfl).elim⟩
 | w :: ws,n,hf=>by
  have hw:=hf w (List.mem_cons_self ..)
  obtain ⟨i1,i2,_⟩:=shortW_fine m ws (n - min n w.signs.length) fun x hx=>hf x (List.mem_cons_of_mem _ hx)
  rw [shortW]
  by_cases h0:n=0
  ·rw [if_pos h0]; exact ⟨fun w (h:w∈[])=>(by cases h),Nat.zero_le _,fun h=>(by omega)⟩
  ·rw [if_neg h0]
   have h1:=hw.l1
   refine ⟨fun x hx=>?_,by simp; omega,fun _ _=>by simp⟩
   rcases List.mem_cons.1 hx with rfl | hx
   ·refine ⟨?_,?_,fun x hx=>hw.sg x (List.mem_of_mem_take hx),fun x hx=>?_,hw.pw.filter _⟩
    ·simp only [List.length_take]; omega
    ·simp only [List.length_take]; have:=hw.l6; omega
    ·obtain ⟨h2,h3⟩:=List.mem_filter.1 hx
     have:=hw.ct x h2
     simp only [List.length_take,decide_eq_true_eq] at h3 ⊢
     omega
   ·exact i1 x hx
theorem short_fine {s:Sheet}(h:Fine s){n:Nat}(hn:0 < n):Fine (shortS s n):=by
 obtain ⟨h1,h2,h3⟩:=shortW_fine s.widths.length s.words n h.ws
 exact { h with n1:=h3 hn (fun e=>by have:=h.n1; rw [e] at this; simp at this),n4:=Nat.le_trans h2 h.n4,ws:=h1 }
def overF (s:Sheet):Nat→Nat→Nat
 | _,0=>allN s
 | n,k+1=>if canP (shortS s (allN s - n))=true then n else overF s (n+1) k
def overP (s:Sheet):Nat:=overF s 0 (allN s)
theorem overF_le (s:Sheet):∀k n,n+k=allN s→n≤overF s n k∧overF s n k≤allN s
 | 0,n,h=>⟨by simp [overF]; omega,by simp [overF]⟩
 | k+1,n,h=>by
  have ih:=overF_le s k (n+1) (by omega)
  rw [overF]
  split
  ·omega
  ·omega
theorem all_pos {s:Sheet}(h:Fine s):1≤allN s∧allN s≤24:=by
 have key:∀(m:Nat) (ws:List Word),(∀w∈ws,FWord m w)→ws.length≤(ws.map fun w=>w.signs.length).sum∧(ws.map fun w=>w.signs.length).sum≤6*ws.length:=by
  intro m ws hf
  induction ws with
  | nil=>simp
  | cons w ws ih =>
   have hw:=hf w (List.mem_cons_self ..)
   have ih:=ih fun x hx=>hf x (List.mem_cons_of_mem _ hx)
   have:=hw.l1; have:=hw.l6
   simp only [List.map_cons,List.sum_cons,List.length_cons]; omega
 have:=key _ s.words h.ws
 have:=h.n1; have:=h.n4
 unfold allN; omega
theorem over_zero {s:Sheet}(h:Fine s):overP s≤allN s∧(overP s=0↔fitP s≠[]):=by
 have hp:=all_pos h
 refine ⟨(overF_le s _ 0 (by omega)).2,?_⟩
 have hc:=can_fit s
 obtain ⟨k,hk⟩:∃k,allN s=k+1:=⟨allN s - 1,by omega⟩
 have e:overP s=if canP s=true then 0 else overF s 1 k:=by
  unfold overP
  rw [hk,overF,hk,Nat.sub_zero,←hk,short_all h]
 rw [e]
 cases hx:fitP s with
 | nil =>
  rw [hx] at hc
  have:canP s=false:=hc
  rw [this]
  have:=(overF_le s k 1 (by omega)).1
  simp; omega
 | cons x l =>
  rw [hx] at hc
  have:canP s=true:=hc
  rw [this]; simp
end LM
set_option maxRecDepth 100000
namespace Go.Pi.L
open Go Go.Pi
section
variable {α:Type} {call:CallT} {F:Ex→St→Option α} {k:List It}
theorem goD_mlk (d sh zero ok m key hb tb T S D H lo n rnd):goD call F d (.mlk sh zero ok m key) ⟨1,hb,tb⟩ k ⟨T,S,D,H,lo,n,rnd⟩=go call F d (.mlk sh zero ok m key) (.fix lo H.length hb :: k) ⟨T,S,D,H,H.length,n,rnd⟩:=by
 rw [goD_go _ _ _ _ _ _ _ _ _ _ (by simp [clsOk]) trivial]
end
end Go.Pi.L
namespace Go.Pi.L.Top
open Go Go.Pi Go.Pi.L Go.Pi.Top LM

noncomputable def primsL:Prims:=fun f=>if f=7 then some (fun args H=>if args.isEmpty=true then some ⟨.ok (.bool true),H,H.length⟩ else none) else prims0 f
theorem pr (f:FuncId)(hk:f≠7:=by decide):primsL f=none:=by unfold primsL; rw [if_neg hk]; rfl
noncomputable abbrev R:CallT:=runL PP primsL
def encI (x:Int):List Value:=[.int .i64 x]
theorem encI_len (x:Int):(encI x).length=1:=rfl
abbrev Ints (H:Heap)(a:Option Addr)(l:Nat)(xs:List Int):Prop:=Sl H 1 encI a l xs
theorem _root_.Go.Pi.L.Sl.i1 {H:Heap}{a:Option Addr}{l:Nat}{xs:List Int}(h:Ints H a l xs){j:Nat}(hj:j < l) :
  ∃b off x,a=some ⟨b,off,none⟩∧xs[j]?=some x∧(∀H',Grow H H'→rdO (hcells H' b) (off+j*1) none=some (.int .i64 x)):=by
 obtain ⟨b,off,x,h1,h2,h3⟩:=h.at encI_len (by decide) hj
 exact ⟨b,off,x,h1,h2,At.v0 h3⟩
theorem drop_cons {β:Type}{xs:List β}{j:Nat}{x:β}(h:xs[j]?=some x):xs.drop j=x :: xs.drop (j+1):=by
 obtain ⟨hj,rfl⟩:=List.getElem?_eq_some_iff.1 h
 exact List.drop_eq_getElem_cons hj
theorem drop_all {β:Type}{xs:List β}{l:Nat}(h:xs.length=l):xs.drop l=[]:=List.drop_eq_nil_of_le (by omega)
theorem mem_drop {β:Type}{xs:List β}{j:Nat}{x:β}(h:xs[j]?=some x):x∈xs:=List.mem_of_getElem? h
def eP (p:Pair):List Value:=[.int .i64 p.left,.int .i64 p.right,.int .i64 p.lo,.int .i64 p.hi]
theorem eP_len (p:Pair):(eP p).length=4:=rfl
structure WR where
 sa:Option Addr
 sl:Nat
 sk:Nat
 ca:Option Addr
 cl:Nat
 ck:Nat
 w:Word
def eW (x:WR):List Value:=[.slice x.sa x.sl x.sk,.slice x.ca x.cl x.ck,.bool x.w.free]
theorem eW_len (x:WR):(eW x).length=3:=rfl
structure WAt (H:Heap)(x:WR):Prop where
 sg:Ints H x.sa x.sl x.w.signs
 ct:Ints H x.ca x.cl x.w.cuts
theorem WAt.grow {H H':Heap}{x:WR}(h:WAt H x)(g:Grow H H'):WAt H' x:=⟨h.sg.grow g,h.ct.grow g⟩
structure LeR where
 wa:Option Addr
 wl:Nat
 wk:Nat
 pa:Option Addr
 pl:Nat
 pk:Nat
 na:Option Addr
 nl:Nat
 nk:Nat
 xs:List WR
structure LeOk (H:Heap)(r:LeR)(s:Sheet):Prop where
 wd:Ints H r.wa r.wl s.widths
 pr:Sl H 4 eP r.pa r.pl s.pairs
 ws:Sl H 3 eW r.na r.nl r.xs
 wt:∀x∈r.xs,WAt H x
 eq:s.words=r.xs.map (·.w)
theorem LeOk.grow {H H':Heap}{r:LeR}{s:Sheet}(h:LeOk H r s)(g:Grow H H'):LeOk H' r s:=⟨h.wd.grow g,h.pr.grow g,h.ws.grow g,fun k hk=>(h.wt k hk).grow g,h.eq⟩
theorem LeOk.len {H:Heap}{r:LeR}{s:Sheet}(h:LeOk H r s):s.words.length=r.nl:=by rw [h.eq,List.length_map]; exact h.ws.len
theorem LeOk.at {H:Heap}{r:LeR}{s:Sheet}(h:LeOk H r s){j:Nat}{k:WR}(hk:r.xs[j]?=some k):s.words[j]?=some k.w:=by rw [h.eq,List.getElem?_map,hk]; rfl
structure PAt (H:Heap)(b off:Nat)(p:Pair):Prop where
 all:∀H',Grow H H'→rdO (hcells H' b) off (some 4)=some (.agg #[.int .i64 p.left,.int .i64 p.right,.int .i64 p.lo,.int .i64 p.hi])
 v0:∀H',Grow H H'→rdO (hcells H' b) off none=some (.int .i64 p.left)
 v1:∀H',Grow H H'→rdO (hcells H' b) (off+1) none=some (.int .i64 p.right)
 v2:∀H',Grow H H'→rdO (hcells H' b) (off+2) none=some (.int .i64 p.lo)
 v3:∀H',Grow H H'→rdO (hcells H' b) (off+3) none=some (.int .i64 p.hi)
theorem _root_.Go.Pi.L.At.v3 {H:Heap}{b off:Nat}{x y z u:Value}{e:List Value}(h:At H b off (x :: y :: z :: u :: e)):∀H',Grow H H'→rdO (hcells H' b) (off+3) none=some u:=h.one 3 u rfl
theorem _root_.Go.Pi.L.Sl.p4 {H:Heap}{a:Option Addr}{l:Nat}{xs:List Pair}(h:Sl H 4 eP a l xs){j:Nat}(hj:j < l) :
  ∃b off x,a=some ⟨b,off,none⟩∧xs[j]?=some x∧PAt H b (off+j*4) x:=by
 obtain ⟨b,off,x,h1,h2,h3⟩:=h.at eP_len (by decide) hj
 exact ⟨b,off,x,h1,h2,⟨h3.all,At.v0 h3,At.v1 h3,At.v2 h3,At.v3 h3⟩⟩
structure WLie (H:Heap)(b off:Nat)(x:WR):Prop where
 all:∀H',Grow H H'→rdO (hcells H' b) off (some 3)=some (.agg #[.slice x.sa x.sl x.sk,.slice x.ca x.cl x.ck,.bool x.w.free])
 v0:∀H',Grow H H'→rdO (hcells H' b) off none=some (.slice x.sa x.sl x.sk)
 v1:∀H',Grow H H'→rdO (hcells H' b) (off+1) none=some (.slice x.ca x.cl x.ck)
 v2:∀H',Grow H H'→rdO (hcells H' b) (off+2) none=some (.bool x.w.free)
theorem _root_.Go.Pi.L.Sl.w3 {H:Heap}{a:Option Addr}{l:Nat}{xs:List WR}(h:Sl H 3 eW a l xs){j:Nat}(hj:j < l) :
  ∃b off x,a=some ⟨b,off,none⟩∧xs[j]?=some x∧WLie H b (off+j*3) x:=by
 obtain ⟨b,off,x,h1,h2,h3⟩:=h.at eW_len (by decide) hj
 exact ⟨b,off,x,h1,h2,⟨h3.all,At.v0 h3,At.v1 h3,At.v2 h3⟩⟩
def inL (x lo hi:Int):Bool:=decide (lo≤x)&&decide (x≤hi)
def idx {β:Type}(p:β→Bool):List β→Nat→Int
 | [],_=>-1
 | x :: xs,j=>if p x then j else idx p xs (j+1)
theorem ia_of {k b off j l kk:Nat}{a:Option Addr}(ha:a=some ⟨b,off,none⟩)(hj:j < l):vv (.ia k) [.slice a l kk,.int .i64 (j:Nat)]=some (.pointer (some ⟨b,off+j*k,none⟩)):=by rw [ha]; exact vv_iaN k b off j _ _ _ hj
end Go.Pi.L.Top
set_option maxRecDepth 100000
namespace Go.Pi.L.Top
open Go Go.Pi Go.Pi.L Go.Pi.Top LM

theorem c56 (x lo hi:Int)(H:Heap):R (.func 56) [.int .i64 x,.int .i64 lo,.int .i64 hi] H=some ⟨.ok (.bool (inL x lo hi)),H,H.length⟩:=by
 refine run_k (pr 56) P56 (by simp [p56]) rfl ?_
 by_cases h:lo≤x <;> simp (maxDischargeDepth:=8) only [↓SD,SU,SV,SW,simprocAttr,Int.cast_ofNat_Int,small,resV, B56,R56,N56,b56, h,Bool.false_and,inL]
theorem c18 (x lo hi:Int)(H:Heap):R (.func 18) [.int .i64 x,.int .i64 lo,.int .i64 hi] H=some ⟨.ok (.bool (inL x lo hi)),H,H.length⟩:=by
 refine run_k (pr 18) P18 (by simp [p18]) rfl ?_
 by_cases h:lo≤x <;> simp (maxDischargeDepth:=8) only [↓SD,SU,SV,SW,simprocAttr,Int.cast_ofNat_Int,small,resV, B18,R18,N18,b18, h,Bool.false_and,inL]
theorem c75 (x lo hi:Int)(H:Heap):R (.func 75) [.int .i64 x,.int .i64 lo,.int .i64 hi] H=some ⟨.ok (.bool (inL x lo hi)),H,H.length⟩:=by
 refine run_k (pr 75) P75 (by simp [p75]) rfl ?_
 by_cases h:lo≤x <;> simp (maxDischargeDepth:=8) only [↓SD,SU,SV,SW,simprocAttr,Int.cast_ofNat_Int,small,resV, B75,R75,N75,b75, h,Bool.false_and,inL]
theorem c6 (x lo hi:Int)(H:Heap):R (.func 6) [.int .i64 x,.int .i64 lo,.int .i64 hi] H=some ⟨.ok (.bool (inL x lo hi)),H,H.length⟩:=by
 refine run_k (pr 6) P6 (by simp [p6]) rfl ?_
 by_cases h:lo≤x <;> simp (maxDischargeDepth:=8) only [↓SD,SU,SV,SW,simprocAttr,Int.cast_ofNat_Int,small,resV, B6,R6,N6,b6, h,Bool.false_and,inL]
theorem inL_t {x lo hi:Int}(h1:lo≤x)(h2:x≤hi):inL x lo hi=true:=by unfold inL; simp [h1,h2]
theorem inL_s {x lo hi:Int}(h:inL x lo hi=true):lo≤x∧x≤hi:=by unfold inL at h; simpa using h
theorem c61 (a b lo hi:Int)(H:Heap):R (.func 61) [.agg #[.int .i64 a,.int .i64 b],.int .i64 lo,.int .i64 hi] H=some ⟨.ok (.bool (inL a lo hi&&inL b a hi)),H,H.length⟩:=by
 refine run_k (pr 61) P61 (by simp [p61]) rfl ?_
 cases h:inL a lo hi <;> simp (maxDischargeDepth:=8) only [↓SD,SU,SV,SW,simprocAttr,Int.cast_ofNat_Int,small,resV, B61,R61,N61,b61, c56,h,Bool.false_and]
theorem c59 (x:Int)(H:Heap):R (.func 59) [.int .i64 x] H=some ⟨.ok (.bool (!inL x 1 20)),H,H.length⟩:=by
 refine run_k (pr 59) P59 (by simp [p59]) rfl ?_
 simp (maxDischargeDepth:=8) only [↓SD,SU,SV,SW,simprocAttr,Int.cast_ofNat_Int,small,resV, B59,R59,N59,b59, c56]
theorem c58 (a b:Pair)(h:bef a b)(H:Heap):R (.func 58) [.agg #[.int .i64 a.left,.int .i64 a.right,.int .i64 a.lo,.int .i64 a.hi],.agg #[.int .i64 b.left,.int .i64 b.right,.int .i64 b.lo,.int .i64 b.hi]] H=some ⟨.ok (.bool true),H,H.length⟩:=by
 refine run_k (pr 58) P58 (by simp [p58]) rfl ?_
 by_cases h1:a.left < b.left
 ·simp (maxDischargeDepth:=8) only [↓SD,SU,SV,SW,simprocAttr,Int.cast_ofNat_Int,small,resV, B58,R58,N58,b58, h1]
 ·have h2:a.left=b.left:=by unfold bef at h; omega
  have h3:a.right < b.right:=by unfold bef at h; omega
  simp (maxDischargeDepth:=8) only [↓SD,SU,SV,SW,simprocAttr,Int.cast_ofNat_Int,small,resV, B58,R58,N58,b58, h2,h3,Int.lt_irrefl]

theorem c101 {g:FuncId}{caps:List Value}{H:Heap}{a:Option Addr}{l kk:Nat}{xs:List Int}(hs:Sl H 1 encI a l xs)(hl:l < 1000000)(hc:(caps.all fun v=>!isLoc v)=true)
  (hf:∀x∈xs,∀H',Grow H H'→R (.func g) (.int .i64 x :: caps) H'=some ⟨.ok (.bool false),H',H'.length⟩) :
  ∀H',Grow H H'→R (.func 101) [.slice a l kk,.func (.func g) #[] caps.toArray] H'=some ⟨.ok (.int .i64 (-1)),H',H'.length⟩:=by
 intro H' hg
 refine run_k (pr 101) P101 (by simp [p101]) rfl ?_
 have lo:=hs.isLoc kk
 simp (maxDischargeDepth:=8) only [↓SD,SU,SV,SW,simprocAttr,Int.cast_ofNat_Int,small,resV, B101,R101,N101,b101, lo]
 refine loop_ind (G:=(·=_)) (fun j σ=>∃T,σ=⟨T,[],[],H',(H').length,19,false⟩∧get T 0=.slice a l kk∧get T 1=.func (.func g) #[] caps.toArray∧get T 7=.int .i64 l∧get T 8=.int .i64 (j:Nat)∧(True)) (l) ?_ ?_ 0 _ (Nat.zero_le _) ⟨_,rfl,rfl,rfl,rfl,rfl,by simp⟩
 ·rintro c' j s hj ⟨T,rfl,t0,t1,t7,t8,hp⟩ ih
  obtain ⟨b,off,x,rfl,hx,e1⟩:=hs.i1 hj
  have e1:=e1
  have e2:=hf x (mem_drop hx) H' hg
  simp (maxDischargeDepth:=8) only [↓SD,SU,SV,SW,simprocAttr,Int.cast_ofNat_Int,small,resV, q101x0,t0,t1,t7,t8, lt_nat,hj,lo,e1,hg,e2,hc,R101,N101,wrap_succ j (by omega)]
  exact ih _ ⟨_,rfl,(by simp [get_set,t0] <;> omega),(by simp [get_set,t1] <;> omega),(by simp [get_set,t7] <;> omega),(by simp [get_set,t8] <;> omega),trivial⟩
 ·rintro c' s ⟨T,rfl,t0,t1,t7,t8,hp⟩
  simp (maxDischargeDepth:=8) only [↓SD,SU,SV,SW,simprocAttr,Int.cast_ofNat_Int,small,resV, q101x0,t0,t1,t7,t8, lt_nat,Nat.lt_irrefl,R101,N101]
theorem c60 {g:FuncId}{caps:List Value}{H:Heap}{a:Option Addr}{l kk:Nat}{xs:List Int}(hs:Sl H 1 encI a l xs)(hl:l < 1000000)(hc:(caps.all fun v=>!isLoc v)=true)
  (hf:∀x∈xs,∀H',Grow H H'→R (.func g) (.int .i64 x :: caps) H'=some ⟨.ok (.bool false),H',H'.length⟩) :
  ∀H',Grow H H'→R (.func 60) [.slice a l kk,.func (.func g) #[] caps.toArray] H'=some ⟨.ok (.bool false),H',H'.length⟩:=by
 intro H' hg
 refine run_k (pr 60) P60 (by simp [p60]) rfl ?_
 have lo:=hs.isLoc kk
 have z:¬(0:Int)≤-1:=by omega
 simp (maxDischargeDepth:=8) only [↓SD,SU,SV,SW,simprocAttr,Int.cast_ofNat_Int,small,resV, B60,R60,N60,b60, lo,loc_func,c101 hs hl hc hf,hg,z]
theorem c102 {g:FuncId}{caps:List Value}{H:Heap}{a:Option Addr}{l kk:Nat}{xs:List WR}(hs:Sl H 3 eW a l xs)(hl:l < 1000000)(hc:(caps.all fun v=>!isLoc v)=true)
  (hf:∀x∈xs,∀H',Grow H H'→R (.func g) (.agg #[.slice x.sa x.sl x.sk,.slice x.ca x.cl x.ck,.bool x.w.free] :: caps) H'=some ⟨.ok (.bool false),H',H'.length⟩) :
  ∀H',Grow H H'→R (.func 102) [.slice a l kk,.func (.func g) #[] caps.toArray] H'=some ⟨.ok (.int .i64 (-1)),H',H'.length⟩:=by
 intro H' hg
 refine run_k (pr 102) P102 (by simp [p102]) rfl ?_
 have lo:=hs.isLoc kk
 simp (maxDischargeDepth:=8) only [↓SD,SU,SV,SW,simprocAttr,Int.cast_ofNat_Int,small,resV, B102,R102,N102,b102, lo]
 refine loop_ind (G:=(·=_)) (fun j σ=>∃T,σ=⟨T,[],[],H',(H').length,19,false⟩∧get T 0=.slice a l kk∧get T 1=.func (.func g) #[] caps.toArray∧get T 7=.int .i64 l∧get T 8=.int .i64 (j:Nat)∧(True)) (l) ?_ ?_ 0 _ (Nat.zero_le _) ⟨_,rfl,rfl,rfl,rfl,rfl,by simp⟩
 ·rintro c' j s hj ⟨T,rfl,t0,t1,t7,t8,hp⟩ ih
  obtain ⟨b,off,x,rfl,hx,e1⟩:=hs.w3 hj
  have e1:=e1.all
  have e2:=hf x (mem_drop hx) H' hg
  simp (maxDischargeDepth:=8) only [↓SD,SU,SV,SW,simprocAttr,Int.cast_ofNat_Int,small,resV, q102x0,t0,t1,t7,t8, lt_nat,hj,lo,e1,hg,e2,hc,R102,N102,wrap_succ j (by omega)]
  exact ih _ ⟨_,rfl,(by simp [get_set,t0] <;> omega),(by simp [get_set,t1] <;> omega),(by simp [get_set,t7] <;> omega),(by simp [get_set,t8] <;> omega),trivial⟩
 ·rintro c' s ⟨T,rfl,t0,t1,t7,t8,hp⟩
  simp (maxDischargeDepth:=8) only [↓SD,SU,SV,SW,simprocAttr,Int.cast_ofNat_Int,small,resV, q102x0,t0,t1,t7,t8, lt_nat,Nat.lt_irrefl,R102,N102]
theorem c62 {g:FuncId}{caps:List Value}{H:Heap}{a:Option Addr}{l kk:Nat}{xs:List WR}(hs:Sl H 3 eW a l xs)(hl:l < 1000000)(hc:(caps.all fun v=>!isLoc v)=true)
  (hf:∀x∈xs,∀H',Grow H H'→R (.func g) (.agg #[.slice x.sa x.sl x.sk,.slice x.ca x.cl x.ck,.bool x.w.free] :: caps) H'=some ⟨.ok (.bool false),H',H'.length⟩) :
  ∀H',Grow H H'→R (.func 62) [.slice a l kk,.func (.func g) #[] caps.toArray] H'=some ⟨.ok (.bool false),H',H'.length⟩:=by
 intro H' hg
 refine run_k (pr 62) P62 (by simp [p62]) rfl ?_
 have lo:=hs.isLoc kk
 have z:¬(0:Int)≤-1:=by omega
 simp (maxDischargeDepth:=8) only [↓SD,SU,SV,SW,simprocAttr,Int.cast_ofNat_Int,small,resV, B62,R62,N62,b62, lo,loc_func,c102 hs hl hc hf,hg,z]
theorem c104 {H:Heap}{a:Option Addr}{l kk:Nat}{xs:List Int}{lo hi:Int}(hs:Ints H a l xs)(hl:l < 1000000)(hb:∀x∈xs,lo≤x∧x≤hi)(hup:xs.Pairwise (· < ·)) :
  ∀H',Grow H H'→R (.func 104) [.slice a l kk,.int .i64 lo,.int .i64 hi] H'=some ⟨.ok (.bool true),H',H'.length⟩:=by
 intro H' hg
 refine run_k (pr 104) P104 (by simp [p104]) rfl ?_
 have lc:=hs.isLoc kk
 simp (maxDischargeDepth:=8) only [↓SD,SU,SV,SW,simprocAttr,Int.cast_ofNat_Int,small,resV, B104,R104,N104,b104, lc]
 refine loop_ind (G:=(·=_)) (fun j σ=>∃T,σ=⟨T,[],[],H',(H').length,35,false⟩∧get T 0=.slice a l kk∧get T 1=.int .i64 lo∧get T 2=.int .i64 hi∧get T 9=.slice a l kk∧get T 10=.int .i64 l∧get T 11=.int .i64 (j:Nat)∧(True)) (l) ?_ ?_ 0 _ (Nat.zero_le _) ⟨_,rfl,rfl,rfl,rfl,rfl,rfl,rfl,by simp⟩
 ·rintro c' j s hj ⟨T,rfl,t0,t1,t2,t9,t10,t11,hp⟩ ih
  obtain ⟨b,off,x,hxa,hx,e1⟩:=hs.i1 hj
  have e1:=e1 H' hg
  have hw:=wrap_succ j (by omega)
  have hin:=inL_t (hb x (mem_drop hx)).1 (hb x (mem_drop hx)).2
  by_cases hj0:j=0
  ·have e4:¬(0:Int) < (j:Int):=by omega
   simp (maxDischargeDepth:=8) only [↓SD,SU,SV,SW,simprocAttr,Int.cast_ofNat_Int,small,resV, q104x0,t0,t1,t2,t9,t10,t11, lt_nat,hj,lc,hxa,e1,e4,c56,hin,hw]
   exact ih _ ⟨_,rfl,(by simp [get_set,t0] <;> omega),(by simp [get_set,t1] <;> omega),(by simp [get_set,t2] <;> omega),(by simp [get_set,t9] <;> omega),(by simp [get_set,t10] <;> omega),(by simp [get_set,t11] <;> omega),trivial⟩
  ·obtain ⟨j,rfl⟩:∃i,j=i+1:=⟨j - 1,by omega⟩
   obtain ⟨b2,o2,y,hxa',hy,e2⟩:=hs.i1 (j:=j) (by omega)
   have e2:=e2 H' hg
   rw [hxa] at hxa'
   cases hxa'
   have w3:IntKind.wrap .i64 (((j+1:Nat):Int) - 1)=(j:Nat):=by rw [wrap_id _ (by omega) (by omega)]; omega
   have e4:(0:Int) < ((j+1:Nat):Int):=by omega
   have e6:j < l:=by omega
   have hlt:¬x≤y:=by
    have h1:=List.getElem?_eq_some_iff.1 hy
    have h2:=List.getElem?_eq_some_iff.1 hx
    have:=List.pairwise_iff_getElem.1 hup j (j+1) h1.1 h2.1 (by omega)
    rw [h1.2,h2.2] at this; omega
   simp (maxDischargeDepth:=8) only [↓SD,SU,SV,SW,simprocAttr,Int.cast_ofNat_Int,small,resV, q104x0,t0,t1,t2,t9,t10,t11, lt_nat,hj,lc,hxa,e1,e2,e4,e6,w3,c56,hin,hw,hlt]
   exact ih _ ⟨_,rfl,(by simp [get_set,t0] <;> omega),(by simp [get_set,t1] <;> omega),(by simp [get_set,t2] <;> omega),(by simp [get_set,t9] <;> omega),(by simp [get_set,t10] <;> omega),(by simp [get_set,t11] <;> omega),trivial⟩
 ·rintro c' s ⟨T,rfl,t0,t1,t2,t9,t10,t11,hp⟩
  simp (maxDischargeDepth:=8) only [↓SD,SU,SV,SW,simprocAttr,Int.cast_ofNat_Int,small,resV, q104x0,t0,t1,t2,t9,t10,t11, lt_nat,Nat.lt_irrefl,R104,N104]
end Go.Pi.L.Top
set_option maxRecDepth 100000
namespace Go.Pi.L.Top
open Go Go.Pi Go.Pi.L Go.Pi.Top LM

theorem LeOk.fw {H:Heap}{r:LeR}{s:Sheet}(h:LeOk H r s)(hf:Fine s){x:WR}(hx:x∈r.xs):FWord s.widths.length x.w:=hf.ws _ (by rw [h.eq]; exact List.mem_map.2 ⟨x,hx,rfl⟩)
theorem c57 {H:Heap}{r:LeR}{s:Sheet}(hr:LeOk H r s)(hf:Fine s){p:Pair}(hp:p∈s.pairs) :
  ∀H',R (.func 57) [.agg #[.slice r.wa r.wl r.wk,.slice r.pa r.pl r.pk,.int .i64 s.other.1,.int .i64 s.other.2,.int .i64 s.gap.1,.int .i64 s.gap.2,.int .i64 s.hyphen,.slice r.na r.nl r.nk,.int .i64 s.wide,.int .i64 s.rows],.agg #[.int .i64 p.left,.int .i64 p.right,.int .i64 p.lo,.int .i64 p.hi]] H'=some ⟨.ok (.bool true),H',H'.length⟩:=by
 intro H'
 obtain ⟨p1,p2,p3,p4⟩:=hf.pr p hp
 have hl:=hf.w6
 have hwl:=hr.wd.len
 refine run_k (pr 57) P57 (by simp [p57]) rfl ?_
 obtain ⟨wa,wl,wk,pa,pl,pk,na,nl,nk,xs⟩:=r
 have hW:Ints H wa wl s.widths:=hr.wd
 have hP:Sl H 4 eP pa pl s.pairs:=hr.pr
 have hN:Sl H 3 eW na nl xs:=hr.ws
 have l1:=hW.isLoc wk
 have l2:=hP.isLoc pk
 have l3:=hN.isLoc nk
 simp only at hwl ⊢
 rw [hwl] at p1 p2 hl
 have w1:IntKind.wrap .i64 ((wl:Int) - 1)=(wl:Int) - 1:=wrap_id _ (by omega) (by omega)
 have q1:inL p.left 0 ((wl:Int) - 1)=true:=inL_t (by omega) (by omega)
 have q2:inL p.right 0 ((wl:Int) - 1)=true:=inL_t (by omega) (by omega)
 have q3:inL p.lo 0 9=true:=inL_t (by omega) (by omega)
 have q4:inL p.hi p.lo 9=true:=inL_t (by omega) (by omega)
 simp (maxDischargeDepth:=8) only [↓SD,SU,SV,SW,simprocAttr,Int.cast_ofNat_Int,small,resV, B57,R57,N57,b57, l1,l2,l3,w1,q1,q2,q3,q4,c56,c61]
theorem c103 {H:Heap}{r:LeR}{s:Sheet}(hr:LeOk H r s)(hf:Fine s){xb:Nat}(hx:hcells H xb=some [.slice r.wa r.wl r.wk,.slice r.pa r.pl r.pk,.int .i64 s.other.1,.int .i64 s.other.2,.int .i64 s.gap.1,.int .i64 s.gap.2,.int .i64 s.hyphen,.slice r.na r.nl r.nk,.int .i64 s.wide,.int .i64 s.rows])(x:Int)(h:0≤x∧x < s.widths.length) :
  ∀H',Grow H H'→R (.func 103) [.int .i64 x,.pointer (some ⟨xb,0,none⟩)] H'=some ⟨.ok (.bool false),H',H'.length⟩:=by
 intro H' hg
 have hl:=hf.w6
 have hwl:=hr.wd.len
 have hx':=hg.hc hx
 refine run_k (pr 103) P103 (by simp [p103]) rfl ?_
 obtain ⟨wa,wl,wk,pa,pl,pk,na,nl,nk,xs⟩:=r
 have hW:Ints H wa wl s.widths:=hr.wd
 have hP:Sl H 4 eP pa pl s.pairs:=hr.pr
 have hN:Sl H 3 eW na nl xs:=hr.ws
 have l1:=hW.isLoc wk
 have l2:=hP.isLoc pk
 have l3:=hN.isLoc nk
 simp only at hwl hx' ⊢
 rw [hwl] at h hl
 have w1:IntKind.wrap .i64 ((wl:Int) - 1)=(wl:Int) - 1:=wrap_id _ (by omega) (by omega)
 have q1:inL x 0 ((wl:Int) - 1)=true:=inL_t (by omega) (by omega)
 simp (maxDischargeDepth:=8) only [↓SD,SU,SV,SW,simprocAttr,Int.cast_ofNat_Int,small,resV, B103,R103,N103,b103, l1,l2,l3,hx',w1,q1,c56]
theorem c64 {H:Heap}{r:LeR}{s:Sheet}(hr:LeOk H r s)(hf:Fine s){x:WR}(hx:x∈r.xs) :
  ∀H',Grow H H'→R (.func 64) [.agg #[.slice r.wa r.wl r.wk,.slice r.pa r.pl r.pk,.int .i64 s.other.1,.int .i64 s.other.2,.int .i64 s.gap.1,.int .i64 s.gap.2,.int .i64 s.hyphen,.slice r.na r.nl r.nk,.int .i64 s.wide,.int .i64 s.rows],.agg #[.slice x.sa x.sl x.sk,.slice x.ca x.cl x.ck,.bool x.w.free]] H'=some ⟨.ok (.bool true),H',H'.length⟩:=by
 intro H' hg
 have hw:=hr.fw hf hx
 have hS:=(hr.wt x hx).sg
 have hC:=(hr.wt x hx).ct
 have l4:=hS.isLoc x.sk
 have l5:=hC.isLoc x.ck
 have s1:=hw.l1
 have s6:=hw.l6
 have cl:=hw.pw
 have ct:=hw.ct
 rw [hS.len] at s1 s6 ct
 have hcl:x.cl < 1000000:=by
  have:=hC.len
  have h2:∀(l:List Int) (n:Int),l.Pairwise (· < ·)→(∀y∈l,n≤y∧y < 6)→n≤6→(l.length:Int)≤6 - n:=fun l=>by
   induction l with
   | nil=>intro n _ _ h; simp; omega
   | cons a l ih =>
    intro n h1 h2 h3
    rw [List.pairwise_cons] at h1
    have h4:=h2 a (List.mem_cons_self ..)
    have:=ih (a+1) h1.2 (fun y hy=>⟨by have:=h1.1 y hy; omega,(h2 y (List.mem_cons_of_mem _ hy)).2⟩) (by omega)
    simp only [List.length_cons]; omega
  have:=h2 x.w.cuts 1 cl (fun y hy=>by have:=ct y hy; omega) (by omega)
  omega
 have hg1:∀b,Grow H (H'++[b]):=fun b=>hg.trans ((Up.refl _).app.grow)
 have w1:IntKind.wrap .i64 ((x.sl:Int) - 1)=(x.sl:Int) - 1:=wrap_id _ (by omega) (by omega)
 have q1:inL (x.sl:Int) 1 6=true:=inL_t (by omega) (by omega)
 have hcut:∀y∈x.w.cuts,(1:Int)≤y∧y≤(x.sl:Int) - 1:=fun y hy=>by have:=ct y hy; omega
 have hx0:(fun y (hy:y∈x.w.signs)=>hw.sg y hy)=(fun y hy=>hw.sg y hy):=rfl
 refine run_k (pr 64) P64 (by simp [p64]) rfl ?_
 have hr0:=hr
 obtain ⟨wa,wl,wk,pa,pl,pk,na,nl,nk,xs⟩:=r
 have hW:Ints H wa wl s.widths:=hr.wd
 have hP:Sl H 4 eP pa pl s.pairs:=hr.pr
 have hN:Sl H 3 eW na nl xs:=hr.ws
 have l1:=hW.isLoc wk
 have l2:=hP.isLoc pk
 have l3:=hN.isLoc nk
 simp only at hr0 ⊢
 obtain ⟨H2,hH2⟩:∃H2,H'++[({ obj:=.cells [.slice wa wl wk,.slice pa pl pk,.int .i64 s.other.1,.int .i64 s.other.2,.int .i64 s.gap.1,.int .i64 s.gap.2,.int .i64 s.hyphen,.slice na nl nk,.int .i64 s.wide,.int .i64 s.rows] }:Blk)]=H2:=⟨_,rfl⟩
 have hb:hcells H2 H'.length=some [.slice wa wl wk,.slice pa pl pk,.int .i64 s.other.1,.int .i64 s.other.2,.int .i64 s.gap.1,.int .i64 s.gap.2,.int .i64 s.hyphen,.slice na nl nk,.int .i64 s.wide,.int .i64 s.rows]:=by rw [←hH2]; simp [hcells]
 have hg2:Grow H H2:=by rw [←hH2]; exact hg1 _
 have k1:=c60 (g:=103) (caps:=[.pointer (some ⟨H'.length,0,none⟩)]) (kk:=x.sk) (hS.grow hg2) (by omega) rfl (fun y hy H3 hg3=>c103 (hr0.grow hg2) hf hb y (hw.sg y hy) H3 hg3) _ (Grow.refl _)
 have k2:=c104 (kk:=x.ck) (hC.grow hg2) hcl hcut cl _ (Grow.refl _)
 have hlen:H'.length≤H2.length:=by rw [←hH2]; simp
 simp (maxDischargeDepth:=8) only [↓SD,SU,SV,SW,simprocAttr,Int.cast_ofNat_Int,small,resV, B64,R64,N64,b64, l1,l2,l3,l4,l5,w1,q1,c56,hH2,k1,k2,hlen]
theorem c63 {H:Heap}{r:LeR}{s:Sheet}(hr:LeOk H r s)(hf:Fine s){xb:Nat}(hb:hcells H xb=some [.slice r.wa r.wl r.wk,.slice r.pa r.pl r.pk,.int .i64 s.other.1,.int .i64 s.other.2,.int .i64 s.gap.1,.int .i64 s.gap.2,.int .i64 s.hyphen,.slice r.na r.nl r.nk,.int .i64 s.wide,.int .i64 s.rows]){x:WR}(hx:x∈r.xs) :
  ∀H',Grow H H'→R (.func 63) [.agg #[.slice x.sa x.sl x.sk,.slice x.ca x.cl x.ck,.bool x.w.free],.pointer (some ⟨xb,0,none⟩)] H'=some ⟨.ok (.bool false),H',H'.length⟩:=by
 intro H' hg
 have k:=c64 hr hf hx H' hg
 have l4:=(hr.wt x hx).sg.isLoc x.sk
 have l5:=(hr.wt x hx).ct.isLoc x.ck
 have hb':=hg.hc hb
 refine run_k (pr 63) P63 (by simp [p63]) rfl ?_
 obtain ⟨wa,wl,wk,pa,pl,pk,na,nl,nk,xs⟩:=r
 have hW:Ints H wa wl s.widths:=hr.wd
 have hP:Sl H 4 eP pa pl s.pairs:=hr.pr
 have hN:Sl H 3 eW na nl xs:=hr.ws
 have l1:=hW.isLoc wk
 have l2:=hP.isLoc pk
 have l3:=hN.isLoc nk
 simp only at k hb' ⊢
 simp (maxDischargeDepth:=8) only [↓SD,SU,SV,SW,simprocAttr,Int.cast_ofNat_Int,small,resV, B63,R63,N63,b63, l1,l2,l3,l4,l5,hb',k]
theorem c26 {H:Heap}{r:LeR}{s:Sheet}(hr:LeOk H r s)(hf:Fine s) :
  ∀H',Grow H H'→R (.func 26) [.agg #[.slice r.wa r.wl r.wk,.slice r.pa r.pl r.pk,.int .i64 s.other.1,.int .i64 s.other.2,.int .i64 s.gap.1,.int .i64 s.gap.2,.int .i64 s.hyphen,.slice r.na r.nl r.nk,.int .i64 s.wide,.int .i64 s.rows]] H'=some ⟨.ok (.bool true),H',H'.length⟩:=by
 intro H' hg
 have w6:=hf.w6
 have w1:=hf.w1
 have p6:=hf.p6
 have n1:=hf.n1
 have n4:=hf.n4
 rw [hr.wd.len] at w6 w1
 rw [hr.pr.len] at p6
 rw [hr.len] at n1 n4
 refine run_k (pr 26) P26 (by simp [p26]) rfl ?_
 have hr0:=hr
 obtain ⟨wa,wl,wk,pa,pl,pk,na,nl,nk,xs⟩:=r
 have hW:Ints H wa wl s.widths:=hr.wd
 have hP:Sl H 4 eP pa pl s.pairs:=hr.pr
 have hN:Sl H 3 eW na nl xs:=hr.ws
 have l1:=hW.isLoc wk
 have l2:=hP.isLoc pk
 have l3:=hN.isLoc nk
 simp only at hr0 w6 w1 p6 n1 n4 ⊢
 obtain ⟨H2,hH2⟩:∃H2,H'++[({ obj:=.cells [.slice wa wl wk,.slice pa pl pk,.int .i64 s.other.1,.int .i64 s.other.2,.int .i64 s.gap.1,.int .i64 s.gap.2,.int .i64 s.hyphen,.slice na nl nk,.int .i64 s.wide,.int .i64 s.rows] }:Blk)]=H2:=⟨_,rfl⟩
 have hb:hcells H2 H'.length=some [.slice wa wl wk,.slice pa pl pk,.int .i64 s.other.1,.int .i64 s.other.2,.int .i64 s.gap.1,.int .i64 s.gap.2,.int .i64 s.hyphen,.slice na nl nk,.int .i64 s.wide,.int .i64 s.rows]:=by rw [←hH2]; simp [hcells]
 have hg2:Grow H H2:=hg.trans (by rw [←hH2]; exact (Up.refl _).app.grow)
 have hlen:H'.length≤H2.length:=by rw [←hH2]; simp
 have hmn:min H'.length H2.length=H'.length:=Nat.min_eq_left hlen
 have hr2:=hr0.grow hg2
 have hP2:Sl H2 4 eP pa pl s.pairs:=hP.grow hg2
 have q1:inL (wl:Int) 1 6=true:=inL_t (by omega) (by omega)
 have q2:¬(6:Int) < (pl:Int):=by omega
 have q3:inL (nl:Int) 1 4=true:=inL_t (by omega) (by omega)
 have q4:inL s.other.1 0 9=true:=inL_t (by have:=hf.ot; omega) (by have:=hf.ot; omega)
 have q5:inL s.other.2 s.other.1 9=true:=inL_t (by have:=hf.ot; omega) (by have:=hf.ot; omega)
 have q6:inL s.gap.1 0 20=true:=inL_t (by have:=hf.ga; omega) (by have:=hf.ga; omega)
 have q7:inL s.gap.2 s.gap.1 20=true:=inL_t (by have:=hf.ga; omega) (by have:=hf.ga; omega)
 have q8:inL s.hyphen 1 20=true:=inL_t (by have:=hf.hy; omega) (by have:=hf.hy; omega)
 have q9:inL s.wide 1 400=true:=inL_t (by have:=hf.wi; omega) (by have:=hf.wi; omega)
 have q10:inL s.rows 1 3=true:=inL_t (by have:=hf.ro; omega) (by have:=hf.ro; omega)
 have k1:=c60 (g:=59) (caps:=[]) (kk:=wk) (hW.grow hg2) (by omega) rfl (fun y hy H3 hg3=>by rw [c59,inL_t (hf.wd y hy).1 (hf.wd y hy).2]; rfl) _ (Grow.refl _)
 have k2:=c62 (g:=63) (caps:=[.pointer (some ⟨H'.length,0,none⟩)]) (kk:=nk) (hN.grow hg2) (by omega) rfl (fun y hy H3 hg3=>c63 hr2 hf hb hy H3 hg3) _ (Grow.refl _)
 simp (maxDischargeDepth:=8) only [↓SD,SU,SV,SW,simprocAttr,Int.cast_ofNat_Int,small,resV, B26,R26,N26,b26, l1,l2,l3,q1,q2,q3,c56,hH2,hb,hmn]
 refine loop_ind (G:=(·=_)) (fun j σ=>∃T S,σ=⟨T,S,[],H2,H'.length,89,false⟩∧get T 1=.pointer (some ⟨H'.length,0,none⟩)∧get T 25=.slice pa pl pk∧get T 26=.int .i64 pl∧get T 27=.int .i64 (j:Nat)∧(True)) (pl) ?_ ?_ 0 _ (Nat.zero_le _) ⟨_,_,rfl,rfl,rfl,rfl,rfl,by simp⟩
 ·rintro c' j s hj ⟨T,S,rfl,t1,t25,t26,t27,hp⟩ ih
  obtain ⟨b,off,p,hpa,hpx,e1⟩:=hP2.p4 hj
  have e1:=e1.all H2 (Grow.refl _)
  have ia:=ia_of (kk:=pk) (k:=4) hpa hj
  have hw:=wrap_succ j (by omega)
  have k3:=c57 hr2 hf (mem_drop hpx) H2
  simp only at k3
  by_cases hj0:j=0
  ·have e4:¬(0:Int) < (j:Int):=by omega
   simp (maxDischargeDepth:=8) only [↓SD,SU,SV,SW,simprocAttr,Int.cast_ofNat_Int,small,resV, q26x0,t1,t25,t26,t27, lt_nat,hj,l1,l2,l3,ia,e1,e4,hb,k3,hw,hmn]
   exact ih _ ⟨_,_,rfl,(by simp [get_set,t1] <;> omega),(by simp [get_set,t25] <;> omega),(by simp [get_set,t26] <;> omega),(by simp [get_set,t27] <;> omega),trivial⟩
  ·obtain ⟨j,rfl⟩:∃i,j=i+1:=⟨j - 1,by omega⟩
   obtain ⟨b2,o2,y,hpa',hy,e2⟩:=hP2.p4 (j:=j) (by omega)
   have e2:=e2.all H2 (Grow.refl _)
   rw [hpa] at hpa'
   cases hpa'
   have ia2:=ia_of (kk:=pk) (k:=4) (j:=j) (l:=pl) hpa (by omega)
   have w3:IntKind.wrap .i64 (((j+1:Nat):Int) - 1)=(j:Nat):=by rw [wrap_id _ (by omega) (by omega)]; omega
   have e4:(0:Int) < ((j+1:Nat):Int):=by omega
   have e6:j < pl:=by omega
   have k4:=c58 y p (hf.pb j y p hy hpx) H2
   simp (maxDischargeDepth:=8) only [↓SD,SU,SV,SW,simprocAttr,Int.cast_ofNat_Int,small,resV, q26x0,t1,t25,t26,t27, lt_nat,hj,l1,l2,l3,ia,ia2,e1,e2,e4,e6,w3,hb,k3,k4,hw,hmn]
   exact ih _ ⟨_,_,rfl,(by simp [get_set,t1] <;> omega),(by simp [get_set,t25] <;> omega),(by simp [get_set,t26] <;> omega),(by simp [get_set,t27] <;> omega),trivial⟩
 ·rintro c' s ⟨T,S,rfl,t1,t25,t26,t27,hp⟩
  simp (maxDischargeDepth:=8) only [↓SD,SU,SV,SW,simprocAttr,Int.cast_ofNat_Int,small,resV, q26x0,t1,t25,t26,t27, lt_nat,Nat.lt_irrefl,l1,l2,l3,hb,k1,k2,q1,q2,q3,q4,q5,q6,q7,q8,q9,q10,c56,c61,R26,N26,hlen,hmn]
end Go.Pi.L.Top
