/- How the small language's states stand for the model's: the relations, and what keeps them. -/
import Derived.Laws.StructEq
import Derived.Laws.Small
import Derived.Laws.Entries
import Derived.Laws.Strings
import Derived.Laws.Slices
import Derived.Laws.Build
import Derived.Test.YtjgmlngcknehhaaGreatPiA
set_option linter.all false
namespace Go.Pi
open Go

structure Slot where
 b:Nat
 o:Nat
 siz:Nat
 top:Nat

abbrev Map:=Nat→Option Slot
abbrev LMap:=Nat→Nat→Option Nat

inductive VR (φ:Map):Value→Value→Prop
 | junk (v:Value):VR φ junk v
 | bool (b:Bool):VR φ (.bool b) (.bool b)
 | int (k:IntKind) (n:Int):VR φ (.int k n) (.int k n)
 | str (s:ByteArray):VR φ (.string s) (.string s)
 | ptr0:VR φ (.pointer none) (.pointer none)
 | ptr (i off:Nat) (s:Slot):φ i=some s→VR φ (.pointer (some ⟨i,off,none⟩)) (.pointer (some ⟨s.b,s.o+off,none⟩))
 | sl0:VR φ (.slice none 0 0) (.slice none 0 0)
 | sl (i off l m:Nat) (a:Addr) (c:Nat):l≤c→(0 < l∨0 < m→∃s,φ i=some s∧a=⟨s.b,s.o+off,none⟩∧(0 < m→off+c*m≤s.top)) →
   VR φ (.slice (some ⟨i,off,none⟩) l m) (.slice (some a) l c)
 | map0:VR φ (.map none) (.map none)
 | map (i:Nat) (s:Slot):φ i=some s→VR φ (.map (some i)) (.map (some s.b))
 | func (f:FuncId) (a a' c c':Array Value):a.size=a'.size→(∀(j:Nat) x y,a[j]?=some x→a'[j]?=some y→VR φ x y) →
   c.size=c'.size→(∀(j:Nat) x y,c[j]?=some x→c'[j]?=some y→VR φ x y)→VR φ (.func (.func f) a c) (.func (.func f) a' c')
 | meth (name:String) (t:TypeId) (y:Value):VR φ (.func (.method name) #[.iface t junk] #[]) (.func (.method name) #[.iface t y] #[])
 | yield (l:Nat) (s:Slot):φ l=some s→VR φ (.func (.yield l) #[] #[]) (.func (.yield s.b) #[] #[])
 | nilF:VR φ .nilFunc .nilFunc
 | nilI:VR φ .nilIface .nilIface
 | iface (t:TypeId) (x y:Value):VR φ x y→VR φ (.iface t x) (.iface t y)
 | agg (a a':Array Value):a.size=a'.size→(∀(j:Nat) x y,a[j]?=some x→a'[j]?=some y→VR φ x y)→VR φ (.agg a) (.agg a')
 | tuple (a a':Array Value):a.size=a'.size→(∀(j:Nat) x y,a[j]?=some x→a'[j]?=some y→VR φ x y)→VR φ (.tuple a) (.tuple a')

def VRs (φ:Map)(xs ys:List Value):Prop:=xs.length=ys.length∧∀(j:Nat) x y,xs[j]?=some x→ys[j]?=some y→VR φ x y

theorem VR.mono {φ φ':Map}(h:∀i s,φ i=some s→φ' i=some s){v v':Value}(hv:VR φ v v'):VR φ' v v':=by
 induction hv with
 | junk v=>exact .junk v
 | bool b=>exact .bool b
 | int k n=>exact .int k n
 | str s=>exact .str s
 | ptr0=>exact .ptr0
 | ptr i off s hs=>exact .ptr i off s (h _ _ hs)
 | sl0=>exact .sl0
 | sl i off l m a c hl hs=>exact .sl i off l m a c hl fun hp=>let ⟨s,h1,h2⟩:=hs hp; ⟨s,h _ _ h1,h2⟩
 | map0=>exact .map0
 | map i s hs=>exact .map i s (h _ _ hs)
 | func f a a' c c' h1 _ h3 _ ih1 ih2=>exact .func f a a' c c' h1 ih1 h3 ih2
 | meth name t y=>exact .meth name t y
 | yield l s hs=>exact .yield l s (h _ _ hs)
 | nilF=>exact .nilF
 | nilI=>exact .nilI
 | iface t x y _ ih=>exact .iface t x y ih
 | agg a a' h1 _ ih=>exact .agg a a' h1 ih
 | tuple a a' h1 _ ih=>exact .tuple a a' h1 ih

theorem VRs.mono {φ φ':Map}(h:∀i s,φ i=some s→φ' i=some s){xs ys:List Value}(hv:VRs φ xs ys):VRs φ' xs ys :=
 ⟨hv.1,fun j x y hx hy=>(hv.2 j x y hx hy).mono h⟩

theorem VR.back {φ φ':Map}(h:∀i s,φ i=some s→φ' i=some s){x y:Value}(hx:VR φ x y):∀{z:Value},VR φ' x z→VR φ x z:=by
 have key:∀{i s s'},φ i=some s→φ' i=some s'→s=s':=fun h1 h2=>by have:=h _ _ h1; rw [h2] at this; exact (Option.some.inj this).symm
 induction hx with
 | junk v=>intro z _; exact .junk z
 | bool b=>intro z hz; cases hz; exact .bool b
 | int k n=>intro z hz; cases hz; exact .int k n
 | str s=>intro z hz; cases hz; exact .str s
 | ptr0=>intro z hz; cases hz; exact .ptr0
 | ptr i off s hs=>intro z hz; cases hz with | ptr _ _ s' hs'=>obtain rfl:=key hs hs'; exact .ptr i off s hs
 | sl0=>intro z hz; cases hz; exact .sl0
 | sl i off l m a c hl hs =>
  intro z hz
  cases hz with
  | sl _ _ _ _ a' c' hl' hs' =>
   refine .sl i off l m a' c' hl' fun hp=>?_
   obtain ⟨s,h1,_,_⟩:=hs hp
   obtain ⟨s',h2,h3⟩:=hs' hp
   obtain rfl:=key h1 h2
   exact ⟨s,h1,h3⟩
 | map0=>intro z hz; cases hz; exact .map0
 | map i s hs=>intro z hz; cases hz with | map _ s' hs'=>obtain rfl:=key hs hs'; exact .map i s hs
 | func f a a' c c' h1 _ h3 _ ih1 ih2 =>
  intro z hz
  cases hz with
  | func _ _ b _ d g1 g2 g3 g4 =>
   refine .func f a b c d g1 (fun j x y hx hy=>?_) g3 (fun j x y hx hy=>?_)
   ·have hj:j < a'.size:=h1 ▸ (Array.getElem?_eq_some_iff.1 hx).1
    exact ih1 j x _ hx (Array.getElem?_eq_getElem hj) (g2 j x y hx hy)
   ·have hj:j < c'.size:=h3 ▸ (Array.getElem?_eq_some_iff.1 hx).1
    exact ih2 j x _ hx (Array.getElem?_eq_getElem hj) (g4 j x y hx hy)
 | meth name t y=>intro z hz; cases hz with | meth _ _ y'=>exact .meth name t y'
 | yield l s hs=>intro z hz; cases hz with | yield _ s' hs'=>obtain rfl:=key hs hs'; exact .yield l s hs
 | nilF=>intro z hz; cases hz; exact .nilF
 | nilI=>intro z hz; cases hz; exact .nilI
 | iface t x y _ ih=>intro z hz; cases hz with | iface _ _ y' hy'=>exact .iface t x y' (ih hy')
 | agg a a' h1 _ ih =>
  intro z hz
  cases hz with
  | agg _ b g1 g2 =>
   refine .agg a b g1 fun j x y hx hy=>?_
   have hj:j < a'.size:=h1 ▸ (Array.getElem?_eq_some_iff.1 hx).1
   exact ih j x _ hx (Array.getElem?_eq_getElem hj) (g2 j x y hx hy)
 | tuple a a' h1 _ ih =>
  intro z hz
  cases hz with
  | tuple _ b g1 g2 =>
   refine .tuple a b g1 fun j x y hx hy=>?_
   have hj:j < a'.size:=h1 ▸ (Array.getElem?_eq_some_iff.1 hx).1
   exact ih j x _ hx (Array.getElem?_eq_getElem hj) (g2 j x y hx hy)

theorem flat_eq {φ φ':Map}:∀(n:Nat) {v v':Value},flat n v=true→VR φ v v'→v'=v∧VR φ' v v':=by
 intro n
 induction n with
 | zero=>intro v v' h; simp [flat] at h
 | succ n ih =>
  intro v v' h hv
  have arr:∀(a a':Array Value),a.size=a'.size→(∀(j:Nat) x y,a[j]?=some x→a'[j]?=some y→VR φ x y)→a.toList.all (flat n)=true →
    a'=a∧∀(j:Nat) x y,a[j]?=some x→a'[j]?=some y→VR φ' x y:=by
   intro a a' h1 h2 h3
   have h4:∀x∈a,flat n x=true:=fun x hx=>List.all_eq_true.1 h3 x (Array.mem_toList_iff.2 hx)
   have h5:∀(j:Nat) x y,a[j]?=some x→a'[j]?=some y→y=x∧VR φ' x y:=fun j x y hx hy=>ih (h4 x (Array.mem_of_getElem? hx)) (h2 j x y hx hy)
   refine ⟨Array.ext h1.symm fun j hj hj'=>?_,fun j x y hx hy=>(h5 j x y hx hy).2⟩
   exact (h5 j a[j] a'[j] (Array.getElem?_eq_getElem hj') (Array.getElem?_eq_getElem hj)).1
  cases hv with
  | junk v=>simp [flat,junk] at h
  | bool b=>exact ⟨rfl,.bool b⟩
  | int k n=>exact ⟨rfl,.int k n⟩
  | str s=>exact ⟨rfl,.str s⟩
  | ptr0=>exact ⟨rfl,.ptr0⟩
  | ptr i off s hs=>simp [flat] at h
  | sl0=>exact ⟨rfl,.sl0⟩
  | sl i off l m a c hl hs=>simp [flat] at h
  | map0=>exact ⟨rfl,.map0⟩
  | map i s hs=>simp [flat] at h
  | func f a a' c c' h1 h2 h3 h4=>simp [flat] at h
  | meth name t y=>simp [flat] at h
  | yield l s hs=>simp [flat] at h
  | nilF=>exact ⟨rfl,.nilF⟩
  | nilI=>exact ⟨rfl,.nilI⟩
  | iface t x y hxy=>obtain ⟨rfl,h2⟩:=ih (by simpa [flat] using h) hxy; exact ⟨rfl,.iface t _ _ h2⟩
  | agg a a' h1 h2=>obtain ⟨rfl,h3⟩:=arr a a' h1 h2 (by simpa [flat] using h); exact ⟨rfl,.agg _ _ rfl h3⟩
  | tuple a a' h1 h2=>obtain ⟨rfl,h3⟩:=arr a a' h1 h2 (by simpa [flat] using h); exact ⟨rfl,.tuple _ _ rfl h3⟩

@[simp] theorem get_nil (e:Nat):get [] e=undef:=by cases e <;> rfl

@[simp] theorem sget_nil (e:Nat):sget [] e=(0,.cells []):=by cases e <;> rfl

@[simp] theorem get_set_same (T:List Value)(d:Nat)(v:Value):get (set T d v) d=v:=by
 induction d generalizing T with
 | zero=>cases T <;> rfl
 | succ d ih=>cases T <;> simp [set,get,ih]

theorem get_set_ne (T:List Value){d e:Nat}(v:Value)(h:e≠d):get (set T d v) e=get T e:=by
 induction d generalizing T e with
 | zero =>
  cases e with
  | zero=>exact absurd rfl h
  | succ e=>cases T <;> simp [set,get]
 | succ d ih =>
  cases e with
  | zero=>cases T <;> simp [set,get]
  | succ e =>
   have h':e≠d:=fun x=>h (by rw [x])
   cases T with
   | nil=>simp [set,get,ih [] h']
   | cons x t=>simp [set,get,ih t h']

theorem get_set (T:List Value)(d e:Nat)(v:Value):get (set T d v) e=if e=d then v else get T e:=by
 by_cases h:e=d
 ·subst h; simp
 ·simp [h,get_set_ne T v h]

theorem sget_sset (S:List (Nat×PObj))(d e:Nat)(v:Nat×PObj):sget (sset S d v) e=if e=d then v else sget S e:=by
 induction d generalizing S e with
 | zero =>
  cases e with
  | zero=>cases S <;> rfl
  | succ e=>cases S <;> simp [sset,sget]
 | succ d ih =>
  cases e with
  | zero=>cases S <;> simp [sset,sget]
  | succ e=>cases S with
   | nil=>simp [sset,sget,ih []]
   | cons x t=>simp [sset,sget,ih t]

theorem get_getElem? (T:List Value)(d:Nat):get T d=(T[d]?).getD undef:=by
 induction d generalizing T with
 | zero=>cases T <;> rfl
 | succ d ih=>cases T <;> simp [get,ih]

end Go.Pi
namespace Go.Pi
open Go

def ExC:Option Ex→Option Code→Prop
 | none,none=>True
 | some .ret,some .ret=>True
 | some (.exit i),some (.exit j)=>i=j
 | _,_=>False

inductive ObjR (P:Program)(φ:Map):PObj→Slot→Obj→Prop
 | cells (c:List Value) (s:Slot) (cs:Array Value) (e:TypeId) (fr:Nat×Nat):s.siz=c.length→s.siz≤s.top→s.o+s.top≤cs.size →
   c.all one=true→(∀(j:Nat) x,c[j]?=some x→∃y,cs[s.o+j]?=some y∧VR φ x y)→ObjR P φ (.cells c) s (.cells cs e fr)
 | map (sh:Shape) (es:List (Value×Value)) (s:Slot) (en:Array MapEntry) (clock:Nat):es.length=en.size →
   (∀(j:Nat) k v e,es[j]?=some (k,v)→en[j]?=some e→e.key=k∧sh.has k=true∧VR φ v e.val)→ObjR P φ (.map sh es) s (.map en clock)
 | iter (b:ByteArray) (pos:Nat) (s:Slot):s.o=0→ObjR P φ (.iter b pos) s (.stringIter b pos)
 | dfr0 (s:Slot):ObjR P φ (.dfr false) s (.deferred (some []))
 | dfr1 (s:Slot):ObjR P φ (.dfr true) s (.deferred none)
 | loop (n:Nat) (T:List Value) (params:List Tmp) (as bd:PCode) (d:Nat) (st:LoopState) (pend:Option Ex) (s:Slot) (l:Loop) (L:List Tmp) (sd:Slot) :
   l.tmps.size=n→(∀t,VR φ (get T t) (l.tmps.getD t undef))→l.params.toList=params→compC P L l.assign=some as→compC P L l.body=some bd →
   φ d=some sd→l.defers=sd.b→l.state=st→ExC pend l.pending→ObjR P φ (.loop n T params as bd d st pend) s (.loop l)

theorem ObjR.mono {P:Program}{φ φ':Map}(h:∀i s,φ i=some s→φ' i=some s){o:PObj}{s:Slot}{ob:Obj}(ho:ObjR P φ o s ob):ObjR P φ' o s ob:=by
 cases ho with
 | cells c s cs e fr h1 h2 h3 h4 h5=>exact .cells c s cs e fr h1 h2 h3 h4 fun j x hx=>let ⟨y,hy,hv⟩:=h5 j x hx; ⟨y,hy,hv.mono h⟩
 | map sh es s en clock h1 h2=>exact .map sh es s en clock h1 fun j k v e hk he=>let ⟨a,b,c⟩:=h2 j k v e hk he; ⟨a,b,c.mono h⟩
 | iter b pos s h1=>exact .iter b pos s h1
 | dfr0 s=>exact .dfr0 s
 | dfr1 s=>exact .dfr1 s
 | loop n T params as bd d st pend s l L sd h2 h3 h4 h5 h6 h7 h8 h9 h10 =>
  exact .loop n T params as bd d st pend s l L sd h2 (fun t=>(h3 t).mono h) h4 h5 h6 (h _ _ h7) h8 h9 h10

theorem ObjR.back {P:Program}{φ φ':Map}(h:∀i s,φ i=some s→φ' i=some s){o:PObj}{s s':Slot}{ob ob':Obj}(h0:ObjR P φ o s' ob')(ho:ObjR P φ' o s ob):ObjR P φ o s ob:=by
 cases ho with
 | cells c s cs e fr h1 h2 h3 h4 h5 =>
  cases h0 with
  | cells _ _ cs' e' fr' g1 g2 g3 g4 g5 =>
   refine .cells c s cs e fr h1 h2 h3 h4 fun j x hx=>?_
   obtain ⟨y,hy,hv⟩:=h5 j x hx
   obtain ⟨y',_,hv'⟩:=g5 j x hx
   exact ⟨y,hy,hv'.back h hv⟩
 | map sh es s en clock h1 h2 =>
  cases h0 with
  | map _ _ _ en' clock' g1 g2 =>
   refine .map sh es s en clock h1 fun j k v e hk he=>?_
   obtain ⟨a,b,c⟩:=h2 j k v e hk he
   have hj:j < en'.size:=g1 ▸ (List.getElem?_eq_some_iff.1 hk).1
   obtain ⟨_,_,c'⟩:=g2 j k v _ hk (Array.getElem?_eq_getElem hj)
   exact ⟨a,b,c'.back h c⟩
 | iter b pos s h1=>exact .iter b pos s h1
 | dfr0 s=>exact .dfr0 s
 | dfr1 s=>exact .dfr1 s
 | loop n T params as bd d st pend s l L sd h2 h3 h4 h5 h6 h7 h8 h9 h10 =>
  cases h0 with
  | loop _ _ _ _ _ _ _ _ _ l' L' sd' g2 g3 g4 g5 g6 g7 g8 g9 g10 =>
   have hs:sd'=sd:=by have:=h _ _ g7; rw [h7] at this; exact (Option.some.inj this).symm
   exact .loop n T params as bd d st pend s l L sd h2 (fun t=>(g3 t).back h (h3 t)) h4 h5 h6 (hs ▸ g7) h8 h9 h10

def tabV:Array Value:=((List.range 20).map fun i=>Value.int .u64 ((10 ^ i:Nat):Int)).toArray
def TabOk (P:Program)(B:Nat)(w:World):Prop:=∀g,P.globalNamed "internal/strconv.uint64pow10" = some g→g < B→∃e f,w.heap[g]?=some (.cells tabV e f)
theorem TabOk.step {P:Program}{B:Nat}{w w':World}(h:TabOk P B w)(hw:∀b,b < B→b < w.heap.size→w'.heap[b]?=w.heap[b]?):TabOk P B w':=fun g hg hb=>by
 obtain ⟨e,f,h1⟩:=h g hg hb
 exact ⟨e,f,by rw [hw g hb (Array.getElem?_eq_some_iff.1 h1).1]; exact h1⟩

structure Emb (P:Program)(B:Nat)(φ:Map)(H:Heap)(w:World):Prop where
 inb:∀i s,φ i=some s→i < H.length∧s.b < w.heap.size
 obj:∀i s blk,φ i=some s→H[i]?=some blk→blk.ok=true→∃o,w.heap[s.b]?=some o∧ObjR P φ blk.obj s o
 own:∀i s blk,φ i=some s→H[i]?=some blk→(blk.tip=true∨blk.fam≠none)→B≤s.b
 unf:∀i s blk,φ i=some s→H[i]?=some blk→(blk.tip=true∨blk.fam≠none)→∀j,j < s.top→w.frozen? ⟨s.b,s.o+j,none⟩=false
 tipok:∀(i:Nat) blk,H[i]?=some blk→blk.tip=true→blk.ok=true
 sep:∀i k si sk bi bk,i≠k→φ i=some si→φ k=some sk→H[i]?=some bi→H[k]?=some bk→bi.tip=true→bk.ok=true→si.b=sk.b →
  bk.tip=false∧bk.fam=bi.fam∧bi.fam≠none∧sk.o+sk.siz≤si.o+si.siz
 fam:∀(i:Nat) b f,H[i]?=some b→b.fam=some f→f≤i
 tab:TabOk P B w

structure Ext (B:Nat)(φ:Map)(H:Heap)(w:World)(φ':Map)(H':Heap)(w':World):Prop where
 len:H.length≤H'.length
 map:∀i,i < H.length→φ' i=φ i
 new:∀i s,H.length≤i→φ' i=some s→w.heap.size≤s.b∨∃k sk,φ k=some sk∧sk.b=s.b
 size:w.heap.size≤w'.heap.size
 frame:∀b,b < w.heap.size→(∀i s,φ i=some s→s.b=b→b < B)→w'.heap[b]?=w.heap[b]?
 out:w'.os=w.os∧w'.output=w.output

theorem Ext.refl {P:Program}{B:Nat}{φ:Map}{H:Heap}{w:World}(h:Emb P B φ H w):Ext B φ H w φ H w :=
 ⟨Nat.le_refl _,fun _ _=>rfl,fun i s hi hs=>absurd (h.inb i s hs).1 (by omega),Nat.le_refl _,fun _ _ _=>rfl,rfl,rfl⟩

theorem Ext.trans {B:Nat}{φ φ1 φ2:Map}{H H1 H2:Heap}{w w1 w2:World}(h:Ext B φ H w φ1 H1 w1)(h':Ext B φ1 H1 w1 φ2 H2 w2)(hφ:∀i s,φ i=some s→i < H.length)(hφ1:∀i s,φ1 i=some s→i < H1.length) :
  Ext B φ H w φ2 H2 w2:=by
 refine ⟨Nat.le_trans h.len h'.len,fun i hi=>?_,fun i s hi hs=>?_,Nat.le_trans h.size h'.size,fun b hb hn=>?_,h'.out.1.trans h.out.1,h'.out.2.trans h.out.2⟩
 ·rw [h'.map i (Nat.lt_of_lt_of_le hi h.len),h.map i hi]
 ·have old:∀k sk,φ1 k=some sk→sk.b=s.b→w.heap.size≤s.b∨∃k sk,φ k=some sk∧sk.b=s.b:=by
   intro k sk hk hsk
   rcases Nat.lt_or_ge k H.length with hlt | hge
   ·rw [h.map k hlt] at hk; exact .inr ⟨k,sk,hk,hsk⟩
   ·rcases h.new k sk hge hk with h1 | ⟨k',sk',h1,h2⟩
    ·exact .inl (by omega)
    ·exact .inr ⟨k',sk',h1,by omega⟩
  rcases Nat.lt_or_ge i H1.length with hlt | hge
  ·rw [h'.map i hlt] at hs; exact old i s hs rfl
  ·rcases h'.new i s hge hs with h1 | ⟨k,sk,h1,h2⟩
   ·exact .inl (Nat.le_trans h.size h1)
   ·exact old k sk h1 h2
 ·rw [h'.frame b (Nat.lt_of_lt_of_le hb h.size) fun i s hs hsb=>?_,h.frame b hb hn]
  rcases Nat.lt_or_ge i H.length with hlt | hge
  ·rw [h.map i hlt] at hs; exact hn i s hs hsb
  ·rcases h.new i s hge hs with h1 | ⟨k',sk',h1,h2⟩
   ·omega
   ·exact hn k' sk' h1 (by omega)

theorem Ext.sub {B:Nat}{φ φ':Map}{H H':Heap}{w w':World}(h:Ext B φ H w φ' H' w')(hφ:∀i s,φ i=some s→i < H.length):∀i s,φ i=some s→φ' i=some s :=
 fun i s hs=>by rw [h.map i (hφ i s hs)]; exact hs

section
variable {P:Program} {B:Nat} {φ:Map} {H:Heap} {w:World}

theorem frozen_congr {w w':World}{a:Addr}(h:w'.heap[a.block]?=w.heap[a.block]?):w'.frozen? a=w.frozen? a:=by simp only [World.frozen?,h]

theorem Emb.world (h:Emb P B φ H w){w':World}(hs:w.heap.size≤w'.heap.size)(hw:∀i s,φ i=some s→w'.heap[s.b]?=w.heap[s.b]?)(ht:∀b,b < B→b < w.heap.size→w'.heap[b]?=w.heap[b]?):Emb P B φ H w' :=
 ⟨fun i s hi=>⟨(h.inb i s hi).1,Nat.lt_of_lt_of_le (h.inb i s hi).2 hs⟩,fun i s blk hi hb ho=>by rw [hw i s hi]; exact h.obj i s blk hi hb ho,h.own,
  fun i s blk hi hb ht j hj=>by rw [frozen_congr (hw i s hi)]; exact h.unf i s blk hi hb ht j hj,h.tipok,h.sep,h.fam,h.tab.step ht⟩

theorem Emb.hole (h:Emb P B φ H w)(blk:Blk)(hb:blk.tip=true→blk.ok=true)(hfm:∀f,blk.fam=some f→f≤H.length:=by intro f h; cases h):Emb P B φ (H++[blk]) w:=by
 have old:∀i s,φ i=some s→∀b,(H++[blk])[i]?=some b→H[i]?=some b:=fun i s hi b hb=>by
  rw [List.getElem?_append_left (h.inb i s hi).1] at hb; exact hb
 refine ⟨fun i s hi=>⟨?_,(h.inb i s hi).2⟩,fun i s b hi hb ho=>h.obj i s b hi (old i s hi b hb) ho,fun i s b hi hb=>h.own i s b hi (old i s hi b hb),
  fun i s b hi hb=>h.unf i s b hi (old i s hi b hb),fun i b hi ht=>?_,fun i k si sk bi bk hne hi hk hbi hbk=>h.sep i k si sk bi bk hne hi hk (old i si hi _ hbi) (old k sk hk _ hbk),fun i b f hi hf=>?_,h.tab⟩
 ·have:=(h.inb i s hi).1; simp; omega
 ·rcases Nat.lt_or_ge i H.length with hlt | hge
  ·rw [List.getElem?_append_left hlt] at hi; exact h.tipok i b hi ht
  ·rw [List.getElem?_append_right hge] at hi
   have:i - H.length=0:=by
    have:=(List.getElem?_eq_some_iff.1 hi).1; simp at this; omega
   rw [this] at hi; simp at hi; subst hi; exact hb ht
 ·rcases Nat.lt_or_ge i H.length with hlt | hge
  ·rw [List.getElem?_append_left hlt] at hi; exact h.fam i b f hi hf
  ·rw [List.getElem?_append_right hge] at hi
   have:i - H.length=0:=by
    have:=(List.getElem?_eq_some_iff.1 hi).1; simp at this; omega
   rw [this] at hi; simp at hi; subst hi; exact Nat.le_trans (hfm f hf) hge

theorem Emb.holes (h:Emb P B φ H w):∀(l:List Blk),(∀b∈l,b.tip=true→b.ok=true)→(∀b∈l,b.fam=none)→Emb P B φ (H++l) w:=by
 intro l
 induction l generalizing H with
 | nil=>intro _ _; simpa using h
 | cons b l ih =>
  intro hl hf
  have:=ih (h.hole b (hl b (by simp)) fun f h=>by rw [hf b (by simp)] at h; cases h) (fun x hx=>hl x (by simp [hx])) fun x hx=>hf x (by simp [hx])
  simpa using this

def upd (φ:Map)(i:Nat)(s:Slot):Map:=fun k=>if k=i then some s else φ k

theorem upd_sub {φ:Map}{i:Nat}{s:Slot}(h:φ i=none):∀k t,φ k=some t→upd φ i s k=some t:=by
 intro k t hk
 have:k≠i:=fun e=>by rw [e,h] at hk; cases hk
 simp [upd,this,hk]

theorem Emb.fill (h:Emb P B φ H w){i:Nat}{blk:Blk}{ob:Obj}{siz top:Nat}{w':World}(hφ:φ i=none)(hi:H[i]?=some blk)(hw:w'.heap=w.heap.push ob)(hB:B≤w.heap.size)
  (ho:blk.ok=true→ObjR P (upd φ i ⟨w.heap.size,0,siz,top⟩) blk.obj ⟨w.heap.size,0,siz,top⟩ ob) (hf:∀j,j < top→w'.frozen? ⟨w.heap.size,j,none⟩=false) :
  Emb P B (upd φ i ⟨w.heap.size,0,siz,top⟩) H w':=by
 have hsub:=upd_sub (s:=⟨w.heap.size,0,siz,top⟩) hφ
 have hold:∀b,b < w.heap.size→w'.heap[b]?=w.heap[b]?:=fun b hb=>by rw [hw,Array.getElem?_push_lt hb,Array.getElem?_eq_getElem hb]
 have hnew:w'.heap[w.heap.size]?=some ob:=by rw [hw]; simp
 have cases':∀k s,upd φ i ⟨w.heap.size,0,siz,top⟩ k=some s→(k=i∧s=⟨w.heap.size,0,siz,top⟩)∨(k≠i∧φ k=some s):=by
  intro k s hk
  unfold upd at hk
  split at hk
  ·exact .inl ⟨by assumption,(Option.some.inj hk).symm⟩
  ·exact .inr ⟨by assumption,hk⟩
 refine ⟨fun k s hk=>?_,fun k s b hk hb hok=>?_,fun k s b hk hb ht=>?_,fun k s b hk hb ht j hj=>?_,h.tipok,fun a k sa sk ba bk hne ha hk hba hbk hta hok hsb=>?_,h.fam,h.tab.step fun b _ hb=>hold b hb⟩
 ·rcases cases' k s hk with ⟨rfl,rfl⟩ | ⟨_,hk⟩
  ·exact ⟨(List.getElem?_eq_some_iff.1 hi).1,by simp [hw]⟩
  ·exact ⟨(h.inb k s hk).1,by have:=(h.inb k s hk).2; simp [hw]; omega⟩
 ·rcases cases' k s hk with ⟨rfl,rfl⟩ | ⟨_,hk⟩
  ·rw [hi] at hb; cases hb
   exact ⟨ob,hnew,ho hok⟩
  ·obtain ⟨o,h1,h2⟩:=h.obj k s b hk hb hok
   exact ⟨o,by rw [hold _ (h.inb k s hk).2]; exact h1,h2.mono hsub⟩
 ·rcases cases' k s hk with ⟨rfl,rfl⟩ | ⟨_,hk⟩
  ·exact hB
  ·exact h.own k s b hk hb ht
 ·rcases cases' k s hk with ⟨rfl,rfl⟩ | ⟨_,hk⟩
  ·simpa using hf j hj
  ·rw [frozen_congr (hold _ (h.inb k s hk).2)]; exact h.unf k s b hk hb ht j hj
 ·rcases cases' a sa ha with ⟨ha1,ha2⟩ | ⟨_,ha'⟩
  ·rcases cases' k sk hk with ⟨hk1,hk2⟩ | ⟨_,hk'⟩
   ·exact absurd (ha1.trans hk1.symm) hne
   ·have:=(h.inb k sk hk').2
    subst ha2
    simp at hsb; omega
  ·rcases cases' k sk hk with ⟨hk1,hk2⟩ | ⟨_,hk'⟩
   ·have:=(h.inb a sa ha').2
    subst hk2
    simp at hsb; omega
   ·exact h.sep a k sa sk ba bk hne ha' hk' hba hbk hta hok hsb

theorem kill_length (f:Nat)(H:Heap):(kill f H).length=H.length:=by simp [kill]

theorem kill_get (f:Nat)(H:Heap)(i:Nat):(kill f H)[i]?=(H[i]?).map fun b=>if b.fam=some f∧b.tip=false then { b with ok:=false } else b:=by simp [kill]

theorem Emb.weak (h:Emb P B φ H w){H':Heap}(hl:H'.length=H.length)
  (hb:∀(i:Nat) b',H'[i]?=some b'→∃b,H[i]?=some b∧b'.obj=b.obj∧b'.fam=b.fam∧(b'.ok=true→b.ok=true)∧(b'.tip=true→b.tip=true)∧(b'.tip=true→b'.ok=true)):Emb P B φ H' w:=by
 refine ⟨fun i s hi=>⟨by rw [hl]; exact (h.inb i s hi).1,(h.inb i s hi).2⟩,fun i s b hi hg ho=>?_,fun i s b hi hg ht=>?_,fun i s b hi hg ht=>?_,fun i b hg ht=>?_,fun i k si sk bi bk hne hi hk hbi hbk hti hok hsb=>?_,fun i b f hg hf=>?_,h.tab⟩
 ·obtain ⟨b0,h1,h2,h3,h4,h5,h6⟩:=hb i b hg
  rw [h2]; exact h.obj i s b0 hi h1 (h4 ho)
 ·obtain ⟨b0,h1,h2,h3,h4,h5,h6⟩:=hb i b hg
  exact h.own i s b0 hi h1 (by rw [h3] at ht; exact ht.imp h5 id)
 ·obtain ⟨b0,h1,h2,h3,h4,h5,h6⟩:=hb i b hg
  exact h.unf i s b0 hi h1 (by rw [h3] at ht; exact ht.imp h5 id)
 ·obtain ⟨b0,h1,h2,h3,h4,h5,h6⟩:=hb i b hg
  exact h6 ht
 ·obtain ⟨b0,h1,h2,h3,h4,h5,h6⟩:=hb i bi hbi
  obtain ⟨b1,g1,g2,g3,g4,g5,g6⟩:=hb k bk hbk
  obtain ⟨a1,a2,a3,a4⟩:=h.sep i k si sk b0 b1 hne hi hk h1 g1 (h5 hti) (g4 hok) hsb
  refine ⟨?_,by rw [g3,h3]; exact a2,by rw [h3]; exact a3,a4⟩
  cases htk:bk.tip with
  | false=>rfl
  | true=>rw [g5 htk] at a1; cases a1
 ·obtain ⟨b0,h1,h2,h3,h4,h5,h6⟩:=hb i b hg
  exact h.fam i b0 f h1 (h3 ▸ hf)

theorem Emb.kill (h:Emb P B φ H w)(f:Nat):Emb P B φ (kill f H) w:=by
 refine h.weak (kill_length f H) fun i b' hb=>?_
 rw [kill_get] at hb
 cases hi:H[i]? with
 | none=>rw [hi] at hb; cases hb
 | some b =>
  rw [hi] at hb
  simp only [Option.map_some,Option.some.injEq] at hb
  refine ⟨b,rfl,?_⟩
  subst hb
  split
  ·rename_i hc; exact ⟨rfl,rfl,by simp,by simp [hc.2],by simp [hc.2]⟩
  ·exact ⟨rfl,rfl,id,id,h.tipok i b hi⟩

theorem Emb.put (h:Emb P B φ H w){i:Nat}{s:Slot}{b0 b1:Blk}{ob:Obj}{w':World}(hφ:φ i=some s)(hi:H[i]?=some b0)(ht:b0.tip=true)(hal:∀k sk bk,k≠i→φ k=some sk→H[k]?=some bk→bk.ok=true→sk.b≠s.b)
  (hf:b1.fam=b0.fam) (hto:b1.tip=true→b1.ok=true) (hw:w'.heap=w.heap.setIfInBounds s.b ob) (ho:ObjR P φ b1.obj s ob) (hfr:∀a,w'.frozen? a=w.frozen? a) :
  Emb P B φ (H.set i b1) w':=by
 have hlt:=(List.getElem?_eq_some_iff.1 hi).1
 have hsz:=(h.inb i s hφ).2
 have hg:∀(k:Nat) b,(H.set i b1)[k]?=some b→(k=i∧b=b1)∨(k≠i∧H[k]?=some b):=by
  intro k b hk
  by_cases hki:k=i
  ·subst hki; rw [List.getElem?_set_self hlt] at hk; exact .inl ⟨rfl,(Option.some.inj hk).symm⟩
  ·rw [List.getElem?_set_ne (Ne.symm hki)] at hk; exact .inr ⟨hki,hk⟩
 have hnew:w'.heap[s.b]?=some ob:=by rw [hw]; simp [hsz]
 have hold:∀b,b≠s.b→w'.heap[b]?=w.heap[b]?:=fun b hb=>by rw [hw,Array.getElem?_setIfInBounds_ne (Ne.symm hb)]
 have hss:w'.heap.size=w.heap.size:=by rw [hw]; simp
 refine ⟨fun k t hk=>⟨by rw [List.length_set]; exact (h.inb k t hk).1,by rw [hss]; exact (h.inb k t hk).2⟩,fun k t b hk hb hok=>?_,fun k t b hk hb htk=>?_,fun k t b hk hb htk j hj=>?_,fun k b hb htk=>?_,
  fun a k sa sk ba bk hne ha hk hba hbk hta hok hsb=>?_,fun k b f hb hfm=>?_,h.tab.step fun b hb _=>hold b (by have:=h.own i s b0 hφ hi (.inl ht); omega)⟩
 ·rcases hg k b hb with ⟨rfl,rfl⟩ | ⟨hne,hb⟩
  ·rw [hφ] at hk; cases hk; exact ⟨ob,hnew,ho⟩
  ·rw [hold _ (hal k t b hne hk hb hok)]; exact h.obj k t b hk hb hok
 ·rcases hg k b hb with ⟨rfl,rfl⟩ | ⟨hne,hb⟩
  ·exact h.own k t b0 hk hi (.inl ht)
  ·exact h.own k t b hk hb htk
 ·rw [hfr]
  rcases hg k b hb with ⟨rfl,rfl⟩ | ⟨hne,hb⟩
  ·exact h.unf k t b0 hk hi (.inl ht) j hj
  ·exact h.unf k t b hk hb htk j hj
 ·rcases hg k b hb with ⟨rfl,rfl⟩ | ⟨hne,hb⟩
  ·exact hto htk
  ·exact h.tipok k b hb htk
 ·rcases hg a ba hba with ⟨ha1,ha2⟩ | ⟨hna,hba'⟩
  ·rcases hg k bk hbk with ⟨hk1,hk2⟩ | ⟨hnk,hbk'⟩
   ·exact absurd (ha1.trans hk1.symm) hne
   ·rw [ha1,hφ] at ha; cases ha
    exact absurd hsb.symm (hal k sk bk hnk hk hbk' hok)
  ·rcases hg k bk hbk with ⟨hk1,hk2⟩ | ⟨hnk,hbk'⟩
   ·rw [hk1,hφ] at hk; cases hk
    exact absurd hsb (hal a sa ba hna ha hba' (h.tipok a ba hba' hta))
   ·exact h.sep a k sa sk ba bk hne ha hk hba' hbk' hta hok hsb
 ·rcases hg k b hb with ⟨rfl,rfl⟩ | ⟨_,hb⟩
  ·exact h.fam k b0 f hi (hf ▸ hfm)
  ·exact h.fam k b f hb hfm

theorem Emb.child (h:Emb P B φ H w){s:Slot}{nb:Blk}{p0 f:Nat}{cs cs':Array Value}{e:TypeId}{fr:Nat×Nat}{w':World}(hB:B≤s.b)
  (hsh:∀k sk bk,φ k=some sk→H[k]?=some bk→bk.ok=true→sk.b=s.b→bk.tip=false∧bk.fam=some f∧sk.o+sk.siz≤p0) (hp:p0≤s.o+s.siz)
  (hcs:w.heap[s.b]?=some (.cells cs e fr)) (hcs':w'.heap=w.heap.setIfInBounds s.b (.cells cs' e fr)) (hsz:cs'.size=cs.size) (hlow:∀j,j < p0→cs'[j]?=cs[j]?) (hfr:∀a,w'.frozen? a=w.frozen? a)
  (hunf:∀j,j < s.top→w.frozen? ⟨s.b,s.o+j,none⟩=false)
  (hff:f≤H.length) (hnb:nb.ok=true∧nb.fam=some f) (hno:ObjR P φ nb.obj s (.cells cs' e fr)):Emb P B (upd φ H.length s) (H++[nb]) w':=by
 have hs0:s.b < w.heap.size:=(Array.getElem?_eq_some_iff.1 hcs).1
 have hnone:φ H.length=none:=by
  cases hx:φ H.length with
  | none=>rfl
  | some t=>exact absurd (h.inb _ _ hx).1 (Nat.lt_irrefl _)
 have hsub:=upd_sub (s:=s) hnone
 have hnew:w'.heap[s.b]?=some (.cells cs' e fr):=by rw [hcs']; simp [hs0]
 have hold:∀b,b≠s.b→w'.heap[b]?=w.heap[b]?:=fun b hb=>by rw [hcs',Array.getElem?_setIfInBounds_ne (Ne.symm hb)]
 have hss:w'.heap.size=w.heap.size:=by rw [hcs']; simp
 have cases':∀k t,upd φ H.length s k=some t→(k=H.length∧t=s)∨(k < H.length∧φ k=some t):=by
  intro k t hk
  unfold upd at hk
  split at hk
  ·exact .inl ⟨by assumption,(Option.some.inj hk).symm⟩
  ·exact .inr ⟨(h.inb k t hk).1,hk⟩
 have hl:∀(k:Nat) b,k < H.length→(H++[nb])[k]?=some b→H[k]?=some b:=fun k b hk hb=>by rwa [List.getElem?_append_left hk] at hb
 have hr:∀b,(H++[nb])[H.length]?=some b→b=nb:=fun b hb=>by simp at hb; exact hb.symm
 refine ⟨fun k t hk=>?_,fun k t b hk hb hok=>?_,fun k t b hk hb htk=>?_,fun k t b hk hb htk j hj=>?_,fun k b hb htk=>?_,fun a k sa sk ba bk hne ha hk hba hbk hta hok hsb=>?_,fun k b g hb hg=>?_,h.tab.step fun b hb _=>hold b (by omega)⟩
 ·rcases cases' k t hk with ⟨rfl,rfl⟩ | ⟨hlt,hk⟩
  ·exact ⟨by simp,by rw [hss]; exact hs0⟩
  ·exact ⟨by simp; omega,by rw [hss]; exact (h.inb k t hk).2⟩
 ·rcases cases' k t hk with ⟨rfl,rfl⟩ | ⟨hlt,hk⟩
  ·rw [hr b hb]; exact ⟨_,hnew,hno.mono hsub⟩
  ·have hb:=hl k b hlt hb
   obtain ⟨o,h1,h2⟩:=h.obj k t b hk hb hok
   by_cases hsb:t.b=s.b
   ·obtain ⟨_,_,hend⟩:=hsh k t b hk hb hok hsb
    rw [hsb] at h1 ⊢
    rw [hcs] at h1
    cases h1
    refine ⟨_,hnew,?_⟩
    generalize hob:b.obj=bo at h2
    cases h2 with
    | cells c _ _ _ _ g1 g2 g3 g4 g5 =>
     refine (ObjR.cells c t cs' e fr g1 g2 (by omega) g4 fun j x hx=>?_).mono hsub
     obtain ⟨y,hy,hv⟩:=g5 j x hx
     refine ⟨y,?_,hv⟩
     rw [hlow]; exact hy
     have:=(List.getElem?_eq_some_iff.1 hx).1
     omega
   ·rw [hold _ hsb]; exact ⟨o,h1,h2.mono hsub⟩
 ·rcases cases' k t hk with ⟨rfl,rfl⟩ | ⟨hlt,hk⟩
  ·exact hB
  ·exact h.own k t b hk (hl k b hlt hb) htk
 ·rw [hfr]
  rcases cases' k t hk with ⟨rfl,rfl⟩ | ⟨hlt,hk⟩
  ·exact hunf j hj
  ·exact h.unf k t b hk (hl k b hlt hb) htk j hj
 ·rcases Nat.lt_or_ge k H.length with hlt | hge
  ·exact h.tipok k b (hl k b hlt hb) htk
  ·rw [List.getElem?_append_right hge] at hb
   have:k - H.length=0:=by have:=(List.getElem?_eq_some_iff.1 hb).1; simp at this; omega
   rw [this] at hb; simp at hb; subst hb; exact hnb.1
 ·rcases cases' a sa ha with ⟨ha1,ha2⟩ | ⟨hla,ha'⟩
  ·rcases cases' k sk hk with ⟨hk1,hk2⟩ | ⟨hlk,hk'⟩
   ·exact absurd (ha1.trans hk1.symm) hne
   ·subst ha1; subst ha2
    rw [hr ba hba]
    obtain ⟨h1,h2,h3⟩:=hsh k sk bk hk' (hl k bk hlk hbk) hok hsb.symm
    exact ⟨h1,by rw [h2,hnb.2],by simp [hnb.2],by omega⟩
  ·have hba':=hl a ba hla hba
   rcases cases' k sk hk with ⟨hk1,hk2⟩ | ⟨hlk,hk'⟩
   ·subst hk2
    obtain ⟨h1,_⟩:=hsh a sa ba ha' hba' (h.tipok a ba hba' hta) hsb
    rw [hta] at h1; cases h1
   ·exact h.sep a k sa sk ba bk hne ha' hk' hba' (hl k bk hlk hbk) hta hok hsb
 ·rcases Nat.lt_or_ge k H.length with hlt | hge
  ·exact h.fam k b g (hl k b hlt hb) hg
  ·rw [List.getElem?_append_right hge] at hb
   have:k - H.length=0:=by have:=(List.getElem?_eq_some_iff.1 hb).1; simp at this; omega
   rw [this] at hb; simp at hb; subst hb
   rw [hnb.2] at hg; cases hg; exact Nat.le_trans hff hge

end

end Go.Pi
namespace Go.Pi
open Go

inductive TR (φ:Map)(lm:LMap):Value→Value→Prop
 | vr (x y:Value):VR φ x y→TR φ lm x y
 | ptr (d off g b:Nat):lm d g=some b→TR φ lm (.pointer (some ⟨d,off,some g⟩)) (.pointer (some ⟨b,off,none⟩))
 | sl (d g len c b:Nat):lm d g=some b→len≤c→TR φ lm (.slice (some ⟨d,0,some g⟩) len 0) (.slice (some ⟨b,0,none⟩) len c)

theorem TR.to_vr {φ:Map}{lm:LMap}{x y:Value}(h:TR φ lm x y)(hx:isLoc x=false):VR φ x y:=by
 cases h with
 | vr _ _ h=>exact h
 | ptr d off g b _=>simp [isLoc] at hx
 | sl d g len c b _ _=>simp [isLoc] at hx

theorem TR.mono {φ φ':Map}{lm lm':LMap}(h:∀i s,φ i=some s→φ' i=some s)(hl:∀d g b,lm d g=some b→lm' d g=some b){x y:Value}(ht:TR φ lm x y):TR φ' lm' x y:=by
 cases ht with
 | vr _ _ h'=>exact .vr _ _ (h'.mono h)
 | ptr d off g b hb=>exact .ptr d off g b (hl _ _ _ hb)
 | sl d g len c b hb hc=>exact .sl d g len c b (hl _ _ _ hb) hc

theorem TR.deloc {φ:Map}{lm:LMap}{x y:Value}(h:TR φ lm x y):VR φ (deloc x) y:=by
 unfold Go.Pi.deloc
 split
 ·exact .junk y
 ·rename_i hx; exact h.to_vr (by simpa using hx)

def sizOf:PObj→Nat
 | .cells c=>c.length
 | _=>0

structure Loc (P:Program)(lim:Nat)(φ:Map)(lm:LMap)(S:Nat→Nat×PObj)(w:World):Prop where
 cur:∀d g o,S d=(g,o)→0 < g→∃b ob,lm d g=some b∧w.heap[b]?=some ob∧ObjR P φ o ⟨b,0,sizOf o,sizOf o⟩ ob∧∀j,j < sizOf o→w.frozen? ⟨b,j,none⟩=false
 lim:∀d g b,lm d g=some b→lim≤b∧b < w.heap.size∧∀i s,φ i=some s→s.b≠b
 inj:∀d g d' g' b,lm d g=some b→lm d' g'=some b→d=d'∧g=g'
 gen:∀d g b,lm d g=some b→0 < g∧g≤(S d).1

def DefR (φ:Map):PD→Deferred→Prop
 | .call (.func f) args,d=>∃cap a',d={ target:=.fn (.func f) cap,args:=a' }∧VRs φ args (a'++cap).toList
 | .coll r,d=>∃s,φ r=some s∧d={ target:=.collected s.b,args:=#[] }
 | _,_=>False

theorem DefR.mono {φ φ':Map}(h:∀i s,φ i=some s→φ' i=some s){p:PD}{d:Deferred}(hd:DefR φ p d):DefR φ' p d:=by
 cases p with
 | call fn args =>
  cases fn <;> simp only [DefR] at hd ⊢
  obtain ⟨cap,a',h1,h2⟩:=hd
  exact ⟨cap,a',h1,h2.mono h⟩
 | coll r=>obtain ⟨s,h1,h2⟩:=hd; exact ⟨s,h _ _ h1,h2⟩

inductive DefsR (φ:Map):List PD→List Deferred→Prop
 | nil:DefsR φ [] []
 | cons (p:PD) (d:Deferred) (ps:List PD) (ds:List Deferred):DefR φ p d→DefsR φ ps ds→DefsR φ (p :: ps) (d :: ds)

theorem DefsR.mono {φ φ':Map}(h:∀i s,φ i=some s→φ' i=some s){p:List PD}{d:List Deferred}(hd:DefsR φ p d):DefsR φ' p d:=by
 induction hd with
 | nil=>exact .nil
 | cons p d ps ds h1 _ ih=>exact .cons p d ps ds (h1.mono h) ih

structure Ent where
 P:Program
 B:Nat
 φ:Map
 H:Heap
 w:World

structure SR (E:Ent)(φ:Map)(lm:LMap)(s:St)(a:Act)(w:World):Prop where
 emb:Emb E.P E.B φ s.H w
 ext:Ext E.B E.φ E.H E.w φ s.H w
 loc:Loc E.P E.w.heap.size φ lm (sget s.S) w
 siz:a.tmps.size=s.n
 env:∀t,TR φ lm (get s.T t) (a.tmps.getD t undef)
 dfr:DefsR φ s.D a.defers
 hB:E.B≤E.w.heap.size
 dom:∀i t,E.φ i=some t→i < E.H.length

theorem SR.sub {E:Ent}{φ:Map}{lm:LMap}{s:St}{a:Act}{w:World}(h:SR E φ lm s a w):∀i t,E.φ i=some t→φ i=some t:=h.ext.sub h.dom

theorem SR.congr {E:Ent}{φ:Map}{lm:LMap}{s s':St}{a:Act}{w:World}(h:SR E φ lm s a w)(hT:∀t,get s'.T t=get s.T t)(hS:∀t,sget s'.S t=sget s.S t)(hD:s'.D=s.D)(hH:s'.H=s.H)(hn:s'.n=s.n) :
  SR E φ lm s' a w:=by
 have hS':sget s'.S=sget s.S:=funext hS
 exact ⟨by rw [hH]; exact h.emb,by rw [hH]; exact h.ext,by rw [hS']; exact h.loc,by rw [hn]; exact h.siz,fun t=>by rw [hT]; exact h.env t,by rw [hD]; exact h.dfr,h.hB,h.dom⟩

theorem flat_refl (φ:Map):∀(n:Nat) (v:Value),flat n v=true→VR φ v v:=by
 intro n
 induction n with
 | zero=>intro v h; simp [flat] at h
 | succ n ih =>
  intro v h
  have arr:∀(a:Array Value),a.toList.all (flat n)=true→∀(j:Nat) x y,a[j]?=some x→a[j]?=some y→VR φ x y:=by
   intro a ha j x y hx hy
   rw [hx] at hy; cases hy
   exact ih x (List.all_eq_true.1 ha x (Array.mem_toList_iff.2 (Array.mem_of_getElem? hx)))
  cases v with
  | bool b=>exact .bool b
  | int k n=>exact .int k n
  | string s=>exact .str s
  | pointer a=>cases a with
   | none=>exact .ptr0
   | some a=>simp [flat] at h
  | slice a l c=>cases a with
   | none =>
    cases l <;> cases c <;> simp [flat] at h
    exact .sl0
   | some a=>simp [flat] at h
  | map m=>cases m with
   | none=>exact .map0
   | some m=>simp [flat] at h
  | nilFunc=>exact .nilF
  | nilIface=>exact .nilI
  | iface t x=>exact .iface t x x (ih x (by simpa [flat] using h))
  | agg cs=>exact .agg cs cs rfl (arr cs (by simpa [flat] using h))
  | tuple cs=>exact .tuple cs cs rfl (arr cs (by simpa [flat] using h))
  | _=>simp [flat] at h

theorem VR.undef (φ:Map):VR φ undef undef:=.tuple #[] #[] rfl fun j x y hx=>by simp at hx

theorem SR.opnd {E:Ent}{φ:Map}{lm:LMap}{s:St}{a:Act}{w:World}(h:SR E φ lm s a w){x:Operand}(hx:opndOk x=true):TR φ lm (ev s.T x) (a.eval x):=by
 cases x with
 | tmp t=>exact h.env t
 | const v=>exact .vr _ _ (flat_refl φ 8 v hx)
 | global g=>simp [opndOk] at hx
 | func f=>exact .vr _ _ (.func f #[] #[] #[] #[] rfl (by simp) rfl (by simp))

theorem getD_set (A:Array Value)(d t:Nat)(v:Value):(A.setIfInBounds d v).getD t undef=if t=d∧d < A.size then v else A.getD t undef:=by
 by_cases h:t=d
 ·subst h
  by_cases hd:t < A.size
  ·simp [hd]
  ·simp [hd]
 ·rw [Array.getD_eq_getD_getElem?,Array.getD_eq_getD_getElem?,Array.getElem?_setIfInBounds_ne (Ne.symm h)]
  simp [h]

theorem SR.put {E:Ent}{φ:Map}{lm:LMap}{s s':St}{a:Act}{w:World}(h:SR E φ lm s a w){d:Option Tmp}{v v':Value}(hv:TR φ lm v v')(hp:put s d v=some s'):SR E φ lm s' (a.put d v') w:=by
 cases d with
 | none=>simp only [Go.Pi.put] at hp; cases hp; exact h
 | some d =>
  simp only [Go.Pi.put] at hp
  split at hp
  ·rename_i hd
   cases hp
   refine ⟨h.emb,h.ext,h.loc,by simp [Act.put,h.siz],fun t=>?_,h.dfr,h.hB,h.dom⟩
   simp only [Act.put,get_set,getD_set]
   by_cases ht:t=d
   ·subst ht; simp [h.siz,hd,hv]
   ·rw [if_neg ht,if_neg (fun h=>ht h.1)]; exact h.env t
  ·cases hp

theorem Loc.world {P:Program}{lim:Nat}{φ φ':Map}{lm:LMap}{S:Nat→Nat×PObj}{w w':World}(h:Loc P lim φ lm S w)(hsub:∀i s,φ i=some s→φ' i=some s)(hsz:w.heap.size≤w'.heap.size)
  (hw:∀d g b,lm d g=some b→w'.heap[b]?=w.heap[b]?) (hnew:∀d g b i s,lm d g=some b→φ' i=some s→s.b≠b):Loc P lim φ' lm S w':=by
 refine ⟨fun d g o hd hg=>?_,fun d g b hb=>?_,h.inj,h.gen⟩
 ·obtain ⟨b,ob,h1,h2,h3,h4⟩:=h.cur d g o hd hg
  exact ⟨b,ob,h1,by rw [hw _ _ _ h1]; exact h2,h3.mono hsub,fun j hj=>by rw [frozen_congr (hw _ _ _ h1)]; exact h4 j hj⟩
 ·obtain ⟨h1,h2,_⟩:=h.lim d g b hb
  exact ⟨h1,by omega,fun i s hi=>hnew d g b i s hb hi⟩

end Go.Pi
namespace Go.Pi
open Go

section
variable {P:Program} {φ:Map} {lm:LMap}

theorem TR.bool {b:Bool}{y:Value}(h:TR φ lm (.bool b) y):y=.bool b:=by cases h with | vr _ _ h=>cases h; rfl
theorem TR.int {k:IntKind}{n:Int}{y:Value}(h:TR φ lm (.int k n) y):y=.int k n:=by cases h with | vr _ _ h=>cases h; rfl
theorem TR.string {s:ByteArray}{y:Value}(h:TR φ lm (.string s) y):y=.string s:=by cases h with | vr _ _ h=>cases h; rfl
theorem VR.bool' {b:Bool}{y:Value}(h:VR φ (.bool b) y):y=.bool b:=by cases h; rfl
theorem VR.int' {k:IntKind}{n:Int}{y:Value}(h:VR φ (.int k n) y):y=.int k n:=by cases h; rfl
def Does (P:Program)(φ:Map)(lm:LMap)(w:World)(s:Sem Value)(v:Value):Prop:=∃v',s.run P w=.ok v' w∧TR φ lm v v'

theorem run_ib {t:TypeId}{k j:IntKind}{a b:Int}{op:BinOp}{v:Value}{x y:Operand}(w:World)(h:(VOp.ib op).ev [.int k a,.int j b]=some v) :
  Does P φ lm w (do eqGuard op t x y (.int k a) (.int j b); binOp op t (.int k a) (.int j b)) v:=by
 simp only [VOp.ev] at h
 split at h
 ·rename_i ho
  subst ho
  split at h
  ·rename_i hb
   cases h
   refine ⟨_,?_,.vr _ _ (.int _ _)⟩
   simp [eqGuard_at_int,binOp,Op.shift]
   omega
  ·cases h
 ·rename_i ho
  split at h
  ·rename_i hk
   subst hk
   unfold intBin at h
   cases op <;> simp at h ho
   case quo =>
    obtain ⟨hb,rfl⟩:=h
    exact ⟨_,by simp [eqGuard_at_int,binOp,Op.intDiv,hb],.vr _ _ (.int _ _)⟩
   case rem =>
    obtain ⟨hb,rfl⟩:=h
    exact ⟨_,by simp [eqGuard_at_int,binOp,Op.intDiv,hb],.vr _ _ (.int _ _)⟩
   all_goals (subst h; first | (refine ⟨_,?_,.vr _ _ (.int _ _)⟩; simp [eqGuard_at_int,binOp,Op.intArith]; done) | (refine ⟨_,?_,.vr _ _ (.bool _)⟩; simp [eqGuard_at_int,binOp,Op.intCmp]; done))
  ·cases h

theorem run_sb {t:TypeId}{a b:ByteArray}{op:BinOp}{v:Value}{x y:Operand}(w:World)(h:(VOp.sb op).ev [.string a,.string b]=some v) :
  Does P φ lm w (do eqGuard op t x y (.string a) (.string b); binOp op t (.string a) (.string b)) v:=by
 simp only [VOp.ev,strBin] at h
 cases op <;> simp at h
 case add =>
  obtain ⟨hb,rfl⟩:=h
  refine ⟨_,?_,.vr _ _ (.str _)⟩
  simp [eqGuard_at_string,binOp,Op.stringOp]
  omega
 all_goals (subst h; refine ⟨_,?_,.vr _ _ (.bool _)⟩; simp [eqGuard_at_string,binOp,Op.stringOp])

theorem run_bb {t:TypeId}{a b:Bool}{ne:Bool}{x y:Operand}(w:World)(ht:P.underlying t=some .bool) :
  Does P φ lm w (do eqGuard (if ne then .neq else .eql) t x y (.bool a) (.bool b); binOp (if ne then .neq else .eql) t (.bool a) (.bool b)) (.bool ((a == b) != ne)):=by
 refine ⟨_,?_,.vr _ _ (.bool _)⟩
 cases ne
 ·simp [eqGuard_at_bool,run_eql_bool _ _ _ _ ht]
 ·simp [eqGuard_at_bool,run_neq_bool _ _ _ _ ht]

theorem pkOf_has {t:TypeId}{k:PK}(h:pkOf P t=some k){x y:Value}(hx:k.has x=true)(hy:k.has y=true)(d:Nat)(w:World):(Op.equalIn (d+1) t x y).run P w=.ok (eqv x y) w:=by
 unfold pkOf at h
 split at h
 ·rename_i ht
  cases h
  cases x <;> simp [PK.has] at hx
  cases y <;> simp [PK.has] at hy
  exact run_equalIn_bool w d t _ _ ht
 ·rename_i ht
  cases h
  cases x <;> simp [PK.has] at hx
  cases y <;> simp [PK.has] at hy
  subst hx; subst hy
  exact run_equalIn_int w d t _ _ _ _ ht
 ·cases h

theorem pkOf_not_agg {t:TypeId}{k:PK}(h:pkOf P t=some k)(w:World):(isAgg t).run P w=.ok false w:=by
 unfold pkOf at h
 split at h
 ·rename_i ht; simp [isAgg,run_underlying ht]
 ·rename_i ht; simp [isAgg,run_underlying ht]
 ·cases h

theorem run_part_plain {t:TypeId}{k:PK}(h:pkOf P t=some k)(cs:Array Value)(i:Nat)(v:Value)(hi:cs[i]?=some v)(w:World):(part t cs i).run P w=.ok v w:=by
 simp [part,pkOf_not_agg h,hi]

theorem eqFields_run {fs:List Field}{ks:List PK}(hk:fs.mapM (fun f=>pkOf P f.type)=some ks)(d:Nat)(w:World):∀(n:Nat) (xs ys:Array Value),
  (∀(j:Nat) f,fs[j]?=some f→f.offset=n+j∧f.name ≠ "_")→hasAll ks (xs.toList.drop n)=true→hasAll ks (ys.toList.drop n)=true →
  (Op.eqFields (d+1) xs ys fs).run P w=.ok (eqs (xs.toList.drop n) (ys.toList.drop n)) w:=by
 induction fs generalizing ks with
 | nil =>
  intro n xs ys _ hx hy
  simp at hk; subst hk
  have e1:∀l,hasAll [] l=true→l=[]:=fun l h=>by cases l <;> simp [hasAll] at h ⊢
  rw [e1 _ hx,e1 _ hy]
  simp [Op.eqFields,eqs]
 | cons f fs ih =>
  intro n xs ys hf hx hy
  simp only [List.mapM_cons,Option.bind_eq_bind,Option.bind_eq_some_iff,Option.pure_def,Option.some.injEq] at hk
  obtain ⟨k,hk1,ks',hk2,rfl⟩:=hk
  obtain ⟨hoff,hname⟩:=hf 0 f rfl
  have split':∀(zs:Array Value),hasAll (k :: ks') (zs.toList.drop n)=true→∃z,zs[n]?=some z∧k.has z=true∧zs.toList.drop n=z :: zs.toList.drop (n+1)∧hasAll ks' (zs.toList.drop (n+1))=true:=by
   intro zs hz
   cases hd:zs.toList.drop n with
   | nil=>rw [hd] at hz; simp [hasAll] at hz
   | cons z r =>
    rw [hd] at hz
    simp only [hasAll,Bool.and_eq_true] at hz
    have hr:zs.toList.drop (n+1)=r:=by
     rw [←List.drop_drop,hd]; rfl
    have hzn:zs[n]?=some z:=by
     have:(zs.toList.drop n)[0]?=some z:=by rw [hd]; rfl
     simpa using this
    exact ⟨z,hzn,hz.1,by rw [hr],by rw [hr]; exact hz.2⟩
  obtain ⟨x,hx1,hx2,hx3,hx4⟩:=split' xs hx
  obtain ⟨y,hy1,hy2,hy3,hy4⟩:=split' ys hy
  have ih':=ih hk2 (n+1) xs ys (fun j g hg=>by
   have:=hf (j+1) g (by simpa using hg)
   exact ⟨by rw [this.1]; omega,this.2⟩) hx4 hy4
  simp only [Op.eqFields,hname,ne_eq,not_false_eq_true,if_true,Sem.run_bind,hoff,Nat.add_zero]
  rw [run_part_plain hk1 xs n x hx1,Result.andThen_ok,run_part_plain hk1 ys n y hy1,Result.andThen_ok,pkOf_has hk1 hx2 hy2,Result.andThen_ok]
  rw [hx3,hy3]
  simp only [eqs]
  cases he:eqv x y
  ·simp
  ·simp [ih']

theorem pksOf_spec {t:TypeId}{ks:List PK}(h:pksOf P t=some ks):P.underlying t=some (.struct (P.fieldsOf t))∧P.stoodInHeld t=false∧P.eqGuardType P.depth t=false ∧
  (P.fieldsOf t).toList.mapM (fun f=>pkOf P f.type)=some ks∧∀(j:Nat) f,(P.fieldsOf t).toList[j]?=some f→f.offset=0+j∧f.name ≠ "_" := by
 unfold pksOf at h
 split at h
 ·rename_i fs hfs
  split at h
  ·rename_i hc
   simp only [Bool.and_eq_true,Bool.not_eq_true',beq_iff_eq] at hc
   have hfo:P.fieldsOf t=fs:=by simp [Program.fieldsOf,hfs]
   rw [hfo]
   refine ⟨hfs,hc.1.2,hc.2,h,fun j f hj=>?_⟩
   have:=List.all_eq_true.1 hc.1.1.1 (f,j) (by rw [List.mem_zipIdx_iff_getElem?]; exact hj)
   simp only [Bool.and_eq_true,beq_iff_eq,bne_iff_ne,ne_eq] at this
   exact ⟨by omega,this.2⟩
  ·cases h
 ·cases h

theorem VR.plain {k:PK}{x y:Value}(h:VR φ x y)(hk:k.has x=true):y=x:=by
 cases k <;> cases x <;> simp [PK.has] at hk
 ·exact h.bool'
 ·exact h.int'

theorem hasAll_eq {ks:List PK}:∀{xs ys:List Value},xs.length=ys.length→(∀(j:Nat) x y,xs[j]?=some x→ys[j]?=some y→VR φ x y)→hasAll ks xs=true→ys=xs:=by
 induction ks with
 | nil =>
  intro xs ys hl _ hx
  cases xs with
  | nil=>cases ys <;> simp at hl ⊢
  | cons x xs=>simp [hasAll] at hx
 | cons k ks ih =>
  intro xs ys hl hv hx
  cases xs with
  | nil=>simp [hasAll] at hx
  | cons x xs =>
   cases ys with
   | nil=>simp at hl
   | cons y ys =>
    simp only [hasAll,Bool.and_eq_true] at hx
    have h1:=(hv 0 x y rfl rfl).plain hx.1
    have h2:=ih (by simpa using hl) (fun j a b ha hb=>hv (j+1) a b (by simpa using ha) (by simpa using hb)) hx.2
    rw [h1,h2]

theorem VR.aggP {ks:List PK}{a:Array Value}{y:Value}(h:VR φ (.agg a) y)(ha:hasAll ks a.toList=true):y=.agg a:=by
 cases h with
 | agg _ a' h1 h2 =>
  have:=hasAll_eq (ks:=ks) (xs:=a.toList) (ys:=a'.toList) (by simpa using h1) (fun j x y hx hy=>h2 j x y (by simpa using hx) (by simpa using hy)) ha
  rw [Array.toList_inj.1 this]

theorem run_ag {t:TypeId}{ks:List PK}{a b:Array Value}{ne:Bool}{x y:Operand}(w:World)(hk:pksOf P t=some ks)(ha:hasAll ks a.toList=true)(hb:hasAll ks b.toList=true) :
  Does P φ lm w (do eqGuard (if ne then .neq else .eql) t x y (.agg a) (.agg b); binOp (if ne then .neq else .eql) t (.agg a) (.agg b)) (.bool ((eqs a.toList b.toList) != ne)):=by
 obtain ⟨h1,h2,h3,h4,h5⟩:=pksOf_spec hk
 have h6:=eqFields_run h4 9998 w 0 a b h5 (by simpa using ha) (by simpa using hb)
 have h7:=run_equalIn_agg (P:=P) w 9999 t a b h1 h2
 simp only [List.drop_zero] at h6
 refine ⟨_,?_,.vr _ _ (.bool _)⟩
 cases ne
 ·simp [run_eqGuard_agg _ _ _ _ _ _ _ h3,run_eql_struct,h7,h6]
 ·simp [run_eqGuard_agg _ _ _ _ _ _ _ h3,run_neq_struct,h7,h6]

end
end Go.Pi
namespace Go.Pi
open Go

section
variable {P:Program} {φ:Map} {lm:LMap}

theorem run_equal_nil {t:TypeId}{d:TypeDesc}{k:NK}{y:Operand}{u u':Value}{b:Bool}(w:World)(ht:P.underlying t=some d)(hk:nilK d y=some k)(hu:isNil k u=some b)(hv:VR φ u u') :
  ∃c,y=.const c∧(∀n,(Op.equalIn (n+1) t u' c).run P w=.ok b w)∧(∀op x,eqGuard op t x y u' c=pure ())∧(binOp .eql t u' c=do pure (.bool (←Op.equal t u' c)))∧(binOp .neq t u' c=do pure (.bool (!(←Op.equal t u' c)))):=by
 unfold nilK at hk
 split at hk <;> try cases hk
 all_goals
  cases hv <;> simp [isNil,junk] at hu <;> subst hu
  all_goals
   refine ⟨_,rfl,fun n=>?_,fun op x=>?_,by simp only [binOp],by simp only [binOp]⟩
   ·simp [Op.equalIn,run_underlying ht]
   ·first
     | exact eqGuard_at_slice ..
     | exact eqGuard_at_map ..
     | exact eqGuard_at_iface ..
     | exact eqGuard_nil_constR ..
     | exact eqGuard_at_func ..
     | exact eqGuard_at_nilFunc ..

theorem run_nl {t:TypeId}{d:TypeDesc}{k:NK}{x y:Operand}{u u':Value}{b ne:Bool}(w:World)(ht:P.underlying t=some d)(hk:nilK d y=some k)(hu:isNil k u=some b)(hv:VR φ u u')(ρ:Operand→Value)(hρ:∀c,ρ (.const c)=c) :
  Does P φ lm w (do eqGuard (if ne then .neq else .eql) t x y u' (ρ y); binOp (if ne then .neq else .eql) t u' (ρ y)) (.bool (b != ne)):=by
 obtain ⟨c,rfl,h1,h2,h3,h4⟩:=run_equal_nil (φ:=φ) w ht hk hu hv
 have h5:(Op.equal t u' c).run P w=.ok b w:=h1 9999
 refine ⟨_,?_,.vr _ _ (.bool _)⟩
 rw [hρ,h2]
 cases ne
 ·simp [h3,h5]
 ·simp [h4,h5]

theorem VR.cells {x y:Value}(h:VR φ x y):x=Go.Pi.junk∨(x.cells.size=y.cells.size∧∀(j:Nat) a b,x.cells[j]?=some a→y.cells[j]?=some b→VR φ a b):=by
 have one:∀{x y:Value},VR φ x y→x.cells=#[x]→y.cells=#[y]→(x.cells.size=y.cells.size∧∀(j:Nat) a b,x.cells[j]?=some a→y.cells[j]?=some b→VR φ a b):=by
  intro x y h hx hy
  rw [hx,hy]
  refine ⟨rfl,fun j a b ha hb=>?_⟩
  cases j with
  | zero=>simp at ha hb; subst ha; subst hb; exact h
  | succ j=>simp at ha
 cases h with
 | junk v=>exact .inl rfl
 | agg a a' h1 h2=>exact .inr ⟨h1,h2⟩
 | _=>right; refine one ?_ rfl rfl; constructor <;> assumption

theorem all_one_not_junk {x:Value}(h:x.cells.toList.all one=true):x≠junk:=by rintro rfl; simp [one,junk,Value.cells] at h

theorem VR.one {x y:Value}(h:VR φ x y)(hx:one x=true):y.oneCell'=true:=by
 cases h <;> simp [Go.Pi.one,Value.oneCell',Go.Pi.junk] at hx ⊢

theorem VR.cellsL {x y:Value}(h:VR φ x y)(hx:x.cells.toList.all Go.Pi.one=true):VRs φ x.cells.toList y.cells.toList:=by
 rcases h.cells with h | ⟨h1,h2⟩
 ·exact absurd h (all_one_not_junk hx)
 ·exact ⟨by simpa using h1,fun j a b ha hb=>h2 j a b (by simpa using ha) (by simpa using hb)⟩

theorem VRs.take {xs ys:List Value}(h:VRs φ xs ys)(n:Nat):VRs φ (xs.take n) (ys.take n) :=
 ⟨by simp [h.1],fun j a b ha hb=>by
  rw [List.getElem?_take] at ha hb
  split at ha
  ·rename_i hj; simp [hj] at hb; exact h.2 j a b ha hb
  ·cases ha⟩

theorem VRs.drop {xs ys:List Value}(h:VRs φ xs ys)(n:Nat):VRs φ (xs.drop n) (ys.drop n) :=
 ⟨by simp [h.1],fun j a b ha hb=>by
  rw [List.getElem?_drop] at ha hb
  exact h.2 _ a b ha hb⟩

theorem VRs.append {xs ys us vs:List Value}(h:VRs φ xs ys)(h':VRs φ us vs):VRs φ (xs++us) (ys++vs) :=
 ⟨by simp [h.1,h'.1],fun j a b ha hb=>by
  rcases Nat.lt_or_ge j xs.length with hlt | hge
  ·rw [List.getElem?_append_left hlt] at ha
   rw [List.getElem?_append_left (h.1 ▸ hlt)] at hb
   exact h.2 j a b ha hb
  ·rw [List.getElem?_append_right hge] at ha
   rw [List.getElem?_append_right (h.1 ▸ hge),←h.1] at hb
   exact h'.2 _ a b ha hb⟩

theorem VRs.nil:VRs φ [] []:=⟨rfl,fun j a b ha=>by simp at ha⟩

theorem VRs.cons {x y:Value}{xs ys:List Value}(h:VR φ x y)(h':VRs φ xs ys):VRs φ (x :: xs) (y :: ys) :=
 ⟨by simp [h'.1],fun j a b ha hb=>by
  cases j with
  | zero=>simp at ha hb; subst ha; subst hb; exact h
  | succ j=>simp at ha hb; exact h'.2 j a b ha hb⟩

theorem VRs.head {x y:Value}{xs ys:List Value}(h:VRs φ (x :: xs) (y :: ys)):VR φ x y:=h.2 0 x y rfl rfl
theorem VRs.tail {x y:Value}{xs ys:List Value}(h:VRs φ (x :: xs) (y :: ys)):VRs φ xs ys:=⟨by simpa using h.1,fun j a b ha hb=>h.2 (j+1) a b (by simpa using ha) (by simpa using hb)⟩

theorem VRs.cases {x:Value}{xs ys:List Value}(h:VRs φ (x :: xs) ys):∃y ys',ys=y :: ys'∧VR φ x y∧VRs φ xs ys':=by
 cases ys with
 | nil=>have:=h.1; simp at this
 | cons y ys'=>exact ⟨y,ys',rfl,h.head,h.tail⟩

theorem VRs.nil_eq {ys:List Value}(h:VRs φ [] ys):ys=[]:=List.length_eq_zero_iff.1 (by simpa using h.1.symm)

theorem VRs.get {xs ys:List Value}(h:VRs φ xs ys){j:Nat}{x:Value}(hx:xs[j]?=some x):∃y,ys[j]?=some y∧VR φ x y:=by
 have hj:j < ys.length:=h.1 ▸ (List.getElem?_eq_some_iff.1 hx).1
 exact ⟨ys[j],List.getElem?_eq_getElem hj,h.2 j x _ hx (List.getElem?_eq_getElem hj)⟩

theorem VRs.agg {xs ys:List Value}(h:VRs φ xs ys):VR φ (.agg xs.toArray) (.agg ys.toArray) :=
 .agg _ _ (by simpa using h.1) fun j x y hx hy=>h.2 j x y (by simpa using hx) (by simpa using hy)

theorem foldl_get (l:List Value):∀(off n:Nat) (cs:Array Value),off+n+l.length≤cs.size→∀i:Nat,
  ((l.zipIdx n).foldl (fun cs (c,j)=>cs.setIfInBounds (off+j) c) cs)[i]?=if off+n≤i∧i < off+n+l.length then l[i - (off+n)]? else cs[i]?:=by
 induction l with
 | nil=>intro off n cs _ i; simp; omega
 | cons x l ih =>
  intro off n cs h i
  simp only [List.zipIdx_cons,List.foldl_cons]
  simp only [List.length_cons] at h
  rw [ih off (n+1) _ (by simp; omega) i]
  simp only [List.length_cons]
  by_cases h1:off+(n+1)≤i∧i < off+(n+1)+l.length
  ·rw [if_pos h1,if_pos (by omega)]
   have:i - (off+n)=(i - (off+(n+1)))+1:=by omega
   rw [this,List.getElem?_cons_succ]
  ·rw [if_neg h1]
   by_cases h2:i=off+n
   ·subst h2
    rw [if_pos (by omega),Array.getElem?_setIfInBounds_self_of_lt (by omega)]
    simp
   ·rw [if_neg (by omega),Array.getElem?_setIfInBounds_ne (by omega)]

theorem splice_get (a b:List Value)(off:Nat)(h:off+b.length≤a.length)(i:Nat):(a.take off++b++a.drop (off+b.length))[i]?=if off≤i∧i < off+b.length then b[i - off]? else a[i]?:=by
 have hl:(a.take off).length=off:=by simp; omega
 rcases Nat.lt_or_ge i off with h1 | h1
 ·rw [List.append_assoc,List.getElem?_append_left (by omega),List.getElem?_take,if_pos h1,if_neg (by omega)]
 ·rw [List.append_assoc,List.getElem?_append_right (by omega),hl]
  rcases Nat.lt_or_ge i (off+b.length) with h2 | h2
  ·rw [List.getElem?_append_left (by omega),if_pos ⟨h1,h2⟩]
  ·rw [List.getElem?_append_right (by omega),if_neg (by omega),List.getElem?_drop]
   congr 1; omega

theorem foldl_set (l:List Value)(off:Nat)(cs:Array Value)(h:off+l.length≤cs.size) :
  ((l.zipIdx 0).foldl (fun cs (c,j)=>cs.setIfInBounds (off+j) c) cs).toList=cs.toList.take off++l++cs.toList.drop (off+l.length):=by
 apply List.ext_getElem?
 intro i
 rw [splice_get _ _ _ (by simpa using h),Array.getElem?_toList,foldl_get l off 0 cs (by simpa using h) i]
 simp

theorem fillP_run (place:Nat→Option (Nat×Nat)):∀(ps:List (Nat×Nat)) (ix:List Nat) (vs vs':List Value) (cs:List Value) (cs':Array Value) (l:List Value),ps.length=ix.length→(∀(j:Nat) p i,ps[j]?=some p→ix[j]?=some i→place i=some p) →
  VRs φ vs vs'→VRs φ cs cs'.toList→fillP cs ps vs=some l→∃l',Instr.fill place cs' (ix.zip vs')=some l'∧VRs φ l l'.toList∧l.length=cs.length:=by
 intro ps
 induction ps with
 | nil =>
  intro ix vs vs' cs cs' l hl _ hv hc h
  cases vs with
  | nil =>
   simp only [fillP] at h
   cases h
   cases ix with
   | nil=>exact ⟨cs',by simp [Instr.fill],hc,rfl⟩
   | cons i ix=>simp at hl
  | cons v vs=>simp [fillP] at h
 | cons p ps ih =>
  intro ix vs vs' cs cs' l hl hp hv hc h
  obtain ⟨off,n⟩:=p
  cases ix with
  | nil=>simp at hl
  | cons i ix =>
   cases vs with
   | nil=>simp [fillP] at h
   | cons v vs =>
    obtain ⟨v',vs',rfl,hvv,hvs⟩:=hv.cases
    simp only [fillP] at h
    split at h
    ·rename_i hc1
     obtain ⟨h1,h2,h3⟩:=hc1
     have hcl:=hvv.cellsL h3
     have hsz:v'.cells.size=n:=by rw [←h1]; simpa using hcl.1.symm
     have hcs:cs'.size=cs.length:=by simpa using hc.1.symm
     have hfold:=foldl_set v'.cells.toList off cs' (by simp [hsz,hcs]; omega)
     have hnew:VRs φ (cs.take off++v.cells.toList++cs.drop (off+n)) ((v'.cells.zipIdx.foldl (fun cs (c,j)=>cs.setIfInBounds (off+j) c) cs').toList):=by
      rw [←Array.foldl_toList,Array.toList_zipIdx,hfold]
      simp only [Array.length_toList,hsz]
      exact ((hc.take off).append hcl).append (hc.drop (off+n))
     obtain ⟨l',g1,g2,g3⟩:=ih ix vs vs' _ _ l (by simpa using hl) (fun j p i hp' hi=>hp (j+1) p i (by simpa using hp') (by simpa using hi)) hvs hnew h
     refine ⟨l',?_,g2,?_⟩
     ·simp only [List.zip_cons_cons,Instr.fill,hp 0 _ _ rfl rfl,hsz,hcs]
      rw [if_neg (by simp; omega)]
      exact g1
     ·rw [g3]; simp [h1]; omega
    ·cases h

end
end Go.Pi
