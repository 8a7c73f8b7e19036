/- Facts on single calls, found by the kernel, and what stands outside: functions of Go's library, over the small language. -/
import Derived.Shelf.Strconv.Itoa3
import Derived.Shelf.Strings.Search3
import Derived.Shelf.Strings.Count
import Derived.Shelf.Strings.OnBuilder
import Derived.Lib.LaidTab
import Derived.Test.YtjidjpcnocddeaaGreatDoorPiQ
import Derived.Test.YtjidjpcnocddeaaGreatDoorPiJ
set_option linter.all false
namespace Go.Pi.Q
open Go Go.Pi

theorem look_mem:∀{l:List (Nat×Blk)} {i:Nat} {b:Blk},look l i=some b→(i,b)∈l
 | [],i,b,h=>by cases h
 | (j,c) :: l,i,b,h=>by
  simp only [look,beq_dec] at h
  by_cases hj:j=i
  ·simp [hj] at h; subst h; simp [hj]
  ·simp [hj] at h; exact List.mem_cons_of_mem _ (look_mem h)

def obs (idx:List Nat)(B:Base)(o:FOut):Ret×Nat×Nat×List (Option Blk):=(o.r,o.lo,o.H.n,idx.map (hg B o.H))

structure FactOf (Hb H':Heap)(n1:Nat)(idx:List Nat)(bl:List (Option Blk)):Prop where
 len:H'.length=n1
 fam:Fam H'
 old:∀i,i < Hb.length→H'[i]?=Hb[i]?
 new:∀(k i:Nat) (b:Blk),idx[k]?=some i→bl[k]?=some (some b)→H'[i]?=some b

theorem fact {PP:FuncId→Option PFunc}{fp:Base→FPrims}{prims:Prims}(hp:∀(B:Base) (Hb:Heap),Good B Hb→PRel B Hb (fp B) prims)
  (hk:∀f g,prims f=some g→∀args H out,g args H=some out→Fam H→Fam out.H∧Same out.lo H out.H)
  {n0:Nat} {bg:List (Nat×Blk)} {fn:Fn} {args:List Value} {m:Nat} {r:Ret} {lo n1:Nat} {idx:List Nat} {bl:List (Option Blk)}
  (h:(runF ⟨n0,bg⟩ PP (fp ⟨n0,bg⟩) m fn args ⟨n0,.nil⟩).map (obs idx ⟨n0,bg⟩)=some (r,lo,n1,bl)) (Hb:Heap) (hl:Hb.length=n0) (hb:∀p,p∈bg→Hb[p.1]?=some p.2) (hF:Fam Hb) :
  ∃H',run PP prims m fn args Hb=some ⟨r,H',lo⟩∧FactOf Hb H' n1 idx bl:=by
 have g:Good ⟨n0,bg⟩ Hb:=⟨hl,fun i b hh=>hb _ (look_mem hh),fun i b f h1 h2=>by
  have:=hF i b f h1 h2
  have:=(List.getElem?_eq_some_iff.1 h1).1
  simp only; omega⟩
 cases hr:runF ⟨n0,bg⟩ PP (fp ⟨n0,bg⟩) m fn args ⟨n0,.nil⟩ with
 | none=>rw [hr] at h; cases h
 | some fo =>
  rw [hr] at h
  simp only [Option.map_some,obs,Option.some.injEq,Prod.mk.injEq] at h
  obtain ⟨rfl,rfl,rfl,rfl⟩:=h
  obtain ⟨o,h1,h2⟩:=runF_ok g (hp _ _ g) hk m fn args Hb ⟨n0,.nil⟩ fo g.new hF hr
  obtain ⟨r',H',lo'⟩:=o
  obtain ⟨q1,q2,q3⟩:=h2
  simp only at q1 q2 q3
  subst q1; subst q3
  obtain ⟨k1,_⟩:=keeps_run hk m fn args Hb _ h1 hF
  refine ⟨H',h1,⟨q2.len,k1,fun i hi=>q2.base i (by simp only; omega),fun k i b hi hbl=>?_⟩⟩
  rw [List.getElem?_map,hi] at hbl
  simp only [Option.map_some,Option.some.injEq] at hbl
  exact q2.get g hbl

theorem FactOf.same {Hb H':Heap}{idx:List Nat}{bl:List (Option Blk)}(h:FactOf Hb H' Hb.length idx bl):H'=Hb:=by
 apply List.ext_getElem?
 intro i
 rcases Nat.lt_or_ge i Hb.length with hi | hi
 ·exact h.old i hi
 ·rw [List.getElem?_eq_none (by rw [h.len]; exact hi),List.getElem?_eq_none hi]

def dig (n:Nat):List UInt8:=bif Nat.blt n 10 then [UInt8.ofNat (48+n)] else [UInt8.ofNat (48+n / 10),UInt8.ofNat (48+n % 10)]
theorem dig_eq (n:Nat)(h:n < 100):Lib.decDigits n=dig n:=by
 rw [Lib.decDigits]
 unfold dig
 rw [blt_dec]
 by_cases h1:n < 10
 ·simp [h1]
 ·rw [dif_neg h1,Lib.decDigits,dif_pos (by omega)]
  simp [h1]

def pItoa (args:List Value):Option Value :=
 match args with
 | [.int .i64 (.ofNat n)]=>bif Nat.blt n 100 then some (.string ⟨(dig n).toArray⟩) else none
 | _=>none
def cnt (c:UInt8):List UInt8→Nat
 | []=>0
 | x :: l=>bif x == c then cnt c l+1 else cnt c l
theorem cnt_eq (c:UInt8)(l:List UInt8):Lib.countByte l c=cnt c l:=by
 unfold Lib.countByte
 induction l with
 | nil=>rfl
 | cons x l ih =>
  rw [List.count_cons,ih,cnt]
  cases h:x == c <;> simp
def pCount (args:List Value):Option Value :=
 match args with
 | [.string s,.string sep]=>(match sep.data.toList with | [c]=>some (.int .i64 (cnt c s.data.toList)) | _=>none)
 | _=>none
def pIndex (args:List Value):Option Value :=
 match args with
 | [.string s,.string sep]=>(match sep.data.toList with | [c]=>some (.int .i64 (Lib.indexByte s.data.toList c)) | _=>none)
 | _=>none
def strs:List Value→Option (List ByteArray)
 | []=>some []
 | .string s :: l=>(strs l).map fun x=>s :: x
 | _=>none
def pJoin (cs:Nat→Option (List Value))(args:List Value):Option Value :=
 match args with
 | [.slice (some ⟨b,off,none⟩) l 1,.string sep] =>
  match cs b with
  | some c =>
   if off+l≤c.length∧0 < l∧l≤1000000 then
    match strs ((c.drop off).take l) with
    | some xs=>bif Nat.ble (Lib.join (xs.map fun x=>x.data.toList) sep.data.toList).length 1000000 then some (.string ⟨(Lib.join (xs.map fun x=>x.data.toList) sep.data.toList).toArray⟩) else none
    | none=>none
   else none
  | none=>none
 | _=>none

def lp (p:List Value→Option Value):List Value→Heap→Option Out:=fun args H=>(p args).map fun v=>⟨.ok v,H,H.length⟩
def qp (p:List Value→Option Value):List Value→HH→Option FOut:=fun args h=>(p args).map fun v=>⟨.ok v,h,h.n⟩
def lJoin:List Value→Heap→Option Out:=fun args H=>(pJoin (hcells H) args).map fun v=>⟨.ok v,H,H.length⟩
def qJoin (B:Base):List Value→HH→Option FOut:=fun args h=>(pJoin (hcF B h) args).map fun v=>⟨.ok v,h,h.n⟩

theorem lp_rel {B:Base}{Hb:Heap}(p:List Value→Option Value):∀args H h fo,HRel B Hb H h→qp p args h=some fo→∃o,lp p args H=some o∧ORel B Hb fo o:=by
 intro args H h fo r hf
 unfold qp at hf
 unfold lp
 cases hp:p args with
 | none=>rw [hp] at hf; cases hf
 | some v=>rw [hp] at hf; cases hf; exact ⟨_,rfl,⟨rfl,r,r.len.symm⟩⟩

theorem hcF_get {B:Base}{Hb H:Heap}{h:HH}(g:Good B Hb)(r:HRel B Hb H h){i:Nat}{c:List Value}(hc:hcF B h i=some c):hcells H i=some c:=by
 unfold hcF at hc
 split at hc
 ·rename_i hb
  cases hc
  unfold hcells
  rw [r.get g hb]
 ·cases hc

theorem lJoin_rel {B:Base}{Hb:Heap}(g:Good B Hb):∀args H h fo,HRel B Hb H h→qJoin B args h=some fo→∃o,lJoin args H=some o∧ORel B Hb fo o:=by
 intro args H h fo r hf
 unfold qJoin at hf
 unfold lJoin
 cases hp:pJoin (hcF B h) args with
 | none=>rw [hp] at hf; cases hf
 | some v =>
  rw [hp] at hf; cases hf
  have:pJoin (hcells H) args=some v:=by
   unfold pJoin at hp ⊢
   split at hp
   ·rename_i b off l sep
    cases hc:hcF B h b with
    | none=>rw [hc] at hp; cases hp
    | some c=>rw [hc] at hp; rw [hcF_get g r hc]; exact hp
   ·cases hp
  rw [this]
  exact ⟨_,rfl,⟨rfl,r,r.len.symm⟩⟩

theorem lp_keeps (p:List Value→Option Value):∀args H out,lp p args H=some out→Fam H→Fam out.H∧Same out.lo H out.H:=by
 intro args H out h hF
 unfold lp at h
 cases hp:p args with
 | none=>rw [hp] at h; cases h
 | some v=>rw [hp] at h; cases h; exact ⟨hF,Same.refl _ _⟩
theorem lJoin_keeps:∀args H out,lJoin args H=some out→Fam H→Fam out.H∧Same out.lo H out.H:=by
 intro args H out h hF
 unfold lJoin at h
 cases hp:pJoin (hcells H) args with
 | none=>rw [hp] at h; cases h
 | some v=>rw [hp] at h; cases h; exact ⟨hF,Same.refl _ _⟩

theorem plain_sim {P:Program}{N:Nat}{f:FuncId}(hok:okFn P f=true){φ:Map}{H:Heap}{w:World}{args':Array Value}{v:Value}(hE:Emb P N φ H w)
  (hc:Calls P f args' w fun e w'=>e=.returned v∧More w w') (hv:VR φ v v):FnSim P N φ H w args' ⟨.ok v,H,H.length⟩ (.func f):=by
 refine ⟨hok,fun n=>callsIn_wide.2 (hc.mono ?_)⟩
 rintro e w' ⟨rfl,hm⟩
 refine ⟨φ,hE.world hm.size (fun i s hi=>hm.old _ (hE.inb i s hi).2) (fun j _ hj=>hm.old j hj),⟨Nat.le_refl _,fun _ _=>rfl,fun i s hi hs=>absurd (hE.inb i s hs).1 (by omega),hm.size,fun j hj _=>hm.old j hj,hm.os,hm.output⟩,hv⟩

theorem More.refl (w:World):More w w:=⟨rfl,rfl,Nat.le_refl _,fun _ _=>rfl⟩
theorem More.below {w w':World}(h:RowKit.Below w.heap.size w w'):More w w':=⟨h.os,h.output,h.size,h.block⟩

theorem VRs.one {φ:Map}{x:Value}{ys:List Value}(h:VRs φ [x] ys):∃y,ys=[y]∧VR φ x y:=by
 have hl:=h.1
 match ys,hl with
 | [y],_=>exact ⟨y,rfl,h.2 0 x y rfl rfl⟩
theorem VRs.two {φ:Map}{x x2:Value}{ys:List Value}(h:VRs φ [x,x2] ys):∃y y2,ys=[y,y2]∧VR φ x y∧VR φ x2 y2:=by
 have hl:=h.1
 match ys,hl with
 | [y,y2],_=>exact ⟨y,y2,rfl,h.2 0 x y rfl rfl,h.2 1 x2 y2 rfl rfl⟩
theorem arr_of {a:Array Value}{l:List Value}(h:a.toList=l):a=l.toArray:=by rw [←h]
theorem ba_one {s:ByteArray}{c:UInt8}(h:s.data.toList=[c]):s=⟨#[c]⟩:=by
 obtain ⟨⟨l⟩⟩:=s
 simp only at h
 subst h
 rfl

theorem itoa_sim {P:Program}{N:Nat}{f:FuncId}(hok:okFn P f=true)(hc:∀(i:Nat),i < 100→∀(w:World),Calls P f #[.int .i64 i] w fun e w'=>e=.returned (.string ⟨(Lib.decDigits i).toArray⟩)∧w'=w) :
  ∀args H out,lp pItoa args H=some out→∀φ w args',Emb P N φ H w→N≤w.heap.size→VRs φ args args'.toList→FnSim P N φ H w args' out (.func f):=by
 intro args H out h φ w args' hE _ hv
 unfold lp pItoa at h
 split at h
 ·rename_i n
  rw [blt_dec] at h
  by_cases hn:n < 100
  ·simp [hn] at h
   subst h
   obtain ⟨y,hy,hvy⟩:=VRs.one hv
   cases hvy
   rw [arr_of hy]
   refine plain_sim hok hE ((hc n hn w).mono ?_) (.str _)
   rintro e w' ⟨rfl,rfl⟩
   exact ⟨by rw [dig_eq n hn],More.refl _⟩
  ·simp [hn] at h
 ·cases h

theorem count_sim {P:Program}{N:Nat}{f:FuncId}(hok:okFn P f=true)(hc:∀(s:ByteArray) (c:UInt8) (w:World),Calls P f #[.string s,.string ⟨#[c]⟩] w fun e w'=>e=.returned (.int .i64 (Lib.countByte s.data.toList c))∧w'=w) :
  ∀args H out,lp pCount args H=some out→∀φ w args',Emb P N φ H w→N≤w.heap.size→VRs φ args args'.toList→FnSim P N φ H w args' out (.func f):=by
 intro args H out h φ w args' hE _ hv
 unfold lp pCount at h
 split at h
 ·rename_i s sep
  split at h
  ·rename_i c hsep
   simp at h
   subst h
   obtain ⟨y,y2,hy,hv1,hv2⟩:=VRs.two hv
   cases hv1
   cases hv2
   rw [arr_of hy,ba_one hsep]
   refine plain_sim hok hE ((hc s c w).mono ?_) (.int _ _)
   rintro e w' ⟨rfl,rfl⟩
   exact ⟨by rw [cnt_eq],More.refl _⟩
  ·cases h
 ·cases h

theorem index_sim {P:Program}{N:Nat}{f:FuncId}(hok:okFn P f=true)(hc:∀(s:ByteArray) (c:UInt8) (w:World),Calls P f #[.string s,.string ⟨#[c]⟩] w fun e w'=>e=.returned (.int .i64 (Lib.indexByte s.data.toList c))∧w'=w) :
  ∀args H out,lp pIndex args H=some out→∀φ w args',Emb P N φ H w→N≤w.heap.size→VRs φ args args'.toList→FnSim P N φ H w args' out (.func f):=by
 intro args H out h φ w args' hE _ hv
 unfold lp pIndex at h
 split at h
 ·rename_i s sep
  split at h
  ·rename_i c hsep
   simp at h
   subst h
   obtain ⟨y,y2,hy,hv1,hv2⟩:=VRs.two hv
   cases hv1
   cases hv2
   rw [arr_of hy,ba_one hsep]
   refine plain_sim hok hE ((hc s c w).mono ?_) (.int _ _)
   rintro e w' ⟨rfl,rfl⟩
   exact ⟨rfl,More.refl _⟩
  ·cases h
 ·cases h

theorem strs_get:∀{l:List Value} {xs:List ByteArray},strs l=some xs→l.length=xs.length∧∀(j:Nat) (x:ByteArray),xs[j]?=some x→l[j]?=some (.string x)
 | [],xs,h=>by cases h; exact ⟨rfl,fun j x hx=>by simp at hx⟩
 | v :: l,xs,h=>by
  cases v with
  | string s =>
   simp only [strs,Option.map_eq_some_iff] at h
   obtain ⟨ys,h1,rfl⟩:=h
   obtain ⟨h2,h3⟩:=strs_get h1
   refine ⟨by simp [h2],fun j x hx=>?_⟩
   cases j with
   | zero=>simp at hx ⊢; exact hx
   | succ j=>simp at hx ⊢; exact h3 j x hx
  | _=>cases h

theorem join_sim {P:Program}{N:Nat}{f:FuncId}(hok:okFn P f=true)
  (hc:∀(bk o c:Nat) (xs:List ByteArray) (sep:ByteArray) (w:World),(∀(j:Nat) (x:ByteArray),xs[j]?=some x→w.cell? ⟨bk,o+j,none⟩=some (.string x))→bk < w.heap.size→xs.length≤140737488355328→xs.length≤c →
   (Lib.join (xs.map fun x=>x.data.toList) sep.data.toList).length≤140737488355328 →
   Calls P f #[.slice (some ⟨bk,o,none⟩) xs.length c,.string sep] w fun e w'=>e=.returned (.string ⟨(Lib.join (xs.map fun x=>x.data.toList) sep.data.toList).toArray⟩)∧RowKit.Below w.heap.size w w') :
  ∀args H out,lJoin args H=some out→∀φ w args',Emb P N φ H w→N≤w.heap.size→VRs φ args args'.toList→FnSim P N φ H w args' out (.func f):=by
 intro args H out h φ w args' hE _ hv
 unfold lJoin pJoin at h
 split at h
 ·rename_i b off l sep
  cases hcb:hcells H b with
  | none=>rw [hcb] at h; cases h
  | some c =>
   rw [hcb] at h
   simp only at h
   split at h
   ·rename_i hle
    obtain ⟨hle,hl0,hl1⟩:=hle
    cases hs:strs ((c.drop off).take l) with
    | none=>rw [hs] at h; cases h
    | some xs =>
     rw [hs] at h
     simp only [ble_dec] at h
     by_cases hb:(Lib.join (xs.map fun x=>x.data.toList) sep.data.toList).length≤1000000
     ·simp [hb] at h
      subst h
      obtain ⟨hlen,hget⟩:=strs_get hs
      have hxl:xs.length=l:=by rw [←hlen]; simp; omega
      obtain ⟨y,y2,hy,hv1,hv2⟩:=VRs.two hv
      cases hv2
      cases hv1 with
      | sl _ _ _ _ a cp hcap hsl =>
       obtain ⟨s,hs1,rfl,_⟩:=hsl (.inl hl0)
       rw [arr_of hy]
       have hobj:∃blk,H[b]?=some blk∧blk.ok=true∧blk.obj=.cells c:=by
        unfold hcells at hcb
        split at hcb
        ·rename_i c' t fm hblk
         cases hcb
         exact ⟨_,hblk,rfl,rfl⟩
        ·cases hcb
       obtain ⟨blk,g1,g2,g3⟩:=hobj
       obtain ⟨ob,o1,o2⟩:=hE.obj b s blk hs1 g1 g2
       rw [g3] at o2
       have hblt:=(Array.getElem?_eq_some_iff.1 o1).1
       have hcell:∀(j:Nat) (x:ByteArray),xs[j]?=some x→w.cell? ⟨s.b,s.o+off+j,none⟩=some (.string x):=by
        intro j x hx
        have h1:=hget j x hx
        have hj:j < xs.length:=(List.getElem?_eq_some_iff.1 hx).1
        rw [List.getElem?_take_of_lt (by omega),List.getElem?_drop] at h1
        cases o2 with
        | cells _ _ cs e fr k1 k2 k3 k4 k5 =>
         obtain ⟨y,hy1,hy2⟩:=k5 (off+j) _ h1
         cases hy2
         simp only [World.cell?,o1,Nat.add_assoc]
         exact hy1
       have:=hc s.b (s.o+off) cp xs sep w hcell hblt (by omega) (by omega) (by omega)
       rw [hxl] at this
       refine plain_sim hok hE (this.mono ?_) (.str _)
       rintro e w' ⟨rfl,hbel⟩
       exact ⟨rfl,More.below hbel⟩
     ·simp [hb] at h
   ·cases h
 ·cases h
end Go.Pi.Q
namespace Go.Pi.Q
open Go

def dig3 (n:Nat):List UInt8:=bif Nat.blt n 100 then dig n else [UInt8.ofNat (48+n / 100),UInt8.ofNat (48+n / 10 % 10),UInt8.ofNat (48+n % 10)]
theorem dig3_eq (n:Nat)(h:n < 1000):Lib.decDigits n=dig3 n:=by
 unfold dig3
 rw [blt_dec]
 by_cases h1:n < 100
 ·simp [h1,dig_eq n h1]
 ·rw [Lib.decDigits,dif_neg (by omega),dig_eq (n / 10) (by omega)]
  unfold dig
  rw [blt_dec]
  have h2:¬n / 10 < 10:=by omega
  have h3:n / 10 / 10=n / 100:=by omega
  simp [h1,h2,h3]
def pItoa3 (args:List Value):Option Value :=
 match args with
 | [.int .i64 (.ofNat n)]=>bif Nat.blt n 1000 then some (.string ⟨(dig3 n).toArray⟩) else none
 | _=>none
theorem tabIs_of {P:Program}{N:Nat}{w:World}{g:Nat}(ht:TabOk P N w)(hg:P.globalNamed "internal/strconv.uint64pow10" = some g)(hN:g < N):Lib.TabIs P w "internal/strconv.uint64pow10" .u64 Lib.pow10Tab:=by
 obtain ⟨e,f,h⟩:=ht g hg hN
 unfold Lib.TabIs World.var?
 rw [hg]
 show (match w.heap[g]? with | some (.cells cs _ _)=>some cs | _=>none)=_
 rw [h]
 unfold tabV Lib.pow10Tab
 rw [List.map_map]; rfl
theorem ok_of_tab {P:Program}{N:Nat}{w:World}{g:Nat}(hg:P.globalNamed "internal/strconv.uint64pow10" = some g)(ht:Lib.TabIs P w "internal/strconv.uint64pow10" .u64 Lib.pow10Tab):TabOk P N w:=by
 intro g' hg' _
 rw [hg] at hg'
 cases hg'
 unfold Lib.TabIs World.var? at ht
 rw [hg] at ht
 have ht:(match w.heap[g]? with | some (.cells cs _ _)=>some cs | _=>none)=_:=ht
 split at ht
 ·rename_i cs e f hc
  refine ⟨e,f,?_⟩
  rw [hc]
  have:cs=tabV:=by
   cases ht
   unfold tabV Lib.pow10Tab
   rw [List.map_map]; rfl
  rw [this]
 ·cases ht
theorem itoa3_sim {P:Program}{N:Nat}{f:FuncId}(hok:okFn P f=true){g:Nat}(hg:P.globalNamed "internal/strconv.uint64pow10" = some g)(hN:g < N)
  (hc:∀(n:Nat),n < 1000→∀w:World,Lib.TabIs P w "internal/strconv.uint64pow10" .u64 Lib.pow10Tab→Calls P f #[.int .i64 (n:Nat)] w fun e w'=>e=.returned (.string ⟨(Lib.decDigits n).toArray⟩)∧More w w') :
  ∀args H out,lp pItoa3 args H=some out→∀φ w args',Emb P N φ H w→N≤w.heap.size→VRs φ args args'.toList→FnSim P N φ H w args' out (.func f):=by
 intro args H out h φ w args' hE _ hv
 unfold lp pItoa3 at h
 split at h
 ·rename_i n
  obtain ⟨y,hy,hvy⟩:=VRs.one hv
  cases hvy
  obtain ⟨args'⟩:=args'
  obtain rfl:args'=[Value.int .i64 (Int.ofNat n)]:=hy
  rw [blt_dec] at h
  by_cases hn:n < 1000
  ·simp only [hn,decide_true,cond_true,Option.map_some,Option.some.injEq] at h
   subst h
   refine plain_sim hok hE ((hc n hn w (tabIs_of hE.tab hg hN)).mono ?_) (.str _)
   rintro e w' ⟨rfl,hm⟩
   exact ⟨by rw [dig3_eq n hn],hm⟩
  ·simp [hn] at h
 ·cases h
end Go.Pi.Q
