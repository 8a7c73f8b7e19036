/- Facts on single calls, found by the kernel, and what stands outside: functions of Go's library, over the small language. -/
import Derived.Shelf.Strconv.Itoa3
import Derived.Shelf.Strings.Search3
import Derived.Shelf.Strings.Count
import Derived.Shelf.Strings.OnBuilder
import Derived.Sort.Grow
import Derived.Lib.SlicesCompact
import Derived.Test.YtfndfpbdgjoilaaGreatDoorPiQ
import Derived.Test.YtfndfpbdgjoilaaGreatDoorPiJ
set_option linter.all false
namespace Go.Pi.Q
open Go Go.Pi

theorem look_mem:∀{l:List (Nat×Blk)} {i:Nat} {b:Blk},look l i=some b→(i,b)∈l
 | [],i,b,h=>by cases h
 | (j,c) :: l,i,b,h=>by
  simp only [look,beq_dec] at h
  by_cases hj:j=i
  ·simp [hj] at h; subst h; simp [hj]
  ·simp [hj] at h; exact List.mem_cons_of_mem _ (look_mem h)

def dig (n:Nat):List UInt8:=bif Nat.blt n 10 then [UInt8.ofNat (48+n)] else [UInt8.ofNat (48+n / 10),UInt8.ofNat (48+n % 10)]
theorem dig_eq (n:Nat)(h:n < 100):Lib.decDigits n=dig n:=by
 rw [Lib.decDigits]
 unfold dig
 rw [blt_dec]
 by_cases h1:n < 10
 ·simp [h1]
 ·rw [dif_neg h1,Lib.decDigits,dif_pos (by omega)]
  simp [h1]

def pItoa (args:List Value):Option Value :=
 match args with
 | [.int .i64 (.ofNat n)]=>bif Nat.blt n 100 then some (.string ⟨(dig n).toArray⟩) else none
 | _=>none
def cnt (c:UInt8):List UInt8→Nat
 | []=>0
 | x :: l=>bif x == c then cnt c l+1 else cnt c l
theorem cnt_eq (c:UInt8)(l:List UInt8):Lib.countByte l c=cnt c l:=by
 unfold Lib.countByte
 induction l with
 | nil=>rfl
 | cons x l ih =>
  rw [List.count_cons,ih,cnt]
  cases h:x == c <;> simp
def pCount (args:List Value):Option Value :=
 match args with
 | [.string s,.string sep]=>(match sep.data.toList with | [c]=>some (.int .i64 (cnt c s.data.toList)) | _=>none)
 | _=>none
def pIndex (args:List Value):Option Value :=
 match args with
 | [.string s,.string sep]=>(match sep.data.toList with | [c]=>some (.int .i64 (Lib.indexByte s.data.toList c)) | _=>none)
 | _=>none
def strs:List Value→Option (List ByteArray)
 | []=>some []
 | .string s :: l=>(strs l).map fun x=>s :: x
 | _=>none
def pJoin (cs:Nat→Option (List Value))(args:List Value):Option Value :=
 match args with
 | [.slice (some ⟨b,off,none⟩) l 1,.string sep] =>
  match cs b with
  | some c =>
   if off+l≤c.length∧0 < l∧l≤1000000 then
    match strs ((c.drop off).take l) with
    | some xs=>bif Nat.ble (Lib.join (xs.map fun x=>x.data.toList) sep.data.toList).length 1000000 then some (.string ⟨(Lib.join (xs.map fun x=>x.data.toList) sep.data.toList).toArray⟩) else none
    | none=>none
   else none
  | none=>none
 | _=>none

def lp (p:List Value→Option Value):List Value→Heap→Option Out:=fun args H=>(p args).map fun v=>⟨.ok v,H,H.length⟩
def qp (p:List Value→Option Value):List Value→HH→Option FOut:=fun args h=>(p args).map fun v=>⟨.ok v,h,h.n⟩
def lJoin:List Value→Heap→Option Out:=fun args H=>(pJoin (hcells H) args).map fun v=>⟨.ok v,H,H.length⟩
def qJoin (B:Base):List Value→HH→Option FOut:=fun args h=>(pJoin (hcF B h) args).map fun v=>⟨.ok v,h,h.n⟩

theorem lp_rel {B:Base}{Hb:Heap}(p:List Value→Option Value):∀args H h fo,HRel B Hb H h→qp p args h=some fo→∃o,lp p args H=some o∧ORel B Hb fo o:=by
 intro args H h fo r hf
 unfold qp at hf
 unfold lp
 cases hp:p args with
 | none=>rw [hp] at hf; cases hf
 | some v=>rw [hp] at hf; cases hf; exact ⟨_,rfl,⟨rfl,r,r.len.symm⟩⟩

theorem hcF_get {B:Base}{Hb H:Heap}{h:HH}(g:Good B Hb)(r:HRel B Hb H h){i:Nat}{c:List Value}(hc:hcF B h i=some c):hcells H i=some c:=by
 unfold hcF at hc
 split at hc
 ·rename_i hb
  cases hc
  unfold hcells
  rw [r.get g hb]
 ·cases hc

theorem lJoin_rel {B:Base}{Hb:Heap}(g:Good B Hb):∀args H h fo,HRel B Hb H h→qJoin B args h=some fo→∃o,lJoin args H=some o∧ORel B Hb fo o:=by
 intro args H h fo r hf
 unfold qJoin at hf
 unfold lJoin
 cases hp:pJoin (hcF B h) args with
 | none=>rw [hp] at hf; cases hf
 | some v =>
  rw [hp] at hf; cases hf
  have:pJoin (hcells H) args=some v:=by
   unfold pJoin at hp ⊢
   split at hp
   ·rename_i b off l sep
    cases hc:hcF B h b with
    | none=>rw [hc] at hp; cases hp
    | some c=>rw [hc] at hp; rw [hcF_get g r hc]; exact hp
   ·cases hp
  rw [this]
  exact ⟨_,rfl,⟨rfl,r,r.len.symm⟩⟩

theorem lp_keeps (p:List Value→Option Value):∀args H out,lp p args H=some out→Fam H→Fam out.H∧Same out.lo H out.H:=by
 intro args H out h hF
 unfold lp at h
 cases hp:p args with
 | none=>rw [hp] at h; cases h
 | some v=>rw [hp] at h; cases h; exact ⟨hF,Same.refl _ _⟩
theorem lJoin_keeps:∀args H out,lJoin args H=some out→Fam H→Fam out.H∧Same out.lo H out.H:=by
 intro args H out h hF
 unfold lJoin at h
 cases hp:pJoin (hcells H) args with
 | none=>rw [hp] at h; cases h
 | some v=>rw [hp] at h; cases h; exact ⟨hF,Same.refl _ _⟩

theorem plain_sim {P:Program}{N:Nat}{f:FuncId}(hok:okFn P f=true){φ:Map}{H:Heap}{w:World}{args':Array Value}{v:Value}(hE:Emb P N φ H w)
  (hc:Calls P f args' w fun e w'=>e=.returned v∧More w w') (hv:VR φ v v):FnSim P N φ H w args' ⟨.ok v,H,H.length⟩ (.func f):=by
 refine ⟨hok,fun n=>callsIn_wide.2 (hc.mono ?_)⟩
 rintro e w' ⟨rfl,hm⟩
 refine ⟨φ,hE.world hm.size (fun i s hi=>hm.old _ (hE.inb i s hi).2),⟨Nat.le_refl _,fun _ _=>rfl,fun i s hi hs=>absurd (hE.inb i s hs).1 (by omega),hm.size,fun j hj _=>hm.old j hj,hm.os,hm.output⟩,hv⟩

theorem More.refl (w:World):More w w:=⟨rfl,rfl,Nat.le_refl _,fun _ _=>rfl⟩
theorem More.below {w w':World}(h:RowKit.Below w.heap.size w w'):More w w':=⟨h.os,h.output,h.size,h.block⟩

theorem VRs.one {φ:Map}{x:Value}{ys:List Value}(h:VRs φ [x] ys):∃y,ys=[y]∧VR φ x y:=by
 have hl:=h.1
 match ys,hl with
 | [y],_=>exact ⟨y,rfl,h.2 0 x y rfl rfl⟩
theorem VRs.two {φ:Map}{x x2:Value}{ys:List Value}(h:VRs φ [x,x2] ys):∃y y2,ys=[y,y2]∧VR φ x y∧VR φ x2 y2:=by
 have hl:=h.1
 match ys,hl with
 | [y,y2],_=>exact ⟨y,y2,rfl,h.2 0 x y rfl rfl,h.2 1 x2 y2 rfl rfl⟩
theorem arr_of {a:Array Value}{l:List Value}(h:a.toList=l):a=l.toArray:=by rw [←h]
theorem ba_one {s:ByteArray}{c:UInt8}(h:s.data.toList=[c]):s=⟨#[c]⟩:=by
 obtain ⟨⟨l⟩⟩:=s
 simp only at h
 subst h
 rfl

theorem itoa_sim {P:Program}{N:Nat}{f:FuncId}(hok:okFn P f=true)(hc:∀(i:Nat),i < 100→∀(w:World),Calls P f #[.int .i64 i] w fun e w'=>e=.returned (.string ⟨(Lib.decDigits i).toArray⟩)∧w'=w) :
  ∀args H out,lp pItoa args H=some out→∀φ w args',Emb P N φ H w→N≤w.heap.size→VRs φ args args'.toList→FnSim P N φ H w args' out (.func f):=by
 intro args H out h φ w args' hE _ hv
 unfold lp pItoa at h
 split at h
 ·rename_i n
  rw [blt_dec] at h
  by_cases hn:n < 100
  ·simp [hn] at h
   subst h
   obtain ⟨y,hy,hvy⟩:=VRs.one hv
   cases hvy
   rw [arr_of hy]
   refine plain_sim hok hE ((hc n hn w).mono ?_) (.str _)
   rintro e w' ⟨rfl,rfl⟩
   exact ⟨by rw [dig_eq n hn],More.refl _⟩
  ·simp [hn] at h
 ·cases h

theorem count_sim {P:Program}{N:Nat}{f:FuncId}(hok:okFn P f=true)(hc:∀(s:ByteArray) (c:UInt8) (w:World),Calls P f #[.string s,.string ⟨#[c]⟩] w fun e w'=>e=.returned (.int .i64 (Lib.countByte s.data.toList c))∧w'=w) :
  ∀args H out,lp pCount args H=some out→∀φ w args',Emb P N φ H w→N≤w.heap.size→VRs φ args args'.toList→FnSim P N φ H w args' out (.func f):=by
 intro args H out h φ w args' hE _ hv
 unfold lp pCount at h
 split at h
 ·rename_i s sep
  split at h
  ·rename_i c hsep
   simp at h
   subst h
   obtain ⟨y,y2,hy,hv1,hv2⟩:=VRs.two hv
   cases hv1
   cases hv2
   rw [arr_of hy,ba_one hsep]
   refine plain_sim hok hE ((hc s c w).mono ?_) (.int _ _)
   rintro e w' ⟨rfl,rfl⟩
   exact ⟨by rw [cnt_eq],More.refl _⟩
  ·cases h
 ·cases h

theorem index_sim {P:Program}{N:Nat}{f:FuncId}(hok:okFn P f=true)(hc:∀(s:ByteArray) (c:UInt8) (w:World),Calls P f #[.string s,.string ⟨#[c]⟩] w fun e w'=>e=.returned (.int .i64 (Lib.indexByte s.data.toList c))∧w'=w) :
  ∀args H out,lp pIndex args H=some out→∀φ w args',Emb P N φ H w→N≤w.heap.size→VRs φ args args'.toList→FnSim P N φ H w args' out (.func f):=by
 intro args H out h φ w args' hE _ hv
 unfold lp pIndex at h
 split at h
 ·rename_i s sep
  split at h
  ·rename_i c hsep
   simp at h
   subst h
   obtain ⟨y,y2,hy,hv1,hv2⟩:=VRs.two hv
   cases hv1
   cases hv2
   rw [arr_of hy,ba_one hsep]
   refine plain_sim hok hE ((hc s c w).mono ?_) (.int _ _)
   rintro e w' ⟨rfl,rfl⟩
   exact ⟨rfl,More.refl _⟩
  ·cases h
 ·cases h

theorem strs_get:∀{l:List Value} {xs:List ByteArray},strs l=some xs→l.length=xs.length∧∀(j:Nat) (x:ByteArray),xs[j]?=some x→l[j]?=some (.string x)
 | [],xs,h=>by cases h; exact ⟨rfl,fun j x hx=>by simp at hx⟩
 | v :: l,xs,h=>by
  cases v with
  | string s =>
   simp only [strs,Option.map_eq_some_iff] at h
   obtain ⟨ys,h1,rfl⟩:=h
   obtain ⟨h2,h3⟩:=strs_get h1
   refine ⟨by simp [h2],fun j x hx=>?_⟩
   cases j with
   | zero=>simp at hx ⊢; exact hx
   | succ j=>simp at hx ⊢; exact h3 j x hx
  | _=>cases h

theorem join_sim {P:Program}{N:Nat}{f:FuncId}(hok:okFn P f=true)
  (hc:∀(bk o c:Nat) (xs:List ByteArray) (sep:ByteArray) (w:World),(∀(j:Nat) (x:ByteArray),xs[j]?=some x→w.cell? ⟨bk,o+j,none⟩=some (.string x))→bk < w.heap.size→xs.length≤140737488355328→xs.length≤c →
   (Lib.join (xs.map fun x=>x.data.toList) sep.data.toList).length≤140737488355328 →
   Calls P f #[.slice (some ⟨bk,o,none⟩) xs.length c,.string sep] w fun e w'=>e=.returned (.string ⟨(Lib.join (xs.map fun x=>x.data.toList) sep.data.toList).toArray⟩)∧RowKit.Below w.heap.size w w') :
  ∀args H out,lJoin args H=some out→∀φ w args',Emb P N φ H w→N≤w.heap.size→VRs φ args args'.toList→FnSim P N φ H w args' out (.func f):=by
 intro args H out h φ w args' hE _ hv
 unfold lJoin pJoin at h
 split at h
 ·rename_i b off l sep
  cases hcb:hcells H b with
  | none=>rw [hcb] at h; cases h
  | some c =>
   rw [hcb] at h
   simp only at h
   split at h
   ·rename_i hle
    obtain ⟨hle,hl0,hl1⟩:=hle
    cases hs:strs ((c.drop off).take l) with
    | none=>rw [hs] at h; cases h
    | some xs =>
     rw [hs] at h
     simp only [ble_dec] at h
     by_cases hb:(Lib.join (xs.map fun x=>x.data.toList) sep.data.toList).length≤1000000
     ·simp [hb] at h
      subst h
      obtain ⟨hlen,hget⟩:=strs_get hs
      have hxl:xs.length=l:=by rw [←hlen]; simp; omega
      obtain ⟨y,y2,hy,hv1,hv2⟩:=VRs.two hv
      cases hv2
      cases hv1 with
      | sl _ _ _ _ a cp hcap hsl =>
       obtain ⟨s,hs1,rfl,_⟩:=hsl (.inl hl0)
       rw [arr_of hy]
       have hobj:∃blk,H[b]?=some blk∧blk.ok=true∧blk.obj=.cells c:=by
        unfold hcells at hcb
        split at hcb
        ·rename_i c' t fm hblk
         cases hcb
         exact ⟨_,hblk,rfl,rfl⟩
        ·cases hcb
       obtain ⟨blk,g1,g2,g3⟩:=hobj
       obtain ⟨ob,o1,o2⟩:=hE.obj b s blk hs1 g1 g2
       rw [g3] at o2
       have hblt:=(Array.getElem?_eq_some_iff.1 o1).1
       have hcell:∀(j:Nat) (x:ByteArray),xs[j]?=some x→w.cell? ⟨s.b,s.o+off+j,none⟩=some (.string x):=by
        intro j x hx
        have h1:=hget j x hx
        have hj:j < xs.length:=(List.getElem?_eq_some_iff.1 hx).1
        rw [List.getElem?_take_of_lt (by omega),List.getElem?_drop] at h1
        cases o2 with
        | cells _ _ cs e fr k1 k2 k3 k4 k5 =>
         obtain ⟨y,hy1,hy2⟩:=k5 (off+j) _ h1
         cases hy2
         simp only [World.cell?,o1,Nat.add_assoc]
         exact hy1
       have:=hc s.b (s.o+off) cp xs sep w hcell hblt (by omega) (by omega) (by omega)
       rw [hxl] at this
       refine plain_sim hok hE (this.mono ?_) (.str _)
       rintro e w' ⟨rfl,hbel⟩
       exact ⟨rfl,More.below hbel⟩
     ·simp [hb] at h
   ·cases h
 ·cases h
end Go.Pi.Q
namespace Go.Pi.Q
open Go Go.Pi

def flatC:PCode→List PCode
 | .seq a b=>a :: flatC b
 | c=>[c]
def grp:List PCode→PCode
 | []=>.skip
 | a :: l=>.seq a (grp l)
theorem grp_app {call:CallT}{m:Nat}:∀(l1 l2:List PCode) (s:St),codeR call m (grp (l1++l2)) s=(match codeR call m (grp l1) s with | some (.normal,s)=>codeR call m (grp l2) s | r=>r)
 | [],l2,s=>by simp [grp,codeR]
 | a :: l1,l2,s=>by
  simp only [List.cons_append,grp,codeR]
  cases codeR call m a s with
  | none=>rfl
  | some x =>
   obtain ⟨e,s1⟩:=x
   cases e with
   | normal=>exact grp_app l1 l2 s1
   | _=>rfl
theorem grp_cut {call:CallT}{m:Nat}{l1 l2:List PCode}{s s1:St}{r:Option (Ex×St)}(h1:codeR call m (grp l1) s=some (.normal,s1))(h2:codeR call m (grp l2) s1=r):codeR call m (grp (l1++l2)) s=r:=by
 rw [grp_app,h1]; exact h2
theorem grp_one {call:CallT}{m:Nat}(c:PCode)(s:St):codeR call m (grp [c]) s=codeR call m c s:=by
 simp only [grp,codeR]
 cases codeR call m c s with
 | none=>rfl
 | some x =>
  obtain ⟨e,s1⟩:=x
  cases e <;> rfl
theorem grp_flat {call:CallT}{m:Nat}(c:PCode):∀s:St,codeR call m (grp (flatC c)) s=codeR call m c s:=by
 induction c with
 | seq a b _ ihb =>
  intro s
  simp only [flatC,grp,codeR]
  cases codeR call m a s with
  | none=>rfl
  | some x =>
   obtain ⟨e,s1⟩:=x
   cases e with
   | normal=>exact ihb s1
   | _=>rfl
 | _=>intro s; simp only [flatC]; exact grp_one _ s

structure Cut (s:St)(T:TT)(S:SS)(lo n n0:Nat)(bg:List (Nat×Option Blk)):Prop where
 T:TRel s.T T
 S:SRel s.S S
 D:s.D=[]
 len:s.H.length=n0
 bg:∀i b,(i,some b)∈bg→s.H[i]?=some b
 fam:Fam s.H
 lo:s.lo=lo
 n:s.n=n
 rnd:s.rnd=false
def obsS (idx:List Nat)(B:Base)(x:Ex×FS):Bool×(TT×SS×Nat×Nat×Nat×List (Nat×Option Blk)) :=
 ((match x.1 with | .normal=>true | _=>false)&&(x.2.D.isEmpty&&!x.2.rnd),x.2.T,x.2.S,x.2.lo,x.2.n,x.2.H.n,idx.map fun i=>(i,hg B x.2.H i))
def bgB (bg:List (Nat×Option Blk)):List (Nat×Blk):=bg.filterMap fun p=>p.2.map fun b=>(p.1,b)
theorem seg {PP:FuncId→Option PFunc}{fp:Base→FPrims}{prims:Prims}(hp:∀(B:Base) (Hb:Heap),Good B Hb→PRel B Hb (fp B) prims)
  (hk:∀f g,prims f=some g→∀args H out,g args H=some out→Fam H→Fam out.H∧Same out.lo H out.H)
  {s:St} {T T':TT} {S S':SS} {lo n n0 lo' n' n1:Nat} {bg bg':List (Nat×Option Blk)} {m:Nat} {c:PCode} {idx:List Nat} (hs:Cut s T S lo n n0 bg)
  (h:(codeF ⟨n0,bgB bg⟩ (runF ⟨n0,bgB bg⟩ PP (fp ⟨n0,bgB bg⟩) m) m c ⟨T,S,[],⟨n0,.nil⟩,lo,n,false⟩).map (obsS idx ⟨n0,bgB bg⟩)=some (true,T',S',lo',n',n1,bg')) :
  ∃s1,codeR (run PP prims m) m c s=some (.normal,s1)∧Cut s1 T' S' lo' n' n1 bg':=by
 have g:Good ⟨n0,bgB bg⟩ s.H:=⟨hs.len,fun i b hh=>by
  have:=look_mem hh
  simp only [bgB,List.mem_filterMap,Option.map_eq_some_iff] at this
  obtain ⟨p,h1,b',h2,h3⟩:=this
  cases h3
  exact hs.bg p.1 b (by rw [←h2]; exact h1),fun i b f h1 h2=>by
  have:=hs.fam i b f h1 h2
  have:=(List.getElem?_eq_some_iff.1 h1).1
  have:=hs.len
  simp only; omega⟩
 have r:FRel ⟨n0,bgB bg⟩ s.H ⟨T,S,[],⟨n0,.nil⟩,lo,n,false⟩ s:=⟨hs.T,hs.S,hs.D.symm,g.new,hs.lo.symm,hs.n.symm,hs.rnd.symm⟩
 cases hc:codeF ⟨n0,bgB bg⟩ (runF ⟨n0,bgB bg⟩ PP (fp ⟨n0,bgB bg⟩) m) m c ⟨T,S,[],⟨n0,.nil⟩,lo,n,false⟩ with
 | none=>rw [hc] at h; cases h
 | some x =>
  obtain ⟨e,f⟩:=x
  rw [hc] at h
  simp only [Option.map_some,obsS,Option.some.injEq,Prod.mk.injEq,Bool.and_eq_true,Bool.not_eq_true'] at h
  obtain ⟨⟨h1,h2,h3⟩,rfl,rfl,rfl,rfl,rfl,rfl⟩:=h
  have hcr:=runF_ok (PP:=PP) g (hp _ _ g) hk m
  have hkr:=keeps_run (PP:=PP) hk m
  obtain ⟨s1,k1,k2⟩:=codeF_ok g hcr hkr c r hs.fam hc
  cases e with
  | normal =>
   refine ⟨s1,k1,k2.T,k2.S,?_,k2.H.len,fun i b hb=>?_,(keeps_codeR hkr c k1 hs.fam).1,k2.lo.symm,k2.n.symm,by rw [←k2.rnd]; exact h3⟩
   ·rw [←k2.D]; exact List.isEmpty_iff.1 h2
   ·simp only [List.mem_map,Prod.mk.injEq] at hb
    obtain ⟨j,_,rfl,h5⟩:=hb
    exact k2.H.get g h5
  | _=>cases h1
theorem seg_end {PP:FuncId→Option PFunc}{prims:Prims}{f:FuncId}{pf:PFunc}{m:Nat}{l:List PCode}{s:St}{T:TT}{S:SS}{lo n n0:Nat}{bg:List (Nat×Option Blk)}{b:Bool}
  (h1:prims f=none) (h2:PP f=some pf) (h3:pf.rc=none) (h4:pf.res=[(0,none)]) (h5:flatC pf.body=l++[.ret])
  (hc:codeR (run PP prims m) m (grp l) ⟨[],[],[],[],0,pf.n,false⟩=some (.normal,s)) (hs:Cut s T S lo n n0 bg) (hT:T.t.get undef 0=.bool b) :
  run PP prims (m+1) (.func f) [] []=some ⟨.ok (.bool b),[],0⟩:=by
 have hb:codeR (run PP prims m) m pf.body ⟨[],[],[],[],0,pf.n,false⟩=some (.ret,s):=by
  rw [←grp_flat,h5,grp_app,hc]
  simp [grp,codeR]
 have hg:Go.Pi.get s.T 0=.bool b:=(hs.T.get 0).trans hT
 simp only [run,h1,h2]
 rw [if_pos ⟨Nat.zero_le _,by rw [h3]; rfl⟩]
 simp only [List.length_nil,hb,endR,hs.D,unw,h4,resR,hg,isLoc]
 simp [resV,gcR,flat]
theorem Cut.start (n:Nat):Cut ⟨[],[],[],[],0,n,false⟩ ⟨0,.nil⟩ ⟨0,.nil⟩ 0 n 0 [] where
 T:=TRel.new []
 S:=SRel.new
 D:=rfl
 len:=rfl
 bg:=fun i b h=>by cases h
 fam:=fun (i:Nat) (b:Blk) (f:Nat) h=>by simp at h
 lo:=rfl
 n:=rfl
 rnd:=rfl
end Go.Pi.Q
set_option maxRecDepth 100000
namespace Go.Pi.Q
open Go Go.Pi

def ints64:List Value→Option (List Int)
 | []=>some []
 | .int .i64 n :: l=>(ints64 l).map (n :: ·)
 | _=>none
theorem ints64_of:∀{l:List Value} {zs:List Int},ints64 l=some zs→l=zs.map (Value.int .i64)
 | [],zs,h=>by cases h; rfl
 | v :: l,zs,h=>by
  unfold ints64 at h
  split at h
  ·cases h; rename_i e; cases e
  ·rename_i n l' e
   cases e
   rw [Option.map_eq_some_iff] at h
   obtain ⟨ys,h1,rfl⟩:=h
   rw [ints64_of h1]; rfl
  ·cases h

def srt (zs:List Int):List Int:=zs.mergeSort fun x y=>decide (x≤y)
theorem srt_len (zs:List Int):(srt zs).length=zs.length:=List.length_mergeSort _

noncomputable def pSort (args:List Value)(H:Heap):Option Out :=
 match args with
 | [.slice (some ⟨b,0,none⟩) l _] =>
  match H[b]? with
  | some ⟨.cells c,true,true,some f⟩ =>
   match ints64 (c.take l) with
   | some zs=>if l≤c.length∧0 < l∧l < 1000000 then some ⟨.ok (.tuple #[]),(kill f H).set b ⟨.cells (splice c 0 ((srt zs).map (Value.int .i64))),true,true,some f⟩,min f b⟩ else none
   | none=>none
  | _=>none
 | _=>none

theorem comp_le (zs:List Int):(Lib.compact zs).length≤zs.length:=by
 unfold Lib.compact Lib.compactUpTo
 rw [List.length_map]
 refine Nat.le_trans (List.length_filter_le _ _) ?_
 rw [List.length_range]; exact Nat.le_refl _
def cmpL (zs:List Int):List Int:=Lib.compact zs++List.replicate (zs.length - (Lib.compact zs).length) 0
theorem cmpL_len (zs:List Int):(cmpL zs).length=zs.length:=by
 have:=comp_le zs
 unfold cmpL
 rw [List.length_append,List.length_replicate]; omega
noncomputable def pCompact (args:List Value)(H:Heap):Option Out :=
 match args with
 | [.slice (some ⟨b,0,none⟩) l m] =>
  match H[b]? with
  | some ⟨.cells c,true,true,some f⟩ =>
   match ints64 (c.take l) with
   | some zs=>if l≤c.length∧0 < l∧l < 1000000 then some ⟨.ok (.slice (some ⟨b,0,none⟩) (Lib.compact zs).length m),(kill f H).set b ⟨.cells (splice c 0 ((cmpL zs).map (Value.int .i64))),true,true,some f⟩,min f b⟩ else none
   | none=>none
  | _=>none
 | _=>none

theorem putRow_heap {w:World}{blk off:Nat}{d:Array Int}{cs:Array Value}{e:TypeId}{fr:Nat×Nat}(h:w.heap[blk]?=some (.cells cs e fr)) :
  (Sort.putRow (Value.int .i64) w blk off d).heap=w.heap.setIfInBounds blk (.cells (Sort.putCells (Value.int .i64) off d cs) e fr):=by
 apply Array.ext_getElem?
 intro k
 simp only [Sort.putRow,Sort.mapBlock,Array.getElem?_modify,Array.getElem?_setIfInBounds]
 have hlt:=(Array.getElem?_eq_some_iff.1 h).1
 by_cases hk:blk=k
 ·subst hk; rw [if_pos rfl,if_pos rfl,if_pos hlt,h]; rfl
 ·rw [if_neg hk,if_neg hk]
theorem putCells_get {off:Nat}{d:Array Int}{cs:Array Value}{k:Nat}:(Sort.putCells (Value.int .i64) off d cs)[k]?=(cs[k]?).map fun x=>if off≤k∧k < off+d.size then .int .i64 d[k - off]! else x:=by
 simp [Sort.putCells,Array.getElem?_mapIdx]

theorem sort_keep {args:List Value}{H:Heap}{out:Out}(h:pSort args H=some out)(hF:Fam H):Fam out.H∧Same out.lo H out.H:=by
 unfold pSort at h
 split at h
 ·split at h
  ·rename_i c f hblk
   split at h
   ·split at h
    ·cases h
     refine ⟨(hF.kill f).set (b0:=⟨.cells c,true,true,some f⟩) (by rw [kill_get,hblk]; simp) rfl,(Same.kill hF f (Nat.min_le_left _ _)).trans (Same.set _ _ _ (Nat.min_le_right _ _))⟩
    ·cases h
   ·cases h
  ·cases h
 ·cases h

theorem compact_keep {args:List Value}{H:Heap}{out:Out}(h:pCompact args H=some out)(hF:Fam H):Fam out.H∧Same out.lo H out.H:=by
 unfold pCompact at h
 split at h
 ·split at h
  ·rename_i c f hblk
   split at h
   ·split at h
    ·cases h
     refine ⟨(hF.kill f).set (b0:=⟨.cells c,true,true,some f⟩) (by rw [kill_get,hblk]; simp) rfl,(Same.kill hF f (Nat.min_le_left _ _)).trans (Same.set _ _ _ (Nat.min_le_right _ _))⟩
    ·cases h
   ·cases h
  ·cases h
 ·cases h

theorem row_emb {P:Program}{N:Nat}{φ:Map}{H:Heap}{w:World}(hE:Emb P N φ H w){b l fm:Nat}{c:List Value}(hblk:H[b]?=some ⟨.cells c,true,true,some fm⟩){zs:List Int}(hz:ints64 (c.take l)=some zs)(hle:l≤c.length){s:Slot}(hs1:φ b=some s) :
  zs.length=l∧s.b < w.heap.size∧Sort.Holds (Value.int .i64) w s.b (s.o+0) zs.toArray∧∀(zs':List Int),zs'.length=zs.length→∀n os,Emb P N φ ((kill fm H).set b ⟨.cells (splice c 0 (zs'.map (Value.int .i64))),true,true,some fm⟩) (Sort.grow (Sort.putRow (Value.int .i64) (Sort.ahead w n) s.b (s.o+0) zs'.toArray) os) ∧
   Ext N φ H w φ ((kill fm H).set b ⟨.cells (splice c 0 (zs'.map (Value.int .i64))),true,true,some fm⟩) (Sort.grow (Sort.putRow (Value.int .i64) (Sort.ahead w n) s.b (s.o+0) zs'.toArray) os):=by
 obtain ⟨ob,o1,o2⟩:=hE.obj b s _ hs1 hblk rfl
 have hbt:=(Array.getElem?_eq_some_iff.1 o1).1
 have hown:=hE.own b s _ hs1 hblk (.inl rfl)
 have hunf:=hE.unf b s _ hs1 hblk (.inl rfl)
 have htk:=ints64_of hz
 have hlen:zs.length=l:=by have:=congrArg List.length htk; simp at this; omega
 cases o2 with
 | cells _ _ cs e fr k1 k2 k3 k4 k5 =>
  have hget:∀(j:Nat) (z:Int),zs[j]?=some z→cs[s.o+j]?=some (.int .i64 z):=fun j z hj=>by
   have hjl:j < l:=by have:=(List.getElem?_eq_some_iff.1 hj).1; omega
   have h1:c[j]?=some (.int .i64 z):=by
    have h2:(c.take l)[j]?=some (.int .i64 z):=by rw [htk,List.getElem?_map,hj]; rfl
    rw [List.getElem?_take_of_lt hjl] at h2; exact h2
   obtain ⟨y,hy1,hy2⟩:=k5 j _ h1
   cases hy2
   exact hy1
  have hH:Sort.Holds (Value.int .i64) w s.b (s.o+0) zs.toArray:=fun j hj=>by
   have hj:j < zs.length:=by simpa using hj
   refine ⟨?_,?_⟩
   ·simp only [World.cell?,o1]
    rw [show s.o+0+j=s.o+j from rfl,hget j zs[j] (List.getElem?_eq_getElem hj)]
    simp [getElem!_pos,hj]
   ·exact hunf j (by omega)
  refine ⟨hlen,hbt,hH,fun zs' hz' n' os=>?_⟩
  have hheap:=putRow_heap (w:=Sort.ahead w n') (off:=s.o+0) (d:=zs'.toArray) o1
  obtain ⟨w1,hw1⟩:∃w1,Sort.putRow (Value.int .i64) (Sort.ahead w n') s.b (s.o+0) zs'.toArray=w1:=⟨_,rfl⟩
  have hfz:∀a,w1.frozen? a=w.frozen? a:=fun a=>by rw [←hw1,Sort.frozen?_putRow,Sort.frozen?_ahead]
  have hos:w1.os=w.os∧w1.output=w.output:=by rw [←hw1]; exact ⟨rfl,rfl⟩
  rw [hw1] at hheap ⊢
  rw [show (Sort.ahead w n').heap=w.heap from rfl] at hheap
  have hsz:w1.heap.size=w.heap.size:=by rw [hheap]; simp
  have hvl:(zs'.map (Value.int .i64)).length=l:=by rw [List.length_map,hz']; exact hlen
  have hlt:=(List.getElem?_eq_some_iff.1 hblk).1
  have E2:Emb P N φ ((kill fm H).set b ⟨.cells (splice c 0 (zs'.map (Value.int .i64))),true,true,some fm⟩) w1:=by
   refine (hE.kill fm).put hs1 (b0:=⟨.cells c,true,true,some fm⟩) (by rw [kill_get,hblk]; simp) rfl ?_ rfl (fun _=>rfl) hheap ?_ hfz
   ·intro k sk bk hk hsk hbk hok' he
    rw [kill_get] at hbk
    cases hHk:H[k]? with
    | none=>rw [hHk] at hbk; cases hbk
    | some b0 =>
     rw [hHk] at hbk
     simp only [Option.map_some,Option.some.injEq] at hbk
     have hok0:b0.ok=true:=by
      subst hbk
      split at hok'
      ·cases hok'
      ·exact hok'
     obtain ⟨q1,q2,q3,q4⟩:=hE.sep b k s sk _ b0 (Ne.symm hk) hs1 hsk hblk hHk rfl hok0 he.symm
     subst hbk
     rw [if_pos ⟨q2,q1⟩] at hok'
     cases hok'
   ·refine .cells _ _ _ _ _ (by rw [splice_length (by omega)]; exact k1) k2 (by simp [Sort.putCells]; exact k3) (splice_one k4 (by simp [one])) fun j x hx=>?_
    have hsp:splice c 0 (zs'.map (Value.int .i64))=zs'.map (Value.int .i64)++c.drop l:=by simp only [splice,hvl]; simp
    rw [hsp] at hx
    rw [putCells_get]
    rcases Nat.lt_or_ge j l with hj | hj
    ·rw [List.getElem?_append_left (by omega),List.getElem?_map] at hx
     have hj2:j < zs'.length:=by omega
     rw [List.getElem?_eq_getElem hj2] at hx
     cases hx
     have hj3:j < zs.length:=by omega
     rw [hget j zs[j] (List.getElem?_eq_getElem hj3)]
     refine ⟨_,rfl,?_⟩
     dsimp only
     rw [if_pos ⟨by omega,by rw [List.size_toArray]; omega⟩]
     have e1:zs'.toArray[s.o+j - (s.o+0)]! = zs'[j]:=by
      rw [show s.o+j - (s.o+0)=j by omega,getElem!_pos _ j (by rw [List.size_toArray]; exact hj2)]; rfl
     rw [e1]
     exact .int _ _
    ·rw [List.getElem?_append_right (by omega),hvl,List.getElem?_drop,show l+(j - l)=j by omega] at hx
     obtain ⟨y,hy1,hy2⟩:=k5 j x hx
     refine ⟨y,?_,hy2⟩
     rw [hy1,Option.map_some,if_neg (by rw [List.size_toArray]; omega)]
  have hgs:(Sort.grow w1 os).heap.size=w1.heap.size+os.size:=by simp
  refine ⟨E2.world (by omega) (fun i s' hi=>Sort.heap_grow_old _ _ (E2.inb i s' hi).2),⟨by rw [List.length_set,kill_length]; exact Nat.le_refl _,fun _ _=>rfl,fun i s' hi hs'=>absurd (hE.inb i s' hs').1 (by omega),by omega,fun j hj hn=>?_,hos⟩⟩
  rw [Sort.heap_grow_old _ _ (by omega),hheap,Array.getElem?_setIfInBounds_ne (fun e=>?_)]
  have:=hn b s hs1 e
  omega

theorem sort_sim {P:Program}{N:Nat}{f:FuncId}(hok:okFn P f=true)
  (hc:∀(blk off cap:Nat) (zs:List Int) (w:World),Sort.Holds (Value.int .i64) w blk off zs.toArray→blk < w.heap.size→zs.length < 4611686018427387904 →
   Calls P f #[.slice (some ⟨blk,off,none⟩) zs.length cap] w fun e w'=>e=.returned (.tuple #[])∧∃n os,w'=Sort.grow (Sort.putRow (Value.int .i64) (Sort.ahead w n) blk off (zs.mergeSort fun x y=>decide (x≤y)).toArray) os) :
  ∀args H out,pSort args H=some out→∀φ w args',Emb P N φ H w→N≤w.heap.size→VRs φ args args'.toList→FnSim P N φ H w args' out (.func f):=by
 intro args H out h φ w args' hE _ hv
 unfold pSort at h
 split at h
 ·rename_i b l m
  split at h
  ·rename_i c fm hblk
   split at h
   ·rename_i zs hz
    split at h
    ·rename_i hle
     obtain ⟨hle,hl0,hl1⟩:=hle
     cases h
     obtain ⟨y,hy,hvy⟩:=VRs.one hv
     cases hvy with
     | sl _ _ _ _ a cp hcap hsl =>
      obtain ⟨s,hs1,rfl,_⟩:=hsl (.inl hl0)
      rw [arr_of hy]
      obtain ⟨hlen,hbt,hH,key⟩:=row_emb hE hblk hz hle hs1
      have hcl:=hc s.b (s.o+0) cp zs w hH hbt (by omega)
      rw [hlen] at hcl
      refine ⟨hok,fun n=>callsIn_wide.2 (hcl.mono ?_)⟩
      rintro ed w' ⟨rfl,n',os,rfl⟩
      obtain ⟨k1,k2⟩:=key (srt zs) (srt_len zs) n' os
      exact ⟨φ,k1,k2,.tuple _ _ rfl (fun j x y hx=>by simp at hx)⟩
    ·cases h
   ·cases h
  ·cases h
 ·cases h
theorem compact_sim {P:Program}{N:Nat}{f:FuncId}(hok:okFn P f=true)
  (hc:∀(blk off cap:Nat) (zs:List Int) (w:World),Sort.Holds (Value.int .i64) w blk off zs.toArray→zs.length≤9223372036854775807→zs.length≤cap →
   Calls P f #[.slice (some ⟨blk,off,none⟩) zs.length cap] w fun e w'=>e=.returned (.slice (some ⟨blk,off,none⟩) (Lib.compact zs).length cap)∧∃q,w'=Sort.putRow (Value.int .i64) (Sort.ahead w q) blk off (Lib.compact zs++List.replicate (zs.length - (Lib.compact zs).length) 0).toArray) :
  ∀args H out,pCompact args H=some out→∀φ w args',Emb P N φ H w→N≤w.heap.size→VRs φ args args'.toList→FnSim P N φ H w args' out (.func f):=by
 intro args H out h φ w args' hE _ hv
 unfold pCompact at h
 split at h
 ·rename_i b l m
  split at h
  ·rename_i c fm hblk
   split at h
   ·rename_i zs hz
    split at h
    ·rename_i hle
     obtain ⟨hle,hl0,hl1⟩:=hle
     cases h
     obtain ⟨y,hy,hvy⟩:=VRs.one hv
     cases hvy with
     | sl _ _ _ _ a cp hcap hsl =>
      obtain ⟨s,hs1,rfl,htop⟩:=hsl (.inl hl0)
      rw [arr_of hy]
      obtain ⟨hlen,hbt,hH,key⟩:=row_emb hE hblk hz hle hs1
      have hcl:=hc s.b (s.o+0) cp zs w hH (by omega) (by omega)
      rw [hlen] at hcl
      refine ⟨hok,fun n=>callsIn_wide.2 (hcl.mono ?_)⟩
      rintro ed w' ⟨rfl,n',rfl⟩
      obtain ⟨k1,k2⟩:=key (cmpL zs) (cmpL_len zs) n' #[]
      rw [Sort.grow_empty] at k1 k2
      have e:Lib.compact zs++List.replicate (l - (Lib.compact zs).length) 0=cmpL zs:=by unfold cmpL; rw [hlen]
      rw [e]
      have hcle:=comp_le zs
      exact ⟨φ,k1,k2,.sl _ _ _ _ _ _ (by omega) fun _=>⟨s,hs1,rfl,htop⟩⟩
    ·cases h
   ·cases h
  ·cases h
 ·cases h
end Go.Pi.Q
