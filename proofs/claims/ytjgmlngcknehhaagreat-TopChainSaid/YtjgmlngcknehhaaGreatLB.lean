/- Walking the small language's code, without fuel: values. -/
import Derived.Laws.Strings
import Derived.Test.YtjgmlngcknehhaaGreatLA
set_option linter.all false
namespace Go.Pi.L
open Go Go.Pi

section
variable {α:Type} {call:CallT} {F:Ex→St→Option α} {k:List It} {s:St}
theorem nl_some (o v d T S D H lo n rnd):nlal call F (some o) v (some d) k ⟨T,S,D,H,lo,n,rnd⟩=nxt call F (some (v d ((sget S d).1+1))) (some d) k ⟨T,sset S d ((sget S d).1+1,o),D,H,lo,n,rnd⟩:=rfl
theorem nn_some (a d T S D H lo n rnd):nnew call F (some a) d k ⟨T,S,D,H,lo,n,rnd⟩=nxt call F (some (a.val H.length)) d k ⟨T,S,D,H++[a.blk H.length],lo,n,rnd⟩:=rfl
noncomputable def stL (call:CallT)(F:Ex→St→Option α)(x:Nat×PObj)(n b off g:Nat)(v:Value)(d:Option Tmp)(k:List It)(s:St):Option α :=
 match x with
 | (g',.cells c)=>if g'=g∧isLoc v=false∧v.cells.toList.all one=true∧v.cells.size=n∧off+n≤c.length then nxt call F (some undef) d k { s with S:=sset s.S b (g,.cells (splice c off v.cells.toList)) } else none
 | _=>none
theorem sto_loc (n b off g v d T S D H lo nn rnd):sto call F n (.pointer (some ⟨b,off,some g⟩)) v d k ⟨T,S,D,H,lo,nn,rnd⟩=stL call F (sget S b) n b off g v d k ⟨T,S,D,H,lo,nn,rnd⟩:=by
 simp only [sto,stCells,stL]
 obtain ⟨g',o⟩:=sget S b
 by_cases hc:(isLoc v||v.cells.size != n||!v.cells.toList.all one)=true
 ·rw [if_pos hc]
  simp only [Bool.or_eq_true,bne_iff_ne,ne_eq,Bool.not_eq_true'] at hc
  cases o with
  | cells c =>
   simp only
   rw [if_neg]
   rintro ⟨_,h1,h2,h3,_⟩
   rcases hc with (hc | hc) | hc
   ·rw [h1] at hc; cases hc
   ·exact hc h3
   ·rw [h2] at hc; cases hc
  | _=>rfl
 ·rw [if_neg hc]
  simp only [Bool.or_eq_true,bne_iff_ne,ne_eq,Bool.not_eq_true',not_or,Bool.not_eq_true,Decidable.not_not,Bool.not_eq_false] at hc
  cases o with
  | cells c =>
   simp only
   by_cases hg:g'=g∧off+v.cells.toList.length≤c.length
   ·rw [if_pos hg,if_pos ⟨hg.1,hc.1.1,hc.2,hc.1.2,by have:=hg.2; rw [←hc.1.2]; simpa using this⟩]

   ·rw [if_neg hg,if_neg]
    rintro ⟨h1,_,_,h3,h4⟩
    exact hg ⟨h1,by rw [←h3] at h4; simpa using h4⟩
  | _=>rfl
theorem stL_ok (c n b off g v d T S D H lo nn rnd)(hl:isLoc v=false)(h1:v.cells.toList.all one=true)(hn:v.cells.size=n)(ho:off+n≤c.length) :
  stL call F (g,.cells c) n b off g v d k ⟨T,S,D,H,lo,nn,rnd⟩=nxt call F (some undef) d k ⟨T,sset S b (g,.cells (splice c off v.cells.toList)),D,H,lo,nn,rnd⟩:=by
 simp only [stL]; rw [if_pos ⟨trivial,hl,h1,hn,ho⟩]
noncomputable def stH (call:CallT)(F:Ex→St→Option α)(x:Option Blk)(n b off:Nat)(v:Value)(d:Option Tmp)(k:List It)(s:St):Option α :=
 match x with
 | some ⟨.cells c,true,true,none⟩=>if isLoc v=false∧v.cells.toList.all one=true∧v.cells.size=n∧off+n≤c.length then nxt call F (some undef) d k { s with H:=s.H.set b { obj:=.cells (splice c off v.cells.toList) },lo:=min s.lo b } else none
 | _=>sto call F n (.pointer (some ⟨b,off,none⟩)) v d k s
theorem sto_heap (n b off v d T S D H lo nn rnd):sto call F n (.pointer (some ⟨b,off,none⟩)) v d k ⟨T,S,D,H,lo,nn,rnd⟩=stH call F (H[b]?) n b off v d k ⟨T,S,D,H,lo,nn,rnd⟩:=by
 unfold stH
 split
 ·rename_i c hx
  simp only [sto,stCells,hx]
  by_cases hc:(isLoc v||v.cells.size != n||!v.cells.toList.all one)=true
  ·rw [if_pos hc]
   simp only [Bool.or_eq_true,bne_iff_ne,ne_eq,Bool.not_eq_true'] at hc
   rw [if_neg]
   rintro ⟨h1,h2,h3,_⟩
   rcases hc with (hc | hc) | hc
   ·rw [h1] at hc; cases hc
   ·exact hc h3
   ·rw [h2] at hc; cases hc
  ·rw [if_neg hc]
   simp only [Bool.or_eq_true,bne_iff_ne,ne_eq,Bool.not_eq_true',not_or,Bool.not_eq_true,Decidable.not_not,Bool.not_eq_false] at hc
   by_cases hg:off+v.cells.toList.length≤c.length
   ·rw [if_pos hg,if_pos ⟨hc.1.1,hc.2,hc.1.2,by rw [←hc.1.2]; simpa using hg⟩]
    rfl
   ·rw [if_neg hg,if_neg]
    rintro ⟨_,_,h3,h4⟩
    exact hg (by rw [←h3] at h4; simpa using h4)
 ·rfl
theorem stH_ok (c n b off v d T S D H lo nn rnd)(hl:isLoc v=false)(h1:v.cells.toList.all one=true)(hn:v.cells.size=n)(ho:off+n≤c.length) :
  stH call F (some ⟨.cells c,true,true,none⟩) n b off v d k ⟨T,S,D,H,lo,nn,rnd⟩=nxt call F (some undef) d k ⟨T,S,D,H.set b { obj:=.cells (splice c off v.cells.toList) },min lo b,nn,rnd⟩:=by
 simp only [stH]; rw [if_pos ⟨hl,h1,hn,ho⟩]
theorem pan_i (F:Ex→St→Option α)(t v s):pan F (.iface t v) s=F (.panic (.iface t v)) s:=rfl
end

end Go.Pi.L
namespace Go.Pi.L
open Go Go.Pi

theorem sget_sset_same (S:List (Nat×PObj))(d:Nat)(x:Nat×PObj):sget (sset S d x) d=x:=by
 induction d generalizing S with
 | zero=>cases S <;> rfl
 | succ d ih=>cases S <;> exact ih _
theorem sget_nil (e:Nat):sget [] e=(0,.cells []):=by cases e <;> rfl
theorem sget_sset_ne (S:List (Nat×PObj)){d e:Nat}(x:Nat×PObj)(h:e≠d):sget (sset S d x) e=sget S e:=by
 induction d generalizing S e with
 | zero =>
  cases e with
  | zero=>exact absurd rfl h
  | succ e=>cases S <;> (try rw [sget_nil]) <;> simp [sset,sget,sget_nil]
 | succ d ih =>
  cases e with
  | zero=>cases S <;> rfl
  | succ e =>
   cases S with
   | nil=>simp only [sset,sget]; rw [ih [] (fun h'=>h (by rw [h'])),sget_nil]
   | cons a S=>simp only [sset,sget]; exact ih S (fun h'=>h (by rw [h']))
theorem sget_sset (S:List (Nat×PObj))(d e:Nat)(x:Nat×PObj):sget (sset S d x) e=if e=d then x else sget S e:=by
 by_cases h:e=d
 ·subst h; rw [if_pos rfl]; exact sget_sset_same _ _ _
 ·rw [if_neg h]; exact sget_sset_ne _ _ h

section
variable {α:Type} {call:CallT} {F:Ex→St→Option α} {k:List It} {s:St} {c:PCode}
theorem loop_ind {G:Option α→Prop}(I:Nat→St→Prop)(n:Nat)
  (step:∀c' j s,j < n→I j s→(∀s',I (j+1) s'→G (mach call F (.loop c' :: k) none s'))→G (mach call F (.code c :: .loop c' :: k) none s))
  (last:∀c' s,I n s→G (mach call F (.code c :: .loop c' :: k) none s)) (j:Nat) (s:St) (hj:j≤n) (hI:I j s):G (mach call F (.loop c :: k) none s):=by
 obtain ⟨r,hr⟩:∃r,j+r=n:=⟨n - j,by omega⟩
 induction r generalizing j s with
 | zero =>
  obtain rfl:j=n:=by omega
  rw [l_succ]; exact last c s hI
 | succ r ih =>
  rw [l_succ]
  exact step c j s (by omega) hI fun s' hs'=>ih (j+1) s' (by omega) hs' (by omega)
end

def Yes {α:Type}(r:Option α)(Q:α→Prop):Prop:=∃o,r=some o∧Q o
theorem yes_some {α:Type}(o:α)(Q:α→Prop):Yes (some o) Q=Q o:=propext ⟨fun ⟨_,h,hq⟩=>by cases h; exact hq,fun h=>⟨o,rfl,h⟩⟩
theorem Yes.eq {α:Type}{r:Option α}{o:α}(h:Yes r (·=o)):r=some o:=by obtain ⟨_,h,rfl⟩:=h; exact h
theorem Yes.mono {α:Type}{r:Option α}{Q Q':α→Prop}(h:Yes r Q)(hq:∀o,Q o→Q' o):Yes r Q':=by obtain ⟨o,h,h'⟩:=h; exact ⟨o,h,hq _ h'⟩
section
variable {PP:FuncId→Option PFunc} {prims:Prims}
theorem run_y {f:FuncId}{pf:PFunc}(hp:prims f=none)(hPP:PP f=some pf){args:List Value}(hn:args.length≤pf.n)(hrc:pf.rc=none){H:Heap}{Q:Out→Prop}
  (h:Yes (mach (runL PP prims) (fEnd PP prims (runL PP prims) pf H) [.code pf.body] none ⟨args,[],[],H,H.length,pf.n,false⟩) Q):Yes (runL PP prims (.func f) args H) Q:=by
 obtain ⟨o,h,hq⟩:=h
 exact ⟨o,run_k hp hPP hn hrc h,hq⟩
variable {α:Type} {call:CallT} {F:Ex→St→Option α} {k:List It} {s:St}
end

structure Up (H H':Heap):Prop where
 len:H.length≤H'.length
 old:∀i,i < H.length→H'[i]?=H[i]?
theorem Up.refl (H:Heap):Up H H:=⟨Nat.le_refl _,fun _ _=>rfl⟩
theorem Up.trans {A B C:Heap}(h:Up A B)(h':Up B C):Up A C:=⟨Nat.le_trans h.len h'.len,fun i hi=>by rw [h'.old i (Nat.lt_of_lt_of_le hi h.len),h.old i hi]⟩
theorem Up.app {A H l:Heap}(h:Up A H):Up A (H++l):=⟨by have:=h.len; simp; omega,fun i hi=>by rw [List.getElem?_append_left (Nat.lt_of_lt_of_le hi h.len)]; exact h.old i hi⟩
theorem Up.set {A H:Heap}{i:Nat}{b:Blk}(h:Up A H)(hi:A.length≤i):Up A (H.set i b):=⟨by have:=h.len; simp; omega,fun j hj=>by rw [List.getElem?_set_ne (by omega)]; exact h.old j hj⟩
structure Grow (H H':Heap):Prop where
 len:H.length≤H'.length
 hc:∀{b:Nat} {c:List Value},hcells H b=some c→hcells H' b=some c
theorem Up.grow {H H':Heap}(g:Up H H'):Grow H H':=⟨g.len,fun {b c} h=>by
 have hl:=hc_lt h
 unfold hcells at h ⊢
 rw [g.old b hl]; exact h⟩
theorem Grow.refl (H:Heap):Grow H H:=⟨Nat.le_refl _,fun h=>h⟩
theorem Grow.trans {A B C:Heap}(h:Grow A B)(h':Grow B C):Grow A C:=⟨Nat.le_trans h.len h'.len,fun k=>h'.hc (h.hc k)⟩
theorem grow_app {A H l:Heap}(h:Grow A H):Grow A (H++l):=h.trans (Up.refl H).app.grow
theorem grow_tip {H:Heap}{i:Nat}{c:List Value}{t t':Bool}{f f':Option Nat}(h:H[i]?=some ⟨.cells c,true,t,f⟩):Grow H (H.set i ⟨.cells c,true,t',f'⟩):=⟨by simp,fun {b d} hb=>by
 by_cases hi:b=i
 ·subst hi
  have hl:=hc_lt hb
  unfold hcells at hb ⊢
  rw [h] at hb
  rw [List.getElem?_set_self hl]; exact hb
 ·unfold hcells at hb ⊢
  rw [List.getElem?_set_ne (fun h=>hi h.symm)]; exact hb⟩

structure Sl {β:Type}(H:Heap)(k:Nat)(enc:β→List Value)(a:Option Addr)(l:Nat)(xs:List β):Prop where
 len:xs.length=l
 loc:a=none∨∃b off,a=some ⟨b,off,none⟩
 rd:∀j x,xs[j]?=some x→∃b off c,a=some ⟨b,off,none⟩∧hcells H b=some c∧(c.drop (off+j*k)).take k=enc x
theorem Sl.grow {β:Type}{H H':Heap}{k:Nat}{enc:β→List Value}{a:Option Addr}{l:Nat}{xs:List β}(h:Sl H k enc a l xs)(g:Grow H H'):Sl H' k enc a l xs :=
 ⟨h.len,h.loc,fun j x hx=>by obtain ⟨b,off,c,h1,h2,h3⟩:=h.rd j x hx; exact ⟨b,off,c,h1,g.hc h2,h3⟩⟩
theorem Sl.isLoc {β:Type}{H:Heap}{k:Nat}{enc:β→List Value}{a:Option Addr}{l:Nat}{xs:List β}(h:Sl H k enc a l xs)(c:Nat):isLoc (.slice a l c)=false:=by
 rcases h.loc with rfl | ⟨b,off,rfl⟩ <;> rfl

structure At (H:Heap)(b off:Nat)(e:List Value):Prop where
 one:∀i v,e[i]?=some v→∀H',Grow H H'→rdO (hcells H' b) (off+i) none=some v
 all:∀H',Grow H H'→rdO (hcells H' b) off (some e.length)=some (.agg e.toArray)
theorem take_len {c:List Value}{o k:Nat}{e:List Value}(h:(c.drop o).take k=e)(hk:e.length=k):o+k≤c.length∨k=0:=by
 have:=congrArg List.length h
 simp at this
 omega
theorem Sl.at {β:Type}{H:Heap}{k:Nat}{enc:β→List Value}{a:Option Addr}{l:Nat}{xs:List β}(h:Sl H k enc a l xs)(hk:∀x,(enc x).length=k)(k0:0 < k){j:Nat}(hj:j < l) :
  ∃b off x,a=some ⟨b,off,none⟩∧xs[j]?=some x∧At H b (off+j*k) (enc x):=by
 have hj':j < xs.length:=by rw [h.len]; exact hj
 obtain ⟨b,off,c,h1,h2,h3⟩:=h.rd j xs[j] (List.getElem?_eq_getElem hj')
 refine ⟨b,off,xs[j],h1,List.getElem?_eq_getElem hj',⟨fun i v hv H' g=>?_,fun H' g=>?_⟩⟩
 ·rw [g.hc h2,rdO_some,rd_one]
  rw [←h3] at hv
  rw [List.getElem?_take] at hv
  split at hv
  ·rw [List.getElem?_drop] at hv; exact hv
  ·cases hv
 ·rw [g.hc h2,rdO_some,rd_n _ _ _ (by have:=take_len h3 (hk _); rw [hk]; omega),hk,h3]

theorem At.v0 {H:Heap}{b off:Nat}{x:Value}{e:List Value}(h:At H b off (x :: e)):∀H',Grow H H'→rdO (hcells H' b) off none=some x:=h.one 0 x rfl
theorem At.v1 {H:Heap}{b off:Nat}{x y:Value}{e:List Value}(h:At H b off (x :: y :: e)):∀H',Grow H H'→rdO (hcells H' b) (off+1) none=some y:=h.one 1 y rfl
theorem At.v2 {H:Heap}{b off:Nat}{x y z:Value}{e:List Value}(h:At H b off (x :: y :: z :: e)):∀H',Grow H H'→rdO (hcells H' b) (off+2) none=some z:=h.one 2 z rfl

theorem vv_iaN (k b off j:Nat)(l c:Nat)(i)(h1:j < l):vv (.ia k) [.slice (some ⟨b,off,none⟩) l c,.int i (j:Nat)]=some (.pointer (some ⟨b,off+j*k,none⟩)):=by
 rw [vv_ia _ _ _ _ _ _ _ (Int.natCast_nonneg _) (by omega),Int.toNat_natCast]
theorem wrap_succ (j:Nat)(h:j < 1000000000):IntKind.wrap .i64 ((j:Int)+1)=((j+1:Nat):Int):=by rw [wrap_id _ (by omega) (by omega)]; omega
theorem lt_nat (a b:Nat):((a:Int) < (b:Int))=(a < b):=propext (by omega)
end Go.Pi.L
namespace Go.Pi.L
open Go Go.Pi
section
variable {α:Type} {call:CallT} {F:Ex→St→Option α} {k:List It} {s:St}

def mesL (H:Heap)(sh:Shape)(v:Value):Option (List (Value×Value)) :=
 match v with
 | .map none=>some []
 | .map (some i)=>(match H[i]? with | some ⟨.map sh' es,true,_,_⟩=>if sh'=sh then some es else none | _=>none)
 | _=>none
theorem mes_ok {H:Heap}{i:Nat}{sh es t f}(h:H[i]?=some ⟨.map sh es,true,t,f⟩):mesL H sh (.map (some i))=some es:=by simp [mesL,h]
def mlkV (zero:Value)(ok:Bool)(r:Option (Nat×Value)):Value :=
 match r with
 | some (_,v)=>if ok then .tuple [v,.bool true].toArray else v
 | none=>if ok then .tuple [zero,.bool false].toArray else zero
def mlkR (es:Option (List (Value×Value)))(sh:Shape)(zero:Value)(ok:Bool)(key:Value):Option Value :=
 if sh.has key=true then es.map fun es=>mlkV zero ok (kfind key es) else none
theorem g_mlk (d sh zero ok m key):go call F d (.mlk sh zero ok m key) k s=nxt call F (mlkR (mesL s.H sh (ev s.T m)) sh zero ok (ev s.T key)) d k s:=by
 simp only [go,opR,mlkR]
 by_cases hk:sh.has (ev s.T key)=true
 ·simp only [if_pos hk]
  have fin:∀es:List (Value×Value),(match (match kfind (ev s.T key) es with
    | some (_,v)=>putO s d (if ok=true then Value.tuple #[v,Value.bool true] else v)
    | none=>putO s d (if ok=true then Value.tuple #[zero,Value.bool false] else zero)) with
   | some (.normal,s1)=>mach call F k none s1
   | some (e,s1)=>F e s1
   | none=>none)=nxt call F (some (mlkV zero ok (kfind (ev s.T key) es))) d k s:=fun es=>by
   simp only [mlkV]
   cases kfind (ev s.T key) es with
   | none=>exact go_putO
   | some y=>obtain ⟨j,v⟩:=y; exact go_putO
  unfold mesL
  cases ev s.T m with
  | map i =>
   cases i with
   | none=>exact fin []
   | some i =>
    simp only
    cases s.H[i]? with
    | none=>rfl
    | some b =>
     obtain ⟨o,okb,tip,fam⟩:=b
     cases o with
     | map sh' es =>
      cases okb <;> simp only
      ·rfl
      ·by_cases hs:sh'=sh
       ·simp only [if_pos hs,Option.map_some]; exact fin es
       ·simp only [if_neg hs]; rfl
     | _=>rfl
  | _=>rfl
 ·simp only [if_neg hk]; rfl
theorem mlkR_ok (es sh zero ok key)(hk:sh.has key=true):mlkR (some es) sh zero ok key=some (mlkV zero ok (kfind key es)):=by simp [mlkR,hk]
def upd (key v:Value)(es:List (Value×Value)):List (Value×Value) :=
 match kfind key es with
 | some (j,_)=>es.set j (key,v)
 | none=>es++[(key,v)]
noncomputable def mupS (call:CallT)(F:Ex→St→Option α)(x:Option Blk)(sh:Shape)(i:Nat)(key v:Value)(d:Option Tmp)(k:List It)(s:St):Option α :=
 match x with
 | some ⟨.map sh' es,true,true,none⟩=>if sh'=sh∧sh.has key=true∧isLoc v=false then nxt call F (some undef) d k { s with H:=s.H.set i { obj:=.map sh (upd key v es) },lo:=min s.lo i } else none
 | _=>none
noncomputable def mupV (call:CallT)(F:Ex→St→Option α)(m:Value)(sh:Shape)(key v:Value)(d:Option Tmp)(k:List It)(s:St):Option α :=
 match m with
 | .map (some i)=>mupS call F (s.H[i]?) sh i key v d k s
 | _=>none
theorem g_mup (d sh m key x):go call F d (.mup sh m key x) k s=mupV call F (ev s.T m) sh (ev s.T key) (ev s.T x) d k s:=by
 simp only [go,opR,mupV]
 by_cases hk:sh.has (ev s.T key)=true∧isLoc (ev s.T x)=false
 ·simp only [if_pos hk]
  cases ev s.T m with
  | map i =>
   cases i with
   | none=>rfl
   | some i =>
    simp only [mupS]
    cases hH:s.H[i]? with
    | none=>rfl
    | some b =>
     obtain ⟨o,okb,tip,fam⟩:=b
     cases o with
     | map sh' es =>
      cases okb <;> cases tip <;> cases fam <;> simp only
      by_cases hs:sh'=sh
      ·simp only [hs,hk,and_self,if_true,upd,setB]
       cases kfind (ev s.T key) es with
       | none=>exact go_putO
       | some y=>obtain ⟨j,v⟩:=y; exact go_putO
      ·simp only [hs,false_and,if_false]
     | _=>rfl
  | _=>rfl
 ·simp only [if_neg hk]
  cases ev s.T m with
  | map i =>
   cases i with
   | none=>rfl
   | some i =>
    simp only [mupS]
    split
    ·rw [if_neg (fun h=>hk ⟨h.2.1,h.2.2⟩)]
    ·rfl
  | _=>rfl
theorem mup_v (i sh key v d T S D H lo n rnd):mupV call F (.map (some i)) sh key v d k ⟨T,S,D,H,lo,n,rnd⟩=mupS call F (H[i]?) sh i key v d k ⟨T,S,D,H,lo,n,rnd⟩:=rfl
theorem mup_ok (sh es i key v d T S D H lo n rnd)(hk:sh.has key=true)(hv:isLoc v=false) :
  mupS call F (some ⟨.map sh es,true,true,none⟩) sh i key v d k ⟨T,S,D,H,lo,n,rnd⟩=nxt call F (some undef) d k ⟨T,S,D,H.set i { obj:=.map sh (upd key v es) },min lo i,n,rnd⟩:=by
 simp only [mupS]; rw [if_pos ⟨trivial,hk,hv⟩]

theorem Sl.cut {β:Type}{H:Heap}{kk:Nat}{enc:β→List Value}{a:Option Addr}{l:Nat}{xs:List β}(h:Sl H kk enc a l xs)(m lo hi:Nat)(h1:lo≤hi)(h2:hi≤l) :
  ∃a' m',VOp.ev.slc kk a l m lo hi=some (.slice a' (hi - lo) m')∧Sl H kk enc a' (hi - lo) ((xs.drop lo).take (hi - lo)):=by
 have hlen:=h.len
 have e0:(0:Int)≤lo∧(lo:Int)≤hi∧(hi:Int)≤l:=by omega
 have em:((xs.drop lo).take (hi - lo)).length=hi - lo:=by simp; omega
 unfold VOp.ev.slc
 simp only [if_pos e0]
 rcases h.loc with rfl | ⟨b,off,rfl⟩
 ·have hx:xs=[]:=by
   cases xs with
   | nil=>rfl
   | cons x xs=>obtain ⟨b,off,c,h1,_⟩:=h.rd 0 x rfl; cases h1
  subst hx
  simp only [List.length_nil] at hlen
  obtain rfl:hi=0:=by omega
  obtain rfl:lo=0:=by omega
  exact ⟨none,0,rfl,⟨rfl,.inl rfl,fun j x hx=>by simp at hx⟩⟩
 ·simp only
  by_cases hlt:(lo:Int) < l
  ·simp only [if_pos hlt]
   refine ⟨_,_,by rw [show ((hi:Int) - lo).toNat=hi - lo by omega],⟨em,.inr ⟨_,_,rfl⟩,fun j x hx=>?_⟩⟩
   rw [List.getElem?_take] at hx
   split at hx
   ·rw [List.getElem?_drop] at hx
    obtain ⟨b',off',c,q1,q2,q3⟩:=h.rd _ _ hx
    cases q1
    refine ⟨_,_,c,rfl,q2,?_⟩
    rw [Int.toNat_natCast,Nat.add_assoc,←Nat.add_mul]
    exact q3
   ·cases hx
  ·simp only [if_neg hlt]
   obtain rfl:hi=lo:=by omega
   refine ⟨_,0,by rw [Nat.sub_self],⟨em,.inr ⟨_,_,rfl⟩,fun j x hx=>?_⟩⟩
   simp at hx

noncomputable def rfS (call:CallT)(F:Ex→St→Option α)(x:Option Blk)(H:Heap)(lo:Nat)(k:List It)(s:St):Option α :=
 match x with
 | some ⟨.loop n' T' ps' as' bd' d' st pend,true,true,none⟩ =>
  if st=.busy then none else
  match pend.getD .normal with
  | .normal=>mach call F k none { s with H:=H.set (s.H.length+1) { obj:=.loop n' T' ps' as' bd' d' .exhausted pend },lo:=min s.lo lo,D:=.coll s.H.length :: s.D }
  | .exit i=>mach call F k (some i) { s with H:=H.set (s.H.length+1) { obj:=.loop n' T' ps' as' bd' d' .exhausted pend },lo:=min s.lo lo,D:=.coll s.H.length :: s.D }
  | e=>F e { s with H:=H.set (s.H.length+1) { obj:=.loop n' T' ps' as' bd' d' .exhausted pend },lo:=min s.lo lo,D:=.coll s.H.length :: s.D }
 | _=>none
noncomputable def rfR (call:CallT)(F:Ex→St→Option α)(o:Option Out)(k:List It)(s:St):Option α :=
 match o with
 | some ⟨.ok _,H,lo⟩=>rfS call F (H[s.H.length+1]?) H lo k s
 | _=>none
noncomputable def rfA (call:CallT)(F:Ex→St→Option α)(fa:Option (Fn×List Value))(ps:List Tmp)(as bd:PCode)(k:List It)(s:St):Option α :=
 match fa with
 | some (.func g,args)=>rfR call F (call (.func g) args (s.H++[{ obj:=.dfr false }]++[{ obj:=.loop s.n (s.T.map deloc) ps as bd s.H.length .ready none }])) k s
 | _=>none
theorem k_rf (f ps as bd)(hr:s.rnd=false):mach call F (.code (.rf f ps as bd) :: k) none s=rfA call F (fnArgs (ev s.T f) [.func (.yield (s.H.length+1)) [].toArray [].toArray]) ps as bd k s:=by
 obtain ⟨T,S,D,H0,lo0,n,rnd⟩:=s
 simp only at hr
 subst hr
 simp only [mach,codeL,rfA]
 cases fnArgs (ev T f) [.func (.yield (H0.length+1)) #[] #[]] with
 | none=>rfl
 | some y =>
  obtain ⟨g,args⟩:=y
  cases g with
  | func g =>
   simp only [Bool.false_eq_true,if_false,rfR]
   cases call (.func g) args (H0++[{ obj:=.dfr false }]++[{ obj:=.loop n (T.map deloc) ps as bd H0.length .ready none }]) with
   | none=>rfl
   | some o =>
    obtain ⟨r,H,lo⟩:=o
    cases r with
    | panic v=>rfl
    | ok v =>
     simp only [rfS]
     cases H[H0.length+1]? with
     | none=>rfl
     | some b =>
      obtain ⟨o,okb,tip,fam⟩:=b
      cases o with
      | loop n' T' ps' as' bd' d' st pend =>
       cases okb <;> cases tip <;> cases fam <;> simp only
       by_cases hs:st=.busy
       ·simp only [if_pos hs]
       ·simp only [if_neg hs]
        cases pend with
        | none=>rfl
        | some e=>cases e <;> rfl
      | _=>rfl
  | _=>rfl
end
end Go.Pi.L
namespace Go.Pi.L
open Go Go.Pi

structure Bld (n0:Nat)(H:Heap)(k:Nat)(a:Option Addr)(l m:Nat)(c:List Value):Prop where
 len:c.length=l*k
 ok:(a=none∧l=0∧m=0)∨∃b f,a=some ⟨b,0,none⟩∧m=k∧n0≤b∧n0≤f∧H[b]?=some ⟨.cells c,true,true,some f⟩
theorem Bld.nil (n0:Nat)(H:Heap)(k:Nat):Bld n0 H k none 0 0 []:=⟨by simp,.inl ⟨rfl,rfl,rfl⟩⟩
theorem Bld.loc {n0:Nat}{H:Heap}{k:Nat}{a:Option Addr}{l m:Nat}{c:List Value}(h:Bld n0 H k a l m c):a=none∨∃b off,a=some ⟨b,off,none⟩:=by
 rcases h.ok with ⟨h,_⟩ | ⟨b,f,h,_⟩
 ·exact .inl h
 ·exact .inr ⟨b,0,h⟩
theorem Bld.isLoc {n0:Nat}{H:Heap}{k:Nat}{a:Option Addr}{l m:Nat}{c:List Value}(h:Bld n0 H k a l m c)(x y:Nat):Go.Pi.isLoc (.slice a x y)=false:=by
 rcases h.loc with rfl | ⟨b,off,rfl⟩ <;> rfl
theorem Bld.up {n0:Nat}{H H':Heap}{k:Nat}{a:Option Addr}{l m:Nat}{c:List Value}(h:Bld n0 H k a l m c)(g:Up H H'):Bld n0 H' k a l m c :=
 ⟨h.len,by
  rcases h.ok with h | ⟨b,f,h1,h2,h3,h4,h5⟩
  ·exact .inl h
  ·exact .inr ⟨b,f,h1,h2,h3,h4,by rw [g.old b (List.getElem?_eq_some_iff.1 h5).1]; exact h5⟩⟩

structure Grown (H H1:Heap)(a:Option Addr):Prop where
 len:H1.length=H.length+1
 grow:Grow H H1
 old:∀i,i < H.length→(∀b,a=some ⟨b,0,none⟩→i≠b)→H1[i]?=H[i]?
theorem Grown.up {H0 H H1:Heap}{n0 k l m:Nat}{a:Option Addr}{c:List Value}(h:Bld n0 H k a l m c)(g:Grown H H1 a)(hu:Up H0 H)(hn:H0.length≤n0):Up H0 H1 :=
 ⟨by have:=hu.len; have:=g.len; omega,fun i hi=>by
  rw [g.old i (Nat.lt_of_lt_of_le hi hu.len) (fun b hb=>by
   rcases h.ok with ⟨h,_⟩ | ⟨b',f,h1,_,h3,_⟩
   ·rw [hb] at h; cases h
   ·rw [hb] at h1; cases h1; omega),hu.old i hi]⟩

theorem Bld.app {n0:Nat}{H:Heap}{k:Nat}{a:Option Addr}{l m:Nat}{c:List Value}(h:Bld n0 H k a l m c)(hk:0 < k)(hk2:k < 1000)(hl:l < 1000000)(hn:n0≤H.length)(new:List Value)(hnew:new.length=k) :
  ∃H1,(∀{α:Type} (call:CallT) (F:Ex→St→Option α) d kk T S D lo n rnd,ap1 call F (some new) (.slice a l m) k d kk ⟨T,S,D,H,lo,n,rnd⟩=nxt call F (some (.slice (some ⟨H.length,0,none⟩) (l+1) k)) d kk ⟨T,S,D,H1,lo,n,rnd⟩) ∧
   Bld n0 H1 k (some ⟨H.length,0,none⟩) (l+1) k (c++new)∧Grown H H1 a∧(∀b,a=some ⟨b,0,none⟩→b < H.length):=by
 have he:new.isEmpty=false:=by cases new with | nil=>simp at hnew; omega | cons=>rfl
 have hlen:=h.len
 rcases h.ok with ⟨rfl,rfl,rfl⟩ | ⟨b,f,rfl,rfl,h3,h4,h5⟩
 ·have hc:c=[]:=by simpa using hlen
  subst hc
  refine ⟨H++[⟨.cells new,true,true,some H.length⟩],fun call F d kk T S D lo n rnd=>?_,⟨by simp [hnew],.inr ⟨_,H.length,rfl,rfl,hn,hn,by simp⟩⟩,⟨by simp,(Up.refl H).app.grow,fun i hi _=>by rw [List.getElem?_append_left hi]⟩,fun b hb=>by cases hb⟩
  rw [apA_nil _ _ _ _ _ _ _ _ _ _ (by rw [hnew]; exact Nat.mod_self _) (by omega) he,hnew,Nat.div_self hk]
 ·have hb:=(List.getElem?_eq_some_iff.1 h5).1
  refine ⟨H.set b ⟨.cells c,true,false,some f⟩++[⟨.cells (c++new),true,true,some f⟩],fun call F d kk T S D lo n rnd=>?_,⟨by simp [hnew,hlen,Nat.add_mul],.inr ⟨_,f,rfl,rfl,hn,h4,?_⟩⟩,⟨by simp,?_,fun i hi hne=>?_⟩,fun b' hb'=>by cases hb'; exact hb⟩
  ·rw [apA_tip]
   simp only [h5]
   rw [apB_ok _ _ _ _ _ _ _ _ _ _ _ _ _ _ (by rw [hnew]; exact Nat.mod_self _) (by omega) he hk hlen.symm,hnew,Nat.div_self hk]
  ·rw [List.getElem?_append_right (by simp)]; simp
  ·exact grow_app (grow_tip h5)
  ·rw [List.getElem?_append_left (by simpa using hi),List.getElem?_set_ne (fun h=>hne b rfl h.symm)]

def cells {β:Type}(enc:β→List Value)(xs:List β):List Value:=(xs.map enc).flatten
theorem cells_app {β:Type}(enc:β→List Value)(xs:List β)(x:β):cells enc (xs++[x])=cells enc xs++enc x:=by simp [cells]
theorem cells_get {β:Type}{enc:β→List Value}{k:Nat}(hk:∀x,(enc x).length=k):∀{xs:List β} {j:Nat} {x:β},xs[j]?=some x→((cells enc xs).drop (j*k)).take k=enc x
 | [],j,x,h=>by simp at h
 | y :: xs,0,x,h=>by
  simp at h; subst h
  simp only [cells,List.map_cons,List.flatten_cons,Nat.zero_mul,List.drop_zero]
  rw [List.take_append_of_le_length (by rw [hk]; exact Nat.le_refl _),List.take_of_length_le (by rw [hk]; exact Nat.le_refl _)]
 | y :: xs,j+1,x,h=>by
  simp at h
  simp only [cells,List.map_cons,List.flatten_cons]
  rw [List.drop_append,List.drop_eq_nil_of_le (by rw [hk,Nat.add_mul]; omega),List.nil_append,hk,Nat.add_mul,Nat.one_mul,Nat.add_sub_cancel]
  exact cells_get hk h
theorem cells_len {β:Type}{enc:β→List Value}{k:Nat}(hk:∀x,(enc x).length=k)(xs:List β):(cells enc xs).length=xs.length*k:=by
 induction xs with
 | nil=>simp [cells]
 | cons x xs ih=>simp only [cells,List.map_cons,List.flatten_cons,List.length_append,List.length_cons] at ih ⊢; rw [ih,hk,Nat.add_mul]; omega
theorem Bld.sl {β:Type}{enc:β→List Value}{n0:Nat}{H:Heap}{k:Nat}{a:Option Addr}{l m:Nat}{xs:List β}(h:Bld n0 H k a l m (cells enc xs))(hk:∀x,(enc x).length=k)(hk0:0 < k):Sl H k enc a l xs:=by
 have hl:xs.length=l:=by have:=h.len; rw [cells_len hk] at this; exact Nat.eq_of_mul_eq_mul_right hk0 this
 refine ⟨hl,h.loc,fun j x hx=>?_⟩
 rcases h.ok with ⟨_,h1,_⟩ | ⟨b,f,h1,_,_,_,h5⟩
 ·have:=(List.getElem?_eq_some_iff.1 hx).1; omega
 ·exact ⟨b,0,cells enc xs,h1,by simp [hcells,h5],by rw [Nat.zero_add]; exact cells_get hk hx⟩

theorem gc_ite {H H1:Heap}{v:Value}{lo:Nat}(h:H.length≤lo):gcR H (.ok v) H1 lo=if flat 4 v=true then ⟨.ok v,H,H.length⟩ else ⟨.ok v,H1,lo⟩:=by
 unfold gcR
 by_cases hf:flat 4 v=true
 ·rw [if_pos ⟨h,hf⟩,if_pos hf]
 ·rw [if_neg (fun h=>hf h.2),if_neg hf]
def QS {β:Type}(H:Heap)(k:Nat)(enc:β→List Value)(xs:List β)(o:Out):Prop :=
 ∃a m H1 lo,o=⟨.ok (.slice a xs.length m),H1,lo⟩∧Up H H1∧H.length≤lo∧Sl H1 k enc a xs.length xs
theorem flat_sl {n:Nat}{a:Option Addr}{l m:Nat}(h:flat (n+1) (.slice a l m)=true):a=none∧l=0∧m=0:=by
 cases a with
 | some a=>simp [flat] at h
 | none =>
  cases l with
  | succ l=>simp [flat] at h
  | zero=>cases m with
   | succ m=>simp [flat] at h
   | zero=>exact ⟨rfl,rfl,rfl⟩
theorem Sl.none {β:Type}{H:Heap}{k:Nat}{enc:β→List Value}:Sl H k enc none 0 []:=⟨rfl,.inl rfl,fun j x h=>by simp at h⟩
theorem Sl.flat {β:Type}{H H1:Heap}{k n m:Nat}{enc:β→List Value}{a:Option Addr}{l:Nat}{xs:List β}(h:Sl H1 k enc a l xs)(hf:flat (n+1) (.slice a l m)=true):Sl H k enc a l xs:=by
 obtain ⟨rfl,rfl,rfl⟩:=flat_sl hf
 have:xs=[]:=List.eq_nil_of_length_eq_zero h.len
 subst this
 exact Sl.none
theorem gc_sl {β:Type}{H H1:Heap}{k m lo:Nat}{enc:β→List Value}{a:Option Addr}{l:Nat}{xs:List β}(hs:Sl H1 k enc a l xs)(hu:Up H H1)(h:H.length≤lo):QS H k enc xs (gcR H (.ok (.slice a l m)) H1 lo):=by
 obtain rfl:=hs.len
 rw [gc_ite h]
 split
 ·rename_i hf; exact ⟨a,m,H,H.length,rfl,Up.refl H,Nat.le_refl _,hs.flat hf⟩
 ·exact ⟨a,m,H1,lo,rfl,hu,h,hs⟩
end Go.Pi.L
namespace Go.Pi.L
open Go Go.Pi
theorem Bld.grown {n0:Nat}{H H1:Heap}{k l m:Nat}{a a':Option Addr}{c:List Value}(h:Bld n0 H k a l m c)(g:Grown H H1 a')(hne:a≠a'):Bld n0 H1 k a l m c :=
 ⟨h.len,by
  rcases h.ok with h | ⟨b,f,h1,h2,h3,h4,h5⟩
  ·exact .inl h
  ·refine .inr ⟨b,f,h1,h2,h3,h4,?_⟩
   rw [g.old b (List.getElem?_eq_some_iff.1 h5).1 (fun b' hb' hbb=>hne (by rw [h1,hb',hbb]))]; exact h5⟩
theorem Bld.lt {n0:Nat}{H:Heap}{k l m b:Nat}{c:List Value}(h:Bld n0 H k (some ⟨b,0,none⟩) l m c):n0≤b∧b < H.length∧m=k:=by
 rcases h.ok with ⟨h,_⟩ | ⟨b',f,h1,h2,h3,_,h5⟩
 ·cases h
 ·cases h1; exact ⟨h3,(List.getElem?_eq_some_iff.1 h5).1,h2⟩
theorem bld_one {n0:Nat}{H:Heap}{c:List Value}{k:Nat}(hc:c.length=k)(hn:n0≤H.length):Bld n0 (H++[⟨.cells c,true,true,some H.length⟩]) k (some ⟨H.length,0,none⟩) 1 k c :=
 ⟨by omega,.inr ⟨H.length,H.length,rfl,rfl,hn,hn,by simp⟩⟩
end Go.Pi.L
namespace Go.Pi.L
open Go Go.Pi
end Go.Pi.L
set_option linter.all false
namespace Go.Pi.L
open Go Go.Pi
def SD:=And.intro (And.intro (And.intro (And.intro (And.intro (@k_seq) (@k_reg)) (And.intro (@k_dreg) (@k_cblk))) (And.intro (And.intro (@k_cond) (@k_skip)) (And.intro (@k_ret) (@k_exit)))) (And.intro (And.intro (And.intro (@k_blk) (@k_nil)) (And.intro (@k_loop) (@x_loop))) (And.intro (And.intro (@x_blk) (@x_code)) (And.intro (@o_nil) (@o_go))))) (And.intro (And.intro (And.intro (And.intro (@o_if) (@g_v)) (And.intro (@g_ld) (@g_st))) (And.intro (And.intro (@g_lbox) (@g_lalloc)) (And.intro (@g_lbs) (@g_box)))) (And.intro (And.intro (And.intro (@g_alloc) (@g_bs)) (And.intro (@g_mks) (@g_call))) (And.intro (And.intro (@g_pnc) (@g_dfr)) (And.intro (@d_nil) (And.intro (@d_go) (@d_if))))))
def SU:=And.intro (And.intro (And.intro (And.intro (And.intro (And.intro (And.intro (@dfv_some) (@pan_i)) (And.intro (@sto_heap) (And.intro (@stH_ok) (@vv_nl_i0)))) (And.intro (And.intro (@vv_nl_i) (@gd_t)) (And.intro (@gd_f) (And.intro (@gdD_t) (@gdD_f))))) (And.intro (And.intro (And.intro (@bra_t) (@bra_f)) (And.intro (@n_some) (And.intro (@n_none) (@c_some)))) (And.intro (And.intro (@r_ok) (@r_panic)) (And.intro (@f_ret) (And.intro (@f_normal) (@f_panic)))))) (And.intro (And.intro (And.intro (And.intro (@fE_panic) (@wanted_v)) (And.intro (@wv_b) (And.intro (@wv_u) (@get_set)))) (And.intro (And.intro (@sget_sset) (@vv_mv)) (And.intro (@vv_pick_t) (And.intro (@vv_pick_f) (@vv_add))))) (And.intro (And.intro (And.intro (@vv_sub) (@vv_mul)) (And.intro (@vv_eql) (And.intro (@vv_neq) (@vv_lss)))) (And.intro (And.intro (@vv_leq) (And.intro (@vv_gtr) (@vv_geq))) (And.intro (@vv_no) (And.intro (@vv_bb) (@vv_cv))))))) (And.intro (And.intro (And.intro (And.intro (And.intro (@vv_len) (@vv_iaN)) (And.intro (@vv_ia) (And.intro (@vv_fa) (@vv_iaa)))) (And.intro (And.intro (@vv_fld1) (@vv_ext)) (And.intro (@vv_mki) (And.intro (@vv_tas_eq) (@vv_tas_ne))))) (And.intro (And.intro (And.intro (@vv_tas_nil) (@vv_mx)) (And.intro (@vv_mkf) (And.intro (@wrap_id) (@hc_app)))) (And.intro (And.intro (@hc_new) (@vv_mn)) (And.intro (@loc_int) (And.intro (@loc_bool) (@loc_str)))))) (And.intro (And.intro (And.intro (And.intro (@loc_agg) (@loc_tuple)) (And.intro (@loc_undef) (And.intro (@loc_func) (@loc_ptr)))) (And.intro (And.intro (@loc_ptr0) (@loc_sl)) (And.intro (@loc_sl0) (And.intro (@loc_map) (@loc_iface))))) (And.intro (And.intro (And.intro (@loc_nilF) (@loc_nilI)) (And.intro (@nl_some) (And.intro (@cO) (@bA)))) (And.intro (And.intro (@nn_some) (And.intro (@rdv_loc) (@rdL_ok))) (And.intro (@rdv_heap) (And.intro (@rdO_some) (@rd_one)))))))) (And.intro (And.intro (And.intro (And.intro (And.intro (And.intro (@rd_n) (@sto_loc)) (And.intro (@stL_ok) (And.intro (@fill_nil) (@fill_cons)))) (And.intro (And.intro (@bsA_eq) (@vv_bld)) (And.intro (@fE_ok) (And.intro (@fE_def) (@fin_ok))))) (And.intro (And.intro (And.intro (@fin_panic) (@unw_nil)) (And.intro (@unw_call) (And.intro (@unwD_some) (@g_app)))) (And.intro (And.intro (@apA_tip) (@apB_ok)) (And.intro (@apA_nil) (And.intro (@goD_app) (@so_loc)))))) (And.intro (And.intro (And.intro (And.intro (@so_heap) (@bsO_ok)) (And.intro (@iE) (And.intro (@goD_v) (@goD_ld)))) (And.intro (And.intro (@goD_st) (@goD_lbox)) (And.intro (@goD_lalloc) (And.intro (@goD_lbs) (@goD_mks))))) (And.intro (And.intro (And.intro (@goD_bs) (@goD_call1)) (And.intro (@cD_some) (And.intro (@rD_ok) (@k_fix)))) (And.intro (And.intro (@ldc_l) (And.intro (@ldc_h) (@eL_loc))) (And.intro (@eL_ok) (And.intro (@res_nil) (@res_t))))))) (And.intro (And.intro (And.intro (And.intro (And.intro (@res_c) (@resC_some)) (And.intro (@fa_func) (And.intro (@fa_clo) (@arr_list)))) (And.intro (And.intro (@arr_size) (@c_agg)) (And.intro (@c_int) (And.intro (@c_bool) (@c_sl))))) (And.intro (And.intro (And.intro (@c_str) (@c_map)) (And.intro (@c_func) (And.intro (@c_ptr) (@c_if)))) (And.intro (And.intro (@c_nilI) (And.intro (@c_nilF) (@one_int))) (And.intro (@one_bool) (And.intro (@one_sl) (@one_str)))))) (And.intro (And.intro (And.intro (And.intro (@one_map) (@one_func)) (And.intro (@one_ptr) (And.intro (@one_if) (@one_nilI)))) (And.intro (And.intro (@one_nilF) (@al_nil)) (And.intro (@vv_fldn) (And.intro (@len0) (@len1))))) (And.intro (And.intro (And.intro (@mm) (@gc_flat)) (And.intro (@gc_panic) (And.intro (@fl_bool) (@fl_int)))) (And.intro (And.intro (@fl_str) (And.intro (@fl_tuple) (@fl_agg))) (And.intro (@fl_iface) (And.intro (@fl_sl) (@fl_nil))))))))
def SV:=And.intro (And.intro (And.intro (And.intro (And.intro (And.intro (@Bool.true_beq) (@Bool.false_beq)) (And.intro (@Bool.not_true) (@Bool.not_false))) (And.intro (And.intro (@Bool.and_true) (@Bool.true_and)) (And.intro (@Bool.and_self) (And.intro (@Nat.zero_le) (@Nat.le_refl))))) (And.intro (And.intro (And.intro (@Nat.zero_mul) (@Nat.zero_add)) (And.intro (@Nat.add_zero) (@Nat.min_self))) (And.intro (And.intro (@Nat.le_min) (@Nat.le_add_right)) (And.intro (@Int.le_refl) (And.intro (@and_self) (@Bool.false_eq_true)))))) (And.intro (And.intro (And.intro (And.intro (@Bool.true_bne) (@Bool.false_bne)) (And.intro (@ev.eq_1) (@ev.eq_2))) (And.intro (And.intro (@ev.eq_3) (@ev.eq_4)) (And.intro (@get.eq_1) (And.intro (@get.eq_2) (@get.eq_3))))) (And.intro (And.intro (And.intro (@set.eq_1) (@set.eq_2)) (And.intro (@set.eq_3) (And.intro (@set.eq_4) (@sget.eq_1)))) (And.intro (And.intro (@sget.eq_2) (@sget.eq_3)) (And.intro (@sset.eq_1) (And.intro (@sset.eq_2) (@sset.eq_3))))))) (And.intro (And.intro (And.intro (And.intro (And.intro (@sset.eq_4) (@splice.eq_1)) (And.intro (@rep.eq_1) (@rep.eq_2))) (And.intro (And.intro (@ptrA.eq_1) (@lptr.eq_1)) (And.intro (@Alc.blk.eq_1) (And.intro (@List.map_nil Operand Value) (@List.map_cons Operand Value))))) (And.intro (And.intro (And.intro (@List.map_nil (Nat×Operand) Value) (@List.map_cons (Nat×Operand) Value)) (And.intro (@List.map_nil (Nat×Operand) (Nat×Nat)) (And.intro (@List.map_cons (Nat×Operand) (Nat×Nat)) (@List.all_cons Value)))) (And.intro (And.intro (@List.length_cons Value) (@List.length_nil Value)) (And.intro (@List.getElem?_cons_zero Value) (And.intro (@List.getElem?_cons_succ Value) (@List.drop_zero Value)))))) (And.intro (And.intro (And.intro (And.intro (@List.drop_succ_cons Value) (@List.take_succ_cons Value)) (And.intro (@List.take_zero Value) (@List.cons_append Value))) (And.intro (And.intro (@List.nil_append Value) (@List.append_nil Value)) (And.intro (@List.length_append Value) (And.intro (@List.length_append Blk) (@List.length_cons Blk))))) (And.intro (And.intro (And.intro (@List.length_nil Blk) (@List.append_nil Blk)) (And.intro (@List.nil_append Blk) (And.intro (@Option.map_some Value Value) (@Option.map_none Value Value)))) (And.intro (And.intro (@Option.map_some (List Value) Value) (@Option.map_some (List Value) PObj)) (And.intro (@Option.map_some (List Value) Out) (And.intro (@Option.map_some (List Value) Alc) (@Option.map_some (List Value) (List Value))))))))
theorem SW:(∀(α:Type) [BEq α] [LawfulBEq α] (a:α),(a != a)=false)∧(∀(α:Type) [BEq α] [LawfulBEq α] (a:α),(a == a)=true)∧(∀(α β:Type) (a:α) (f:α→β),(some a).map f=some (f a))∧(∀(α β:Type) (f:α→β),(none:Option α).map f=none) ∧
  (∀(α:Type) (a:α) (l:List α),(a :: l).length=l.length+1)∧(∀α:Type,([]:List α).length=0)∧(∀(α:Type) (l m:List α),(l++m).length=l.length+m.length)∧(∀h:Decidable True,@decide True h=true)∧(∀h:Decidable False,@decide False h=false) :=
 ⟨fun _ _ _ _=>bne_self_eq_false _,fun _ _ _ _=>beq_self_eq_true _,fun _ _ _ _=>rfl,fun _ _ _=>rfl,fun _ _ _=>rfl,fun _=>rfl,fun _ _ _=>List.length_append,fun h=>decide_eq_true trivial,fun h=>decide_eq_false id⟩
end Go.Pi.L
namespace Go.Pi.L
open Go Go.Pi
variable {PP:FuncId→Option PFunc} {prims:Prims}
theorem runL_fam (hp:∀f g,prims f=some g→∀args H out,g args H=some out→Fam H→Fam out.H∧Same out.lo H out.H){fn:Fn}{args:List Value}{H:Heap}{o:Out}(h:runL PP prims fn args H=some o)(hF:Fam H):Fam o.H:=by
 obtain ⟨m0,hm⟩:=runL_ex h
 exact (keeps_run hp m0 fn args H o (hm m0 (Nat.le_refl _)) hF).1
theorem Fam.kill {H:Heap}(h:Fam H)(f:Nat):Fam (kill f H):=by
 intro i b g hi hg
 rw [kill_get,Option.map_eq_some_iff] at hi
 obtain ⟨b0,h0,rfl⟩:=hi
 refine h i b0 g h0 ?_
 split at hg <;> exact hg
section
variable {α:Type} {call:CallT} {F:Ex→St→Option α} {k:List It}
theorem stH_fam {n b off f:Nat}{c:List Value}{v:Value}{d:Option Tmp}{T S D H lo nn rnd}(hb:H[b]?=some ⟨.cells c,true,true,some f⟩)(hl:isLoc v=false)(h1:v.cells.toList.all one=true)(hn:v.cells.size=n)(ho:off+n≤c.length) :
  stH call F (H[b]?) n b off v d k ⟨T,S,D,H,lo,nn,rnd⟩=nxt call F (some undef) d k ⟨T,S,D,(kill f H).set b ⟨.cells (splice c off v.cells.toList),true,true,some f⟩,min lo (min f b),nn,rnd⟩:=by
 rw [hb]
 have e1:stH call F (some ⟨.cells c,true,true,some f⟩) n b off v d k ⟨T,S,D,H,lo,nn,rnd⟩=sto call F n (.pointer (some ⟨b,off,none⟩)) v d k ⟨T,S,D,H,lo,nn,rnd⟩:=rfl
 rw [e1]
 have h2:(isLoc v||v.cells.size != n||!v.cells.toList.all one)=false:=by simp [hl,hn,h1]
 simp only [sto,h2,stCells,hb]
 rw [if_neg (by simp),if_pos (by simpa [hn] using ho)]
end
theorem Bld.put {n0:Nat}{H:Heap}{k b:Nat}{l m:Nat}{c:List Value}(h:Bld n0 H k (some ⟨b,0,none⟩) l m c)(hF:Fam H){i:Nat}(hi:i < l){v:Value}(hl:Go.Pi.isLoc v=false)(h1:v.cells.toList.all one=true)(hn:v.cells.size=k) :
  ∃H1 f,n0≤f∧n0≤b∧(∀{α:Type} (call:CallT) (F:Ex→St→Option α) d kk T S D lo n rnd,stH call F (H[b]?) k b (i*k) v d kk ⟨T,S,D,H,lo,n,rnd⟩=nxt call F (some undef) d kk ⟨T,S,D,H1,min lo (min f b),n,rnd⟩) ∧
   Bld n0 H1 k (some ⟨b,0,none⟩) l m (splice c (i*k) v.cells.toList)∧Fam H1∧(∀H0,Up H0 H→H0.length≤n0→Up H0 H1)∧H1.length=H.length ∧
   (∀{a' k' l' m' c'},Bld n0 H k' a' l' m' c'→a'≠some ⟨b,0,none⟩→Bld n0 H1 k' a' l' m' c'):=by
 have hlen:=h.len
 rcases h.ok with ⟨h0,_⟩ | ⟨b',f,hb',rfl,h3,h4,h5⟩
 ·cases h0
 ·cases hb'
  have hs:(i+1)*m≤l*m:=Nat.mul_le_mul_right _ hi
  rw [Nat.add_mul,Nat.one_mul] at hs
  have hbl:=(List.getElem?_eq_some_iff.1 h5).1
  have hsz:v.cells.toList.length=m:=by simpa using hn
  refine ⟨(kill f H).set b ⟨.cells (splice c (i*m) v.cells.toList),true,true,some f⟩,f,h4,h3,fun call F d kk T S D lo n rnd=>stH_fam h5 hl h1 hn (by omega),⟨?_,.inr ⟨b,f,rfl,rfl,h3,h4,by rw [List.getElem?_set_self (by rw [kill_length]; exact hbl)]⟩⟩,?_,fun H0 hu hn0=>?_,by rw [List.length_set,kill_length],fun {a' k' l' m' c'} hb2 hne=>⟨hb2.len,?_⟩⟩
  ·unfold splice; simp only [List.length_append,List.length_take,List.length_drop,hsz]; omega
  ·refine (Fam.kill hF f).set (b0:=⟨.cells c,true,true,some f⟩) ?_ rfl
   rw [kill_get,h5]; simp
  ·refine Up.set ⟨by rw [kill_length]; exact hu.len,fun j hj=>?_⟩ (by omega)
   rw [kill_get]
   cases hx:H[j]? with
   | none=>rw [←hu.old j hj,hx]; rfl
   | some x =>
    have:¬(x.fam=some f∧x.tip=false):=fun hc=>by have:=hF j x f hx hc.1; omega
    simp only [Option.map_some,if_neg this]
    rw [←hu.old j hj,hx]
  ·rcases hb2.ok with hx | ⟨b2,f2,g1,g2,g3,g4,g5⟩
   ·exact .inl hx
   ·refine .inr ⟨b2,f2,g1,g2,g3,g4,?_⟩
    rw [List.getElem?_set_ne (fun e=>hne (by rw [g1,←e])),kill_get,g5]
    simp
theorem Fam.app1 {H:Heap}(h:Fam H){c:List Value}{f:Nat}(hf:f≤H.length):Fam (H++[⟨.cells c,true,true,some f⟩]):=h.append fun g hg=>by cases hg; exact hf
theorem Bld.less {n0 n1:Nat}{H:Heap}{k:Nat}{a:Option Addr}{l m:Nat}{c:List Value}(h:Bld n1 H k a l m c)(hn:n0≤n1):Bld n0 H k a l m c :=
 ⟨h.len,by
  rcases h.ok with h | ⟨b,f,h1,h2,h3,h4,h5⟩
  ·exact .inl h
  ·exact .inr ⟨b,f,h1,h2,by omega,by omega,h5⟩⟩
theorem Bld.apps {n0:Nat}{H:Heap}{k:Nat}{a:Option Addr}{l m:Nat}{c:List Value}(h:Bld n0 H k a l m c)(hF:Fam H)(hk:0 < k)(hk2:k < 1000)(hn:n0≤H.length)(new:List Value){i:Nat}(hi:0 < i)(hnew:new.length=i*k)(hl:l+i*k < 1048576) :
  ∃H1,(∀{α:Type} (call:CallT) (F:Ex→St→Option α) d kk T S D lo n rnd,ap1 call F (some new) (.slice a l m) k d kk ⟨T,S,D,H,lo,n,rnd⟩=nxt call F (some (.slice (some ⟨H.length,0,none⟩) (l+i) k)) d kk ⟨T,S,D,H1,lo,n,rnd⟩) ∧
   Bld n0 H1 k (some ⟨H.length,0,none⟩) (l+i) k (c++new)∧Grown H H1 a∧Fam H1:=by
 have hik:1*1≤i*k:=Nat.mul_le_mul hi hk
 have he:new.isEmpty=false:=by cases new with | nil=>simp at hnew; omega | cons=>rfl
 have hlen:=h.len
 have hd:new.length / k=i:=by rw [hnew]; exact Nat.mul_div_cancel _ hk
 have hm:new.length % k=0:=by rw [hnew]; exact Nat.mul_mod_left _ _
 rcases h.ok with ⟨rfl,rfl,rfl⟩ | ⟨b,f,rfl,rfl,h3,h4,h5⟩
 ·have hc:c=[]:=by simpa using hlen
  subst hc
  refine ⟨H++[⟨.cells new,true,true,some H.length⟩],fun call F d kk T S D lo n rnd=>?_,⟨by simp [hnew],.inr ⟨_,H.length,rfl,rfl,hn,hn,by simp⟩⟩,⟨by simp,(Up.refl H).app.grow,fun i hi _=>by rw [List.getElem?_append_left hi]⟩,Fam.app1 hF (Nat.le_refl _)⟩
  rw [apA_nil _ _ _ _ _ _ _ _ _ _ hm (by omega) he,hd]; simp
 ·have hb:=(List.getElem?_eq_some_iff.1 h5).1
  refine ⟨H.set b ⟨.cells c,true,false,some f⟩++[⟨.cells (c++new),true,true,some f⟩],fun call F d kk T S D lo n rnd=>?_,⟨by simp [hnew,hlen,Nat.add_mul],.inr ⟨_,f,rfl,rfl,hn,h4,?_⟩⟩,⟨by simp,?_,fun i hi hne=>?_⟩,?_⟩
  ·rw [apA_tip]
   simp only [h5]
   rw [apB_ok _ _ _ _ _ _ _ _ _ _ _ _ _ _ hm (by omega) he hk hlen.symm,hd]
  ·rw [List.getElem?_append_right (by simp)]; simp
  ·exact grow_app (grow_tip h5)
  ·rw [List.getElem?_append_left (by simpa using hi),List.getElem?_set_ne (fun h=>hne b rfl h.symm)]
  ·refine Fam.app1 (hF.set (b:=⟨.cells c,true,false,some f⟩) h5 rfl) ?_
   have:=hF b _ f h5 rfl
   simp only [List.length_set]; omega
theorem Bld.appF {n0:Nat}{H:Heap}{k:Nat}{a:Option Addr}{l m:Nat}{c:List Value}(h:Bld n0 H k a l m c)(hF:Fam H)(hk:0 < k)(hk2:k < 1000)(hl:l < 1000000)(hn:n0≤H.length)(new:List Value)(hnew:new.length=k) :
  ∃H1,(∀{α:Type} (call:CallT) (F:Ex→St→Option α) d kk T S D lo n rnd,ap1 call F (some new) (.slice a l m) k d kk ⟨T,S,D,H,lo,n,rnd⟩=nxt call F (some (.slice (some ⟨H.length,0,none⟩) (l+1) k)) d kk ⟨T,S,D,H1,lo,n,rnd⟩) ∧
   Bld n0 H1 k (some ⟨H.length,0,none⟩) (l+1) k (c++new)∧Grown H H1 a∧Fam H1:=h.apps hF hk hk2 hn new (i:=1) (by decide) (by omega) (by omega)
end Go.Pi.L
namespace Go.Pi.L
open Go Go.Pi

structure Chg (A:Nat→Prop)(H H':Heap):Prop where
 len:H.length≤H'.length
 old:∀i,i < H.length→¬A i→H'[i]?=H[i]?
theorem Chg.refl (A:Nat→Prop)(H:Heap):Chg A H H:=⟨Nat.le_refl _,fun _ _ _=>rfl⟩
theorem Chg.mono {A B:Nat→Prop}{H H':Heap}(h:Chg A H H')(hab:∀i,i < H.length→A i→B i):Chg B H H':=⟨h.len,fun i hi hb=>h.old i hi fun ha=>hb (hab i hi ha)⟩
theorem Chg.trans {A B:Nat→Prop}{H H1 H2:Heap}(h:Chg A H H1)(h':Chg B H1 H2)(hb:∀i,i < H.length→B i→A i):Chg A H H2 :=
 ⟨Nat.le_trans h.len h'.len,fun i hi ha=>by rw [h'.old i (Nat.lt_of_lt_of_le hi h.len) (fun x=>ha (hb i hi x)),h.old i hi ha]⟩
theorem Up.chg {A:Nat→Prop}{H H':Heap}(h:Up H H'):Chg A H H':=⟨h.len,fun i hi _=>h.old i hi⟩
theorem Chg.up {A:Nat→Prop}{H H':Heap}(h:Chg A H H')(ha:∀i,i < H.length→¬A i):Up H H':=⟨h.len,fun i hi=>h.old i hi (ha i hi)⟩
theorem Chg.up' {A:Nat→Prop}{H0 H H':Heap}(h:Chg A H H')(hu:Up H0 H)(ha:∀i,i < H0.length→¬A i):Up H0 H' :=
 ⟨Nat.le_trans hu.len h.len,fun i hi=>by rw [h.old i (Nat.lt_of_lt_of_le hi hu.len) (ha i hi),hu.old i hi]⟩
theorem Chg.set {A:Nat→Prop}{H:Heap}{i:Nat}(b:Blk)(h:A i):Chg A H (H.set i b):=⟨by simp,fun j _ hj=>by rw [List.getElem?_set_ne (fun e=>by subst e; exact hj h)]⟩
def And' (A:Nat→Prop)(H H':Heap):Nat→Prop:=fun i=>A i∨(H.length≤i∧i < H'.length)
def Lt (A:Nat→Prop)(H:Heap):Prop:=∀i,A i→i < H.length
theorem Lt.and {A:Nat→Prop}{H H':Heap}(h:Lt A H)(hl:H.length≤H'.length):Lt (And' A H H') H':=fun i hi=>by
 rcases hi with hi | hi
 ·exact Nat.lt_of_lt_of_le (h i hi) hl
 ·exact hi.2
theorem Lt.chg {A:Nat→Prop}{H H':Heap}(h:Lt A H)(hl:H.length≤H'.length):Lt A H':=fun i hi=>Nat.lt_of_lt_of_le (h i hi) hl
theorem Sl.chg {β:Type}{A:Nat→Prop}{H H':Heap}{k:Nat}{enc:β→List Value}{a:Option Addr}{l:Nat}{xs:List β}(h:Sl H k enc a l xs)(c:Chg A H H')(ha:∀b off,a=some ⟨b,off,Option.none⟩→¬A b):Sl H' k enc a l xs :=
 ⟨h.len,h.loc,fun j x hx=>by
  obtain ⟨b,off,c',h1,h2,h3⟩:=h.rd j x hx
  refine ⟨b,off,c',h1,?_,h3⟩
  have hl:=hc_lt h2
  unfold hcells at h2 ⊢
  rw [c.old b hl (ha b off h1)]; exact h2⟩

section
variable {α:Type} {call:CallT} {F:Ex→St→Option α} {k:List It}
end
section
variable {PP:FuncId→Option PFunc} {prims:Prims}
noncomputable def yE (l:Nat)(e:Ex)(s:St):Option Out :=
 match e with
 | .panic _=>none
 | e =>
  match s.H[l]? with
  | some ⟨.loop n T ps as_ bd d _ _,true,true,none⟩ =>
   let (st,pd,b):LoopState×Option Ex×Bool:=match e with | .normal=>(.ready,none,true) | e=>(.done,some e,false)
   some ⟨.ok (.bool b),s.H.set l { obj:=.loop n T ps as_ bd d st pd },min s.lo l⟩
  | _=>none
noncomputable def yA (call:CallT)(l:Nat)(bd:PCode)(e:Ex)(s:St):Option Out :=
 match e with
 | .normal =>
  match s.H[l]? with
  | some ⟨.loop n T ps as_ bd' d .ready pend,true,true,none⟩=>mach call (yE l) [.code bd] none (setB s l (.loop n T ps as_ bd' d .busy pend))
  | _=>none
 | _=>none
theorem run_yl {l n:Nat}{T:List Value}{ps:List Tmp}{as_ bd:PCode}{d:Nat}{pd:Option Ex}{args:List Value}{H:Heap}(hb:H[l]?=some ⟨.loop n T ps as_ bd d .ready pd,true,true,none⟩)(hl:args.length=ps.length)(hp:ps.all (· < n)=true){Q:Out→Prop}
  (h:Yes (mach (runL PP prims) (yA (runL PP prims) l bd) [.code as_] none ⟨setParams T ps args,[],[],H,H.length,n,true⟩) Q):Yes (runL PP prims (.yield l) args H) Q:=by
 obtain ⟨o,h,hq⟩:=h
 refine ⟨o,runL_yield ?_,hq⟩
 unfold yieldL
 simp only [hb]
 rw [if_pos ⟨hl,hp⟩]
 simp only [mach] at h
 cases hc:codeL (runL PP prims) as_ ⟨setParams T ps args,[],[],H,H.length,n,true⟩ with
 | none=>rw [hc] at h; cases h
 | some x =>
  obtain ⟨e,s⟩:=x
  rw [hc] at h
  cases e with
  | normal =>
   simp only [yA] at h ⊢
   split at h
   ·rename_i n1 T1 ps1 as1 bd1 d1 pend1 hH
    rw [hH]
    simp only [mach] at h ⊢
    cases hc2:codeL (runL PP prims) bd (setB s l (.loop n1 T1 ps1 as1 bd1 d1 .busy pend1)) with
    | none=>rw [hc2] at h; cases h
    | some y =>
     obtain ⟨e2,s2⟩:=y
     rw [hc2] at h
     cases e2 with
     | normal=>simp only [yE] at h ⊢; exact h
     | exit i=>simp only [mach,yE] at h ⊢; exact h
     | ret=>simp only [yE] at h ⊢; exact h
     | panic v=>simp only [yE] at h; cases h
   ·cases h
  | _=>simp only [mach,yA] at h; cases h
variable {call:CallT}
theorem yA_n {l:Nat}{bd0:PCode}{T' S D H lo nn rnd}{n T ps as_ bd d pd}(h:H[l]?=some ⟨.loop n T ps as_ bd d .ready pd,true,true,none⟩) :
  yA call l bd0 .normal ⟨T',S,D,H,lo,nn,rnd⟩=mach call (yE l) [.code bd0] none ⟨T',S,D,H.set l { obj:=.loop n T ps as_ bd d .busy pd },min lo l,nn,rnd⟩:=by simp only [yA,h]; rfl
theorem yE_n {l:Nat}{T' S D H lo nn rnd}{n T ps as_ bd d st pd}(h:H[l]?=some ⟨.loop n T ps as_ bd d st pd,true,true,none⟩) :
  yE l .normal ⟨T',S,D,H,lo,nn,rnd⟩=some ⟨.ok (.bool true),H.set l { obj:=.loop n T ps as_ bd d .ready none },min lo l⟩:=by simp only [yE,h]
theorem yE_r {l:Nat}{T' S D H lo nn rnd}{n T ps as_ bd d st pd}(h:H[l]?=some ⟨.loop n T ps as_ bd d st pd,true,true,none⟩) :
  yE l .ret ⟨T',S,D,H,lo,nn,rnd⟩=some ⟨.ok (.bool false),H.set l { obj:=.loop n T ps as_ bd d .done (some .ret) },min lo l⟩:=by simp only [yE,h]

def encN (x:Int):List Value:=[.int .i64 x]
end
end Go.Pi.L
set_option maxRecDepth 100000
namespace Go.Pi.L
open Go Go.Pi
section
variable {α:Type} {call:CallT} {F:Ex→St→Option α} {k:List It} {s:St}
end
end Go.Pi.L
