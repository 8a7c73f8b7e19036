/- A region whose order is open, by an invariant over what has been done. -/
import Derived.WalkKit
import Derived.WalkSpells
import Derived.WalkLawsBesides
import Derived.Outline
import Derived.Deep.RegionHeld3
import Derived.Orders
import Derived.Shelf.Strconv.Itoa3
import Derived.Lib.ItoaMem
import Derived.KernelRfl
import Derived.Test.YtjidjpcnocddeaaGreatDoorSH
import Derived.Test.YtjidjpcnocddeaaGreatDoorRows
import Derived.Test.YtjidjpcnocddeaaGreatDoorPiN
set_option linter.all false
namespace Go.Proofs
open Go.RowKit
theorem meth149 (v:Value)(w:World):Sem.run Tryz.prog (method 325 149 v "mahlstick/coat.long") w=.ok (145,v) w:=by kernel_rfl
theorem cell_new3 (w:World)(a b:Obj)(cs:Array Value)(t:TypeId)(fr:Nat×Nat)(o:Nat):(((w.alloc a).alloc b).alloc (.cells cs t fr)).drew.cell? ⟨w.heap.size+1+1,o,none⟩=cs[o]?:=by
 have h:(((w.alloc a).alloc b).alloc (.cells cs t fr)).drew.heap[w.heap.size+1+1]?=some (.cells cs t fr):=by
  show (((w.heap.push a).push b).push (.cells cs t fr))[w.heap.size+1+1]?=_
  have e:w.heap.size+1+1=((w.heap.push a).push b).size:=by simp
  rw [e,Array.getElem?_push_size]
 simp only [World.cell?,h]
 rfl
theorem mk4 (w:World):Sem.run Tryz.prog (Instr.makeSlice 126 (.int .i64 0) (.int .i64 4)) w=.ok (.slice (some ⟨w.heap.size,0,none⟩) 0 4) (w.alloc (.cells #[.string ⟨#[]⟩,.string ⟨#[]⟩,.string ⟨#[]⟩,.string ⟨#[]⟩] 9)):=by kernel_rfl
theorem ta149 (v:Value)(w:World):Sem.run Tryz.prog (Instr.typeAssert (.iface 149 v) 153 149 true) w=.ok (.tuple #[v,.bool true]) w:=by kernel_rfl

theorem mm170 (w:World):Sem.run Tryz.prog (Instr.makeMap 170 none) w=.ok (.map (some w.heap.size)) (w.alloc (.map #[] 0)):=by kernel_rfl
theorem getNew (W:World)(k:Nat)(es:Array MapEntry)(c:Nat)(h:W.heap.size=k):Sem.run Tryz.prog (getObj k) (W.alloc (.map es c))=.ok (.map es c) (W.alloc (.map es c)):=by
 subst h
 have:(W.alloc (.map es c)).heap[W.heap.size]?=some (.map es c):=by
  show (W.heap.push (.map es c))[W.heap.size]?=_
  rw [Array.getElem?_push_size]
 simp only [getObj,Sem.run,this]
theorem setNew (W:World)(k:Nat)(es es':Array MapEntry)(c c':Nat)(h:W.heap.size=k):Sem.run Tryz.prog (setObj k (.map es' c')) (W.alloc (.map es c))=.ok () (W.alloc (.map es' c')):=by
 subst h
 have h1:(W.alloc (.map es c)).heap[W.heap.size]?=some (.map es c):=by
  show (W.heap.push (.map es c))[W.heap.size]?=_
  rw [Array.getElem?_push_size]
 have h2:(W.heap.push (.map es c)).setIfInBounds W.heap.size (.map es' c')=W.heap.push (.map es' c'):=by
  apply Array.toList_inj.1
  simp
 simp only [setObj,Sem.run,h1]
 have h3:(W.alloc (.map es c)).heap=W.heap.push (.map es c):=rfl
 rw [h3,h2]
 rfl
theorem ck (k:Bool)(w:World):Sem.run Tryz.prog (Instr.checkKey false 10000 4 (.bool k)) w=.ok () w:=by kernel_rfl
theorem ckT (k:Bool)(w:World):Sem.run Tryz.prog (Instr.checkKey true 10000 4 (.bool k)) w=.ok () w:=by kernel_rfl
theorem ckE (e k:Bool)(w:World):Sem.run Tryz.prog (Instr.checkKey e 10000 4 (.bool k)) w=.ok () w:=by
 cases e
 ·exact ck k w
 ·exact ckT k w
theorem fk0 (k:Bool)(w:World):Sem.run Tryz.prog (Instr.findKey 4 (.bool k) []) w=.ok none w:=by kernel_rfl
theorem fk1 (v:Value)(c:Nat)(w:World):Sem.run Tryz.prog (Instr.findKey 4 (.bool true) [⟨.bool false,v,c⟩]) w=.ok none w:=by kernel_rfl
theorem fk2 (v:Value)(c:Nat)(w:World):Sem.run Tryz.prog (Instr.findKey 4 (.bool false) [⟨.bool true,v,c⟩]) w=.ok none w:=by kernel_rfl
theorem ins0 (W:World)(k:Nat)(key:Bool)(v:Value)(h:W.heap.size=k):Sem.run Tryz.prog (Instr.mapUpdate 170 (.map (some k)) (.bool key) v) (W.alloc (.map #[] 0))=.ok () (W.alloc (.map #[⟨.bool key,v,0⟩] 1)):=by
 simp only [Instr.mapUpdate,Sem.run_bind,run_underlying Tryz.underlying170,Result.andThen_ok,getNew W k _ _ h,ck,fk0,setNew W k _ _ _ _ h]
 rfl
theorem ins1 (W:World)(k:Nat)(v v':Value)(h:W.heap.size=k):Sem.run Tryz.prog (Instr.mapUpdate 170 (.map (some k)) (.bool true) v) (W.alloc (.map #[⟨.bool false,v',0⟩] 1))=.ok () (W.alloc (.map #[⟨.bool false,v',0⟩,⟨.bool true,v,1⟩] 2)):=by
 simp only [Instr.mapUpdate,Sem.run_bind,run_underlying Tryz.underlying170,Result.andThen_ok,getNew W k _ _ h,ck,fk1,setNew W k _ _ _ _ h]
 rfl
theorem ins2 (W:World)(k:Nat)(v v':Value)(h:W.heap.size=k):Sem.run Tryz.prog (Instr.mapUpdate 170 (.map (some k)) (.bool false) v) (W.alloc (.map #[⟨.bool true,v',0⟩] 1))=.ok () (W.alloc (.map #[⟨.bool true,v',0⟩,⟨.bool false,v,1⟩] 2)):=by
 simp only [Instr.mapUpdate,Sem.run_bind,run_underlying Tryz.underlying170,Result.andThen_ok,getNew W k _ _ h,ck,fk2,setNew W k _ _ _ _ h]
 rfl
theorem ins0d (W:World)(k:Nat)(key:Bool)(v:Value)(h:W.heap.size=k):Sem.run Tryz.prog (Instr.mapUpdate 170 (.map (some k)) (.bool key) v) (W.alloc (.map #[] 0)).drew=.ok () (W.alloc (.map #[⟨.bool key,v,0⟩] 1)).drew:=ins0 W.drew k key v h
theorem ins1d (W:World)(k:Nat)(v v':Value)(h:W.heap.size=k):Sem.run Tryz.prog (Instr.mapUpdate 170 (.map (some k)) (.bool true) v) (W.alloc (.map #[⟨.bool false,v',0⟩] 1)).drew=.ok () (W.alloc (.map #[⟨.bool false,v',0⟩,⟨.bool true,v,1⟩] 2)).drew:=ins1 W.drew k v v' h
theorem ins2d (W:World)(k:Nat)(v v':Value)(h:W.heap.size=k):Sem.run Tryz.prog (Instr.mapUpdate 170 (.map (some k)) (.bool false) v) (W.alloc (.map #[⟨.bool true,v',0⟩] 1)).drew=.ok () (W.alloc (.map #[⟨.bool true,v',0⟩,⟨.bool false,v,1⟩] 2)).drew:=ins2 W.drew k v v' h
theorem cell_new4 (w:World)(a b o':Obj)(cs:Array Value)(t:TypeId)(fr:Nat×Nat)(o:Nat):((((w.alloc a).alloc b).alloc (.cells cs t fr)).alloc o').drew.cell? ⟨w.heap.size+1+1,o,none⟩=cs[o]?:=by
 have h:((((w.alloc a).alloc b).alloc (.cells cs t fr)).alloc o').drew.heap[w.heap.size+1+1]?=some (.cells cs t fr):=by
  show ((((w.heap.push a).push b).push (.cells cs t fr)).push o')[w.heap.size+1+1]?=_
  have e:w.heap.size+1+1=((w.heap.push a).push b).size:=by simp
  rw [e,Array.getElem?_push,if_neg (by simp),Array.getElem?_push_size]
 simp only [World.cell?,h]
 rfl
theorem cell_new5 (w:World)(a b o' o'':Obj)(cs:Array Value)(t:TypeId)(fr:Nat×Nat)(o:Nat):(((((w.alloc a).alloc b).alloc (.cells cs t fr)).alloc o').alloc o'').drew.cell? ⟨w.heap.size+1+1,o,none⟩=cs[o]?:=by
 have h:(((((w.alloc a).alloc b).alloc (.cells cs t fr)).alloc o').alloc o'').drew.heap[w.heap.size+1+1]?=some (.cells cs t fr):=by
  show (((((w.heap.push a).push b).push (.cells cs t fr)).push o').push o'')[w.heap.size+1+1]?=_
  have e:w.heap.size+1+1=((w.heap.push a).push b).size:=by simp
  rw [e,Array.getElem?_push,if_neg (by simp),Array.getElem?_push,if_neg (by simp),Array.getElem?_push_size]
 simp only [World.cell?,h]
 rfl
theorem fkA (v v':Value)(w:World):Sem.run Tryz.prog (Instr.findKey 4 (.bool true) [⟨.bool false,v,0⟩,⟨.bool true,v',1⟩]) w=.ok (some (1,v')) w:=by kernel_rfl
theorem fkB (v v':Value)(w:World):Sem.run Tryz.prog (Instr.findKey 4 (.bool false) [⟨.bool false,v,0⟩,⟨.bool true,v',1⟩]) w=.ok (some (0,v)) w:=by kernel_rfl
theorem fkC (v v':Value)(w:World):Sem.run Tryz.prog (Instr.findKey 4 (.bool true) [⟨.bool true,v,0⟩,⟨.bool false,v',1⟩]) w=.ok (some (0,v)) w:=by kernel_rfl
theorem fkD (v v':Value)(w:World):Sem.run Tryz.prog (Instr.findKey 4 (.bool false) [⟨.bool true,v,0⟩,⟨.bool false,v',1⟩]) w=.ok (some (1,v')) w:=by kernel_rfl
theorem lk1 (W:World)(k:Nat)(b:Bool)(t f:ByteArray)(h:W.heap.size=k):Sem.run Tryz.prog (Instr.lookup 170 (.map (some k)) (.bool b) false) (W.alloc (.map #[⟨.bool false,.string f,0⟩,⟨.bool true,.string t,1⟩] 2))=.ok (.string (bif b then t else f)) (W.alloc (.map #[⟨.bool false,.string f,0⟩,⟨.bool true,.string t,1⟩] 2)):=by
 cases b
 ·simp only [Instr.lookup,Sem.run_bind,run_underlying Tryz.underlying170,Sem.run_pure,Result.andThen_ok,getNew W k _ _ h,ckE,fkB,Bool.false_eq_true,if_false,cond_false]
 ·simp only [Instr.lookup,Sem.run_bind,run_underlying Tryz.underlying170,Sem.run_pure,Result.andThen_ok,getNew W k _ _ h,ckE,fkA,Bool.false_eq_true,if_false,cond_true]
theorem lk2 (W:World)(k:Nat)(b:Bool)(t f:ByteArray)(h:W.heap.size=k):Sem.run Tryz.prog (Instr.lookup 170 (.map (some k)) (.bool b) false) (W.alloc (.map #[⟨.bool true,.string t,0⟩,⟨.bool false,.string f,1⟩] 2))=.ok (.string (bif b then t else f)) (W.alloc (.map #[⟨.bool true,.string t,0⟩,⟨.bool false,.string f,1⟩] 2)):=by
 cases b
 ·simp only [Instr.lookup,Sem.run_bind,run_underlying Tryz.underlying170,Sem.run_pure,Result.andThen_ok,getNew W k _ _ h,ckE,fkD,Bool.false_eq_true,if_false,cond_false]
 ·simp only [Instr.lookup,Sem.run_bind,run_underlying Tryz.underlying170,Sem.run_pure,Result.andThen_ok,getNew W k _ _ h,ckE,fkC,Bool.false_eq_true,if_false,cond_true]
theorem lk1d (W:World)(k:Nat)(b:Bool)(t f:ByteArray)(h:W.heap.size=k):Sem.run Tryz.prog (Instr.lookup 170 (.map (some k)) (.bool b) false) (W.alloc (.map #[⟨.bool false,.string f,0⟩,⟨.bool true,.string t,1⟩] 2)).drew=.ok (.string (bif b then t else f)) (W.alloc (.map #[⟨.bool false,.string f,0⟩,⟨.bool true,.string t,1⟩] 2)).drew:=lk1 W.drew k b t f h
theorem lk2d (W:World)(k:Nat)(b:Bool)(t f:ByteArray)(h:W.heap.size=k):Sem.run Tryz.prog (Instr.lookup 170 (.map (some k)) (.bool b) false) (W.alloc (.map #[⟨.bool true,.string t,0⟩,⟨.bool false,.string f,1⟩] 2)).drew=.ok (.string (bif b then t else f)) (W.alloc (.map #[⟨.bool true,.string t,0⟩,⟨.bool false,.string f,1⟩] 2)).drew:=lk2 W.drew k b t f h
theorem heap5 (w:World)(a b c d e:Obj):(((((w.alloc a).alloc b).alloc c).alloc d).alloc e).drew.heap=((((w.heap.push a).push b).push c).push d).push e:=rfl
theorem more5 (w:World)(a b c d e:Obj):Pi.More w (((((w.alloc a).alloc b).alloc c).alloc d).alloc e).drew:=by
 refine ⟨rfl,rfl,by rw [heap5]; simp; omega,fun j hj=>?_⟩
 rw [heap5,Array.getElem?_push,if_neg (by simp; omega),Array.getElem?_push,if_neg (by simp; omega),Array.getElem?_push,if_neg (by simp; omega),Array.getElem?_push,if_neg (by simp; omega),Array.getElem?_push,if_neg (by omega)]
theorem lt5 (w:World)(a b c d e:Obj):w.heap.size+1 < (((((w.alloc a).alloc b).alloc c).alloc d).alloc e).drew.heap.size:=by
 rw [heap5]; simp
theorem at5 (w:World)(a b c d e:Obj):(((((w.alloc a).alloc b).alloc c).alloc d).alloc e).drew.heap[w.heap.size+1]?=some b:=by
 rw [heap5,Array.getElem?_push,if_neg (by simp),Array.getElem?_push,if_neg (by simp),Array.getElem?_push,if_neg (by simp),Array.getElem?_push,if_pos (by simp)]
theorem more_trans {w w1 w2:World}(h:Pi.More w w1)(h':Pi.More w1 w2):Pi.More w w2 :=
 ⟨h'.os.trans h.os,h'.output.trans h.output,Nat.le_trans h.size h'.size,fun j hj=>(h'.old j (Nat.lt_of_lt_of_le hj h.size)).trans (h.old j hj)⟩
set_option maxRecDepth 100000 in
set_option maxHeartbeats 1600000 in
theorem written_day (lo hi:Nat)(b:Bool)(h0:lo < 100)(h1:hi < 100)(w:World) :
  Calls Tryz.prog 140 #[.iface 149 (.agg #[.int .i64 lo,.int .i64 hi,.bool b])] w fun e w'=>e=.returned (.string ⟨(Lib.join [[100,97,121],Lib.decDigits lo,Lib.decDigits hi,(bif b then [121,101,115] else [110,111])] [32]).toArray⟩)∧Pi.More w w':=by
 have hm:=meth149 (.agg #[.int .i64 lo,.int .i64 hi,.bool b])
 have hk:=mk4
 have ht:=ta149
 have c3:=cell_new3 w
 have hmm:=mm170
 have hi0:=ins0d
 have hi1:=ins1d
 have hi2:=ins2d
 have hl1:=lk1d
 have hl2:=lk2d
 have c4:=cell_new4 w
 have c5:=cell_new5 w
 go_enter Tryz.func140,Tryz.ntmps140
 go_wp2_with (first
  | (go_at_call 141; refine (Tryz.strconv_Itoa_small _ h0 _).mono ?_; rintro e w' ⟨rfl,rfl⟩)
  | (go_at_call 141; refine (Tryz.strconv_Itoa_small _ h1 _).mono ?_; rintro e w' ⟨rfl,rfl⟩)
  | go_in)
 refine Code.wp_mono (Q:=fun e a' W=>e=.normal∧a'=⟨#[.iface 149 (.agg #[.int .i64 lo,.int .i64 hi,.bool b]),undef,.string ⟨#[]⟩,.slice (some ⟨w.heap.size+1,0,none⟩) 4 4,.pointer (some ⟨w.heap.size+1+1,0,none⟩),undef,
   .iface 149 (.agg #[.int .i64 lo,.int .i64 hi,.bool b]),.int .i64 4,.slice (some ⟨w.heap.size+1,0,none⟩) 0 4,.iface 149 (.agg #[.int .i64 lo,.int .i64 hi,.bool b]),.tuple #[.agg #[.int .i64 lo,.int .i64 hi,.bool b],.bool true],
   .bool true,.agg #[.int .i64 lo,.int .i64 hi,.bool b],.slice (some ⟨w.heap.size+1,0,none⟩) 0 4,.pointer (some ⟨w.heap.size+1+1,0,none⟩),.pointer (some ⟨w.heap.size+1+1,0,none⟩),.int .i64 lo,.string ⟨(Lib.decDigits lo).toArray⟩,
   .pointer (some ⟨w.heap.size+1+1,0,none⟩),.pointer (some ⟨w.heap.size+1+1,1,none⟩),.int .i64 hi,.string ⟨(Lib.decDigits hi).toArray⟩,.map (some (w.heap.size+1+1+1)),.map (some (w.heap.size+1+1+1)),.pointer (some ⟨w.heap.size+1+1,2,none⟩),
   .bool b,.string (bif b then ⟨#[121,101,115]⟩ else ⟨#[110,111]⟩),.slice (some ⟨w.heap.size+1+1+1+1,0,none⟩) 4 4,.slice (some ⟨w.heap.size+1,0,none⟩) 4 4,undef,undef,undef,undef,undef,undef,undef,undef,undef,undef,undef,undef,undef,undef,undef,undef],[]⟩ ∧
   Pi.More w W∧w.heap.size+1 < W.heap.size∧W.heap[w.heap.size+1]?=some (.cells #[.string ⟨#[100,97,121]⟩,.string ⟨(Lib.decDigits lo).toArray⟩,.string ⟨(Lib.decDigits hi).toArray⟩,.string (bif b then ⟨#[121,101,115]⟩ else ⟨#[110,111]⟩)] 9)) ?_ ?_
 ·rintro e a' W ⟨rfl,rfl,hbel,hlt,hcells⟩
  have hlo:(Lib.decDigits lo).length≤2:=by rw [Pi.Q.dig_eq lo h0]; unfold Pi.Q.dig; cases Nat.blt lo 10 <;> simp
  have hhi:(Lib.decDigits hi).length≤2:=by rw [Pi.Q.dig_eq hi h1]; unfold Pi.Q.dig; cases Nat.blt hi 10 <;> simp
  have hj:=Tryz.strings_Join (w.heap.size+1) 0 4 [⟨#[100,97,121]⟩,⟨(Lib.decDigits lo).toArray⟩,⟨(Lib.decDigits hi).toArray⟩,(bif b then ⟨#[121,101,115]⟩ else ⟨#[110,111]⟩)] ⟨#[32]⟩ W
   (fun j x hx=>by
    simp only [World.cell?,hcells]
    match j,hx with
    | 0,hx=>simp at hx; subst hx; rfl
    | 1,hx=>simp at hx; subst hx; rfl
    | 2,hx=>simp at hx; subst hx; rfl
    | 3,hx=>simp at hx; subst hx; rfl
    | j+4,hx=>simp at hx) hlt (by simp) (by simp) (by
     cases b <;> simp [Lib.join,List.intercalate] <;> omega)
  simp only [List.length_cons,List.length_nil,Nat.zero_add,Nat.reduceAdd,List.map_cons,List.map_nil] at hj
  have hb4:(bif b then (⟨#[121,101,115]⟩:ByteArray) else ⟨#[110,111]⟩).data.toList=bif b then [121,101,115] else [110,111]:=by cases b <;> rfl
  rw [hb4] at hj
  go_wp2_with ((go_at_call 157; refine hj.mono ?_; rintro e w' ⟨rfl,hb⟩))
  go_ret
  exact ⟨rfl,more_trans hbel (Pi.Q.More.below hb)⟩
 ·clear hk ht hm
  go_region_held3 (fun w'=>w'.cell? ⟨w.heap.size+1+1,0,none⟩=some (.int .i64 lo)∧w'.cell? ⟨w.heap.size+1+1,1,none⟩=some (.int .i64 hi)∧w'.cell? ⟨w.heap.size+1+1,2,none⟩=some (.bool b)) (go_keep)
   (first
   | (go_at_call 141; refine (Tryz.strconv_Itoa_small lo h0 _).mono ?_; rintro e w' ⟨rfl,rfl⟩)
   | (go_at_call 141; refine (Tryz.strconv_Itoa_small hi h1 _).mono ?_; rintro e w' ⟨rfl,rfl⟩))
  all_goals exact ⟨rfl,rfl,more5 ..,lt5 ..,at5 ..⟩
end Go.Proofs
namespace Go.Proofs
open Go.RowKit
theorem meth151 (v:Value)(w:World):Sem.run Tryz.prog (method 325 151 v "mahlstick/coat.long") w=.ok (147,v) w:=by kernel_rfl
theorem mk3 (w:World):Sem.run Tryz.prog (Instr.makeSlice 126 (.int .i64 0) (.int .i64 3)) w=.ok (.slice (some ⟨w.heap.size,0,none⟩) 0 3) (w.alloc (.cells #[.string ⟨#[]⟩,.string ⟨#[]⟩,.string ⟨#[]⟩] 9)):=by kernel_rfl
theorem ta151n (v:Value)(w:World):Sem.run Tryz.prog (Instr.typeAssert (.iface 151 v) 153 149 true) w=.ok (.tuple #[.agg #[.int .i64 0,.int .i64 0,.bool false],.bool false]) w:=by kernel_rfl
theorem ta151 (v:Value)(w:World):Sem.run Tryz.prog (Instr.typeAssert (.iface 151 v) 153 151 true) w=.ok (.tuple #[v,.bool true]) w:=by kernel_rfl
theorem heap4 (w:World)(a b c d:Obj):((((w.alloc a).alloc b).alloc c).alloc d).drew.heap=(((w.heap.push a).push b).push c).push d:=rfl
theorem more4 (w:World)(a b c d:Obj):Pi.More w ((((w.alloc a).alloc b).alloc c).alloc d).drew:=by
 refine ⟨rfl,rfl,by rw [heap4]; simp; omega,fun j hj=>?_⟩
 rw [heap4,Array.getElem?_push,if_neg (by simp; omega),Array.getElem?_push,if_neg (by simp; omega),Array.getElem?_push,if_neg (by simp; omega),Array.getElem?_push,if_neg (by omega)]
theorem lt4 (w:World)(a b c d:Obj):w.heap.size+1 < ((((w.alloc a).alloc b).alloc c).alloc d).drew.heap.size:=by
 rw [heap4]; simp
theorem at4 (w:World)(a b c d:Obj):((((w.alloc a).alloc b).alloc c).alloc d).drew.heap[w.heap.size+1]?=some b:=by
 rw [heap4,Array.getElem?_push,if_neg (by simp),Array.getElem?_push,if_neg (by simp),Array.getElem?_push,if_pos (by simp)]
set_option maxRecDepth 100000 in
set_option maxHeartbeats 1600000 in
theorem written_coat (lo hi:Nat)(h0:lo < 100)(h1:hi < 100)(w:World) :
  Calls Tryz.prog 140 #[.iface 151 (.agg #[.int .i64 lo,.int .i64 hi])] w fun e w'=>e=.returned (.string ⟨(Lib.join [[99,111,97,116],Lib.decDigits lo,Lib.decDigits hi] [32]).toArray⟩)∧Pi.More w w':=by
 have hm:=meth151 (.agg #[.int .i64 lo,.int .i64 hi])
 have hk:=mk3
 have ht:=ta151n (.agg #[.int .i64 lo,.int .i64 hi])
 have ht2:=ta151 (.agg #[.int .i64 lo,.int .i64 hi])
 have c3:=cell_new3 w
 have c4:=cell_new4 w
 have c5:=cell_new5 w
 go_enter Tryz.func140,Tryz.ntmps140
 go_wp2_with (first
  | (go_at_call 141; refine (Tryz.strconv_Itoa_small _ h0 _).mono ?_; rintro e w' ⟨rfl,rfl⟩)
  | (go_at_call 141; refine (Tryz.strconv_Itoa_small _ h1 _).mono ?_; rintro e w' ⟨rfl,rfl⟩)
  | go_in)
 refine Code.wp_mono (Q:=fun e a' W=>e=.normal∧a'=⟨#[.iface 151 (.agg #[.int .i64 lo,.int .i64 hi]),undef,.string ⟨#[]⟩,.slice (some ⟨w.heap.size+1,0,none⟩) 3 3,undef,.pointer (some ⟨w.heap.size+1+1,0,none⟩),.iface 151 (.agg #[.int .i64 lo,.int .i64 hi]),.int .i64 3,.slice (some ⟨w.heap.size+1,0,none⟩) 0 3,.iface 151 (.agg #[.int .i64 lo,.int .i64 hi]),.tuple #[.agg #[.int .i64 0,.int .i64 0,.bool false],.bool false],.bool false,.agg #[.int .i64 0,.int .i64 0,.bool false],undef,undef,undef,undef,undef,undef,undef,undef,undef,undef,undef,undef,undef,undef,undef,undef,.tuple #[.agg #[.int .i64 lo,.int .i64 hi],.bool true],.bool true,.agg #[.int .i64 lo,.int .i64 hi],.slice (some ⟨w.heap.size+1,0,none⟩) 0 3,.pointer (some ⟨w.heap.size+1+1,0,none⟩),.pointer (some ⟨w.heap.size+1+1,0,none⟩),.int .i64 lo,.string ⟨(Lib.decDigits lo).toArray⟩,.pointer (some ⟨w.heap.size+1+1,0,none⟩),.pointer (some ⟨w.heap.size+1+1,1,none⟩),.int .i64 hi,.string ⟨(Lib.decDigits hi).toArray⟩,.slice (some ⟨w.heap.size+1+1+1,0,none⟩) 3 3,.slice (some ⟨w.heap.size+1,0,none⟩) 3 3,undef,undef],[]⟩ ∧
   Pi.More w W∧w.heap.size+1 < W.heap.size∧W.heap[w.heap.size+1]?=some (.cells #[.string ⟨#[99,111,97,116]⟩,.string ⟨(Lib.decDigits lo).toArray⟩,.string ⟨(Lib.decDigits hi).toArray⟩] 9)) ?_ ?_
 ·rintro e a' W ⟨rfl,rfl,hbel,hlt,hcells⟩
  have hlo:(Lib.decDigits lo).length≤2:=by rw [Pi.Q.dig_eq lo h0]; unfold Pi.Q.dig; cases Nat.blt lo 10 <;> simp
  have hhi:(Lib.decDigits hi).length≤2:=by rw [Pi.Q.dig_eq hi h1]; unfold Pi.Q.dig; cases Nat.blt hi 10 <;> simp
  have hj:=Tryz.strings_Join (w.heap.size+1) 0 3 [⟨#[99,111,97,116]⟩,⟨(Lib.decDigits lo).toArray⟩,⟨(Lib.decDigits hi).toArray⟩] ⟨#[32]⟩ W
   (fun j x hx=>by
    simp only [World.cell?,hcells]
    match j,hx with
    | 0,hx=>simp at hx; subst hx; rfl
    | 1,hx=>simp at hx; subst hx; rfl
    | 2,hx=>simp at hx; subst hx; rfl
    | j+3,hx=>simp at hx) hlt (by simp) (by simp) (by
     simp [Lib.join,List.intercalate]; omega)
  simp only [List.length_cons,List.length_nil,Nat.zero_add,Nat.reduceAdd,List.map_cons,List.map_nil] at hj
  go_wp2_with ((go_at_call 157; refine hj.mono ?_; rintro e w' ⟨rfl,hb⟩))
  go_ret
  exact ⟨rfl,more_trans hbel (Pi.Q.More.below hb)⟩
 ·clear hk ht ht2 hm
  go_region_held3 (fun w'=>w'.cell? ⟨w.heap.size+1+1,0,none⟩=some (.int .i64 lo)∧w'.cell? ⟨w.heap.size+1+1,1,none⟩=some (.int .i64 hi)) (go_keep)
   (first
   | (go_at_call 141; refine (Tryz.strconv_Itoa_small lo h0 _).mono ?_; rintro e w' ⟨rfl,rfl⟩)
   | (go_at_call 141; refine (Tryz.strconv_Itoa_small hi h1 _).mono ?_; rintro e w' ⟨rfl,rfl⟩))
  all_goals exact ⟨rfl,rfl,more4 ..,lt4 ..,at4 ..⟩
end Go.Proofs
namespace Go
section
variable {P:Program} {ops:Array Oper} {Q:Exit→Act→World→Prop} {md:Region.Mode}
theorem cnt_set {l:List Bool}{i:Nat}(h:l[i]?=some false):(l.set i true).count false+1=l.count false:=by
 induction l generalizing i with
 | nil=>cases h
 | cons x l ih =>
  cases i with
  | zero =>
   have e:x=false:=by simpa using h
   subst e
   simp
  | succ i =>
   have:=ih (i:=i) (by simpa using h)
   rw [List.set_cons_succ,List.count_cons,List.count_cons]; omega
theorem wpAny_inv {I:Array Bool→Act→World→Prop}
  (hac:∀i o,ops[i]?=some o→∀e∈o.after,Region.binds md e=true→e.on < i)
  (step:∀(listed:Array Bool) a w i,listed.size=ops.size→I listed a w→i∈Region.ready md ops listed→wpOp P ops Q i (I (listed.setIfInBounds i true)) a w)
  (fin:∀(listed:Array Bool) a w,listed.size=ops.size→(∀i,i < ops.size→listed.getD i false=true)→I listed a w→Q .normal a w) :
  ∀(fuel:Nat) (listed:Array Bool) a w,listed.size=ops.size→listed.toList.count false≤fuel→I listed a w→wpAny P md ops Q fuel listed a w:=by
 have gd:∀(listed:Array Bool) i b,i < listed.size→listed.getD i b=listed.getD i true:=fun listed i b hi=>by
  simp [Array.getD,hi]
 have done:∀(listed:Array Bool),listed.size=ops.size→Region.ready md ops listed=[]→∀i,i < ops.size→listed.getD i false=true:=by
  intro listed hs hr i
  induction i using Nat.strongRecOn with
  | _ i ih =>
   intro hi
   cases hb:listed.getD i false with
   | true=>rfl
   | false =>
    exfalso
    have hm:i∈Region.ready md ops listed:=by
     rw [mem_ready]
     refine ⟨by rw [←gd listed i false (by omega)]; exact hb,ops[i],by simp [hi],fun e he hbd=>?_⟩
     exact ih e.on (hac i ops[i] (by simp [hi]) e he hbd) (by have:=hac i ops[i] (by simp [hi]) e he hbd; omega)
    rw [hr] at hm; cases hm
 intro fuel
 induction fuel with
 | zero =>
  intro listed a w hs hc hI
  have hall:∀i,i < ops.size→listed.getD i false=true:=by
   intro i hi
   cases hb:listed.getD i false with
   | true=>rfl
   | false =>
    exfalso
    have hl:listed[i]?=some false:=by
     rw [Array.getElem?_eq_getElem (by omega)]
     have:listed.getD i false=listed[i]'(by omega):=by simp [Array.getD,show i < listed.size by omega]
     rw [←this,hb]
    have:=List.count_pos_iff.2 (List.mem_of_getElem? (by simpa using hl:listed.toList[i]?=some false))
    omega
  refine ⟨?_,fin listed a w hs hall hI⟩
  cases hr:Region.ready md ops listed with
  | nil=>rfl
  | cons i l =>
   exfalso
   have hm:i∈Region.ready md ops listed:=by rw [hr]; exact List.mem_cons_self ..
   rw [mem_ready] at hm
   obtain ⟨h1,o,ho,_⟩:=hm
   have hi:i < ops.size:=(Array.getElem?_eq_some_iff.1 ho).1
   have h2:=hall i hi
   rw [gd listed i false (by omega),h1] at h2; cases h2
 | succ fuel ih =>
  intro listed a w hs hc hI
  refine ⟨fun hr=>fin listed a w hs (done listed hs hr) hI,fun i hi=>?_⟩
  have hm:=mem_ready.1 hi
  obtain ⟨h1,o,ho,_⟩:=hm
  have hil:i < ops.size:=(Array.getElem?_eq_some_iff.1 ho).1
  have hl:listed.toList[i]?=some false:=by
   have e:listed.getD i true=listed[i]'(by omega):=by simp [Array.getD,show i < listed.size by omega]
   rw [h1] at e
   rw [List.getElem?_eq_getElem (by simpa using (by omega:i < listed.size))]
   simp only [Array.getElem_toList]
   rw [←e]
  refine wpOp_mono (fun a' w' h=>ih _ a' w' (by simpa using hs) ?_ h) (step listed a w i hs hI hi)
  have:=cnt_set hl
  rw [Array.toList_setIfInBounds]; omega
theorem wp_region_inv {I:Array Bool→Act→World→Prop}{id:Nat}{a:Act}{w:World}(hm:P.follows .mixedOrders=true)
  (hac:∀i o,ops[i]?=some o→∀e∈o.after,Region.binds .any e=true→e.on < i)
  (hI:I (Array.replicate ops.size false) a { w with drawn:=w.drawn+1 })
  (step:∀(listed:Array Bool) a w i,listed.size=ops.size→I listed a w→i∈Region.ready .any ops listed→wpOp P ops Q i (I (listed.setIfInBounds i true)) a w)
  (fin:∀(listed:Array Bool) a w,listed.size=ops.size→(∀i,i < ops.size→listed.getD i false=true)→I listed a w→Q .normal a w) :
  (Code.region id ops true).wp P Q a w:=by
 refine wp_region_any hm (wpAny_inv hac step fin _ _ _ _ (by simp) ?_ hI)
 refine Nat.le_trans (List.count_le_length ..) (by simp)
theorem acyc {ops:Array Oper}(h:(ops.toList.zipIdx.all fun x=>x.1.after.toList.all fun e=>Nat.blt e.on x.2)=true):∀(i:Nat) (o:Oper),ops[i]?=some o→∀e∈o.after,Region.binds .any e=true→e.on < i:=by
 intro i o ho e he _
 rw [List.all_eq_true] at h
 have:=h (o,i) (List.mem_zipIdx_iff_getElem?.2 (by simpa using ho))
 rw [List.all_eq_true] at this
 exact Nat.le_of_ble_eq_true (this e (by simpa using he))
def upd (l:Nat→Bool)(i:Nat):Nat→Bool:=fun j=>bif Nat.beq j i then true else l j
def updB (l:Nat→Bool)(i:Nat)(b:Bool):Nat→Bool:=fun j=>bif Nat.beq j i then b else l j
theorem updB_eq {l:Nat→Bool}{i:Nat}{b:Bool}(h:l i=b):updB l i b=l:=by
 funext j
 unfold updB
 by_cases e:j=i
 ·subst e; rw [Nat.beq_refl,cond_true,h]
 ·have:Nat.beq j i=false:=by cases hb:Nat.beq j i with | false=>rfl | true=>exact (e (Nat.eq_of_beq_eq_true hb)).elim
  rw [this]; rfl
def Dep (ops:Array Oper)(l:Nat→Bool)(i:Nat):Prop:=∀o,ops[i]?=some o→∀e∈o.after,Region.binds .any e=true→l e.on=true
theorem wp_region_do {J:(Nat→Bool)→Act→World→Prop}{id:Nat}{a:Act}{w:World}(hm:P.follows .mixedOrders=true)
  (hac:∀i o,ops[i]?=some o→∀e∈o.after,Region.binds .any e=true→e.on < i)
  (hJ:J (fun _=>false) a { w with drawn:=w.drawn+1 })
  (step:∀(l:Nat→Bool) a w i,(∀j,l j=true→Dep ops l j)→J l a w→i < ops.size→l i=false→Dep ops l i→wpOp P ops Q i (J (upd l i)) a w)
  (fin:∀(l:Nat→Bool) a w,(∀i,i < ops.size→l i=true)→J l a w→Q .normal a w) :
  (Code.region id ops true).wp P Q a w:=by
 have gd:∀(listed:Array Bool) j,listed.getD j false=true→j < listed.size∧listed.getD j true=true:=fun listed j h=>by
  by_cases hj:j < listed.size
  ·refine ⟨hj,?_⟩
   simp [Array.getD,hj] at h ⊢; exact h
  ·simp [Array.getD,hj] at h
 have gs:∀(listed:Array Bool) i,i < listed.size→(fun j=>(listed.setIfInBounds i true).getD j false)=upd (fun j=>listed.getD j false) i:=fun listed i hi=>by
  funext j
  unfold upd
  by_cases e:j=i
  ·subst e; rw [Nat.beq_refl,cond_true]; simp [Array.getD,hi]
  ·have:Nat.beq j i=false:=by cases hb:Nat.beq j i with | false=>rfl | true=>exact (e (Nat.eq_of_beq_eq_true hb)).elim
   rw [this,cond_false]
   by_cases hj:j < listed.size
   ·simp only [Array.getD,Array.size_setIfInBounds,hj,dite_true]
    show (listed.setIfInBounds i true)[j]'(by simpa using hj)=listed[j]
    rw [Array.getElem_setIfInBounds (by simpa using hj),if_neg (fun h=>e h.symm)]
   ·simp [Array.getD,hj]
 refine wp_region_inv (I:=fun listed a w=>(∀j,listed.getD j false=true→Dep ops (fun j=>listed.getD j false) j)∧J (fun j=>listed.getD j false) a w) hm hac ⟨fun j h=>?_,?_⟩ (fun listed a w i hs hI hr=>?_) fun listed a w hs hall hI=>fin _ a w hall hI.2
 ·exfalso
  by_cases hj:j < ops.size <;> simp [Array.getD,hj] at h
 ·have e:(fun j=>(Array.replicate ops.size false).getD j false)=fun _=>false:=by
   funext j
   by_cases hj:j < ops.size <;> simp [Array.getD,hj]
  rw [e]; exact hJ
 ·obtain ⟨h1,o,ho,h2⟩:=mem_ready.1 hr
  have hil:i < ops.size:=(Array.getElem?_eq_some_iff.1 ho).1
  have hdep:Dep ops (fun j=>listed.getD j false) i:=fun o' ho' e he hb=>by
   rw [ho] at ho'; cases ho'; exact h2 e he hb
  have hlf:listed.getD i false=false:=by
   cases hb:listed.getD i false with
   | false=>rfl
   | true=>have:=(gd listed i hb).2; rw [h1] at this; cases this
  refine wpOp_mono (fun a' w' hJ'=>?_) (step _ a w i hI.1 hI.2 hil hlf hdep)
  rw [gs listed i (by omega)]
  refine ⟨fun j hj=>?_,hJ'⟩
  have hj:(fun j=>(listed.setIfInBounds i true).getD j false) j=true:=hj
  rw [gs listed i (by omega)] at hj
  intro o' ho' e he hb
  have up:∀k,listed.getD k false=true→upd (fun j=>listed.getD j false) i k=true:=fun k hk=>by
   show (bif Nat.beq k i then true else listed.getD k false)=true
   rw [hk]; cases Nat.beq k i <;> rfl
  by_cases e2:j=i
  ·subst e2; exact up _ (hdep o' ho' e he hb)
  ·have hj2:listed.getD j false=true:=by
    unfold upd at hj
    have:Nat.beq j i=false:=by cases hb:Nat.beq j i with | false=>rfl | true=>exact (e2 (Nat.eq_of_beq_eq_true hb)).elim
    rw [this] at hj; exact hj
   exact up _ (hI.1 j hj2 o' ho' e he hb)
theorem stV {i:Nat}{o:Oper}{v:Value}{K:Act→World→Prop}{a:Act}{w w':World}(ho:ops[i]?=some o)(hg:o.guard=none)(hr:Sem.run P (execOp a.eval o) w=.ok (.value v) w')(hK:K (a.put o.dst v) w'):wpOp P ops Q i K a w:=by
 unfold wpOp
 rw [ho]
 simp only [Region.wanted,hg,if_true]
 left
 show Oper.upon P o a K Q (Sem.run P (execOp a.eval o) w)
 rw [hr]; exact hK
theorem stS {i:Nat}{o:Oper}{K:Act→World→Prop}{a:Act}{w w':World}(ho:ops[i]?=some o)(hg:o.guard=none)(hr:Sem.run P (execOp a.eval o) w=.ok .skip w')(hK:K (a.put o.dst undef) w'):wpOp P ops Q i K a w:=by
 unfold wpOp
 rw [ho]
 simp only [Region.wanted,hg,if_true]
 left
 show Oper.upon P o a K Q (Sem.run P (execOp a.eval o) w)
 rw [hr]; exact hK
theorem stC {i:Nat}{o:Oper}{f:FuncId}{args:Array Value}{K:Act→World→Prop}{a:Act}{w w':World}(ho:ops[i]?=some o)(hg:o.guard=none)(hr:Sem.run P (execOp a.eval o) w=.ok (.enter f args) w')
  (hK:Calls P f args w' fun e w''=>∃v,e=.returned v∧K (a.put o.dst v) w''):wpOp P ops Q i K a w:=by
 unfold wpOp
 rw [ho]
 simp only [Region.wanted,hg,if_true]
 left
 show Oper.upon P o a K Q (Sem.run P (execOp a.eval o) w)
 rw [hr]
 refine hK.mono ?_
 rintro e w'' ⟨v,rfl,h⟩
 exact h
end
end Go
namespace Go.Proofs
open Go.RowKit Go.Sort Go.Lib
theorem Tryz.laysM171:Go.Proofs.LaysM.n171 Tryz.prog Tryz.lays171_ren:={ Tryz.lays171 with
 i0:=by kernel_rfl
 i2:=by kernel_rfl
 i3:=by kernel_rfl
 i4:=by kernel_rfl
 i5:=by kernel_rfl
 i9:=by kernel_rfl
 i20:=by kernel_rfl
 i37:=by kernel_rfl
 i46:=by kernel_rfl
 i51:=by kernel_rfl
 i53:=by kernel_rfl
 i171:=by kernel_rfl
 i173:=by kernel_rfl
 i212:=by kernel_rfl
 i232:=by kernel_rfl
 i233:=by kernel_rfl
 m17:=by kernel_rfl
 m18:=by kernel_rfl
 m19:=by kernel_rfl }
theorem more_grow (w:World)(k:Nat)(os:Array Obj):Pi.More w (grow (w.drewN k) os):=by
 refine ⟨rfl,rfl,by show w.heap.size≤(w.heap++os).size; simp,fun j hj=>?_⟩
 show (w.heap++os)[j]?=_
 rw [Array.getElem?_append_left hj]
theorem itoa3 (n:Nat)(h:n < 1000)(w:World)(ht:Lib.TabIs Tryz.prog w "internal/strconv.uint64pow10" .u64 Lib.pow10Tab) :
  Calls Tryz.prog 141 #[.int .i64 (n:Nat)] w fun e w'=>e=.returned (.string ⟨(Lib.decDigits n).toArray⟩)∧Pi.More w w':=by
 refine (Any.strconv_Itoa Tryz.laysM171 ((n:Nat):Int) (by omega) (by omega) w ht).mono ?_
 rintro e w' ⟨rfl,k,os,rfl⟩
 exact ⟨by rw [Lib.itoa_nonneg],more_grow w k os⟩
end Go.Proofs
namespace Go.Proofs
open Go.RowKit Go.Sort Go.Lib Go.Pi
def sl (b:Bool)(v:Value):Value:=bif b then v else undef
theorem getHas {P:Program}{W:World}{m:Nat}{es:Array MapEntry}{c:Nat}(h:W.heap[m]?=some (.map es c)):Sem.run P (getObj m) W=.ok (.map es c) W:=by simp only [getObj,Sem.run,h]
theorem setHas {P:Program}{W:World}{m:Nat}{es:Array MapEntry}{c:Nat}(o':Obj)(h:W.heap[m]?=some (.map es c)):Sem.run P (setObj m o') W=.ok () { W with heap:=W.heap.setIfInBounds m o' }:=by simp only [setObj,Sem.run,h]
def noV:Value:=.string ⟨#[110,111]⟩
def yesV:Value:=.string ⟨#[121,101,115]⟩
def MapSt (b10 b11:Bool)(es:Array MapEntry)(c:Nat):Prop :=
 (b10=false∧b11=false∧es=#[]∧c=0)∨(b10=true∧b11=false∧es=#[⟨.bool false,noV,0⟩]∧c=1)∨(b10=false∧b11=true∧es=#[⟨.bool true,yesV,0⟩]∧c=1) ∨
 (b10=true∧b11=true∧(es=#[⟨.bool false,noV,0⟩,⟨.bool true,yesV,1⟩]∨es=#[⟨.bool true,yesV,0⟩,⟨.bool false,noV,1⟩])∧c=2)
theorem insN {W:World}{m c:Nat}{es:Array MapEntry}{k:Bool}{v:Value}(h:W.heap[m]?=some (.map es c))(hf:Sem.run Tryz.prog (Instr.findKey 4 (.bool k) es.toList) W=.ok none W) :
  Sem.run Tryz.prog (Instr.mapUpdate 170 (.map (some m)) (.bool k) v) W=.ok () { W with heap:=W.heap.setIfInBounds m (.map (es.push ⟨.bool k,v,c⟩) (c+1)) }:=by
 simp only [Instr.mapUpdate,Sem.run_bind,run_underlying Tryz.underlying170,Result.andThen_ok,getHas h,ck,hf,setHas _ h]
theorem ins10 {W:World}{m c:Nat}{es:Array MapEntry}{b11:Bool}(h:W.heap[m]?=some (.map es c))(hs:MapSt false b11 es c) :
  ∃es' c',Sem.run Tryz.prog (Instr.mapUpdate 170 (.map (some m)) (.bool false) noV) W=.ok () { W with heap:=W.heap.setIfInBounds m (.map es' c') }∧MapSt true b11 es' c':=by
 rcases hs with ⟨_,h2,rfl,rfl⟩ | ⟨h1,_⟩ | ⟨_,h2,rfl,rfl⟩ | ⟨h1,_⟩
 ·exact ⟨_,_,insN h (fk0 false W),.inr (.inl ⟨rfl,h2,rfl,rfl⟩)⟩
 ·cases h1
 ·exact ⟨_,_,insN h (fk2 yesV 0 W),.inr (.inr (.inr ⟨rfl,h2,.inr rfl,rfl⟩))⟩
 ·cases h1
theorem ins11 {W:World}{m c:Nat}{es:Array MapEntry}{b10:Bool}(h:W.heap[m]?=some (.map es c))(hs:MapSt b10 false es c) :
  ∃es' c',Sem.run Tryz.prog (Instr.mapUpdate 170 (.map (some m)) (.bool true) yesV) W=.ok () { W with heap:=W.heap.setIfInBounds m (.map es' c') }∧MapSt b10 true es' c':=by
 rcases hs with ⟨h1,_,rfl,rfl⟩ | ⟨h1,_,rfl,rfl⟩ | ⟨_,h2,_⟩ | ⟨_,h2,_⟩
 ·exact ⟨_,_,insN h (fk0 true W),.inr (.inr (.inl ⟨h1,rfl,rfl,rfl⟩))⟩
 ·exact ⟨_,_,insN h (fk1 noV 0 W),.inr (.inr (.inr ⟨h1,rfl,.inl rfl,rfl⟩))⟩
 ·cases h2
 ·cases h2
theorem lkH {W:World}{m c:Nat}{es:Array MapEntry}(b:Bool)(h:W.heap[m]?=some (.map es c))(hs:MapSt true true es c) :
  Sem.run Tryz.prog (Instr.lookup 170 (.map (some m)) (.bool b) false) W=.ok (bif b then yesV else noV) W:=by
 rcases hs with ⟨h1,_⟩ | ⟨_,h2,_⟩ | ⟨h1,_⟩ | ⟨_,_,he,_⟩
 ·cases h1
 ·cases h2
 ·cases h1
 ·rcases he with rfl | rfl
  ·cases b
   ·simp only [Instr.lookup,Sem.run_bind,run_underlying Tryz.underlying170,Sem.run_pure,Result.andThen_ok,getHas h,ckE,fkB,Bool.false_eq_true,if_false,cond_false]
   ·simp only [Instr.lookup,Sem.run_bind,run_underlying Tryz.underlying170,Sem.run_pure,Result.andThen_ok,getHas h,ckE,fkA,Bool.false_eq_true,if_false,cond_true]
  ·cases b
   ·simp only [Instr.lookup,Sem.run_bind,run_underlying Tryz.underlying170,Sem.run_pure,Result.andThen_ok,getHas h,ckE,fkD,Bool.false_eq_true,if_false,cond_false]
   ·simp only [Instr.lookup,Sem.run_bind,run_underlying Tryz.underlying170,Sem.run_pure,Result.andThen_ok,getHas h,ckE,fkC,Bool.false_eq_true,if_false,cond_true]
theorem ldH {W:World}{b o:Nat}{t:TypeId}{cs:Array Value}{e:TypeId}{fr:Nat×Nat}{v:Value}(hk:known Tryz.prog t=true)(ha:aggOf Tryz.prog t=false)(h:W.heap[b]?=some (.cells cs e fr))(hv:cs[o]?=some v) :
  Sem.run Tryz.prog (Instr.loadAt t (.pointer (some ⟨b,o,none⟩))) W=.ok v W:=by
 obtain ⟨k1,k2⟩:=known_spec hk
 have hy:W.cell? ⟨b,o,none⟩=some v:=by simp only [World.cell?,h]; exact hv
 simp only [Instr.loadAt,Instr.sureAddr,Sem.run_bind,Sem.run_pure,Result.andThen_ok,loadVar,aggOf_run k1]
 rw [ha]
 simp [hy]
theorem appH {W:World}{B S:Nat}{news olds:List Value}{n:Nat}{fr fr':Nat×Nat}(hn:news.length=n)(ho:olds.length=n)(h1:∀u∈news,u.oneCell'=true)(hB:W.heap[B]?=some (.cells olds.toArray 9 fr))(hfr:fr=(0,0))(hS:W.heap[S]?=some (.cells news.toArray 9 fr')) :
  (Builtin.append_ #[126,126] 126 #[.slice (some ⟨B,0,none⟩) 0 n,.slice (some ⟨S,0,none⟩) n n]).run Tryz.prog W=.ok (.slice (some ⟨B,0,none⟩) n n) (W.setCells B 0 news):=by
 have hu:Tryz.prog.underlying 126=some (.slice 9):=by kernel_rfl
 obtain ⟨i,hi,hsz⟩:∃i,Tryz.prog.info? 9=some i∧i.size=1:=by
  have:(Tryz.prog.info? 9).map (·.size)=some 1:=by kernel_rfl
  rw [Option.map_eq_some_iff] at this; exact this
 have hsrc:Src Tryz.prog i.size 126 (.slice (some ⟨S,0,none⟩) n n) n news W:=Src.ofSlice W hu ⟨S,0,none⟩ n n news (by rw [hsz]; omega) (fun j u hj=>by
  have e:(⟨S,0,none⟩:Addr).add j=⟨S,j,none⟩:=by rw [add_none,Nat.zero_add]
  rw [e]
  simp only [World.cell?,hS]
  simpa using hj) h1
 have:=run_append_room_src (P:=Tryz.prog) W 126 126 126 9 i hu hi B 0 0 n (.slice (some ⟨S,0,none⟩) n n) n news hsrc (by omega) (fun j hj=>by
  simp only [World.cell?,hB]; simp; omega) (fun j hj=>by
  simp only [World.frozen?,hB,hfr]; simp)
 simpa using this
theorem setL_all (olds news:List Value)(h:olds.length=news.length):setL olds.toArray 0 news=news.toArray:=by
 apply Array.ext_getElem?
 intro i
 rw [setL_get _ _ _ (by simp; omega)]
 by_cases hi:i < news.length
 ·rw [if_pos (by omega)]; simp
 ·rw [if_neg (by omega),Array.getElem?_eq_none (by simp; omega),Array.getElem?_eq_none (by simp; omega)]
theorem appW {W:World}{B:Nat}{news olds:List Value}{e:TypeId}{fr:Nat×Nat}(hB:W.heap[B]?=some (.cells olds.toArray e fr))(h:olds.length=news.length):(W.setCells B 0 news).heap=W.heap.setIfInBounds B (.cells news.toArray e fr):=by
 rw [setCells_heap B e fr news 0 W _ hB,setL_all _ _ h]
theorem more_alloc {w W:World}(h:Pi.More w W)(o:Obj):Pi.More w (W.alloc o) :=
 ⟨h.os,h.output,Nat.le_trans h.size (by show W.heap.size≤(W.heap.push o).size; simp),fun j hj=>by
  show (W.heap.push o)[j]?=_
  rw [Array.getElem?_push,if_neg (by have:=h.size; omega)]; exact h.old j hj⟩
theorem more_set {w W W':World}(h:Pi.More w W){m:Nat}{o:Obj}(hm:w.heap.size≤m)(h1:W'.os=W.os)(h2:W'.output=W.output)(h3:W'.heap=W.heap.setIfInBounds m o):Pi.More w W' :=
 ⟨h1.trans h.os,h2.trans h.output,by rw [h3]; simpa using h.size,fun j hj=>by
  rw [h3,Array.getElem?_setIfInBounds_ne (by omega)]; exact h.old j hj⟩
theorem tab_more {w W:World}(ht:Lib.TabIs Tryz.prog w "internal/strconv.uint64pow10" .u64 Lib.pow10Tab)(h:Pi.More w W):Lib.TabIs Tryz.prog W "internal/strconv.uint64pow10" .u64 Lib.pow10Tab:=by
 unfold Lib.TabIs World.var? at ht ⊢
 obtain ⟨g,hg⟩:∃g,Tryz.prog.globalNamed "internal/strconv.uint64pow10" = some g:=by
  cases hg:Tryz.prog.globalNamed "internal/strconv.uint64pow10" with
  | none=>rw [hg] at ht; cases ht
  | some g=>exact ⟨g,rfl⟩
 rw [hg] at ht ⊢
 have ht:(match w.heap[g]? with | some (.cells cs _ _)=>some cs | _=>none)=_:=ht
 show (match W.heap[g]? with | some (.cells cs _ _)=>some cs | _=>none)=_
 have hl:g < w.heap.size:=by
  cases hx:w.heap[g]? with
  | none=>rw [hx] at ht; cases ht
  | some x=>exact (Array.getElem?_eq_some_iff.1 hx).1
 rw [h.old g hl]; exact ht
theorem mixedP:Tryz.prog.follows .mixedOrders=true:=by kernel_rfl
theorem ini3 {w W:World}{a b c:Obj}(h:W.heap=((w.heap.push a).push b).push c)(ho:W.os=w.os)(hp:W.output=w.output):Pi.More w W∧w.heap.size+3≤W.heap.size∧W.heap[w.heap.size+1]?=some b∧W.heap[w.heap.size+1+1]?=some c:=by
 refine ⟨⟨ho,hp,by rw [h]; simp; omega,fun j hj=>?_⟩,by rw [h]; simp,?_,?_⟩
 ·rw [h,Array.getElem?_push,if_neg (by simp; omega),Array.getElem?_push,if_neg (by simp; omega),Array.getElem?_push,if_neg (by omega)]
 ·rw [h,Array.getElem?_push,if_neg (by simp),Array.getElem?_push,if_pos (by simp)]
 ·rw [h,Array.getElem?_push,if_pos (by simp)]
end Go.Proofs
set_option maxRecDepth 100000
namespace Go.Proofs
open Go.RowKit Go.Sort Go.Lib Go.Pi
def aD (k lo hi:Nat)(b:Bool)(m s:Nat)(l:Nat→Bool):Act:=⟨#[.iface 149 (.agg #[.int .i64 lo,.int .i64 hi,.bool b]),undef,.string ⟨#[]⟩,bif l 18 then .slice (some ⟨k+1,0,none⟩) 4 4 else .slice (some ⟨k+1,0,none⟩) 0 4,.pointer (some ⟨k+1+1,0,none⟩),undef,.iface 149 (.agg #[.int .i64 lo,.int .i64 hi,.bool b]),.int .i64 4,.slice (some ⟨k+1,0,none⟩) 0 4,.iface 149 (.agg #[.int .i64 lo,.int .i64 hi,.bool b]),.tuple #[.agg #[.int .i64 lo,.int .i64 hi,.bool b],.bool true],.bool true,.agg #[.int .i64 lo,.int .i64 hi,.bool b],sl (l 0) (.slice (some ⟨k+1,0,none⟩) 0 4),sl (l 1) (.pointer (some ⟨k+1+1,0,none⟩)),sl (l 2) (.pointer (some ⟨k+1+1,0,none⟩)),sl (l 3) (.int .i64 lo),sl (l 4) (.string ⟨(Lib.decDigits lo).toArray⟩),sl (l 5) (.pointer (some ⟨k+1+1,0,none⟩)),sl (l 6) (.pointer (some ⟨k+1+1,1,none⟩)),sl (l 7) (.int .i64 hi),sl (l 8) (.string ⟨(Lib.decDigits hi).toArray⟩),sl (l 9) (.map (some m)),sl (l 12) (.map (some m)),sl (l 13) (.pointer (some ⟨k+1+1,2,none⟩)),sl (l 14) (.bool b),sl (l 15) (bif b then yesV else noV),sl (l 16) (.slice (some ⟨s,0,none⟩) 4 4),sl (l 17) (.slice (some ⟨k+1,0,none⟩) 4 4),undef,undef,undef,undef,undef,undef,undef,undef,undef,undef,undef,undef,undef,undef,undef,undef],[]⟩
def wdD (lo hi:Nat)(b:Bool):List Value:=[.string ⟨#[100,97,121]⟩,.string ⟨(Lib.decDigits lo).toArray⟩,.string ⟨(Lib.decDigits hi).toArray⟩,(bif b then yesV else noV)]
def olD:List Value:=[.string ⟨#[]⟩,.string ⟨#[]⟩,.string ⟨#[]⟩,.string ⟨#[]⟩]
structure WD (w:World)(lo hi:Nat)(b:Bool)(m s:Nat)(l:Nat→Bool)(W:World):Prop where
 mo:Pi.More w W
 sz:w.heap.size+3≤W.heap.size
 wd:W.heap[w.heap.size+1]?=some (.cells (bif l 17 then (wdD lo hi b).toArray else (olD).toArray) 9)
 xx:W.heap[w.heap.size+1+1]?=some (.cells #[.int .i64 lo,.int .i64 hi,.bool b] 149)
 mp:l 9=true→∃es c,W.heap[m]?=some (.map es c)∧MapSt (l 10) (l 11) es c∧w.heap.size+3≤m
 sc:l 16=true→W.heap[s]?=some (.cells (wdD lo hi b).toArray 9)∧w.heap.size+3≤s
theorem WD.more {w:World}{lo hi:Nat}{b:Bool}{m s:Nat}{l l':Nat→Bool}{W W':World}(hW:WD w lo hi b m s l W)(h':Pi.More W W')(hA:l 17=l' 17)(hM:l 9=l' 9∧l 10=l' 10∧l 11=l' 11)(hS:l 16=l' 16):WD w lo hi b m s l' W' :=
 ⟨more_trans hW.mo h',Nat.le_trans hW.sz h'.size,by rw [←hA]; exact (h'.old _ (by have:=hW.sz; omega)).trans hW.wd,(h'.old _ (by have:=hW.sz; omega)).trans hW.xx,fun h=>by
  obtain ⟨es,c,h1,h2,h3⟩:=hW.mp (hM.1.trans h)
  exact ⟨es,c,(h'.old _ (Array.getElem?_eq_some_iff.1 h1).1).trans h1,by rw [←hM.2.1,←hM.2.2]; exact h2,h3⟩,fun h=>by
  obtain ⟨h1,h2⟩:=hW.sc (hS.trans h)
  exact ⟨(h'.old _ (Array.getElem?_eq_some_iff.1 h1).1).trans h1,h2⟩⟩
theorem more_refl (w:World):Pi.More w w:=⟨rfl,rfl,Nat.le_refl _,fun _ _=>rfl⟩
theorem iniD {w:World}{lo hi:Nat}{b:Bool}{m s:Nat}{W:World}{x:Obj}(h:W.heap=((w.heap.push x).push (.cells (olD).toArray 9)).push (.cells #[.int .i64 lo,.int .i64 hi,.bool b] 149))(ho:W.os=w.os)(hp:W.output=w.output):WD w lo hi b m s (fun _=>false) W:=by
 have hi0:=ini3 h ho hp
 exact ⟨hi0.1,hi0.2.1,hi0.2.2.1,hi0.2.2.2,fun h=>(by cases h),fun h=>(by cases h)⟩
set_option maxHeartbeats 4000000 in
theorem written_day3 (lo hi:Nat)(b:Bool)(h0:lo < 1000)(h1:hi < 1000)(w:World)(ht:Lib.TabIs Tryz.prog w "internal/strconv.uint64pow10" .u64 Lib.pow10Tab) :
  Calls Tryz.prog 140 #[.iface 149 (.agg #[.int .i64 lo,.int .i64 hi,.bool b])] w fun e w'=>e=.returned (.string ⟨(Lib.join [[100,97,121],Lib.decDigits lo,Lib.decDigits hi,(bif b then [121,101,115] else [110,111])] [32]).toArray⟩)∧Pi.More w w':=by
 have hm:=meth149 (.agg #[.int .i64 lo,.int .i64 hi,.bool b])
 have hk:=mk4
 have ht':=ta149
 go_enter Tryz.func140,Tryz.ntmps140
 go_wp2_with (go_in)
 refine Code.wp_mono (Q:=fun e a' W=>e=.normal∧∃m s,a'=⟨#[.iface 149 (.agg #[.int .i64 lo,.int .i64 hi,.bool b]),undef,.string ⟨#[]⟩,.slice (some ⟨w.heap.size+1,0,none⟩) 4 4,.pointer (some ⟨w.heap.size+1+1,0,none⟩),undef,.iface 149 (.agg #[.int .i64 lo,.int .i64 hi,.bool b]),.int .i64 4,.slice (some ⟨w.heap.size+1,0,none⟩) 0 4,.iface 149 (.agg #[.int .i64 lo,.int .i64 hi,.bool b]),.tuple #[.agg #[.int .i64 lo,.int .i64 hi,.bool b],.bool true],.bool true,.agg #[.int .i64 lo,.int .i64 hi,.bool b],.slice (some ⟨w.heap.size+1,0,none⟩) 0 4,.pointer (some ⟨w.heap.size+1+1,0,none⟩),.pointer (some ⟨w.heap.size+1+1,0,none⟩),.int .i64 lo,.string ⟨(Lib.decDigits lo).toArray⟩,.pointer (some ⟨w.heap.size+1+1,0,none⟩),.pointer (some ⟨w.heap.size+1+1,1,none⟩),.int .i64 hi,.string ⟨(Lib.decDigits hi).toArray⟩,.map (some m),.map (some m),.pointer (some ⟨w.heap.size+1+1,2,none⟩),.bool b,bif b then yesV else noV,.slice (some ⟨s,0,none⟩) 4 4,.slice (some ⟨w.heap.size+1,0,none⟩) 4 4,undef,undef,undef,undef,undef,undef,undef,undef,undef,undef,undef,undef,undef,undef,undef,undef],[]⟩∧Pi.More w W∧w.heap.size+1 < W.heap.size∧W.heap[w.heap.size+1]?=some (.cells (wdD lo hi b).toArray 9)) ?_ ?_
 ·rintro e a' W ⟨rfl,m,s,rfl,hbel,hlt,hcells⟩
  have hlo:(Lib.decDigits lo).length≤3:=by rw [Pi.Q.dig3_eq lo h0]; unfold Pi.Q.dig3 Pi.Q.dig; cases Nat.blt lo 100 <;> cases Nat.blt lo 10 <;> simp
  have hhi:(Lib.decDigits hi).length≤3:=by rw [Pi.Q.dig3_eq hi h1]; unfold Pi.Q.dig3 Pi.Q.dig; cases Nat.blt hi 100 <;> cases Nat.blt hi 10 <;> simp
  have hj:=Tryz.strings_Join (w.heap.size+1) 0 4 [⟨#[100,97,121]⟩,⟨(Lib.decDigits lo).toArray⟩,⟨(Lib.decDigits hi).toArray⟩,(bif b then ⟨#[121,101,115]⟩ else ⟨#[110,111]⟩)] ⟨#[32]⟩ W
   (fun j x hx=>by
    simp only [World.cell?,hcells]
    match j,hx with
    | 0,hx=>simp at hx; subst hx; rfl
    | 1,hx=>simp at hx; subst hx; rfl
    | 2,hx=>simp at hx; subst hx; rfl
    | 3,hx=>simp at hx; subst hx; (cases b <;> rfl)
    | j+4,hx=>simp at hx) hlt (by simp) (by simp) (by
     cases b <;> simp [Lib.join,List.intercalate] <;> omega)
  simp only [List.length_cons,List.length_nil,Nat.zero_add,Nat.reduceAdd,List.map_cons,List.map_nil] at hj
  have hb4:(bif b then (⟨#[121,101,115]⟩:ByteArray) else ⟨#[110,111]⟩).data.toList=bif b then [121,101,115] else [110,111]:=by cases b <;> rfl
  rw [hb4] at hj
  go_wp2_with ((go_at_call 157; refine hj.mono ?_; rintro e w' ⟨rfl,hb⟩))
  go_ret
  exact ⟨rfl,more_trans hbel (Pi.Q.More.below hb)⟩
 ·refine wp_region_do (J:=fun l a W=>∃m s,a=aD w.heap.size lo hi b m s l∧WD w lo hi b m s l W) mixedP (acyc (by kernel_rfl)) ?_ ?_ ?_
  ·exact ⟨0,0,rfl,iniD rfl rfl rfl⟩
  ·intro l a W i hcl hJ hI hli hd
   replace hI:i < 19:=hI
   obtain ⟨m,s,rfl,hW⟩:=hJ
   match i,hI,hli,hd with
   | 0,_,hli,hd =>
    have hf:l 18=false:=by
     cases h:l 18 with
     | false=>rfl
     | true=>have:=hcl 18 h _ rfl ⟨0,.phase⟩ (by simp) rfl; rw [hli] at this; cases this
    refine stV (o:=⟨some 13,.move (.tmp 3),126, "text.go:32",#[],none⟩) (v:=.slice (some ⟨w.heap.size+1,0,none⟩) 0 4) (w':=W) rfl rfl ?_ ⟨m,s,rfl,hW.more (more_refl _) rfl ⟨rfl,rfl,rfl⟩ rfl⟩
    have E:=(show aD w.heap.size lo hi b m s (updB l 18 false)=aD w.heap.size lo hi b m s l by rw [updB_eq (show l 18=false from hf)])
    rw [←E]
    first | rfl | (show _=_; kernel_rfl)
   | 1,_,hli,hd =>
    refine stV (o:=⟨some 14,.fieldAddr 149 (.tmp 4) 0,0, "text.go:32",#[],none⟩) (v:=.pointer (some ⟨w.heap.size+1+1,0,none⟩)) (w':=W) rfl rfl ?_ ⟨m,s,rfl,hW.more (more_refl _) rfl ⟨rfl,rfl,rfl⟩ rfl⟩
    have E:=(rfl:aD w.heap.size lo hi b m s l=aD w.heap.size lo hi b m s l)
    rw [←E]
    first | rfl | (show _=_; kernel_rfl)
   | 2,_,hli,hd =>
    have d1:l 1=true:=hd _ rfl ⟨1,.data⟩ (by simp) rfl
    refine stV (o:=⟨some 15,.fieldAddr 75 (.tmp 14) 0,0, "text.go:32",#[⟨1,.data⟩],none⟩) (v:=.pointer (some ⟨w.heap.size+1+1,0,none⟩)) (w':=W) rfl rfl ?_ ⟨m,s,rfl,hW.more (more_refl _) rfl ⟨rfl,rfl,rfl⟩ rfl⟩
    have E:=(show aD w.heap.size lo hi b m s (updB l 1 true)=aD w.heap.size lo hi b m s l by rw [updB_eq (show l 1=true from d1)])
    rw [←E]
    first | rfl | (show _=_; kernel_rfl)
   | 3,_,hli,hd =>
    have d2:l 2=true:=hd _ rfl ⟨2,.data⟩ (by simp) rfl
    refine stV (o:=⟨some 16,.load 3 (.tmp 15),3, "text.go:32",#[⟨2,.data⟩],none⟩) (v:=.int .i64 lo) (w':=W) rfl rfl ?_ ⟨m,s,rfl,hW.more (more_refl _) rfl ⟨rfl,rfl,rfl⟩ rfl⟩
    have e:(aD w.heap.size lo hi b m s l).eval (.tmp 15)=.pointer (some ⟨w.heap.size+1+1,0,none⟩):=by show sl (l 2) _=_; rw [d2]; rfl
    simp only [execOp,e,Sem.run_bind,Sem.run_pure,Result.andThen_ok,ldH (o:=0) (v:=.int .i64 lo) (by kernel_rfl:known Tryz.prog 3=true) (by kernel_rfl) hW.xx rfl]
   | 4,_,hli,hd =>
    have d3:l 3=true:=hd _ rfl ⟨3,.data⟩ (by simp) rfl
    refine stC (o:=⟨some 17,.call ⟨.value (.func 141),#[.tmp 16],#[3]⟩,9, "text.go:32",#[⟨3,.data⟩],none⟩) (f:=141) (args:=#[.int .i64 (lo:Nat)]) (w':=W) rfl rfl ?_ ((itoa3 lo h0 W (tab_more ht hW.mo)).mono ?_)
    ·have E:=(show aD w.heap.size lo hi b m s (updB l 3 true)=aD w.heap.size lo hi b m s l by rw [updB_eq (show l 3=true from d3)])
     rw [←E]
     first | rfl | (show _=_; kernel_rfl)
    ·rintro e w' ⟨rfl,hmo⟩
     exact ⟨_,rfl,m,s,rfl,hW.more hmo rfl ⟨rfl,rfl,rfl⟩ rfl⟩
   | 5,_,hli,hd =>
    refine stV (o:=⟨some 18,.fieldAddr 149 (.tmp 4) 0,0, "text.go:32",#[],none⟩) (v:=.pointer (some ⟨w.heap.size+1+1,0,none⟩)) (w':=W) rfl rfl ?_ ⟨m,s,rfl,hW.more (more_refl _) rfl ⟨rfl,rfl,rfl⟩ rfl⟩
    have E:=(rfl:aD w.heap.size lo hi b m s l=aD w.heap.size lo hi b m s l)
    rw [←E]
    first | rfl | (show _=_; kernel_rfl)
   | 6,_,hli,hd =>
    have d5:l 5=true:=hd _ rfl ⟨5,.data⟩ (by simp) rfl
    refine stV (o:=⟨some 19,.fieldAddr 75 (.tmp 18) 1,0, "text.go:32",#[⟨5,.data⟩],none⟩) (v:=.pointer (some ⟨w.heap.size+1+1,1,none⟩)) (w':=W) rfl rfl ?_ ⟨m,s,rfl,hW.more (more_refl _) rfl ⟨rfl,rfl,rfl⟩ rfl⟩
    have E:=(show aD w.heap.size lo hi b m s (updB l 5 true)=aD w.heap.size lo hi b m s l by rw [updB_eq (show l 5=true from d5)])
    rw [←E]
    first | rfl | (show _=_; kernel_rfl)
   | 7,_,hli,hd =>
    have d6:l 6=true:=hd _ rfl ⟨6,.data⟩ (by simp) rfl
    refine stV (o:=⟨some 20,.load 3 (.tmp 19),3, "text.go:32",#[⟨6,.data⟩],none⟩) (v:=.int .i64 hi) (w':=W) rfl rfl ?_ ⟨m,s,rfl,hW.more (more_refl _) rfl ⟨rfl,rfl,rfl⟩ rfl⟩
    have e:(aD w.heap.size lo hi b m s l).eval (.tmp 19)=.pointer (some ⟨w.heap.size+1+1,1,none⟩):=by show sl (l 6) _=_; rw [d6]; rfl
    simp only [execOp,e,Sem.run_bind,Sem.run_pure,Result.andThen_ok,ldH (o:=1) (v:=.int .i64 hi) (by kernel_rfl:known Tryz.prog 3=true) (by kernel_rfl) hW.xx rfl]
   | 8,_,hli,hd =>
    have d7:l 7=true:=hd _ rfl ⟨7,.data⟩ (by simp) rfl
    refine stC (o:=⟨some 21,.call ⟨.value (.func 141),#[.tmp 20],#[3]⟩,9, "text.go:32",#[⟨7,.data⟩,⟨4,.chain⟩],none⟩) (f:=141) (args:=#[.int .i64 (hi:Nat)]) (w':=W) rfl rfl ?_ ((itoa3 hi h1 W (tab_more ht hW.mo)).mono ?_)
    ·have E:=(show aD w.heap.size lo hi b m s (updB l 7 true)=aD w.heap.size lo hi b m s l by rw [updB_eq (show l 7=true from d7)])
     rw [←E]
     first | rfl | (show _=_; kernel_rfl)
    ·rintro e w' ⟨rfl,hmo⟩
     exact ⟨_,rfl,m,s,rfl,hW.more hmo rfl ⟨rfl,rfl,rfl⟩ rfl⟩
   | 9,_,hli,hd =>
    have hf10:l 10=false:=by
     cases h:l 10 with
     | false=>rfl
     | true=>have:=hcl 10 h _ rfl ⟨9,.data⟩ (by simp) rfl; rw [hli] at this; cases this
    have hf11:l 11=false:=by
     cases h:l 11 with
     | false=>rfl
     | true=>have:=hcl 11 h _ rfl ⟨9,.data⟩ (by simp) rfl; rw [hli] at this; cases this
    have hf12:l 12=false:=by
     cases h:l 12 with
     | false=>rfl
     | true=>have:=hcl 12 h _ rfl ⟨9,.data⟩ (by simp) rfl; rw [hli] at this; cases this
    refine stV (o:=⟨some 22,.makeMap 170 none,170, "text.go:32",#[],none⟩) (v:=.map (some W.heap.size)) (w':=W.alloc (.map #[] 0)) rfl rfl ?_ ⟨W.heap.size,s,?_,?_⟩
    ·kernel_rfl
    ·have E1:aD w.heap.size lo hi b m s l=aD w.heap.size lo hi b m s (updB (updB l 9 false) 12 false):=by rw [updB_eq hli,updB_eq hf12]
     have E2:aD w.heap.size lo hi b W.heap.size s (upd l 9)=aD w.heap.size lo hi b W.heap.size s (upd (updB (updB l 9 false) 12 false) 9):=by rw [updB_eq hli,updB_eq hf12]
     rw [E1,E2]
     rfl
    ·have hmo:=more_alloc (more_refl W) (.map #[] 0)
     refine ⟨more_trans hW.mo hmo,Nat.le_trans hW.sz hmo.size,(hmo.old _ (by have:=hW.sz; omega)).trans hW.wd,(hmo.old _ (by have:=hW.sz; omega)).trans hW.xx,fun _=>⟨#[],0,?_,?_,hW.sz⟩,fun h=>?_⟩
     ·show (W.heap.push (.map #[] 0))[W.heap.size]?=_
      rw [Array.getElem?_push_size]
     ·show MapSt (l 10) (l 11) _ _
      exact .inl ⟨hf10,hf11,rfl,rfl⟩
     ·obtain ⟨g1,g2⟩:=hW.sc h
      exact ⟨(hmo.old _ (Array.getElem?_eq_some_iff.1 g1).1).trans g1,g2⟩
   | 10,_,hli,hd =>
    have d9:l 9=true:=hd _ rfl ⟨9,.data⟩ (by simp) rfl
    obtain ⟨es,c,g1,g2,g3⟩:=hW.mp d9
    rw [hli] at g2
    obtain ⟨es',c',r1,r2⟩:=ins10 g1 g2
    refine stS (o:=⟨none,.insert 170 (.tmp 22) (.const (.bool false)) (.const (.string ⟨#[110,111]⟩)),0, "text.go:32",#[⟨9,.data⟩],none⟩) rfl rfl (w':={ W with heap:=W.heap.setIfInBounds m (.map es' c') }) ?_ ⟨m,s,rfl,?_⟩
    ·have e:(aD w.heap.size lo hi b m s l).eval (.tmp 22)=.map (some m):=by show sl (l 9) _=_; rw [d9]; rfl
     have r1':Sem.run Tryz.prog (Instr.mapUpdate 170 (.map (some m)) ((aD w.heap.size lo hi b m s l).eval (.const (.bool false))) ((aD w.heap.size lo hi b m s l).eval (.const (.string ⟨#[110,111]⟩)))) W=_:=r1
     simp only [execOp,e,Sem.run_bind,Sem.run_pure,Result.andThen_ok,r1']
    ·have hlt:=(Array.getElem?_eq_some_iff.1 g1).1
     have ne:∀j,j≠m→(W.heap.setIfInBounds m (.map es' c'))[j]?=W.heap[j]?:=fun j hj=>Array.getElem?_setIfInBounds_ne (fun e=>hj e.symm)
     refine ⟨more_set hW.mo (by omega) rfl rfl rfl,by simpa using hW.sz,(ne _ (by omega)).trans hW.wd,(ne _ (by omega)).trans hW.xx,fun _=>⟨es',c',?_,r2,g3⟩,fun h=>?_⟩
     ·show (W.heap.setIfInBounds m (.map es' c'))[m]?=_
      rw [Array.getElem?_setIfInBounds_self_of_lt hlt]
     ·obtain ⟨q1,q2⟩:=hW.sc h
      refine ⟨(ne _ (fun e=>?_)).trans q1,q2⟩
      rw [e,g1] at q1; cases q1
   | 11,_,hli,hd =>
    have d9:l 9=true:=hd _ rfl ⟨9,.data⟩ (by simp) rfl
    obtain ⟨es,c,g1,g2,g3⟩:=hW.mp d9
    rw [hli] at g2
    obtain ⟨es',c',r1,r2⟩:=ins11 g1 g2
    refine stS (o:=⟨none,.insert 170 (.tmp 22) (.const (.bool true)) (.const (.string ⟨#[121,101,115]⟩)),0, "text.go:32",#[⟨9,.data⟩],none⟩) rfl rfl (w':={ W with heap:=W.heap.setIfInBounds m (.map es' c') }) ?_ ⟨m,s,rfl,?_⟩
    ·have e:(aD w.heap.size lo hi b m s l).eval (.tmp 22)=.map (some m):=by show sl (l 9) _=_; rw [d9]; rfl
     have r1':Sem.run Tryz.prog (Instr.mapUpdate 170 (.map (some m)) ((aD w.heap.size lo hi b m s l).eval (.const (.bool true))) ((aD w.heap.size lo hi b m s l).eval (.const (.string ⟨#[121,101,115]⟩)))) W=_:=r1
     simp only [execOp,e,Sem.run_bind,Sem.run_pure,Result.andThen_ok,r1']
    ·have hlt:=(Array.getElem?_eq_some_iff.1 g1).1
     have ne:∀j,j≠m→(W.heap.setIfInBounds m (.map es' c'))[j]?=W.heap[j]?:=fun j hj=>Array.getElem?_setIfInBounds_ne (fun e=>hj e.symm)
     refine ⟨more_set hW.mo (by omega) rfl rfl rfl,by simpa using hW.sz,(ne _ (by omega)).trans hW.wd,(ne _ (by omega)).trans hW.xx,fun _=>⟨es',c',?_,r2,g3⟩,fun h=>?_⟩
     ·show (W.heap.setIfInBounds m (.map es' c'))[m]?=_
      rw [Array.getElem?_setIfInBounds_self_of_lt hlt]
     ·obtain ⟨q1,q2⟩:=hW.sc h
      refine ⟨(ne _ (fun e=>?_)).trans q1,q2⟩
      rw [e,g1] at q1; cases q1
   | 12,_,hli,hd =>
    have d9:l 9=true:=hd _ rfl ⟨9,.data⟩ (by simp) rfl
    refine stV (o:=⟨some 23,.move (.tmp 22),170, "text.go:32",#[⟨9,.data⟩,⟨10,.data⟩,⟨11,.data⟩],none⟩) (v:=.map (some m)) (w':=W) rfl rfl ?_ ⟨m,s,rfl,hW.more (more_refl _) rfl ⟨rfl,rfl,rfl⟩ rfl⟩
    have E:=(show aD w.heap.size lo hi b m s (updB l 9 true)=aD w.heap.size lo hi b m s l by rw [updB_eq (show l 9=true from d9)])
    rw [←E]
    first | rfl | (show _=_; kernel_rfl)
   | 13,_,hli,hd =>
    refine stV (o:=⟨some 24,.fieldAddr 149 (.tmp 4) 1,0, "text.go:32",#[],none⟩) (v:=.pointer (some ⟨w.heap.size+1+1,2,none⟩)) (w':=W) rfl rfl ?_ ⟨m,s,rfl,hW.more (more_refl _) rfl ⟨rfl,rfl,rfl⟩ rfl⟩
    have E:=(rfl:aD w.heap.size lo hi b m s l=aD w.heap.size lo hi b m s l)
    rw [←E]
    first | rfl | (show _=_; kernel_rfl)
   | 14,_,hli,hd =>
    have d13:l 13=true:=hd _ rfl ⟨13,.data⟩ (by simp) rfl
    refine stV (o:=⟨some 25,.load 4 (.tmp 24),4, "text.go:32",#[⟨13,.data⟩],none⟩) (v:=.bool b) (w':=W) rfl rfl ?_ ⟨m,s,rfl,hW.more (more_refl _) rfl ⟨rfl,rfl,rfl⟩ rfl⟩
    have e:(aD w.heap.size lo hi b m s l).eval (.tmp 24)=.pointer (some ⟨w.heap.size+1+1,2,none⟩):=by show sl (l 13) _=_; rw [d13]; rfl
    simp only [execOp,e,Sem.run_bind,Sem.run_pure,Result.andThen_ok,ldH (o:=2) (v:=.bool b) (by kernel_rfl:known Tryz.prog 4=true) (by kernel_rfl) hW.xx rfl]
   | 15,_,hli,hd =>
    have d12:l 12=true:=hd _ rfl ⟨12,.data⟩ (by simp) rfl
    have d14:l 14=true:=hd _ rfl ⟨14,.data⟩ (by simp) rfl
    have d9:l 9=true:=hcl 12 d12 _ rfl ⟨9,.data⟩ (by simp) rfl
    have d10:l 10=true:=hcl 12 d12 _ rfl ⟨10,.data⟩ (by simp) rfl
    have d11:l 11=true:=hcl 12 d12 _ rfl ⟨11,.data⟩ (by simp) rfl
    obtain ⟨es,c,g1,g2,g3⟩:=hW.mp d9
    rw [d10,d11] at g2
    refine stV (o:=⟨some 26,.lookup 170 (.tmp 23) (.tmp 25) false,9, "text.go:32",#[⟨12,.data⟩,⟨14,.data⟩],none⟩) (v:=bif b then yesV else noV) (w':=W) rfl rfl ?_ ⟨m,s,rfl,hW.more (more_refl _) rfl ⟨rfl,rfl,rfl⟩ rfl⟩
    have e1:(aD w.heap.size lo hi b m s l).eval (.tmp 23)=.map (some m):=by show sl (l 12) _=_; rw [d12]; rfl
    have e2:(aD w.heap.size lo hi b m s l).eval (.tmp 25)=.bool b:=by show sl (l 14) _=_; rw [d14]; rfl
    simp only [execOp,e1,e2,Sem.run_bind,Sem.run_pure,Result.andThen_ok,lkH b g1 g2]
   | 16,_,hli,hd =>
    have d4:l 4=true:=hd _ rfl ⟨4,.data⟩ (by simp) rfl
    have d8:l 8=true:=hd _ rfl ⟨8,.data⟩ (by simp) rfl
    have d15:l 15=true:=hd _ rfl ⟨15,.data⟩ (by simp) rfl
    have hf:l 17=false:=by
     cases h:l 17 with
     | false=>rfl
     | true=>have:=hcl 17 h _ rfl ⟨16,.data⟩ (by simp) rfl; rw [hli] at this; cases this
    refine stV (o:=⟨some 27,.buildSlice 126 4 #[(0,.const (.string ⟨#[100,97,121]⟩)),(1,.tmp 17),(2,.tmp 21),(3,.tmp 26)],126, "text.go:32",#[⟨4,.data⟩,⟨8,.data⟩,⟨15,.data⟩],none⟩) (v:=.slice (some ⟨W.heap.size,0,none⟩) 4 4) (w':=W.alloc (.cells (wdD lo hi b).toArray 9)) rfl rfl ?_ ⟨m,W.heap.size,?_,?_⟩
    ·have key:∀b:Bool,Sem.run Tryz.prog (execOp (aD w.heap.size lo hi b m s (updB (updB (updB l 4 true) 8 true) 15 true)).eval (⟨some 27,.buildSlice 126 4 #[(0,.const (.string ⟨#[100,97,121]⟩)),(1,.tmp 17),(2,.tmp 21),(3,.tmp 26)],126, "text.go:32",#[⟨4,.data⟩,⟨8,.data⟩,⟨15,.data⟩],none⟩)) W=.ok (.value (.slice (some ⟨W.heap.size,0,none⟩) 4 4)) (W.alloc (.cells (wdD lo hi b).toArray 9)):=by
      intro b; cases b <;> kernel_rfl
     have E:=(show aD w.heap.size lo hi b m s (updB (updB (updB l 4 true) 8 true) 15 true)=aD w.heap.size lo hi b m s l by rw [updB_eq (show l 4=true from d4),updB_eq (show l 8=true from d8),updB_eq (show l 15=true from d15)])
     rw [←E]
     exact key b
    ·have E1:aD w.heap.size lo hi b m s l=aD w.heap.size lo hi b m s (updB l 16 false):=by rw [updB_eq hli]
     have E2:aD w.heap.size lo hi b m W.heap.size (upd l 16)=aD w.heap.size lo hi b m W.heap.size (upd (updB l 16 false) 16):=by rw [updB_eq hli]
     rw [E1,E2]
     rfl
    ·have hmo:=more_alloc (more_refl W) (.cells (wdD lo hi b).toArray 9)
     refine ⟨more_trans hW.mo hmo,Nat.le_trans hW.sz hmo.size,(hmo.old _ (by have:=hW.sz; omega)).trans hW.wd,(hmo.old _ (by have:=hW.sz; omega)).trans hW.xx,fun h=>by
      obtain ⟨es,c,g1,g2,g3⟩:=hW.mp h
      exact ⟨es,c,(hmo.old _ (Array.getElem?_eq_some_iff.1 g1).1).trans g1,g2,g3⟩,fun _=>⟨?_,hW.sz⟩⟩
     show (W.heap.push _)[W.heap.size]?=_
     rw [Array.getElem?_push_size]
   | 17,_,hli,hd =>
    have d0:l 0=true:=hd _ rfl ⟨0,.data⟩ (by simp) rfl
    have d16:l 16=true:=hd _ rfl ⟨16,.data⟩ (by simp) rfl
    obtain ⟨q1,q2⟩:=hW.sc d16
    have hwd:=hW.wd
    rw [hli] at hwd
    have hap:=appH (W:=W) (B:=w.heap.size+1) (S:=s) (news:=wdD lo hi b) (olds:=olD) (n:=4) rfl rfl (fun u hu=>by
     simp only [wdD,List.mem_cons,List.not_mem_nil,or_false] at hu
     rcases hu with rfl | rfl | rfl | rfl <;> first | rfl | (cases b <;> rfl)) hwd rfl q1
    have hheap:=appW (news:=wdD lo hi b) hwd rfl
    have hout:=setCells_out (wdD lo hi b) W (w.heap.size+1) 0
    refine stV (o:=⟨some 28,.call ⟨.builtin .append,#[.tmp 13,.tmp 27],#[126,126]⟩,126, "text.go:32",#[⟨0,.data⟩,⟨16,.data⟩,⟨8,.chain⟩],none⟩) (v:=.slice (some ⟨w.heap.size+1,0,none⟩) 4 4) (w':=W.setCells (w.heap.size+1) 0 (wdD lo hi b)) rfl rfl ?_ ⟨m,s,rfl,?_⟩
    ·have e1:(aD w.heap.size lo hi b m s l).eval (.tmp 13)=.slice (some ⟨w.heap.size+1,0,none⟩) 0 4:=by show sl (l 0) _=_; rw [d0]; rfl
     have e2:(aD w.heap.size lo hi b m s l).eval (.tmp 27)=.slice (some ⟨s,0,none⟩) 4 4:=by show sl (l 16) _=_; rw [d16]; rfl
     obtain ⟨consts,hexec⟩:=builtin_exec (P:=Tryz.prog) (o:=⟨some 28,.call ⟨.builtin .append,#[.tmp 13,.tmp 27],#[126,126]⟩,126, "text.go:32",#[⟨0,.data⟩,⟨16,.data⟩,⟨8,.chain⟩],none⟩) (aD w.heap.size lo hi b m s l).eval rfl rfl W
     refine hexec.trans ?_
     simp only [builtin,List.map_toArray,List.map_cons,List.map_nil,e1,e2]
     simp [builtin,e1,e2,hap]
    ·have hlt:w.heap.size+1 < W.heap.size:=by have:=hW.sz; omega
     have ne:∀j,j≠w.heap.size+1→(W.setCells (w.heap.size+1) 0 (wdD lo hi b)).heap[j]?=W.heap[j]?:=fun j hj=>by rw [hheap]; exact Array.getElem?_setIfInBounds_ne (fun e=>hj e.symm)
     refine ⟨more_set hW.mo (by omega) hout.1 hout.2 hheap,by rw [hheap]; simpa using hW.sz,?_,(ne _ (by omega)).trans hW.xx,fun h=>by
      obtain ⟨es,c,g1,g2,g3⟩:=hW.mp h
      exact ⟨es,c,(ne _ (by omega)).trans g1,g2,g3⟩,fun h=>?_⟩
     ·rw [hheap,Array.getElem?_setIfInBounds_self_of_lt hlt]; rfl
     ·obtain ⟨q1,q2⟩:=hW.sc h
      exact ⟨(ne _ (by omega)).trans q1,q2⟩
   | 18,_,hli,hd =>
    have d17:l 17=true:=hd _ rfl ⟨17,.data⟩ (by simp) rfl
    refine stV (o:=⟨some 3,.assign (.tmp 28),126, "text.go:32",#[⟨17,.data⟩,⟨17,.chain⟩,⟨0,.phase⟩,⟨1,.phase⟩,⟨2,.phase⟩,⟨3,.phase⟩,⟨4,.phase⟩,⟨5,.phase⟩,⟨6,.phase⟩,⟨7,.phase⟩,⟨8,.phase⟩,⟨9,.phase⟩,⟨10,.phase⟩,⟨11,.phase⟩,⟨12,.phase⟩,⟨13,.phase⟩,⟨14,.phase⟩,⟨15,.phase⟩,⟨16,.phase⟩,⟨17,.phase⟩],none⟩) (v:=.slice (some ⟨w.heap.size+1,0,none⟩) 4 4) (w':=W) rfl rfl ?_ ⟨m,s,rfl,hW.more (more_refl _) rfl ⟨rfl,rfl,rfl⟩ rfl⟩
    have E:=(show aD w.heap.size lo hi b m s (updB l 17 true)=aD w.heap.size lo hi b m s l by rw [updB_eq (show l 17=true from d17)])
    rw [←E]
    first | rfl | (show _=_; kernel_rfl)
   | n+19,hi,_,_=>omega
  ·rintro l a W hall ⟨m,s,rfl,hW⟩
   have hall':∀i,i < 19→l i=true:=hall
   refine ⟨rfl,m,s,?_,hW.mo,by have:=hW.sz; omega,?_⟩
   ·have E:aD w.heap.size lo hi b m s l=aD w.heap.size lo hi b m s (updB (updB (updB (updB (updB (updB (updB (updB (updB (updB (updB (updB (updB (updB (updB (updB (updB (updB (updB l 0 true) 1 true) 2 true) 3 true) 4 true) 5 true) 6 true) 7 true) 8 true) 9 true) 10 true) 11 true) 12 true) 13 true) 14 true) 15 true) 16 true) 17 true) 18 true):=by
     rw [updB_eq (hall' 0 (by decide)),updB_eq (hall' 1 (by decide)),updB_eq (hall' 2 (by decide)),updB_eq (hall' 3 (by decide)),updB_eq (hall' 4 (by decide)),updB_eq (hall' 5 (by decide)),updB_eq (hall' 6 (by decide)),updB_eq (hall' 7 (by decide)),updB_eq (hall' 8 (by decide)),updB_eq (hall' 9 (by decide)),updB_eq (hall' 10 (by decide)),updB_eq (hall' 11 (by decide)),updB_eq (hall' 12 (by decide)),updB_eq (hall' 13 (by decide)),updB_eq (hall' 14 (by decide)),updB_eq (hall' 15 (by decide)),updB_eq (hall' 16 (by decide)),updB_eq (hall' 17 (by decide)),updB_eq (hall' 18 (by decide))]
    rw [E]
    rfl
   ·have:=hW.wd
    rw [hall' 17 (by decide)] at this
    exact this
end Go.Proofs
set_option maxRecDepth 100000
namespace Go.Proofs
open Go.RowKit Go.Sort Go.Lib Go.Pi
def aC (k lo hi:Nat)(s:Nat)(l:Nat→Bool):Act:=⟨#[.iface 151 (.agg #[.int .i64 lo,.int .i64 hi]),undef,.string ⟨#[]⟩,bif l 11 then .slice (some ⟨k+1,0,none⟩) 3 3 else .slice (some ⟨k+1,0,none⟩) 0 3,undef,.pointer (some ⟨k+1+1,0,none⟩),.iface 151 (.agg #[.int .i64 lo,.int .i64 hi]),.int .i64 3,.slice (some ⟨k+1,0,none⟩) 0 3,.iface 151 (.agg #[.int .i64 lo,.int .i64 hi]),.tuple #[.agg #[.int .i64 0,.int .i64 0,.bool false],.bool false],.bool false,.agg #[.int .i64 0,.int .i64 0,.bool false],undef,undef,undef,undef,undef,undef,undef,undef,undef,undef,undef,undef,undef,undef,undef,undef,.tuple #[.agg #[.int .i64 lo,.int .i64 hi],.bool true],.bool true,.agg #[.int .i64 lo,.int .i64 hi],sl (l 0) (.slice (some ⟨k+1,0,none⟩) 0 3),sl (l 1) (.pointer (some ⟨k+1+1,0,none⟩)),sl (l 2) (.pointer (some ⟨k+1+1,0,none⟩)),sl (l 3) (.int .i64 lo),sl (l 4) (.string ⟨(Lib.decDigits lo).toArray⟩),sl (l 5) (.pointer (some ⟨k+1+1,0,none⟩)),sl (l 6) (.pointer (some ⟨k+1+1,1,none⟩)),sl (l 7) (.int .i64 hi),sl (l 8) (.string ⟨(Lib.decDigits hi).toArray⟩),sl (l 9) (.slice (some ⟨s,0,none⟩) 3 3),sl (l 10) (.slice (some ⟨k+1,0,none⟩) 3 3),undef,undef],[]⟩
def wdC (lo hi:Nat):List Value:=[.string ⟨#[99,111,97,116]⟩,.string ⟨(Lib.decDigits lo).toArray⟩,.string ⟨(Lib.decDigits hi).toArray⟩]
def olC:List Value:=[.string ⟨#[]⟩,.string ⟨#[]⟩,.string ⟨#[]⟩]
structure WC (w:World)(lo hi:Nat)(s:Nat)(l:Nat→Bool)(W:World):Prop where
 mo:Pi.More w W
 sz:w.heap.size+3≤W.heap.size
 wd:W.heap[w.heap.size+1]?=some (.cells (bif l 10 then (wdC lo hi).toArray else (olC).toArray) 9)
 xx:W.heap[w.heap.size+1+1]?=some (.cells #[.int .i64 lo,.int .i64 hi] 151)
 sc:l 9=true→W.heap[s]?=some (.cells (wdC lo hi).toArray 9)∧w.heap.size+3≤s
theorem WC.more {w:World}{lo hi:Nat}{s:Nat}{l l':Nat→Bool}{W W':World}(hW:WC w lo hi s l W)(h':Pi.More W W')(hA:l 10=l' 10)(hS:l 9=l' 9):WC w lo hi s l' W' :=
 ⟨more_trans hW.mo h',Nat.le_trans hW.sz h'.size,by rw [←hA]; exact (h'.old _ (by have:=hW.sz; omega)).trans hW.wd,(h'.old _ (by have:=hW.sz; omega)).trans hW.xx,fun h=>by
  obtain ⟨h1,h2⟩:=hW.sc (hS.trans h)
  exact ⟨(h'.old _ (Array.getElem?_eq_some_iff.1 h1).1).trans h1,h2⟩⟩
theorem iniC {w:World}{lo hi:Nat}{s:Nat}{W:World}{x:Obj}(h:W.heap=((w.heap.push x).push (.cells (olC).toArray 9)).push (.cells #[.int .i64 lo,.int .i64 hi] 151))(ho:W.os=w.os)(hp:W.output=w.output):WC w lo hi s (fun _=>false) W:=by
 have hi0:=ini3 h ho hp
 exact ⟨hi0.1,hi0.2.1,hi0.2.2.1,hi0.2.2.2,fun h=>(by cases h)⟩
set_option maxHeartbeats 4000000 in
theorem written_coat3 (lo hi:Nat)(h0:lo < 1000)(h1:hi < 1000)(w:World)(ht:Lib.TabIs Tryz.prog w "internal/strconv.uint64pow10" .u64 Lib.pow10Tab) :
  Calls Tryz.prog 140 #[.iface 151 (.agg #[.int .i64 lo,.int .i64 hi])] w fun e w'=>e=.returned (.string ⟨(Lib.join [[99,111,97,116],Lib.decDigits lo,Lib.decDigits hi] [32]).toArray⟩)∧Pi.More w w':=by
 have hm:=meth151 (.agg #[.int .i64 lo,.int .i64 hi])
 have hk:=mk3
 have ht':=ta151n (.agg #[.int .i64 lo,.int .i64 hi])
 have ht2:=ta151 (.agg #[.int .i64 lo,.int .i64 hi])
 go_enter Tryz.func140,Tryz.ntmps140
 go_wp2_with (go_in)
 refine Code.wp_mono (Q:=fun e a' W=>e=.normal∧∃s,a'=⟨#[.iface 151 (.agg #[.int .i64 lo,.int .i64 hi]),undef,.string ⟨#[]⟩,.slice (some ⟨w.heap.size+1,0,none⟩) 3 3,undef,.pointer (some ⟨w.heap.size+1+1,0,none⟩),.iface 151 (.agg #[.int .i64 lo,.int .i64 hi]),.int .i64 3,.slice (some ⟨w.heap.size+1,0,none⟩) 0 3,.iface 151 (.agg #[.int .i64 lo,.int .i64 hi]),.tuple #[.agg #[.int .i64 0,.int .i64 0,.bool false],.bool false],.bool false,.agg #[.int .i64 0,.int .i64 0,.bool false],undef,undef,undef,undef,undef,undef,undef,undef,undef,undef,undef,undef,undef,undef,undef,undef,.tuple #[.agg #[.int .i64 lo,.int .i64 hi],.bool true],.bool true,.agg #[.int .i64 lo,.int .i64 hi],.slice (some ⟨w.heap.size+1,0,none⟩) 0 3,.pointer (some ⟨w.heap.size+1+1,0,none⟩),.pointer (some ⟨w.heap.size+1+1,0,none⟩),.int .i64 lo,.string ⟨(Lib.decDigits lo).toArray⟩,.pointer (some ⟨w.heap.size+1+1,0,none⟩),.pointer (some ⟨w.heap.size+1+1,1,none⟩),.int .i64 hi,.string ⟨(Lib.decDigits hi).toArray⟩,.slice (some ⟨s,0,none⟩) 3 3,.slice (some ⟨w.heap.size+1,0,none⟩) 3 3,undef,undef],[]⟩∧Pi.More w W∧w.heap.size+1 < W.heap.size∧W.heap[w.heap.size+1]?=some (.cells (wdC lo hi).toArray 9)) ?_ ?_
 ·rintro e a' W ⟨rfl,s,rfl,hbel,hlt,hcells⟩
  have hlo:(Lib.decDigits lo).length≤3:=by rw [Pi.Q.dig3_eq lo h0]; unfold Pi.Q.dig3 Pi.Q.dig; cases Nat.blt lo 100 <;> cases Nat.blt lo 10 <;> simp
  have hhi:(Lib.decDigits hi).length≤3:=by rw [Pi.Q.dig3_eq hi h1]; unfold Pi.Q.dig3 Pi.Q.dig; cases Nat.blt hi 100 <;> cases Nat.blt hi 10 <;> simp
  have hj:=Tryz.strings_Join (w.heap.size+1) 0 3 [⟨#[99,111,97,116]⟩,⟨(Lib.decDigits lo).toArray⟩,⟨(Lib.decDigits hi).toArray⟩] ⟨#[32]⟩ W
   (fun j x hx=>by
    simp only [World.cell?,hcells]
    match j,hx with
    | 0,hx=>simp at hx; subst hx; rfl
    | 1,hx=>simp at hx; subst hx; rfl
    | 2,hx=>simp at hx; subst hx; rfl
    | j+3,hx=>simp at hx) hlt (by simp) (by simp) (by
     simp [Lib.join,List.intercalate]; omega)
  simp only [List.length_cons,List.length_nil,Nat.zero_add,Nat.reduceAdd,List.map_cons,List.map_nil] at hj
  go_wp2_with ((go_at_call 157; refine hj.mono ?_; rintro e w' ⟨rfl,hb⟩))
  go_ret
  exact ⟨rfl,more_trans hbel (Pi.Q.More.below hb)⟩
 ·refine wp_region_do (J:=fun l a W=>∃s,a=aC w.heap.size lo hi s l∧WC w lo hi s l W) mixedP (acyc (by kernel_rfl)) ?_ ?_ ?_
  ·exact ⟨0,rfl,iniC rfl rfl rfl⟩
  ·intro l a W i hcl hJ hI hli hd
   replace hI:i < 12:=hI
   obtain ⟨s,rfl,hW⟩:=hJ
   match i,hI,hli,hd with
   | 0,_,hli,hd =>
    have hf:l 11=false:=by
     cases h:l 11 with
     | false=>rfl
     | true=>have:=hcl 11 h _ rfl ⟨0,.phase⟩ (by simp) rfl; rw [hli] at this; cases this
    refine stV (o:=⟨some 32,.move (.tmp 3),126, "text.go:34",#[],none⟩) (v:=.slice (some ⟨w.heap.size+1,0,none⟩) 0 3) (w':=W) rfl rfl ?_ ⟨s,rfl,hW.more (more_refl _) rfl rfl⟩
    have E:=(show aC w.heap.size lo hi s (updB l 11 false)=aC w.heap.size lo hi s l by rw [updB_eq (show l 11=false from hf)])
    rw [←E]
    first | rfl | (show _=_; kernel_rfl)
   | 1,_,hli,hd =>
    refine stV (o:=⟨some 33,.fieldAddr 151 (.tmp 5) 0,0, "text.go:34",#[],none⟩) (v:=.pointer (some ⟨w.heap.size+1+1,0,none⟩)) (w':=W) rfl rfl ?_ ⟨s,rfl,hW.more (more_refl _) rfl rfl⟩
    have E:=(rfl:aC w.heap.size lo hi s l=aC w.heap.size lo hi s l)
    rw [←E]
    first | rfl | (show _=_; kernel_rfl)
   | 2,_,hli,hd =>
    have d1:l 1=true:=hd _ rfl ⟨1,.data⟩ (by simp) rfl
    refine stV (o:=⟨some 34,.fieldAddr 51 (.tmp 33) 0,0, "text.go:34",#[⟨1,.data⟩],none⟩) (v:=.pointer (some ⟨w.heap.size+1+1,0,none⟩)) (w':=W) rfl rfl ?_ ⟨s,rfl,hW.more (more_refl _) rfl rfl⟩
    have E:=(show aC w.heap.size lo hi s (updB l 1 true)=aC w.heap.size lo hi s l by rw [updB_eq (show l 1=true from d1)])
    rw [←E]
    first | rfl | (show _=_; kernel_rfl)
   | 3,_,hli,hd =>
    have d2:l 2=true:=hd _ rfl ⟨2,.data⟩ (by simp) rfl
    refine stV (o:=⟨some 35,.load 3 (.tmp 34),3, "text.go:34",#[⟨2,.data⟩],none⟩) (v:=.int .i64 lo) (w':=W) rfl rfl ?_ ⟨s,rfl,hW.more (more_refl _) rfl rfl⟩
    have e:(aC w.heap.size lo hi s l).eval (.tmp 34)=.pointer (some ⟨w.heap.size+1+1,0,none⟩):=by show sl (l 2) _=_; rw [d2]; rfl
    simp only [execOp,e,Sem.run_bind,Sem.run_pure,Result.andThen_ok,ldH (o:=0) (v:=.int .i64 lo) (by kernel_rfl:known Tryz.prog 3=true) (by kernel_rfl) hW.xx rfl]
   | 4,_,hli,hd =>
    have d3:l 3=true:=hd _ rfl ⟨3,.data⟩ (by simp) rfl
    refine stC (o:=⟨some 36,.call ⟨.value (.func 141),#[.tmp 35],#[3]⟩,9, "text.go:34",#[⟨3,.data⟩],none⟩) (f:=141) (args:=#[.int .i64 (lo:Nat)]) (w':=W) rfl rfl ?_ ((itoa3 lo h0 W (tab_more ht hW.mo)).mono ?_)
    ·have E:=(show aC w.heap.size lo hi s (updB l 3 true)=aC w.heap.size lo hi s l by rw [updB_eq (show l 3=true from d3)])
     rw [←E]
     first | rfl | (show _=_; kernel_rfl)
    ·rintro e w' ⟨rfl,hmo⟩
     exact ⟨_,rfl,s,rfl,hW.more hmo rfl rfl⟩
   | 5,_,hli,hd =>
    refine stV (o:=⟨some 37,.fieldAddr 151 (.tmp 5) 0,0, "text.go:34",#[],none⟩) (v:=.pointer (some ⟨w.heap.size+1+1,0,none⟩)) (w':=W) rfl rfl ?_ ⟨s,rfl,hW.more (more_refl _) rfl rfl⟩
    have E:=(rfl:aC w.heap.size lo hi s l=aC w.heap.size lo hi s l)
    rw [←E]
    first | rfl | (show _=_; kernel_rfl)
   | 6,_,hli,hd =>
    have d5:l 5=true:=hd _ rfl ⟨5,.data⟩ (by simp) rfl
    refine stV (o:=⟨some 38,.fieldAddr 51 (.tmp 37) 1,0, "text.go:34",#[⟨5,.data⟩],none⟩) (v:=.pointer (some ⟨w.heap.size+1+1,1,none⟩)) (w':=W) rfl rfl ?_ ⟨s,rfl,hW.more (more_refl _) rfl rfl⟩
    have E:=(show aC w.heap.size lo hi s (updB l 5 true)=aC w.heap.size lo hi s l by rw [updB_eq (show l 5=true from d5)])
    rw [←E]
    first | rfl | (show _=_; kernel_rfl)
   | 7,_,hli,hd =>
    have d6:l 6=true:=hd _ rfl ⟨6,.data⟩ (by simp) rfl
    refine stV (o:=⟨some 39,.load 3 (.tmp 38),3, "text.go:34",#[⟨6,.data⟩],none⟩) (v:=.int .i64 hi) (w':=W) rfl rfl ?_ ⟨s,rfl,hW.more (more_refl _) rfl rfl⟩
    have e:(aC w.heap.size lo hi s l).eval (.tmp 38)=.pointer (some ⟨w.heap.size+1+1,1,none⟩):=by show sl (l 6) _=_; rw [d6]; rfl
    simp only [execOp,e,Sem.run_bind,Sem.run_pure,Result.andThen_ok,ldH (o:=1) (v:=.int .i64 hi) (by kernel_rfl:known Tryz.prog 3=true) (by kernel_rfl) hW.xx rfl]
   | 8,_,hli,hd =>
    have d7:l 7=true:=hd _ rfl ⟨7,.data⟩ (by simp) rfl
    refine stC (o:=⟨some 40,.call ⟨.value (.func 141),#[.tmp 39],#[3]⟩,9, "text.go:34",#[⟨7,.data⟩,⟨4,.chain⟩],none⟩) (f:=141) (args:=#[.int .i64 (hi:Nat)]) (w':=W) rfl rfl ?_ ((itoa3 hi h1 W (tab_more ht hW.mo)).mono ?_)
    ·have E:=(show aC w.heap.size lo hi s (updB l 7 true)=aC w.heap.size lo hi s l by rw [updB_eq (show l 7=true from d7)])
     rw [←E]
     first | rfl | (show _=_; kernel_rfl)
    ·rintro e w' ⟨rfl,hmo⟩
     exact ⟨_,rfl,s,rfl,hW.more hmo rfl rfl⟩
   | 9,_,hli,hd =>
    have d4:l 4=true:=hd _ rfl ⟨4,.data⟩ (by simp) rfl
    have d8:l 8=true:=hd _ rfl ⟨8,.data⟩ (by simp) rfl
    have hf:l 10=false:=by
     cases h:l 10 with
     | false=>rfl
     | true=>have:=hcl 10 h _ rfl ⟨9,.data⟩ (by simp) rfl; rw [hli] at this; cases this
    refine stV (o:=⟨some 41,.buildSlice 126 3 #[(0,.const (.string ⟨#[99,111,97,116]⟩)),(1,.tmp 36),(2,.tmp 40)],126, "text.go:34",#[⟨4,.data⟩,⟨8,.data⟩],none⟩) (v:=.slice (some ⟨W.heap.size,0,none⟩) 3 3) (w':=W.alloc (.cells (wdC lo hi).toArray 9)) rfl rfl ?_ ⟨W.heap.size,?_,?_⟩
    ·have E:=(show aC w.heap.size lo hi s (updB (updB l 4 true) 8 true)=aC w.heap.size lo hi s l by rw [updB_eq (show l 4=true from d4),updB_eq (show l 8=true from d8)])
     rw [←E]
     first | rfl | (show _=_; kernel_rfl)
    ·have E1:aC w.heap.size lo hi s l=aC w.heap.size lo hi s (updB l 9 false):=by rw [updB_eq hli]
     have E2:aC w.heap.size lo hi W.heap.size (upd l 9)=aC w.heap.size lo hi W.heap.size (upd (updB l 9 false) 9):=by rw [updB_eq hli]
     rw [E1,E2]
     rfl
    ·have hmo:=more_alloc (more_refl W) (.cells (wdC lo hi).toArray 9)
     refine ⟨more_trans hW.mo hmo,Nat.le_trans hW.sz hmo.size,(hmo.old _ (by have:=hW.sz; omega)).trans hW.wd,(hmo.old _ (by have:=hW.sz; omega)).trans hW.xx,fun _=>⟨?_,hW.sz⟩⟩
     show (W.heap.push _)[W.heap.size]?=_
     rw [Array.getElem?_push_size]
   | 10,_,hli,hd =>
    have d0:l 0=true:=hd _ rfl ⟨0,.data⟩ (by simp) rfl
    have d9:l 9=true:=hd _ rfl ⟨9,.data⟩ (by simp) rfl
    obtain ⟨q1,q2⟩:=hW.sc d9
    have hwd:=hW.wd
    rw [hli] at hwd
    have hap:=appH (W:=W) (B:=w.heap.size+1) (S:=s) (news:=wdC lo hi) (olds:=olC) (n:=3) rfl rfl (fun u hu=>by
     simp only [wdC,List.mem_cons,List.not_mem_nil,or_false] at hu
     rcases hu with rfl | rfl | rfl <;> first | rfl | (cases b <;> rfl)) hwd rfl q1
    have hheap:=appW (news:=wdC lo hi) hwd rfl
    have hout:=setCells_out (wdC lo hi) W (w.heap.size+1) 0
    refine stV (o:=⟨some 42,.call ⟨.builtin .append,#[.tmp 32,.tmp 41],#[126,126]⟩,126, "text.go:34",#[⟨0,.data⟩,⟨9,.data⟩,⟨8,.chain⟩],none⟩) (v:=.slice (some ⟨w.heap.size+1,0,none⟩) 3 3) (w':=W.setCells (w.heap.size+1) 0 (wdC lo hi)) rfl rfl ?_ ⟨s,rfl,?_⟩
    ·have e1:(aC w.heap.size lo hi s l).eval (.tmp 32)=.slice (some ⟨w.heap.size+1,0,none⟩) 0 3:=by show sl (l 0) _=_; rw [d0]; rfl
     have e2:(aC w.heap.size lo hi s l).eval (.tmp 41)=.slice (some ⟨s,0,none⟩) 3 3:=by show sl (l 9) _=_; rw [d9]; rfl
     obtain ⟨consts,hexec⟩:=builtin_exec (P:=Tryz.prog) (o:=⟨some 42,.call ⟨.builtin .append,#[.tmp 32,.tmp 41],#[126,126]⟩,126, "text.go:34",#[⟨0,.data⟩,⟨9,.data⟩,⟨8,.chain⟩],none⟩) (aC w.heap.size lo hi s l).eval rfl rfl W
     refine hexec.trans ?_
     simp only [builtin,List.map_toArray,List.map_cons,List.map_nil,e1,e2]
     simp [builtin,e1,e2,hap]
    ·have hlt:w.heap.size+1 < W.heap.size:=by have:=hW.sz; omega
     have ne:∀j,j≠w.heap.size+1→(W.setCells (w.heap.size+1) 0 (wdC lo hi)).heap[j]?=W.heap[j]?:=fun j hj=>by rw [hheap]; exact Array.getElem?_setIfInBounds_ne (fun e=>hj e.symm)
     refine ⟨more_set hW.mo (by omega) hout.1 hout.2 hheap,by rw [hheap]; simpa using hW.sz,?_,(ne _ (by omega)).trans hW.xx,fun h=>?_⟩
     ·rw [hheap,Array.getElem?_setIfInBounds_self_of_lt hlt]; rfl
     ·obtain ⟨q1,q2⟩:=hW.sc h
      exact ⟨(ne _ (by omega)).trans q1,q2⟩
   | 11,_,hli,hd =>
    have d10:l 10=true:=hd _ rfl ⟨10,.data⟩ (by simp) rfl
    refine stV (o:=⟨some 3,.assign (.tmp 42),126, "text.go:34",#[⟨10,.data⟩,⟨10,.chain⟩,⟨0,.phase⟩,⟨1,.phase⟩,⟨2,.phase⟩,⟨3,.phase⟩,⟨4,.phase⟩,⟨5,.phase⟩,⟨6,.phase⟩,⟨7,.phase⟩,⟨8,.phase⟩,⟨9,.phase⟩,⟨10,.phase⟩],none⟩) (v:=.slice (some ⟨w.heap.size+1,0,none⟩) 3 3) (w':=W) rfl rfl ?_ ⟨s,rfl,hW.more (more_refl _) rfl rfl⟩
    have E:=(show aC w.heap.size lo hi s (updB l 10 true)=aC w.heap.size lo hi s l by rw [updB_eq (show l 10=true from d10)])
    rw [←E]
    first | rfl | (show _=_; kernel_rfl)
   | n+12,hi,_,_=>omega
  ·rintro l a W hall ⟨s,rfl,hW⟩
   have hall':∀i,i < 12→l i=true:=hall
   refine ⟨rfl,s,?_,hW.mo,by have:=hW.sz; omega,?_⟩
   ·have E:aC w.heap.size lo hi s l=aC w.heap.size lo hi s (updB (updB (updB (updB (updB (updB (updB (updB (updB (updB (updB (updB l 0 true) 1 true) 2 true) 3 true) 4 true) 5 true) 6 true) 7 true) 8 true) 9 true) 10 true) 11 true):=by
     rw [updB_eq (hall' 0 (by decide)),updB_eq (hall' 1 (by decide)),updB_eq (hall' 2 (by decide)),updB_eq (hall' 3 (by decide)),updB_eq (hall' 4 (by decide)),updB_eq (hall' 5 (by decide)),updB_eq (hall' 6 (by decide)),updB_eq (hall' 7 (by decide)),updB_eq (hall' 8 (by decide)),updB_eq (hall' 9 (by decide)),updB_eq (hall' 10 (by decide)),updB_eq (hall' 11 (by decide))]
    rw [E]
    rfl
   ·have:=hW.wd
    rw [hall' 10 (by decide)] at this
    exact this
end Go.Proofs
