/- Helpers. -/
import Derived.WalkKit
import Derived.WalkSpells
import Derived.WalkLawsBesides
import Derived.Outline
import Derived.Deep.RegionHeld3
import Derived.Test.YtjidjpcnocddeaaGreatDoorSH
import Derived.Test.YtjidjpcnocddeaaGreatDoorRows
import Derived.Test.YtjidjpcnocddeaaGreatDoorPiN
set_option linter.all false
namespace Go.Proofs
open Go.RowKit
theorem meth149 (v:Value)(w:World):Sem.run Tryz.prog (method 325 149 v "mahlstick/coat.long") w=.ok (145,v) w:=by kernel_rfl
theorem cell_new3 (w:World)(a b:Obj)(cs:Array Value)(t:TypeId)(fr:Nat×Nat)(o:Nat):(((w.alloc a).alloc b).alloc (.cells cs t fr)).drew.cell? ⟨w.heap.size+1+1,o,none⟩=cs[o]?:=by
 have h:(((w.alloc a).alloc b).alloc (.cells cs t fr)).drew.heap[w.heap.size+1+1]?=some (.cells cs t fr):=by
  show (((w.heap.push a).push b).push (.cells cs t fr))[w.heap.size+1+1]?=_
  have e:w.heap.size+1+1=((w.heap.push a).push b).size:=by simp
  rw [e,Array.getElem?_push_size]
 simp only [World.cell?,h]
 rfl
theorem mk4 (w:World):Sem.run Tryz.prog (Instr.makeSlice 126 (.int .i64 0) (.int .i64 4)) w=.ok (.slice (some ⟨w.heap.size,0,none⟩) 0 4) (w.alloc (.cells #[.string ⟨#[]⟩,.string ⟨#[]⟩,.string ⟨#[]⟩,.string ⟨#[]⟩] 9)):=by kernel_rfl
theorem ta149 (v:Value)(w:World):Sem.run Tryz.prog (Instr.typeAssert (.iface 149 v) 153 149 true) w=.ok (.tuple #[v,.bool true]) w:=by kernel_rfl

theorem mm170 (w:World):Sem.run Tryz.prog (Instr.makeMap 170 none) w=.ok (.map (some w.heap.size)) (w.alloc (.map #[] 0)):=by kernel_rfl
theorem getNew (W:World)(k:Nat)(es:Array MapEntry)(c:Nat)(h:W.heap.size=k):Sem.run Tryz.prog (getObj k) (W.alloc (.map es c))=.ok (.map es c) (W.alloc (.map es c)):=by
 subst h
 have:(W.alloc (.map es c)).heap[W.heap.size]?=some (.map es c):=by
  show (W.heap.push (.map es c))[W.heap.size]?=_
  rw [Array.getElem?_push_size]
 simp only [getObj,Sem.run,this]
theorem setNew (W:World)(k:Nat)(es es':Array MapEntry)(c c':Nat)(h:W.heap.size=k):Sem.run Tryz.prog (setObj k (.map es' c')) (W.alloc (.map es c))=.ok () (W.alloc (.map es' c')):=by
 subst h
 have h1:(W.alloc (.map es c)).heap[W.heap.size]?=some (.map es c):=by
  show (W.heap.push (.map es c))[W.heap.size]?=_
  rw [Array.getElem?_push_size]
 have h2:(W.heap.push (.map es c)).setIfInBounds W.heap.size (.map es' c')=W.heap.push (.map es' c'):=by
  apply Array.toList_inj.1
  simp
 simp only [setObj,Sem.run,h1]
 have h3:(W.alloc (.map es c)).heap=W.heap.push (.map es c):=rfl
 rw [h3,h2]
 rfl
theorem ck (k:Bool)(w:World):Sem.run Tryz.prog (Instr.checkKey false 10000 4 (.bool k)) w=.ok () w:=by kernel_rfl
theorem ckT (k:Bool)(w:World):Sem.run Tryz.prog (Instr.checkKey true 10000 4 (.bool k)) w=.ok () w:=by kernel_rfl
theorem ckE (e k:Bool)(w:World):Sem.run Tryz.prog (Instr.checkKey e 10000 4 (.bool k)) w=.ok () w:=by
 cases e
 ·exact ck k w
 ·exact ckT k w
theorem fk0 (k:Bool)(w:World):Sem.run Tryz.prog (Instr.findKey 4 (.bool k) []) w=.ok none w:=by kernel_rfl
theorem fk1 (v:Value)(c:Nat)(w:World):Sem.run Tryz.prog (Instr.findKey 4 (.bool true) [⟨.bool false,v,c⟩]) w=.ok none w:=by kernel_rfl
theorem fk2 (v:Value)(c:Nat)(w:World):Sem.run Tryz.prog (Instr.findKey 4 (.bool false) [⟨.bool true,v,c⟩]) w=.ok none w:=by kernel_rfl
theorem ins0 (W:World)(k:Nat)(key:Bool)(v:Value)(h:W.heap.size=k):Sem.run Tryz.prog (Instr.mapUpdate 170 (.map (some k)) (.bool key) v) (W.alloc (.map #[] 0))=.ok () (W.alloc (.map #[⟨.bool key,v,0⟩] 1)):=by
 simp only [Instr.mapUpdate,Sem.run_bind,run_underlying Tryz.underlying170,Result.andThen_ok,getNew W k _ _ h,ck,fk0,setNew W k _ _ _ _ h]
 rfl
theorem ins1 (W:World)(k:Nat)(v v':Value)(h:W.heap.size=k):Sem.run Tryz.prog (Instr.mapUpdate 170 (.map (some k)) (.bool true) v) (W.alloc (.map #[⟨.bool false,v',0⟩] 1))=.ok () (W.alloc (.map #[⟨.bool false,v',0⟩,⟨.bool true,v,1⟩] 2)):=by
 simp only [Instr.mapUpdate,Sem.run_bind,run_underlying Tryz.underlying170,Result.andThen_ok,getNew W k _ _ h,ck,fk1,setNew W k _ _ _ _ h]
 rfl
theorem ins2 (W:World)(k:Nat)(v v':Value)(h:W.heap.size=k):Sem.run Tryz.prog (Instr.mapUpdate 170 (.map (some k)) (.bool false) v) (W.alloc (.map #[⟨.bool true,v',0⟩] 1))=.ok () (W.alloc (.map #[⟨.bool true,v',0⟩,⟨.bool false,v,1⟩] 2)):=by
 simp only [Instr.mapUpdate,Sem.run_bind,run_underlying Tryz.underlying170,Result.andThen_ok,getNew W k _ _ h,ck,fk2,setNew W k _ _ _ _ h]
 rfl
theorem ins0d (W:World)(k:Nat)(key:Bool)(v:Value)(h:W.heap.size=k):Sem.run Tryz.prog (Instr.mapUpdate 170 (.map (some k)) (.bool key) v) (W.alloc (.map #[] 0)).drew=.ok () (W.alloc (.map #[⟨.bool key,v,0⟩] 1)).drew:=ins0 W.drew k key v h
theorem ins1d (W:World)(k:Nat)(v v':Value)(h:W.heap.size=k):Sem.run Tryz.prog (Instr.mapUpdate 170 (.map (some k)) (.bool true) v) (W.alloc (.map #[⟨.bool false,v',0⟩] 1)).drew=.ok () (W.alloc (.map #[⟨.bool false,v',0⟩,⟨.bool true,v,1⟩] 2)).drew:=ins1 W.drew k v v' h
theorem ins2d (W:World)(k:Nat)(v v':Value)(h:W.heap.size=k):Sem.run Tryz.prog (Instr.mapUpdate 170 (.map (some k)) (.bool false) v) (W.alloc (.map #[⟨.bool true,v',0⟩] 1)).drew=.ok () (W.alloc (.map #[⟨.bool true,v',0⟩,⟨.bool false,v,1⟩] 2)).drew:=ins2 W.drew k v v' h
theorem cell_new4 (w:World)(a b o':Obj)(cs:Array Value)(t:TypeId)(fr:Nat×Nat)(o:Nat):((((w.alloc a).alloc b).alloc (.cells cs t fr)).alloc o').drew.cell? ⟨w.heap.size+1+1,o,none⟩=cs[o]?:=by
 have h:((((w.alloc a).alloc b).alloc (.cells cs t fr)).alloc o').drew.heap[w.heap.size+1+1]?=some (.cells cs t fr):=by
  show ((((w.heap.push a).push b).push (.cells cs t fr)).push o')[w.heap.size+1+1]?=_
  have e:w.heap.size+1+1=((w.heap.push a).push b).size:=by simp
  rw [e,Array.getElem?_push,if_neg (by simp),Array.getElem?_push_size]
 simp only [World.cell?,h]
 rfl
theorem cell_new5 (w:World)(a b o' o'':Obj)(cs:Array Value)(t:TypeId)(fr:Nat×Nat)(o:Nat):(((((w.alloc a).alloc b).alloc (.cells cs t fr)).alloc o').alloc o'').drew.cell? ⟨w.heap.size+1+1,o,none⟩=cs[o]?:=by
 have h:(((((w.alloc a).alloc b).alloc (.cells cs t fr)).alloc o').alloc o'').drew.heap[w.heap.size+1+1]?=some (.cells cs t fr):=by
  show (((((w.heap.push a).push b).push (.cells cs t fr)).push o').push o'')[w.heap.size+1+1]?=_
  have e:w.heap.size+1+1=((w.heap.push a).push b).size:=by simp
  rw [e,Array.getElem?_push,if_neg (by simp),Array.getElem?_push,if_neg (by simp),Array.getElem?_push_size]
 simp only [World.cell?,h]
 rfl
theorem fkA (v v':Value)(w:World):Sem.run Tryz.prog (Instr.findKey 4 (.bool true) [⟨.bool false,v,0⟩,⟨.bool true,v',1⟩]) w=.ok (some (1,v')) w:=by kernel_rfl
theorem fkB (v v':Value)(w:World):Sem.run Tryz.prog (Instr.findKey 4 (.bool false) [⟨.bool false,v,0⟩,⟨.bool true,v',1⟩]) w=.ok (some (0,v)) w:=by kernel_rfl
theorem fkC (v v':Value)(w:World):Sem.run Tryz.prog (Instr.findKey 4 (.bool true) [⟨.bool true,v,0⟩,⟨.bool false,v',1⟩]) w=.ok (some (0,v)) w:=by kernel_rfl
theorem fkD (v v':Value)(w:World):Sem.run Tryz.prog (Instr.findKey 4 (.bool false) [⟨.bool true,v,0⟩,⟨.bool false,v',1⟩]) w=.ok (some (1,v')) w:=by kernel_rfl
theorem lk1 (W:World)(k:Nat)(b:Bool)(t f:ByteArray)(h:W.heap.size=k):Sem.run Tryz.prog (Instr.lookup 170 (.map (some k)) (.bool b) false) (W.alloc (.map #[⟨.bool false,.string f,0⟩,⟨.bool true,.string t,1⟩] 2))=.ok (.string (bif b then t else f)) (W.alloc (.map #[⟨.bool false,.string f,0⟩,⟨.bool true,.string t,1⟩] 2)):=by
 cases b
 ·simp only [Instr.lookup,Sem.run_bind,run_underlying Tryz.underlying170,Sem.run_pure,Result.andThen_ok,getNew W k _ _ h,ckE,fkB,Bool.false_eq_true,if_false,cond_false]
 ·simp only [Instr.lookup,Sem.run_bind,run_underlying Tryz.underlying170,Sem.run_pure,Result.andThen_ok,getNew W k _ _ h,ckE,fkA,Bool.false_eq_true,if_false,cond_true]
theorem lk2 (W:World)(k:Nat)(b:Bool)(t f:ByteArray)(h:W.heap.size=k):Sem.run Tryz.prog (Instr.lookup 170 (.map (some k)) (.bool b) false) (W.alloc (.map #[⟨.bool true,.string t,0⟩,⟨.bool false,.string f,1⟩] 2))=.ok (.string (bif b then t else f)) (W.alloc (.map #[⟨.bool true,.string t,0⟩,⟨.bool false,.string f,1⟩] 2)):=by
 cases b
 ·simp only [Instr.lookup,Sem.run_bind,run_underlying Tryz.underlying170,Sem.run_pure,Result.andThen_ok,getNew W k _ _ h,ckE,fkD,Bool.false_eq_true,if_false,cond_false]
 ·simp only [Instr.lookup,Sem.run_bind,run_underlying Tryz.underlying170,Sem.run_pure,Result.andThen_ok,getNew W k _ _ h,ckE,fkC,Bool.false_eq_true,if_false,cond_true]
theorem lk1d (W:World)(k:Nat)(b:Bool)(t f:ByteArray)(h:W.heap.size=k):Sem.run Tryz.prog (Instr.lookup 170 (.map (some k)) (.bool b) false) (W.alloc (.map #[⟨.bool false,.string f,0⟩,⟨.bool true,.string t,1⟩] 2)).drew=.ok (.string (bif b then t else f)) (W.alloc (.map #[⟨.bool false,.string f,0⟩,⟨.bool true,.string t,1⟩] 2)).drew:=lk1 W.drew k b t f h
theorem lk2d (W:World)(k:Nat)(b:Bool)(t f:ByteArray)(h:W.heap.size=k):Sem.run Tryz.prog (Instr.lookup 170 (.map (some k)) (.bool b) false) (W.alloc (.map #[⟨.bool true,.string t,0⟩,⟨.bool false,.string f,1⟩] 2)).drew=.ok (.string (bif b then t else f)) (W.alloc (.map #[⟨.bool true,.string t,0⟩,⟨.bool false,.string f,1⟩] 2)).drew:=lk2 W.drew k b t f h
theorem heap5 (w:World)(a b c d e:Obj):(((((w.alloc a).alloc b).alloc c).alloc d).alloc e).drew.heap=((((w.heap.push a).push b).push c).push d).push e:=rfl
theorem more5 (w:World)(a b c d e:Obj):Pi.More w (((((w.alloc a).alloc b).alloc c).alloc d).alloc e).drew:=by
 refine ⟨rfl,rfl,by rw [heap5]; simp; omega,fun j hj=>?_⟩
 rw [heap5,Array.getElem?_push,if_neg (by simp; omega),Array.getElem?_push,if_neg (by simp; omega),Array.getElem?_push,if_neg (by simp; omega),Array.getElem?_push,if_neg (by simp; omega),Array.getElem?_push,if_neg (by omega)]
theorem lt5 (w:World)(a b c d e:Obj):w.heap.size+1 < (((((w.alloc a).alloc b).alloc c).alloc d).alloc e).drew.heap.size:=by
 rw [heap5]; simp
theorem at5 (w:World)(a b c d e:Obj):(((((w.alloc a).alloc b).alloc c).alloc d).alloc e).drew.heap[w.heap.size+1]?=some b:=by
 rw [heap5,Array.getElem?_push,if_neg (by simp),Array.getElem?_push,if_neg (by simp),Array.getElem?_push,if_neg (by simp),Array.getElem?_push,if_pos (by simp)]
theorem more_trans {w w1 w2:World}(h:Pi.More w w1)(h':Pi.More w1 w2):Pi.More w w2 :=
 ⟨h'.os.trans h.os,h'.output.trans h.output,Nat.le_trans h.size h'.size,fun j hj=>(h'.old j (Nat.lt_of_lt_of_le hj h.size)).trans (h.old j hj)⟩
set_option maxRecDepth 100000 in
set_option maxHeartbeats 1600000 in
theorem written_day (lo hi:Nat)(b:Bool)(h0:lo < 100)(h1:hi < 100)(w:World) :
  Calls Tryz.prog 140 #[.iface 149 (.agg #[.int .i64 lo,.int .i64 hi,.bool b])] w fun e w'=>e=.returned (.string ⟨(Lib.join [[100,97,121],Lib.decDigits lo,Lib.decDigits hi,(bif b then [121,101,115] else [110,111])] [32]).toArray⟩)∧Pi.More w w':=by
 have hm:=meth149 (.agg #[.int .i64 lo,.int .i64 hi,.bool b])
 have hk:=mk4
 have ht:=ta149
 have c3:=cell_new3 w
 have hmm:=mm170
 have hi0:=ins0d
 have hi1:=ins1d
 have hi2:=ins2d
 have hl1:=lk1d
 have hl2:=lk2d
 have c4:=cell_new4 w
 have c5:=cell_new5 w
 go_enter Tryz.func140,Tryz.ntmps140
 go_wp2_with (first
  | (go_at_call 141; refine (Tryz.strconv_Itoa_small _ h0 _).mono ?_; rintro e w' ⟨rfl,rfl⟩)
  | (go_at_call 141; refine (Tryz.strconv_Itoa_small _ h1 _).mono ?_; rintro e w' ⟨rfl,rfl⟩)
  | go_in)
 refine Code.wp_mono (Q:=fun e a' W=>e=.normal∧a'=⟨#[.iface 149 (.agg #[.int .i64 lo,.int .i64 hi,.bool b]),undef,.string ⟨#[]⟩,.slice (some ⟨w.heap.size+1,0,none⟩) 4 4,.pointer (some ⟨w.heap.size+1+1,0,none⟩),undef,
   .iface 149 (.agg #[.int .i64 lo,.int .i64 hi,.bool b]),.int .i64 4,.slice (some ⟨w.heap.size+1,0,none⟩) 0 4,.iface 149 (.agg #[.int .i64 lo,.int .i64 hi,.bool b]),.tuple #[.agg #[.int .i64 lo,.int .i64 hi,.bool b],.bool true],
   .bool true,.agg #[.int .i64 lo,.int .i64 hi,.bool b],.slice (some ⟨w.heap.size+1,0,none⟩) 0 4,.pointer (some ⟨w.heap.size+1+1,0,none⟩),.pointer (some ⟨w.heap.size+1+1,0,none⟩),.int .i64 lo,.string ⟨(Lib.decDigits lo).toArray⟩,
   .pointer (some ⟨w.heap.size+1+1,0,none⟩),.pointer (some ⟨w.heap.size+1+1,1,none⟩),.int .i64 hi,.string ⟨(Lib.decDigits hi).toArray⟩,.map (some (w.heap.size+1+1+1)),.map (some (w.heap.size+1+1+1)),.pointer (some ⟨w.heap.size+1+1,2,none⟩),
   .bool b,.string (bif b then ⟨#[121,101,115]⟩ else ⟨#[110,111]⟩),.slice (some ⟨w.heap.size+1+1+1+1,0,none⟩) 4 4,.slice (some ⟨w.heap.size+1,0,none⟩) 4 4,undef,undef,undef,undef,undef,undef,undef,undef,undef,undef,undef,undef,undef,undef,undef,undef],[]⟩ ∧
   Pi.More w W∧w.heap.size+1 < W.heap.size∧W.heap[w.heap.size+1]?=some (.cells #[.string ⟨#[100,97,121]⟩,.string ⟨(Lib.decDigits lo).toArray⟩,.string ⟨(Lib.decDigits hi).toArray⟩,.string (bif b then ⟨#[121,101,115]⟩ else ⟨#[110,111]⟩)] 9)) ?_ ?_
 ·rintro e a' W ⟨rfl,rfl,hbel,hlt,hcells⟩
  have hlo:(Lib.decDigits lo).length≤2:=by rw [Pi.Q.dig_eq lo h0]; unfold Pi.Q.dig; cases Nat.blt lo 10 <;> simp
  have hhi:(Lib.decDigits hi).length≤2:=by rw [Pi.Q.dig_eq hi h1]; unfold Pi.Q.dig; cases Nat.blt hi 10 <;> simp
  have hj:=Tryz.strings_Join (w.heap.size+1) 0 4 [⟨#[100,97,121]⟩,⟨(Lib.decDigits lo).toArray⟩,⟨(Lib.decDigits hi).toArray⟩,(bif b then ⟨#[121,101,115]⟩ else ⟨#[110,111]⟩)] ⟨#[32]⟩ W
   (fun j x hx=>by
    simp only [World.cell?,hcells]
    match j,hx with
    | 0,hx=>simp at hx; subst hx; rfl
    | 1,hx=>simp at hx; subst hx; rfl
    | 2,hx=>simp at hx; subst hx; rfl
    | 3,hx=>simp at hx; subst hx; rfl
    | j+4,hx=>simp at hx) hlt (by simp) (by simp) (by
     cases b <;> simp [Lib.join,List.intercalate] <;> omega)
  simp only [List.length_cons,List.length_nil,Nat.zero_add,Nat.reduceAdd,List.map_cons,List.map_nil] at hj
  have hb4:(bif b then (⟨#[121,101,115]⟩:ByteArray) else ⟨#[110,111]⟩).data.toList=bif b then [121,101,115] else [110,111]:=by cases b <;> rfl
  rw [hb4] at hj
  go_wp2_with ((go_at_call 157; refine hj.mono ?_; rintro e w' ⟨rfl,hb⟩))
  go_ret
  exact ⟨rfl,more_trans hbel (Pi.Q.More.below hb)⟩
 ·clear hk ht hm
  go_region_held3 (fun w'=>w'.cell? ⟨w.heap.size+1+1,0,none⟩=some (.int .i64 lo)∧w'.cell? ⟨w.heap.size+1+1,1,none⟩=some (.int .i64 hi)∧w'.cell? ⟨w.heap.size+1+1,2,none⟩=some (.bool b)) (go_keep)
   (first
   | (go_at_call 141; refine (Tryz.strconv_Itoa_small lo h0 _).mono ?_; rintro e w' ⟨rfl,rfl⟩)
   | (go_at_call 141; refine (Tryz.strconv_Itoa_small hi h1 _).mono ?_; rintro e w' ⟨rfl,rfl⟩))
  all_goals exact ⟨rfl,rfl,more5 ..,lt5 ..,at5 ..⟩
end Go.Proofs
namespace Go.Proofs
open Go.RowKit
theorem meth151 (v:Value)(w:World):Sem.run Tryz.prog (method 325 151 v "mahlstick/coat.long") w=.ok (147,v) w:=by kernel_rfl
theorem mk3 (w:World):Sem.run Tryz.prog (Instr.makeSlice 126 (.int .i64 0) (.int .i64 3)) w=.ok (.slice (some ⟨w.heap.size,0,none⟩) 0 3) (w.alloc (.cells #[.string ⟨#[]⟩,.string ⟨#[]⟩,.string ⟨#[]⟩] 9)):=by kernel_rfl
theorem ta151n (v:Value)(w:World):Sem.run Tryz.prog (Instr.typeAssert (.iface 151 v) 153 149 true) w=.ok (.tuple #[.agg #[.int .i64 0,.int .i64 0,.bool false],.bool false]) w:=by kernel_rfl
theorem ta151 (v:Value)(w:World):Sem.run Tryz.prog (Instr.typeAssert (.iface 151 v) 153 151 true) w=.ok (.tuple #[v,.bool true]) w:=by kernel_rfl
theorem heap4 (w:World)(a b c d:Obj):((((w.alloc a).alloc b).alloc c).alloc d).drew.heap=(((w.heap.push a).push b).push c).push d:=rfl
theorem more4 (w:World)(a b c d:Obj):Pi.More w ((((w.alloc a).alloc b).alloc c).alloc d).drew:=by
 refine ⟨rfl,rfl,by rw [heap4]; simp; omega,fun j hj=>?_⟩
 rw [heap4,Array.getElem?_push,if_neg (by simp; omega),Array.getElem?_push,if_neg (by simp; omega),Array.getElem?_push,if_neg (by simp; omega),Array.getElem?_push,if_neg (by omega)]
theorem lt4 (w:World)(a b c d:Obj):w.heap.size+1 < ((((w.alloc a).alloc b).alloc c).alloc d).drew.heap.size:=by
 rw [heap4]; simp
theorem at4 (w:World)(a b c d:Obj):((((w.alloc a).alloc b).alloc c).alloc d).drew.heap[w.heap.size+1]?=some b:=by
 rw [heap4,Array.getElem?_push,if_neg (by simp),Array.getElem?_push,if_neg (by simp),Array.getElem?_push,if_pos (by simp)]
set_option maxRecDepth 100000 in
set_option maxHeartbeats 1600000 in
theorem written_coat (lo hi:Nat)(h0:lo < 100)(h1:hi < 100)(w:World) :
  Calls Tryz.prog 140 #[.iface 151 (.agg #[.int .i64 lo,.int .i64 hi])] w fun e w'=>e=.returned (.string ⟨(Lib.join [[99,111,97,116],Lib.decDigits lo,Lib.decDigits hi] [32]).toArray⟩)∧Pi.More w w':=by
 have hm:=meth151 (.agg #[.int .i64 lo,.int .i64 hi])
 have hk:=mk3
 have ht:=ta151n (.agg #[.int .i64 lo,.int .i64 hi])
 have ht2:=ta151 (.agg #[.int .i64 lo,.int .i64 hi])
 have c3:=cell_new3 w
 have c4:=cell_new4 w
 have c5:=cell_new5 w
 go_enter Tryz.func140,Tryz.ntmps140
 go_wp2_with (first
  | (go_at_call 141; refine (Tryz.strconv_Itoa_small _ h0 _).mono ?_; rintro e w' ⟨rfl,rfl⟩)
  | (go_at_call 141; refine (Tryz.strconv_Itoa_small _ h1 _).mono ?_; rintro e w' ⟨rfl,rfl⟩)
  | go_in)
 refine Code.wp_mono (Q:=fun e a' W=>e=.normal∧a'=⟨#[.iface 151 (.agg #[.int .i64 lo,.int .i64 hi]),undef,.string ⟨#[]⟩,.slice (some ⟨w.heap.size+1,0,none⟩) 3 3,undef,.pointer (some ⟨w.heap.size+1+1,0,none⟩),.iface 151 (.agg #[.int .i64 lo,.int .i64 hi]),.int .i64 3,.slice (some ⟨w.heap.size+1,0,none⟩) 0 3,.iface 151 (.agg #[.int .i64 lo,.int .i64 hi]),.tuple #[.agg #[.int .i64 0,.int .i64 0,.bool false],.bool false],.bool false,.agg #[.int .i64 0,.int .i64 0,.bool false],undef,undef,undef,undef,undef,undef,undef,undef,undef,undef,undef,undef,undef,undef,undef,undef,.tuple #[.agg #[.int .i64 lo,.int .i64 hi],.bool true],.bool true,.agg #[.int .i64 lo,.int .i64 hi],.slice (some ⟨w.heap.size+1,0,none⟩) 0 3,.pointer (some ⟨w.heap.size+1+1,0,none⟩),.pointer (some ⟨w.heap.size+1+1,0,none⟩),.int .i64 lo,.string ⟨(Lib.decDigits lo).toArray⟩,.pointer (some ⟨w.heap.size+1+1,0,none⟩),.pointer (some ⟨w.heap.size+1+1,1,none⟩),.int .i64 hi,.string ⟨(Lib.decDigits hi).toArray⟩,.slice (some ⟨w.heap.size+1+1+1,0,none⟩) 3 3,.slice (some ⟨w.heap.size+1,0,none⟩) 3 3,undef,undef],[]⟩ ∧
   Pi.More w W∧w.heap.size+1 < W.heap.size∧W.heap[w.heap.size+1]?=some (.cells #[.string ⟨#[99,111,97,116]⟩,.string ⟨(Lib.decDigits lo).toArray⟩,.string ⟨(Lib.decDigits hi).toArray⟩] 9)) ?_ ?_
 ·rintro e a' W ⟨rfl,rfl,hbel,hlt,hcells⟩
  have hlo:(Lib.decDigits lo).length≤2:=by rw [Pi.Q.dig_eq lo h0]; unfold Pi.Q.dig; cases Nat.blt lo 10 <;> simp
  have hhi:(Lib.decDigits hi).length≤2:=by rw [Pi.Q.dig_eq hi h1]; unfold Pi.Q.dig; cases Nat.blt hi 10 <;> simp
  have hj:=Tryz.strings_Join (w.heap.size+1) 0 3 [⟨#[99,111,97,116]⟩,⟨(Lib.decDigits lo).toArray⟩,⟨(Lib.decDigits hi).toArray⟩] ⟨#[32]⟩ W
   (fun j x hx=>by
    simp only [World.cell?,hcells]
    match j,hx with
    | 0,hx=>simp at hx; subst hx; rfl
    | 1,hx=>simp at hx; subst hx; rfl
    | 2,hx=>simp at hx; subst hx; rfl
    | j+3,hx=>simp at hx) hlt (by simp) (by simp) (by
     simp [Lib.join,List.intercalate]; omega)
  simp only [List.length_cons,List.length_nil,Nat.zero_add,Nat.reduceAdd,List.map_cons,List.map_nil] at hj
  go_wp2_with ((go_at_call 157; refine hj.mono ?_; rintro e w' ⟨rfl,hb⟩))
  go_ret
  exact ⟨rfl,more_trans hbel (Pi.Q.More.below hb)⟩
 ·clear hk ht ht2 hm
  go_region_held3 (fun w'=>w'.cell? ⟨w.heap.size+1+1,0,none⟩=some (.int .i64 lo)∧w'.cell? ⟨w.heap.size+1+1,1,none⟩=some (.int .i64 hi)) (go_keep)
   (first
   | (go_at_call 141; refine (Tryz.strconv_Itoa_small lo h0 _).mono ?_; rintro e w' ⟨rfl,rfl⟩)
   | (go_at_call 141; refine (Tryz.strconv_Itoa_small hi h1 _).mono ?_; rintro e w' ⟨rfl,rfl⟩))
  all_goals exact ⟨rfl,rfl,more4 ..,lt4 ..,at4 ..⟩
end Go.Proofs
