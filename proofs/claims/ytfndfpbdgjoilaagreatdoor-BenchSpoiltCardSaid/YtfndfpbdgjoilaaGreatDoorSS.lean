/- What stands outside the layer of benches is as the model has it. -/
import Derived.LaidMore
import Derived.Lay
import Derived.Stop.Joined
import Derived.SevenTiedAt
import Derived.Test.YtfndfpbdgjoilaaGreatDoorSH
import Derived.Test.YtfndfpbdgjoilaaGreatDoorDA
import Derived.Test.YtfndfpbdgjoilaaGreatDoorKN
import Derived.Test.YtfndfpbdgjoilaaGreatDoorKC
import Derived.Test.YtfndfpbdgjoilaaGreatDoorEE
import Derived.Test.YtfndfpbdgjoilaaGreatDoorRows
import Derived.Test.YtfndfpbdgjoilaaGreatDoorCards
import Derived.Test.YtfndfpbdgjoilaaGreatDoorTie
set_option linter.all false
set_option maxRecDepth 100000
namespace Go.Pi.L.Ben
open Go Go.Pi Go.Pi.Q Go.Pi.L Go.Pi.Ben Go.Proofs

theorem mixed:Tryz.prog.follows .mixedOrders=true:=by kernel_rfl
theorem draws (B:Nat):DrawsOk Tryz.prog B:=drawsOk mixed
theorem ok126:okFn Tryz.prog 126=true:=by kernel_rfl
theorem ok127:okFn Tryz.prog 127=true:=by kernel_rfl
theorem ok165:okFn Tryz.prog 165=true:=by kernel_rfl
theorem ok96:okFn Tryz.prog 96=true:=by kernel_rfl
theorem ok97:okFn Tryz.prog 97=true:=by kernel_rfl
theorem ok166:okFn Tryz.prog 166=true:=by kernel_rfl

theorem prims_ok (B:Nat):PrimsOk Tryz.prog B Go.Pi.Ben.prims:=by
 refine ⟨fun f g hf=>?_,pkeeps⟩
 unfold Go.Pi.Ben.prims at hf
 by_cases h1:f=126
 ·rw [if_pos h1] at hf; cases hf; subst h1; exact itoa_sim ok126 fun i hi w=>Tryz.strconv_Itoa_small i hi w
 by_cases h2:f=127
 ·rw [if_neg h1,if_pos h2] at hf; cases hf; subst h2; exact join_sim ok127 fun bk o c xs sep w a b c' d e=>Tryz.strings_Join bk o c xs sep w a b c' d e
 by_cases h3:f=165
 ·rw [if_neg h1,if_neg h2,if_pos h3] at hf; cases hf; subst h3; exact count_sim ok165 fun s c w=>Tryz.strings_Count_one s c w
 by_cases h4:f=166
 ·rw [if_neg h1,if_neg h2,if_neg h3,if_pos h4] at hf; cases hf; subst h4; exact index_sim ok166 fun s c w=>Tryz.strings_Index_one s c w
 rw [if_neg h1,if_neg h2,if_neg h3,if_neg h4] at hf
 cases hf

theorem closed_sim' {P:Program}{B:Nat}{PP:FuncId→Option PFunc}{prims:Prims}(hPP:PPok P PP)(hp:PrimsOk P B prims)(hdraw:DrawsOk P B){m:Nat}{f:FuncId}{b:Bool}(hk:run PP prims m (.func f) [] []=some ⟨.ok (.bool b),[],0⟩)
  {H:Heap} {φ:Map} {w:World} {args':Array Value} (hE:Emb P B φ H w) (hB:B≤w.heap.size) (hv:VRs φ [] args'.toList):FnSim P B φ H w args' ⟨.ok (.bool b),H,H.length⟩ (.func f):=by
 have hE0:Emb P B (fun _=>none) [] w:=by
  refine ⟨fun i s h=>(by cases h),fun i s blk h=>(by cases h),fun i s blk h=>(by cases h),fun i s blk h=>(by cases h),fun i blk h=>(by simp at h),fun i k si sk bi bk _ h=>(by cases h),fun i b f h=>(by simp at h)⟩
 have hv0:VRs (fun _=>none) [] args'.toList:=⟨hv.1,fun j x y hx=>by simp at hx⟩
 obtain ⟨h1,h2⟩:=run_sim hPP hp hdraw m (.func f) [] [] _ hk (fun _=>none) w args' hE0 hB hv0
 refine ⟨h1,fun n=>(h2 n).mono ?_⟩
 rintro e w' ⟨φ',g1,g2,g3⟩
 have hsz:=g2.size
 have hfr:∀j,j < w.heap.size→w'.heap[j]?=w.heap[j]?:=fun j hj=>g2.frame j hj (fun i s h=>by cases h)
 refine ⟨φ,hE.world hsz (fun i s hi=>hfr _ (hE.inb i s hi).2),⟨Nat.le_refl _,fun _ _=>rfl,fun i s hi hs=>absurd (hE.inb i s hs).1 (by omega),hsz,fun j hj _=>hfr j hj,g2.out⟩,?_⟩
 cases e with
 | returned v' =>
  have g3:VR φ' (.bool b) v':=g3
  cases g3
  exact VR.bool (φ:=φ) b
 | _=>exact g3.elim

theorem primsL_ok (B:Nat):PrimsOk Tryz.prog B primsL:=by
 refine ⟨fun f g hf=>?_,fun f g hf=>?_⟩
 ·unfold primsL at hf
  by_cases h:f=25
  ·rw [if_pos h] at hf
   cases hf
   subst h
   intro args H out ho φ w args' hE hB hv
   dsimp only at ho
   split at ho
   ·cases ho
    rename_i he
    obtain rfl:args=[]:=by simpa using he
    exact closed_sim' ppok (prims_ok B) (draws B) knownR hE hB hv
   ·cases ho
  ·rw [if_neg h] at hf
   by_cases h2:f=96
   ·rw [if_pos h2] at hf; cases hf; subst h2; exact sort_sim ok96 fun blk off cap zs w a b c=>Tryz.slices_Sort_int blk off cap zs w a b c
   ·rw [if_neg h2] at hf
    by_cases h3:f=97
    ·rw [if_pos h3] at hf; cases hf; subst h3; exact compact_sim ok97 fun blk off cap zs w a b c=>Tryz.slices_Compact_int blk off cap zs w a b c
    ·rw [if_neg h3] at hf; exact (prims_ok B).sim f g hf
 ·unfold primsL at hf
  by_cases h:f=25
  ·rw [if_pos h] at hf
   cases hf
   intro args H out ho hF
   dsimp only at ho
   split at ho
   ·cases ho; exact ⟨hF,Same.refl _ _⟩
   ·cases ho
  ·rw [if_neg h] at hf
   by_cases h2:f=96
   ·rw [if_pos h2] at hf; cases hf; exact fun args H out ho hF=>sort_keep ho hF
   ·rw [if_neg h2] at hf
    by_cases h3:f=97
    ·rw [if_pos h3] at hf; cases hf; exact fun args H out ho hF=>compact_keep ho hF
    ·rw [if_neg h3] at hf; exact (prims_ok B).keeps f g hf
end Go.Pi.L.Ben
set_option maxRecDepth 100000
namespace Go.Pi.L.Ben
open Go Go.Pi Go.Pi.L Go.Pi.E Go.Pi.Ben BM Go.Proofs Go.ChangeShapes Go.WideShapes Go.RowKit

theorem z3:Tryz.prog.cellsOf 3=1:=by kernel_rfl
theorem z4:Tryz.prog.cellsOf 4=1:=by kernel_rfl
theorem z22:Tryz.prog.cellsOf 22=1:=by kernel_rfl
theorem z23:Tryz.prog.cellsOf 23=1:=by kernel_rfl
theorem z25:Tryz.prog.cellsOf 25=3:=by kernel_rfl
theorem z37:Tryz.prog.cellsOf 37=2:=by kernel_rfl
theorem z41:Tryz.prog.cellsOf 41=5:=by kernel_rfl

section
variable {HH:Type} {enc:TypeId×Value→HH} {w:World} {sp:Nat→Bool} {held:Bool} {base:Nat}
theorem VRs1 {φ:Map}{x y:Value}{xs ys:List Value}(h:VR φ x y)(hs:VRs φ xs ys):VRs φ (x :: xs) (y :: ys) :=
 ⟨by simp [hs.1],fun j a b ha hb=>by
  cases j with
  | zero=>simp at ha hb; subst ha; subst hb; exact h
  | succ j=>exact hs.2 j a b (by simpa using ha) (by simpa using hb)⟩
theorem VRs0 (φ:Map):VRs φ [] []:=⟨rfl,fun j a b ha=>by simp at ha⟩
theorem ent_bench {φ:Map}{H:Heap}(hE:Ent0 Tryz.prog w φ H){v:Value}{d:DataW HH}{p:List MemPlace}{r:Reach}{b0:Nat}(hok:Value.okWide Tryz.prog w r b0 25 v)(h:DataW.Trod enc Tryz.prog w base sp held 25 v d p) :
  ∃φ' H' r b,Ent0 Tryz.prog w φ' H'∧Sub φ φ' H H'∧VR φ' (.agg #[.int .i64 r.app,.slice r.ba r.bl r.bk,.slice r.sa r.sl r.sk]) v∧BeOk H' r b:=by
 obtain ⟨cs,rfl,hcs⟩:=okWide_struct Tryz.underlying25 hok
 rw [z25] at hcs
 obtain ⟨fuel,h⟩:=h
 obtain ⟨xs,n,_,_,_,hxl,hf⟩:=DataW.trod_struct Tryz.underlying25 h
 obtain ⟨cs⟩:=cs
 match cs,hcs with
 | [v0,v1,v2],_ =>
  have g0:DataW.trod enc Tryz.prog w base sp held n 3 ((([v0,v1,v2]:List Value).drop 0).take (Tryz.prog.cellsOf 3))=xs[0]?:=hf 0 _ rfl
  have g1:DataW.trod enc Tryz.prog w base sp held n 22 ((([v0,v1,v2]:List Value).drop 1).take (Tryz.prog.cellsOf 22))=xs[1]?:=hf 1 _ rfl
  have g2:DataW.trod enc Tryz.prog w base sp held n 23 ((([v0,v1,v2]:List Value).drop 2).take (Tryz.prog.cellsOf 23))=xs[2]?:=hf 2 _ rfl
  rw [z3] at g0
  rw [z22] at g1
  rw [z23] at g2
  match xs,hxl with
  | [x0,x1,x2],_ =>
   replace g0:DataW.trod enc Tryz.prog w base sp held n 3 [v0]=some x0:=g0
   replace g1:DataW.trod enc Tryz.prog w base sp held n 22 [v1]=some x1:=g1
   replace g2:DataW.trod enc Tryz.prog w base sp held n 23 [v2]=some x2:=g2
   obtain ⟨app,ea,_⟩:=DataW.trod_int Tryz.underlying3 g0
   cases ea
   obtain ⟨φ1,H1,ba,bl,bk,boards,e1,s1,q1,y1⟩:=ent_ints hE Tryz.underlying22 Tryz.underlying3 z3 g1
   obtain ⟨φ2,H2,sa,sl,sk,ks,e2,s2,q2,y2,y3⟩:=ent_strokes e1 Tryz.underlying23 Tryz.underlying41 z41 rfl rfl rfl rfl z3 z4 z37 z22 Tryz.underlying3 Tryz.underlying4 Tryz.underlying37 Tryz.underlying22 Tryz.underlying3 z3 rfl rfl z3 z3 Tryz.underlying3 Tryz.underlying3 g2
   refine ⟨φ2,H2,⟨app,ba,bl,bk,sa,sl,sk,ks⟩,⟨app,boards,ks.map (·.s)⟩,e2,s1.trans s2,?_,⟨rfl,y1.grow s2.up.grow,y2,y3,rfl⟩⟩
   exact VR.agg_l (VRs1 (.int _ _) (VRs1 (q1.mono s2.map) (VRs1 q2 (VRs0 _))))
end
end Go.Pi.L.Ben
set_option maxRecDepth 100000
namespace Go.Proofs.YtfndfpbdgjoilaaGreatDoor
open Go Go.ChangeShapes Go.WideShapes Go.ChangeAt Go.RowKit Go.Pi Go.Pi.E

theorem own:ownKnob Tryz.prog.godebug=none:=by kernel_rfl
abbrev laidAll:List (String×DataW Unit):=[("math/bits.deBruijn32tab",Rows.laid_math_bits_deBruijn32tab),("math/bits.deBruijn64tab",Rows.laid_math_bits_deBruijn64tab),("internal/strconv.uint64pow10",Rows.laid_internal_strconv_uint64pow10),("unicode/utf8.acceptRanges",Rows.laid_unicode_utf8_acceptRanges),("unicode/utf8.first",Rows.laid_unicode_utf8_first)]
theorem laid_met (os:Os)(args:Array Value):laidMetH Tryz.prog laidAll ((World.laidAll Tryz.prog os laidAll).forCall (fun _ _=>0) ⟨#[],args,[]⟩).memory:=by
 rw [MakeChecks.laidMetH_plain _ _ _ (by kernel_rfl)]; exact laidMet_laidAll _ (by kernel_rfl) (by kernel_rfl)
end Go.Proofs.YtfndfpbdgjoilaaGreatDoor
