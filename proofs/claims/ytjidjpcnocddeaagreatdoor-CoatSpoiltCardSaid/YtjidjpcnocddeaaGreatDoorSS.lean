/- What stands outside the layer of coats is as the model has it. -/
import Derived.Test.YtjidjpcnocddeaaGreatDoorWW
import Derived.Test.YtjidjpcnocddeaaGreatDoorCQ
import Derived.Test.YtjidjpcnocddeaaGreatDoorKN
import Derived.Test.YtjidjpcnocddeaaGreatDoorKC
set_option linter.all false
set_option maxRecDepth 100000
namespace Go.Pi.L.Coa
open Go Go.Pi Go.Pi.Q Go.Pi.L Go.Pi.Coa Go.Proofs

theorem mixed:Tryz.prog.follows .mixedOrders=true:=by kernel_rfl
theorem draws (B:Nat):DrawsOk Tryz.prog B:=drawsOk mixed
theorem ok140:okFn Tryz.prog 140=true:=by kernel_rfl
theorem ok141:okFn Tryz.prog 141=true:=by kernel_rfl
theorem ok157:okFn Tryz.prog 157=true:=by kernel_rfl
theorem ok165:okFn Tryz.prog 165=true:=by kernel_rfl
theorem ok166:okFn Tryz.prog 166=true:=by kernel_rfl

theorem yes_bytes (b:Bool):yesW b=(bif b then [121,101,115] else [110,111]):=by cases b <;> rfl
theorem written_sim {N:Nat}:∀args H out,lp pWr args H=some out→∀φ w args',Emb Tryz.prog N φ H w→N≤w.heap.size→VRs φ args args'.toList→FnSim Tryz.prog N φ H w args' out (.func 140):=by
 intro args H out h φ w args' hE _ hv
 unfold lp pWr at h
 split at h
 ·rename_i t cs
  obtain ⟨y,hy,hvy⟩:=VRs.one hv
  split at h
  ·rename_i lo hi b hcs
   simp only [blt_dec,beq_dec] at h
   by_cases hc:t=149∧lo < 100∧hi < 100
   ·obtain ⟨rfl,h0,h1⟩:=hc
    simp [h0,h1] at h
    subst h
    obtain rfl:cs=#[.int .i64 (.ofNat lo),.int .i64 (.ofNat hi),.bool b]:=Array.toList_inj.1 hcs
    obtain ⟨rfl,_⟩:=flat_eq (φ':=φ) 4 (v:=.iface 149 (.agg #[.int .i64 (.ofNat lo),.int .i64 (.ofNat hi),.bool b])) (by rfl) hvy
    rw [arr_of hy]
    refine plain_sim ok140 hE ((written_day lo hi b h0 h1 w).mono ?_) (.str _)
    rintro e w' ⟨rfl,hm⟩
    refine ⟨?_,hm⟩
    rw [dig_eq lo h0,dig_eq hi h1]
    congr 4
    rw [yes_bytes]
    cases b <;> simp [Lib.join,List.intercalate,dayW,sp]
   ·have:(decide (t=149)&&(decide (lo < 100)&&decide (hi < 100)))=false:=by
     simp only [Bool.and_eq_false_iff,decide_eq_false_iff_not]
     by_cases h1:t=149
     ·by_cases h2:lo < 100
      ·exact .inr (.inr fun h3=>hc ⟨h1,h2,h3⟩)
      ·exact .inr (.inl h2)
     ·exact .inl h1
    rw [this] at h
    simp at h
  ·rename_i lo hi hcs
   simp only [blt_dec,beq_dec] at h
   by_cases hc:t=151∧lo < 100∧hi < 100
   ·obtain ⟨rfl,h0,h1⟩:=hc
    simp [h0,h1] at h
    subst h
    obtain rfl:cs=#[.int .i64 (.ofNat lo),.int .i64 (.ofNat hi)]:=Array.toList_inj.1 hcs
    obtain ⟨rfl,_⟩:=flat_eq (φ':=φ) 4 (v:=.iface 151 (.agg #[.int .i64 (.ofNat lo),.int .i64 (.ofNat hi)])) (by rfl) hvy
    rw [arr_of hy]
    refine plain_sim ok140 hE ((written_coat lo hi h0 h1 w).mono ?_) (.str _)
    rintro e w' ⟨rfl,hm⟩
    refine ⟨?_,hm⟩
    rw [dig_eq lo h0,dig_eq hi h1]
    congr 4
    simp [Lib.join,List.intercalate,coatW,sp]
   ·have:(decide (t=151)&&(decide (lo < 100)&&decide (hi < 100)))=false:=by
     simp only [Bool.and_eq_false_iff,decide_eq_false_iff_not]
     by_cases h1:t=151
     ·by_cases h2:lo < 100
      ·exact .inr (.inr fun h3=>hc ⟨h1,h2,h3⟩)
      ·exact .inr (.inl h2)
     ·exact .inl h1
    rw [this] at h
    simp at h
  ·cases h
 ·cases h

theorem written3_sim {N g:Nat}(hg:Tryz.prog.globalNamed "internal/strconv.uint64pow10" = some g)(hN:g < N):∀args H out,lp pWr3 args H=some out→∀φ w args',Emb Tryz.prog N φ H w→N≤w.heap.size→VRs φ args args'.toList→FnSim Tryz.prog N φ H w args' out (.func 140):=by
 intro args H out h φ w args' hE _ hv
 unfold lp pWr3 at h
 split at h
 ·rename_i t cs
  obtain ⟨y,hy,hvy⟩:=VRs.one hv
  split at h
  ·rename_i lo hi b hcs
   simp only [blt_dec,beq_dec] at h
   by_cases hc:t=149∧lo < 1000∧hi < 1000
   ·obtain ⟨rfl,h0,h1⟩:=hc
    simp [h0,h1] at h
    subst h
    obtain rfl:cs=#[.int .i64 (.ofNat lo),.int .i64 (.ofNat hi),.bool b]:=Array.toList_inj.1 hcs
    obtain ⟨rfl,_⟩:=flat_eq (φ':=φ) 4 (v:=.iface 149 (.agg #[.int .i64 (.ofNat lo),.int .i64 (.ofNat hi),.bool b])) (by rfl) hvy
    rw [arr_of hy]
    refine plain_sim ok140 hE ((written_day3 lo hi b h0 h1 w (tabIs_of hE.tab hg hN)).mono ?_) (.str _)
    rintro e w' ⟨rfl,hm⟩
    refine ⟨?_,hm⟩
    rw [dig3_eq lo h0,dig3_eq hi h1]
    congr 4
    rw [yes_bytes]
    cases b <;> simp [Lib.join,List.intercalate,dayW,sp]
   ·have:(decide (t=149)&&(decide (lo < 1000)&&decide (hi < 1000)))=false:=by
     simp only [Bool.and_eq_false_iff,decide_eq_false_iff_not]
     by_cases h1:t=149
     ·by_cases h2:lo < 1000
      ·exact .inr (.inr fun h3=>hc ⟨h1,h2,h3⟩)
      ·exact .inr (.inl h2)
     ·exact .inl h1
    rw [this] at h
    simp at h
  ·rename_i lo hi hcs
   simp only [blt_dec,beq_dec] at h
   by_cases hc:t=151∧lo < 1000∧hi < 1000
   ·obtain ⟨rfl,h0,h1⟩:=hc
    simp [h0,h1] at h
    subst h
    obtain rfl:cs=#[.int .i64 (.ofNat lo),.int .i64 (.ofNat hi)]:=Array.toList_inj.1 hcs
    obtain ⟨rfl,_⟩:=flat_eq (φ':=φ) 4 (v:=.iface 151 (.agg #[.int .i64 (.ofNat lo),.int .i64 (.ofNat hi)])) (by rfl) hvy
    rw [arr_of hy]
    refine plain_sim ok140 hE ((written_coat3 lo hi h0 h1 w (tabIs_of hE.tab hg hN)).mono ?_) (.str _)
    rintro e w' ⟨rfl,hm⟩
    refine ⟨?_,hm⟩
    rw [dig3_eq lo h0,dig3_eq hi h1]
    congr 4
    simp [Lib.join,List.intercalate,coatW,sp]
   ·have:(decide (t=151)&&(decide (lo < 1000)&&decide (hi < 1000)))=false:=by
     simp only [Bool.and_eq_false_iff,decide_eq_false_iff_not]
     by_cases h1:t=151
     ·by_cases h2:lo < 1000
      ·exact .inr (.inr fun h3=>hc ⟨h1,h2,h3⟩)
      ·exact .inr (.inl h2)
     ·exact .inl h1
    rw [this] at h
    simp at h
  ·cases h
 ·cases h

theorem prims_ok (B:Nat):PrimsOk Tryz.prog B Go.Pi.Coa.prims:=by
 refine ⟨fun f g hf=>?_,pkeeps⟩
 unfold Go.Pi.Coa.prims at hf
 by_cases h0:f=140
 ·rw [if_pos h0] at hf; cases hf; subst h0; exact written_sim
 by_cases h1:f=141
 ·rw [if_neg h0,if_pos h1] at hf; cases hf; subst h1; exact itoa_sim ok141 fun i hi w=>Tryz.strconv_Itoa_small i hi w
 by_cases h2:f=157
 ·rw [if_neg h0,if_neg h1,if_pos h2] at hf; cases hf; subst h2; exact join_sim ok157 fun bk o c xs sep w a b c' d e=>Tryz.strings_Join bk o c xs sep w a b c' d e
 by_cases h3:f=165
 ·rw [if_neg h0,if_neg h1,if_neg h2,if_pos h3] at hf; cases hf; subst h3; exact count_sim ok165 fun s c w=>Tryz.strings_Count_one s c w
 by_cases h4:f=166
 ·rw [if_neg h0,if_neg h1,if_neg h2,if_neg h3,if_pos h4] at hf; cases hf; subst h4; exact index_sim ok166 fun s c w=>Tryz.strings_Index_one s c w
 rw [if_neg h0,if_neg h1,if_neg h2,if_neg h3,if_neg h4] at hf
 cases hf

theorem closed_sim' {P:Program}{B:Nat}{PP:FuncId→Option PFunc}{prims:Prims}(hPP:PPok P PP)(hp:PrimsOk P B prims)(hdraw:DrawsOk P B){m:Nat}{f:FuncId}{b:Bool}(hk:run PP prims m (.func f) [] []=some ⟨.ok (.bool b),[],0⟩)
  {H:Heap} {φ:Map} {w:World} {args':Array Value} (hE:Emb P B φ H w) (hB:B≤w.heap.size) (hv:VRs φ [] args'.toList):FnSim P B φ H w args' ⟨.ok (.bool b),H,H.length⟩ (.func f):=by
 have hE0:Emb P B (fun _=>none) [] w:=by
  refine ⟨fun i s h=>(by cases h),fun i s blk h=>(by cases h),fun i s blk h=>(by cases h),fun i s blk h=>(by cases h),fun i blk h=>(by simp at h),fun i k si sk bi bk _ h=>(by cases h),fun i b f h=>(by simp at h),hE.tab⟩
 have hv0:VRs (fun _=>none) [] args'.toList:=⟨hv.1,fun j x y hx=>by simp at hx⟩
 obtain ⟨h1,h2⟩:=run_sim hPP hp hdraw m (.func f) [] [] _ hk (fun _=>none) w args' hE0 hB hv0
 refine ⟨h1,fun n=>(h2 n).mono ?_⟩
 rintro e w' ⟨φ',g1,g2,g3⟩
 have hsz:=g2.size
 have hfr:∀j,j < w.heap.size→w'.heap[j]?=w.heap[j]?:=fun j hj=>g2.frame j hj (fun i s h=>by cases h)
 refine ⟨φ,hE.world hsz (fun i s hi=>hfr _ (hE.inb i s hi).2) (fun j _ hj=>hfr j hj),⟨Nat.le_refl _,fun _ _=>rfl,fun i s hi hs=>absurd (hE.inb i s hs).1 (by omega),hsz,fun j hj _=>hfr j hj,g2.out⟩,?_⟩
 cases e with
 | returned v' =>
  have g3:VR φ' (.bool b) v':=g3
  cases g3
  exact VR.bool (φ:=φ) b
 | _=>exact g3.elim

theorem primsL_ok {B g:Nat}(hg:Tryz.prog.globalNamed "internal/strconv.uint64pow10" = some g)(hB:g < B):PrimsOk Tryz.prog B primsL:=by
 obtain ⟨m0,hm⟩:=runL_ex knownRun
 have hk:=hm m0 (Nat.le_refl _)
 refine ⟨fun f p hf=>?_,fun f p hf=>?_⟩
 ·unfold primsL at hf
  by_cases h:f=23
  ·rw [if_pos h] at hf
   cases hf
   subst h
   intro args H out ho φ w args' hE hB hv
   dsimp only at ho
   split at ho
   ·cases ho
    rename_i he
    obtain rfl:args=[]:=by simpa using he
    exact closed_sim' ppok (prims_ok B) (draws B) hk hE hB hv
   ·cases ho
  by_cases h1:f=140
  ·rw [if_neg h,if_pos h1] at hf; cases hf; subst h1; exact written3_sim hg hB
  by_cases h2:f=141
  ·rw [if_neg h,if_neg h1,if_pos h2] at hf; cases hf; subst h2; exact itoa3_sim ok141 hg hB fun n hn w ht=>itoa3 n hn w ht
  rw [if_neg h,if_neg h1,if_neg h2] at hf
  exact (prims_ok B).sim f p hf
 ·unfold primsL at hf
  by_cases h:f=23
  ·rw [if_pos h] at hf
   cases hf
   intro args H out ho hF
   dsimp only at ho
   split at ho
   ·cases ho; exact ⟨hF,Same.refl _ _⟩
   ·cases ho
  by_cases h1:f=140
  ·rw [if_neg h,if_pos h1] at hf; cases hf; exact lp_keeps _
  by_cases h2:f=141
  ·rw [if_neg h,if_neg h1,if_pos h2] at hf; cases hf; exact lp_keeps _
  rw [if_neg h,if_neg h1,if_neg h2] at hf
  exact (prims_ok B).keeps f p hf
end Go.Pi.L.Coa
