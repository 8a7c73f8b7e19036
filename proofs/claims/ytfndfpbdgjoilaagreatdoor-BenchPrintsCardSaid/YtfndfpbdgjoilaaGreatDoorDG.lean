/- Benches: the best ones of some. -/
import Derived.Test.YtfndfpbdgjoilaaGreatDoorDF
set_option linter.all false
set_option maxRecDepth 100000
namespace Go.Pi.L.Ben
open Go Go.Pi Go.Pi.L Go.Pi.E Go.Pi.Ben BM

end Go.Pi.L.Ben
set_option maxRecDepth 100000
namespace Go.Pi.L.Ben
open Go Go.Pi Go.Pi.L Go.Pi.E Go.Pi.Ben BM

end Go.Pi.L.Ben
set_option maxRecDepth 100000
namespace Go.Pi.L
open Go Go.Pi
def InR (Rd:Nat→Prop)(a:Option Addr)(l:Nat):Prop:=0 < l→∀b off,a=some ⟨b,off,none⟩→Rd b
theorem Sl.kept {β:Type}{Rd:Nat→Prop}{H H':Heap}{k:Nat}{enc:β→List Value}{a:Option Addr}{l:Nat}{xs:List β}(h:Sl H k enc a l xs)(hr:InR Rd a l)(hs:∀i,Rd i→H'[i]?=H[i]?):Sl H' k enc a l xs :=
 ⟨h.len,h.loc,fun j x hx=>by
  obtain ⟨b,off,c',h1,h2,h3⟩:=h.rd j x hx
  refine ⟨b,off,c',h1,?_,h3⟩
  unfold hcells at h2 ⊢
  rw [hs b (hr (by have:=(List.getElem?_eq_some_iff.1 hx).1; have:=h.len; omega) b off h1)]; exact h2⟩
end Go.Pi.L
namespace Go.Pi.L.Ben
open Go Go.Pi Go.Pi.L Go.Pi.E Go.Pi.Ben BM

end Go.Pi.L.Ben
set_option maxRecDepth 100000
namespace Go.Pi.L
open Go Go.Pi
section
variable {α:Type} {call:CallT} {F:Ex→St→Option α} {k:List It}
end
end Go.Pi.L
namespace Go.Pi.L.Ben
open Go Go.Pi Go.Pi.L Go.Pi.E Go.Pi.Ben BM

end Go.Pi.L.Ben
set_option maxRecDepth 100000
namespace Go.Pi.L
open Go Go.Pi
section
variable {α:Type} {call:CallT} {F:Ex→St→Option α} {k:List It}
theorem apA_new (new d T S D H lo n rnd)(h2:new.length < 1000000)(h3:new≠[]):ap1 call F (some new) (.slice (some ⟨H.length,0,none⟩) 0 1) 1 d k ⟨T,S,D,H++[⟨.cells [],true,true,some H.length⟩],lo,n,rnd⟩ =
  nxt call F (some (.slice (some ⟨H.length+1,0,none⟩) new.length 1)) d k ⟨T,S,D,H++[⟨.cells [],true,false,some H.length⟩]++[⟨.cells new,true,true,some H.length⟩],lo,n,rnd⟩:=by
 rw [apA_tip,app_get,apB_ok _ _ _ _ _ _ _ _ _ _ _ _ _ _ (Nat.mod_one _) (by omega) (by cases new with | nil=>exact absurd rfl h3 | cons=>rfl) (by decide) (by simp),app_set]
 simp
end
end Go.Pi.L
namespace Go.Pi.L.Ben
open Go Go.Pi Go.Pi.L Go.Pi.E Go.Pi.Ben BM
theorem c98x {H:Heap}{a:Option Addr}{l k:Nat}{xs:List Int}(hx:Ints H a l xs)(h0:0 < l)(hl:l < 1000) :
  ∀H',Grow H H'→R (.func 98) [.slice a l k] H'=some ⟨.ok (.slice (some ⟨H'.length+1,0,none⟩) l 1),H'++[⟨.cells [],true,false,some H'.length⟩]++[⟨.cells (cells encI xs),true,true,some H'.length⟩],H'.length⟩:=by
 intro H' hg
 have hg1:=hg.trans ((Up.refl H').app (l:=[({ obj:=.cells [],fam:=some H'.length }:Blk)])).grow
 have hlen:(cells encI xs).length=l:=by rw [cells_len (k:=1) (fun _=>rfl),hx.len,Nat.mul_one]
 have q0:=fun T S D lo n rnd=>(hx.grow hg1).elems (fun _=>rfl) (by decide) k T S D lo n rnd
 have q1:=fun T S D lo n rnd d k (F:Ex→St→Option Out)=>apA_new (call:=runL PP primsL) (F:=F) (k:=k) (cells encI xs) d T S D H' lo n rnd (by omega) (by intro h; rw [h] at hlen; simp at hlen; omega)
 rw [hlen] at q1
 have l1:=hx.isLoc k
 refine run_k (pr 98) P98 (by simp [p98]) rfl ?_
 obtain ⟨b,off,x,rfl,hx',f0⟩:=hx.at (fun _=>rfl) (by decide) h0
 simp (maxDischargeDepth:=8) only [↓SD,SU,SV,SW,simprocAttr,Int.cast_ofNat_Int,small,resV, B98,R98,N98,b98, l1,vv_nl_s,q0,q1]
 rw [gc_ite (Nat.le_refl _),if_neg (by simp [flat])]

theorem c98n (k:Nat)(H':Heap):R (.func 98) [.slice none 0 k] H'=some ⟨.ok (.slice none 0 0),H',H'.length⟩:=by
 refine run_k (pr 98) P98 (by simp [p98]) rfl ?_
 simp (maxDischargeDepth:=8) only [↓SD,SU,SV,SW,simprocAttr,Int.cast_ofNat_Int,small,resV, B98,R98,N98,b98, vv_nl_s0,R98,N98]
end Go.Pi.L.Ben
set_option maxRecDepth 100000
namespace Go.Pi.L
open Go Go.Pi
theorem Sl.of_cells {β:Type}{enc:β→List Value}{H:Heap}{k b:Nat}{xs:List β}(hk:∀x,(enc x).length=k)(h:hcells H b=some (cells enc xs)):Sl H k enc (some ⟨b,0,Option.none⟩) xs.length xs :=
 ⟨rfl,.inr ⟨_,_,rfl⟩,fun j x hx=>⟨b,0,cells enc xs,rfl,h,by rw [Nat.zero_add]; exact cells_get hk hx⟩⟩
end Go.Pi.L
namespace Go.Pi.L.Ben
open Go Go.Pi Go.Pi.L Go.Pi.E Go.Pi.Ben BM

theorem child {H:Heap}{a:Option Addr}{l k:Nat}{pre:List Int}(hs:Ints H a l pre)(hn:l=0→a=none)(hl:l < 100)(hF:Fam H)(h:Int) :
  ∃(v:Value) (H1 Hn:Heap) (bn:Nat),R (.func 98) [.slice a l k] H=some ⟨.ok v,H1,H.length⟩∧isLoc v=false ∧
   (∀{α:Type} (call:CallT) (F:Ex→St→Option α) d kk T S D lo n rnd,ap1 call F (some [.int .i64 h]) v 1 d kk ⟨T,S,D,H1,lo,n,rnd⟩=nxt call F (some (.slice (some ⟨bn,0,none⟩) (l+1) 1)) d kk ⟨T,S,D,Hn,lo,n,rnd⟩) ∧
   Up H Hn∧Fam Hn∧Sl Hn 1 encN (some ⟨bn,0,none⟩) (l+1) (pre++[h])∧H.length≤bn∧bn < Hn.length∧(∀(i:Nat) b g,H.length≤i→Hn[i]?=some b→b.fam=some g→H.length≤g)∧H.length≤H1.length:=by
 rcases Nat.eq_zero_or_pos l with h0 | h0
 ·obtain rfl:=hn h0
  subst h0
  have hp:pre=[]:=List.eq_nil_of_length_eq_zero hs.len
  subst hp
  refine ⟨.slice none 0 0,H,H++[⟨.cells [.int .i64 h],true,true,some H.length⟩],H.length,c98n k H,rfl,fun call F d kk T S D lo n rnd=>?_,(Up.refl H).app,Fam.app1 hF (Nat.le_refl _),?_,Nat.le_refl _,by simp,fun i b g hi hb hg=>?_,Nat.le_refl _⟩
  ·rw [apA_nil _ _ _ _ _ _ _ _ _ _ (Nat.mod_one _) (by simp) rfl]; simp only [List.length_singleton,Nat.div_one,Nat.zero_add]
  ·exact Sl.of_cells (xs:=[h]) (fun _=>rfl) (by simp [hcells,cells,encN])
  ·have:=(List.getElem?_eq_some_iff.1 hb).1
   simp at this
   obtain rfl:i=H.length:=by omega
   rw [app_get] at hb; cases hb; cases hg; exact Nat.le_refl _
 ·have hlen:(cells encI pre).length=l:=by rw [cells_len (k:=1) (fun _=>rfl),hs.len,Nat.mul_one]
  have hc:=c98x (k:=k) hs h0 (by omega) H (Grow.refl _)
  obtain ⟨H1,hH1⟩:∃H1,H++[⟨.cells [],true,false,some H.length⟩]++[⟨.cells (cells encI pre),true,true,some H.length⟩]=H1:=⟨_,rfl⟩
  rw [hH1] at hc
  have len1:H1.length=H.length+2:=by rw [←hH1]; simp
  have u1:Up H H1:=by rw [←hH1]; exact (Up.refl H).app.app
  have at0:H1[H.length]?=some ⟨.cells [],true,false,some H.length⟩:=by
   rw [←hH1,List.append_assoc,List.getElem?_append_right (Nat.le_refl _)]; simp
  have at1:H1[H.length+1]?=some ⟨.cells (cells encI pre),true,true,some H.length⟩:=by
   rw [←hH1,List.append_assoc,List.getElem?_append_right (by omega)]; simp
  have hF1:Fam H1:=famR hc hF
  refine ⟨_,H1,H1.set (H.length+1) ⟨.cells (cells encI pre),true,false,some H.length⟩++[⟨.cells (cells encI pre++[.int .i64 h]),true,true,some H.length⟩],H.length+2,hc,rfl,fun call F d kk T S D lo n rnd=>?_,?_,?_,?_,by omega,by simp [len1],fun i b g hi hb hg=>?_,by omega⟩
  ·rw [apA_tip]
   simp only [at1]
   rw [apB_ok _ _ _ _ _ _ _ _ _ _ _ _ _ _ (Nat.mod_one _) (by simp; omega) rfl (by decide) (by omega),len1]; simp only [List.length_singleton,Nat.div_one]
  ·exact (u1.set (by omega)).app
  ·exact Fam.app1 (hF1.set (b:=⟨.cells (cells encI pre),true,false,some H.length⟩) at1 rfl) (by simp only [List.length_set]; omega)
  ·have hl1:(pre++[h]).length=l+1:=by rw [List.length_append,hs.len]; rfl
   rw [←hl1]
   refine Sl.of_cells (fun _=>rfl) ?_
   have e:cells encN (pre++[h])=cells encI pre++[.int .i64 h]:=cells_app encI pre h
   rw [e]
   simp [hcells,len1]
  ·have h2:=(List.getElem?_eq_some_iff.1 hb).1
   simp [len1] at h2
   rcases (by omega:i=H.length∨i=H.length+1∨i=H.length+2) with q | q | q
   ·subst q
    rw [List.getElem?_append_left (by simp [len1]),List.getElem?_set_ne (by omega),at0] at hb
    cases hb; cases hg; exact Nat.le_refl _
   ·subst q
    rw [List.getElem?_append_left (by simp [len1]),List.getElem?_set_self (by omega)] at hb
    cases hb; cases hg; exact Nat.le_refl _
   ·subst q
    rw [List.getElem?_append_right (by simp [len1])] at hb
    simp [len1] at hb
    subst hb; cases hg; exact Nat.le_refl _
end Go.Pi.L.Ben
set_option maxRecDepth 100000
namespace Go.Pi.L
open Go Go.Pi
end Go.Pi.L
namespace Go.Pi.L.Ben
open Go Go.Pi Go.Pi.L Go.Pi.E Go.Pi.Ben BM

end Go.Pi.L.Ben
set_option maxRecDepth 100000
namespace Go.Pi.L.Ben
open Go Go.Pi Go.Pi.L Go.Pi.E Go.Pi.Ben BM

end Go.Pi.L.Ben
