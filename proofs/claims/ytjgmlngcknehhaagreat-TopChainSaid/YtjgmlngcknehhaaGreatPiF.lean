/- append. -/
import Derived.Deep.AppendSrc
import Derived.Test.YtjgmlngcknehhaaGreatPiE
set_option linter.all false
namespace Go.Pi
open Go

section
variable {E:Ent} {F:Fence} {n:Nat} {φ:Map} {lm:LMap} {s:St} {a:Act} {w:World} {o:Oper} {R:Map→Prop}
variable {L:List Tmp} {call:CallT} {e:Ex} {s1:St} {g:Option (Tmp×Bool)} {P:Program} {B:Nat}

theorem Src.kit {k:Nat}{xv:Value}{n:Nat}{new news:List Value}{tx:TypeId}(hn:VRs φ new news)(hl:new.length=n*k)(h1:new.all one=true)(hlen:(Builtin.lenOf xv).run P w=.ok n w)
  (hf:∀m,m≤n→∀w2:World,w2.heap=w.heap→(Builtin.firstCells k m xv).run P w2=.ok (news.take (m*k)).toArray w2) (hk:(∃e',P.underlying tx=some (.slice e'))∨P.underlying tx=some .string):Go.Src P k tx xv n news w:=by
 have htake:news.take (n*k)=news:=List.take_of_length_le (by rw [←hn.1,hl]; exact Nat.le_refl _)
 refine ⟨hk,fun w'=>?_,?_,?_,by rw [←hn.1,hl],fun u hu=>?_⟩
 ·cases xv <;> simp [Builtin.lenOf] at hlen ⊢
  ·exact hlen
  ·exact hlen
 ·have:=hf n (Nat.le_refl _) w rfl; rwa [htake] at this
 ·have:=hf n (Nat.le_refl _) w.drew rfl; rwa [htake] at this
 ·obtain ⟨j,hj⟩:=List.mem_iff_getElem?.1 hu
  have hlt:j < new.length:=hn.1 ▸ (List.getElem?_eq_some_iff.1 hj).1
  exact (hn.2 j _ u (List.getElem?_eq_getElem hlt) hj).one (List.all_eq_true.1 h1 _ (List.getElem_mem hlt))

theorem SR.weak (h:SR E φ lm s a w){H':Heap}(he:Emb E.P E.B φ H' w)(hl:H'.length=s.H.length)(lo:Nat):SR E φ lm { s with H:=H',lo:=lo } a w :=
 ⟨he,⟨by rw [hl]; exact h.ext.len,h.ext.map,h.ext.new,h.ext.size,h.ext.frame,h.ext.out⟩,h.loc,h.siz,h.env,h.dfr,h.hB,h.dom⟩

theorem SR.child (h:SR E φ lm s a w){i:Nat}{sl:Slot}{sc:Slot}{nb:Blk}{p0 f:Nat}{cs cs':Array Value}{el:TypeId}{fr:Nat×Nat}{w':World}(hi:φ i=some sl)(hb:sc.b=sl.b)(hB:E.B≤sc.b)
  (hsh:∀k sk bk,φ k=some sk→s.H[k]?=some bk→bk.ok=true→sk.b=sc.b→bk.tip=false∧bk.fam=some f∧sk.o+sk.siz≤p0) (hp:p0≤sc.o+sc.siz)
  (hcs:w.heap[sc.b]?=some (.cells cs el fr)) (hcs'':w'.heap=w.heap.setIfInBounds sc.b (.cells cs' el fr)∧w'.os=w.os∧w'.output=w.output) (hsz:cs'.size=cs.size) (hlow:∀j,j < p0→cs'[j]?=cs[j]?) (hfr:∀a,w'.frozen? a=w.frozen? a)
  (hunf:∀j,j < sc.top→w.frozen? ⟨sc.b,sc.o+j,none⟩=false) (hff:f≤s.H.length) (hnb:nb.ok=true∧nb.fam=some f) (hno:ObjR E.P φ nb.obj sc (.cells cs' el fr)) :
  SR E (upd φ s.H.length sc) lm { s with H:=s.H++[nb] } a w':=by
 obtain ⟨hcs',ho⟩:=hcs''
 have hnone:=h.free
 have hsub:=upd_sub (s:=sc) hnone
 have hw:=h.ext.write (H':=s.H) hi (hb ▸ hB) (Nat.le_refl _) ⟨hb ▸ hcs',ho⟩
 refine ⟨h.emb.child hB hsh hp hcs hcs' hsz hlow hfr hunf hff hnb hno,⟨by have:=h.ext.len; simp; omega,fun j hj=>?_,fun j t hj ht=>?_,hw.size,hw.frame,hw.out⟩,?_,h.siz,fun t=>(h.env t).mono hsub fun _ _ _ h=>h,h.dfr.mono hsub,h.hB,h.dom⟩
 ·have:j≠s.H.length:=by have:=h.ext.len; omega
  simp only [upd,this,if_false]; exact h.ext.map j hj
 ·unfold upd at ht
  split at ht
  ·cases ht
   rcases Nat.lt_or_ge i E.H.length with hlt | hge
   ·exact .inr ⟨i,sl,by rw [←h.ext.map i hlt]; exact hi,hb.symm⟩
   ·rcases h.ext.new i sl hge hi with h1 | ⟨k,sk,h1,h2⟩
    ·exact .inl (by omega)
    ·exact .inr ⟨k,sk,h1,by omega⟩
  ·exact h.ext.new j t hj ht
 ·refine (h.loc.write hi (hb ▸ hcs')).world hsub (Nat.le_refl _) (fun _ _ _ _=>rfl) fun d g b j t hlb ht=>?_
  unfold upd at ht
  split at ht
  ·cases ht; rw [hb]; exact (h.loc.lim d g b hlb).2.2 i sl hi
  ·exact (h.loc.lim d g b hlb).2.2 j t ht

theorem shrink {H:Heap}{i f:Nat}{c:List Value}(h:Emb P B φ H w)(hH:H[i]?=some ⟨.cells c,true,true,some f⟩) :
  Emb P B φ (H.set i ⟨.cells c,true,false,some f⟩) w∧Emb P B φ ((kill f H).set i ⟨.cells c,false,false,some f⟩) w:=by
 have hlt:=(List.getElem?_eq_some_iff.1 hH).1
 refine ⟨h.weak (by simp) fun k b hk=>?_,(h.kill f).weak (by simp) fun k b hk=>?_⟩
 ·by_cases hki:k=i
  ·subst hki
   rw [List.getElem?_set_self hlt] at hk; cases hk
   exact ⟨_,hH,rfl,rfl,by simp,by simp,by simp⟩
  ·rw [List.getElem?_set_ne (Ne.symm hki)] at hk
   exact ⟨b,hk,rfl,rfl,id,id,h.tipok k b hk⟩
 ·by_cases hki:k=i
  ·subst hki
   rw [List.getElem?_set_self (by rw [kill_length]; exact hlt)] at hk; cases hk
   exact ⟨_,by rw [kill_get,hH]; rfl,by simp,by simp,by simp,by simp,by simp⟩
  ·rw [List.getElem?_set_ne (Ne.symm hki)] at hk
   exact ⟨b,hk,rfl,rfl,id,id,(h.kill f).tipok k b hk⟩

theorem grow_fits {need old bytes:Nat}(h:old < need)(hn:need < small)(hb:bytes < small):Builtin.nextslicecap need old*bytes≤281474976710656:=by
 refine growslice_fits h ?_
 have:need*bytes≤small*small:=Nat.mul_le_mul (Nat.le_of_lt hn) (Nat.le_of_lt hb)
 simp only [small] at this
 omega

theorem op_app {el:TypeId}{k:Nat}{x y:Operand}(hF:∀f,F.fn f)(h:SR E φ lm s a w)(hc:comp E.P L o=some (.app el k x y))(hx:o.op.operands.toList.all opndOk=true)(hr:opR call ⟨o.dst,.app el k x y,g⟩ s=some (e,s1)) :
  OpG E F n o a w e s1 fun _=>True:=by
 have hnd:=comp_v_not_defer hc fun _ _ h=>by cases h
 obtain ⟨c,t,u,ho,hcal,hargs,hts,he,rfl,hby,hpos,hzs,hkind⟩:=came hc
 obtain ⟨z,hz⟩:=Option.isSome_iff_exists.1 hzs
 obtain ⟨inf,hi,hiz,hz1,hz2,hz3⟩:=zeroOf_spec hz
 have hisz:E.P.cellsOf el=inf.size:=by simp [Program.cellsOf,hi]
 have hiby:E.P.bytesOf el=inf.bytes:=by simp [Program.bytesOf,hi]
 have ht:=elemOf_spec he
 have hxx:=h.opnds hx x (by simp [ho,Op.operands,Call.operands,hcal,hargs])
 have hyy:=h.opnds hx y (by simp [ho,Op.operands,Call.operands,hcal,hargs])
 obtain ⟨consts,hexec⟩:=builtin_exec (P:=E.P) a.eval ho hcal w
 have hexec':(execOp a.eval o).run E.P w=((Builtin.append_ #[t,u] o.type #[a.eval x,a.eval y]).run E.P w).andThen fun v w'=>.ok (.value v) w':=by
  rw [hexec,hargs,hts]
  simp [builtin]
 simp only [opR] at hr
 split at hr
 ·rename_i new aa l m hnew hxe
  split at hr
  ·cases hr
  ·rename_i hnl
   split at hr
   ·cases hr
   ·rename_i hsm
    simp only [not_or,Decidable.not_not,ge_iff_le,Nat.not_le] at hsm
    obtain ⟨hmod,hsmall⟩:=hsm
    have hxv:=hxx.to_vr (by rw [hxe]; simpa using hnl)
    rw [hxe] at hxv
    obtain ⟨hone,nn,hsl,hln,news,hnv,hfirst⟩:=h.src hyy hnew
    have hkind':(∃e',E.P.underlying u=some (.slice e'))∨E.P.underlying u=some .string:=hkind.imp id (·.1)
    have hsrc:Go.Src E.P inf.size u (a.eval y) nn news w:=by rw [←hisz]; exact Src.kit hnv hsl hone hln hfirst hkind'
    have hnl':news.length=nn*E.P.cellsOf el:=by rw [←hnv.1,hsl]
    have hdiv:new.length / E.P.cellsOf el=nn:=by rw [hsl,Nat.mul_div_cancel _ hpos]
    have hnnle:nn≤new.length:=by rw [hsl]; exact Nat.le_mul_of_pos_right _ hpos
    split at hr
    ·-- nothing is appended
     rename_i hemp
     have hn0:nn=0:=by
      have:new.length=0:=by simpa using hemp
      rw [hsl] at this
      rcases Nat.mul_eq_zero.1 this with h | h
      ·exact h
      ·omega
     subst hn0
     have hnews0:news=[]:=List.length_eq_zero_iff.1 (by simpa using hnl')
     subst hnews0
     refine .value (v':=a.eval x) (R:=fun _=>True) hF hnd ?_ h hr (.vr _ _ hxv) trivial
     rw [hexec']
     have hf0:=hsrc.cells
     generalize a.eval x=xv at *
     cases hxv with
     | sl0 =>
      rcases hkind' with ⟨e',hk⟩ | hk <;> simp [Builtin.append_,run_underlying ht,run_underlying hk,hsrc.len,sizeOf,typeInfo,hi,hf0]
     | sl i off _ _ aa c hle hp =>
      rcases hkind' with ⟨e',hk⟩ | hk <;> simp [Builtin.append_,run_underlying ht,run_underlying hk,hsrc.len,sizeOf,typeInfo,hi,hf0,hle,storeCells]
    ·rename_i hemp
     have hnn:0 < nn:=by
      rcases Nat.eq_zero_or_pos nn with h0 | h0
      ·subst h0
       have:new=[]:=List.length_eq_zero_iff.1 (by simpa using hsl)
       rw [this] at hemp
       exact absurd rfl hemp
      ·exact h0
     have grow:∀(base:Option Addr) (sLen sCap:Nat) (old olds:List Value) (H1:Heap) (lo:Nat) (fam:Nat),fam≤s.H.length→a.eval x=.slice base sLen sCap→sCap < sLen+nn→sLen+nn < small→VRs φ old olds→old.all one=true→old.length=sLen*E.P.cellsOf el →
       (Builtin.firstCells inf.size sLen (.slice base sLen sCap)).run E.P w.drew=.ok olds.toArray w.drew→Emb E.P E.B φ H1 w→H1.length=s.H.length →
       putO { s with H:=H1++[⟨.cells (old++new),true,true,some fam⟩],lo:=lo } o.dst (.slice (some ⟨s.H.length,0,none⟩) (sLen+nn) (E.P.cellsOf el))=some (e,s1)→OpG E F n o a w e s1 fun _=>True:=by
      intro base sLen sCap old olds H1 lo fam hfam hxe' hg hsm' hold hold1 hold2 hfc hE1 hl1 hput
      have hrun:=run_append_grow_src (P:=E.P) w t u o.type el inf z ht hi hiz base sLen sCap olds hfc (a.eval y) nn news hsrc hg (by simp only [small] at hsm'; omega) (grow_fits hg hsm' (by rw [←hiby]; exact hby))
      have hge:=grownCap_ge w (sLen+nn) sCap el
      generalize hcap:grownCap w (sLen+nn) sCap el=cap at *
      generalize hzc:Builtin.zeroCells z.cells (cap - (sLen+nn))=zc at *
      have hzs:zc.size=(cap - (sLen+nn))*E.P.cellsOf el:=by rw [←hzc,size_zeroCells,hz2]
      have h1:=(h.weak hE1 hl1 lo).hole ⟨.cells (old++new),true,true,some fam⟩ (fun _=>rfl) fun f hf=>by cases hf; rw [hl1]; exact hfam
      have hfree:φ s.H.length=none:=h.free
      have hlen:(old++new).length=(sLen+nn)*E.P.cellsOf el:=by rw [List.length_append,hold2,hsl,Nat.add_mul]
      have hobj:=(hold.append hnv).objR (P:=E.P) (by rw [List.all_append,hold1,hone]; rfl) w.heap.size el (0,0) zc.toList
      have hcells:(olds++news).toArray++zc=(olds++news++zc.toList).toArray:=by apply Array.toList_inj.1; simp
      have htop:(old++new).length+zc.toList.length=cap*E.P.cellsOf el:=by
       rw [hlen,Array.length_toList,hzs,←Nat.add_mul]
       congr 1; omega
      have h2:=h1.fill (k:=s.H.length) (blk:=⟨.cells (old++new),true,true,some fam⟩) (ob:=.cells ((olds++news).toArray++zc) el) (siz:=(old++new).length) (top:=(old++new).length+zc.toList.length) (w':=w.drew.alloc (.cells ((olds++news).toArray++zc) el))
       hfree (by rw [←hl1]; simp) h.ext.len ⟨rfl,rfl,rfl⟩ (fun _=>by rw [hcells]; exact hobj.mono (upd_sub hfree)) (fun j _=>frozen_new rfl j)
      refine .value (R:=fun _=>True) hF hnd (by rw [hexec',hxe',hrun]; rfl) h2 hput (.vr _ _ ?_) trivial
      refine .sl s.H.length 0 _ _ _ _ hge fun _=>⟨⟨w.heap.size,0,(old++new).length,(old++new).length+zc.toList.length⟩,by simp [upd],rfl,fun _=>?_⟩
      show 0+cap*E.P.cellsOf el≤(old++new).length+zc.toList.length
      rw [htop]; omega
     rw [hdiv] at hr
     have hsm2:l+nn < small:=by omega
     split at hr
     ·-- onto nil
      split at hr
      ·rename_i hl0
       subst hl0
       generalize hxm:a.eval x=xv at *
       cases hxv with
       | sl0 =>
        refine grow none 0 0 [] [] s.H s.lo s.H.length (Nat.le_refl _) rfl (by omega) hsm2 .nil rfl (by simp) (by simp [Builtin.firstCells]) h.emb rfl ?_
        simpa [newA] using hr
      ·cases hr
     ·rename_i pa
      split at hr
      ·rename_i c0 f hspot hH
       split at hr
       ·rename_i hcond
        obtain ⟨hmk,hkpos,hle0⟩:=hcond
        subst hmk
        generalize hxm:a.eval x=xv at *
        cases hxv with
        | sl i off _ _ aa' cap hlc hp =>
         obtain ⟨sl,hsl1,rfl,hsl3⟩:=hp (.inr hkpos)
         have hsl3:=hsl3 hkpos
         simp only at hH hle0 hr
         have htop:(l+nn)*E.P.cellsOf el≤cap*E.P.cellsOf el∨cap < l+nn:=by
          rcases Nat.lt_or_ge cap (l+nn) with h1 | h1
          ·exact .inr h1
          ·exact .inl (Nat.mul_le_mul_right _ h1)
         have hilt:=(h.emb.inb i sl hsl1).1
         have hffi:f≤s.H.length:=Nat.le_trans (h.emb.fam i _ f hH rfl) (Nat.le_of_lt hilt)
         obtain ⟨ob,ho1,ho2⟩:=h.emb.obj i sl _ hsl1 hH rfl
         have hown:=h.emb.own i sl _ hsl1 hH (.inl rfl)
         have hunf:=h.emb.unf i sl _ hsl1 hH (.inl rfl)
         obtain ⟨hshr1,hshr2⟩:=shrink h.emb hH
         have hcl:=h.read (p:=⟨i,off,none⟩) (.vr _ _ (.ptr i off sl hsl1)) (c:=c0) (by simp [cellsAt,hcells,hH])
         obtain ⟨b0,o0,hpv,hc01,hcr⟩:=hcl
         cases hpv
         cases ho2 with
         | cells _ _ cs elt fr g1 g2 g3 g4 g5 =>
          have hold:=src_cells (P:=E.P) (φ:=φ) (w:=w) (k:=E.P.cellsOf el) (b:=sl.b) (o:=sl.o+off) (l:=l) (c:=cap) (new:=(c0.drop off).take (l*E.P.cellsOf el)) (by simp; omega) fun j v hj=>by
           rw [List.getElem?_take] at hj
           split at hj
           ·rw [List.getElem?_drop] at hj; exact hcr j v hj
           ·cases hj
          obtain ⟨hol1,_,olds,hol2,hol3⟩:=hold
          have hol4:olds.take (l*E.P.cellsOf el)=olds:=List.take_of_length_le (by rw [←hol2.1,hol1]; exact Nat.le_refl _)
          have hold1:((c0.drop off).take (l*E.P.cellsOf el)).all one=true:=by
           rw [List.all_eq_true] at hc01 ⊢
           exact fun x hx=>hc01 x (List.mem_of_mem_drop (List.mem_of_mem_take hx))
          have hfc:(Builtin.firstCells inf.size l (.slice (some ⟨sl.b,sl.o+off,none⟩) l cap)).run E.P w.drew=.ok olds.toArray w.drew:=by
           have:=hol3 l (Nat.le_refl _) w.drew rfl
           rw [hol4,hisz] at this
           exact this
          have room:∀(H1:Heap) (lo:Nat),l+nn≤cap→Emb E.P E.B φ H1 w→H1.length=s.H.length →
            (∀k sk bk,φ k=some sk→H1[k]?=some bk→bk.ok=true→sk.b=sl.b→bk.tip=false∧bk.fam=some f∧sk.o+sk.siz≤sl.o+off+l*E.P.cellsOf el) →
            putO { s with H:=H1++[⟨.cells ((c0.drop off).take (l*E.P.cellsOf el)++new),true,true,some f⟩],lo:=lo } o.dst (.slice (some ⟨s.H.length,0,none⟩) (l+nn) (E.P.cellsOf el))=some (e,s1)→OpG E F n o a w e s1 fun _=>True:=by
           intro H1 lo hroom hE1 hl1 hsh hput
           have hmul:l*E.P.cellsOf el+nn*E.P.cellsOf el≤cap*E.P.cellsOf el:=by rw [←Nat.add_mul]; exact Nat.mul_le_mul_right _ hroom
           have hwr:sl.o+off+l*E.P.cellsOf el+news.length≤cs.size:=by rw [hnl']; omega
           have hrun:=run_append_room_src (P:=E.P) w t u o.type el inf ht hi sl.b (sl.o+off) l cap (a.eval y) nn news hsrc hroom
            (fun j hj=>by rw [←hisz]; simp [World.cell?,ho1]; omega) (fun j hj=>by
             have:=hunf (off+l*E.P.cellsOf el+j) (by omega)
             rw [←hisz,show sl.o+off+l*E.P.cellsOf el+j=sl.o+(off+l*E.P.cellsOf el+j) by omega]; exact this)
           rw [←hisz] at hrun
           have hheap:=setCells_heap sl.b elt fr news (sl.o+off+l*E.P.cellsOf el) w cs ho1
           have h1:=h.weak hE1 hl1 lo
           have hlen:((c0.drop off).take (l*E.P.cellsOf el)++new).length=(l+nn)*E.P.cellsOf el:=by rw [List.length_append,hol1,hsl,Nat.add_mul]
           have h2:=h1.child (i:=i) (sl:=sl) (sc:=⟨sl.b,sl.o+off,(l+nn)*E.P.cellsOf el,sl.top - off⟩) (nb:=⟨.cells ((c0.drop off).take (l*E.P.cellsOf el)++new),true,true,some f⟩)
            (p0:=sl.o+off+l*E.P.cellsOf el) (f:=f) (cs:=cs) (cs':=setL cs (sl.o+off+l*E.P.cellsOf el) news) (el:=elt) (fr:=fr) (w':=w.setCells sl.b (sl.o+off+l*E.P.cellsOf el) news)
            hsl1 rfl hown hsh (by simp only [Nat.add_mul]; omega) ho1 ⟨hheap,setCells_out _ _ _ _⟩ (setL_size _ _ _) (fun j hj=>by rw [setL_get _ _ _ hwr,if_neg (by omega)]) (fun a=>frozen_setCells _ _ _ _ _)
            (fun j hj=>by simp only at hj ⊢; rw [Nat.add_assoc]; exact hunf (off+j) (by omega)) (by rw [show ({ s with H:=H1,lo:=lo }:St).H.length=H1.length from rfl,hl1]; exact hffi) ⟨rfl,rfl⟩ (by
             refine .cells _ _ _ _ _ hlen.symm (by simp only [Nat.add_mul]; omega) (by rw [setL_size]; simp only; omega) (by rw [List.all_append,hold1,hone]; rfl) fun j v hj=>?_
             simp only
             rw [List.getElem?_append] at hj
             rw [setL_get _ _ _ hwr]
             split at hj
             ·rename_i hlt
              rw [hol1] at hlt
              rw [if_neg (by omega)]
              rw [List.getElem?_take,if_pos hlt,List.getElem?_drop] at hj
              obtain ⟨y,hy,hyv⟩:=g5 _ v hj
              exact ⟨y,by rw [Nat.add_assoc]; exact hy,hyv⟩
             ·rename_i hge
              rw [hol1] at hj hge
              obtain ⟨y,hy,hyv⟩:=hnv.get hj
              have hlt:=(List.getElem?_eq_some_iff.1 hy).1
              rw [if_pos (by omega)]
              exact ⟨y,by rw [show sl.o+off+j - (sl.o+off+l*E.P.cellsOf el)=j - l*E.P.cellsOf el by omega]; exact hy,hyv⟩)
           refine .value (R:=fun _=>True) hF hnd (by rw [hexec',hrun]; rfl) h2 (by simpa [hl1] using hput) (.vr _ _ ?_) trivial
           refine .sl s.H.length 0 _ _ _ _ hroom fun _=>⟨⟨sl.b,sl.o+off,(l+nn)*E.P.cellsOf el,sl.top - off⟩,by simp [upd,hl1],rfl,fun _=>?_⟩
           show 0+cap*E.P.cellsOf el≤sl.top - off
           omega
          have hshare:∀k sk bk,k≠i→φ k=some sk→s.H[k]?=some bk→bk.ok=true→sk.b=sl.b→bk.tip=false∧bk.fam=some f∧sk.o+sk.siz≤sl.o+sl.siz:=by
           intro k sk bk hk hsk hbk hok hb
           obtain ⟨q1,q2,_,q4⟩:=h.emb.sep i k sl sk _ bk (Ne.symm hk) hsl1 hsk hH hbk rfl hok hb.symm
           exact ⟨q1,q2,q4⟩
          split at hr
          ·rename_i hend
           rcases Nat.lt_or_ge cap (l+nn) with hg | hroom
           ·exact grow _ l cap _ olds _ s.lo f hffi rfl hg hsm2 hol2 hold1 hol1 hfc hshr1 (by simp) hr
           ·refine room _ s.lo hroom hshr1 (by simp) (fun k sk bk hsk hbk hok hb=>?_) hr
            by_cases hki:k=i
            ·subst hki
             rw [List.getElem?_set_self hilt] at hbk; cases hbk
             rw [hsl1] at hsk; cases hsk
             exact ⟨rfl,rfl,by omega⟩
            ·rw [List.getElem?_set_ne (Ne.symm hki)] at hbk
             obtain ⟨q1,q2,q3⟩:=hshare k sk bk hki hsk hbk hok hb
             exact ⟨q1,q2,by omega⟩
          ·rcases Nat.lt_or_ge cap (l+nn) with hg | hroom
           ·exact grow _ l cap _ olds _ _ f hffi rfl hg hsm2 hol2 hold1 hol1 hfc hshr2 (by simp [kill_length]) hr
           ·refine room _ _ hroom hshr2 (by simp [kill_length]) (fun k sk bk hsk hbk hok hb=>?_) hr
            exfalso
            by_cases hki:k=i
            ·subst hki
             rw [List.getElem?_set_self (by rw [kill_length]; exact hilt)] at hbk; cases hbk
             cases hok
            ·rw [List.getElem?_set_ne (Ne.symm hki),kill_get] at hbk
             cases hHk:s.H[k]? with
             | none=>rw [hHk] at hbk; cases hbk
             | some b1 =>
              rw [hHk] at hbk
              simp only [Option.map_some,Option.some.injEq] at hbk
              have hok0:b1.ok=true:=by
               subst hbk
               split at hok
               ·cases hok
               ·exact hok
              obtain ⟨q1,q2,_⟩:=hshare k sk b1 hki hsk hHk hok0 hb
              subst hbk
              rw [if_pos ⟨q2,q1⟩] at hok
              cases hok
       ·cases hr
      ·cases hr
 ·cases hr

end
end Go.Pi
namespace Go.Pi
open Go

def W (ro:Option Nat):Fence:={ fn:=fun _=>True,depth:=none,alive:=false,round:=ro }

def RetR (φ:Map):Ret→Ending→Prop
 | .ok v,.returned v'=>VR φ v v'
 | .panic v,.panicked ch=>∃v',ch=[{ v:=v',recovered:=false }]∧VR φ v v'
 | _,_=>False

def Left (P:Program)(B:Nat)(φ:Map)(H:Heap)(w:World)(out:Out)(e:Ending)(w':World):Prop :=
 ∃φ',Emb P B φ' out.H w'∧Ext B φ H w φ' out.H w'∧RetR φ' out.r e

def FnSim (P:Program)(B:Nat)(φ:Map)(H:Heap)(w:World)(args:Array Value)(out:Out):Fn→Prop
 | .func f=>okFn P f=true∧∀n,CallsIn (W none) n P f args w (Left P B φ H w out)
 | .yield l=>∀sl,φ l=some sl→∃f tmps as bd,(Instr.yield sl.b args).run P w=.ok (.round sl.b f tmps as bd) w∧∀n,RoundIn (W none) n P sl.b f tmps as bd w (Left P B φ H w out)
 | _=>False

def CallSim (P:Program)(B:Nat)(call:CallT):Prop :=
 ∀fn args H out,call fn args H=some out→∀φ w args',Emb P B φ H w→B≤w.heap.size→VRs φ args args'.toList→FnSim P B φ H w args' out fn

section
variable {E:Ent} {n:Nat} {φ:Map} {lm:LMap} {s:St} {a:Act} {w:World} {o:Oper} {R:Map→Prop} {ro:Option Nat}
variable {L:List Tmp} {call:CallT} {e:Ex} {s1:St} {g:Option (Tmp×Bool)} {P:Program}

theorem callFunc_run {f:FuncId}(h:okFn P f=true)(args:Array Value)(w:World):(callFunc f args).run P w=.ok (.enter f args) w:=by
 unfold okFn at h
 cases hf:P.funcs[f]? with
 | none=>rw [hf] at h; cases h
 | some fn =>
  rw [hf] at h
  simp only [Bool.and_eq_true,bne_iff_ne,ne_eq] at h
  obtain ⟨c,hc⟩:=Option.isSome_iff_exists.1 h.1
  simp [callFunc,hf,h.2,hc]

theorem SR.after (h:SR E φ lm s a w){out:Out}{w':World}{φ':Map}(he:Emb E.P E.B φ' out.H w')(hx:Ext E.B φ s.H w φ' out.H w'):SR E φ' lm { s with H:=out.H,lo:=min s.lo out.lo } a w':=by
 have hsub:=hx.sub fun i t hi=>(h.emb.inb i t hi).1
 refine ⟨he,h.ext.trans hx h.dom fun i t hi=>(h.emb.inb i t hi).1,?_,h.siz,fun t=>(h.env t).mono hsub fun _ _ _ h=>h,h.dfr.mono hsub,h.hB,h.dom⟩
 refine h.loc.world hsub hx.size (fun d g b hb=>?_) fun d g b i t hb ht=>?_
 ·obtain ⟨h1,h2,h3⟩:=h.loc.lim d g b hb
  exact hx.frame b h2 fun i t hi he=>absurd he (h3 i t hi)
 ·obtain ⟨h1,h2,h3⟩:=h.loc.lim d g b hb
  intro he
  rcases Nat.lt_or_ge i s.H.length with hlt | hge
  ·rw [hx.map i hlt] at ht; exact h3 i t ht he
  ·rcases hx.new i t hge ht with h4 | ⟨k,sk,h4,h5⟩
   ·omega
   ·exact h3 k sk h4 (by omega)

theorem op_callR {p:POp}{fv fv':Value}{vs:List Value}{vs':Array Value}(hsim:CallSim E.P E.B call)(h:SR E φ lm s a w)(hnd:∀c,o.op≠.defer c)(hf:TR φ lm fv fv')(hv:VRs φ vs vs'.toList)
  (hexec:(∃f0 a0 c0,fv'=.func (.func f0) a0 c0∧(okFn E.P f0=true→(execOp a.eval o).run E.P w=.ok (.enter f0 (a0++vs'++c0)) w))∨(∃l,fv'=.func (.yield l) #[] #[]∧(execOp a.eval o).run E.P w=(Instr.yield l vs').run E.P w)∨∀fn a0 c0,fv'≠.func fn a0 c0)
  (hr:opR.callR call ⟨o.dst,p,g⟩ s fv vs=some (e,s1)):OpG E (W ro) n o a w e s1 fun φ'=>∀i,i < s.H.length→φ' i=φ i:=by
 simp only [opR.callR] at hr
 split at hr
 ·rename_i hl
  split at hr
  ·rename_i fn args hfa
   have key:∀(out:Out) (e':Ending) (w':World),(match (some out:Option Out) with
     | some ⟨.ok v,H,lo⟩=>putO { s with H:=H,lo:=min s.lo lo } o.dst v
     | some ⟨.panic v,H,lo⟩=>some (.panic v,{ s with H:=H,lo:=min s.lo lo })
     | none=>none)=some (e,s1)→Left E.P E.B φ s.H w out e' w' →
     (match e' with
     | .returned v=>(fun a' w'=>e=.normal∧∃φ' lm',(∀i,i < s.H.length→φ' i=φ i)∧SR E φ' lm' s1 a' w') (a.put o.dst v) w'
     | .panicked chain=>(fun e' a' w'=>∃v v' φ' lm',e=.panic v∧e'=Exit.panic [{ v:=v',recovered:=false }]∧VR φ' v v'∧(∀i,i < s.H.length→φ' i=φ i)∧SR E φ' lm' s1 a' w') (.panic chain) a w'
     | .outgrown=>LetsOut fun e' a' w'=>∃v v' φ' lm',e=.panic v∧e'=Exit.panic [{ v:=v',recovered:=false }]∧VR φ' v v'∧(∀i,i < s.H.length→φ' i=φ i)∧SR E φ' lm' s1 a' w'):=by
    intro out e' w' hr hleft
    obtain ⟨φ',k1,k2,k3⟩:=hleft
    obtain ⟨r,H,lo⟩:=out
    have hs:=h.after k1 k2
    cases r with
    | ok v =>
     simp only at hr
     cases e' with
     | returned v' =>
      obtain ⟨he,hp⟩:=putO_put hr
      subst he
      exact ⟨rfl,φ',lm,k2.map,hs.put (.vr _ _ k3) hp⟩
     | panicked ch=>exact k3.elim
     | outgrown=>exact k3.elim
    | panic v =>
     simp only [Option.some.injEq,Prod.mk.injEq] at hr
     obtain ⟨rfl,rfl⟩:=hr
     cases e' with
     | returned v'=>exact k3.elim
     | panicked ch =>
      obtain ⟨v',rfl,hv'⟩:=k3
      exact ⟨v,v',φ',lm,rfl,rfl,hv',k2.map,hs⟩
     | outgrown=>exact k3.elim
   cases hcall:call fn args s.H with
   | none=>rw [hcall] at hr; cases hr
   | some out =>
    rw [hcall] at hr
    have hsz:=Nat.le_trans h.hB h.ext.size
    cases hf with
    | ptr=>simp [fnArgs] at hfa
    | sl=>simp [fnArgs] at hfa
    | vr _ _ hf =>
     cases hf with
     | func f0 a0 a0' c0 c0' k1 k2 k3 k4 =>
      simp only [fnArgs,Option.some.injEq,Prod.mk.injEq] at hfa
      obtain ⟨rfl,rfl⟩:=hfa
      have hvr1:VRs φ a0.toList a0'.toList:=⟨by simpa using k1,fun j x y hx hy=>k2 j x y (by simpa using hx) (by simpa using hy)⟩
      have hvr2:VRs φ c0.toList c0'.toList:=⟨by simpa using k3,fun j x y hx hy=>k4 j x y (by simpa using hx) (by simpa using hy)⟩
      have hargs:VRs φ (a0.toList++vs++c0.toList) (a0'++vs'++c0').toList:=by
       simp only [Array.toList_append]; exact (hvr1.append hv).append hvr2
      obtain ⟨hok,hcalls⟩:=hsim _ _ _ _ hcall φ w _ h.emb hsz hargs
      rcases hexec with ⟨f1,a1,c1,hfe,hx⟩ | ⟨l,hfe,_⟩ | hx
      ·cases hfe
       refine ⟨fun f _=>trivial,?_⟩
       rw [Oper.semAt_eq _ _ _ hnd,hx hok]
       exact ⟨(by intro h; cases h),CallsIn.mono (hcalls (n - 1)) fun e' w' hl=>by have hk:=key out e' w' hr hl; cases e' <;> exact hk⟩
      ·cases hfe
      ·exact absurd rfl (hx _ _ _)
     | yield l sl hsl =>
      simp only [fnArgs,Option.some.injEq,Prod.mk.injEq] at hfa
      obtain ⟨rfl,rfl⟩:=hfa
      have hargs:VRs φ (#[].toList++vs) vs'.toList:=by simpa using hv
      obtain ⟨f,tmps,as,bd,hy,hround⟩:=hsim _ _ _ _ hcall φ w _ h.emb hsz hargs sl hsl
      rcases hexec with ⟨f1,a1,c1,hfe,hx⟩ | ⟨l',hfe,hx⟩ | hx
      ·cases hfe
      ·cases hfe
       refine ⟨fun f _=>trivial,?_⟩
       rw [Oper.semAt_eq _ _ _ hnd,hx,hy]
       exact ⟨(by intro h; cases h),RoundIn.mono (hround (n - 1)) fun e' w' hl=>by have hk:=key out e' w' hr hl; cases e' <;> exact hk⟩
      ·exact absurd rfl (hx _ _ _)
     | _=>simp [fnArgs,junk] at hfa
  ·cases hr
 ·cases hr

theorem value_exec {c:Call}{f:Operand}(ho:o.op=.call c)(hcal:c.callee=.value f) :
  (∃f0 a0 c0,a.eval f=.func (.func f0) a0 c0∧(okFn P f0=true→(execOp a.eval o).run P w=.ok (.enter f0 (a0++c.args.map a.eval++c0)) w)) ∨
   (∃l,a.eval f=.func (.yield l) #[] #[]∧(execOp a.eval o).run P w=(Instr.yield l (c.args.map a.eval)).run P w)∨(∀f0 a0 c0,a.eval f≠.func (.func f0) a0 c0)∧(∀l,a.eval f≠.func (.yield l) #[] #[]):=by
 by_cases h1:∃f0 a0 c0,a.eval f=.func (.func f0) a0 c0
 ·obtain ⟨f0,a0,c0,hf⟩:=h1
  refine .inl ⟨f0,a0,c0,hf,fun hok=>?_⟩
  simp only [execOp,ho,resolve,hcal,hf,Deferred.ofValue,Sem.run_bind,Sem.run_pure,Result.andThen_ok,invoke,callFunc_run hok]
 ·by_cases h2:∃l,a.eval f=.func (.yield l) #[] #[]
  ·obtain ⟨l,hf⟩:=h2
   refine .inr (.inl ⟨l,hf,?_⟩)
   simp only [execOp,ho,resolve,hcal,hf,Deferred.ofValue,Sem.run_bind,Sem.run_pure,Result.andThen_ok,invoke]
   simp
  ·exact .inr (.inr ⟨fun f0 a0 c0 h=>h1 ⟨f0,a0,c0,h⟩,fun l h=>h2 ⟨l,h⟩⟩)

theorem op_call {f:Operand}{xs:List Operand}(hsim:CallSim E.P E.B call)(h:SR E φ lm s a w)(hc:comp E.P L o=some (.call f xs))(hx:o.op.operands.toList.all opndOk=true)(hr:opR call ⟨o.dst,.call f xs,g⟩ s=some (e,s1)) :
  OpG E (W ro) n o a w e s1 fun φ'=>∀i,i < s.H.length→φ' i=φ i:=by
 have hnd:=comp_v_not_defer hc fun _ _ h=>by cases h
 obtain ⟨c,ho,hcal,hargs⟩:=came hc
 have hops:∀x∈f :: xs,TR φ lm (ev s.T x) (a.eval x):=fun x hxm=>h.opnds hx x (by simp [ho,Op.operands,Call.operands,hcal,←hargs] at hxm ⊢; exact hxm)
 have hrr:opR.callR call ⟨o.dst,.call f xs,g⟩ s (ev s.T f) (xs.map (ev s.T))=some (e,s1):=by simpa only [opR] using hr
 have hl:(xs.map (ev s.T)).all (fun v=>!isLoc v)=true:=by
  unfold opR.callR at hrr
  split at hrr
  ·assumption
  ·cases hrr
 have hv:VRs φ (xs.map (ev s.T)) (c.args.map a.eval).toList:=by
  have:=VRs.map_ev (fun x hxm=>hops x (by simp [hxm])) hl
  simpa [←hargs] using this
 rcases value_exec (P:=E.P) (a:=a) (w:=w) ho hcal with h1 | h1 | h1
 ·exact op_callR hsim h hnd (hops f (by simp)) hv (.inl h1) hrr
 ·exact op_callR hsim h hnd (hops f (by simp)) hv (.inr (.inl h1)) hrr
 ·-- nothing of the kind is called
  exfalso
  unfold opR.callR at hrr
  rw [if_pos hl] at hrr
  have hf:=hops f (by simp)
  generalize ev s.T f=fv at *
  generalize a.eval f=fv' at *
  cases hf with
  | ptr=>simp [fnArgs] at hrr
  | sl=>simp [fnArgs] at hrr
  | vr _ _ hf =>
   cases hf with
   | func f0 a0 a0' c0 c0'=>exact h1.1 _ _ _ rfl
   | yield l sl hsl=>exact h1.2 _ rfl
   | _=>simp [fnArgs,junk] at hrr

theorem tableOf_spec {m:String}{t:TypeId}{f:FuncId}(h:(t,f)∈tableOf P m):∃i mt d,P.info? t=some i∧i.methods.find? (·.name == m)=some mt∧mt.path.size=0∧mt.func=some (f,false)∧P.underlying t=some d∧(∀e,d≠.pointer e)∧okFn P f=true∧0 < P.types.size:=by
 unfold tableOf at h
 rw [List.mem_filterMap] at h
 obtain ⟨t',ht',h⟩:=h
 rw [List.mem_range] at ht'
 split at h
 ·rename_i i hi
  split at h
  ·rename_i mt hmt
   split at h
   ·cases h
   ·rename_i ff d hnp hp hfn hd
    split at h
    ·rename_i hok
     simp only [Option.some.injEq,Prod.mk.injEq] at h
     obtain ⟨rfl,rfl⟩:=h
     exact ⟨i,mt,d,hi,hmt,hp,hfn,hd,fun e he=>hnp e he,hok,by omega⟩
    ·cases h
   ·cases h
  ·cases h
 ·cases h

theorem op_inv {x:Operand}{tb:List (TypeId×FuncId)}{xs:List Operand}(hsim:CallSim E.P E.B call)(h:SR E φ lm s a w)(hc:comp E.P L o=some (.inv x tb xs))(hx:o.op.operands.toList.all opndOk=true)(hr:opR call ⟨o.dst,.inv x tb xs,g⟩ s=some (e,s1)) :
  OpG E (W ro) n o a w e s1 fun φ'=>∀i,i < s.H.length→φ' i=φ i:=by
 have hnd:=comp_v_not_defer hc fun _ _ h=>by cases h
 obtain ⟨c,m,ho,hcal,htb,hargs⟩:=came hc
 have hops:∀y∈x :: xs,TR φ lm (ev s.T y) (a.eval y):=fun y hxm=>h.opnds hx y (by simp [ho,Op.operands,Call.operands,hcal,←hargs] at hxm ⊢; exact hxm)
 simp only [opR] at hr
 split at hr
 ·rename_i t v hxe
  split at hr
  ·rename_i tt f hfind
   have hrr:opR.callR call ⟨o.dst,.inv x tb xs,g⟩ s (.func (.func f) #[v] #[]) (xs.map (ev s.T))=some (e,s1):=by simpa only [opR] using hr
   have hl:(xs.map (ev s.T)).all (fun v=>!isLoc v)=true:=by
    unfold opR.callR at hrr
    split at hrr
    ·assumption
    ·cases hrr
   have hv:VRs φ (xs.map (ev s.T)) (c.args.map a.eval).toList:=by
    have:=VRs.map_ev (fun x hxm=>hops x (by simp [hxm])) hl
    simpa [←hargs] using this
   have hxx:=hops x (by simp)
   rw [hxe] at hxx
   have hxv:=hxx.to_vr rfl
   generalize hxm:a.eval x=xv at *
   cases hxv with
   | iface _ _ v' hvv =>
    have hmem:=List.mem_of_find?_eq_some hfind
    have hteq:tt=t:=by simpa using List.find?_some hfind
    subst hteq
    obtain ⟨i,mt,d,hi,hmt,hp,hfn,hd,hnp,hok,hpos⟩:=tableOf_spec (htb ▸ hmem)
    refine op_callR (fv:=.func (.func f) #[v] #[]) (fv':=.func (.func f) #[v'] #[]) hsim h hnd (.vr _ _ (.func f _ _ _ _ rfl (fun j x y hx hy=>?_) rfl (by simp))) hv (.inl ⟨f,#[v'],#[],rfl,fun _=>?_⟩) hrr
    ·match j with
     | 0=>simp at hx hy; subst hx; subst hy; exact hvv
     | j+1=>simp at hx
    ·obtain ⟨fuel,hfuel⟩:∃k,E.P.types.size+Made.depth=k+1:=⟨E.P.types.size+Made.depth - 1,by omega⟩
     have hmeth:(method (E.P.types.size+Made.depth) tt v' m).run E.P w=.ok (f,v') w:=by
      rw [hfuel]
      have hpl:mt.path.toList=[]:=List.length_eq_zero_iff.1 (by simpa using hp)
      have hrec:∀wr,(receiverAt tt (.val v') false wr).run E.P w=.ok v' w:=by
       intro wr
       cases d <;> first | exact absurd rfl (hnp _) | simp [receiverAt,run_underlying hd,Place.get]
      simp only [method,Sem.run_bind,typeInfo,run_program,Result.andThen_ok,hi,Sem.run_pure,hmt,hpl,follow,hfn,hrec]
     simp only [execOp,ho,resolve,hcal,hxm,Sem.run_bind,Sem.run_pure,Result.andThen_ok,invoke]
     have h0:(#[Value.iface tt v']++c.args.map a.eval)[0]?=some (.iface tt v'):=by rw [Array.getElem?_append_left (by simp)]; rfl
     simp only [h0,callMethod,Sem.run_bind,run_program,Result.andThen_ok,hmeth]
     rw [callFunc_run hok]
     congr 2
     apply Array.toList_inj.1
     simp
     exact List.take_of_length_le (by simp)
  ·cases hr
 ·cases hr

end
end Go.Pi
namespace Go.Pi
open Go

def calm:POp→Bool
 | .v _ _ | .lbox _ _ | .lalloc _ _ | .lbs _ _ _ _ _ | .ld _ _ | .st _ _ _ | .b2s _ | .mlk _ _ _ _ _ | .mup _ _ _ _ | .nxt _ | .dfr _ _ | .pnc _=>true
 | _=>false

section
variable {E:Ent} {n:Nat} {φ:Map} {lm:LMap} {s:St} {a:Act} {w:World} {o:Oper} {R R':Map→Prop} {ro:Option Nat} {F:Fence}
variable {L:List Tmp} {call:CallT} {e:Ex} {s1:St} {g:Option (Tmp×Bool)} {P:Program}

theorem wpIn_monoQ {K K':Act→World→Prop}{Q Q':Exit→Act→World→Prop}(hK:∀a w,K a w→K' a w)(hQ:∀e a w,Q e a w→Q' e a w)(h:o.wpIn F n P a w K Q):o.wpIn F n P a w K' Q':=by
 unfold Oper.wpIn at *
 refine ⟨h.1,?_⟩
 have hh:=h.2
 generalize (o.semAt F.round a.eval).run P w=r at *
 cases r with
 | ok x w' =>
  cases x <;> simp only [Oper.uponIn] at hh ⊢ <;>
   first
    | exact hK _ _ hh
    | exact ⟨hh.1,CallsIn.mono hh.2 (fun e w'' he=>by cases e <;> first | exact hK _ _ he | exact hQ _ _ _ he | (obtain ⟨a,w,h⟩:=he; exact ⟨a,w,hQ _ _ _ h⟩))⟩
    | exact ⟨hh.1,RowsIn.mono hh.2 (fun _ _ he=>hK _ _ he)⟩
    | exact ⟨hh.1,RoundIn.mono hh.2 (fun e w'' he=>by cases e <;> first | exact hK _ _ he | exact hQ _ _ _ he | (obtain ⟨a,w,h⟩:=he; exact ⟨a,w,hQ _ _ _ h⟩))⟩
 | halt x w'=>cases x <;> simp only [Oper.uponIn] at hh ⊢ <;> first | exact hQ _ _ _ hh | exact hh

theorem OpG.mono (h:OpG E F n o a w e s1 R)(hR:∀φ,R φ→R' φ):OpG E F n o a w e s1 R' :=
 wpIn_monoQ (fun _ _ ⟨h1,φ',lm',h2,h3⟩=>⟨h1,φ',lm',hR _ h2,h3⟩) (fun _ _ _ ⟨v,v',φ',lm',h1,h2,h3,h4,h5⟩=>⟨v,v',φ',lm',h1,h2,h3,hR _ h4,h5⟩) h

theorem W_fn (ro:Option Nat):∀f,(W ro).fn f:=fun _=>trivial

theorem simOp0 {p:POp}(hsim:CallSim E.P E.B call)(h:SR E φ lm s a w)(hro:s.rnd=ro.isSome)(hc:comp E.P L o=some p)(hx:o.op.operands.toList.all opndOk=true)(hr:opR call ⟨o.dst,p,g⟩ s=some (e,s1)) :
  OpG E (W ro) n o a w e s1 fun φ'=>(calm p=true→φ'=φ)∧(isStrict p=true→∀i,i < s.H.length→φ' i=φ i):=by
 have c1:∀{p},OpG E (W ro) n o a w e s1 (·=φ)→OpG E (W ro) n o a w e s1 fun φ'=>(calm p=true→φ'=φ)∧(isStrict p=true→∀i,i < s.H.length→φ' i=φ i):=fun h=>h.mono fun _ h=>⟨fun _=>h,fun _ i _=>by rw [h]⟩
 have c3:∀{p},calm p=false→OpG E (W ro) n o a w e s1 (fun φ'=>∀i,i < s.H.length→φ' i=φ i)→OpG E (W ro) n o a w e s1 fun φ'=>(calm p=true→φ'=φ)∧(isStrict p=true→∀i,i < s.H.length→φ' i=φ i):=fun hp h=>h.mono fun _ h=>⟨fun hc=>by (rw [hp] at hc; cases hc),fun _=>h⟩
 have c2:∀{p},(calm p=false∧isStrict p=false)→OpG E (W ro) n o a w e s1 (fun _=>True)→OpG E (W ro) n o a w e s1 fun φ'=>(calm p=true→φ'=φ)∧(isStrict p=true→∀i,i < s.H.length→φ' i=φ i):=fun hp h=>h.mono fun _ _=>⟨fun hc=>by (rw [hp.1] at hc; cases hc),fun hc=>by (rw [hp.2] at hc; cases hc)⟩
 have new:∀{p},comp E.P L o=some p→(calm p=false∧isStrict p=false)→newO s o.dst (allocOf p s.T)=some (e,s1)→OpG E (W ro) n o a w e s1 fun φ'=>(calm p=true→φ'=φ)∧(isStrict p=true→∀i,i < s.H.length→φ' i=φ i):=fun hc hp hr=>c2 hp (op_new (g:=none) (W_fn ro) h hc hx hr)
 cases p with
 | v f xs=>exact c1 (op_v (W_fn ro) h hc hx hr)
 | box t x=>exact new hc ⟨rfl,rfl⟩ hr
 | alloc t z=>exact new hc ⟨rfl,rfl⟩ hr
 | lbox t x=>exact c1 (op_lbox (W_fn ro) h hc hx hr)
 | lalloc t z=>exact c1 (op_lalloc (W_fn ro) h hc hr)
 | ld m x=>exact c1 (op_ld (W_fn ro) h hc hx hr)
 | st m x y=>exact c1 (op_st (W_fn ro) h hc hx hr)
 | bs t k z len ps=>exact new hc ⟨rfl,rfl⟩ hr
 | lbs t k z len ps=>exact c1 (op_lbs (W_fn ro) h hc hx hr)
 | mks t k z b l c=>exact new hc ⟨rfl,rfl⟩ hr
 | app t k x y=>exact c2 ⟨rfl,rfl⟩ (op_app (W_fn ro) h hc hx hr)
 | s2b t x=>exact new hc ⟨rfl,rfl⟩ hr
 | b2s x=>exact c1 (op_b2s (W_fn ro) h hc hx hr)
 | mkm sh=>exact new hc ⟨rfl,rfl⟩ hr
 | mlk sh z ok m k=>exact c1 (op_mlk (W_fn ro) h hc hx hr)
 | mup sh m k x=>exact c1 (op_mup (W_fn ro) h hc hx hr)
 | rng x=>exact new hc ⟨rfl,rfl⟩ hr
 | nxt x=>exact c1 (op_nxt (W_fn ro) h hc hx hr)
 | call f xs=>exact c3 rfl (op_call hsim h hc hx hr)
 | inv x tb xs=>exact c3 rfl (op_inv hsim h hc hx hr)
 | dfr f xs =>
  refine c1 (op_dfr (W_fn ro) ?_ h hc hx hr)
  cases ro with
  | none=>rfl
  | some l =>
   exfalso
   simp only [opR,hro] at hr
   simp at hr
 | pnc x=>exact c1 (op_pnc (W_fn ro) h hc hx hr)
 | clr z x=>exact c1 (op_clr (W_fn ro) h hc hx hr)

def CompS (P:Program)(L:List Tmp)(o:Oper)(p:POp):Prop:=comp P L o=some p∨∃f xs,comp P L o=some (.call (.func f) xs)∧p=.call (.const (.func (.func f) #[] #[])) xs
theorem strictP_or (p:POp):strictP p=p∨∃f xs,p=.call (.func f) xs∧strictP p=.call (.const (.func (.func f) #[] #[])) xs:=by
 unfold strictP
 split
 ·exact .inr ⟨_,_,rfl,rfl⟩
 ·exact .inl rfl
theorem compS_of {P:Program}{L:List Tmp}{o:Oper}{p:POp}{d:Option Tmp}(h:comp P L o=some p):CompS P L o (strictL L d p):=by
 unfold strictL
 by_cases hb:markS L d=true
 ·rw [if_pos hb]
  rcases strictP_or p with h1 | ⟨f,xs,rfl,h1⟩
  ·rw [h1]; exact .inl h
  ·rw [h1]; exact .inr ⟨f,xs,h,rfl⟩
 ·rw [if_neg hb]; exact .inl h
theorem CompS.plain {P:Program}{L:List Tmp}{o:Oper}{p:POp}(h:CompS P L o p)(hs:isStrict p=false):comp P L o=some p:=by
 rcases h with h | ⟨f,xs,_,rfl⟩
 ·exact h
 ·cases hs
theorem simOp {p:POp}(hsim:CallSim E.P E.B call)(h:SR E φ lm s a w)(hro:s.rnd=ro.isSome)(hc:CompS E.P L o p)(hx:o.op.operands.toList.all opndOk=true)(hr:opR call ⟨o.dst,p,g⟩ s=some (e,s1)) :
  OpG E (W ro) n o a w e s1 fun φ'=>(calm p=true→φ'=φ)∧(isStrict p=true→∀i,i < s.H.length→φ' i=φ i):=by
 rcases hc with hc | ⟨f,xs,hc,rfl⟩
 ·exact simOp0 hsim h hro hc hx hr
 ·have hr':opR call ⟨o.dst,.call (.func f) xs,g⟩ s=some (e,s1):=hr
  exact (op_call hsim h hc hx hr').mono fun _ h=>⟨fun hc=>(by cases hc),fun _=>h⟩

theorem wanted_run {ops:List Oper}{pi:PIns}{b:Bool}(h:SR E φ lm s a w)(hc:compI P L ops o=some pi)(hw:wanted pi s.T=some b):Region.wanted o (yielded ops.toArray a.tmps)=b:=by
 unfold compI at hc
 split at hc
 ·cases hc
 ·simp only [Option.bind_eq_some_iff] at hc
  obtain ⟨p,hp,hc⟩:=hc
  unfold Region.wanted
  cases hg:o.guard with
  | none =>
   rw [hg] at hc
   simp only [Option.some.injEq] at hc
   subst hc
   simpa [wanted] using hw
  | some jw =>
   obtain ⟨j,want⟩:=jw
   rw [hg] at hc
   simp only [Option.map_eq_some_iff,Option.bind_eq_some_iff] at hc
   obtain ⟨t,⟨oj,hoj,hd⟩,hc⟩:=hc
   subst hc
   have henv:=h.env t
   simp only [wanted] at hw
   have hy:((ops.toArray[j]?).bind (·.dst)).bind (a.tmps[·]?)=a.tmps[t]?:=by simp [hoj,hd]
   rw [Array.getD_eq_getD_getElem?] at henv
   simp only [yielded,hy]
   cases hta:a.tmps[t]? with
   | none =>
    rw [hta] at henv
    simp only [Option.getD_none] at henv
    split at hw
    ·rename_i bb hbb
     rw [hbb] at henv
     exact absurd henv.bool (by simp [undef])
    ·cases hw; simp
    ·cases hw
   | some v =>
    rw [hta] at henv
    simp only [Option.getD_some] at henv
    split at hw
    ·rename_i bb hbb
     rw [hbb] at henv
     cases hw
     rw [henv.bool]
     cases bb <;> cases want <;> rfl
    ·rename_i hbb
     rw [hbb] at henv
     cases hw
     have:v=.tuple #[]:=by
      have:=henv.to_vr rfl
      cases this with
      | tuple _ a' h1 _ =>
       congr 1
       exact Array.eq_empty_of_size_eq_zero h1.symm
     rw [this]; rfl
    ·cases hw

theorem compI_spec {ops:List Oper}{pi:PIns}(hc:compI P L ops o=some pi):CompS P L o pi.op∧pi.dst=o.dst∧o.op.operands.toList.all opndOk=true:=by
 unfold compI at hc
 split at hc
 ·cases hc
 ·rename_i hx
  simp only [Option.bind_eq_some_iff] at hc
  obtain ⟨p,hp,hc⟩:=hc
  cases hg:o.guard with
  | none =>
   rw [hg] at hc
   simp only [Option.some.injEq] at hc
   subst hc
   exact ⟨compS_of hp,rfl,by simpa using hx⟩
  | some jw =>
   rw [hg] at hc
   simp only [Option.map_eq_some_iff] at hc
   obtain ⟨t,_,hc⟩:=hc
   subst hc
   exact ⟨compS_of hp,rfl,by simpa using hx⟩

def ExR (φ:Map):Ex→Exit→Prop
 | .normal,.normal=>True
 | .ret,.ret=>True
 | .exit i,.exit j=>i=j
 | .panic v,.panic ch=>∃v',ch=[{ v:=v',recovered:=false }]∧VR φ v v'
 | _,_=>False

def Post (E:Ent)(e:Ex)(s:St)(e':Exit)(a:Act)(w:World):Prop:=∃φ lm,ExR φ e e'∧SR E φ lm s a w

theorem putO_keeps {s2:St}{d:Option Tmp}{v:Value}(h:putO s2 d v=some (e,s1)):s1.rnd=s2.rnd∧s1.n=s2.n:=by
 obtain ⟨_,hp⟩:=putO_put h
 cases d with
 | none=>simp only [put] at hp; cases hp; exact ⟨rfl,rfl⟩
 | some d =>
  simp only [put] at hp
  split at hp
  ·cases hp; exact ⟨rfl,rfl⟩
  ·cases hp

theorem newO_keeps {d:Option Tmp}{al:Option Alc}(h:newO s d al=some (e,s1)):s1.rnd=s.rnd∧s1.n=s.n:=by
 cases al with
 | none=>cases h
 | some al=>have hk:=putO_keeps h; exact hk

theorem stCells_keeps {p:Addr}{vs:List Value}(h:stCells s p vs=some s1):s1.rnd=s.rnd∧s1.n=s.n:=by
 unfold stCells at h
 repeat' split at h
 all_goals first | (cases h; exact ⟨rfl,rfl⟩) | cases h

theorem callR_keeps {pi:PIns}{f:Value}{vs:List Value}(h:opR.callR call pi s f vs=some (e,s1)):s1.rnd=s.rnd∧s1.n=s.n:=by
 unfold opR.callR at h
 repeat' split at h
 all_goals first | (have hk:=putO_keeps h; exact hk) | (cases h; done) | (cases h; exact ⟨rfl,rfl⟩)

theorem opR_keeps {pi:PIns}(hr:opR call pi s=some (e,s1)):s1.rnd=s.rnd∧s1.n=s.n:=by
 obtain ⟨d,p,g⟩:=pi
 cases p <;> simp only [opR] at hr
 case box=>exact newO_keeps hr
 case alloc=>exact newO_keeps hr
 case bs=>exact newO_keeps hr
 case mks=>exact newO_keeps hr
 case s2b=>exact newO_keeps hr
 case mkm=>exact newO_keeps hr
 case rng=>exact newO_keeps hr
 case call=>exact callR_keeps hr
 case inv =>
  split at hr
  ·split at hr
   ·exact callR_keeps hr
   ·cases hr
  ·cases hr
 case st =>
  split at hr
  ·split at hr
   ·cases hr
   ·split at hr
    ·rename_i s2 hs
     have h1:=putO_keeps hr
     have h2:=stCells_keeps hs
     exact ⟨h1.1.trans h2.1,h1.2.trans h2.2⟩
    ·cases hr
  ·cases hr
 case clr =>
  split at hr
  ·exact putO_keeps hr
  ·split at hr
   ·exact putO_keeps hr
   ·split at hr
    ·rename_i s2 hs
     have h1:=putO_keeps hr
     have h2:=stCells_keeps hs
     exact ⟨h1.1.trans h2.1,h1.2.trans h2.2⟩
    ·cases hr
  ·cases hr
 all_goals
  repeat' split at hr
  all_goals first | (have hk:=putO_keeps hr; exact hk) | (cases hr; done) | (cases hr; exact ⟨rfl,rfl⟩)

theorem ops_run {ops:Array Oper}(hsim:CallSim E.P E.B call):∀(i:Nat) (pis:List PIns) (s s1:St) (φ:Map) (lm:LMap) (a:Act) (w:World),s.rnd=ro.isSome→i+pis.length=ops.size→(∀(j:Nat) pi,pis[j]?=some pi→∃o,ops[i+j]?=some o∧compI E.P L ops.toList o=some pi) →
  opsR call pis s=some (e,s1)→SR E φ lm s a w→wpOpsIn (W ro) n E.P ops (Post E e s1) (List.range' i pis.length) a w:=by
 intro i pis
 induction pis generalizing i with
 | nil =>
  intro s s1 φ lm a w hro hl hall hr h
  simp only [opsR,Option.some.injEq,Prod.mk.injEq] at hr
  obtain ⟨rfl,rfl⟩:=hr
  simp only [List.length_nil,List.range'_zero,wpOpsIn]
  exact ⟨φ,lm,trivial,h⟩
 | cons pi pis ih =>
  intro s s1 φ lm a w hro hl hall hr h
  obtain ⟨o,ho,hc⟩:=hall 0 pi rfl
  rw [Nat.add_zero] at ho
  obtain ⟨hc1,hc2,hc3⟩:=compI_spec hc
  simp only [List.length_cons,List.range'_succ,wpOpsIn,ho]
  have hall':∀(j:Nat) pi,pis[j]?=some pi→∃o,ops[i+1+j]?=some o∧compI E.P L ops.toList o=some pi:=fun j q hq=>by
   have:=hall (j+1) q (by simpa using hq)
   rwa [show i+(j+1)=i+1+j by omega] at this
  have hl':i+1+pis.length=ops.size:=by simp only [List.length_cons] at hl; omega
  simp only [opsR] at hr
  split at hr
  ·rename_i hw
   have hwr:=wanted_run h hc hw
   simp only [Array.toArray_toList] at hwr
   rw [if_pos hwr]
   cases hop:opR call pi s with
   | none=>rw [hop] at hr; cases hr
   | some r =>
    obtain ⟨e1,s2⟩:=r
    rw [hop] at hr
    have hpi:pi=⟨o.dst,pi.op,pi.guard⟩:=by rw [←hc2]
    have hkeep:=opR_keeps hop
    rw [hpi] at hop
    have hG:=simOp (n:=n) hsim h hro hc1 hc3 hop
    refine wpIn_monoQ ?_ ?_ hG
    ·rintro a' w' ⟨he,φ',lm',_,hs⟩
     subst he
     exact ih (i+1) s2 s1 φ' lm' a' w' (by rw [hkeep.1]; exact hro) hl' hall' hr hs
    ·rintro e' a' w' ⟨v,v',φ',lm',he,he',hv,_,hs⟩
     subst he
     simp only [Option.some.injEq,Prod.mk.injEq] at hr
     obtain ⟨rfl,rfl⟩:=hr
     exact ⟨φ',lm',by subst he'; exact ⟨v',rfl,hv⟩,hs⟩
  ·rename_i hw
   have hwr:=wanted_run h hc hw
   simp only [Array.toArray_toList] at hwr
   rw [if_neg (by simp [hwr])]
   split at hr
   ·rename_i s2 hp
    rw [hc2] at hp
    refine ⟨fun _ _=>trivial,ih (i+1) s2 s1 φ lm _ w ?_ hl' hall' hr (h.put (.vr _ _ (VR.undef φ)) hp)⟩
    rw [←hro]
    cases hd:o.dst with
    | none=>rw [hd] at hp; simp only [put] at hp; cases hp; rfl
    | some d =>
     rw [hd] at hp; simp only [put] at hp
     split at hp
     ·cases hp; rfl
     ·cases hp
   ·cases hr
  ·cases hr

end
end Go.Pi
namespace Go.Pi
open Go

def DrawOk (E:Ent)(ro:Option Nat)(call:CallT):Prop :=
 ∀(L:List Tmp) (id:Nat) (ops:Array Oper) (pis:List PIns) (fs:List Flag) (n:Nat) (s s1:St) (e:Ex) (φ:Map) (lm:LMap) (a:Act) (w:World),compC E.P L (.region id ops true)=some (.dreg pis fs)→opsD call pis fs s=some (e,s1)→s.rnd=ro.isSome →
  SR E φ lm s a w→(Code.region id ops true).wpIn (W ro) n E.P (Post E e s1) a w

section
variable {E:Ent} {n:Nat} {φ:Map} {lm:LMap} {s:St} {a:Act} {w:World} {ro:Option Nat}
variable {L:List Tmp} {call:CallT} {e:Ex} {s1:St} {P:Program} {m:Nat}

theorem mapM_len {α β:Type}{g:α→Option β}{l:List α}{r:List β}(h:l.mapM g=some r):r.length=l.length:=(mapM_get h).1

theorem mapM_back {α β:Type}{g:α→Option β}{l:List α}{r:List β}(h:l.mapM g=some r)(j:Nat)(y:β)(hy:r[j]?=some y):∃x,l[j]?=some x∧g x=some y:=by
 obtain ⟨h1,h2⟩:=mapM_get h
 have hlt:j < l.length:=h1 ▸ (List.getElem?_eq_some_iff.1 hy).1
 obtain ⟨y',hy1,hy2⟩:=h2 j l[j] (List.getElem?_eq_getElem hlt)
 rw [hy] at hy2; cases hy2
 exact ⟨_,List.getElem?_eq_getElem hlt,hy1⟩

theorem opsR_keeps:∀{pis:List PIns} {s s1:St},opsR call pis s=some (e,s1)→s1.rnd=s.rnd:=by
 intro pis
 induction pis with
 | nil=>intro s s1 h; simp only [opsR,Option.some.injEq,Prod.mk.injEq] at h; rw [h.2]
 | cons pi pis ih =>
  intro s s1 h
  simp only [opsR] at h
  split at h
  ·cases hop:opR call pi s with
   | none=>rw [hop] at h; cases h
   | some r =>
    obtain ⟨e1,s2⟩:=r
    have hk:=(opR_keeps hop).1
    rw [hop] at h
    cases e1 with
    | normal=>rw [ih h,hk]
    | _=>simp only [Option.some.injEq,Prod.mk.injEq] at h; rw [←h.2,hk]
  ·split at h
   ·rename_i s2 hp
    rw [ih h]
    cases hd:pi.dst with
    | none=>rw [hd] at hp; simp only [put] at hp; cases hp; rfl
    | some d =>
     rw [hd] at hp; simp only [put] at hp
     split at hp
     ·cases hp; rfl
     ·cases hp
   ·cases h
  ·cases h

theorem opsD_keeps:∀{pis:List PIns} {fs:List Flag} {s s1:St},opsD call pis fs s=some (e,s1)→s1.rnd=s.rnd:=by
 intro pis
 induction pis with
 | nil=>intro fs s s1 h; simp only [opsD,Option.some.injEq,Prod.mk.injEq] at h; rw [h.2]
 | cons pi pis ih =>
  intro fs s s1 h
  cases fs with
  | nil=>simp [opsD] at h
  | cons f fs =>
   simp only [opsD] at h
   split at h
   ·split at h
    ·cases hop:opR call pi { s with lo:=s.H.length } with
     | none=>rw [hop] at h; cases h
     | some r =>
      obtain ⟨e1,s2⟩:=r
      have hk:=(opR_keeps hop).1
      rw [hop] at h
      cases e1 with
      | normal =>
       simp only at h
       split at h
       ·rw [ih h]; exact hk
       ·cases h
      | _ =>
       simp only at h
       split at h
       ·simp only [Option.some.injEq,Prod.mk.injEq] at h; rw [←h.2]; exact hk
       ·cases h
    ·cases h
   ·split at h
    ·rename_i s2 hp
     rw [ih h]
     cases hd:pi.dst with
     | none=>rw [hd] at hp; simp only [put] at hp; cases hp; rfl
     | some d =>
      rw [hd] at hp; simp only [put] at hp
      split at hp
      ·cases hp; rfl
      ·cases hp
    ·cases h
   ·cases h

theorem loopN_keeps {body:St→Option (Ex×St)}(hb:∀{s e s1},body s=some (e,s1)→s1.rnd=s.rnd):∀{m:Nat} {s s1:St},loopN body m s=some (e,s1)→s1.rnd=s.rnd:=by
 intro m
 induction m with
 | zero=>intro s s1 h; cases h
 | succ m ih =>
  intro s s1 h
  simp only [loopN] at h
  cases hbs:body s with
  | none=>rw [hbs] at h; cases h
  | some r =>
   obtain ⟨e1,s2⟩:=r
   have hk:=hb hbs
   rw [hbs] at h
   cases e1 with
   | normal=>rw [ih h,hk]
   | _=>simp only [Option.some.injEq,Prod.mk.injEq] at h; rw [←h.2,hk]

theorem codeR_keeps:∀(c:PCode) {s s1:St} {e:Ex},codeR call m c s=some (e,s1)→s1.rnd=s.rnd:=by
 intro c
 induction c with
 | skip=>intro s s1 e h; simp only [codeR,Option.some.injEq,Prod.mk.injEq] at h; rw [h.2]
 | reg ops=>intro s s1 e h; exact opsR_keeps h
 | dreg ops fs=>intro s s1 e h; exact opsD_keeps h
 | seq x y ihx ihy =>
  intro s s1 e h
  simp only [codeR] at h
  cases hx:codeR call m x s with
  | none=>rw [hx] at h; cases h
  | some r =>
   obtain ⟨e1,s2⟩:=r
   have hk:=ihx hx
   rw [hx] at h
   cases e1 with
   | normal=>rw [ihy h,hk]
   | _=>simp only [Option.some.injEq,Prod.mk.injEq] at h; rw [←h.2,hk]
 | cond c x y ihx ihy =>
  intro s s1 e h
  simp only [codeR] at h
  split at h
  ·exact ihx h
  ·exact ihy h
  ·cases h
 | blk id x ih =>
  intro s s1 e h
  simp only [codeR] at h
  cases hx:codeR call m x s with
  | none=>rw [hx] at h; cases h
  | some r =>
   obtain ⟨e1,s2⟩:=r
   have hk:=ih hx
   rw [hx] at h
   cases e1 with
   | exit i =>
    simp only at h
    split at h <;> (simp only [Option.some.injEq,Prod.mk.injEq] at h; rw [←h.2,hk])
   | _=>simp only [Option.some.injEq,Prod.mk.injEq] at h; rw [←h.2,hk]
 | loop x ih=>intro s s1 e h; exact loopN_keeps (fun h=>ih h) h
 | rf f ps as bd _ _ =>
  intro s s1 e h
  simp only [codeR] at h
  repeat' split at h
  all_goals first | (cases h; done) | (cases h; rfl)
 | exit id=>intro s s1 e h; simp only [codeR,Option.some.injEq,Prod.mk.injEq] at h; rw [h.2]
 | ret=>intro s s1 e h; simp only [codeR,Option.some.injEq,Prod.mk.injEq] at h; rw [h.2]

end
end Go.Pi
