/- Benches: the numbers that words are. -/
import Derived.Test.YtfndfpbdgjoilaaGreatDoorDK
set_option linter.all false
set_option maxRecDepth 100000
namespace Go.Pi.L.Ben
open Go Go.Pi Go.Pi.L Go.Pi.E Go.Pi.Ben BM Go.Pi.Q

theorem wrap32 {n:Nat}(h:n < 1000):IntKind.wrap .i32 ((n:Nat):Int)=((n:Nat):Int):=by unfold IntKind.wrap; simp [IntKind.bits,IntKind.signed]; omega
def Nw (n:Nat)(a:Option Addr):Prop:=a=none∨∃b off,a=some ⟨b,off,none⟩∧n≤b
theorem Nw.less {n m:Nat}{a:Option Addr}(h:Nw n a)(hm:m≤n):Nw m a:=h.imp id fun ⟨b,off,h1,h2⟩=>⟨b,off,h1,by omega⟩
theorem bld_nw {n0:Nat}{H:Heap}{k:Nat}{a:Option Addr}{l m:Nat}{c:List Value}(h:Bld n0 H k a l m c):Nw n0 a:=by
 rcases h.ok with ⟨h,_⟩ | ⟨b,f,h,_,h3,_⟩
 ·exact .inl h
 ·exact .inr ⟨b,0,h,h3⟩
def QSn {β:Type}(H:Heap)(k:Nat)(enc:β→List Value)(xs:List β)(o:Out):Prop:=∃a m H1 lo,o=⟨.ok (.slice a xs.length m),H1,lo⟩∧Up H H1∧H.length≤lo∧Sl H1 k enc a xs.length xs∧Nw H.length a
theorem gc_sln {β:Type}{H H1:Heap}{k m lo:Nat}{enc:β→List Value}{a:Option Addr}{l:Nat}{xs:List β}(hs:Sl H1 k enc a l xs)(hu:Up H H1)(h:H.length≤lo)(hn:Nw H.length a):QSn H k enc xs (gcR H (.ok (.slice a l m)) H1 lo):=by
 obtain rfl:=hs.len
 rw [gc_ite h]
 split
 ·rename_i hf; exact ⟨a,m,H,H.length,rfl,Up.refl H,Nat.le_refl _,hs.flat hf,hn⟩
 ·exact ⟨a,m,H1,lo,rfl,hu,h,hs,hn⟩
def QN (H:Heap)(xs:List (List UInt8))(o:Out):Prop :=
 match numsW xs with
 | some ns=>QSn H 1 encI ns o
 | none=>∃w,o=⟨.panic (.iface 142 (.agg #[.string w])),H,H.length⟩
theorem bad_rune {w:List UInt8}{g:Nat}{x:UInt8}(hx:w[g]?=some x)(hb:isDig x=false∨¬w.length≤2):∃c wd,Utf8.decode ⟨w.toArray⟩ g=(c,wd)∧(c < 48∨57 < c∨¬w.length≤2):=by
 obtain ⟨p,hp⟩:∃p,Utf8.decode ⟨w.toArray⟩ g=p:=⟨_,rfl⟩
 refine ⟨p.1,p.2,hp,?_⟩
 rcases hb with hb | hb
 ·rcases Nat.lt_or_ge x.toNat 128 with h | h
  ·have e:=dec_lo hx h
   rw [hp] at e
   have h2:¬(48≤x.toNat∧x.toNat≤57):=fun hh=>by rw [isDig_iff.2 hh] at hb; cases hb
   rw [e]
   simp only
   omega
  ·have e:=dec_hi hx h
   rw [hp] at e
   omega
 ·exact .inr (.inr hb)
set_option maxHeartbeats 4000000 in
theorem c130 {H:Heap}{a:Option Addr}{l kk:Nat}{xs:List (List UInt8)}(hs:Sl H 1 encS a l xs)(hl:l≤100000):∀H',Grow H H'→Yes (R (.func 130) [.slice a l kk] H') (QN H' xs):=by
 intro H' hg
 obtain ⟨K,ns,hK,hns,hgood,hend⟩:=numsW_cut xs
 have hlen:=hs.len
 refine run_y (pr 130) P130 (by simp [p130]) rfl ?_
 have l1:=hs.isLoc kk
 simp (maxDischargeDepth:=8) only [↓SD,SU,SV,SW,simprocAttr,Int.cast_ofNat_Int,small,resV, B130,R130,N130,b130, l1]
 refine loop_ind (G:=(Yes · (QN H' xs))) (fun j σ=>∃T S H3 al m lim,σ=⟨T,S,[],H3,lim,55,false⟩∧get T 3=.slice al j m∧get T 9=.slice a l kk∧get T 10=.int .i64 l∧get T 11=.int .i64 (j:Nat)∧(Bld H'.length H3 1 al j m (cells encI (ns.take j))∧Up H' H3∧H'.length≤lim)) (K) ?_ ?_ 0 _ (Nat.zero_le _) ⟨_,_,_,_,_,_,rfl,rfl,rfl,rfl,rfl,⟨Bld.nil _ _ _,Up.refl _,Nat.le_refl _⟩⟩
 ·rintro c' j s hj ⟨T,S,H3,al,m,lim,rfl,t3,t9,t10,t11,hp⟩ ih
  obtain ⟨hbd,hu,hlim⟩:=hp
  have ihO:=ih
  clear ih
  have hw:=wrap_succ j (by omega)
  have l8:isLoc (.slice al j m)=false:=hbd.isLoc _ _
  have hul:=hu.len
  have hjl:j < l:=by omega
  obtain ⟨w,z,hwj,hzj,hnw⟩:=hgood j hj
  obtain ⟨b1,o1,w',hwa,hw1,hat⟩:=hs.at encS_len (by decide) hjl
  rw [hwj] at hw1; cases hw1
  have fw:rdO (hcells H3 b1) (o1+j*1) none=some (.string ⟨w.toArray⟩):=At.v0 hat H3 (hg.trans hu.grow)
  have iaw:vv (.ia 1) [.slice a l kk,.int .i64 (j:Nat)]=some (.pointer (some ⟨b1,o1+j*1,none⟩)):=by rw [hwa]; exact vv_iaN 1 b1 o1 j _ _ _ hjl
  unfold numW at hnw
  split at hnw
  ·rename_i hc
   obtain ⟨c1,c2,c3,c4⟩:=hc
   cases hnw
   have sl0:=vv_slen' w
   obtain ⟨V,hV⟩:∃V,valD w 0=V:=⟨_,rfl⟩
   have hV9:V≤99:=by rw [←hV]; exact valD_le c2 c3
   have k126:R (.func 126) [.int .i64 ((V:Nat):Int)] (H3++[({ obj:=.iter ⟨w.toArray⟩ w.length }:Blk)])=some ⟨.ok (.string ⟨w.toArray⟩),H3++[({ obj:=.iter ⟨w.toArray⟩ w.length }:Blk)],(H3++[({ obj:=.iter ⟨w.toArray⟩ w.length }:Blk)]).length⟩:=by
    have h:=c126 (z:=((V:Nat):Int)) (by omega) (by omega) (H3++[({ obj:=.iter ⟨w.toArray⟩ w.length }:Blk)])
    have e:dgI ((V:Nat):Int)=w:=by rw [←hV]; exact c4
    rw [e] at h; exact h
   have sne:=vv_sne' w []
   rw [decide_eq_false c1] at sne
   have seq:=vv_seq' w w
   rw [decide_eq_true rfl] at seq
   have z2:(((w.length:Nat):Int)≤2)=True:=eq_true (by omega)
   rw [hV] at hzj
   simp (maxDischargeDepth:=8) only [↓SD,SU,SV,SW,simprocAttr,Int.cast_ofNat_Int,small,resV, q130x1,t3,t9,t10,t11, lt_nat,hjl,l1,l8,iaw,fw,g_rng,rng_s,ptrA]
   obtain ⟨j0,hj0⟩:∃j0,j0=j:=⟨_,rfl⟩
   subst hj0
   refine loop_ind (G:=(Yes · (QN H' xs))) (fun j σ=>∃T S pos lim2 V2,σ=⟨T,S,[],(H3++[({ obj:=.iter ⟨w.toArray⟩ pos }:Blk)]),lim2,55,false⟩∧get T 3=.slice al j0 m∧get T 5=.string ⟨w.toArray⟩∧get T 6=.int .i64 ((V2:Nat):Int)∧get T 9=.slice a l kk∧get T 10=.int .i64 l∧get T 11=.int .i64 (j0:Nat)∧get T 16=.pointer (some ⟨H3.length,0,none⟩)∧(pos=j∧V2=valD (w.take j) 0∧H'.length≤lim2)) (w.length) ?_ ?_ 0 _ (Nat.zero_le _) ⟨_,_,_,_,_,rfl,(by first | (simp [get_set,t3,t9,t10,t11]; done) | rfl),(by first | (simp [get_set,t3,t9,t10,t11]; done) | rfl),(by first | (simp [get_set,t3,t9,t10,t11]; done) | rfl),(by first | (simp [get_set,t3,t9,t10,t11]; done) | rfl),(by first | (simp [get_set,t3,t9,t10,t11]; done) | rfl),(by first | (simp [get_set,t3,t9,t10,t11]; done) | rfl),(by first | (simp [get_set,t3,t9,t10,t11]; done) | rfl),⟨(show 0=0 from rfl),(show 0=valD (w.take 0) 0 from rfl),by omega⟩⟩
   ·rintro c' j s hj ⟨T,S,pos,lim2,V2,rfl,t3,t5,t6,t9,t10,t11,t16,hp⟩ ih
    obtain ⟨rfl,hV2,hlim2⟩:=hp
    obtain ⟨x,hx⟩:∃x,w[pos]?=some x:=⟨_,List.getElem?_eq_getElem (by omega)⟩
    have hxd:isDig x=true:=List.all_eq_true.1 c3 x (List.mem_of_getElem? hx)
    rw [isDig_iff] at hxd
    have hdec:=dec_lo hx (by omega)
    have hps:pos < (⟨w.toArray⟩:ByteArray).size:=hj
    have hV2b:V2≤99:=by rw [hV2]; exact valD_le (by rw [List.length_take]; omega) (by rw [List.all_eq_true]; intro y hy; exact List.all_eq_true.1 c3 y (List.mem_of_mem_take hy))
    have hV3:valD (w.take (pos+1)) 0=10*V2+(x.toNat - 48):=by rw [take_get hx,valD_snoc,hV2]
    have y1:((48:Int)≤((x.toNat:Nat):Int))=True:=eq_true (by omega)
    have y1':(((x.toNat:Nat):Int)≥48)=True:=y1
    have y2:(((x.toNat:Nat):Int)≤57)=True:=eq_true (by omega)
    have k129:=c129t ⟨w.toArray⟩ (H3++[({ obj:=.iter ⟨w.toArray⟩ (pos+1) }:Blk)])
    have m1:IntKind.wrap .i64 (10*((V2:Nat):Int))=((10*V2:Nat):Int):=by rw [wrap_id _ (by omega) (by omega)]; omega
    have m2:IntKind.wrap .i32 (((x.toNat:Nat):Int) - 48)=((x.toNat - 48:Nat):Int):=by
     have e:((x.toNat:Nat):Int) - 48=((x.toNat - 48:Nat):Int):=by omega
     rw [e]; exact wrap32 (by omega)
    have m3:IntKind.wrap .i64 ((x.toNat - 48:Nat):Int)=((x.toNat - 48:Nat):Int):=wrapN (by omega)
    have m4:IntKind.wrap .i64 (((10*V2:Nat):Int)+((x.toNat - 48:Nat):Int))=((10*V2+(x.toNat - 48):Nat):Int):=by
     rw [←Int.natCast_add]; exact wrapN (by omega)
    have nok:∀(k:List It) T S lo d,nxtB (runL PP primsL) (fEnd PP primsL (runL PP primsL) p130 H') (some ⟨.iter ⟨w.toArray⟩ pos,true,true,none⟩) H3.length d k ⟨T,S,[],H3++[({ obj:=.iter ⟨w.toArray⟩ pos }:Blk)],lo,55,false⟩=nxt (runL PP primsL) (fEnd PP primsL (runL PP primsL) p130 H') (some (.tuple #[.bool true,goInt pos,.int .i32 ((x.toNat:Nat):Int)])) d k ⟨T,S,[],H3++[({ obj:=.iter ⟨w.toArray⟩ (pos+1) }:Blk)],min lo H3.length,55,false⟩:=fun k T S lo d=>by
     rw [nxt_ok _ _ _ _ _ _ _ _ _ _ _ hps,hdec,set_last]
    simp (maxDischargeDepth:=8) only [↓SD,SU,SV,SW,simprocAttr,Int.cast_ofNat_Int,small,resV, q130x0,t3,t5,t6,t9,t10,t11,t16, g_nxt,nxt_v,get_last,nok,y1,y1',y2,sl0,z2,k129,m1,m2,m3,m4,goInt]
    exact ih _ ⟨_,_,(pos+1),(_),(10*V2+(x.toNat - 48)),rfl,(by simp [get_set,t3] <;> omega),(by simp [get_set,t5] <;> omega),(by simp [get_set,t6] <;> omega),(by simp [get_set,t9] <;> omega),(by simp [get_set,t10] <;> omega),(by simp [get_set,t11] <;> omega),(by simp [get_set,t16] <;> omega),⟨rfl,hV3.symm,by omega⟩⟩
   ·rintro c' s ⟨T,S,pos,lim2,V2,rfl,t3,t5,t6,t9,t10,t11,t16,hp⟩
    obtain ⟨rfl,hV2,hlim2⟩:=hp
    rw [List.take_length,hV] at hV2
    subst hV2
    have hps:¬w.length < (⟨w.toArray⟩:ByteArray).size:=Nat.lt_irrefl _
    have nend:∀(k:List It) s d,nxtB (runL PP primsL) (fEnd PP primsL (runL PP primsL) p130 H') (some ⟨.iter ⟨w.toArray⟩ w.length,true,true,none⟩) H3.length d k s=nxt (runL PP primsL) (fEnd PP primsL (runL PP primsL) p130 H') (some (.tuple #[.bool false])) d k s:=fun k s d=>nxt_end _ _ _ _ hps
    have k129:=c129t ⟨w.toArray⟩ (H3++[({ obj:=.iter ⟨w.toArray⟩ w.length }:Blk)])
    have ui:Up H3 (H3++[({ obj:=.iter ⟨w.toArray⟩ w.length }:Blk)]):=(Up.refl _).app
    obtain ⟨Hi,hHi⟩:∃Hi,H3++[({ obj:=.iter ⟨w.toArray⟩ w.length }:Blk)]=Hi:=⟨_,rfl⟩; have gl:Hi[H3.length]?=some ⟨.iter ⟨w.toArray⟩ w.length,true,true,none⟩:=by rw [←hHi]; exact get_last
    rw [hHi] at ui k126 k129
    have hil:=ui.len
    obtain ⟨H6,p1,p2,p3,p4⟩:=(hbd.up ui).app (by decide) (by decide) (by omega) (by omega) [.int .i64 ((V2:Nat):Int)] rfl
    have u6:=p3.up (hbd.up ui) (hu.trans ui) (Nat.le_refl _)
    have hl6:=u6.len
    have hcl:cells encI (ns.take (j0+1))=cells encI (ns.take j0)++[.int .i64 ((V2:Nat):Int)]:=by rw [take_get hzj,cells_app]; rfl
    simp (maxDischargeDepth:=8) only [↓SD,SU,SV,SW,simprocAttr,Int.cast_ofNat_Int,small,resV, q130x0,t3,t5,t6,t9,t10,t11,t16, g_nxt,nxt_v,gl,nend,sne,hHi,k126,seq,k129,l8,p1,hw]
    exact ihO _ ⟨_,_,H6,some ⟨Hi.length,0,none⟩,1,_,rfl,by simp [get_set],by simp [get_set,t9],by simp [get_set,t10],by simp [get_set],by rw [hcl]; exact p2,u6,by omega⟩
  ·cases hnw
 ·rintro c' s ⟨T,S,H3,al,m,lim,rfl,t3,t9,t10,t11,hbd,hu,hlim⟩
  have l8:isLoc (.slice al K m)=false:=hbd.isLoc _ _
  have hul:=hu.len
  rw [List.take_of_length_le (by omega)] at hbd
  rcases hend with ⟨e1,e2⟩ | ⟨e1,w,hwK,hwn⟩
  ·have z0:(((K:Nat):Int) < ((l:Nat):Int))=False:=eq_false (by omega)
   simp (maxDischargeDepth:=8) only [↓SD,SU,SV,SW,simprocAttr,Int.cast_ofNat_Int,small,resV, q130x1,t3,t9,t10,t11,z0,l1,l8,R130,N130]
   rw [yes_some]
   unfold QN
   rw [e2]
   have hsx:=hbd.sl encI_len (by decide)
   rw [←hns] at hsx ⊢
   exact gc_sln hsx hu (by omega) (bld_nw hbd)
  ·have hKl:K < l:=by have:=(List.getElem?_eq_some_iff.1 hwK).1; omega
   have z0:(((K:Nat):Int) < ((l:Nat):Int))=True:=eq_true (by omega)
   obtain ⟨b1,o1,w',hwa,hw1,hat⟩:=hs.at encS_len (by decide) hKl
   rw [hwK] at hw1; cases hw1
   have fw:rdO (hcells H3 b1) (o1+K*1) none=some (.string ⟨w.toArray⟩):=At.v0 hat H3 (hg.trans hu.grow)
   have iaw:vv (.ia 1) [.slice a l kk,.int .i64 (K:Nat)]=some (.pointer (some ⟨b1,o1+K*1,none⟩)):=by rw [hwa]; exact vv_iaN 1 b1 o1 K _ _ _ hKl
   obtain ⟨g,hgl,hgood2,hge⟩:=good_len w
   have sl0:=vv_slen' w
   have fin:∀H5 lo,H'.length≤lo→Yes (some (gcR H' (.panic (.iface 142 (.agg #[.string ⟨w.toArray⟩]))) H5 lo)) (QN H' xs):=fun H5 lo h=>by
    rw [yes_some]
    unfold QN
    rw [e1]
    exact ⟨⟨w.toArray⟩,by simp [gcR,flat]; omega⟩
   simp (maxDischargeDepth:=8) only [↓SD,SU,SV,SW,simprocAttr,Int.cast_ofNat_Int,small,resV, q130x1,t3,t9,t10,t11,z0,l1,l8,iaw,fw,g_rng,rng_s,ptrA]
   refine loop_ind (G:=(Yes · (QN H' xs))) (fun j σ=>∃T S pos lim2 V2,σ=⟨T,S,[],(H3++[({ obj:=.iter ⟨w.toArray⟩ pos }:Blk)]),lim2,55,false⟩∧get T 5=.string ⟨w.toArray⟩∧get T 6=.int .i64 ((V2:Nat):Int)∧get T 16=.pointer (some ⟨H3.length,0,none⟩)∧(pos=j∧V2=valD (w.take j) 0∧H'.length≤lim2)) (g) ?_ ?_ 0 _ (Nat.zero_le _) ⟨_,_,_,_,_,rfl,(by first | (simp [get_set,t3,t9,t10,t11]; done) | rfl),(by first | (simp [get_set,t3,t9,t10,t11]; done) | rfl),(by first | (simp [get_set,t3,t9,t10,t11]; done) | rfl),⟨(show 0=0 from rfl),(show 0=valD (w.take 0) 0 from rfl),by omega⟩⟩
   ·rintro c' j s hj ⟨T,S,pos,lim2,V2,rfl,t5,t6,t16,hp⟩ ih
    obtain ⟨rfl,hV2,hlim2⟩:=hp
    obtain ⟨x,hx,hxd,c2⟩:=hgood2 pos hj
    rw [isDig_iff] at hxd
    have z2:(((w.length:Nat):Int)≤2)=True:=eq_true (by omega)
    have hdec:=dec_lo hx (by omega)
    have hps:pos < (⟨w.toArray⟩:ByteArray).size:=(List.getElem?_eq_some_iff.1 hx).1
    have hV2b:V2≤99:=by
     rw [hV2]
     refine valD_le (by rw [List.length_take]; omega) ?_
     rw [List.all_eq_true]
     intro y hy
     obtain ⟨i,hi,e⟩:=List.mem_iff_getElem.1 hy
     rw [List.length_take] at hi
     obtain ⟨y',hy',hyd,_⟩:=hgood2 i (by omega)
     rw [List.getElem_take] at e
     rw [List.getElem?_eq_getElem (by omega),e] at hy'
     cases hy'; exact hyd
    have hV3:valD (w.take (pos+1)) 0=10*V2+(x.toNat - 48):=by rw [take_get hx,valD_snoc,hV2]
    have y1:((48:Int)≤((x.toNat:Nat):Int))=True:=eq_true (by omega)
    have y1':(((x.toNat:Nat):Int)≥48)=True:=y1
    have y2:(((x.toNat:Nat):Int)≤57)=True:=eq_true (by omega)
    have k129:=c129t ⟨w.toArray⟩ (H3++[({ obj:=.iter ⟨w.toArray⟩ (pos+1) }:Blk)])
    have m1:IntKind.wrap .i64 (10*((V2:Nat):Int))=((10*V2:Nat):Int):=by rw [wrap_id _ (by omega) (by omega)]; omega
    have m2:IntKind.wrap .i32 (((x.toNat:Nat):Int) - 48)=((x.toNat - 48:Nat):Int):=by
     have e:((x.toNat:Nat):Int) - 48=((x.toNat - 48:Nat):Int):=by omega
     rw [e]; exact wrap32 (by omega)
    have m3:IntKind.wrap .i64 ((x.toNat - 48:Nat):Int)=((x.toNat - 48:Nat):Int):=wrapN (by omega)
    have m4:IntKind.wrap .i64 (((10*V2:Nat):Int)+((x.toNat - 48:Nat):Int))=((10*V2+(x.toNat - 48):Nat):Int):=by
     rw [←Int.natCast_add]; exact wrapN (by omega)
    have nok:∀(k:List It) T S lo d,nxtB (runL PP primsL) (fEnd PP primsL (runL PP primsL) p130 H') (some ⟨.iter ⟨w.toArray⟩ pos,true,true,none⟩) H3.length d k ⟨T,S,[],H3++[({ obj:=.iter ⟨w.toArray⟩ pos }:Blk)],lo,55,false⟩=nxt (runL PP primsL) (fEnd PP primsL (runL PP primsL) p130 H') (some (.tuple #[.bool true,goInt pos,.int .i32 ((x.toNat:Nat):Int)])) d k ⟨T,S,[],H3++[({ obj:=.iter ⟨w.toArray⟩ (pos+1) }:Blk)],min lo H3.length,55,false⟩:=fun k T S lo d=>by
     rw [nxt_ok _ _ _ _ _ _ _ _ _ _ _ hps,hdec,set_last]
    simp (maxDischargeDepth:=8) only [↓SD,SU,SV,SW,simprocAttr,Int.cast_ofNat_Int,small,resV, q130x0,t5,t6,t16, g_nxt,nxt_v,get_last,nok,y1,y1',y2,sl0,z2,k129,m1,m2,m3,m4,goInt]
    exact ih _ ⟨_,_,(pos+1),(_),(10*V2+(x.toNat - 48)),rfl,(by simp [get_set,t5] <;> omega),(by simp [get_set,t6] <;> omega),(by simp [get_set,t16] <;> omega),⟨rfl,hV3.symm,by omega⟩⟩
   ·rintro c' s ⟨T,S,pos,lim2,V2,rfl,t5,t6,t16,hp⟩
    obtain ⟨rfl,hV2,hlim2⟩:=hp
    rcases hge with ⟨f1,f2,f3⟩ | ⟨_,x,hx,hxb⟩
    ·subst f1
     rw [List.take_length] at hV2
     have hps:¬w.length < (⟨w.toArray⟩:ByteArray).size:=Nat.lt_irrefl _
     have nend:∀(k:List It) s d,nxtB (runL PP primsL) (fEnd PP primsL (runL PP primsL) p130 H') (some ⟨.iter ⟨w.toArray⟩ w.length,true,true,none⟩) H3.length d k s=nxt (runL PP primsL) (fEnd PP primsL (runL PP primsL) p130 H') (some (.tuple #[.bool false])) d k s:=fun k s d=>nxt_end _ _ _ _ hps
     have k129:=c129f ⟨w.toArray⟩ (H3++[({ obj:=.iter ⟨w.toArray⟩ w.length }:Blk)])
     have ui:Up H3 (H3++[({ obj:=.iter ⟨w.toArray⟩ w.length }:Blk)]):=(Up.refl _).app
     obtain ⟨Hi,hHi⟩:∃Hi,H3++[({ obj:=.iter ⟨w.toArray⟩ w.length }:Blk)]=Hi:=⟨_,rfl⟩; have gl:Hi[H3.length]?=some ⟨.iter ⟨w.toArray⟩ w.length,true,true,none⟩:=by rw [←hHi]; exact get_last
     rw [hHi] at ui k129
     have hil:=ui.len
     have sne:=vv_sne' w []
     by_cases hw0:w=[]
     ·rw [decide_eq_true hw0] at sne
      simp (maxDischargeDepth:=8) only [↓SD,SU,SV,SW,simprocAttr,Int.cast_ofNat_Int,small,resV, q130x0,t5,t6,t16, g_nxt,nxt_v,gl,nend,sne,hHi,k129]
      exact fin _ _ (by omega)
     ·have c2:w.length≤2:=f3.resolve_left hw0
      have hVb:V2≤99:=by rw [hV2]; exact valD_le c2 f2
      have hne:dig V2≠w:=fun e=>by
       unfold numW at hwn
       rw [if_pos ⟨hw0,c2,f2,by rw [←hV2]; exact e⟩] at hwn
       cases hwn
      have k126:R (.func 126) [.int .i64 ((V2:Nat):Int)] Hi=some ⟨.ok (.string ⟨(dig V2).toArray⟩),Hi,Hi.length⟩:=c126 (by omega) (by omega) Hi
      have seq:=vv_seq' (dig V2) w
      rw [decide_eq_false hne] at seq
      rw [decide_eq_false hw0] at sne
      simp (maxDischargeDepth:=8) only [↓SD,SU,SV,SW,simprocAttr,Int.cast_ofNat_Int,small,resV, q130x0,t5,t6,t16, g_nxt,nxt_v,gl,nend,sne,hHi,k126,seq,k129]
      exact fin _ _ (by omega)
    ·obtain ⟨c,wd,hdec,hcb⟩:=bad_rune hx hxb
     have hps:pos < (⟨w.toArray⟩:ByteArray).size:=(List.getElem?_eq_some_iff.1 hx).1
     have nok:∀(k:List It) T S lo d,nxtB (runL PP primsL) (fEnd PP primsL (runL PP primsL) p130 H') (some ⟨.iter ⟨w.toArray⟩ pos,true,true,none⟩) H3.length d k ⟨T,S,[],H3++[({ obj:=.iter ⟨w.toArray⟩ pos }:Blk)],lo,55,false⟩=nxt (runL PP primsL) (fEnd PP primsL (runL PP primsL) p130 H') (some (.tuple #[.bool true,goInt pos,.int .i32 ((c:Nat):Int)])) d k ⟨T,S,[],H3++[({ obj:=.iter ⟨w.toArray⟩ (pos+wd) }:Blk)],min lo H3.length,55,false⟩:=fun k T S lo d=>by
      rw [nxt_ok _ _ _ _ _ _ _ _ _ _ _ hps,hdec,set_last]
     have k129:=c129f ⟨w.toArray⟩ (H3++[({ obj:=.iter ⟨w.toArray⟩ (pos+wd) }:Blk)])
     obtain ⟨Hi,hHi⟩:∃Hi,H3++[({ obj:=.iter ⟨w.toArray⟩ (pos+wd) }:Blk)]=Hi:=⟨_,rfl⟩
     have hil:Hi.length=H3.length+1:=by rw [←hHi]; simp
     rw [hHi] at k129
     by_cases h1:c < 48
     ·have y1:((48:Int)≤((c:Nat):Int))=False:=eq_false (by omega)
      have y1':(((c:Nat):Int)≥48)=False:=y1
      simp (maxDischargeDepth:=8) only [↓SD,SU,SV,SW,simprocAttr,Int.cast_ofNat_Int,small,resV, q130x0,t5,t6,t16, g_nxt,nxt_v,get_last,nok,y1,y1',hHi,k129,goInt]
      exact fin _ _ (by omega)
     ·have y1:((48:Int)≤((c:Nat):Int))=True:=eq_true (by omega)
      have y1':(((c:Nat):Int)≥48)=True:=y1
      by_cases h2:57 < c
      ·have y2:(((c:Nat):Int)≤57)=False:=eq_false (by omega)
       simp (maxDischargeDepth:=8) only [↓SD,SU,SV,SW,simprocAttr,Int.cast_ofNat_Int,small,resV, q130x0,t5,t6,t16, g_nxt,nxt_v,get_last,nok,y1,y1',y2,hHi,k129,goInt]
       exact fin _ _ (by omega)
      ·have y2:(((c:Nat):Int)≤57)=True:=eq_true (by omega)
       have z2:(((w.length:Nat):Int)≤2)=False:=eq_false (by omega)
       simp (maxDischargeDepth:=8) only [↓SD,SU,SV,SW,simprocAttr,Int.cast_ofNat_Int,small,resV, q130x0,t5,t6,t16, g_nxt,nxt_v,get_last,nok,y1,y1',y2,sl0,z2,hHi,k129,goInt]
       exact fin _ _ (by omega)
end Go.Pi.L.Ben
set_option maxRecDepth 100000
namespace Go.Pi.L.Ben
open Go Go.Pi Go.Pi.L Go.Pi.E Go.Pi.Ben BM Go.Pi.Q

theorem numW_b {w:List UInt8}{z:Int}(h:numW w=some z):0≤z∧z≤99:=by
 unfold numW at h
 split at h
 ·rename_i hc
  cases h
  have:=valD_le hc.2.1 hc.2.2.1
  omega
 ·cases h
theorem numsW_b {xs:List (List UInt8)}{ns:List Int}(h:numsW xs=some ns):ns.length=xs.length∧∀z∈ns,0≤z∧z≤99:=by
 obtain ⟨K,ms,a1,a2,a3,a4⟩:=numsW_cut xs
 rcases a4 with ⟨b1,b2⟩ | ⟨b1,_⟩
 ·rw [b2] at h; cases h
  refine ⟨by omega,fun z hz=>?_⟩
  obtain ⟨i,hi,e⟩:=List.mem_iff_getElem.1 hz
  obtain ⟨w,z',c1,c2,c3⟩:=a3 i (by omega)
  rw [List.getElem?_eq_getElem hi,e] at c2
  cases c2; exact numW_b c3
 ·rw [b1] at h; cases h
def strokeW (w:List (List UInt8))(l:List Int)(nd:List Int):Stroke:=⟨l.getD 0 0,decide (w.getD 0 []=wRound),l.getD 1 0,l.getD 2 0,nd⟩
def needW (x:List UInt8):Option (List Int):=if x=[45] then some [] else numsW (spl 44 x)
def rowP (b:Bench)(r:List UInt8):Option Bench :=
 if (spl 32 r).getD 0 []=wBoard then
  (if (spl 32 r).length=2 then (numsW ((spl 32 r).drop 1)).map fun ns=>⟨b.app,b.boards++ns,b.strokes⟩ else none)
 else
  (if (spl 32 r).length=5 then
   (match numsW (((spl 32 r).drop 1).take 3),needW ((spl 32 r).getD 4 []) with
    | some l,some nd=>some ⟨b.app,b.boards,b.strokes++[strokeW (spl 32 r) l nd]⟩
    | _,_=>none)
  else none)
def rowsP (t:List UInt8):List (List UInt8):=((spl 10 t).drop 1).take ((spl 10 t).length - 3)
def foldP (b:Bench)(R:List (List UInt8)):Option Bench:=R.foldlM rowP b
def parseT (o:Option Bench)(t:List UInt8):Option Bench:=match o with | some b=>if textT b=t then some b else none | none=>none
def parseQ (o:Option (List Int))(R:List (List UInt8))(t:List UInt8):Option Bench:=match o with | some [a]=>parseT (foldP ⟨a,[],[]⟩ R) t | _=>none
def parseP (t:List UInt8):Option Bench :=
 if 3≤(spl 10 t).length then parseQ (numsW ((spl 32 ((spl 10 t).getD 0 [])).drop 1)) (rowsP t) t else none
theorem foldP_snoc (b:Bench)(R:List (List UInt8))(r:List UInt8):foldP b (R++[r])=(foldP b R).bind fun b'=>rowP b' r:=by
 unfold foldP
 rw [List.foldlM_append]
 cases R.foldlM rowP b with
 | none=>rfl
 | some b'=>show (List.foldlM rowP b' [r])=_; simp [List.foldlM]
theorem fold_cut (b0:Bench):∀R:List (List UInt8),∃K,K≤R.length∧(∀j,j≤K→∃b,foldP b0 (R.take j)=some b)∧(K=R.length∨∃b r,R[K]?=some r∧foldP b0 (R.take K)=some b∧rowP b r=none∧foldP b0 R=none):=by
 intro R
 have key:∀n,n≤R.length→(∀j,j≤n→∃b,foldP b0 (R.take j)=some b)∨∃K b r,K < n∧(∀j,j≤K→∃b,foldP b0 (R.take j)=some b)∧R[K]?=some r∧foldP b0 (R.take K)=some b∧rowP b r=none:=by
  intro n
  induction n with
  | zero=>intro _; exact .inl fun j hj=>⟨b0,(show j=0 by omega) ▸ (by simp [foldP])⟩
  | succ n ih =>
   intro hn
   rcases ih (by omega) with h | ⟨K,b,r,h1,h2,h3,h4,h5⟩
   ·obtain ⟨b,hb⟩:=h n (Nat.le_refl _)
    have hr:R[n]?=some R[n]:=List.getElem?_eq_getElem (by omega)
    cases hrow:rowP b R[n] with
    | none=>exact .inr ⟨n,b,R[n],by omega,h,hr,hb,hrow⟩
    | some b' =>
     refine .inl fun j hj=>?_
     rcases Nat.lt_or_ge j (n+1) with h' | h'
     ·exact h j (by omega)
     ·obtain rfl:j=n+1:=by omega
      exact ⟨b',by rw [take_get hr,foldP_snoc,hb]; exact hrow⟩
   ·exact .inr ⟨K,b,r,by omega,h2,h3,h4,h5⟩
 rcases key R.length (Nat.le_refl _) with h | ⟨K,b,r,h1,h2,h3,h4,h5⟩
 ·exact ⟨R.length,Nat.le_refl _,h,.inl rfl⟩
 ·refine ⟨K,by omega,h2,.inr ⟨b,r,h3,h4,h5,?_⟩⟩
  have e:R=R.take K++r :: R.drop (K+1):=by
   have:=take_drop_step (f:=0) h3 (Nat.zero_le _)
   simpa using this
  rw [e]
  unfold foldP at h4 ⊢
  rw [List.foldlM_append,h4]
  show List.foldlM rowP b (r :: R.drop (K+1))=none
  rw [List.foldlM_cons,h5]; rfl
structure NuP (b:Bench)(j:Nat):Prop where
 a0:0≤b.app
 a9:b.app≤99
 bo:∀z∈b.boards,0≤z∧z≤99
 st:∀s∈b.strokes,NuS s
 ln:b.boards.length+b.strokes.length=j
theorem NuP.nub {b:Bench}{j:Nat}(h:NuP b j)(hj:j≤300):NuB b:=by
 have:=h.ln
 exact ⟨h.a0,h.a9,⟨h.bo,by omega⟩,h.st,by omega⟩
theorem getD_b {l:List Int}(h:∀z∈l,0≤z∧z≤99)(i:Nat):0≤l.getD i 0∧l.getD i 0≤99:=by
 rw [List.getD_eq_getElem?_getD]
 cases e:l[i]? with
 | none=>simp
 | some z=>exact h z (List.mem_of_getElem? e)
theorem rowP_nu {b b':Bench}{j:Nat}{r:List UInt8}(hb:NuP b j)(hr:r.length≤290)(h:rowP b r=some b'):NuP b' (j+1):=by
 have hln:=hb.ln
 unfold rowP at h
 split at h
 ·split at h
  ·rename_i h2
   rw [Option.map_eq_some_iff] at h
   obtain ⟨ns,hn,rfl⟩:=h
   obtain ⟨n1,n2⟩:=numsW_b hn
   rw [List.length_drop] at n1
   refine ⟨hb.a0,hb.a9,fun z hz=>?_,hb.st,by simp only [List.length_append]; omega⟩
   rcases List.mem_append.1 hz with hz | hz
   ·exact hb.bo z hz
   ·exact n2 z hz
  ·cases h
 ·split at h
  ·split at h
   ·rename_i l nd hl hnd
    cases h
    obtain ⟨m1,m2⟩:=numsW_b hl
    have hnd':Nn nd:=by
     unfold needW at hnd
     split at hnd
     ·cases hnd; exact ⟨fun z hz=>(by cases hz),by simp⟩
     ·obtain ⟨q1,q2⟩:=numsW_b hnd
      refine ⟨q2,?_⟩
      rw [q1,spl_len]
      have h1:=List.count_le_length (a:=44) (l:=(spl 32 r).getD 4 [])
      have h2:((spl 32 r).getD 4 []).length≤r.length:=by
       rw [List.getD_eq_getElem?_getD]
       cases e:(spl 32 r)[4]? with
       | none=>simp
       | some p=>exact (spl_parts r).2 p (List.mem_of_getElem? e)
      omega
    refine ⟨hb.a0,hb.a9,hb.bo,fun s hs=>?_,by simp only [List.length_append,List.length_singleton]; omega⟩
    rcases List.mem_append.1 hs with hs | hs
    ·exact hb.st s hs
    ·rw [List.mem_singleton.1 hs]
     unfold strokeW
     exact ⟨(getD_b m2 0).1,(getD_b m2 0).2,(getD_b m2 1).1,(getD_b m2 1).2,(getD_b m2 2).1,(getD_b m2 2).2,hnd'⟩
   ·cases h
  ·cases h
end Go.Pi.L.Ben
