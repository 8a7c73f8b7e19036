/- Benches: the numbers that words are. -/
import Derived.Test.YtfndfpbdgjoilaaGreatDoorDK
set_option linter.all false
set_option maxRecDepth 100000
namespace Go.Pi.L.Ben
open Go Go.Pi Go.Pi.L Go.Pi.E Go.Pi.Ben BM Go.Pi.Q

theorem wrap32 {n:Nat}(h:n < 1000):IntKind.wrap .i32 ((n:Nat):Int)=((n:Nat):Int):=by unfold IntKind.wrap; simp [IntKind.bits,IntKind.signed]; omega
def Nw (n:Nat)(a:Option Addr):Prop:=a=none∨∃b off,a=some ⟨b,off,none⟩∧n≤b
theorem Nw.less {n m:Nat}{a:Option Addr}(h:Nw n a)(hm:m≤n):Nw m a:=h.imp id fun ⟨b,off,h1,h2⟩=>⟨b,off,h1,by omega⟩
theorem bld_nw {n0:Nat}{H:Heap}{k:Nat}{a:Option Addr}{l m:Nat}{c:List Value}(h:Bld n0 H k a l m c):Nw n0 a:=by
 rcases h.ok with ⟨h,_⟩ | ⟨b,f,h,_,h3,_⟩
 ·exact .inl h
 ·exact .inr ⟨b,0,h,h3⟩
def QSn {β:Type}(H:Heap)(k:Nat)(enc:β→List Value)(xs:List β)(o:Out):Prop:=∃a m H1 lo,o=⟨.ok (.slice a xs.length m),H1,lo⟩∧Up H H1∧H.length≤lo∧Sl H1 k enc a xs.length xs∧Nw H.length a
theorem gc_sln {β:Type}{H H1:Heap}{k m lo:Nat}{enc:β→List Value}{a:Option Addr}{l:Nat}{xs:List β}(hs:Sl H1 k enc a l xs)(hu:Up H H1)(h:H.length≤lo)(hn:Nw H.length a):QSn H k enc xs (gcR H (.ok (.slice a l m)) H1 lo):=by
 obtain rfl:=hs.len
 rw [gc_ite h]
 split
 ·rename_i hf; exact ⟨a,m,H,H.length,rfl,Up.refl H,Nat.le_refl _,hs.flat hf,hn⟩
 ·exact ⟨a,m,H1,lo,rfl,hu,h,hs,hn⟩
def QN (H:Heap)(xs:List (List UInt8))(o:Out):Prop :=
 match numsW xs with
 | some ns=>QSn H 1 encI ns o
 | none=>∃w,o=⟨.panic (.iface 142 (.agg #[.string w])),H,H.length⟩
theorem bad_rune {w:List UInt8}{g:Nat}{x:UInt8}(hx:w[g]?=some x)(hb:isDig x=false∨¬w.length≤2):∃c wd,Utf8.decode ⟨w.toArray⟩ g=(c,wd)∧(c < 48∨57 < c∨¬w.length≤2):=by
 obtain ⟨p,hp⟩:∃p,Utf8.decode ⟨w.toArray⟩ g=p:=⟨_,rfl⟩
 refine ⟨p.1,p.2,hp,?_⟩
 rcases hb with hb | hb
 ·rcases Nat.lt_or_ge x.toNat 128 with h | h
  ·have e:=dec_lo hx h
   rw [hp] at e
   have h2:¬(48≤x.toNat∧x.toNat≤57):=fun hh=>by rw [isDig_iff.2 hh] at hb; cases hb
   rw [e]
   simp only
   omega
  ·have e:=dec_hi hx h
   rw [hp] at e
   omega
 ·exact .inr (.inr hb)
set_option maxHeartbeats 4000000 in
theorem c130 {H:Heap}{a:Option Addr}{l kk:Nat}{xs:List (List UInt8)}(hs:Sl H 1 encS a l xs)(hl:l≤100000):∀H',Grow H H'→Yes (R (.func 130) [.slice a l kk] H') (QN H' xs):=by
 intro H' hg
 obtain ⟨K,ns,hK,hns,hgood,hend⟩:=numsW_cut xs
 have hlen:=hs.len
 refine run_y (pr 130) P130 (by simp [p130]) rfl ?_
 have l1:=hs.isLoc kk
 simp (maxDischargeDepth:=8) only [↓SD,SU,SV,SW,simprocAttr,Int.cast_ofNat_Int,small,resV, B130,R130,N130,b130, l1]
 refine loop_ind (G:=(Yes · (QN H' xs))) (fun j σ=>∃T S H3 al m lim,σ=⟨T,S,[],H3,lim,55,false⟩∧get T 3=.slice al j m∧get T 9=.slice a l kk∧get T 10=.int .i64 l∧get T 11=.int .i64 (j:Nat)∧(Bld H'.length H3 1 al j m (cells encI (ns.take j))∧Up H' H3∧H'.length≤lim)) (K) ?_ ?_ 0 _ (Nat.zero_le _) ⟨_,_,_,_,_,_,rfl,rfl,rfl,rfl,rfl,⟨Bld.nil _ _ _,Up.refl _,Nat.le_refl _⟩⟩
 ·rintro c' j s hj ⟨T,S,H3,al,m,lim,rfl,t3,t9,t10,t11,hp⟩ ih
  obtain ⟨hbd,hu,hlim⟩:=hp
  have ihO:=ih
  clear ih
  have hw:=wrap_succ j (by omega)
  have l8:isLoc (.slice al j m)=false:=hbd.isLoc _ _
  have hul:=hu.len
  have hjl:j < l:=by omega
  obtain ⟨w,z,hwj,hzj,hnw⟩:=hgood j hj
  obtain ⟨b1,o1,w',hwa,hw1,hat⟩:=hs.at encS_len (by decide) hjl
  rw [hwj] at hw1; cases hw1
  have fw:rdO (hcells H3 b1) (o1+j*1) none=some (.string ⟨w.toArray⟩):=At.v0 hat H3 (hg.trans hu.grow)
  have iaw:vv (.ia 1) [.slice a l kk,.int .i64 (j:Nat)]=some (.pointer (some ⟨b1,o1+j*1,none⟩)):=by rw [hwa]; exact vv_iaN 1 b1 o1 j _ _ _ hjl
  unfold numW at hnw
  split at hnw
  ·rename_i hc
   obtain ⟨c1,c2,c3,c4⟩:=hc
   cases hnw
   have sl0:=vv_slen' w
   obtain ⟨V,hV⟩:∃V,valD w 0=V:=⟨_,rfl⟩
   have hV9:V≤99:=by rw [←hV]; exact valD_le c2 c3
   have k126:R (.func 126) [.int .i64 ((V:Nat):Int)] (H3++[({ obj:=.iter ⟨w.toArray⟩ w.length }:Blk)])=some ⟨.ok (.string ⟨w.toArray⟩),H3++[({ obj:=.iter ⟨w.toArray⟩ w.length }:Blk)],(H3++[({ obj:=.iter ⟨w.toArray⟩ w.length }:Blk)]).length⟩:=by
    have h:=c126 (z:=((V:Nat):Int)) (by omega) (by omega) (H3++[({ obj:=.iter ⟨w.toArray⟩ w.length }:Blk)])
    have e:dgI ((V:Nat):Int)=w:=by rw [←hV]; exact c4
    rw [e] at h; exact h
   have sne:=vv_sne' w []
   rw [decide_eq_false c1] at sne
   have seq:=vv_seq' w w
   rw [decide_eq_true rfl] at seq
   have z2:(((w.length:Nat):Int)≤2)=True:=eq_true (by omega)
   rw [hV] at hzj
   simp (maxDischargeDepth:=8) only [↓SD,SU,SV,SW,simprocAttr,Int.cast_ofNat_Int,small,resV, q130x1,t3,t9,t10,t11, lt_nat,hjl,l1,l8,iaw,fw,g_rng,rng_s,ptrA]
   obtain ⟨j0,hj0⟩:∃j0,j0=j:=⟨_,rfl⟩
   subst hj0
   refine loop_ind (G:=(Yes · (QN H' xs))) (fun j σ=>∃T S pos lim2 V2,σ=⟨T,S,[],(H3++[({ obj:=.iter ⟨w.toArray⟩ pos }:Blk)]),lim2,55,false⟩∧get T 3=.slice al j0 m∧get T 5=.string ⟨w.toArray⟩∧get T 6=.int .i64 ((V2:Nat):Int)∧get T 9=.slice a l kk∧get T 10=.int .i64 l∧get T 11=.int .i64 (j0:Nat)∧get T 16=.pointer (some ⟨H3.length,0,none⟩)∧(pos=j∧V2=valD (w.take j) 0∧H'.length≤lim2)) (w.length) ?_ ?_ 0 _ (Nat.zero_le _) ⟨_,_,_,_,_,rfl,(by first | (simp [get_set,t3,t9,t10,t11]; done) | rfl),(by first | (simp [get_set,t3,t9,t10,t11]; done) | rfl),(by first | (simp [get_set,t3,t9,t10,t11]; done) | rfl),(by first | (simp [get_set,t3,t9,t10,t11]; done) | rfl),(by first | (simp [get_set,t3,t9,t10,t11]; done) | rfl),(by first | (simp [get_set,t3,t9,t10,t11]; done) | rfl),(by first | (simp [get_set,t3,t9,t10,t11]; done) | rfl),⟨(show 0=0 from rfl),(show 0=valD (w.take 0) 0 from rfl),by omega⟩⟩
   ·rintro c' j s hj ⟨T,S,pos,lim2,V2,rfl,t3,t5,t6,t9,t10,t11,t16,hp⟩ ih
    obtain ⟨rfl,hV2,hlim2⟩:=hp
    obtain ⟨x,hx⟩:∃x,w[pos]?=some x:=⟨_,List.getElem?_eq_getElem (by omega)⟩
    have hxd:isDig x=true:=List.all_eq_true.1 c3 x (List.mem_of_getElem? hx)
    rw [isDig_iff] at hxd
    have hdec:=dec_lo hx (by omega)
    have hps:pos < (⟨w.toArray⟩:ByteArray).size:=hj
    have hV2b:V2≤99:=by rw [hV2]; exact valD_le (by rw [List.length_take]; omega) (by rw [List.all_eq_true]; intro y hy; exact List.all_eq_true.1 c3 y (List.mem_of_mem_take hy))
    have hV3:valD (w.take (pos+1)) 0=10*V2+(x.toNat - 48):=by rw [take_get hx,valD_snoc,hV2]
    have y1:((48:Int)≤((x.toNat:Nat):Int))=True:=eq_true (by omega)
    have y1':(((x.toNat:Nat):Int)≥48)=True:=y1
    have y2:(((x.toNat:Nat):Int)≤57)=True:=eq_true (by omega)
    have k129:=c129t ⟨w.toArray⟩ (H3++[({ obj:=.iter ⟨w.toArray⟩ (pos+1) }:Blk)])
    have m1:IntKind.wrap .i64 (10*((V2:Nat):Int))=((10*V2:Nat):Int):=by rw [wrap_id _ (by omega) (by omega)]; omega
    have m2:IntKind.wrap .i32 (((x.toNat:Nat):Int) - 48)=((x.toNat - 48:Nat):Int):=by
     have e:((x.toNat:Nat):Int) - 48=((x.toNat - 48:Nat):Int):=by omega
     rw [e]; exact wrap32 (by omega)
    have m3:IntKind.wrap .i64 ((x.toNat - 48:Nat):Int)=((x.toNat - 48:Nat):Int):=wrapN (by omega)
    have m4:IntKind.wrap .i64 (((10*V2:Nat):Int)+((x.toNat - 48:Nat):Int))=((10*V2+(x.toNat - 48):Nat):Int):=by
     rw [←Int.natCast_add]; exact wrapN (by omega)
    have nok:∀(k:List It) T S lo d,nxtB (runL PP primsL) (fEnd PP primsL (runL PP primsL) p130 H') (some ⟨.iter ⟨w.toArray⟩ pos,true,true,none⟩) H3.length d k ⟨T,S,[],H3++[({ obj:=.iter ⟨w.toArray⟩ pos }:Blk)],lo,55,false⟩=nxt (runL PP primsL) (fEnd PP primsL (runL PP primsL) p130 H') (some (.tuple #[.bool true,goInt pos,.int .i32 ((x.toNat:Nat):Int)])) d k ⟨T,S,[],H3++[({ obj:=.iter ⟨w.toArray⟩ (pos+1) }:Blk)],min lo H3.length,55,false⟩:=fun k T S lo d=>by
     rw [nxt_ok _ _ _ _ _ _ _ _ _ _ _ hps,hdec,set_last]
    simp (maxDischargeDepth:=8) only [↓SD,SU,SV,SW,simprocAttr,Int.cast_ofNat_Int,small,resV, q130x0,t3,t5,t6,t9,t10,t11,t16, g_nxt,nxt_v,get_last,nok,y1,y1',y2,sl0,z2,k129,m1,m2,m3,m4,goInt]
    exact ih _ ⟨_,_,(pos+1),(_),(10*V2+(x.toNat - 48)),rfl,(by simp [get_set,t3] <;> omega),(by simp [get_set,t5] <;> omega),(by simp [get_set,t6] <;> omega),(by simp [get_set,t9] <;> omega),(by simp [get_set,t10] <;> omega),(by simp [get_set,t11] <;> omega),(by simp [get_set,t16] <;> omega),⟨rfl,hV3.symm,by omega⟩⟩
   ·rintro c' s ⟨T,S,pos,lim2,V2,rfl,t3,t5,t6,t9,t10,t11,t16,hp⟩
    obtain ⟨rfl,hV2,hlim2⟩:=hp
    rw [List.take_length,hV] at hV2
    subst hV2
    have hps:¬w.length < (⟨w.toArray⟩:ByteArray).size:=Nat.lt_irrefl _
    have nend:∀(k:List It) s d,nxtB (runL PP primsL) (fEnd PP primsL (runL PP primsL) p130 H') (some ⟨.iter ⟨w.toArray⟩ w.length,true,true,none⟩) H3.length d k s=nxt (runL PP primsL) (fEnd PP primsL (runL PP primsL) p130 H') (some (.tuple #[.bool false])) d k s:=fun k s d=>nxt_end _ _ _ _ hps
    have k129:=c129t ⟨w.toArray⟩ (H3++[({ obj:=.iter ⟨w.toArray⟩ w.length }:Blk)])
    have ui:Up H3 (H3++[({ obj:=.iter ⟨w.toArray⟩ w.length }:Blk)]):=(Up.refl _).app
    obtain ⟨Hi,hHi⟩:∃Hi,H3++[({ obj:=.iter ⟨w.toArray⟩ w.length }:Blk)]=Hi:=⟨_,rfl⟩; have gl:Hi[H3.length]?=some ⟨.iter ⟨w.toArray⟩ w.length,true,true,none⟩:=by rw [←hHi]; exact get_last
    rw [hHi] at ui k126 k129
    have hil:=ui.len
    obtain ⟨H6,p1,p2,p3,p4⟩:=(hbd.up ui).app (by decide) (by decide) (by omega) (by omega) [.int .i64 ((V2:Nat):Int)] rfl
    have u6:=p3.up (hbd.up ui) (hu.trans ui) (Nat.le_refl _)
    have hl6:=u6.len
    have hcl:cells encI (ns.take (j0+1))=cells encI (ns.take j0)++[.int .i64 ((V2:Nat):Int)]:=by rw [take_get hzj,cells_app]; rfl
    simp (maxDischargeDepth:=8) only [↓SD,SU,SV,SW,simprocAttr,Int.cast_ofNat_Int,small,resV, q130x0,t3,t5,t6,t9,t10,t11,t16, g_nxt,nxt_v,gl,nend,sne,hHi,k126,seq,k129,l8,p1,hw]
    exact ihO _ ⟨_,_,H6,some ⟨Hi.length,0,none⟩,1,_,rfl,by simp [get_set],by simp [get_set,t9],by simp [get_set,t10],by simp [get_set],by rw [hcl]; exact p2,u6,by omega⟩
  ·cases hnw
 ·rintro c' s ⟨T,S,H3,al,m,lim,rfl,t3,t9,t10,t11,hbd,hu,hlim⟩
  have l8:isLoc (.slice al K m)=false:=hbd.isLoc _ _
  have hul:=hu.len
  rw [List.take_of_length_le (by omega)] at hbd
  rcases hend with ⟨e1,e2⟩ | ⟨e1,w,hwK,hwn⟩
  ·have z0:(((K:Nat):Int) < ((l:Nat):Int))=False:=eq_false (by omega)
   simp (maxDischargeDepth:=8) only [↓SD,SU,SV,SW,simprocAttr,Int.cast_ofNat_Int,small,resV, q130x1,t3,t9,t10,t11,z0,l1,l8,R130,N130]
   rw [yes_some]
   unfold QN
   rw [e2]
   have hsx:=hbd.sl encI_len (by decide)
   rw [←hns] at hsx ⊢
   exact gc_sln hsx hu (by omega) (bld_nw hbd)
  ·have hKl:K < l:=by have:=(List.getElem?_eq_some_iff.1 hwK).1; omega
   have z0:(((K:Nat):Int) < ((l:Nat):Int))=True:=eq_true (by omega)
   obtain ⟨b1,o1,w',hwa,hw1,hat⟩:=hs.at encS_len (by decide) hKl
   rw [hwK] at hw1; cases hw1
   have fw:rdO (hcells H3 b1) (o1+K*1) none=some (.string ⟨w.toArray⟩):=At.v0 hat H3 (hg.trans hu.grow)
   have iaw:vv (.ia 1) [.slice a l kk,.int .i64 (K:Nat)]=some (.pointer (some ⟨b1,o1+K*1,none⟩)):=by rw [hwa]; exact vv_iaN 1 b1 o1 K _ _ _ hKl
   obtain ⟨g,hgl,hgood2,hge⟩:=good_len w
   have sl0:=vv_slen' w
   have fin:∀H5 lo,H'.length≤lo→Yes (some (gcR H' (.panic (.iface 142 (.agg #[.string ⟨w.toArray⟩]))) H5 lo)) (QN H' xs):=fun H5 lo h=>by
    rw [yes_some]
    unfold QN
    rw [e1]
    exact ⟨⟨w.toArray⟩,by simp [gcR,flat]; omega⟩
   simp (maxDischargeDepth:=8) only [↓SD,SU,SV,SW,simprocAttr,Int.cast_ofNat_Int,small,resV, q130x1,t3,t9,t10,t11,z0,l1,l8,iaw,fw,g_rng,rng_s,ptrA]
   refine loop_ind (G:=(Yes · (QN H' xs))) (fun j σ=>∃T S pos lim2 V2,σ=⟨T,S,[],(H3++[({ obj:=.iter ⟨w.toArray⟩ pos }:Blk)]),lim2,55,false⟩∧get T 5=.string ⟨w.toArray⟩∧get T 6=.int .i64 ((V2:Nat):Int)∧get T 16=.pointer (some ⟨H3.length,0,none⟩)∧(pos=j∧V2=valD (w.take j) 0∧H'.length≤lim2)) (g) ?_ ?_ 0 _ (Nat.zero_le _) ⟨_,_,_,_,_,rfl,(by first | (simp [get_set,t3,t9,t10,t11]; done) | rfl),(by first | (simp [get_set,t3,t9,t10,t11]; done) | rfl),(by first | (simp [get_set,t3,t9,t10,t11]; done) | rfl),⟨(show 0=0 from rfl),(show 0=valD (w.take 0) 0 from rfl),by omega⟩⟩
   ·rintro c' j s hj ⟨T,S,pos,lim2,V2,rfl,t5,t6,t16,hp⟩ ih
    obtain ⟨rfl,hV2,hlim2⟩:=hp
    obtain ⟨x,hx,hxd,c2⟩:=hgood2 pos hj
    rw [isDig_iff] at hxd
    have z2:(((w.length:Nat):Int)≤2)=True:=eq_true (by omega)
    have hdec:=dec_lo hx (by omega)
    have hps:pos < (⟨w.toArray⟩:ByteArray).size:=(List.getElem?_eq_some_iff.1 hx).1
    have hV2b:V2≤99:=by
     rw [hV2]
     refine valD_le (by rw [List.length_take]; omega) ?_
     rw [List.all_eq_true]
     intro y hy
     obtain ⟨i,hi,e⟩:=List.mem_iff_getElem.1 hy
     rw [List.length_take] at hi
     obtain ⟨y',hy',hyd,_⟩:=hgood2 i (by omega)
     rw [List.getElem_take] at e
     rw [List.getElem?_eq_getElem (by omega),e] at hy'
     cases hy'; exact hyd
    have hV3:valD (w.take (pos+1)) 0=10*V2+(x.toNat - 48):=by rw [take_get hx,valD_snoc,hV2]
    have y1:((48:Int)≤((x.toNat:Nat):Int))=True:=eq_true (by omega)
    have y1':(((x.toNat:Nat):Int)≥48)=True:=y1
    have y2:(((x.toNat:Nat):Int)≤57)=True:=eq_true (by omega)
    have k129:=c129t ⟨w.toArray⟩ (H3++[({ obj:=.iter ⟨w.toArray⟩ (pos+1) }:Blk)])
    have m1:IntKind.wrap .i64 (10*((V2:Nat):Int))=((10*V2:Nat):Int):=by rw [wrap_id _ (by omega) (by omega)]; omega
    have m2:IntKind.wrap .i32 (((x.toNat:Nat):Int) - 48)=((x.toNat - 48:Nat):Int):=by
     have e:((x.toNat:Nat):Int) - 48=((x.toNat - 48:Nat):Int):=by omega
     rw [e]; exact wrap32 (by omega)
    have m3:IntKind.wrap .i64 ((x.toNat - 48:Nat):Int)=((x.toNat - 48:Nat):Int):=wrapN (by omega)
    have m4:IntKind.wrap .i64 (((10*V2:Nat):Int)+((x.toNat - 48:Nat):Int))=((10*V2+(x.toNat - 48):Nat):Int):=by
     rw [←Int.natCast_add]; exact wrapN (by omega)
    have nok:∀(k:List It) T S lo d,nxtB (runL PP primsL) (fEnd PP primsL (runL PP primsL) p130 H') (some ⟨.iter ⟨w.toArray⟩ pos,true,true,none⟩) H3.length d k ⟨T,S,[],H3++[({ obj:=.iter ⟨w.toArray⟩ pos }:Blk)],lo,55,false⟩=nxt (runL PP primsL) (fEnd PP primsL (runL PP primsL) p130 H') (some (.tuple #[.bool true,goInt pos,.int .i32 ((x.toNat:Nat):Int)])) d k ⟨T,S,[],H3++[({ obj:=.iter ⟨w.toArray⟩ (pos+1) }:Blk)],min lo H3.length,55,false⟩:=fun k T S lo d=>by
     rw [nxt_ok _ _ _ _ _ _ _ _ _ _ _ hps,hdec,set_last]
    simp (maxDischargeDepth:=8) only [↓SD,SU,SV,SW,simprocAttr,Int.cast_ofNat_Int,small,resV, q130x0,t5,t6,t16, g_nxt,nxt_v,get_last,nok,y1,y1',y2,sl0,z2,k129,m1,m2,m3,m4,goInt]
    exact ih _ ⟨_,_,(pos+1),(_),(10*V2+(x.toNat - 48)),rfl,(by simp [get_set,t5] <;> omega),(by simp [get_set,t6] <;> omega),(by simp [get_set,t16] <;> omega),⟨rfl,hV3.symm,by omega⟩⟩
   ·rintro c' s ⟨T,S,pos,lim2,V2,rfl,t5,t6,t16,hp⟩
    obtain ⟨rfl,hV2,hlim2⟩:=hp
    rcases hge with ⟨f1,f2,f3⟩ | ⟨_,x,hx,hxb⟩
    ·subst f1
     rw [List.take_length] at hV2
     have hps:¬w.length < (⟨w.toArray⟩:ByteArray).size:=Nat.lt_irrefl _
     have nend:∀(k:List It) s d,nxtB (runL PP primsL) (fEnd PP primsL (runL PP primsL) p130 H') (some ⟨.iter ⟨w.toArray⟩ w.length,true,true,none⟩) H3.length d k s=nxt (runL PP primsL) (fEnd PP primsL (runL PP primsL) p130 H') (some (.tuple #[.bool false])) d k s:=fun k s d=>nxt_end _ _ _ _ hps
     have k129:=c129f ⟨w.toArray⟩ (H3++[({ obj:=.iter ⟨w.toArray⟩ w.length }:Blk)])
     have ui:Up H3 (H3++[({ obj:=.iter ⟨w.toArray⟩ w.length }:Blk)]):=(Up.refl _).app
     obtain ⟨Hi,hHi⟩:∃Hi,H3++[({ obj:=.iter ⟨w.toArray⟩ w.length }:Blk)]=Hi:=⟨_,rfl⟩; have gl:Hi[H3.length]?=some ⟨.iter ⟨w.toArray⟩ w.length,true,true,none⟩:=by rw [←hHi]; exact get_last
     rw [hHi] at ui k129
     have hil:=ui.len
     have sne:=vv_sne' w []
     by_cases hw0:w=[]
     ·rw [decide_eq_true hw0] at sne
      simp (maxDischargeDepth:=8) only [↓SD,SU,SV,SW,simprocAttr,Int.cast_ofNat_Int,small,resV, q130x0,t5,t6,t16, g_nxt,nxt_v,gl,nend,sne,hHi,k129]
      exact fin _ _ (by omega)
     ·have c2:w.length≤2:=f3.resolve_left hw0
      have hVb:V2≤99:=by rw [hV2]; exact valD_le c2 f2
      have hne:dig V2≠w:=fun e=>by
       unfold numW at hwn
       rw [if_pos ⟨hw0,c2,f2,by rw [←hV2]; exact e⟩] at hwn
       cases hwn
      have k126:R (.func 126) [.int .i64 ((V2:Nat):Int)] Hi=some ⟨.ok (.string ⟨(dig V2).toArray⟩),Hi,Hi.length⟩:=c126 (by omega) (by omega) Hi
      have seq:=vv_seq' (dig V2) w
      rw [decide_eq_false hne] at seq
      rw [decide_eq_false hw0] at sne
      simp (maxDischargeDepth:=8) only [↓SD,SU,SV,SW,simprocAttr,Int.cast_ofNat_Int,small,resV, q130x0,t5,t6,t16, g_nxt,nxt_v,gl,nend,sne,hHi,k126,seq,k129]
      exact fin _ _ (by omega)
    ·obtain ⟨c,wd,hdec,hcb⟩:=bad_rune hx hxb
     have hps:pos < (⟨w.toArray⟩:ByteArray).size:=(List.getElem?_eq_some_iff.1 hx).1
     have nok:∀(k:List It) T S lo d,nxtB (runL PP primsL) (fEnd PP primsL (runL PP primsL) p130 H') (some ⟨.iter ⟨w.toArray⟩ pos,true,true,none⟩) H3.length d k ⟨T,S,[],H3++[({ obj:=.iter ⟨w.toArray⟩ pos }:Blk)],lo,55,false⟩=nxt (runL PP primsL) (fEnd PP primsL (runL PP primsL) p130 H') (some (.tuple #[.bool true,goInt pos,.int .i32 ((c:Nat):Int)])) d k ⟨T,S,[],H3++[({ obj:=.iter ⟨w.toArray⟩ (pos+wd) }:Blk)],min lo H3.length,55,false⟩:=fun k T S lo d=>by
      rw [nxt_ok _ _ _ _ _ _ _ _ _ _ _ hps,hdec,set_last]
     have k129:=c129f ⟨w.toArray⟩ (H3++[({ obj:=.iter ⟨w.toArray⟩ (pos+wd) }:Blk)])
     obtain ⟨Hi,hHi⟩:∃Hi,H3++[({ obj:=.iter ⟨w.toArray⟩ (pos+wd) }:Blk)]=Hi:=⟨_,rfl⟩
     have hil:Hi.length=H3.length+1:=by rw [←hHi]; simp
     rw [hHi] at k129
     by_cases h1:c < 48
     ·have y1:((48:Int)≤((c:Nat):Int))=False:=eq_false (by omega)
      have y1':(((c:Nat):Int)≥48)=False:=y1
      simp (maxDischargeDepth:=8) only [↓SD,SU,SV,SW,simprocAttr,Int.cast_ofNat_Int,small,resV, q130x0,t5,t6,t16, g_nxt,nxt_v,get_last,nok,y1,y1',hHi,k129,goInt]
      exact fin _ _ (by omega)
     ·have y1:((48:Int)≤((c:Nat):Int))=True:=eq_true (by omega)
      have y1':(((c:Nat):Int)≥48)=True:=y1
      by_cases h2:57 < c
      ·have y2:(((c:Nat):Int)≤57)=False:=eq_false (by omega)
       simp (maxDischargeDepth:=8) only [↓SD,SU,SV,SW,simprocAttr,Int.cast_ofNat_Int,small,resV, q130x0,t5,t6,t16, g_nxt,nxt_v,get_last,nok,y1,y1',y2,hHi,k129,goInt]
       exact fin _ _ (by omega)
      ·have y2:(((c:Nat):Int)≤57)=True:=eq_true (by omega)
       have z2:(((w.length:Nat):Int)≤2)=False:=eq_false (by omega)
       simp (maxDischargeDepth:=8) only [↓SD,SU,SV,SW,simprocAttr,Int.cast_ofNat_Int,small,resV, q130x0,t5,t6,t16, g_nxt,nxt_v,get_last,nok,y1,y1',y2,sl0,z2,hHi,k129,goInt]
       exact fin _ _ (by omega)
end Go.Pi.L.Ben
set_option maxRecDepth 100000
namespace Go.Pi.L.Ben
open Go Go.Pi Go.Pi.L Go.Pi.E Go.Pi.Ben BM Go.Pi.Q

theorem numW_b {w:List UInt8}{z:Int}(h:numW w=some z):0≤z∧z≤99:=by
 unfold numW at h
 split at h
 ·rename_i hc
  cases h
  have:=valD_le hc.2.1 hc.2.2.1
  omega
 ·cases h
theorem numsW_b {xs:List (List UInt8)}{ns:List Int}(h:numsW xs=some ns):ns.length=xs.length∧∀z∈ns,0≤z∧z≤99:=by
 obtain ⟨K,ms,a1,a2,a3,a4⟩:=numsW_cut xs
 rcases a4 with ⟨b1,b2⟩ | ⟨b1,_⟩
 ·rw [b2] at h; cases h
  refine ⟨by omega,fun z hz=>?_⟩
  obtain ⟨i,hi,e⟩:=List.mem_iff_getElem.1 hz
  obtain ⟨w,z',c1,c2,c3⟩:=a3 i (by omega)
  rw [List.getElem?_eq_getElem hi,e] at c2
  cases c2; exact numW_b c3
 ·rw [b1] at h; cases h
def strokeW (w:List (List UInt8))(l:List Int)(nd:List Int):Stroke:=⟨l.getD 0 0,decide (w.getD 0 []=wRound),l.getD 1 0,l.getD 2 0,nd⟩
def needW (x:List UInt8):Option (List Int):=if x=[45] then some [] else numsW (spl 44 x)
def rowP (b:Bench)(r:List UInt8):Option Bench :=
 if (spl 32 r).getD 0 []=wBoard then
  (if (spl 32 r).length=2 then (numsW ((spl 32 r).drop 1)).map fun ns=>⟨b.app,b.boards++ns,b.strokes⟩ else none)
 else
  (if (spl 32 r).length=5 then
   (match numsW (((spl 32 r).drop 1).take 3),needW ((spl 32 r).getD 4 []) with
    | some l,some nd=>some ⟨b.app,b.boards,b.strokes++[strokeW (spl 32 r) l nd]⟩
    | _,_=>none)
  else none)
def rowsP (t:List UInt8):List (List UInt8):=((spl 10 t).drop 1).take ((spl 10 t).length - 3)
def foldP (b:Bench)(R:List (List UInt8)):Option Bench:=R.foldlM rowP b
def parseT (o:Option Bench)(t:List UInt8):Option Bench:=match o with | some b=>if textT b=t then some b else none | none=>none
def parseQ (o:Option (List Int))(R:List (List UInt8))(t:List UInt8):Option Bench:=match o with | some [a]=>parseT (foldP ⟨a,[],[]⟩ R) t | _=>none
def parseP (t:List UInt8):Option Bench :=
 if 3≤(spl 10 t).length then parseQ (numsW ((spl 32 ((spl 10 t).getD 0 [])).drop 1)) (rowsP t) t else none
theorem foldP_snoc (b:Bench)(R:List (List UInt8))(r:List UInt8):foldP b (R++[r])=(foldP b R).bind fun b'=>rowP b' r:=by
 unfold foldP
 rw [List.foldlM_append]
 cases R.foldlM rowP b with
 | none=>rfl
 | some b'=>show (List.foldlM rowP b' [r])=_; simp [List.foldlM]
theorem fold_cut (b0:Bench):∀R:List (List UInt8),∃K,K≤R.length∧(∀j,j≤K→∃b,foldP b0 (R.take j)=some b)∧(K=R.length∨∃b r,R[K]?=some r∧foldP b0 (R.take K)=some b∧rowP b r=none∧foldP b0 R=none):=by
 intro R
 have key:∀n,n≤R.length→(∀j,j≤n→∃b,foldP b0 (R.take j)=some b)∨∃K b r,K < n∧(∀j,j≤K→∃b,foldP b0 (R.take j)=some b)∧R[K]?=some r∧foldP b0 (R.take K)=some b∧rowP b r=none:=by
  intro n
  induction n with
  | zero=>intro _; exact .inl fun j hj=>⟨b0,(show j=0 by omega) ▸ (by simp [foldP])⟩
  | succ n ih =>
   intro hn
   rcases ih (by omega) with h | ⟨K,b,r,h1,h2,h3,h4,h5⟩
   ·obtain ⟨b,hb⟩:=h n (Nat.le_refl _)
    have hr:R[n]?=some R[n]:=List.getElem?_eq_getElem (by omega)
    cases hrow:rowP b R[n] with
    | none=>exact .inr ⟨n,b,R[n],by omega,h,hr,hb,hrow⟩
    | some b' =>
     refine .inl fun j hj=>?_
     rcases Nat.lt_or_ge j (n+1) with h' | h'
     ·exact h j (by omega)
     ·obtain rfl:j=n+1:=by omega
      exact ⟨b',by rw [take_get hr,foldP_snoc,hb]; exact hrow⟩
   ·exact .inr ⟨K,b,r,by omega,h2,h3,h4,h5⟩
 rcases key R.length (Nat.le_refl _) with h | ⟨K,b,r,h1,h2,h3,h4,h5⟩
 ·exact ⟨R.length,Nat.le_refl _,h,.inl rfl⟩
 ·refine ⟨K,by omega,h2,.inr ⟨b,r,h3,h4,h5,?_⟩⟩
  have e:R=R.take K++r :: R.drop (K+1):=by
   have:=take_drop_step (f:=0) h3 (Nat.zero_le _)
   simpa using this
  rw [e]
  unfold foldP at h4 ⊢
  rw [List.foldlM_append,h4]
  show List.foldlM rowP b (r :: R.drop (K+1))=none
  rw [List.foldlM_cons,h5]; rfl
structure NuP (b:Bench)(j:Nat):Prop where
 a0:0≤b.app
 a9:b.app≤99
 bo:∀z∈b.boards,0≤z∧z≤99
 st:∀s∈b.strokes,NuS s
 ln:b.boards.length+b.strokes.length=j
theorem NuP.nub {b:Bench}{j:Nat}(h:NuP b j)(hj:j≤300):NuB b:=by
 have:=h.ln
 exact ⟨h.a0,h.a9,⟨h.bo,by omega⟩,h.st,by omega⟩
theorem getD_b {l:List Int}(h:∀z∈l,0≤z∧z≤99)(i:Nat):0≤l.getD i 0∧l.getD i 0≤99:=by
 rw [List.getD_eq_getElem?_getD]
 cases e:l[i]? with
 | none=>simp
 | some z=>exact h z (List.mem_of_getElem? e)
theorem rowP_nu {b b':Bench}{j:Nat}{r:List UInt8}(hb:NuP b j)(hr:r.length≤290)(h:rowP b r=some b'):NuP b' (j+1):=by
 have hln:=hb.ln
 unfold rowP at h
 split at h
 ·split at h
  ·rename_i h2
   rw [Option.map_eq_some_iff] at h
   obtain ⟨ns,hn,rfl⟩:=h
   obtain ⟨n1,n2⟩:=numsW_b hn
   rw [List.length_drop] at n1
   refine ⟨hb.a0,hb.a9,fun z hz=>?_,hb.st,by simp only [List.length_append]; omega⟩
   rcases List.mem_append.1 hz with hz | hz
   ·exact hb.bo z hz
   ·exact n2 z hz
  ·cases h
 ·split at h
  ·split at h
   ·rename_i l nd hl hnd
    cases h
    obtain ⟨m1,m2⟩:=numsW_b hl
    have hnd':Nn nd:=by
     unfold needW at hnd
     split at hnd
     ·cases hnd; exact ⟨fun z hz=>(by cases hz),by simp⟩
     ·obtain ⟨q1,q2⟩:=numsW_b hnd
      refine ⟨q2,?_⟩
      rw [q1,spl_len]
      have h1:=List.count_le_length (a:=44) (l:=(spl 32 r).getD 4 [])
      have h2:((spl 32 r).getD 4 []).length≤r.length:=by
       rw [List.getD_eq_getElem?_getD]
       cases e:(spl 32 r)[4]? with
       | none=>simp
       | some p=>exact (spl_parts r).2 p (List.mem_of_getElem? e)
      omega
    refine ⟨hb.a0,hb.a9,hb.bo,fun s hs=>?_,by simp only [List.length_append,List.length_singleton]; omega⟩
    rcases List.mem_append.1 hs with hs | hs
    ·exact hb.st s hs
    ·rw [List.mem_singleton.1 hs]
     unfold strokeW
     exact ⟨(getD_b m2 0).1,(getD_b m2 0).2,(getD_b m2 1).1,(getD_b m2 1).2,(getD_b m2 2).1,(getD_b m2 2).2,hnd'⟩
   ·cases h
  ·cases h
end Go.Pi.L.Ben
set_option maxRecDepth 100000
namespace Go.Pi.L.Ben
open Go Go.Pi Go.Pi.L Go.Pi.E Go.Pi.Ben BM Go.Pi.Q

theorem rD_pan {α:Type}{call:CallT}{F:Ex→St→Option α}{k:List It}(v H' lo' c hb ds d T S D H lo n rnd):retD call F (some ⟨.panic v,H',lo'⟩) ⟨c,hb,some ds⟩ d k ⟨T,S,D,H,lo,n,rnd⟩=F (.panic v) ⟨wipe ds T,S,D,H',min lo (min H.length lo'),n,rnd⟩:=rfl

structure PB (n0:Nat)(H:Heap)(ba:Option Addr)(bl bm:Nat)(sa:Option Addr)(sl sm:Nat)(b:Bench)(xs:List Sk):Prop where
 bo:Bld n0 H 1 ba bl bm (cells encI b.boards)
 st:Bld n0 H 5 sa sl sm (cells eK xs)
 eq:b.strokes=xs.map (·.s)
 nd:∀k∈xs,Ints H k.a k.l k.s.needs∧Nw n0 k.a
 ne:ba=sa→ba=none
theorem PB.up {n0:Nat}{H H1:Heap}{ba:Option Addr}{bl bm:Nat}{sa:Option Addr}{sl sm:Nat}{b:Bench}{xs:List Sk}(h:PB n0 H ba bl bm sa sl sm b xs)(u:Up H H1):PB n0 H1 ba bl bm sa sl sm b xs :=
 ⟨h.bo.up u,h.st.up u,h.eq,fun k hk=>⟨(h.nd k hk).1.grow u.grow,(h.nd k hk).2⟩,h.ne⟩
def QPa (H:Heap)(t:List UInt8)(o:Out):Prop :=
 match parseP t with
 | none=>∃w,o=⟨.panic (.iface 142 (.agg #[.string w])),H,H.length⟩
 | some b=>∃(r:BeR) (H1:Heap) (lo:Nat),o=⟨.ok (.agg #[.int .i64 r.app,.slice r.ba r.bl r.bk,.slice r.sa r.sl r.sk]),H1,lo⟩∧Up H H1∧H.length≤lo∧BeOk H1 r b∧NuB b∧Nw H.length r.ba∧Nw H.length r.sa∧∀k∈r.xs,Nw H.length k.a
theorem spl_len1 (c:UInt8)(l:List UInt8):1≤(spl c l).length:=by rw [spl_len]; omega
theorem s_at {H:Heap}{a:Option Addr}{l m:Nat}{xs:List (List UInt8)}(hs:Sl H 1 encS a l xs){i:Nat}(hi:i < l):∃b off,vv (.ia 1) [.slice a l m,.int .i64 ((i:Nat):Int)]=some (.pointer (some ⟨b,off,none⟩))∧∀H',Grow H H'→rdO (hcells H' b) off none=some (.string ⟨(xs.getD i []).toArray⟩):=by
 obtain ⟨b,o,w,hwa,hw1,hat⟩:=hs.at encS_len (by decide) hi
 refine ⟨b,o+i*1,by rw [hwa]; exact vv_iaN 1 b o i _ _ _ hi,fun H' g=>?_⟩
 have e:xs.getD i []=w:=by rw [List.getD_eq_getElem?_getD,hw1]; rfl
 rw [e]
 exact At.v0 hat H' g
theorem n_at {H:Heap}{a:Option Addr}{l m:Nat}{xs:List Int}(hs:Ints H a l xs){i:Nat}(hi:i < l):∃b off,vv (.ia 1) [.slice a l m,.int .i64 ((i:Nat):Int)]=some (.pointer (some ⟨b,off,none⟩))∧∀H',Grow H H'→rdO (hcells H' b) off none=some (.int .i64 (xs.getD i 0)):=by
 obtain ⟨b,o,w,hwa,hw1,hat⟩:=hs.i1 hi
 refine ⟨b,o+i*1,by rw [hwa]; exact vv_iaN 1 b o i _ _ _ hi,fun H' g=>?_⟩
 have e:xs.getD i 0=w:=by rw [List.getD_eq_getElem?_getD,hw1]; rfl
 rw [e]
 exact hat H' g
set_option maxHeartbeats 2000000 in
theorem c105 (t:List UInt8)(ht:t.length≤290)(H':Heap)(hF:Fam H'):Yes (R (.func 105) [.string ⟨t.toArray⟩] H') (QPa H' t):=by
 have fin:parseP t=none→∀w H5 lo,H'.length≤lo→Yes (some (gcR H' (.panic (.iface 142 (.agg #[.string w]))) H5 lo)) (QPa H' t):=fun e w H5 lo h=>by
  rw [yes_some]
  unfold QPa
  rw [e]
  exact ⟨w,by simp [gcR,flat]; omega⟩
 refine run_y (pr 105) P105 (by simp [p105]) rfl ?_
 obtain ⟨o,ho1,a1,m1,H1,lo1,rfl,u1,hlo1,s1⟩:=c128 t 10 (by omega) H' hF
 have hF1:Fam H1:=famR ho1 hF
 have la1:=s1.isLoc m1
 have hn1:=spl_len1 10 t
 have hnl:(spl 10 t).length≤291:=by rw [spl_len]; have:=List.count_le_length (a:=10) (l:=t); omega
 have hpl:=(spl_parts (c:=10) t).2
 have h1:=u1.len
 obtain ⟨n,hn⟩:∃n,(spl 10 t).length=n:=⟨_,rfl⟩
 rw [hn] at ho1 s1 la1 hn1 hnl
 by_cases h3:3≤n
 case neg =>
  have z1:((3:Int)≤((n:Nat):Int))=False:=eq_false (by omega)
  have z1':(((n:Nat):Int)≥3)=False:=z1
  have k129:=c129f ⟨t.toArray⟩ H1
  simp (maxDischargeDepth:=8) only [↓SD,SU,SV,SW,simprocAttr,Int.cast_ofNat_Int,small,resV, B105,R105,N105,b105, ho1,la1,z1,z1',k129]
  exact fin (by unfold parseP; rw [hn,if_neg h3]) _ _ _ (by omega)
 have z1:((3:Int)≤((n:Nat):Int))=True:=eq_true (by omega)
 have z1':(((n:Nat):Int)≥3)=True:=z1
 have k129:=c129t ⟨t.toArray⟩ H1
 obtain ⟨b0,off0,ia0,f0⟩:=s_at (m:=m1) s1 (i:=0) (by omega)
 have f0:=f0 H1 (Grow.refl _)
 replace ia0:vv (.ia 1) [.slice a1 n m1,.int .i64 0]=some (.pointer (some ⟨b0,off0,none⟩)):=ia0
 obtain ⟨r0,hr0⟩:∃r0,(spl 10 t).getD 0 []=r0:=⟨_,rfl⟩
 rw [hr0] at f0
 have hr0l:r0.length≤290:=by
  rw [←hr0,List.getD_eq_getElem?_getD]
  cases e:(spl 10 t)[0]? with
  | none=>simp
  | some p=>have:=hpl p (List.mem_of_getElem? e); simp; omega
 obtain ⟨o,ho2,a2,m2,H2,lo2,rfl,u2,hlo2,s2⟩:=c128 r0 32 (by omega) H1 hF1
 have hF2:Fam H2:=famR ho2 hF1
 have la2:=s2.isLoc m2
 have h2:=u2.len
 have hw1:=spl_len1 32 r0
 have hwl:(spl 32 r0).length≤291:=by rw [spl_len]; have:=List.count_le_length (a:=32) (l:=r0); omega
 obtain ⟨w0,hw0⟩:∃w0,(spl 32 r0).length=w0:=⟨_,rfl⟩
 rw [hw0] at ho2 s2 la2 hw1 hwl
 obtain ⟨a3,m3,c3,s3⟩:=s2.cut m2 1 w0 hw1 (Nat.le_refl _)
 have hdt:((spl 32 r0).drop 1).take (w0 - 1)=(spl 32 r0).drop 1:=List.take_of_length_le (by rw [List.length_drop]; omega)
 rw [hdt] at s3
 have c3':VOp.ev.slc 1 a2 w0 m2 1 ((w0:Nat):Int)=some (.slice a3 (w0 - 1) m3):=c3
 have la3:=s3.isLoc m3
 obtain ⟨o,ho4,q4⟩:=c130 (kk:=m3) s3 (by omega) H2 (Grow.refl _)
 have hpar:parseP t=parseQ (numsW ((spl 32 r0).drop 1)) (rowsP t) t:=by
  unfold parseP; rw [hn,if_pos h3,hr0]
 unfold QN at q4
 cases hns:numsW ((spl 32 r0).drop 1) with
 | none =>
  rw [hns] at q4 hpar
  obtain ⟨w,rfl⟩:=q4
  simp (maxDischargeDepth:=8) only [↓SD,SU,SV,SW,simprocAttr,Int.cast_ofNat_Int,small,resV, B105,R105,N105,b105, ho1,la1,z1,z1',k129,ia0,f0,ho2,la2,vv_sll',c3',la3,ho4]
  exact fin hpar _ _ _ (by omega)
 | some ns =>
 rw [hns] at q4 hpar
 obtain ⟨a4,m4,H4,lo4,rfl,u4,hlo4,s4,_⟩:=q4
 have hF4:Fam H4:=famR ho4 hF2
 have la4:=s4.isLoc m4
 have h4:=u4.len
 by_cases hn1':ns.length=1
 case neg =>
  have z2:(((ns.length:Nat):Int)=1)=False:=eq_false (by omega)
  have k129':=c129f ⟨t.toArray⟩ H4
  simp (maxDischargeDepth:=8) only [↓SD,SU,SV,SW,simprocAttr,Int.cast_ofNat_Int,small,resV, B105,R105,N105,b105, ho1,la1,z1,z1',k129,ia0,f0,ho2,la2,vv_sll',c3',la3,ho4,la4,z2,k129']
  have hq:parseQ (some ns) (rowsP t) t=none:=by
   match ns,hn1' with
   | [],_=>rfl
   | [x],h=>exact (h rfl).elim
   | _ :: _ :: _,_=>rfl
  exact fin (hpar.trans hq) _ _ _ (by omega)
 obtain ⟨A,rfl⟩:∃A,ns=[A]:=by
  match ns,hn1' with
  | [x],_=>exact ⟨x,rfl⟩
 rw [List.length_singleton] at ho4 s4 la4
 have z2:(((1:Nat):Int)=1)=True:=eq_true rfl
 have k129':=c129t ⟨t.toArray⟩ H4
 obtain ⟨bA,offA,iaA,fA⟩:=n_at (m:=m4) s4 (i:=0) (by decide)
 replace iaA:vv (.ia 1) [.slice a4 1 m4,.int .i64 0]=some (.pointer (some ⟨bA,offA,none⟩)):=iaA
 have fA:rdO (hcells H4 bA) offA none=some (.int .i64 A):=fA H4 (Grow.refl _)
 have hA:=(numsW_b hns).2 A (List.mem_singleton.2 rfl)
 obtain ⟨a5,m5,c5,s5⟩:=s1.cut m1 1 (n - 2) (by omega) (by omega)
 have hR:((spl 10 t).drop 1).take (n - 2 - 1)=rowsP t:=by unfold rowsP; rw [hn]; rfl
 rw [hR] at s5
 obtain ⟨N,hN⟩:∃N,n - 2 - 1=N:=⟨_,rfl⟩
 rw [hN] at c5 s5
 have c5':VOp.ev.slc 1 a1 n m1 1 ((n - 2:Nat):Int)=some (.slice a5 N m5):=c5
 have la5:=s5.isLoc m5
 have hwn:IntKind.wrap .i64 (((n:Nat):Int) - 2)=((n - 2:Nat):Int):=by rw [wrap_id _ (by omega) (by omega)]; omega
 have bldA:vv (.bld [.int .i64 0,.slice none 0 0,.slice none 0 0] [(0,1)]) [.int .i64 A]=some (.agg #[.int .i64 A,.slice none 0 0,.slice none 0 0]):=by rw [vv_of (by rfl)]; rfl
 simp (maxDischargeDepth:=8) only [↓SD,SU,SV,SW,simprocAttr,Int.cast_ofNat_Int,small,resV, B105,R105,N105,b105, ho1,la1,z1,z1',k129,ia0,f0,ho2,la2,vv_sll',c3',la3,ho4,la4,z2,k129',iaA,fA,bldA,hwn,vv_slc,c5',la5]
 obtain ⟨K,hK,hpre,hend⟩:=fold_cut ⟨A,[],[]⟩ (rowsP t)
 have hRN:(rowsP t).length=N:=by rw [←hN]; exact s5.len.trans hN.symm
 have hRl:∀r∈rowsP t,r.length≤290:=fun r hr=>by
  unfold rowsP at hr
  have:=hpl r (List.mem_of_mem_drop (List.mem_of_mem_take hr)); omega
 have g4:Grow H1 H4:=u2.grow.trans u4.grow
 have pb0:PB H4.length H4 none 0 0 none 0 0 ⟨A,[],[]⟩ []:=⟨Bld.nil _ _ _,Bld.nil _ _ _,rfl,fun k hk=>(by cases hk),fun _=>rfl⟩
 have np0:NuP ⟨A,[],[]⟩ 0:=⟨hA.1,hA.2,fun z hz=>(by cases hz),fun s hs=>(by cases hs),rfl⟩
 refine loop_ind (G:=(Yes · (QPa H' t))) (fun j σ=>∃T S H5 ba bl bm sa sl sm lim,σ=⟨T,S,[],H5,lim,112,false⟩∧get T 0=.string ⟨t.toArray⟩∧get T 2=.pointer (some ⟨2,0,some 1⟩)∧get T 5=.pointer (some ⟨5,0,some 1⟩)∧get T 37=.slice a5 N m5∧get T 38=.int .i64 N∧get T 39=.int .i64 (j:Nat)∧sget S 2=(1,.cells [.int .i64 0,.slice none 0 0,.slice none 0 0])∧sget S 5=(1,.cells [.int .i64 A,.slice ba bl bm,.slice sa sl sm])∧((∃b xs,foldP ⟨A,[],[]⟩ ((rowsP t).take j)=some b∧PB H4.length H5 ba bl bm sa sl sm b xs∧NuP b j∧b.app=A)∧Up H4 H5∧Fam H5∧H'.length≤lim)) (K) ?_ ?_ 0 _ (Nat.zero_le _) ⟨_,_,_,_,_,_,_,_,_,_,rfl,rfl,rfl,rfl,rfl,rfl,rfl,rfl,rfl,⟨⟨_,[],rfl,pb0,np0,rfl⟩,Up.refl _,hF4,by omega⟩⟩
 ·rintro c' j s hj ⟨T,S,H5,ba,bl,bm,sa,sl,sm,lim,rfl,t0,t2,t5,t37,t38,t39,s0,s1,hp⟩ ih
  obtain ⟨⟨b,xs,hfo,hpb,hnp,hbA⟩,hu,hF5,hlim⟩:=hp
  have hw:=wrap_succ j (by omega)
  have hjN:j < N:=by omega
  have hul:=hu.len
  obtain ⟨r,hr⟩:∃r,(rowsP t)[j]?=some r:=⟨_,List.getElem?_eq_getElem (by omega)⟩
  have hrl:=hRl r (List.mem_of_getElem? hr)
  obtain ⟨b',hb'⟩:=hpre (j+1) (by omega)
  rw [take_get hr,foldP_snoc,hfo] at hb'
  have hrow:rowP b r=some b':=hb'
  have hfo':foldP ⟨A,[],[]⟩ ((rowsP t).take (j+1))=some b':=by rw [take_get hr,foldP_snoc,hfo]; exact hrow
  have hnp':=rowP_nu hnp hrl hrow
  obtain ⟨br,offr,iar,fr⟩:=s_at (m:=m5) s5 (i:=j) hjN
  have fr:=fr H5 (g4.trans hu.grow)
  have er:(rowsP t).getD j []=r:=by rw [List.getD_eq_getElem?_getD,hr]; rfl
  rw [er] at fr
  obtain ⟨o,ho6,a6,m6,H6,lo6,rfl,u6,hlo6,s6⟩:=c128 r 32 (by omega) H5 hF5
  have hF6:Fam H6:=famR ho6 hF5
  have la6:=s6.isLoc m6
  have h6:=u6.len
  obtain ⟨W,hW⟩:∃W,spl 32 r=W:=⟨_,rfl⟩
  have hWne:=spl_len1 32 r
  have hWl:W.length≤291:=by rw [←hW,spl_len]; have:=List.count_le_length (a:=32) (l:=r); omega
  rw [hW] at ho6 s6 la6 hWne
  unfold rowP at hrow
  rw [hW] at hrow
  obtain ⟨nW,hnW⟩:∃nW,W.length=nW:=⟨_,rfl⟩
  rw [hnW] at ho6 s6 la6 hWne hWl
  obtain ⟨bw,offw,iaw,fw⟩:=s_at (m:=m6) s6 (i:=0) (by omega)
  replace iaw:vv (.ia 1) [.slice a6 nW m6,.int .i64 0]=some (.pointer (some ⟨bw,offw,none⟩)):=iaw
  have fw:=fw H6 (Grow.refl _)
  have k131:=c131 H6
  have seq1:=vv_seq' (W.getD 0 []) [98,111,97,114,100]
  have lba:∀x y,isLoc (.slice ba x y)=false:=hpb.bo.isLoc
  have lsa:∀x y,isLoc (.slice sa x y)=false:=hpb.st.isLoc
  by_cases hbd:W.getD 0 []=wBoard
  ·rw [if_pos hbd] at hrow
   rw [decide_eq_true (show W.getD 0 []=[98,111,97,114,100] from hbd)] at seq1
   split at hrow
   ·rename_i hl2
    have hnWtwo:nW=2:=by omega
    subst hnWtwo
    rw [Option.map_eq_some_iff] at hrow
    obtain ⟨ns,hns2,rfl⟩:=hrow
    obtain ⟨hnl1,_⟩:=numsW_b hns2
    rw [List.length_drop,hl2] at hnl1
    obtain ⟨z,rfl⟩:∃z,ns=[z]:=by
     match ns,hnl1 with
     | [x],_=>exact ⟨x,rfl⟩
    have z3:(((2:Nat):Int)=2)=True:=eq_true rfl
    have k129b:=c129t ⟨r.toArray⟩ H6
    obtain ⟨a7,m7,c7,s7⟩:=s6.cut m6 1 2 (by omega) (Nat.le_refl _)
    have hd7:(W.drop 1).take (2 - 1)=W.drop 1:=List.take_of_length_le (by rw [List.length_drop]; omega)
    rw [hd7] at s7
    have c7':VOp.ev.slc 1 a6 2 m6 1 2=some (.slice a7 1 m7):=c7
    have la7:isLoc (.slice a7 1 m7)=false:=s7.isLoc m7
    obtain ⟨o,ho8,q8⟩:=c130 (kk:=m7) s7 (by omega) H6 (Grow.refl _)
    unfold QN at q8
    rw [hns2] at q8
    obtain ⟨a8,m8,H8,lo8,rfl,u8,hlo8,s8,_⟩:=q8
    have hF8:Fam H8:=famR ho8 hF6
    have la8:isLoc (.slice a8 1 m8)=false:=s8.isLoc m8
    have h8:=u8.len
    have ho8':R (.func 130) [.slice a7 1 m7] H6=some ⟨.ok (.slice a8 1 m8),H8,lo8⟩:=ho8
    have qe:=fun T S D lo n rnd=>s8.elems encI_len (by decide) m8 T S D lo n rnd
    have u58:=u6.trans u8
    have hpb8:=hpb.up u58
    have hbl:bl=b.boards.length:=(hpb.bo.sl encI_len (by decide)).len.symm
    have hln:=hnp.ln
    obtain ⟨H9,p1,p2,p3,p4⟩:=hpb8.bo.appF hF8 (by decide) (by decide) (by omega) (by omega) [.int .i64 z] rfl
    have u9:Up H4 H9:=p3.up hpb8.bo (hu.trans u58) (Nat.le_refl _)
    have h9:=u9.len
    have hpb9:PB H4.length H9 (some ⟨H8.length,0,none⟩) (bl+1) 1 sa sl sm ⟨b.app,b.boards++[z],b.strokes⟩ xs:=by
     refine ⟨by rw [cells_app]; exact p2,hpb8.st.grown' p3 (fun e=>by
      have:=hpb.ne e.symm; rw [e]; exact this),hpb.eq,fun k hk=>⟨(hpb8.nd k hk).1.grow p3.grow,(hpb8.nd k hk).2⟩,fun e=>?_⟩
     rcases hpb8.st.ok with ⟨h,_⟩ | ⟨b2,f2,h,_,_,_,h5⟩
     ·rw [h] at e; cases e
     ·rw [h] at e; cases e
      have:=(List.getElem?_eq_some_iff.1 h5).1; omega
    have so8:slotOk (.tmp 60) (.slice a8 1 m8)=true:=by rcases s8.loc with h | ⟨b,o,h⟩ <;> rw [h] <;> rfl
    have ce:cells encI [z]=[.int .i64 z]:=rfl
    simp only [ce,List.length_singleton] at qe
    simp (maxDischargeDepth:=8) only [↓SD,SU,SV,SW,simprocAttr,Int.cast_ofNat_Int,small,resV, q105x0,t0,t2,t5,t37,t38,t39,s0,s1, lt_nat,hjN,la5,iar,fr,ho6,la6,hlo6,iaw,fw,k131,vv_ixa1,seq1,z3,k129b,vv_sll',c7',la7,ho8',la8,hlo8,so8,qe,p1,lba,lsa,hw,k_fixb,sget_sset]
    exact ih _ ⟨_,_,(H9),(some ⟨H8.length,0,none⟩),(bl+1),(1),(sa),(sl),(sm),(_),rfl,(by simp [get_set,t0] <;> omega),(by simp [get_set,t2] <;> omega),(by simp [get_set,t5] <;> omega),(by simp [get_set,t37] <;> omega),(by simp [get_set,t38] <;> omega),(by simp [get_set,t39] <;> omega),by simp [sget_sset,s0],by simp [sget_sset,s1],⟨⟨_,xs,hfo',hpb9,hnp',hbA⟩,u9,p4,by omega⟩⟩
   ·cases hrow
  ·rw [if_neg hbd] at hrow
   rw [decide_eq_false (show ¬W.getD 0 []=[98,111,97,114,100] from hbd)] at seq1
   split at hrow
   ·rename_i hl5
    have hnWfive:nW=5:=by omega
    subst hnWfive
    split at hrow
    ·rename_i l3 nd hl3 hnd
     cases hrow
     obtain ⟨hl3l,_⟩:=numsW_b hl3
     have hl33:l3.length=3:=by rw [hl3l,List.length_take,List.length_drop]; omega
     have z3:(((5:Nat):Int)=5)=True:=eq_true rfl
     have k129b:=c129t ⟨r.toArray⟩ H6
     obtain ⟨a7,m7,c7,s7⟩:=s6.cut m6 1 4 (by omega) (by omega)
     have c7':VOp.ev.slc 1 a6 5 m6 1 4=some (.slice a7 3 m7):=c7
     have la7:isLoc (.slice a7 3 m7)=false:=s7.isLoc m7
     obtain ⟨o,ho8,q8⟩:=c130 (kk:=m7) s7 (by omega) H6 (Grow.refl _)
     unfold QN at q8
     rw [hl3] at q8
     obtain ⟨a8,m8,H8,lo8,rfl,u8,hlo8,s8,_⟩:=q8
     have hF8:Fam H8:=famR ho8 hF6
     rw [hl33] at ho8 s8
     have ho8':R (.func 130) [.slice a7 3 m7] H6=some ⟨.ok (.slice a8 3 m8),H8,lo8⟩:=ho8
     have la8:=s8.isLoc m8
     have h8:=u8.len
     have u58:=u6.trans u8
     obtain ⟨e0b,e0o,ie0,fe0⟩:=n_at (m:=m8) s8 (i:=0) (by decide)
     replace ie0:vv (.ia 1) [.slice a8 3 m8,.int .i64 0]=some (.pointer (some ⟨e0b,e0o,none⟩)):=ie0
     have fe0:=fe0 H8 (Grow.refl _)
     obtain ⟨e1b,e1o,ie1,fe1⟩:=n_at (m:=m8) s8 (i:=1) (by decide)
     replace ie1:vv (.ia 1) [.slice a8 3 m8,.int .i64 1]=some (.pointer (some ⟨e1b,e1o,none⟩)):=ie1
     have fe1:=fe1 H8 (Grow.refl _)
     obtain ⟨e2b,e2o,ie2,fe2⟩:=n_at (m:=m8) s8 (i:=2) (by decide)
     replace ie2:vv (.ia 1) [.slice a8 3 m8,.int .i64 2]=some (.pointer (some ⟨e2b,e2o,none⟩)):=ie2
     have fe2:=fe2 H8 (Grow.refl _)
     obtain ⟨wb,wo,iwf,fwf⟩:=s_at (m:=m6) s6 (i:=0) (by omega)
     have fw8:rdO (hcells H8 bw) offw none=some (.string ⟨(W.getD 0 []).toArray⟩):=by
      obtain ⟨b',o',i',f'⟩:=s_at (m:=m6) s6 (i:=0) (by omega)
      have i'':vv (.ia 1) [.slice a6 5 m6,.int .i64 0]=some (.pointer (some ⟨b',o',none⟩)):=i'
      rw [iaw] at i''
      cases i''
      exact f' H8 u8.grow
     obtain ⟨n4b,n4o,in4,fn4⟩:=s_at (m:=m6) s6 (i:=4) (by omega)
     replace in4:vv (.ia 1) [.slice a6 5 m6,.int .i64 4]=some (.pointer (some ⟨n4b,n4o,none⟩)):=in4
     have fn4:=fn4 H8 u8.grow
     have k131b:=c131 H8
     have seq3:=vv_seq' (W.getD 0 []) [114,111,117,110,100]
     have bl1:∀x y:Int,vv (.bld [.int .i64 0,.int .i64 0] [(0,1),(1,1)]) [.int .i64 x,.int .i64 y]=some (.agg #[.int .i64 x,.int .i64 y]):=fun x y=>by rw [vv_of (by rfl)]; rfl
     have bl2:∀(x y z:Int) (q:Bool),vv (.bld [.int .i64 0,.bool false,.int .i64 0,.int .i64 0,.slice none 0 0] [(0,1),(2,2),(1,1)]) [.int .i64 x,.agg #[.int .i64 y,.int .i64 z],.bool q]=some (.agg #[.int .i64 x,.bool q,.int .i64 y,.int .i64 z,.slice none 0 0]):=fun x y z q=>by rw [vv_of (by rfl)]; rfl
     have sne:=vv_sne' (W.getD 4 []) [45]
     have hsl:sl=b.strokes.length:=by rw [hpb.eq,List.length_map]; exact (hpb.st.sl eK_len (by decide)).len.symm
     have hln:=hnp.ln
     have hR:decide (W.getD 0 []=[114,111,117,110,100])=decide (W.getD 0 []=wRound):=rfl
     rw [hR] at seq3
     obtain ⟨RR,hRR⟩:∃RR,decide (W.getD 0 []=wRound)=RR:=⟨_,rfl⟩
     rw [hRR] at seq3
     by_cases hdash:W.getD 4 []=[45]
     ·rw [decide_eq_true hdash] at sne
      have hnd0:nd=[]:=by unfold needW at hnd; rw [if_pos hdash] at hnd; cases hnd; rfl
      subst hnd0
      have hpb8:=hpb.up u58
      obtain ⟨H9,p1,p2,p3,p4⟩:=hpb8.st.appF hF8 (by decide) (by decide) (by omega) (by omega) [.int .i64 (l3.getD 0 0),.bool RR,.int .i64 (l3.getD 1 0),.int .i64 (l3.getD 2 0),.slice none 0 0] rfl
      have u9:Up H4 H9:=p3.up hpb8.st (hu.trans u58) (Nat.le_refl _)
      have h9:=u9.len
      have hpb9:PB H4.length H9 ba bl bm (some ⟨H8.length,0,none⟩) (sl+1) 5 ⟨b.app,b.boards,b.strokes++[strokeW W l3 []]⟩ (xs++[⟨strokeW W l3 [],none,0,0⟩]):=by
       refine ⟨hpb8.bo.grown' p3 hpb.ne,by rw [cells_app,show eK (⟨strokeW W l3 [],none,0,0⟩:Sk)=[.int .i64 (l3.getD 0 0),.bool RR,.int .i64 (l3.getD 1 0),.int .i64 (l3.getD 2 0),.slice none 0 0] by unfold eK strokeW; simp only; rw [hRR]]; exact p2,by rw [List.map_append,←hpb.eq]; rfl,fun k hk=>?_,fun e=>?_⟩
       ·rcases List.mem_append.1 hk with hk | hk
        ·exact ⟨(hpb8.nd k hk).1.grow p3.grow,(hpb8.nd k hk).2⟩
        ·rw [List.mem_singleton.1 hk]; exact ⟨Sl.none,.inl rfl⟩
       ·rcases hpb8.bo.ok with ⟨h,_⟩ | ⟨b2,f2,h,_,_,_,h5⟩
        ·exact h
        ·rw [h] at e; cases e
         have:=(List.getElem?_eq_some_iff.1 h5).1; omega
      simp (maxDischargeDepth:=8) only [↓SD,SU,SV,SW,simprocAttr,Int.cast_ofNat_Int,small,resV, q105x0,t0,t2,t5,t37,t38,t39,s0,s1, lt_nat,hjN,la5,iar,fr,ho6,la6,hlo6,iaw,fw,fw8,k131,k131b,vv_ixa1,vv_ixa3,seq1,seq3,z3,k129b,vv_slc,c7',la7,ho8',la8,hlo8,ie0,fe0,ie1,fe1,ie2,fe2,in4,fn4,bl1,bl2,sne,p1,lba,lsa,hw,so_loc,k_fixb,sget_sset]
      exact ih _ ⟨_,_,(H9),(ba),(bl),(bm),(some ⟨H8.length,0,none⟩),(sl+1),(5),(_),rfl,(by simp [get_set,t0] <;> omega),(by simp [get_set,t2] <;> omega),(by simp [get_set,t5] <;> omega),(by simp [get_set,t37] <;> omega),(by simp [get_set,t38] <;> omega),(by simp [get_set,t39] <;> omega),by simp [sget_sset,s0],by simp [sget_sset,s1],⟨⟨_,_,hfo',hpb9,hnp',hbA⟩,u9,p4,by omega⟩⟩
     ·rw [decide_eq_false hdash] at sne
      have hnd':numsW (spl 44 (W.getD 4 []))=some nd:=by unfold needW at hnd; rw [if_neg hdash] at hnd; exact hnd
      have hW4:(W.getD 4 []).length≤290:=by
       rw [List.getD_eq_getElem?_getD]
       cases e:W[4]? with
       | none=>simp
       | some p=>have:=(spl_parts (c:=32) r).2 p (by rw [hW]; exact List.mem_of_getElem? e); simp; omega
      obtain ⟨o,hoA,aA,mA,HA,loA,rfl,uA,hloA,sA⟩:=c128 (W.getD 4 []) 44 (by omega) H8 hF8
      have hFA:Fam HA:=famR hoA hF8
      have laA:=sA.isLoc mA
      have hAl:=uA.len
      have hsA:(spl 44 (W.getD 4 [])).length≤291:=by rw [spl_len]; have:=List.count_le_length (a:=44) (l:=W.getD 4 []); omega
      obtain ⟨o,hoB,qB⟩:=c130 (kk:=mA) sA (by omega) HA (Grow.refl _)
      unfold QN at qB
      rw [hnd'] at qB
      obtain ⟨aB,mB,HB,loB,rfl,uB,hloB,sB,nB⟩:=qB
      have hFB:Fam HB:=famR hoB hFA
      have laB:=sB.isLoc mB
      have hBl:=uB.len
      have u5B:=(u58.trans uA).trans uB
      have hpb8:=hpb.up u5B
      obtain ⟨H9,p1,p2,p3,p4⟩:=hpb8.st.appF hFB (by decide) (by decide) (by omega) (by omega) [.int .i64 (l3.getD 0 0),.bool RR,.int .i64 (l3.getD 1 0),.int .i64 (l3.getD 2 0),.slice aB nd.length mB] rfl
      have u9:Up H4 H9:=p3.up hpb8.st (hu.trans u5B) (Nat.le_refl _)
      have h9:=u9.len
      have hpb9:PB H4.length H9 ba bl bm (some ⟨HB.length,0,none⟩) (sl+1) 5 ⟨b.app,b.boards,b.strokes++[strokeW W l3 nd]⟩ (xs++[⟨strokeW W l3 nd,aB,nd.length,mB⟩]):=by
       refine ⟨hpb8.bo.grown' p3 hpb.ne,by rw [cells_app,show eK (⟨strokeW W l3 nd,aB,nd.length,mB⟩:Sk)=[.int .i64 (l3.getD 0 0),.bool RR,.int .i64 (l3.getD 1 0),.int .i64 (l3.getD 2 0),.slice aB nd.length mB] by unfold eK strokeW; simp only; rw [hRR]]; exact p2,by rw [List.map_append,←hpb.eq]; rfl,fun k hk=>?_,fun e=>?_⟩
       ·rcases List.mem_append.1 hk with hk | hk
        ·exact ⟨(hpb8.nd k hk).1.grow p3.grow,(hpb8.nd k hk).2⟩
        ·rw [List.mem_singleton.1 hk]; exact ⟨sB.grow p3.grow,nB.less (by omega)⟩
       ·rcases hpb8.bo.ok with ⟨h,_⟩ | ⟨b2,f2,h,_,_,_,h5⟩
        ·exact h
        ·rw [h] at e; cases e
         have:=(List.getElem?_eq_some_iff.1 h5).1; omega
      simp (maxDischargeDepth:=8) only [↓SD,SU,SV,SW,simprocAttr,Int.cast_ofNat_Int,small,resV, q105x0,t0,t2,t5,t37,t38,t39,s0,s1, lt_nat,hjN,la5,iar,fr,ho6,la6,hlo6,iaw,fw,fw8,k131,k131b,vv_ixa1,vv_ixa3,seq1,seq3,z3,k129b,vv_slc,c7',la7,ho8',la8,hlo8,ie0,fe0,ie1,fe1,ie2,fe2,in4,fn4,bl1,bl2,sne,hoA,laA,hoB,laB,p1,lba,lsa,hw,so_loc,k_fixb,sget_sset]
      exact ih _ ⟨_,_,(H9),(ba),(bl),(bm),(some ⟨HB.length,0,none⟩),(sl+1),(5),(_),rfl,(by simp [get_set,t0] <;> omega),(by simp [get_set,t2] <;> omega),(by simp [get_set,t5] <;> omega),(by simp [get_set,t37] <;> omega),(by simp [get_set,t38] <;> omega),(by simp [get_set,t39] <;> omega),by simp [sget_sset,s0],by simp [sget_sset,s1],⟨⟨_,_,hfo',hpb9,hnp',hbA⟩,u9,p4,by omega⟩⟩
    ·cases hrow
   ·cases hrow
 ·rintro c' s ⟨T,S,H5,ba,bl,bm,sa,sl,sm,lim,rfl,t0,t2,t5,t37,t38,t39,s0,s1,⟨b,xs,hfo,hpb,hnp,hbA⟩,hu,hF5,hlim⟩
  rcases hend with e | ⟨b',r,hr,hfo',hrow,hnone⟩
  ·have z0:(((K:Nat):Int) < ((N:Nat):Int))=False:=eq_false (by omega)
   rw [List.take_of_length_le (by omega)] at hfo
   have hpar2:parseP t=parseT (some b) t:=by
    rw [hpar]
    show parseT (foldP ⟨A,[],[]⟩ (rowsP t)) t=_
    rw [hfo]
   by_cases htx:textT b=t
   case neg =>
    have hpar3:parseP t=none:=by rw [hpar2]; unfold parseT; simp only; rw [if_neg htx]
    have hbe:BeOk H5 ⟨A,ba,bl,bm,sa,sl,sm,xs⟩ b:=⟨hbA.symm,hpb.bo.sl encI_len (by decide),hpb.st.sl eK_len (by decide),fun k hk=>(hpb.nd k hk).1,hpb.eq⟩
    have hnb:=hnp.nub (by omega)
    have k103:=c103 hbe hnb H5 (Grow.refl _)
    have seq:=vv_seq' (textT b) t
    rw [decide_eq_false htx] at seq
    have k129c:=c129f ⟨t.toArray⟩ H5
    have lba:∀x y,isLoc (.slice ba x y)=false:=hpb.bo.isLoc
    have lsa:∀x y,isLoc (.slice sa x y)=false:=hpb.st.isLoc
    have hul:=hu.len
    simp (maxDischargeDepth:=8) only [↓SD,SU,SV,SW,simprocAttr,Int.cast_ofNat_Int,small,resV, q105x0,t0,t2,t5,t37,t38,t39,s0,s1,z0,k103,seq,k129c,lba,lsa,sget_sset,R105,N105]
    exact fin hpar3 _ _ _ (by omega)
   have hpar3:parseP t=some b:=by rw [hpar2]; unfold parseT; simp only; rw [if_pos htx]
   have hbl:bl=b.boards.length:=(hpb.bo.sl encI_len (by decide)).len.symm
   have hbe:BeOk H5 ⟨A,ba,bl,bm,sa,sl,sm,xs⟩ b:=⟨hbA.symm,hpb.bo.sl encI_len (by decide),hpb.st.sl eK_len (by decide),fun k hk=>(hpb.nd k hk).1,hpb.eq⟩
   have hnw:Nw H'.length ba∧Nw H'.length sa∧∀k∈xs,Nw H'.length k.a:=⟨(bld_nw hpb.bo).less (by omega),(bld_nw hpb.st).less (by omega),fun k hk=>(hpb.nd k hk).2.less (by omega)⟩
   have hnb:=hnp.nub (by omega)
   have k103:=c103 hbe hnb H5 (Grow.refl _)
   rw [htx] at k103
   have seq:=vv_seq' t t
   rw [decide_eq_true rfl] at seq
   have k129c:=c129t ⟨t.toArray⟩ H5
   have lba:∀x y,isLoc (.slice ba x y)=false:=hpb.bo.isLoc
   have lsa:∀x y,isLoc (.slice sa x y)=false:=hpb.st.isLoc
   have hul:=hu.len
   simp (maxDischargeDepth:=8) only [↓SD,SU,SV,SW,simprocAttr,Int.cast_ofNat_Int,small,resV, q105x0,t0,t2,t5,t37,t38,t39,s0,s1,z0,k103,seq,k129c,lba,lsa,sget_sset,R105,N105]
   rw [yes_some]
   unfold QPa
   rw [hpar3]
   have u5:Up H' H5:=(u1.trans u2).trans (u4.trans hu)
   by_cases hfl:flat 4 (.agg #[.int .i64 A,.slice ba bl bm,.slice sa sl sm])=true
   ·rw [gc_ite (by omega),if_pos hfl]
    have hfl':flat 3 (.slice ba bl bm)=true∧flat 3 (.slice sa sl sm)=true:=by simpa [flat] using hfl
    have hx0:xs=[]:=by
     rcases hpb.st.ok with ⟨_,h,_⟩ | ⟨b2,f2,h,_⟩
     ·have:=hbe.st.len; exact List.eq_nil_of_length_eq_zero (by show xs.length=0; simp only at this; omega)
     ·rw [h] at hfl'; simp [flat] at hfl'
    exact ⟨⟨A,ba,bl,bm,sa,sl,sm,xs⟩,H',H'.length,rfl,Up.refl _,Nat.le_refl _,⟨hbA.symm,hbe.br.flat hfl'.1,hbe.st.flat hfl'.2,fun k hk=>(by rw [hx0] at hk; cases hk),hpb.eq⟩,hnb,hnw⟩
   ·rw [gc_ite (by omega),if_neg hfl]
    exact ⟨⟨A,ba,bl,bm,sa,sl,sm,xs⟩,H5,_,rfl,u5,by omega,hbe,hnb,hnw⟩
  ·have hno:parseP t=none:=by
    rw [hpar]
    show parseT (foldP ⟨A,[],[]⟩ (rowsP t)) t=none
    rw [hnone]; rfl
   rw [hfo] at hfo'
   cases hfo'
   have hjN:K < N:=by have:=(List.getElem?_eq_some_iff.1 hr).1; omega
   have hul:=hu.len
   have hrl:=hRl r (List.mem_of_getElem? hr)
   obtain ⟨br,offr,iar,fr⟩:=s_at (m:=m5) s5 (i:=K) hjN
   have fr:=fr H5 (g4.trans hu.grow)
   have er:(rowsP t).getD K []=r:=by rw [List.getD_eq_getElem?_getD,hr]; rfl
   rw [er] at fr
   obtain ⟨o,ho6,a6,m6,H6,lo6,rfl,u6,hlo6,s6⟩:=c128 r 32 (by omega) H5 hF5
   have hF6:Fam H6:=famR ho6 hF5
   have la6:=s6.isLoc m6
   have h6:=u6.len
   obtain ⟨W,hW⟩:∃W,spl 32 r=W:=⟨_,rfl⟩
   have hWne:=spl_len1 32 r
   have hWl:W.length≤291:=by rw [←hW,spl_len]; have:=List.count_le_length (a:=32) (l:=r); omega
   rw [hW] at ho6 s6 la6 hWne
   unfold rowP at hrow
   rw [hW] at hrow
   obtain ⟨nW,hnW⟩:∃nW,W.length=nW:=⟨_,rfl⟩
   rw [hnW] at ho6 s6 la6 hWne hWl
   obtain ⟨bw,offw,iaw,fw⟩:=s_at (m:=m6) s6 (i:=0) (by omega)
   replace iaw:vv (.ia 1) [.slice a6 nW m6,.int .i64 0]=some (.pointer (some ⟨bw,offw,none⟩)):=iaw
   have fw:=fw H6 (Grow.refl _)
   have k131:=c131 H6
   have seq1:=vv_seq' (W.getD 0 []) [98,111,97,114,100]
   have lba:∀x y,isLoc (.slice ba x y)=false:=hpb.bo.isLoc
   have lsa:∀x y,isLoc (.slice sa x y)=false:=hpb.st.isLoc
   by_cases hbd:W.getD 0 []=wBoard
   ·rw [if_pos hbd] at hrow
    rw [decide_eq_true (show W.getD 0 []=[98,111,97,114,100] from hbd)] at seq1
    split at hrow
    ·rename_i hl2
     have hnWtwo:nW=2:=by omega
     subst hnWtwo
     rw [Option.map_eq_none_iff] at hrow
     have z3:(((2:Nat):Int)=2)=True:=eq_true rfl
     have k129b:=c129t ⟨r.toArray⟩ H6
     obtain ⟨a7,m7,c7,s7⟩:=s6.cut m6 1 2 (by omega) (Nat.le_refl _)
     have hd7:(W.drop 1).take (2 - 1)=W.drop 1:=List.take_of_length_le (by rw [List.length_drop]; omega)
     rw [hd7] at s7
     have c7':VOp.ev.slc 1 a6 2 m6 1 2=some (.slice a7 1 m7):=c7
     have la7:isLoc (.slice a7 1 m7)=false:=s7.isLoc m7
     obtain ⟨o,ho8,q8⟩:=c130 (kk:=m7) s7 (by omega) H6 (Grow.refl _)
     unfold QN at q8
     rw [hrow] at q8
     obtain ⟨w,rfl⟩:=q8
     have ho8':R (.func 130) [.slice a7 1 m7] H6=some ⟨.panic (.iface 142 (.agg #[.string w])),H6,H6.length⟩:=ho8
     simp (maxDischargeDepth:=8) only [↓SD,SU,SV,SW,simprocAttr,Int.cast_ofNat_Int,small,resV, q105x0,t0,t2,t5,t37,t38,t39,s0,s1,lt_nat,hjN,la5,iar,fr,ho6,la6,hlo6,iaw,fw,k131,vv_ixa1,seq1,z3,k129b,vv_sll',c7',la7,ho8',lba,lsa,k_fixb,sget_sset,rD_pan,N105]
     exact fin hno _ _ _ (by omega)
    ·rename_i hl2
     have z3:(((nW:Nat):Int)=2)=False:=eq_false (by omega)
     have k129b:=c129f ⟨r.toArray⟩ H6
     simp (maxDischargeDepth:=8) only [↓SD,SU,SV,SW,simprocAttr,Int.cast_ofNat_Int,small,resV, q105x0,t0,t2,t5,t37,t38,t39,s0,s1,lt_nat,hjN,la5,iar,fr,ho6,la6,hlo6,iaw,fw,k131,vv_ixa1,seq1,z3,k129b,lba,lsa,k_fixb,sget_sset,N105]
     exact fin hno _ _ _ (by omega)
   ·rw [if_neg hbd] at hrow
    rw [decide_eq_false (show ¬W.getD 0 []=[98,111,97,114,100] from hbd)] at seq1
    split at hrow
    ·rename_i hl5
     have hnWfive:nW=5:=by omega
     subst hnWfive
     have z3:(((5:Nat):Int)=5)=True:=eq_true rfl
     have k129b:=c129t ⟨r.toArray⟩ H6
     obtain ⟨a7,m7,c7,s7⟩:=s6.cut m6 1 4 (by omega) (by omega)
     have c7':VOp.ev.slc 1 a6 5 m6 1 4=some (.slice a7 3 m7):=c7
     have la7:isLoc (.slice a7 3 m7)=false:=s7.isLoc m7
     obtain ⟨o,ho8,q8⟩:=c130 (kk:=m7) s7 (by omega) H6 (Grow.refl _)
     unfold QN at q8
     cases hl3:numsW ((W.drop 1).take 3) with
     | none =>
      rw [hl3] at q8
      obtain ⟨w,rfl⟩:=q8
      have ho8':R (.func 130) [.slice a7 3 m7] H6=some ⟨.panic (.iface 142 (.agg #[.string w])),H6,H6.length⟩:=ho8
      simp (maxDischargeDepth:=8) only [↓SD,SU,SV,SW,simprocAttr,Int.cast_ofNat_Int,small,resV, q105x0,t0,t2,t5,t37,t38,t39,s0,s1,lt_nat,hjN,la5,iar,fr,ho6,la6,hlo6,iaw,fw,k131,vv_ixa1,seq1,z3,k129b,vv_slc,c7',la7,ho8',lba,lsa,k_fixb,sget_sset,N105]
      exact fin hno _ _ _ (by omega)
     | some l3 =>
      rw [hl3] at q8 hrow
      have hnd:needW (W.getD 4 [])=none:=by
       cases e:needW (W.getD 4 []) with
       | none=>rfl
       | some nd=>rw [e] at hrow; cases hrow
      obtain ⟨hl3l,_⟩:=numsW_b hl3
      have hl33:l3.length=3:=by rw [hl3l,List.length_take,List.length_drop]; omega
      obtain ⟨a8,m8,H8,lo8,rfl,u8,hlo8,s8,_⟩:=q8
      have hF8:Fam H8:=famR ho8 hF6
      rw [hl33] at ho8 s8
      have ho8':R (.func 130) [.slice a7 3 m7] H6=some ⟨.ok (.slice a8 3 m8),H8,lo8⟩:=ho8
      have la8:=s8.isLoc m8
      have h8:=u8.len
      obtain ⟨e0b,e0o,ie0,fe0⟩:=n_at (m:=m8) s8 (i:=0) (by decide)
      replace ie0:vv (.ia 1) [.slice a8 3 m8,.int .i64 0]=some (.pointer (some ⟨e0b,e0o,none⟩)):=ie0
      have fe0:=fe0 H8 (Grow.refl _)
      obtain ⟨e1b,e1o,ie1,fe1⟩:=n_at (m:=m8) s8 (i:=1) (by decide)
      replace ie1:vv (.ia 1) [.slice a8 3 m8,.int .i64 1]=some (.pointer (some ⟨e1b,e1o,none⟩)):=ie1
      have fe1:=fe1 H8 (Grow.refl _)
      obtain ⟨e2b,e2o,ie2,fe2⟩:=n_at (m:=m8) s8 (i:=2) (by decide)
      replace ie2:vv (.ia 1) [.slice a8 3 m8,.int .i64 2]=some (.pointer (some ⟨e2b,e2o,none⟩)):=ie2
      have fe2:=fe2 H8 (Grow.refl _)
      have fw8:rdO (hcells H8 bw) offw none=some (.string ⟨(W.getD 0 []).toArray⟩):=by
       obtain ⟨b',o',i',f'⟩:=s_at (m:=m6) s6 (i:=0) (by omega)
       have i'':vv (.ia 1) [.slice a6 5 m6,.int .i64 0]=some (.pointer (some ⟨b',o',none⟩)):=i'
       rw [iaw] at i''
       cases i''
       exact f' H8 u8.grow
      obtain ⟨n4b,n4o,in4,fn4⟩:=s_at (m:=m6) s6 (i:=4) (by omega)
      replace in4:vv (.ia 1) [.slice a6 5 m6,.int .i64 4]=some (.pointer (some ⟨n4b,n4o,none⟩)):=in4
      have fn4:=fn4 H8 u8.grow
      have k131b:=c131 H8
      have seq3:=vv_seq' (W.getD 0 []) [114,111,117,110,100]
      have bl1:∀x y:Int,vv (.bld [.int .i64 0,.int .i64 0] [(0,1),(1,1)]) [.int .i64 x,.int .i64 y]=some (.agg #[.int .i64 x,.int .i64 y]):=fun x y=>by rw [vv_of (by rfl)]; rfl
      have bl2:∀(x y z:Int) (q:Bool),vv (.bld [.int .i64 0,.bool false,.int .i64 0,.int .i64 0,.slice none 0 0] [(0,1),(2,2),(1,1)]) [.int .i64 x,.agg #[.int .i64 y,.int .i64 z],.bool q]=some (.agg #[.int .i64 x,.bool q,.int .i64 y,.int .i64 z,.slice none 0 0]):=fun x y z q=>by rw [vv_of (by rfl)]; rfl
      have sne:=vv_sne' (W.getD 4 []) [45]
      obtain ⟨RR,hRR⟩:∃RR,decide (W.getD 0 []=[114,111,117,110,100])=RR:=⟨_,rfl⟩
      rw [hRR] at seq3
      have hdash:¬W.getD 4 []=[45]:=fun e=>by unfold needW at hnd; rw [if_pos e] at hnd; cases hnd
      rw [decide_eq_false hdash] at sne
      have hnd':numsW (spl 44 (W.getD 4 []))=none:=by unfold needW at hnd; rw [if_neg hdash] at hnd; exact hnd
      have hW4:(W.getD 4 []).length≤290:=by
       rw [List.getD_eq_getElem?_getD]
       cases e:W[4]? with
       | none=>simp
       | some p=>have:=(spl_parts (c:=32) r).2 p (by rw [hW]; exact List.mem_of_getElem? e); simp; omega
      obtain ⟨o,hoA,aA,mA,HA,loA,rfl,uA,hloA,sA⟩:=c128 (W.getD 4 []) 44 (by omega) H8 hF8
      have hFA:Fam HA:=famR hoA hF8
      have laA:=sA.isLoc mA
      have hAl:=uA.len
      have hsA:(spl 44 (W.getD 4 [])).length≤291:=by rw [spl_len]; have:=List.count_le_length (a:=44) (l:=W.getD 4 []); omega
      obtain ⟨o,hoB,qB⟩:=c130 (kk:=mA) sA (by omega) HA (Grow.refl _)
      unfold QN at qB
      rw [hnd'] at qB
      obtain ⟨w,rfl⟩:=qB
      simp (maxDischargeDepth:=8) only [↓SD,SU,SV,SW,simprocAttr,Int.cast_ofNat_Int,small,resV, q105x0,t0,t2,t5,t37,t38,t39,s0,s1,lt_nat,hjN,la5,iar,fr,ho6,la6,hlo6,iaw,fw,fw8,k131,k131b,vv_ixa1,vv_ixa3,seq1,seq3,z3,k129b,vv_slc,c7',la7,ho8',la8,hlo8,ie0,fe0,ie1,fe1,ie2,fe2,in4,fn4,bl1,bl2,sne,hoA,laA,hoB,lba,lsa,so_loc,k_fixb,sget_sset,N105]
      exact fin hno _ _ _ (by omega)
    ·rename_i hl5
     have z3:(((nW:Nat):Int)=5)=False:=eq_false (by omega)
     have k129b:=c129f ⟨r.toArray⟩ H6
     simp (maxDischargeDepth:=8) only [↓SD,SU,SV,SW,simprocAttr,Int.cast_ofNat_Int,small,resV, q105x0,t0,t2,t5,t37,t38,t39,s0,s1,lt_nat,hjN,la5,iar,fr,ho6,la6,hlo6,iaw,fw,k131,vv_ixa1,seq1,z3,k129b,lba,lsa,k_fixb,sget_sset,N105]
     exact fin hno _ _ _ (by omega)
end Go.Pi.L.Ben
