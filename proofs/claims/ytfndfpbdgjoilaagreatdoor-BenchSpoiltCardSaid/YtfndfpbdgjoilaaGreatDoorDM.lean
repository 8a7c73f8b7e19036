/- Benches: Read of a text that is one. -/
import Derived.Test.YtfndfpbdgjoilaaGreatDoorDL
import Derived.Test.YtfndfpbdgjoilaaGreatDoorDF
import Derived.Test.YtfndfpbdgjoilaaGreatDoorDJ
import Derived.Test.YtfndfpbdgjoilaaGreatDoorDE
set_option linter.all false
set_option maxRecDepth 100000
namespace Go.Pi.L.Ben
open Go Go.Pi Go.Pi.L Go.Pi.E Go.Pi.Ben BM Go.Pi.Q

theorem Nw.mv {β:Type}{H:Heap}{n y k l:Nat}{enc:β→List Value}{a:Option Addr}{xs:List β}(h:Sl H k enc a l xs)(hn:Nw n a)(hy:y < n)(c:Blk):Sl (H.set y c) k enc a l xs:=by
 rcases hn with rfl | ⟨b,off,rfl,hb⟩
 ·exact ⟨h.len,.inl rfl,fun j x hx=>by obtain ⟨b,off,c,h1,_⟩:=h.rd j x hx; cases h1⟩
 ·refine ⟨h.len,h.loc,fun j x hx=>?_⟩
  obtain ⟨b',off',c',h1,h2,h3⟩:=h.rd j x hx
  refine ⟨b',off',c',h1,?_,h3⟩
  cases h1
  unfold hcells at h2 ⊢
  rw [List.getElem?_set_ne (by omega)]; exact h2
theorem gc_not {H H1:Heap}{lo:Nat}{v:Value}(h:lo < H.length):gcR H (.ok v) H1 lo=⟨.ok v,H1,lo⟩:=by
 unfold gcR; rw [if_neg (fun h'=>by have:=h'.1; omega)]
theorem c104 {H:Heap}{x y:Nat}{t:List UInt8}{b:Bench}(hx:hcells H x=some [.string ⟨t.toArray⟩])(hy:H[y]?=some ⟨.cells [.int .i64 0,.slice none 0 0,.slice none 0 0],true,true,none⟩)(ht:t.length≤290)(hp:parseP t=some b)(hF:Fam H) :
  ∃(r:BeR) (H1:Heap) (lo:Nat),R (.func 104) [.pointer (some ⟨x,0,none⟩),.pointer (some ⟨y,0,none⟩)] H=some ⟨.ok (.tuple #[]),H1.set y { obj:=.cells [.int .i64 r.app,.slice r.ba r.bl r.bk,.slice r.sa r.sl r.sk] },lo⟩∧Up H H1∧lo=y∧BeOk (H1.set y { obj:=.cells [.int .i64 r.app,.slice r.ba r.bl r.bk,.slice r.sa r.sl r.sk] }) r b∧NuB b∧isLoc (.slice r.ba r.bl r.bk)=false∧isLoc (.slice r.sa r.sl r.sk)=false:=by
 obtain ⟨o,ho,hq⟩:=c105 t ht H hF
 unfold QPa at hq
 rw [hp] at hq
 obtain ⟨r,H1,lo1,rfl,u1,hlo1,hbe,hnb,n1,n2,n3⟩:=hq
 have hyl:=lt_of_get hy
 have l1:=hbe.br.isLoc r.bk
 have l2:=hbe.st.isLoc r.sk
 have hy1:H1[y]?=some ⟨.cells [.int .i64 0,.slice none 0 0,.slice none 0 0],true,true,none⟩:=by rw [u1.old _ hyl]; exact hy
 obtain ⟨H2,hH2⟩:∃H2,H1.set y { obj:=.cells [.int .i64 r.app,.slice r.ba r.bl r.bk,.slice r.sa r.sl r.sk] }=H2:=⟨_,rfl⟩
 have hul:=u1.len
 have key:Yes (R (.func 104) [.pointer (some ⟨x,0,none⟩),.pointer (some ⟨y,0,none⟩)] H) (fun o=>∃lo,o=⟨.ok (.tuple #[]),H2,lo⟩∧lo=y):=by
  refine run_y (pr 104) P104 (by simp [p104]) rfl ?_
  simp (maxDischargeDepth:=8) only [↓SD,SU,SV,SW,simprocAttr,Int.cast_ofNat_Int,small,resV, B104,R104,N104,b104, hx,ho,l1,l2,hy1,stH_ok,hH2,R104,N104]
  rw [yes_some]
  refine ⟨min (min H.length lo1) y,?_,by omega⟩
  unfold gcR
  rw [if_neg (by simp; omega)]
 obtain ⟨o,ho2,lo,rfl,hlo⟩:=key
 refine ⟨r,H1,lo,by rw [hH2]; exact ho2,u1,hlo,?_,hnb,l1,l2⟩
 exact ⟨hbe.app,Nw.mv hbe.br n1 hyl _,Nw.mv hbe.st n2 hyl _,fun k hk=>Nw.mv (hbe.nd k hk) (n3 k hk) hyl _,hbe.eq⟩
theorem d119n (call:CallT)(x y:Nat)(H:Heap) :
  drunL PP primsL call (.func 119) [.pointer (some ⟨x,0,none⟩),.pointer (some ⟨y,0,none⟩)] H none=some (H,H.length,none):=by
 rw [drun_rc (d:=6) (pr 119) P119 (by simp [p119]) rfl (by simp [p119])]
 simp (maxDischargeDepth:=8) only [↓SD,SU,SV,SW,simprocAttr,Int.cast_ofNat_Int,small,resV, B119,R119,N119,b119, Option.getD_none]
 exact dfin_n _ _ _ _ _ _ _ _ R119
theorem set_same {H:Heap}{i:Nat}{x:Blk}(h:H[i]?=some x):H.set i x=H:=by
 apply List.ext_getElem?
 intro j
 by_cases e:i=j
 ·subst e; rw [List.getElem?_set_self (lt_of_get h),h]
 ·rw [List.getElem?_set_ne e]
theorem c84n {g:FuncId}{caps:List Value}{H H3:Heap}{lo3:Nat}{v:Value}(hc:(caps.all fun v=>!isLoc v)=true)
  (hf:R (.func g) caps (H++[({ obj:=.cells [.slice none 0 0] }:Blk)]++[({ obj:=.cells [.int .i64 0] }:Blk)])=some ⟨.ok v,H3,lo3⟩)
  (hA:H3[H.length]?=some ⟨.cells [.slice none 0 0],true,true,none⟩) (hB:H3[H.length+1]?=some ⟨.cells [.int .i64 0],true,true,none⟩) :
  Yes (R (.func 84) [.func (.func g) #[] caps.toArray] H) (fun o=>∃lo,min lo3 H.length≤lo∧lo≤lo3∧o=gcR H (.ok (.tuple #[.slice none 0 0,.int .i64 0])) H3 lo):=by
 generalize hH:H++[({ obj:=.cells [.slice none 0 0] }:Blk)]++[({ obj:=.cells [.int .i64 0] }:Blk)]=H1 at hf
 have a0:H1.length=H.length+2:=by rw [←hH]; simp
 have rd1:hcells H3 H.length=some [.slice none 0 0]:=by unfold hcells; rw [hA]
 have rd2:hcells H3 (H.length+1)=some [.int .i64 0]:=by unfold hcells; rw [hB]
 have e1:H3.set H.length { obj:=.cells [.slice none 0 0] }=H3:=set_same hA
 have e2:H3.set (H.length+1) { obj:=.cells [.int .i64 0] }=H3:=set_same hB
 have d1:=fun call H=>d119n call H.length (H.length+1) H
 have d2:=fun call=>d119n call H.length (H.length+1) H3
 refine run_y (pr 84) P84 (by simp [p84]) rfl ?_
 simp (maxDischargeDepth:=8) only [↓SD,SU,SV,SW,simprocAttr,Int.cast_ofNat_Int,small,resV, B84,R84,N84,b84, List.length_singleton,hH,hc,hf,hA,hB,stH_ok,e1,e2,d2,rd1,rd2,a0,R84,N84]
 rw [yes_some]
 have hB3:=lt_of_get hB
 exact ⟨min (min (min (min H.length lo3) H.length) (H.length+1)) H3.length,by omega,by omega,rfl⟩
theorem c68 {t:List UInt8}{b:Bench}(ht:t.length≤180)(hp:parseP t=some b)(hB:isBench b=true)(H':Heap)(hF:Fam H') :
  ∃(r:BeR) (H1:Heap) (lo:Nat),R (.func 68) [.string ⟨t.toArray⟩] H'=some ⟨.ok (.tuple #[.agg #[.int .i64 r.app,.slice r.ba r.bl r.bk,.slice r.sa r.sl r.sk],.int .i64 0]),H1,lo⟩∧Up H' H1∧H'.length≤lo∧BeOk H1 r b:=by
 obtain ⟨Ha,hHa⟩:∃Ha,H'++[({ obj:=.cells [.string ⟨t.toArray⟩] }:Blk)]=Ha:=⟨_,rfl⟩
 obtain ⟨Hb,hHb⟩:∃Hb,Ha++[({ obj:=.cells [.int .i64 0,.slice none 0 0,.slice none 0 0] }:Blk)]=Hb:=⟨_,rfl⟩
 obtain ⟨Hc,hHc⟩:∃Hc,Hb++[({ obj:=.cells [.slice none 0 0] }:Blk)]++[({ obj:=.cells [.int .i64 0] }:Blk)]=Hc:=⟨_,rfl⟩
 have la:Ha.length=H'.length+1:=by rw [←hHa]; simp
 have lb:Hb.length=H'.length+2:=by rw [←hHb]; simp [la]
 have lc:Hc.length=H'.length+4:=by rw [←hHc]; simp [lb]
 have ua:Up H' Ha:=by rw [←hHa]; exact (Up.refl _).app
 have ub:Up Ha Hb:=by rw [←hHb]; exact (Up.refl _).app
 have uc:Up Hb Hc:=by rw [←hHc]; exact (Up.refl _).app.app
 have hFc:Fam Hc:=by
  rw [←hHc,←hHb,←hHa]
  exact (((hF.append (fun f h=>by cases h)).append (fun f h=>by cases h)).append (fun f h=>by cases h)).append (fun f h=>by cases h)
 have xa:Ha[H'.length]?=some ⟨.cells [.string ⟨t.toArray⟩],true,true,none⟩:=by rw [←hHa]; exact app_get
 have xb:Hb[Ha.length]?=some ⟨.cells [.int .i64 0,.slice none 0 0,.slice none 0 0],true,true,none⟩:=by rw [←hHb]; exact app_get
 have ya:Hc[H'.length]?=some ⟨.cells [.string ⟨t.toArray⟩],true,true,none⟩:=by rw [uc.old _ (by omega),ub.old _ (by omega)]; exact xa
 have yb:Hc[Ha.length]?=some ⟨.cells [.int .i64 0,.slice none 0 0,.slice none 0 0],true,true,none⟩:=by rw [uc.old _ (by omega)]; exact xb
 have yA:Hc[Hb.length]?=some ⟨.cells [.slice none 0 0],true,true,none⟩:=by rw [←hHc,List.append_assoc,List.getElem?_append_right (Nat.le_refl _)]; simp
 have yB:Hc[Hb.length+1]?=some ⟨.cells [.int .i64 0],true,true,none⟩:=by rw [←hHc,List.append_assoc,List.getElem?_append_right (by omega),Nat.add_sub_cancel_left]; rfl
 have hca:hcells Ha H'.length=some [.string ⟨t.toArray⟩]:=by unfold hcells; rw [xa]
 obtain ⟨r,H1,lo,k104,u1,hlo,hbe,hnb,l1,l2⟩:=c104 (x:=H'.length) (y:=Ha.length) (by unfold hcells; rw [ya]) yb (by omega) hp hFc
 obtain ⟨H2,hH2⟩:∃H2,H1.set Ha.length { obj:=.cells [.int .i64 r.app,.slice r.ba r.bl r.bk,.slice r.sa r.sl r.sk] }=H2:=⟨_,rfl⟩
 rw [hH2] at k104 hbe
 have h1l:=u1.len
 have e2:H2.length=H1.length:=by rw [←hH2]; simp
 have o2:∀i,i≠Ha.length→H2[i]?=H1[i]?:=fun i hi=>by rw [←hH2,List.getElem?_set_ne (fun e=>hi e.symm)]
 rw [←hHc] at k104
 obtain ⟨o,k84,lo2,hlo2,hlo3,ho⟩:=c84n (g:=104) (caps:=[.pointer (some ⟨H'.length,0,none⟩),.pointer (some ⟨Ha.length,0,none⟩)]) (H:=Hb) (by rfl) k104 (by rw [o2 _ (by omega),u1.old _ (by omega)]; exact yA) (by rw [o2 _ (by omega),u1.old _ (by omega)]; exact yB)
 rw [gc_not (by omega)] at ho
 subst ho
 have k84':R (.func 84) [.func (.func 104) #[] #[.pointer (some ⟨H'.length,0,none⟩),.pointer (some ⟨Ha.length,0,none⟩)]] Hb=some ⟨.ok (.tuple #[.slice none 0 0,.int .i64 0]),H2,lo2⟩:=k84
 have hcy:hcells H2 Ha.length=some [.int .i64 r.app,.slice r.ba r.bl r.bk,.slice r.sa r.sl r.sk]:=by
  unfold hcells; rw [←hH2,List.getElem?_set_self (by omega)]
 have u2:Up H' H2:=by rw [←hH2]; exact (((ua.trans ub).trans uc).trans u1).set (by omega)
 have hnb2:SmB r:=by
  have h1:=hbe.blen
  have h2:=hbe.len
  refine ⟨by have:=hnb.bo.2; omega,by have:=hnb.sl; omega,fun k hk=>?_⟩
  have hk2:k.s∈b.strokes:=by rw [hbe.eq]; exact List.mem_map_of_mem hk
  have:=(hnb.st k.s hk2).nd.2
  have:=(hbe.nd k hk).len
  omega
 have k74:=c74 hbe hnb2 H2 (Grow.refl _)
 rw [hB] at k74
 have sl0:=vv_slen' t
 have z1:((180:Int) < ((t.length:Nat):Int))=False:=eq_false (by omega)
 have key:Yes (R (.func 68) [.string ⟨t.toArray⟩] H') (fun o=>∃(H3:Heap) (lo:Nat),o=⟨.ok (.tuple #[.agg #[.int .i64 r.app,.slice r.ba r.bl r.bk,.slice r.sa r.sl r.sk],.int .i64 0]),H3,lo⟩∧Up H' H3∧H'.length≤lo∧BeOk H3 r b):=by
  refine run_y (pr 68) P68 (by simp [p68]) rfl ?_
  simp (maxDischargeDepth:=8) only [↓SD,SU,SV,SW,simprocAttr,Int.cast_ofNat_Int,small,resV, B68,R68,N68,b68, l1,l2,hHa,hca,sl0,z1,hHb,k84',hcy,k74,R68,N68]
  rw [yes_some]
  have hf:=fine_of hB
  have hsl:=hbe.len
  have hn1:=hf.n1
  obtain ⟨b',o',k,hsa,_,_⟩:=hbe.st.at eK_len (by decide) (j:=0) (by omega)
  rw [gc_keep (by rw [hsa]; simp [flat])]
  exact ⟨H2,_,rfl,u2,by omega,hbe⟩
 obtain ⟨o,ho,H3,lo3,rfl,w1,w2,w3⟩:=key
 exact ⟨r,H3,lo3,ho,w1,w2,w3⟩
end Go.Pi.L.Ben
set_option maxRecDepth 100000
namespace Go.Pi.L.Ben
open Go Go.Pi Go.Pi.L Go.Pi.E Go.Pi.Ben BM Go.Pi.Q

theorem dig_all:∀n,n < 100→numW (dig n)=some (n:Int)∧(dig n).all isDig=true∧(n < 10→(dig n).length=1):=by decide +kernel
theorem dgI_num {z:Int}(h0:0≤z)(h9:z≤99):numW (dgI z)=some z:=by
 have h:=(dig_all z.toNat (by omega)).1
 rw [Int.toNat_of_nonneg h0] at h; exact h
theorem dgI_no {z:Int}(h0:0≤z)(h9:z≤99){c:UInt8}(hc:isDig c=false):c ∉ dgI z:=fun h=>by
 have:=List.all_eq_true.1 (dig_all z.toNat (by omega)).2.1 c h
 rw [hc] at this; cases this
theorem dgI_one {z:Int}(h0:0≤z)(h9:z < 10):(dgI z).length=1:=(dig_all z.toNat (by omega)).2.2 (by omega)
theorem numsW_map:∀{ns:List Int},(∀z∈ns,0≤z∧z≤99)→numsW (ns.map dgI)=some ns
 | [],_=>rfl
 | z :: ns,h=>by
  have ih:=numsW_map fun w hw=>h w (List.mem_cons_of_mem _ hw)
  unfold numsW at ih ⊢
  rw [List.map_cons,List.mapM_cons,dgI_num (h z (List.mem_cons_self ..)).1 (h z (List.mem_cons_self ..)).2,ih]; rfl
theorem spl_join {c:UInt8}:∀{ps:List (List UInt8)} {p:List UInt8},(∀q∈p :: ps,c ∉ q)→spl c (p++(ps.map fun q=>c :: q).flatten)=p :: ps
 | [],p,h=>by simp [spl_none (h p (List.mem_cons_self ..))]
 | q :: ps,p,h=>by
  rw [List.map_cons,List.flatten_cons,List.cons_append,spl_hit _ (h p (List.mem_cons_self ..)),spl_join fun x hx=>h x (List.mem_cons_of_mem _ hx)]
theorem spl_rows {c:UInt8}:∀{rows:List (List UInt8)} {s:List UInt8},(∀r∈rows,c ∉ r)→spl c ((rows.map fun r=>r++[c]).flatten++s)=rows++spl c s
 | [],s,_=>rfl
 | r :: rows,s,h=>by
  rw [List.map_cons,List.flatten_cons,List.append_assoc,List.append_assoc,List.singleton_append,spl_hit _ (h r (List.mem_cons_self ..)),spl_rows fun x hx=>h x (List.mem_cons_of_mem _ hx)]; rfl
theorem numsT_eq (ns:List Int):numsT ns=((ns.map dgI).map fun q=>(32:UInt8) :: q).flatten:=by unfold numsT; rw [List.map_map]; rfl
theorem spl_head {a:Int}(h0:0≤a)(h9:a≤99):spl 32 (rowHead a)=[wBench,dgI a]:=by
 unfold rowHead
 rw [numsT_eq]
 exact spl_join (c:=32) (ps:=[dgI a]) fun q hq=>by
  rcases List.mem_cons.1 hq with e | hq
  ·rw [e]; decide
  ·rw [List.mem_singleton.1 hq]; exact dgI_no h0 h9 (by decide)
theorem spl_due {a:Int}(h0:0≤a)(h9:a≤99):spl 32 (rowDue a)=[wBoard,dgI a]:=by
 unfold rowDue
 rw [numsT_eq]
 exact spl_join (c:=32) (ps:=[dgI a]) fun q hq=>by
  rcases List.mem_cons.1 hq with e | hq
  ·rw [e]; decide
  ·rw [List.mem_singleton.1 hq]; exact dgI_no h0 h9 (by decide)
theorem listT_no {ns:List Int}(h:∀z∈ns,0≤z∧z≤99){c:UInt8}(hc:isDig c=false)(h44:c≠44)(h45:c≠45):c ∉ listT ns:=by
 unfold listT
 split
 ·simpa using h45
 ·cases ns with
  | nil=>simp [Lib.join_nil]
  | cons z ns =>
   rw [List.map_cons,Lib.join_cons]
   intro hm
   rcases List.mem_append.1 hm with hm | hm
   ·exact dgI_no (h z (List.mem_cons_self ..)).1 (h z (List.mem_cons_self ..)).2 hc hm
   ·unfold Lib.joinTail at hm
    obtain ⟨l,hl,hcl⟩:=List.mem_flatten.1 hm
    obtain ⟨q,hq,rfl⟩:=List.mem_map.1 hl
    obtain ⟨w,hw,rfl⟩:=List.mem_map.1 hq
    rcases List.mem_append.1 hcl with hcl | hcl
    ·exact h44 (List.mem_singleton.1 hcl)
    ·exact dgI_no (h w (List.mem_cons_of_mem _ hw)).1 (h w (List.mem_cons_of_mem _ hw)).2 hc hcl
theorem needW_list {ns:List Int}(h:∀z∈ns,0≤z∧z≤99):needW (listT ns)=some ns:=by
 cases ns with
 | nil=>rfl
 | cons z ns =>
  have hz:=h z (List.mem_cons_self ..)
  have e1:listT (z :: ns)=dgI z++Lib.joinTail [44] (ns.map dgI):=by unfold listT; rw [if_neg (by simp),List.map_cons,Lib.join_cons]
  rw [e1]
  unfold needW
  have hne:dgI z++Lib.joinTail [44] (ns.map dgI)≠[45]:=fun e=>by
   have h45:(45:UInt8) ∉ dgI z:=dgI_no hz.1 hz.2 (by decide)
   have hl:=(dig_len z.toNat).2
   cases hd:dgI z with
   | nil=>unfold dgI at hd; rw [hd] at hl; simp at hl
   | cons x l =>
    rw [hd] at e h45
    simp only [List.cons_append,List.cons.injEq] at e
    exact h45 (by rw [e.1]; exact List.mem_cons_self ..)
  rw [if_neg hne]
  have e:Lib.joinTail [44] (ns.map dgI)=((ns.map dgI).map fun q=>(44:UInt8) :: q).flatten:=rfl
  rw [e,spl_join (c:=44) (ps:=ns.map dgI) (p:=dgI z) fun q hq=>by
   rcases List.mem_cons.1 hq with e | hq
   ·rw [e]; exact dgI_no hz.1 hz.2 (by decide)
   ·obtain ⟨w,hw,rfl⟩:=List.mem_map.1 hq
    exact dgI_no (h w (List.mem_cons_of_mem _ hw)).1 (h w (List.mem_cons_of_mem _ hw)).2 (by decide)]
  have:=numsW_map h
  rwa [List.map_cons] at this
theorem spl_st {s:Stroke}(h:NuS s):spl 32 (rowSt s)=[(if s.round=true then wRound else wStraight),dgI s.board,dgI s.lo,dgI s.hi,listT s.needs]:=by
 unfold rowSt
 have e:numsT [s.board,s.lo,s.hi]++(32 :: listT s.needs)=(([dgI s.board,dgI s.lo,dgI s.hi,listT s.needs]).map fun q=>(32:UInt8) :: q).flatten:=by unfold numsT; simp
 rw [List.append_assoc,e]
 refine spl_join (c:=32) (ps:=[dgI s.board,dgI s.lo,dgI s.hi,listT s.needs]) fun q hq=>?_
 simp only [List.mem_cons,List.not_mem_nil,or_false] at hq
 rcases hq with e | e | e | e | e
 ·rw [e]; split <;> decide
 ·rw [e]; exact dgI_no h.b0 h.b9 (by decide)
 ·rw [e]; exact dgI_no h.l0 h.l9 (by decide)
 ·rw [e]; exact dgI_no h.h0 h.h9 (by decide)
 ·rw [e]; exact listT_no h.nd.1 (by decide) (by decide) (by decide)
theorem rowP_due (b:Bench){z:Int}(h0:0≤z)(h9:z≤99):rowP b (rowDue z)=some ⟨b.app,b.boards++[z],b.strokes⟩:=by
 unfold rowP
 rw [spl_due h0 h9]
 rw [if_pos (show ([wBoard,dgI z]:List (List UInt8)).getD 0 []=wBoard from rfl),if_pos (show ([wBoard,dgI z]:List (List UInt8)).length=2 from rfl)]
 have:numsW ([wBoard,dgI z].drop 1)=some [z]:=numsW_map (ns:=[z]) fun w hw=>by rw [List.mem_singleton.1 hw]; exact ⟨h0,h9⟩
 rw [this]; rfl
theorem rowP_st (b:Bench){s:Stroke}(h:NuS s):rowP b (rowSt s)=some ⟨b.app,b.boards,b.strokes++[s]⟩:=by
 unfold rowP
 rw [spl_st h]
 have hw:([(if s.round=true then wRound else wStraight),dgI s.board,dgI s.lo,dgI s.hi,listT s.needs]:List (List UInt8)).getD 0 []=(if s.round=true then wRound else wStraight):=rfl
 have h4:([(if s.round=true then wRound else wStraight),dgI s.board,dgI s.lo,dgI s.hi,listT s.needs]:List (List UInt8)).getD 4 []=listT s.needs:=rfl
 have hnw:numsW ((([(if s.round=true then wRound else wStraight),dgI s.board,dgI s.lo,dgI s.hi,listT s.needs]:List (List UInt8)).drop 1).take 3)=some [s.board,s.lo,s.hi]:=numsW_map (ns:=[s.board,s.lo,s.hi]) fun w hw=>by
  simp only [List.mem_cons,List.not_mem_nil,or_false] at hw
  rcases hw with e | e | e
  ·rw [e]; exact ⟨h.b0,h.b9⟩
  ·rw [e]; exact ⟨h.l0,h.l9⟩
  ·rw [e]; exact ⟨h.h0,h.h9⟩
 rw [hw,h4,hnw,needW_list h.nd.1,if_neg (by split <;> decide),if_pos (show ([(if s.round=true then wRound else wStraight),dgI s.board,dgI s.lo,dgI s.hi,listT s.needs]:List (List UInt8)).length=5 from rfl)]
 have e:strokeW [(if s.round=true then wRound else wStraight),dgI s.board,dgI s.lo,dgI s.hi,listT s.needs] [s.board,s.lo,s.hi] s.needs=s:=by
  unfold strokeW
  rw [hw]
  cases s with
  | mk bo ro lo hi nd =>
   cases ro <;> rfl
 simp only [e]
theorem foldP_due:∀(zs:List Int) (b:Bench),(∀z∈zs,0≤z∧z≤99)→foldP b (zs.map rowDue)=some ⟨b.app,b.boards++zs,b.strokes⟩
 | [],b,_=>by simp [foldP]
 | z :: zs,b,h=>by
  have ih:=foldP_due zs ⟨b.app,b.boards++[z],b.strokes⟩ fun w hw=>h w (List.mem_cons_of_mem _ hw)
  unfold foldP at ih ⊢
  rw [List.map_cons,List.foldlM_cons,rowP_due b (h z (List.mem_cons_self ..)).1 (h z (List.mem_cons_self ..)).2]
  show List.foldlM rowP _ _=_
  rw [ih]; simp
theorem foldP_st:∀(ss:List Stroke) (b:Bench),(∀s∈ss,NuS s)→foldP b (ss.map rowSt)=some ⟨b.app,b.boards,b.strokes++ss⟩
 | [],b,_=>by simp [foldP]
 | s :: ss,b,h=>by
  have ih:=foldP_st ss ⟨b.app,b.boards,b.strokes++[s]⟩ fun w hw=>h w (List.mem_cons_of_mem _ hw)
  unfold foldP at ih ⊢
  rw [List.map_cons,List.foldlM_cons,rowP_st b (h s (List.mem_cons_self ..))]
  show List.foldlM rowP _ _=_
  rw [ih]; simp
theorem endT_no (c:Nat)(hc:c < 197):(10:UInt8) ∉ endT c:=by
 have h:∀c,c < 197→(10:UInt8) ∉ endT c∧(endT c).length=7:=by decide +kernel
 exact (h c hc).1
theorem endT_len7 (c:Nat)(hc:c < 197):(endT c).length=7:=by
 have h:∀c,c < 197→(10:UInt8) ∉ endT c∧(endT c).length=7:=by decide +kernel
 exact (h c hc).2
end Go.Pi.L.Ben
set_option maxRecDepth 100000
namespace Go.Pi.L.Ben
open Go Go.Pi Go.Pi.L Go.Pi.E Go.Pi.Ben BM Go.Pi.Q

theorem numsT_no {ns:List Int}(h:∀z∈ns,0≤z∧z≤99){c:UInt8}(hc:isDig c=false)(h32:c≠32):c ∉ numsT ns:=by
 unfold numsT
 intro hm
 obtain ⟨l,hl,hcl⟩:=List.mem_flatten.1 hm
 obtain ⟨w,hw,rfl⟩:=List.mem_map.1 hl
 rcases List.mem_cons.1 hcl with hcl | hcl
 ·exact h32 hcl
 ·exact dgI_no (h w hw).1 (h w hw).2 hc hcl
theorem rows_no {b:Bench}(h:NuB b):∀r∈rowsT b,(10:UInt8) ∉ r:=by
 intro r hr
 have one:∀z:Int,0≤z→z≤99→∀w∈([z]:List Int),0≤w∧w≤99:=fun z h0 h9 w hw=>by rw [List.mem_singleton.1 hw]; exact ⟨h0,h9⟩
 unfold rowsT at hr
 rcases List.mem_append.1 hr with hr | hr
 ·rcases List.mem_cons.1 hr with e | hr
  ·rw [e]
   intro hm
   rcases List.mem_append.1 hm with hm | hm
   ·exact absurd hm (by decide)
   ·exact numsT_no (one _ h.a0 h.a9) (by decide) (by decide) hm
  ·obtain ⟨z,hz,rfl⟩:=List.mem_map.1 hr
   intro hm
   rcases List.mem_append.1 hm with hm | hm
   ·exact absurd hm (by decide)
   ·exact numsT_no (one _ (h.bo.1 z hz).1 (h.bo.1 z hz).2) (by decide) (by decide) hm
 ·obtain ⟨s,hs,rfl⟩:=List.mem_map.1 hr
  have hk:=h.st s hs
  intro hm
  unfold rowSt at hm
  rcases List.mem_append.1 hm with hm | hm
  ·rcases List.mem_append.1 hm with hm | hm
   ·revert hm; split <;> decide
   ·refine numsT_no (fun w hw=>?_) (by decide) (by decide) hm
    simp only [List.mem_cons,List.not_mem_nil,or_false] at hw
    rcases hw with e | e | e
    ·rw [e]; exact ⟨hk.b0,hk.b9⟩
    ·rw [e]; exact ⟨hk.l0,hk.l9⟩
    ·rw [e]; exact ⟨hk.h0,hk.h9⟩
  ·rcases List.mem_cons.1 hm with hm | hm
   ·exact absurd hm (by decide)
   ·exact listT_no hk.nd.1 (by decide) (by decide) (by decide) hm
theorem textT_flat (b:Bench):textT b=((rowsT b).map fun r=>r++[10]).flatten++(endT (chkL 0 (rowsT b) % 197)++[10]):=by
 have jf:∀(rows:List (List UInt8)) (e:List UInt8),Lib.join (rows++[e]) [10]=(rows.map fun r=>r++[10]).flatten++e:=by
  intro rows
  induction rows with
  | nil=>intro e; simp [Lib.join_one]
  | cons x rows ih =>
   intro e
   have ih:=ih e
   rw [List.cons_append,Lib.join_cons]
   cases rows with
   | nil=>simp [Lib.joinTail]
   | cons y r =>
    rw [List.cons_append,Lib.join_cons] at ih
    simp only [Lib.joinTail,List.cons_append,List.map_cons,List.flatten_cons,List.append_assoc] at ih ⊢
    rw [ih]
 unfold textT
 rw [jf,List.append_assoc]
theorem parse_text {b:Bench}(h:NuB b):parseP (textT b)=some b:=by
 have hQ:chkL 0 (rowsT b) % 197 < 197:=Nat.mod_lt _ (by decide)
 have hsp:spl 10 (textT b)=rowsT b++[endT (chkL 0 (rowsT b) % 197),[]]:=by
  rw [textT_flat,spl_rows (rows_no h),spl_hit [] (endT_no _ hQ)]; rfl
 have hrow:rowsT b=rowHead b.app :: (b.boards.map rowDue++b.strokes.map rowSt):=rfl
 have hlen:(spl 10 (textT b)).length=(b.boards.map rowDue++b.strokes.map rowSt).length+3:=by rw [hsp,hrow]; simp; omega
 have hR:rowsP (textT b)=b.boards.map rowDue++b.strokes.map rowSt:=by
  unfold rowsP
  rw [hlen,hsp,hrow,Nat.add_sub_cancel]
  show ((b.boards.map rowDue++b.strokes.map rowSt)++_).take _=_
  rw [List.take_left]
 unfold parseP
 rw [if_pos (by omega),hR]
 have h0:(spl 10 (textT b)).getD 0 []=rowHead b.app:=by rw [hsp,hrow]; rfl
 rw [h0,spl_head h.a0 h.a9]
 have hn:numsW (([wBench,dgI b.app]:List (List UInt8)).drop 1)=some [b.app]:=numsW_map (ns:=[b.app]) fun w hw=>by rw [List.mem_singleton.1 hw]; exact ⟨h.a0,h.a9⟩
 rw [hn]
 have hf:foldP ⟨b.app,[],[]⟩ (b.boards.map rowDue++b.strokes.map rowSt)=some b:=by
  have h1:=foldP_due b.boards ⟨b.app,[],[]⟩ h.bo.1
  have h2:=foldP_st b.strokes ⟨b.app,b.boards,[]⟩ h.st
  unfold foldP at h1 h2 ⊢
  rw [List.foldlM_append,h1]
  show List.foldlM rowP _ _=_
  rw [List.nil_append,h2]; rfl
 show parseT (foldP ⟨b.app,[],[]⟩ (b.boards.map rowDue++b.strokes.map rowSt)) (textT b)=some b
 rw [hf]
 unfold parseT
 simp only [if_true]
theorem inc_len:∀{l:List Int} {a m:Int},l.Pairwise (· < ·)→(∀z∈l,a≤z∧z < m)→a≤m→(l.length:Int)≤m - a
 | [],a,m,_,_,h=>by simp; omega
 | x :: l,a,m,hp,hb,h=>by
  obtain ⟨p1,p2⟩:=List.pairwise_cons.1 hp
  have hx:=hb x (List.mem_cons_self ..)
  have:=inc_len (a:=x+1) p2 (fun z hz=>⟨by have:=p1 z hz; omega,(hb z (List.mem_cons_of_mem _ hz)).2⟩) (by omega)
  simp only [List.length_cons]; omega
theorem stroke_bounds {nb m:Nat}{s:Stroke}(h:strokeOk nb m s=true)(hm:m≤5)(hnb:nb≤3):NuS s∧(rowSt s).length+1≤17+2*m:=by
 simp only [strokeOk,Bool.and_eq_true,List.all_eq_true,inL_iff] at h
 obtain ⟨⟨h1,h2⟩,h3,h4,h5⟩:=h
 have hnl:(s.needs.length:Int)≤(m:Int):=by
  have:=inc_len (a:=0) (m:=(m:Int)) (rises_pair h1) (fun z hz=>by have:=h2 z hz; omega) (by omega)
  omega
 have hnd:Nn s.needs:=⟨fun z hz=>by have:=h2 z hz; omega,by omega⟩
 refine ⟨⟨by omega,by omega,by omega,by omega,by omega,by omega,hnd⟩,?_⟩
 have hl:(listT s.needs).length≤1+2*m∧(listT s.needs).length≤max 1 (2*m):=by
  unfold listT
  split
  ·simp; omega
  ·have hj:=join_len (s.needs.map dgI) [44] 1 (fun x hx=>by
    obtain ⟨z,hz,rfl⟩:=List.mem_map.1 hx
    have:=h2 z hz
    rw [dgI_one (by omega) (by omega)]; exact Nat.le_refl _)
   rw [List.length_map] at hj
   simp only [List.length_singleton] at hj
   omega
 have d1:=dgI_one (z:=s.board) (by omega) (by omega)
 have d2:=dgI_one (z:=s.lo) (by omega) (by omega)
 have d3:=dgI_one (z:=s.hi) (by omega) (by omega)
 have hw:(if s.round=true then wRound else wStraight).length≤8:=by split <;> decide
 unfold rowSt numsT
 simp only [List.map_cons,List.map_nil,List.flatten_cons,List.flatten_nil,List.append_nil,List.length_append,List.length_cons,d1,d2,d3]
 omega
def gB (m:Nat):Nat:=[132,115,96,75,52,27,0].getD m 0
theorem strokes_len {nb:Nat}(hnb:nb≤3):∀(l:List Stroke) (m:Nat),strokesOk nb m l=true→m+l.length≤6→(∀s∈l,NuS s)∧(((l.map rowSt).map fun r=>r++[(10:UInt8)]).flatten).length≤gB m
 | [],m,_,_=>⟨fun s hs=>(by cases hs),by simp⟩
 | s :: l,m,h,hm=>by
  simp only [strokesOk,Bool.and_eq_true] at h
  simp only [List.length_cons] at hm
  obtain ⟨a1,a2⟩:=stroke_bounds h.1 (by omega) hnb
  obtain ⟨b1,b2⟩:=strokes_len hnb l (m+1) h.2 (by omega)
  refine ⟨fun x hx=>?_,?_⟩
  ·rcases List.mem_cons.1 hx with e | hx
   ·rw [e]; exact a1
   ·exact b1 x hx
  ·simp only [List.map_cons,List.flatten_cons,List.length_append,List.length_singleton]
   have hg:∀m,m≤5→17+2*m+gB (m+1)≤gB m:=by decide
   have:=hg m (by omega)
   omega
theorem bench_nu {b:Bench}(hB:isBench b=true):NuB b∧(textT b).length≤180:=by
 simp only [isBench,Bool.and_eq_true,List.all_eq_true,inL_iff] at hB
 obtain ⟨h1,h2,h3,h4,h5⟩:=hB
 obtain ⟨s1,s2⟩:=strokes_len (nb:=b.boards.length) (by omega) b.strokes 0 h4 (by omega)
 have hQ:chkL 0 (rowsT b) % 197 < 197:=Nat.mod_lt _ (by decide)
 refine ⟨⟨by omega,by omega,⟨fun z hz=>by have:=h5 z hz; omega,by omega⟩,s1,by omega⟩,?_⟩
 have hd:∀zs:List Int,(∀z∈zs,0≤z∧z≤60)→(((zs.map rowDue).map fun r=>r++[(10:UInt8)]).flatten).length≤9*zs.length:=by
  intro zs
  induction zs with
  | nil=>intro _; simp
  | cons z zs ih =>
   intro h
   have ih:=ih fun w hw=>h w (List.mem_cons_of_mem _ hw)
   have hz:(dgI z).length≤2:=(dig_len z.toNat).1
   simp only [List.map_cons,List.flatten_cons,List.length_append,List.length_cons,List.length_nil] at ih ⊢
   have:(rowDue z).length≤8:=by unfold rowDue numsT; simp [wBoard]; omega
   omega
 have hb3:=hd b.boards h5
 have hh:(rowHead b.app).length≤8:=by
  have hz:(dgI b.app).length≤2:=(dig_len b.app.toNat).1
  unfold rowHead numsT; simp [wBench]; omega
 have hh7:(rowHead b.app).length=7:=by
  have hz:=dgI_one (z:=b.app) (by omega) (by omega)
  unfold rowHead numsT; simp [wBench,hz]
 have e7:=endT_len7 (chkL 0 (rowsT b) % 197) hQ
 rw [textT_flat]
 generalize endT (chkL 0 (rowsT b) % 197)=E at e7 ⊢
 unfold rowsT
 rw [List.map_append,List.flatten_append,List.map_cons,List.flatten_cons]
 simp only [List.length_append,List.length_singleton,hh7,e7]
 have:gB 0=132:=rfl
 rw [this] at s2
 omega
end Go.Pi.L.Ben
set_option maxRecDepth 100000
namespace Go.Pi.L.Ben
open Go Go.Pi Go.Pi.L Go.Pi.E Go.Pi.Ben BM Go.Pi.Q

theorem c67 {H:Heap}{r:BeR}{b:Bench}(hb:BeOk H r b)(hd:SmB r):∀H',Grow H H'→R (.func 67) [.agg #[.int .i64 r.app,.slice r.ba r.bl r.bk,.slice r.sa r.sl r.sk]] H'=some ⟨.ok (if isBench b=true then .tuple #[.string ⟨(textT b).toArray⟩,.int .i64 0] else .tuple #[.string ⟨#[]⟩,.int .i64 2]),H',H'.length⟩:=by
 intro H' hg
 refine run_k (pr 67) P67 (by simp [p67]) rfl ?_
 have l1:=hb.br.isLoc r.bk
 have l2:=hb.st.isLoc r.sk
 have k74:=c74 hb hd H' hg
 cases hB:isBench b with
 | false =>
  rw [hB] at k74
  simp (maxDischargeDepth:=8) only [↓SD,SU,SV,SW,simprocAttr,Int.cast_ofNat_Int,small,resV, B67,R67,N67,b67, l1,l2,k74,R67,N67]
 | true =>
  rw [hB] at k74
  have k103:=c103 hb (bench_nu hB).1 H' hg
  simp (maxDischargeDepth:=8) only [↓SD,SU,SV,SW,simprocAttr,Int.cast_ofNat_Int,small,resV, B67,R67,N67,b67, l1,l2,k74,k103,R67,N67]
set_option maxHeartbeats 2000000 in
theorem c70 {H:Heap}{r rr:BeR}{b:Bench}(hb:BeOk H r b)(hbp:BeOk H rr b)(hn:NuB b):∀H',Grow H H'→R (.func 70) [.agg #[.int .i64 r.app,.slice r.ba r.bl r.bk,.slice r.sa r.sl r.sk],.agg #[.int .i64 rr.app,.slice rr.ba rr.bl rr.bk,.slice rr.sa rr.sl rr.sk]] H'=some ⟨.ok (.bool true),H',H'.length⟩:=by
 intro H' hg
 refine run_k (pr 70) P70 (by simp [p70]) rfl ?_
 have l1:=hb.br.isLoc r.bk
 have l2:=hb.st.isLoc r.sk
 have l3:=hbp.br.isLoc rr.bk
 have l4:=hbp.st.isLoc rr.sk
 have ha:rr.app=r.app:=by rw [hb.app,hbp.app]
 have hsl:rr.sl=r.sl:=by rw [←hb.len,←hbp.len]
 have hbl:=hn.bo.2
 have hssl:=hn.sl
 have hbb:=hb.blen
 have hlen:=hb.len
 have k37:=c37 (m1:=r.bk) (m2:=rr.bk) hb.br hbp.br (by omega) H' hg
 rw [decide_eq_true rfl] at k37
 rw [ha]
 rw [hsl] at l4 ⊢
 simp (maxDischargeDepth:=8) only [↓SD,SU,SV,SW,simprocAttr,Int.cast_ofNat_Int,small,resV, B70,R70,N70,b70, l1,l2,l3,l4,k37]
 refine loop_ind (G:=(·=_)) (fun j σ=>∃T S lim,σ=⟨T,S,[],H',lim,74,false⟩∧get T 2=.pointer (some ⟨2,0,some 1⟩)∧get T 3=.pointer (some ⟨3,0,some 1⟩)∧get T 5=.int .i64 (j:Nat)∧sget S 2=(1,.cells [.int .i64 r.app,.slice r.ba r.bl r.bk,.slice r.sa r.sl r.sk])∧sget S 3=(1,.cells [.int .i64 r.app,.slice rr.ba rr.bl rr.bk,.slice rr.sa r.sl rr.sk])∧(H'.length≤lim)) (r.sl) ?_ ?_ 0 _ (Nat.zero_le _) ⟨_,_,_,rfl,rfl,rfl,rfl,rfl,rfl,Nat.le_refl _⟩
 ·rintro c' j s hj ⟨T,S,lim,rfl,t2,t3,t5,s0,s1,hp⟩ ih
  have hw:=wrap_succ j (by omega)
  obtain ⟨b1,o1,k,hka,hk1,hat⟩:=hb.st.at eK_len (by decide) hj
  obtain ⟨b2,o2,k',hka',hk1',hat'⟩:=hbp.st.at eK_len (by decide) (j:=j) (by omega)
  have hss:k'.s=k.s:=by
   have h1:=hb.at hk1
   have h2:=hbp.at hk1'
   rw [h1] at h2; exact (Option.some.inj h2).symm
  have hnk:=hb.nd k (mem_drop hk1)
  have hnk':=hbp.nd k' (mem_drop hk1')
  rw [hss] at hnk'
  have lk:=hnk.isLoc k.m
  have lk':=hnk'.isLoc k'.m
  have hks:=hn.st k.s (List.mem_of_getElem? (hb.at hk1))
  have hnl:=hks.nd.2
  have hkl:=hnk.len
  have fk:rdO (hcells H' b1) (o1+j*5) (some 5)=some (.agg #[.int .i64 k.s.board,.bool k.s.round,.int .i64 k.s.lo,.int .i64 k.s.hi,.slice k.a k.l k.m]):=hat.all H' hg
  have fk':rdO (hcells H' b2) (o2+j*5) (some 5)=some (.agg #[.int .i64 k.s.board,.bool k.s.round,.int .i64 k.s.lo,.int .i64 k.s.hi,.slice k'.a k'.l k'.m]):=by
   have h:=hat'.all H' hg
   unfold eK at h
   rw [hss] at h; exact h
  have iak:vv (.ia 5) [.slice r.sa r.sl r.sk,.int .i64 (j:Nat)]=some (.pointer (some ⟨b1,o1+j*5,none⟩)):=by rw [hka]; exact vv_iaN 5 b1 o1 j _ _ _ hj
  have iak':vv (.ia 5) [.slice rr.sa r.sl rr.sk,.int .i64 (j:Nat)]=some (.pointer (some ⟨b2,o2+j*5,none⟩)):=by rw [hka']; exact vv_iaN 5 b2 o2 j _ _ _ hj
  have kn:=c37 (m1:=k.m) (m2:=k'.m) hnk hnk' (by omega) H' hg
  rw [decide_eq_true rfl] at kn
  have ag:vv (.ag [(.i .i64),(.i .i64)] true) [.agg #[.int .i64 k.s.lo,.int .i64 k.s.hi],.agg #[.int .i64 k.s.lo,.int .i64 k.s.hi]]=some (.bool false):=by
   rw [vv_of (by rfl)]; simp [VOp.ev,hasAll,PK.has,eqs,eqv]
  have bb:∀q:Bool,vv (.bb true) [.bool q,.bool q]=some (.bool false):=fun q=>by rw [vv_of rfl]; cases q <;> rfl
  have la:isLoc (.agg #[.int .i64 k.s.board,.bool k.s.round,.int .i64 k.s.lo,.int .i64 k.s.hi,.slice k.a k.l k.m])=false:=rfl
  have la':isLoc (.agg #[.int .i64 k.s.board,.bool k.s.round,.int .i64 k.s.lo,.int .i64 k.s.hi,.slice k'.a k'.l k'.m])=false:=rfl
  simp (maxDischargeDepth:=8) only [↓SD,SU,SV,SW,simprocAttr,Int.cast_ofNat_Int,small,resV, q70x0,t2,t3,t5,s0,s1, lt_nat,hj,l1,l2,l3,l4,lk,lk',iak,iak',fk,fk',kn,ag,bb,hw,so_loc,k_fixb,sget_sset]
  exact ih _ ⟨_,_,(_),rfl,(by simp [get_set,t2] <;> omega),(by simp [get_set,t3] <;> omega),(by simp [get_set,t5] <;> omega),by simp [sget_sset,s0],by simp [sget_sset,s1],by omega⟩
 ·rintro c' s ⟨T,S,lim,rfl,t2,t3,t5,s0,s1,hp⟩
  simp (maxDischargeDepth:=8) only [↓SD,SU,SV,SW,simprocAttr,Int.cast_ofNat_Int,small,resV, q70x0,t2,t3,t5,s0,s1, lt_nat,Nat.lt_irrefl,l1,l2,l3,l4,sget_sset,R70,N70]
  rw [gc_ite hp]; simp [flat]
end Go.Pi.L.Ben
set_option maxRecDepth 100000
namespace Go.Pi.L.Ben
open Go Go.Pi Go.Pi.L Go.Pi.E Go.Pi.Ben BM Go.Pi.Q

theorem c104p {H:Heap}{x y:Nat}{t:List UInt8}(hx:hcells H x=some [.string ⟨t.toArray⟩])(ht:t.length≤290)(hp:parseP t=none)(hF:Fam H) :
  ∃w,R (.func 104) [.pointer (some ⟨x,0,none⟩),.pointer (some ⟨y,0,none⟩)] H=some ⟨.panic (.iface 142 (.agg #[.string w])),H,H.length⟩:=by
 obtain ⟨o,ho,hq⟩:=c105 t ht H hF
 unfold QPa at hq
 rw [hp] at hq
 obtain ⟨w,rfl⟩:=hq
 have key:Yes (R (.func 104) [.pointer (some ⟨x,0,none⟩),.pointer (some ⟨y,0,none⟩)] H) (fun o=>o=⟨.panic (.iface 142 (.agg #[.string w])),H,H.length⟩):=by
  refine run_y (pr 104) P104 (by simp [p104]) rfl ?_
  simp (maxDischargeDepth:=8) only [↓SD,SU,SV,SW,simprocAttr,Int.cast_ofNat_Int,small,resV, B104,R104,N104,b104, hx,ho,R104,N104]
  rw [yes_some]
  all_goals simp [gcR,flat]
 obtain ⟨o,ho2,rfl⟩:=key
 exact ⟨w,ho2⟩
theorem d119t (call:CallT)(x y:Nat)(w:ByteArray)(H:Heap)(ha:H[y]?=some ⟨.cells [.int .i64 0],true,true,none⟩) :
  drunL PP primsL call (.func 119) [.pointer (some ⟨x,0,none⟩),.pointer (some ⟨y,0,none⟩)] H (some (.iface 142 (.agg #[.string w]))) =
   some (H.set y { obj:=.cells [.int .i64 4] },min H.length y,none):=by
 rw [drun_rc (d:=6) (pr 119) P119 (by simp [p119]) rfl (by simp [p119])]
 have t1:∀z x,vv (.tas 140 z) [.iface 142 (.agg #[.string x])]=some (.tuple #[z,.bool false]):=fun z x=>by rw [vv_of (by rfl)]; rfl
 have t2:∀z x,vv (.tas 142 z) [.iface 142 (.agg #[.string x])]=some (.tuple #[.agg #[.string x],.bool true]):=fun z x=>by rw [vv_of (by rfl)]; rfl
 simp (maxDischargeDepth:=8) only [↓SD,SU,SV,SW,simprocAttr,Int.cast_ofNat_Int,small,resV, B119,R119,N119,b119, Option.getD_some,ha,t1,t2]
 exact dfin_n _ _ _ _ _ _ _ _ R119
theorem c84t {g:FuncId}{caps:List Value}{H:Heap}{w:ByteArray}(hc:(caps.all fun v=>!isLoc v)=true)
  (hf:R (.func g) caps (H++[({ obj:=.cells [.slice none 0 0] }:Blk)]++[({ obj:=.cells [.int .i64 0] }:Blk)])=some ⟨.panic (.iface 142 (.agg #[.string w])),H++[({ obj:=.cells [.slice none 0 0] }:Blk)]++[({ obj:=.cells [.int .i64 0] }:Blk)],H.length+2⟩) :
  R (.func 84) [.func (.func g) #[] caps.toArray] H=some ⟨.ok (.tuple #[.slice none 0 0,.int .i64 4]),H,H.length⟩:=by
 have hB:(H++[({ obj:=.cells [.slice none 0 0] }:Blk)]++[({ obj:=.cells [.int .i64 0] }:Blk)])[H.length+1]?=some ⟨.cells [.int .i64 0],true,true,none⟩:=by
  rw [List.append_assoc,List.getElem?_append_right (by omega),Nat.add_sub_cancel_left]; rfl
 have hA:(H++[({ obj:=.cells [.slice none 0 0] }:Blk)]++[({ obj:=.cells [.int .i64 0] }:Blk)])[H.length]?=some ⟨.cells [.slice none 0 0],true,true,none⟩:=by
  rw [List.append_assoc,List.getElem?_append_right (Nat.le_refl _)]; simp
 generalize hH:H++[({ obj:=.cells [.slice none 0 0] }:Blk)]++[({ obj:=.cells [.int .i64 0] }:Blk)]=H1 at hf hA hB
 have a0:H1.length=H.length+2:=by rw [←hH]; simp
 have rd1:hcells (H1.set (H.length+1) { obj:=.cells [.int .i64 4] }) H.length=some [.slice none 0 0]:=by unfold hcells; rw [List.getElem?_set_ne (by omega),hA]
 have rd2:hcells (H1.set (H.length+1) { obj:=.cells [.int .i64 4] }) (H.length+1)=some [.int .i64 4]:=by unfold hcells; rw [List.getElem?_set_self (by omega)]
 have d1:=fun call=>d119t call H.length (H.length+1) w H1 hB
 have key:Yes (R (.func 84) [.func (.func g) #[] caps.toArray] H) (fun o=>o=⟨.ok (.tuple #[.slice none 0 0,.int .i64 4]),H,H.length⟩):=by
  refine run_y (pr 84) P84 (by simp [p84]) rfl ?_
  simp (maxDischargeDepth:=8) only [↓SD,SU,SV,SW,simprocAttr,Int.cast_ofNat_Int,small,resV, B84,R84,N84,b84, List.length_singleton,hH,hc,hf,d1,hA,hB,rd1,rd2,a0,R84,N84]
  rw [yes_some]
  all_goals first | rfl | (rw [gc_ite (by omega)]; simp [flat])
 obtain ⟨o,ho,rfl⟩:=key
 exact ho
theorem c68l {t:List UInt8}(ht:180 < t.length)(H':Heap) :
  R (.func 68) [.string ⟨t.toArray⟩] H'=some ⟨.ok (.tuple #[.agg #[.int .i64 0,.slice none 0 0,.slice none 0 0],.int .i64 3]),H',H'.length⟩:=by
 obtain ⟨Ha,hHa⟩:∃Ha,H'++[({ obj:=.cells [.string ⟨t.toArray⟩] }:Blk)]=Ha:=⟨_,rfl⟩
 have la:Ha.length=H'.length+1:=by rw [←hHa]; simp
 have hca:hcells Ha H'.length=some [.string ⟨t.toArray⟩]:=by rw [←hHa]; unfold hcells; rw [app_get]
 have sl0:=vv_slen' t
 have z1:((180:Int) < ((t.length:Nat):Int))=True:=eq_true (by omega)
 have bl:vv (.bld [.int .i64 0,.slice none 0 0,.slice none 0 0] []) []=some (.agg #[.int .i64 0,.slice none 0 0,.slice none 0 0]):=by rw [vv_of (by rfl)]; rfl
 have key:Yes (R (.func 68) [.string ⟨t.toArray⟩] H') (fun o=>o=⟨.ok (.tuple #[.agg #[.int .i64 0,.slice none 0 0,.slice none 0 0],.int .i64 3]),H',H'.length⟩):=by
  refine run_y (pr 68) P68 (by simp [p68]) rfl ?_
  simp (maxDischargeDepth:=8) only [↓SD,SU,SV,SW,simprocAttr,Int.cast_ofNat_Int,small,resV, B68,R68,N68,b68, hHa,hca,sl0,z1,bl,R68,N68]
  rw [yes_some]
  all_goals first | rfl | (rw [gc_ite (by omega)]; simp [flat])
 obtain ⟨o,ho,rfl⟩:=key
 exact ho
theorem c68t {t:List UInt8}(ht:t.length≤180)(hp:parseP t=none)(H':Heap)(hF:Fam H') :
  R (.func 68) [.string ⟨t.toArray⟩] H'=some ⟨.ok (.tuple #[.agg #[.int .i64 0,.slice none 0 0,.slice none 0 0],.int .i64 4]),H',H'.length⟩:=by
 obtain ⟨Ha,hHa⟩:∃Ha,H'++[({ obj:=.cells [.string ⟨t.toArray⟩] }:Blk)]=Ha:=⟨_,rfl⟩
 obtain ⟨Hb,hHb⟩:∃Hb,Ha++[({ obj:=.cells [.int .i64 0,.slice none 0 0,.slice none 0 0] }:Blk)]=Hb:=⟨_,rfl⟩
 obtain ⟨Hc,hHc⟩:∃Hc,Hb++[({ obj:=.cells [.slice none 0 0] }:Blk)]++[({ obj:=.cells [.int .i64 0] }:Blk)]=Hc:=⟨_,rfl⟩
 have la:Ha.length=H'.length+1:=by rw [←hHa]; simp
 have lb:Hb.length=H'.length+2:=by rw [←hHb]; simp [la]
 have lc:Hc.length=H'.length+4:=by rw [←hHc]; simp [lb]
 have ub:Up Ha Hb:=by rw [←hHb]; exact (Up.refl _).app
 have uc:Up Hb Hc:=by rw [←hHc]; exact (Up.refl _).app.app
 have hFc:Fam Hc:=by
  rw [←hHc,←hHb,←hHa]
  exact (((hF.append (fun f h=>by cases h)).append (fun f h=>by cases h)).append (fun f h=>by cases h)).append (fun f h=>by cases h)
 have xa:Ha[H'.length]?=some ⟨.cells [.string ⟨t.toArray⟩],true,true,none⟩:=by rw [←hHa]; exact app_get
 have ya:Hc[H'.length]?=some ⟨.cells [.string ⟨t.toArray⟩],true,true,none⟩:=by rw [uc.old _ (by omega),ub.old _ (by omega)]; exact xa
 have hca:hcells Ha H'.length=some [.string ⟨t.toArray⟩]:=by unfold hcells; rw [xa]
 obtain ⟨w,k104⟩:=c104p (x:=H'.length) (y:=Ha.length) (t:=t) (by unfold hcells; rw [ya]) (by omega) hp hFc
 have lc':Hc.length=Hb.length+2:=by omega
 rw [lc',←hHc] at k104
 have k84:=c84t (g:=104) (caps:=[.pointer (some ⟨H'.length,0,none⟩),.pointer (some ⟨Ha.length,0,none⟩)]) (H:=Hb) (by rfl) k104
 have k84':R (.func 84) [.func (.func 104) #[] #[.pointer (some ⟨H'.length,0,none⟩),.pointer (some ⟨Ha.length,0,none⟩)]] Hb=some ⟨.ok (.tuple #[.slice none 0 0,.int .i64 4]),Hb,Hb.length⟩:=k84
 have sl0:=vv_slen' t
 have z1:((180:Int) < ((t.length:Nat):Int))=False:=eq_false (by omega)
 have bl:vv (.bld [.int .i64 0,.slice none 0 0,.slice none 0 0] []) []=some (.agg #[.int .i64 0,.slice none 0 0,.slice none 0 0]):=by rw [vv_of (by rfl)]; rfl
 have key:Yes (R (.func 68) [.string ⟨t.toArray⟩] H') (fun o=>o=⟨.ok (.tuple #[.agg #[.int .i64 0,.slice none 0 0,.slice none 0 0],.int .i64 4]),H',H'.length⟩):=by
  refine run_y (pr 68) P68 (by simp [p68]) rfl ?_
  simp (maxDischargeDepth:=8) only [↓SD,SU,SV,SW,simprocAttr,Int.cast_ofNat_Int,small,resV, B68,R68,N68,b68, hHa,hca,sl0,z1,hHb,k84',bl,R68,N68]
  rw [yes_some]
  all_goals first | rfl | (rw [gc_ite (by omega)]; simp [flat])
 obtain ⟨o,ho,rfl⟩:=key
 exact ho
theorem c68a {t:List UInt8}{b:Bench}(ht:t.length≤180)(hp:parseP t=some b)(hB:isBench b=false)(H':Heap)(hF:Fam H') :
  R (.func 68) [.string ⟨t.toArray⟩] H'=some ⟨.ok (.tuple #[.agg #[.int .i64 0,.slice none 0 0,.slice none 0 0],.int .i64 2]),H',H'.length⟩:=by
 obtain ⟨Ha,hHa⟩:∃Ha,H'++[({ obj:=.cells [.string ⟨t.toArray⟩] }:Blk)]=Ha:=⟨_,rfl⟩
 obtain ⟨Hb,hHb⟩:∃Hb,Ha++[({ obj:=.cells [.int .i64 0,.slice none 0 0,.slice none 0 0] }:Blk)]=Hb:=⟨_,rfl⟩
 obtain ⟨Hc,hHc⟩:∃Hc,Hb++[({ obj:=.cells [.slice none 0 0] }:Blk)]++[({ obj:=.cells [.int .i64 0] }:Blk)]=Hc:=⟨_,rfl⟩
 have la:Ha.length=H'.length+1:=by rw [←hHa]; simp
 have lb:Hb.length=H'.length+2:=by rw [←hHb]; simp [la]
 have lc:Hc.length=H'.length+4:=by rw [←hHc]; simp [lb]
 have ua:Up H' Ha:=by rw [←hHa]; exact (Up.refl _).app
 have ub:Up Ha Hb:=by rw [←hHb]; exact (Up.refl _).app
 have uc:Up Hb Hc:=by rw [←hHc]; exact (Up.refl _).app.app
 have hFc:Fam Hc:=by
  rw [←hHc,←hHb,←hHa]
  exact (((hF.append (fun f h=>by cases h)).append (fun f h=>by cases h)).append (fun f h=>by cases h)).append (fun f h=>by cases h)
 have xa:Ha[H'.length]?=some ⟨.cells [.string ⟨t.toArray⟩],true,true,none⟩:=by rw [←hHa]; exact app_get
 have xb:Hb[Ha.length]?=some ⟨.cells [.int .i64 0,.slice none 0 0,.slice none 0 0],true,true,none⟩:=by rw [←hHb]; exact app_get
 have ya:Hc[H'.length]?=some ⟨.cells [.string ⟨t.toArray⟩],true,true,none⟩:=by rw [uc.old _ (by omega),ub.old _ (by omega)]; exact xa
 have yb:Hc[Ha.length]?=some ⟨.cells [.int .i64 0,.slice none 0 0,.slice none 0 0],true,true,none⟩:=by rw [uc.old _ (by omega)]; exact xb
 have yA:Hc[Hb.length]?=some ⟨.cells [.slice none 0 0],true,true,none⟩:=by rw [←hHc,List.append_assoc,List.getElem?_append_right (Nat.le_refl _)]; simp
 have yB:Hc[Hb.length+1]?=some ⟨.cells [.int .i64 0],true,true,none⟩:=by rw [←hHc,List.append_assoc,List.getElem?_append_right (by omega),Nat.add_sub_cancel_left]; rfl
 have hca:hcells Ha H'.length=some [.string ⟨t.toArray⟩]:=by unfold hcells; rw [xa]
 obtain ⟨r,H1,lo,k104,u1,hlo,hbe,hnb,l1,l2⟩:=c104 (x:=H'.length) (y:=Ha.length) (by unfold hcells; rw [ya]) yb (by omega) hp hFc
 obtain ⟨H2,hH2⟩:∃H2,H1.set Ha.length { obj:=.cells [.int .i64 r.app,.slice r.ba r.bl r.bk,.slice r.sa r.sl r.sk] }=H2:=⟨_,rfl⟩
 rw [hH2] at k104 hbe
 have h1l:=u1.len
 have e2:H2.length=H1.length:=by rw [←hH2]; simp
 have o2:∀i,i≠Ha.length→H2[i]?=H1[i]?:=fun i hi=>by rw [←hH2,List.getElem?_set_ne (fun e=>hi e.symm)]
 rw [←hHc] at k104
 obtain ⟨o,k84,lo2,hlo2,hlo3,ho⟩:=c84n (g:=104) (caps:=[.pointer (some ⟨H'.length,0,none⟩),.pointer (some ⟨Ha.length,0,none⟩)]) (H:=Hb) (by rfl) k104 (by rw [o2 _ (by omega),u1.old _ (by omega)]; exact yA) (by rw [o2 _ (by omega),u1.old _ (by omega)]; exact yB)
 rw [gc_not (by omega)] at ho
 subst ho
 have k84':R (.func 84) [.func (.func 104) #[] #[.pointer (some ⟨H'.length,0,none⟩),.pointer (some ⟨Ha.length,0,none⟩)]] Hb=some ⟨.ok (.tuple #[.slice none 0 0,.int .i64 0]),H2,lo2⟩:=k84
 have hcy:hcells H2 Ha.length=some [.int .i64 r.app,.slice r.ba r.bl r.bk,.slice r.sa r.sl r.sk]:=by
  unfold hcells; rw [←hH2,List.getElem?_set_self (by omega)]
 have hnb2:SmB r:=by
  have h1:=hbe.blen
  have h2:=hbe.len
  refine ⟨by have:=hnb.bo.2; omega,by have:=hnb.sl; omega,fun k hk=>?_⟩
  have hk2:k.s∈b.strokes:=by rw [hbe.eq]; exact List.mem_map_of_mem hk
  have:=(hnb.st k.s hk2).nd.2
  have:=(hbe.nd k hk).len
  omega
 have k74:=c74 hbe hnb2 H2 (Grow.refl _)
 rw [hB] at k74
 have sl0:=vv_slen' t
 have z1:((180:Int) < ((t.length:Nat):Int))=False:=eq_false (by omega)
 have bl:vv (.bld [.int .i64 0,.slice none 0 0,.slice none 0 0] []) []=some (.agg #[.int .i64 0,.slice none 0 0,.slice none 0 0]):=by rw [vv_of (by rfl)]; rfl
 have key:Yes (R (.func 68) [.string ⟨t.toArray⟩] H') (fun o=>o=⟨.ok (.tuple #[.agg #[.int .i64 0,.slice none 0 0,.slice none 0 0],.int .i64 2]),H',H'.length⟩):=by
  refine run_y (pr 68) P68 (by simp [p68]) rfl ?_
  simp (maxDischargeDepth:=8) only [↓SD,SU,SV,SW,simprocAttr,Int.cast_ofNat_Int,small,resV, B68,R68,N68,b68, l1,l2,hHa,hca,sl0,z1,hHb,k84',hcy,k74,bl,R68,N68]
  rw [yes_some]
  all_goals first | rfl | (rw [gc_ite (by omega)]; simp [flat])
 obtain ⟨o,ho,rfl⟩:=key
 exact ho
end Go.Pi.L.Ben
