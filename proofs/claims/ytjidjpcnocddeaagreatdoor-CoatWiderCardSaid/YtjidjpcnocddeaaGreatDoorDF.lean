/- Coats: whether some plan surely holds. -/
import Derived.Test.YtjidjpcnocddeaaGreatDoorDE
import Derived.Test.YtjidjpcnocddeaaGreatDoorDP
set_option linter.all false
set_option maxRecDepth 100000
namespace Go.Pi.L.Coa
open Go Go.Pi Go.Pi.L Go.Pi.Coa CM

def as133:PCode:=.reg [⟨some 6,.v .mv [.tmp 9],none⟩]
def bd133:PCode:=.blk 1 (.seq (.reg [⟨some 10,.v .mv [.tmp 6],none⟩,⟨none,.st 1 (.tmp 4) (.tmp 10),none⟩,⟨none,.st 1 (.tmp 5) (.const (.bool true)),none⟩]) (.exit 0))
theorem k_as133 {α:Type}{call:CallT}{F:Ex→St→Option α}{k:List It}{s:St}:mach call F (.code as133 :: k) none s=mach call F (.code (.reg [⟨some 6,.v .mv [.tmp 9],none⟩]) :: k) none s:=rfl
theorem k_bd133 {α:Type}{call:CallT}{F:Ex→St→Option α}{k:List It}{s:St}:mach call F (.code bd133 :: k) none s=mach call F (.code (.blk 1 (.seq (.reg [⟨some 10,.v .mv [.tmp 6],none⟩,⟨none,.st 1 (.tmp 4) (.tmp 10),none⟩,⟨none,.st 1 (.tmp 5) (.const (.bool true)),none⟩]) (.exit 0))) :: k) none s:=rfl
def FI (b4 b5 d l:Nat)(T:List Value)(acc:List (List Int))(A:Nat→Prop)(H:Heap):Prop :=
 acc=[]∧H[b4]?=some (bx (.slice none 0 0))∧¬A b4∧H[b5]?=some (bx (.bool false))∧¬A b5∧H[l]?=some (lpB 13 T [9] as133 bd133 d .ready none)∧¬A l∧H[d]?=some ⟨.dfr false,true,true,none⟩∧¬A d
def FF (b4 b5 d l:Nat)(T:List Value)(_:List (List Int))(A:Nat→Prop)(H:Heap):Prop :=
 (∃b n,H[b4]?=some (bx (.slice (some ⟨b,0,none⟩) n 1)))∧¬A b4∧H[b5]?=some (bx (.bool true))∧¬A b5∧H[l]?=some (lpB 13 T [9] as133 bd133 d .done (some (.exit 0)))∧¬A l∧H[d]?=some ⟨.dfr false,true,true,none⟩∧¬A d
theorem consF {n0 b4 b5 d l:Nat}{Rd:Nat→Prop}{T:List Value}(hT4:get T 4=.pointer (some ⟨b4,0,none⟩))(hT5:get T 5=.pointer (some ⟨b5,0,none⟩))(h4:n0≤b4)(h5:n0≤b5)(hl0:n0≤l)(r4:¬Rd b4)(r5:¬Rd b5)(rl:¬Rd l)(h45:b4≠b5)(h4l:b4≠l)(h5l:b5≠l)(hdl:d≠l)(hd4:d≠b4)(hd5:d≠b5) :
  Cons PP primsL l n0 Rd (fun _=>True) (FI b4 b5 d l T) (FF b4 b5 d l T):=by
 refine ⟨fun acc A H H' ⟨h1,h2,h3,h4,h5,h6,h7,h8,h9⟩ c=>⟨h1,by rw [c.old _ (lt_of_get h2) h3]; exact h2,not_and h3 (lt_of_get h2),by rw [c.old _ (lt_of_get h4) h5]; exact h4,not_and h5 (lt_of_get h4),by rw [c.old _ (lt_of_get h6) h7]; exact h6,not_and h7 (lt_of_get h6),by rw [c.old _ (lt_of_get h8) h9]; exact h8,not_and h9 (lt_of_get h8)⟩,
  fun acc A B H ⟨h1,h2,h3,h4,h5,h6,h7,h8,h9⟩ hab=>⟨h1,h2,fun q=>h3 (hab _ q),h4,fun q=>h5 (hab _ q),h6,fun q=>h7 (hab _ q),h8,fun q=>h9 (hab _ q)⟩,
  fun acc A H H' ⟨⟨b,n,h2⟩,h3,h4,h5,h6,h7,h8,h9⟩ c=>⟨⟨b,n,by rw [c.old _ (lt_of_get h2) h3]; exact h2⟩,not_and h3 (lt_of_get h2),by rw [c.old _ (lt_of_get h4) h5]; exact h4,not_and h5 (lt_of_get h4),by rw [c.old _ (lt_of_get h6) h7]; exact h6,not_and h7 (lt_of_get h6),by rw [c.old _ (lt_of_get h8) h9]; exact h8,not_and h9 (lt_of_get h8)⟩,
  fun acc A H p b _ ⟨g1,g2,g3,g4,g5,g6,g7,g8,g9⟩ hA hN hF hs hb=>?_⟩
 obtain ⟨H1,hH1⟩:∃H1,H.set l { obj:=.loop 13 T [9] as133 bd133 d .busy none }=H1:=⟨_,rfl⟩
 have hlt:=lt_of_get g6
 have lt4:=lt_of_get g2
 have lt5:=lt_of_get g4
 have old1:∀i,i≠l→H1[i]?=H[i]?:=fun i hi=>by rw [←hH1,List.getElem?_set_ne (fun e=>hi e.symm)]
 have len1:H1.length=H.length:=by rw [←hH1]; simp
 have l1:H1[l]?=some (lpB 13 T [9] as133 bd133 d .busy none):=by rw [←hH1,List.getElem?_set_self hlt]; rfl
 obtain ⟨H2,hH2⟩:∃H2,H1.set b4 { obj:=.cells [.slice (some ⟨b,0,none⟩) p.length 1] }=H2:=⟨_,rfl⟩
 have old2:∀i,i≠b4→H2[i]?=H1[i]?:=fun i hi=>by rw [←hH2,List.getElem?_set_ne (fun e=>hi e.symm)]
 have len2:H2.length=H1.length:=by rw [←hH2]; simp
 obtain ⟨H3,hH3⟩:∃H3,H2.set b5 { obj:=.cells [.bool true] }=H3:=⟨_,rfl⟩
 have old3:∀i,i≠b5→H3[i]?=H2[i]?:=fun i hi=>by rw [←hH3,List.getElem?_set_ne (fun e=>hi e.symm)]
 have len3:H3.length=H2.length:=by rw [←hH3]; simp
 have s4:H1[b4]?=some ⟨.cells [.slice none 0 0],true,true,none⟩:=by rw [old1 b4 h4l]; exact g2
 have s5:H2[b5]?=some ⟨.cells [.bool false],true,true,none⟩:=by rw [old2 b5 (fun e=>h45 e.symm),old1 b5 h5l]; exact g4
 have l3:H3[l]?=some ⟨.loop 13 T [9] as133 bd133 d .busy none,true,true,none⟩:=by rw [old3 l (fun e=>h5l e.symm),old2 l (fun e=>h4l e.symm)]; exact l1
 have g6':H[l]?=some ⟨.loop 13 T [9] as133 bd133 d .ready none,true,true,none⟩:=g6
 obtain ⟨H4,hH4⟩:∃H4,H3.set l { obj:=.loop 13 T [9] as133 bd133 d .done (some (.exit 0)) }=H4:=⟨_,rfl⟩
 have old4:∀i,i≠l→H4[i]?=H3[i]?:=fun i hi=>by rw [←hH4,List.getElem?_set_ne (fun e=>hi e.symm)]
 have len4:H4.length=H3.length:=by rw [←hH4]; simp
 have old:∀i,i≠l→i≠b4→i≠b5→H4[i]?=H[i]?:=fun i e1 e2 e3=>by rw [old4 i e1,old3 i e3,old2 i e2,old1 i e1]
 have key:Yes (R (.yield l) [.slice (some ⟨b,0,none⟩) p.length 1] H) (fun o=>∃lo,o=⟨.ok (.bool false),H4,lo⟩∧n0≤lo∧lo≤l):=by
  refine run_yl g6' rfl rfl ?_
  simp (maxDischargeDepth:=8) only [↓SD,SU,SV,SW,simprocAttr,Int.cast_ofNat_Int,small,resV,k_as133,setParams,yA_n g6',hH1,k_bd133,hT4,hT5,s4,s5,stH_ok,hH2,hH3,x_blk' 0 1 (by decide),x_nil,yE_x l3,hH4]
  rw [yes_some]
  exact ⟨_,rfl,by omega,by omega⟩
 obtain ⟨o,ho,lo,rfl,w1,w2⟩:=key
 refine ⟨false,H4,lo,ho,w1,w2,by omega,fun i hi=>?_,fun i b g hi hg ha=>?_,(fun h=>by cases h),fun _=>⟨⟨b,p.length,?_⟩,g3,?_,g5,?_,g7,?_,g9⟩⟩
 ·rcases hi with hi | hi
  ·exact old i (fun e=>by subst e; exact g7 hi) (fun e=>by subst e; exact g3 hi) (fun e=>by subst e; exact g5 hi)
  ·exact old i (fun e=>by subst e; exact rl hi) (fun e=>by subst e; exact r4 hi) (fun e=>by subst e; exact r5 hi)
 ·by_cases e1:i=l
  ·subst e1; rw [←hH4,List.getElem?_set_self (by omega)] at hi; cases hi; cases hg
  ·by_cases e2:i=b4
   ·subst e2; rw [old4 _ e1,old3 _ h45,←hH2,List.getElem?_set_self (by omega)] at hi; cases hi; cases hg
   ·by_cases e3:i=b5
    ·subst e3; rw [old4 _ e1,←hH3,List.getElem?_set_self (by omega)] at hi; cases hi; cases hg
    ·rw [old i e1 e2 e3] at hi; exact hN i b g hi hg ha
 ·rw [old4 _ h4l,old3 _ h45,←hH2,List.getElem?_set_self (by omega)]; rfl
 ·rw [old4 _ h5l,←hH3,List.getElem?_set_self (by omega)]; rfl
 ·rw [←hH4,List.getElem?_set_self (by omega)]; rfl
 ·rw [old d hdl hd4 hd5]; exact g8
theorem c133 {H:Heap}{r:ShR}{p:SpR}{s:Sheet}(hp:SpOk H r p s)(hS:ShFine s)(hF:Fam H) :
  Yes (R (.func 133) [.agg #[.slice r.da r.dl r.dk,.slice r.wa r.wl r.wk,.slice r.ca r.cl r.ck,.slice p.la p.ll p.lk,.slice p.ha p.hl p.hk]] H) (fun o=>∃a l m H1 lo,o=⟨.ok (.tuple #[.slice a l m,.bool (CM.can s)]),H1,lo⟩∧Up H H1∧H.length≤lo∧isLoc (.slice a l m)=false):=by
 refine run_y (pr 133) P133 (by simp [p133]) rfl ?_
 obtain ⟨H0,hH0⟩:∃H0,H++[({ obj:=.cells [.slice none 0 0] }:Blk)]=H0:=⟨_,rfl⟩
 obtain ⟨Ha,hHa⟩:∃Ha,H0++[({ obj:=.cells [.bool false] }:Blk)]=Ha:=⟨_,rfl⟩
 have u0:Up H H0:=by rw [←hH0]; exact (Up.refl H).app
 have ua:Up H0 Ha:=by rw [←hHa]; exact (Up.refl H0).app
 have len0:H0.length=H.length+1:=by rw [←hH0]; simp
 have lena:Ha.length=H.length+2:=by rw [←hHa]; simp [len0]
 have k105:=c105 (hp.grow (u0.trans ua).grow) Ha
 unfold shopC at k105
 obtain ⟨da,dl,dk,wa,wl,wk,ca,cl,ck⟩:=r
 obtain ⟨la,ll,lk,ha,hl,hk⟩:=p
 have hD:Spans H da dl s.dry:=hp.sh.d
 have hW:Ints H wa wl s.work:=hp.sh.w
 have hC:Spans H ca cl s.coats:=hp.sh.c
 have hLo:Ints H la ll (ps (lows s) s.dry.length):=hp.lo
 have hHi:Ints H ha hl (ps (highs s) s.dry.length):=hp.hi
 have l1:=hD.isLoc dk
 have l2:=hW.isLoc wk
 have l3:=hC.isLoc ck
 have l4:=hLo.isLoc lk
 have l5:=hHi.isLoc hk
 simp only at k105
 obtain ⟨Hb,hHb⟩:∃Hb,Ha++[({ obj:=.cells [.slice da dl dk,.slice wa wl wk,.slice ca cl ck,.slice la ll lk,.slice ha hl hk] }:Blk)]=Hb:=⟨_,rfl⟩
 have ub:Up Ha Hb:=by rw [←hHb]; exact (Up.refl Ha).app
 have lenb:Hb.length=H.length+3:=by rw [←hHb]; simp [lena]
 obtain ⟨T,hT⟩:∃T,List.map deloc [.agg #[.slice da dl dk,.slice wa wl wk,.slice ca cl ck,.slice la ll lk,.slice ha hl hk],.pointer (some ⟨1,0,some 1⟩),.slice none 0 0,.bool false,.pointer (some ⟨H.length,0,none⟩),.pointer (some ⟨H0.length,0,none⟩),undef,.agg #[.slice da dl dk,.slice wa wl wk,.slice ca cl ck,.slice la ll lk,.slice ha hl hk],.func (.func 135) #[] #[.pointer (some ⟨Ha.length,0,none⟩)]]=T:=⟨_,rfl⟩
 obtain ⟨Hl,hHl⟩:∃Hl,Hb++[({ obj:=.dfr false }:Blk)]++[({ obj:=.loop 13 T [9] (.reg [⟨some 6,.v .mv [.tmp 9],none⟩]) (.blk 1 (.seq (.reg [⟨some 10,.v .mv [.tmp 6],none⟩,⟨none,.st 1 (.tmp 4) (.tmp 10),none⟩,⟨none,.st 1 (.tmp 5) (.const (.bool true)),none⟩]) (.exit 0))) Hb.length .ready none }:Blk)]=Hl:=⟨_,rfl⟩
 have ul:Up Hb Hl:=by rw [←hHl]; exact (Up.refl Hb).app.app
 have lenl:Hl.length=Hb.length+2:=by rw [←hHl]; simp
 have ubl:=ub.trans ul
 have ual:=ua.trans ubl
 have u:=u0.trans ual
 have bd:Hl[Hb.length]?=some ⟨.dfr false,true,true,none⟩:=by rw [←hHl,List.append_assoc,List.getElem?_append_right (Nat.le_refl _)]; simp
 have bl:Hl[Hb.length+1]?=some (lpB 13 T [9] as133 bd133 Hb.length .ready none):=by rw [←hHl,List.append_assoc,List.getElem?_append_right (by omega),Nat.add_sub_cancel_left]; rfl
 have b4:Hl[H.length]?=some (bx (.slice none 0 0)):=by rw [ual.old _ (by omega),←hH0]; exact app_get
 have a5:Ha[H0.length]?=some ⟨.cells [.bool false],true,true,none⟩:=by rw [←hHa]; exact app_get
 have e5:Ha.set H0.length { obj:=.cells [.bool false] }=Ha:=by rw [←hHa]; exact app_set
 have b5:Hl[H0.length]?=some (bx (.bool false)):=by rw [ubl.old _ (by omega)]; exact a5
 have bx0:hcells Hl Ha.length=some (shopC ⟨da,dl,dk,wa,wl,wk,ca,cl,ck⟩ ⟨la,ll,lk,ha,hl,hk⟩):=by
  show _=some ([.slice da dl dk,.slice wa wl wk,.slice ca cl ck,.slice la ll lk,.slice ha hl hk]:List Value)
  have:Hl[Ha.length]?=some ⟨.cells [.slice da dl dk,.slice wa wl wk,.slice ca cl ck,.slice la ll lk,.slice ha hl hk],true,true,none⟩:=by rw [ul.old _ (by omega),←hHb]; exact app_get
  simp [hcells,this]
 have hFl:Fam Hl:=by
  rw [←hHl,←hHb,←hHa,←hH0]
  exact (((((hF.append (fun f h=>by cases h)).append (fun f h=>by cases h)).append (fun f h=>by cases h)).append (fun f h=>by cases h)).append (fun f h=>by cases h))
 have tT4:get T 4=.pointer (some ⟨H.length,0,none⟩):=by rw [←hT]; rfl
 have tT5:get T 5=.pointer (some ⟨H0.length,0,none⟩):=by rw [←hT]; rfl
 let Rd:Nat→Prop:=fun i=>i < H.length∨i=Ha.length
 have hI:FI H.length H0.length Hb.length (Hb.length+1) T [] (fun _=>False) Hl:=⟨rfl,b4,id,b5,id,bl,id,bd,id⟩
 obtain ⟨o,ho,H',lo,A',rfl,w1,w2,w3,w4,w5⟩:=c135 (Rd:=Rd) (n0:=H.length) hS (consF tT4 tT5 (Nat.le_refl _) (by omega) (by omega) (fun h=>by rcases h with h | h <;> omega) (fun h=>by rcases h with h | h <;> omega) (fun h=>by rcases h with h | h <;> omega) (by omega) (by omega) (by omega) (by omega) (by omega) (by omega)) (fun _ _ _=>trivial) hFl hI (by omega) (by omega) (fun i hi=>by rcases hi with hi | hi <;> omega) (.inr rfl) bx0 (hp.grow u.grow)
  ⟨fun h0 b off h=>.inl (Sl.inR hp.sh.d h0 b off h),fun h0 b off h=>.inl (Sl.inR hp.sh.w h0 b off h),fun h0 b off h=>.inl (Sl.inR hp.sh.c h0 b off h),fun h0 b off h=>.inl (Sl.inR hp.lo h0 b off h),fun h0 b off h=>.inl (Sl.inR hp.hi h0 b off h)⟩
 have lo':H.length≤lo:=w1
 have fin:∀(v:Value) (H3:Heap) (lo3:Nat),(∀i,i < H.length→H3[i]?=H'[i]?)→H3.length=H'.length→H.length≤lo3→∀{a l m},v=.tuple #[.slice a l m,.bool (CM.can s)]→isLoc (.slice a l m)=false→∃a l m H1 lo,gcR H (.ok v) H3 lo3=⟨.ok (.tuple #[.slice a l m,.bool (CM.can s)]),H1,lo⟩∧Up H H1∧H.length≤lo∧isLoc (.slice a l m)=false:=by
  intro v H3 lo3 h1 h2 h3 a l m hv hl0
  subst hv
  rw [gc_ite h3]
  split
  ·exact ⟨a,l,m,H,H.length,rfl,Up.refl H,Nat.le_refl _,hl0⟩
  ·exact ⟨a,l,m,H3,lo3,rfl,⟨by have:=u.len; omega,fun i hi=>by rw [h1 i hi,w3 i (.inl hi),u.old i hi]⟩,h3,hl0⟩
 rcases w5 with ⟨i1,i2,i3,i4,i5,i6,i7,i8,i9⟩ | ⟨y1,L1,L2,y2,y3,⟨b,n,i2⟩,i3,i4,i5,i6,i7,i8,i9⟩
 ·have hcan:CM.can s=false:=by simp [CM.can,i1]
  rw [hcan] at fin ⊢
  obtain ⟨H2,hH2⟩:∃H2,H'.set (Hb.length+1) { obj:=.loop 13 T [9] as133 bd133 Hb.length .exhausted none }=H2:=⟨_,rfl⟩
  obtain ⟨H3,hH3⟩:∃H3,H2.set Hb.length { obj:=.dfr true }=H3:=⟨_,rfl⟩
  have i6':H'[Hb.length+1]?=some ⟨.loop 13 T [9] as133 bd133 Hb.length .ready none,true,true,none⟩:=i6
  have d2:H2[Hb.length]?=some ⟨.dfr false,true,true,none⟩:=by rw [←hH2,List.getElem?_set_ne (by omega)]; exact i8
  have c4:hcells H2 H.length=some [.slice none 0 0]:=by
   have:H2[H.length]?=H'[H.length]?:=by rw [←hH2,List.getElem?_set_ne (by omega)]
   rw [hc_kept this]; exact bx_hc i2
  have c5:hcells H2 H0.length=some [.bool false]:=by
   have:H2[H0.length]?=H'[H0.length]?:=by rw [←hH2,List.getElem?_set_ne (by omega)]
   rw [hc_kept this]; exact bx_hc i4
  simp (maxDischargeDepth:=8) only [↓SD,SU,SV,SW,simprocAttr,Int.cast_ofNat_Int,small,resV, B133,R133,N133,b133, l1,l2,l3,l4,l5,a5,e5,hH0,hHa,app_get,app_set,stH_ok,k105,k_rf,rfA_some,fa_clo1,hHb,hT,hHl,ho,rfR_n _ _ _ _ _ _ _ _ _ _ i6',hH2,c4,c5,R133,N133,unw_coll,d2,hH3]
  rw [yes_some]
  exact fin _ H3 _ (fun i hi=>by rw [←hH3,List.getElem?_set_ne (by omega),←hH2,List.getElem?_set_ne (by omega)]) (by rw [←hH3,←hH2]; simp) (by have m2:H2.length=H'.length:=by { rw [←hH2]; simp }; omega) rfl rfl
 ·have hcan:CM.can s=true:=by
   cases L1 with
   | nil=>exact absurd rfl y3
   | cons q qs=>simp [CM.can,y2]
  rw [hcan] at fin ⊢
  obtain ⟨H2,hH2⟩:∃H2,H'.set (Hb.length+1) { obj:=.loop 13 T [9] as133 bd133 Hb.length .exhausted (some (.exit 0)) }=H2:=⟨_,rfl⟩
  obtain ⟨H3,hH3⟩:∃H3,H2.set Hb.length { obj:=.dfr true }=H3:=⟨_,rfl⟩
  have i6':H'[Hb.length+1]?=some ⟨.loop 13 T [9] as133 bd133 Hb.length .done (some (.exit 0)),true,true,none⟩:=i6
  have d2:H2[Hb.length]?=some ⟨.dfr false,true,true,none⟩:=by rw [←hH2,List.getElem?_set_ne (by omega)]; exact i8
  have c4:hcells H2 H.length=some [.slice (some ⟨b,0,none⟩) n 1]:=by
   have:H2[H.length]?=H'[H.length]?:=by rw [←hH2,List.getElem?_set_ne (by omega)]
   rw [hc_kept this]; exact bx_hc i2
  have c5:hcells H2 H0.length=some [.bool true]:=by
   have:H2[H0.length]?=H'[H0.length]?:=by rw [←hH2,List.getElem?_set_ne (by omega)]
   rw [hc_kept this]; exact bx_hc i4
  simp (maxDischargeDepth:=8) only [↓SD,SU,SV,SW,simprocAttr,Int.cast_ofNat_Int,small,resV, B133,R133,N133,b133, l1,l2,l3,l4,l5,a5,e5,hH0,hHa,app_get,app_set,stH_ok,k105,k_rf,rfA_some,fa_clo1,hHb,hT,hHl,ho,rfR_x _ _ _ _ _ _ _ _ _ _ i6',hH2,c4,c5,R133,N133,unw_coll,d2,hH3]
  rw [yes_some]
  exact fin _ H3 _ (fun i hi=>by rw [←hH3,List.getElem?_set_ne (by omega),←hH2,List.getElem?_set_ne (by omega)]) (by rw [←hH3,←hH2]; simp) (by have m2:H2.length=H'.length:=by { rw [←hH2]; simp }; omega) rfl rfl
theorem c99 {H:Heap}{r:ShR}{s:Sheet}(hs:ShOk H r s)(hd:Small r)(hS:ShFine s):∀H',Grow H H'→Fam H'→R (.func 99) [.agg #[.slice r.da r.dl r.dk,.slice r.wa r.wl r.wk,.slice r.ca r.cl r.ck]] H'=some ⟨.ok (.bool (CM.can s)),H',H'.length⟩:=by
 intro H' hg hF
 refine run_k (pr 99) P99 (by simp [p99]) rfl ?_
 have hdl:r.dl=s.dry.length:=hs.d.len.symm
 obtain ⟨o,ho,la,lc,ha,hc,H1,lo,rfl,hu,hlo,i1,i2⟩:=c78 hs hd hS H' hg
 have hF1:Fam H1:=famR ho hF
 rw [hdl] at i1 i2
 have hp:SpOk H1 r ⟨la,_,lc,ha,_,hc⟩ s:=⟨hs.grow (hg.trans hu.grow),i1,i2⟩
 obtain ⟨o,ho2,a,l,m,H2,lo2,rfl,u2,hlo2,hl0⟩:=c133 hp hS hF1
 have l6:=i1.isLoc lc
 have l7:=i2.isLoc hc
 have n1:=hu.len
 have n2:=u2.len
 have n4:H'.length≤lo:=hlo
 have n5:H1.length≤lo2:=hlo2
 have n6:H'.length≤lo2:=by omega
 have n8:H'.length≤H2.length:=by omega
 rw [←hdl] at l6 l7 ho2
 obtain ⟨da,dl,dk,wa,wl,wk,ca,cl,ck⟩:=r
 have hD:Spans H da dl s.dry:=hs.d
 have hW:Ints H wa wl s.work:=hs.w
 have hC:Spans H ca cl s.coats:=hs.c
 have nD:dl < 1000000:=hd.d
 have nW:wl < 1000000:=hd.w
 have nC:cl < 1000000:=hd.c
 have l1:=hD.isLoc dk
 have l2:=hW.isLoc wk
 have l3:=hC.isLoc ck
 simp only at ho hdl ho2 l6 l7
 simp (maxDischargeDepth:=8) only [↓SD,SU,SV,SW,simprocAttr,Int.cast_ofNat_Int,small,resV, B99,R99,N99,b99, l1,l2,l3,l6,l7,ho,ho2,hl0,n1,n2,n4,n5,n6,n8,R99,N99]
end Go.Pi.L.Coa
set_option maxRecDepth 100000
namespace Go.Pi.L.Coa
open Go Go.Pi Go.Pi.L Go.Pi.Coa CM

theorem cutC {H:Heap}{r:ShR}{s:Sheet}(hs:ShOk H r s)(hd:Small r){n:Nat}(hn:n < s.coats.length) :
  ∃a m,VOp.ev.slc 2 r.ca r.cl r.ck 0 ((n+1:Nat):Int)=some (.slice a (n+1) m)∧isLoc (.slice a (n+1) m)=false∧ShOk H ⟨r.da,r.dl,r.dk,r.wa,r.wl,r.wk,a,n+1,m⟩ (upto s n)∧Small ⟨r.da,r.dl,r.dk,r.wa,r.wl,r.wk,a,n+1,m⟩:=by
 have hl:=hs.c.len
 have h3:=hd.c
 obtain ⟨a,m,q,hc⟩:=hs.c.cut r.ck 0 (n+1) (by omega) (by omega)
 rw [List.drop_zero,Nat.sub_zero] at hc
 rw [Nat.sub_zero] at q
 exact ⟨a,m,q,hc.isLoc m,⟨hs.d,hs.w,hc⟩,⟨hd.d,hd.w,by show n+1 < 1000000; omega⟩⟩
theorem c55 {H:Heap}{r:ShR}{s:Sheet}(hs:ShOk H r s)(hd:Small r)(hS:ShFine s){n:Nat}(hn:n < s.coats.length):∀H',Grow H H'→Fam H'→Yes (R (.func 55) [.agg #[.slice r.da r.dl r.dk,.slice r.wa r.wl r.wk,.slice r.ca r.cl r.ck],.int .i64 (n:Nat)] H') (fun o =>
  ∃a m H1 lo,o=⟨.ok (.agg #[.slice r.da r.dl r.dk,.slice r.wa r.wl r.wk,.slice a (n+1) m]),H1,lo⟩∧Up H' H1∧H'.length≤lo∧ShOk H1 ⟨r.da,r.dl,r.dk,r.wa,r.wl,r.wk,a,n+1,m⟩ (upto s n)∧isLoc (.slice a (n+1) m)=false):=by
 intro H' hg hF
 refine run_y (pr 55) P55 (by simp [p55]) rfl ?_
 obtain ⟨a,m,q,lq,hk,_⟩:=cutC hs hd hn
 have hc2:=hS.c2
 have hcs:Spans H a (n+1) (upto s n).coats:=hk.c
 have el:=fun T S D lo k rnd=>(hcs.grow hg).elems (fun _=>rfl) (by decide) m T S D lo k rnd
 have g0:=Bld.nil H'.length H' 2
 obtain ⟨H1,q1,g1,q3,f1⟩:=g0.apps hF (by decide) (by decide) (Nat.le_refl _) (cells encS (upto s n).coats) (i:=n+1) (by omega) (by rw [cells_len (k:=2) (fun _=>rfl),hcs.len]) (by omega)
 have hu:Up H' H1:=q3.up g0 (Up.refl _) (Nat.le_refl _)
 rw [Nat.zero_add] at g1 q1
 rw [List.nil_append] at g1
 have w1:=wrap_succ n (by omega)
 have l6:=g1.isLoc (n+1) 2
 obtain ⟨da,dl,dk,wa,wl,wk,ca,cl,ck⟩:=r
 have hD:Spans H da dl s.dry:=hs.d
 have hW:Ints H wa wl s.work:=hs.w
 have hC:Spans H ca cl s.coats:=hs.c
 have nD:dl < 1000000:=hd.d
 have nW:wl < 1000000:=hd.w
 have nC:cl < 1000000:=hd.c
 have l1:=hD.isLoc dk
 have l2:=hW.isLoc wk
 have l3:=hC.isLoc ck
 simp only at q
 simp (maxDischargeDepth:=8) only [↓SD,SU,SV,SW,simprocAttr,Int.cast_ofNat_Int,small,resV, B55,R55,N55,b55, l1,l2,l3,lq,l6,w1,q,el,q1,vv_slh,R55,N55]
 rw [yes_some]
 exact ⟨_,_,H1,_,by rw [gc_ite (Nat.le_refl _),if_neg (by simp [flat])],hu,Nat.le_refl _,⟨hD.grow (hg.trans hu.grow),hW.grow (hg.trans hu.grow),g1.sl (fun _=>rfl) (by decide)⟩,l6⟩
theorem c52 {H:Heap}{r:ShR}{s:Sheet}(hs:ShOk H r s)(hd:Small r):∀H',Grow H H'→Fam H'→R (.func 52) [.agg #[.slice r.da r.dl r.dk,.slice r.wa r.wl r.wk,.slice r.ca r.cl r.ck]] H'=some ⟨.ok (if isSheet s=true then (if stuckAt s < 0 then .tuple #[.int .i64 0,.int .i64 5] else .tuple #[.int .i64 (stuckAt s),.int .i64 0]) else .tuple #[.int .i64 0,.int .i64 2]),H',H'.length⟩:=by
 intro H' hg hF
 refine run_k (pr 52) P52 (by simp [p52]) rfl ?_
 have k75:=c75 hs hd H' hg
 cases e1:isSheet s with
 | false =>
  simp only [Bool.false_eq_true,if_false]
  simp (maxDischargeDepth:=8) only [↓SD,SU,SV,SW,simprocAttr,Int.cast_ofNat_Int,small,resV, B52,R52,N52,b52, hs.d.isLoc,hs.w.isLoc,hs.c.isLoc,k75,e1,R52,N52]
 | true =>
 have hS:=fine_of e1
 have hcl:r.cl=s.coats.length:=hs.c.len.symm
 have hc2:=hS.c2
 have cut:=fun (n:Nat) (hn:n < s.coats.length)=>cutC hs hd hn
 simp only [if_true]
 obtain ⟨da,dl,dk,wa,wl,wk,ca,cl,ck⟩:=r
 have hD:Spans H da dl s.dry:=hs.d
 have hW:Ints H wa wl s.work:=hs.w
 have hC:Spans H ca cl s.coats:=hs.c
 have nD:dl < 1000000:=hd.d
 have nW:wl < 1000000:=hd.w
 have nC:cl < 1000000:=hd.c
 have l1:=hD.isLoc dk
 have l2:=hW.isLoc wk
 have l3:=hC.isLoc ck
 simp only at k75 hcl cut
 simp (maxDischargeDepth:=8) only [↓SD,SU,SV,SW,simprocAttr,Int.cast_ofNat_Int,small,resV, B52,R52,N52,b52, l1,l2,l3,k75,e1]
 refine loop_ind (G:=(·=_)) (fun j σ=>∃T S,σ=⟨T,S,[],H',(H').length,27,false⟩∧get T 1=.pointer (some ⟨1,0,some 1⟩)∧get T 11=.int .i64 cl∧get T 12=.int .i64 (j:Nat)∧sget S 1=(1,.cells [.slice da dl dk,.slice wa wl wk,.slice ca cl ck])∧(stk s j (cl - j)=stuckAt s)) (cl) ?_ ?_ 0 _ (Nat.zero_le _) ⟨_,_,rfl,rfl,rfl,rfl,rfl,by rw [hcl]; rfl⟩
 ·rintro c' j s hj ⟨T,S,rfl,t1,t11,t12,s0,hp⟩ ih
  obtain ⟨a,m,q,lq,hk,hd2⟩:=cut j (by omega)
  have k99:=c99 hk hd2 (upto_fine hS j) H' hg hF
  simp only at k99
  have w1:=wrap_succ j (by omega)
  obtain ⟨n,hn⟩:∃n,cl - j=n+1:=⟨cl - j - 1,by omega⟩
  have hn':cl - (j+1)=n:=by omega
  rw [hn,stk] at hp
  rw [hn'] at ih
  cases e2:CM.can (upto s j) with
  | false =>
   rw [e2,if_neg (by simp)] at hp
   have z:((j:Int) < 0)=False:=eq_false (by omega)
   rw [←hp,if_neg (by omega)]
   simp (maxDischargeDepth:=8) only [↓SD,SU,SV,SW,simprocAttr,Int.cast_ofNat_Int,small,resV, q52x0,t1,t11,t12,s0, s0,lt_nat,hj,l1,l2,l3,lq,vv_slh,w1,q,k99,e2,R52,N52]
  | true =>
   rw [e2,if_pos rfl] at hp
   simp (maxDischargeDepth:=8) only [↓SD,SU,SV,SW,simprocAttr,Int.cast_ofNat_Int,small,resV, q52x0,t1,t11,t12,s0, s0,lt_nat,hj,l1,l2,l3,lq,vv_slh,w1,q,k99,e2]
   exact ih _ ⟨_,_,rfl,(by simp [get_set,t1] <;> omega),(by simp [get_set,t11] <;> omega),(by simp [get_set,t12] <;> omega),by simp [sget_sset,s0],hp⟩
 ·rintro c' s ⟨T,S,rfl,t1,t11,t12,s0,hp⟩
  rw [Nat.sub_self] at hp
  simp only [stk] at hp
  rw [←hp,if_pos (by decide)]
  simp (maxDischargeDepth:=8) only [↓SD,SU,SV,SW,simprocAttr,Int.cast_ofNat_Int,small,resV, q52x0,t1,t11,t12,s0, s0,lt_nat,Nat.lt_irrefl,l1,l2,l3,R52,N52]
theorem c53 {H:Heap}{r:ShR}{s:Sheet}(hs:ShOk H r s)(hd:Small r)(hS:ShFine s):∀H',Grow H H'→Fam H'→R (.func 53) [.agg #[.slice r.da r.dl r.dk,.slice r.wa r.wl r.wk,.slice r.ca r.cl r.ck]] H'=some ⟨.ok (.int .i64 (stuckAt s)),H',H'.length⟩:=by
 intro H' hg hF
 refine run_k (pr 53) P53 (by simp [p53]) rfl ?_
 have hcl:r.cl=s.coats.length:=hs.c.len.symm
 have hc2:=hS.c2
 have k55:=fun (n:Nat) (hn:n < s.coats.length) H1 g f=>c55 hs hd hS hn H1 g f
 have hdd:=hd.d
 have hdw:=hd.w
 obtain ⟨da,dl,dk,wa,wl,wk,ca,cl,ck⟩:=r
 have hD:Spans H da dl s.dry:=hs.d
 have hW:Ints H wa wl s.work:=hs.w
 have hC:Spans H ca cl s.coats:=hs.c
 have nD:dl < 1000000:=hd.d
 have nW:wl < 1000000:=hd.w
 have nC:cl < 1000000:=hd.c
 have l1:=hD.isLoc dk
 have l2:=hW.isLoc wk
 have l3:=hC.isLoc ck
 simp only at hcl k55
 simp (maxDischargeDepth:=8) only [↓SD,SU,SV,SW,simprocAttr,Int.cast_ofNat_Int,small,resV, B53,R53,N53,b53, l1,l2,l3]
 refine loop_ind (G:=(·=_)) (fun j σ=>∃T S H1 lim,σ=⟨T,S,[],H1,lim,18,false⟩∧get T 1=.pointer (some ⟨1,0,some 1⟩)∧get T 3=.int .i64 (j:Nat)∧sget S 1=(1,.cells [.slice da dl dk,.slice wa wl wk,.slice ca cl ck])∧(stk s j (cl - j)=stuckAt s∧Up H' H1∧Fam H1∧H'.length≤lim)) (cl) ?_ ?_ 0 _ (Nat.zero_le _) ⟨_,_,_,_,rfl,rfl,rfl,rfl,⟨by rw [hcl]; rfl,Up.refl _,hF,Nat.le_refl _⟩⟩
 ·rintro c' j s hj ⟨T,S,H1,lim,rfl,t1,t3,s0,hp⟩ ih
  obtain ⟨hp,hu,hF1,hlim⟩:=hp
  obtain ⟨o,ho,a,m,H2,lo2,rfl,u2,hlo2,hk,lq⟩:=k55 j (by omega) H1 (hg.trans hu.grow) hF1
  have hF2:Fam H2:=famR ho hF1
  obtain ⟨o,ho3,a3,m3,H3,lo3,rfl,u3,hlo3,hL⟩:=c43 hk ⟨hdd,hdw,by show j+1 < 1000000; omega⟩ (upto_fine hS j) H2 (Grow.refl _) hF2
  have hF3:Fam H3:=famR ho3 hF2
  simp only at ho3
  have l6:=hL.isLoc (allP (upto s j)).length m3
  have w1:=wrap_succ j (by omega)
  have n1:=hu.len
  have n2:=u2.len
  have n3:=u3.len
  have n4:H2.length≤lo3:=hlo3
  obtain ⟨n,hn⟩:∃n,cl - j=n+1:=⟨cl - j - 1,by omega⟩
  have hn':cl - (j+1)=n:=by omega
  rw [hn,stk] at hp
  rw [hn'] at ih
  cases e2:CM.can (upto s j) with
  | false =>
   rw [e2,if_neg (by simp)] at hp
   have z:(((allP (upto s j)).length:Int)=0)=True:=by
    simp only [CM.can,Bool.not_eq_false',List.isEmpty_iff] at e2
    simp [e2]
   have m1:H'.length≤lo3:=by omega
   have m2:H'.length≤lo2:=by omega
   have m3:H'.length≤H3.length:=by omega
   have m4:H'.length≤H1.length:=by omega
   have m5:H'.length≤H2.length:=by omega
   rw [←hp]
   simp (maxDischargeDepth:=8) only [↓SD,SU,SV,SW,simprocAttr,Int.cast_ofNat_Int,small,resV, q53x0,t1,t3,s0, s0,lt_nat,hj,l1,l2,l3,lq,l6,ho,ho3,w1,z,hlim,m1,m2,m3,m4,m5,R53,N53]
  | true =>
   rw [e2,if_pos rfl] at hp
   have z:(((allP (upto s j)).length:Int)=0)=False:=by
    simp only [CM.can,Bool.not_eq_true',List.isEmpty_eq_false_iff] at e2
    simp [e2]
   simp (maxDischargeDepth:=8) only [↓SD,SU,SV,SW,simprocAttr,Int.cast_ofNat_Int,small,resV, q53x0,t1,t3,s0, s0,lt_nat,hj,l1,l2,l3,lq,l6,ho,ho3,w1,z]
   exact ih _ ⟨_,_,(H3),(_),rfl,(by simp [get_set,t1] <;> omega),(by simp [get_set,t3] <;> omega),by simp [sget_sset,s0],⟨hp,hu.trans (u2.trans u3),hF3,by omega⟩⟩
 ·rintro c' s ⟨T,S,H1,lim,rfl,t1,t3,s0,hp⟩
  obtain ⟨hp,hu,hF1,hlim⟩:=hp
  rw [Nat.sub_self] at hp
  simp only [stk] at hp
  have m4:=hu.len
  rw [←hp]
  simp (maxDischargeDepth:=8) only [↓SD,SU,SV,SW,simprocAttr,Int.cast_ofNat_Int,small,resV, q53x0,t1,t3,s0, s0,lt_nat,Nat.lt_irrefl,l1,l2,l3,hlim,m4,R53,N53]
theorem c11 {H:Heap}{r:ShR}{s:Sheet}(hs:ShOk H r s)(hF:Fam H) :
  R (.func 11) [.agg #[.slice r.da r.dl r.dk,.slice r.wa r.wl r.wk,.slice r.ca r.cl r.ck]] H=some ⟨.ok (.bool true),H,H.length⟩:=by
 refine run_k (pr 11) P11 (by simp [p11]) rfl ?_
 have l1:=hs.d.isLoc r.dk
 have l2:=hs.w.isLoc r.wk
 have l3:=hs.c.isLoc r.ck
 have k22:=c22 hs H
 cases e1:isShort r with
 | false=>simp (maxDischargeDepth:=8) only [↓SD,SU,SV,SW,simprocAttr,Int.cast_ofNat_Int,small,resV, B11,R11,N11,b11, l1,l2,l3,k22,e1,c23]
 | true =>
 have hd:=short_small e1
 have k52:=c52 hs hd H (Grow.refl _) hF
 have k25:=c25 hs hd H (Grow.refl _)
 cases e2:isSheet s with
 | false =>
  simp only [e2,Bool.false_eq_true,if_false] at k52
  simp (maxDischargeDepth:=8) only [↓SD,SU,SV,SW,simprocAttr,Int.cast_ofNat_Int,small,resV, B11,R11,N11,b11, l1,l2,l3,k22,e1,c23,k52,k25,e2]
 | true =>
 have hS:=fine_of e2
 simp only [e2,if_true] at k52
 have k53:=c53 hs hd hS H (Grow.refl _) hF
 rcases stuck_spec hS with ⟨h1,_⟩ | ⟨k,_,h1,_⟩
 ·rw [h1,if_pos (by decide)] at k52
  rw [h1] at k53
  simp (maxDischargeDepth:=8) only [↓SD,SU,SV,SW,simprocAttr,Int.cast_ofNat_Int,small,resV, B11,R11,N11,b11, l1,l2,l3,k22,e1,c23,k52,k25,e2,k53]
 ·rw [h1,if_neg (by omega)] at k52
  rw [h1] at k53
  have z:((k:Int) < 0)=False:=eq_false (by omega)
  simp (maxDischargeDepth:=8) only [↓SD,SU,SV,SW,simprocAttr,Int.cast_ofNat_Int,small,resV, B11,R11,N11,b11, l1,l2,l3,k22,e1,c23,k52,k25,e2,k53,z]
end Go.Pi.L.Coa
set_option maxRecDepth 100000
namespace Go.Pi.L.Coa
open Go Go.Pi Go.Pi.L Go.Pi.Coa CM

theorem c54 {H:Heap}{r:ShR}{s:Sheet}(hs:ShOk H r s)(hd:Small r)(e1:isSheet s=true):∀H',Grow H H'→Fam H'→R (.func 54) [.agg #[.slice r.da r.dl r.dk,.slice r.wa r.wl r.wk,.slice r.ca r.cl r.ck]] H'=some ⟨.ok (.tuple #[.bool (CM.can s),.bool true]),H',H'.length⟩:=by
 intro H' hg hF
 refine run_k (pr 54) P54 (by simp [p54]) rfl ?_
 obtain ⟨o,ho,hq⟩:=c41 hs hd H' hg hF
 simp only [e1,if_true] at hq
 cases hl:allP s with
 | nil =>
  simp only [hl] at hq
  subst hq
  simp only [errV] at ho
  have hc:CM.can s=false:=by simp [CM.can,hl]
  rw [hc]
  simp (maxDischargeDepth:=8) only [↓SD,SU,SV,SW,simprocAttr,Int.cast_ofNat_Int,small,resV, B54,R54,N54,b54, hs.d.isLoc,hs.w.isLoc,hs.c.isLoc,ho,R54,N54]
 | cons q qs =>
  simp only [hl] at hq
  obtain ⟨a,m,H1,lo,rfl,u,hlo,hL⟩:=hq
  have hc:CM.can s=true:=by simp [CM.can,hl]
  rw [hc]
  have l4:=hL.isLoc m
  have n1:=u.len
  have n2:H'.length≤lo:=hlo
  simp (maxDischargeDepth:=8) only [↓SD,SU,SV,SW,simprocAttr,Int.cast_ofNat_Int,small,resV, B54,R54,N54,b54, hs.d.isLoc,hs.w.isLoc,hs.c.isLoc,l4,ho,n1,n2,R54,N54]
set_option maxHeartbeats 1000000 in
theorem c12 {H:Heap}{r:ShR}{s:Sheet}(hs:ShOk H r s){n:Int}(hF:Fam H) :
  R (.func 12) [.agg #[.slice r.da r.dl r.dk,.slice r.wa r.wl r.wk,.slice r.ca r.cl r.ck],.int .i64 n] H=some ⟨.ok (.bool true),H,H.length⟩:=by
 refine run_k (pr 12) P12 (by simp [p12]) rfl ?_
 have l1:=hs.d.isLoc r.dk
 have l2:=hs.w.isLoc r.wk
 have l3:=hs.c.isLoc r.ck
 have k22:=c22 hs H
 cases e1:isShort r with
 | false=>simp (maxDischargeDepth:=8) only [↓SD,SU,SV,SW,simprocAttr,Int.cast_ofNat_Int,small,resV, B12,R12,N12,b12, l1,l2,l3,k22,e1,c23]
 | true =>
 have hd:=short_small e1
 have k25:=c25 hs hd H (Grow.refl _)
 cases e2:isSheet s with
 | false=>simp (maxDischargeDepth:=8) only [↓SD,SU,SV,SW,simprocAttr,Int.cast_ofNat_Int,small,resV, B12,R12,N12,b12, l1,l2,l3,k22,e1,c23,k25,e2]
 | true =>
 have k36:=c36 hs hd.c n H (Grow.refl _)
 cases e3:isCoat s n with
 | false=>simp (maxDischargeDepth:=8) only [↓SD,SU,SV,SW,simprocAttr,Int.cast_ofNat_Int,small,resV, B12,R12,N12,b12, l1,l2,l3,k22,e1,c23,k25,e2,k36,e3]
 | true =>
 have hS:=fine_of e2
 obtain ⟨k,rfl,hk⟩:∃k:Nat,n=k∧k < s.coats.length:=by
  simp only [isCoat,inL_iff] at e3
  exact ⟨n.toNat,by omega,by omega⟩
 have k52:=c52 hs hd H (Grow.refl _) hF
 simp only [e2,if_true] at k52
 have k54:=c54 hs hd e2 H (Grow.refl _) hF
 obtain ⟨o,ho,a,m,H1,lo,rfl,u,hlo,hk1,lq⟩:=c55 hs hd hS hk H (Grow.refl _) hF
 have hF1:Fam H1:=famR ho hF
 have hc2:=hS.c2
 have k54b:=c54 hk1 ⟨hd.d,hd.w,by show k+1 < 1000000; omega⟩ (upto_sheet e2 k) H1 (Grow.refl _) hF1
 simp only at k54b
 have n1:=u.len
 have n2:H.length≤lo:=hlo
 rcases stuck_spec hS with ⟨h1,h2,h3⟩ | ⟨i,hi,h1,h2,h3⟩
 ·rw [h1,if_pos (by decide)] at k52
  rw [h2] at k54
  rw [h3 k hk] at k54b
  simp (maxDischargeDepth:=8) only [↓SD,SU,SV,SW,simprocAttr,Int.cast_ofNat_Int,small,resV, B12,R12,N12,b12, l1,l2,l3,lq,k22,e1,c23,k25,e2,k36,e3,k52,k54,ho,k54b,n1,n2]
 ·rw [h1,if_neg (by omega)] at k52
  rw [h2] at k54
  rw [h3 k hk] at k54b
  have e4:isCoat s (i:Int)=true:=by simp only [isCoat,inL_iff]; omega
  have k36b:=c36 hs hd.c (i:Int) H1 u.grow
  rw [e4] at k36b
  cases e5:decide (k < i) with
  | true =>
   rw [e5] at k54b
   have z:((k:Int) < (i:Int))=True:=eq_true (by simp at e5; omega)
   simp (maxDischargeDepth:=8) only [↓SD,SU,SV,SW,simprocAttr,Int.cast_ofNat_Int,small,resV, B12,R12,N12,b12, l1,l2,l3,lq,k22,e1,c23,k25,e2,k36,e3,k52,k54,ho,k54b,k36b,n1,n2,z]
  | false =>
   rw [e5] at k54b
   have z:((k:Int) < (i:Int))=False:=eq_false (by simp at e5; omega)
   simp (maxDischargeDepth:=8) only [↓SD,SU,SV,SW,simprocAttr,Int.cast_ofNat_Int,small,resV, B12,R12,N12,b12, l1,l2,l3,lq,k22,e1,c23,k25,e2,k36,e3,k52,k54,ho,k54b,k36b,n1,n2,z]
end Go.Pi.L.Coa
set_option maxRecDepth 100000
namespace Go.Pi.L
open Go Go.Pi
theorem Bld.one {n0:Nat}{H:Heap}{k b:Nat}{l m:Nat}{c:List Value}(h:Bld n0 H k (some ⟨b,0,none⟩) l m c):Bld n0 H 1 (some ⟨b,0,none⟩) (l*k) 1 c:=by
 refine ⟨by rw [h.len,Nat.mul_one],?_⟩
 rcases h.ok with ⟨h0,_⟩ | ⟨b',f,hb',_,h3,h4,h5⟩
 ·cases h0
 ·exact .inr ⟨b',f,hb',rfl,h3,h4,h5⟩
theorem Bld.many {n0:Nat}{H:Heap}{k b:Nat}{l l':Nat}{c:List Value}(h:Bld n0 H 1 (some ⟨b,0,none⟩) l' 1 c)(hl:l'=l*k):Bld n0 H k (some ⟨b,0,none⟩) l k c:=by
 refine ⟨by rw [h.len,hl,Nat.mul_one],?_⟩
 rcases h.ok with ⟨h0,_⟩ | ⟨b',f,hb',_,h3,h4,h5⟩
 ·cases h0
 ·exact .inr ⟨b',f,hb',rfl,h3,h4,h5⟩
theorem vv_cvu (x:Nat)(h:x < 1000000):vv (.cv .u64) [.int .i64 (x:Int)]=some (.int .u64 (x:Int)):=by
 rw [vv_of rfl]
 show some (Value.int .u64 (IntKind.wrap .u64 (x:Int)))=_
 rw [show IntKind.wrap .u64 (x:Int)=x by simp [IntKind.wrap,IntKind.bits,IntKind.signed]; omega]
theorem vv_cvi (x:Nat)(h:x < 1000000):vv (.cv .i64) [.int .u64 (x:Int)]=some (.int .i64 (x:Int)):=by
 rw [vv_of rfl]
 show some (Value.int .i64 (IntKind.wrap .i64 (x:Int)))=_
 rw [wrap_id _ (by omega) (by omega)]
theorem vv_half (x:Nat):vv (.ib .shr) [.int .u64 (x:Int),.int .u64 1]=some (.int .u64 ((x / 2:Nat):Int)):=by
 rw [vv_of rfl]
 show some (Value.int .u64 ((x:Int).fdiv 2))=_
 rw [Int.fdiv_eq_ediv_of_nonneg _ (by decide)]; rfl
end Go.Pi.L
namespace Go.Pi.L.Coa
open Go Go.Pi Go.Pi.L Go.Pi.Coa CM

theorem c134 {H:Heap}{a:Option Addr}{l k:Nat}{xs:List (Int×Int)}(hx:Spans H a l xs)(h0:0 < l)(hl:l < 1000) :
  ∀H',Grow H H'→Fam H'→∃b H1 lo,R (.func 134) [.slice a l k] H'=some ⟨.ok (.slice (some ⟨b,0,none⟩) l 2),H1,lo⟩∧Up H' H1∧H'.length≤lo∧Bld H'.length H1 2 (some ⟨b,0,none⟩) l 2 (cells encS xs)∧Fam H1:=by
 intro H' hg hF
 have g0:Bld H'.length (H'++[({ obj:=.cells [],fam:=some H'.length }:Blk)]) 2 (some ⟨H'.length,0,none⟩) 0 2 []:=⟨rfl,.inr ⟨_,_,rfl,rfl,Nat.le_refl _,Nat.le_refl _,by simp⟩⟩
 have hg1:=hg.trans ((Up.refl H').app (l:=[({ obj:=.cells [],fam:=some H'.length }:Blk)])).grow
 obtain ⟨H1,q1,g1,q3,f1⟩:=g0.apps (Fam.app1 hF (Nat.le_refl _)) (by decide) (by decide) (by simp) (cells encS xs) h0 (by rw [cells_len (k:=2) (fun _=>rfl),hx.len]) (by omega)
 have q0:=fun T S D lo n rnd=>(hx.grow hg1).elems (fun _=>rfl) (by decide) k T S D lo n rnd
 have l1:=hx.isLoc k
 have hu:Up H' H1:=q3.up g0 (Up.refl _).app (Nat.le_refl _)
 rw [Nat.zero_add] at g1
 rw [List.nil_append] at g1
 refine ⟨_,H1,H'.length,?_,hu,Nat.le_refl _,g1,f1⟩
 refine run_k (pr 134) P134 (by simp [p134]) rfl ?_
 obtain ⟨b,off,x,rfl,hx',f0⟩:=hx.at (fun _=>rfl) (by decide) h0
 simp (maxDischargeDepth:=8) only [↓SD,SU,SV,SW,simprocAttr,Int.cast_ofNat_Int,small,resV, B134,R134,N134,b134, l1,vv_nl_s,q0,q1]
 rw [gc_ite (Nat.le_refl _),if_neg (by simp [flat])]
def wd1 (n:Int)(c:Int×Int):Int×Int:=(c.1,c.2+n)
def wdj (n:Int)(l:List (Int×Int))(j:Nat):List (Int×Int):=(l.take j).map (wd1 n)++l.drop j
theorem wdj_get {n:Int}{l:List (Int×Int)}{j:Nat}{x:Int×Int}(h:l[j]?=some x):(wdj n l j)[j]?=some x:=by
 have hj:=(List.getElem?_eq_some_iff.1 h).1
 unfold wdj
 have e:((l.take j).map (wd1 n)).length=j:=by simp; omega
 rw [List.getElem?_append_right (by omega),e,Nat.sub_self,List.getElem?_drop,Nat.add_zero]; exact h
theorem wdj_set {n:Int}{l:List (Int×Int)}{j:Nat}{x:Int×Int}(h:l[j]?=some x):(wdj n l j).set j (wd1 n x)=wdj n l (j+1):=by
 obtain ⟨hj,rfl⟩:=List.getElem?_eq_some_iff.1 h
 unfold wdj
 have e:((l.take j).map (wd1 n)).length=j:=by simp; omega
 rw [List.set_append_right _ _ (by omega),e,Nat.sub_self,List.drop_eq_getElem_cons hj,List.set_cons_zero,List.take_succ_eq_append_getElem hj,List.map_append,List.append_assoc]; rfl
theorem splice2:∀{xs:List (Int×Int)} {i:Nat} {x:Int×Int} (v:Int),xs[i]?=some x→splice (cells encS xs) (i*2+1) [.int .i64 v]=cells encS (xs.set i (x.1,v))
 | [],i,x,v,h=>by simp at h
 | y :: xs,0,x,v,h=>by
  simp at h; subst h
  simp [splice,cells,encS]
 | y :: xs,i+1,x,v,h=>by
  have ih:=splice2 (xs:=xs) (i:=i) v (by simpa using h)
  simp only [splice,cells,encS,List.map_cons,List.flatten_cons,List.set_cons_succ,List.cons_append,List.nil_append] at ih ⊢
  rw [←ih,show (i+1)*2+1=(i*2+1)+1+1 by omega]
  simp
theorem c102 {H:Heap}{r:ShR}{s:Sheet}(hs:ShOk H r s)(hd:Small r)(hS:ShFine s){n:Int}(h0:0≤n)(h1:n≤600):∀H',Grow H H'→Fam H'→Yes (R (.func 102) [.agg #[.slice r.da r.dl r.dk,.slice r.wa r.wl r.wk,.slice r.ca r.cl r.ck],.int .i64 n] H') (fun o =>
  ∃a m H1 lo,o=⟨.ok (.agg #[.slice r.da r.dl r.dk,.slice r.wa r.wl r.wk,.slice a r.cl m]),H1,lo⟩∧Up H' H1∧H'.length≤lo∧ShOk H1 ⟨r.da,r.dl,r.dk,r.wa,r.wl,r.wk,a,r.cl,m⟩ (wider s n)∧isLoc (.slice a r.cl m)=false):=by
 intro H' hg hF
 refine run_y (pr 102) P102 (by simp [p102]) rfl ?_
 have hcl:r.cl=s.coats.length:=hs.c.len.symm
 have hc1:=hS.c1
 have hc2:=hS.c2
 obtain ⟨da,dl,dk,wa,wl,wk,ca,cl,ck⟩:=r
 have hD:Spans H da dl s.dry:=hs.d
 have hW:Ints H wa wl s.work:=hs.w
 have hC:Spans H ca cl s.coats:=hs.c
 have nD:dl < 1000000:=hd.d
 have nW:wl < 1000000:=hd.w
 have nC:cl < 1000000:=hd.c
 have l1:=hD.isLoc dk
 have l2:=hW.isLoc wk
 have l3:=hC.isLoc ck
 simp only at hcl
 obtain ⟨b,H1,lo,k134,u1,hlo,gB,hF1⟩:=c134 (k:=ck) hC (by omega) (by omega) H' hg hF
 have l6:=gB.isLoc cl 2
 simp (maxDischargeDepth:=8) only [↓SD,SU,SV,SW,simprocAttr,Int.cast_ofNat_Int,small,resV, B102,R102,N102,b102, l1,l2,l3,l6,k134]
 refine loop_ind (G:=(Yes · _)) (fun j σ=>∃T S H2 lim,σ=⟨T,S,[],H2,lim,28,false⟩∧get T 1=.int .i64 n∧get T 2=.pointer (some ⟨2,0,some 1⟩)∧get T 4=.pointer (some ⟨4,0,some 1⟩)∧get T 12=.int .i64 cl∧get T 13=.int .i64 (j:Nat)∧sget S 2=(1,.cells [.slice da dl dk,.slice wa wl wk,.slice (some ⟨b,0,none⟩) cl 2])∧sget S 4=(1,.cells [.slice none 0 0,.slice none 0 0,.slice none 0 0])∧(Bld H'.length H2 2 (some ⟨b,0,none⟩) cl 2 (cells encS (wdj n s.coats j))∧Up H' H2∧Fam H2∧H'.length≤lim)) (cl) ?_ ?_ 0 _ (Nat.zero_le _) ⟨_,_,_,_,rfl,rfl,rfl,rfl,rfl,rfl,rfl,rfl,⟨gB,u1,hF1,by omega⟩⟩
 ·rintro c' j s hj ⟨T,S,H2,lim,rfl,t1,t2,t4,t12,t13,s0,s1,hp⟩ ih
  obtain ⟨gB,hu,hF2,hlim⟩:=hp
  obtain ⟨x,hx⟩:∃x,s.coats[j]?=some x:=⟨_,List.getElem?_eq_getElem (by omega)⟩
  have hxc:=hS.coats x (List.mem_of_getElem? hx)
  have hsp:Spans H2 (some ⟨b,0,none⟩) cl (wdj n s.coats j):=gB.sl (fun _=>rfl) (by decide)
  obtain ⟨b',off',x',hb',hx',f2,f0,f1⟩:=hsp.s2 hj
  cases hb'
  rw [wdj_get hx] at hx'
  cases hx'
  have f1':=f1 H2 (Grow.refl _)
  rw [Nat.zero_add] at f1'
  have w1:IntKind.wrap .i64 (x.2+n)=x.2+n:=wrap_id _ (by omega) (by omega)
  have w2:=wrap_succ j (by omega)
  obtain ⟨H3,f,hf1,hf2,q1,gB3,hF3,hup,hlen,hoth⟩:=gB.one.put hF2 (i:=j*2+1) (v:=.int .i64 (x.2+n)) (by omega) rfl (by rfl) rfl
  rw [Nat.mul_one] at q1 gB3
  have e:splice (cells encS (wdj n s.coats j)) (j*2+1) (Value.cells (.int .i64 (x.2+n))).toList=cells encS (wdj n s.coats (j+1)):=by
   rw [←wdj_set hx]; exact splice2 _ (wdj_get hx)
  rw [e] at gB3
  have l7:=gB.isLoc cl 2
  simp (maxDischargeDepth:=8) only [↓SD,SU,SV,SW,simprocAttr,Int.cast_ofNat_Int,small,resV, q102x0,t1,t2,t4,t12,t13,s0,s1, s0,s1,lt_nat,hj,l1,l2,l7,f1',w1,w2,q1]
  exact ih _ ⟨_,_,(H3),(_),rfl,(by simp [get_set,t1] <;> omega),(by simp [get_set,t2] <;> omega),(by simp [get_set,t4] <;> omega),(by simp [get_set,t12] <;> omega),(by simp [get_set,t13] <;> omega),by simp [sget_sset,s0],by simp [sget_sset,s1],⟨gB3.many rfl,hup H' hu (Nat.le_refl _),hF3,by omega⟩⟩
 ·rintro c' s ⟨T,S,H2,lim,rfl,t1,t2,t4,t12,t13,s0,s1,hp⟩
  obtain ⟨gB,hu,hF2,hlim⟩:=hp
  have l7:=gB.isLoc cl 2
  simp (maxDischargeDepth:=8) only [↓SD,SU,SV,SW,simprocAttr,Int.cast_ofNat_Int,small,resV, q102x0,t1,t2,t4,t12,t13,s0,s1, s0,s1,lt_nat,Nat.lt_irrefl,l1,l2,l7,R102,N102]
  rw [yes_some]
  have hsp:Spans H2 (some ⟨b,0,none⟩) cl (wdj n s.coats cl):=gB.sl (fun _=>rfl) (by decide)
  have e:wdj n s.coats cl=(wider s n).coats:=by simp [wdj,wider,hcl,wd1]
  rw [e] at hsp
  exact ⟨_,_,H2,_,by rw [gc_ite hlim,if_neg (by simp [flat])],hu,hlim,⟨hD.grow (hg.trans hu.grow),hW.grow (hg.trans hu.grow),hsp⟩,l7⟩
end Go.Pi.L.Coa
set_option maxRecDepth 100000
namespace Go.Pi.L.Coa
open Go Go.Pi Go.Pi.L Go.Pi.Coa CM

theorem c101 {H:Heap}{r:ShR}{s:Sheet}(hs:ShOk H r s)(hd:Small r)(e1:isSheet s=true){xb:Nat}(hx:hcells H xb=some [.slice r.da r.dl r.dk,.slice r.wa r.wl r.wk,.slice r.ca r.cl r.ck]){n:Int}(h0:0≤n)(h1:n≤600):∀H',Grow H H'→Fam H' →
  R (.func 101) [.int .i64 n,.pointer (some ⟨xb,0,none⟩)] H'=some ⟨.ok (.bool (CM.can (wider s n))),H',H'.length⟩:=by
 intro H' hg hF
 refine run_k (pr 101) P101 (by simp [p101]) rfl ?_
 have hS:=fine_of e1
 obtain ⟨o,ho,a,m,H1,lo,rfl,u,hlo,hk,lq⟩:=c102 hs hd hS h0 h1 H' hg hF
 have hF1:Fam H1:=famR ho hF
 have k99:=c99 hk ⟨hd.d,hd.w,hd.c⟩ (wider_fine e1 h0 h1) H1 (Grow.refl _) hF1
 simp only at k99
 have hx':=hg.hc hx
 have n1:=u.len
 have n2:H'.length≤lo:=hlo
 obtain ⟨da,dl,dk,wa,wl,wk,ca,cl,ck⟩:=r
 have hD:Spans H da dl s.dry:=hs.d
 have hW:Ints H wa wl s.work:=hs.w
 have hC:Spans H ca cl s.coats:=hs.c
 have nD:dl < 1000000:=hd.d
 have nW:wl < 1000000:=hd.w
 have nC:cl < 1000000:=hd.c
 have l1:=hD.isLoc dk
 have l2:=hW.isLoc wk
 have l3:=hC.isLoc ck
 simp only at ho k99 hx' lq
 simp (maxDischargeDepth:=8) only [↓SD,SU,SV,SW,simprocAttr,Int.cast_ofNat_Int,small,resV, B101,R101,N101,b101, l1,l2,l3,lq,hx',ho,k99,n1,n2,R101,N101]
def slk (s:Sheet):Nat:=if slack s < 0 then 289 else (slack s).toNat
theorem c100 {H:Heap}{r:ShR}{s:Sheet}(hs:ShOk H r s)(hd:Small r)(e1:isSheet s=true){xb:Nat}(hx:hcells H xb=some [.slice r.da r.dl r.dk,.slice r.wa r.wl r.wk,.slice r.ca r.cl r.ck])(hF:Fam H) :
  R (.func 100) [.int .i64 289,.func (.func 101) #[] #[.pointer (some ⟨xb,0,none⟩)]] H=some ⟨.ok (.int .i64 (slk s:Nat)),H,H.length⟩:=by
 refine run_k (pr 100) P100 (by simp [p100]) rfl ?_
 have hS:=fine_of e1
 have ht:=slack_top hS
 have k101:=fun (k:Nat) (h:k < 289)=>c101 hs hd e1 hx (n:=k) (by omega) (by omega) H (Grow.refl _) hF
 have key:∀k:Nat,k < 289→CM.can (wider s k)=decide (slk s≤k):=fun k h=>by
  rw [Bool.eq_iff_iff,can_slack e1 (by omega) (by omega),decide_eq_true_iff,slk]
  split <;> omega
 have hT:slk s≤289:=by unfold slk; split <;> omega
 simp (maxDischargeDepth:=8) only [↓SD,SU,SV,SW,simprocAttr,Int.cast_ofNat_Int,small,resV, B100,R100,N100,b100, fa_clo1]
 refine loop_wf (G:=(·=_)) (fun (b:Nat×Nat) σ=>∃T',σ=⟨T',[],[],H,H.length,26,false⟩∧get T' 1=.func (.func 101) #[] #[.pointer (some ⟨xb,0,none⟩)]∧get T' 5=.int .i64 (b.1:Nat)∧get T' 6=.int .i64 (b.2:Nat)∧b.1≤slk s∧slk s≤b.2∧b.2≤289) (fun b=>b.2 - b.1) ?_ (0,289) _ ⟨_,rfl,rfl,rfl,rfl,by simp,hT,Nat.le_refl _⟩
 rintro c' ⟨lo,hi⟩ σ ⟨T',rfl,t1,t5,t6,h1,h2,h3⟩ ih
 simp only at t1 t5 t6 h1 h2 h3
 by_cases hlt:lo < hi
 ·have w1:IntKind.wrap .i64 ((lo:Int)+(hi:Int))=((lo+hi:Nat):Int):=by rw [wrap_id _ (by omega) (by omega)]; omega
  have v1:=vv_cvu (lo+hi) (by omega)
  have v2:=vv_half (lo+hi)
  have v3:=vv_cvi ((lo+hi) / 2) (by omega)
  have hm:(lo+hi) / 2 < 289:=by omega
  have kk:=k101 _ hm
  rw [key _ hm] at kk
  have w2:=wrap_succ ((lo+hi) / 2) (by omega)
  have hlt':((lo:Int) < (hi:Int))=True:=eq_true (by omega)
  generalize hmid:(lo+hi) / 2=mid at *
  by_cases hc:slk s≤mid
  ·rw [decide_eq_true hc] at kk
   simp (maxDischargeDepth:=8) only [↓SD,SU,SV,SW,simprocAttr,Int.cast_ofNat_Int,small,resV, q100x0,t1,t5,t6,hlt',w1,v1,v2,v3,fa_clo1,kk]
   exact ih (lo,mid) _ ⟨_,rfl,by simp [get_set,t1],by simp [get_set,t5],by simp [get_set],h1,hc,by show mid≤289; omega⟩ (by show mid - lo < hi - lo; omega)
  ·rw [decide_eq_false hc] at kk
   simp (maxDischargeDepth:=8) only [↓SD,SU,SV,SW,simprocAttr,Int.cast_ofNat_Int,small,resV, q100x0,t1,t5,t6,hlt',w1,v1,v2,v3,fa_clo1,kk,w2]
   exact ih (mid+1,hi) _ ⟨_,rfl,by simp [get_set,t1],by simp [get_set],by simp [get_set,t6],by show mid+1≤slk s; omega,h2,h3⟩ (by show hi - (mid+1) < hi - lo; omega)
 ·have hlt':((lo:Int) < (hi:Int))=False:=eq_false (by omega)
  obtain rfl:lo=slk s:=by omega
  simp (maxDischargeDepth:=8) only [↓SD,SU,SV,SW,simprocAttr,Int.cast_ofNat_Int,small,resV, q100x0,t1,t5,t6,hlt',R100,N100]
theorem c56 {H:Heap}{r:ShR}{s:Sheet}(hs:ShOk H r s)(hd:Small r):∀H',Grow H H'→Fam H'→R (.func 56) [.agg #[.slice r.da r.dl r.dk,.slice r.wa r.wl r.wk,.slice r.ca r.cl r.ck]] H'=some ⟨.ok (if isSheet s=true then (if slack s < 0 then .tuple #[.int .i64 0,.int .i64 5] else .tuple #[.int .i64 (slack s),.int .i64 0]) else .tuple #[.int .i64 0,.int .i64 2]),H',H'.length⟩:=by
 intro H' hg hF
 refine run_k (pr 56) P56 (by simp [p56]) rfl ?_
 obtain ⟨H0,hH0⟩:∃H0,H'++[({ obj:=.cells [.slice r.da r.dl r.dk,.slice r.wa r.wl r.wk,.slice r.ca r.cl r.ck] }:Blk)]=H0:=⟨_,rfl⟩
 have u0:Up H' H0:=by rw [←hH0]; exact (Up.refl H').app
 have hF0:Fam H0:=by rw [←hH0]; exact hF.append (fun f h=>by cases h)
 have bn:hcells H0 H'.length=some [.slice r.da r.dl r.dk,.slice r.wa r.wl r.wk,.slice r.ca r.cl r.ck]:=by rw [←hH0]; exact hc_new _ _ _
 have hg0:=hg.trans u0.grow
 have k75:=c75 hs hd H0 hg0
 have n0:=u0.len
 have l1:=hs.d.isLoc r.dk
 have l2:=hs.w.isLoc r.wk
 have l3:=hs.c.isLoc r.ck
 cases e1:isSheet s with
 | false =>
  simp only [Bool.false_eq_true,if_false]
  simp (maxDischargeDepth:=8) only [↓SD,SU,SV,SW,simprocAttr,Int.cast_ofNat_Int,small,resV, B56,R56,N56,b56, l1,l2,l3,hH0,bn,k75,e1,n0,R56,N56]
 | true =>
 simp only [if_true]
 have hS:=fine_of e1
 have ht:=slack_top hS
 have k100:=c100 (hs.grow hg0) hd e1 bn hF0
 by_cases h:slack s < 0
 ·rw [if_pos h]
  have e:slk s=289:=by unfold slk; rw [if_pos h]
  rw [e] at k100
  simp (maxDischargeDepth:=8) only [↓SD,SU,SV,SW,simprocAttr,Int.cast_ofNat_Int,small,resV, B56,R56,N56,b56, l1,l2,l3,hH0,bn,k75,e1,k100,n0,R56,N56]
 ·rw [if_neg h]
  have e:((slk s:Nat):Int)=slack s:=by unfold slk; rw [if_neg h]; omega
  rw [e] at k100
  have z:((288:Int) < slack s)=False:=eq_false (by omega)
  simp (maxDischargeDepth:=8) only [↓SD,SU,SV,SW,simprocAttr,Int.cast_ofNat_Int,small,resV, B56,R56,N56,b56, l1,l2,l3,hH0,bn,k75,e1,k100,z,n0,R56,N56]
end Go.Pi.L.Coa
set_option maxRecDepth 100000
namespace Go.Pi.L
open Go Go.Pi
theorem vv_mx (a b:Int):vv .mx [.int .i64 a,.int .i64 b]=some (.int .i64 (max a b)):=by
 rw [vv_of rfl]
 show some (Value.int .i64 (if a < b then b else a))=_
 congr 2
 omega
end Go.Pi.L
namespace Go.Pi.L.Coa
open Go Go.Pi Go.Pi.L Go.Pi.Coa CM

theorem c103 {H:Heap}{r:ShR}{s:Sheet}(hs:ShOk H r s)(hd:Small r)(hS:ShFine s){pa:Option Addr}{pl pk:Nat}{plan:List Int}(hq:Ints H pa pl plan)(hP:PlFine s plan) :
  ∀H',Grow H H'→R (.func 103) [.agg #[.slice r.da r.dl r.dk,.slice r.wa r.wl r.wk,.slice r.ca r.cl r.ck],.slice pa pl pk] H'=some ⟨.ok (.int .i64 (lackP s plan)),H',H'.length⟩:=by
 intro H' hg
 refine run_k (pr 103) P103 (by simp [p103]) rfl ?_
 have hpl:pl=s.coats.length:=by rw [←hq.len]; exact hP.len
 have hpl2:pl < 1000:=by have:=hS.c2; omega
 have hdl:r.dl=s.dry.length:=hs.d.len.symm
 have hcl:r.cl=s.coats.length:=hs.c.len.symm
 have hdl2:r.dl < 1000:=by have:=hS.d2; omega
 have k38:=fun H2 g=>c38 hs hd H2 g
 have k39:=fun H2 g=>c39 hs hd H2 g
 have k83:=fun H2 (g:Grow H H2) wa' wk' w hw hb i d t c h1 h2 h3 h4 h5=>c83 (pk:=pk) (wa':=wa') (wk':=wk') (w:=w) (i:=i) (d:=d) (t:=t) (c:=c) (hs.grow g) hd (Sl.grow hq g) hpl2 hw hdl2 hb h1 h2 h3 h4 h5 H2 (Grow.refl _)
 have k37:=fun H2 (g:Grow H H2) (wa:Option Addr) (wk:Nat) (w:List Int) (hw:Ints H2 wa r.dl w) hb i d t h1 h3 h4 h5=>c37 (pk:=pk) (wa:=wa) (wk:=wk) (w:=w) (i:=i) (d:=d) (t:=t) (Sl.grow hq g) hpl2 hw hdl2 hb h1 h3 h4 h5 H2 (Grow.refl _)
 obtain ⟨da,dl,dk,wa,wl,wk,ca,cl,ck⟩:=r
 have hD:Spans H da dl s.dry:=hs.d
 have hW:Ints H wa wl s.work:=hs.w
 have hC:Spans H ca cl s.coats:=hs.c
 have nD:dl < 1000000:=hd.d
 have nW:wl < 1000000:=hd.w
 have nC:cl < 1000000:=hd.c
 have l1:=hD.isLoc dk
 have l2:=hW.isLoc wk
 have l3:=hC.isLoc ck
 simp only at k38 k39 k83 k37 hdl hdl2 hcl
 have l4:=hq.isLoc pk
 simp (maxDischargeDepth:=8) only [↓SD,SU,SV,SW,simprocAttr,Int.cast_ofNat_Int,small,resV, B103,R103,N103,b103, l1,l2,l3,l4]
 refine loop_ind (G:=(·=_)) (fun j σ=>∃T S H1 mv lim,σ=⟨T,S,[],H1,lim,39,false⟩∧get T 1=.slice pa pl pk∧get T 2=.pointer (some ⟨2,0,some 1⟩)∧get T 5=.int .i64 mv∧get T 6=.int .i64 (j:Nat)∧sget S 2=(1,.cells [.slice da dl dk,.slice wa wl wk,.slice ca cl ck])∧(lack s (s.coats.drop j) (plan.drop j) mv=lackP s plan∧0≤mv∧mv≤288∧Up H' H1∧H'.length≤lim)) (pl) ?_ ?_ 0 _ (Nat.zero_le _) ⟨_,_,_,_,_,rfl,rfl,rfl,rfl,rfl,rfl,⟨by simp; rfl,by decide,by decide,Up.refl _,Nat.le_refl _⟩⟩
 ·rintro c' j s hj ⟨T,S,H1,mv,lim,rfl,t1,t2,t5,t6,s0,hp⟩ ih
  obtain ⟨hp,hm0,hm1,hu,hlim⟩:=hp
  obtain ⟨b,off,x,rfl,hx',f0⟩:=hq.i1 hj
  have hw1:=wrap_succ j (by omega)
  have hcj:j < s.coats.length:=by omega
  obtain ⟨bc,offc,c,rfl,hc,g2,g0,g1⟩:=hC.s2 (j:=j) (by omega)
  have hcb:=hS.coats c (List.mem_of_getElem? hc)
  obtain ⟨d,t,rfl,hti,hdt,htd⟩:=hP.span hx'
  have ht2:(plan[j+1]?).getD (dl:Int)=(t:Int):=by rw [hdl,←til_drop]; exact hti
  have hg1:=hg.trans hu.grow
  obtain ⟨o2,ho2,a2,m2,H2,lo2,rfl,u2,hlo2,z2⟩:=k38 H1 hg1
  have hg2:=hg1.trans u2.grow
  rw [lows_len,←hdl] at ho2 z2
  have q83:=k83 H2 hg2 a2 m2 (lows s) z2 (fun y hy=>by have:=lows_bound hS y hy; omega) j d t _ hx' hc ht2 (by omega) (by omega)
  rw [drop_cons hc,drop_cons hx',lack,hti] at hp
  have n1:=hu.len
  have n2:=u2.len
  have l5:=z2.isLoc m2
  have n4:H1.length≤lo2:=hlo2
  by_cases he:seg (lows s) d t < c.1
  ·rw [decide_eq_true he] at q83
   rw [if_pos he] at hp
   have y1:H'.length≤lo2:=by omega
   have y2:H'.length≤H2.length:=by omega
   have y3:H'.length≤H1.length:=by omega
   rw [←hp]
   simp (maxDischargeDepth:=8) only [↓SD,SU,SV,SW,simprocAttr,Int.cast_ofNat_Int,small,resV, q103x0,t1,t2,t5,t6,s0, s0,lt_nat,hj,l1,l2,l3,l4,l5,ho2,n4,q83,hlim,y1,y2,y3,R103,N103]
  ·rw [decide_eq_false he] at q83
   rw [if_neg he] at hp
   by_cases hn:j+1 < pl
   ·have hne:plan.drop (j+1)≠[]:=by rw [drop_ne,hq.len]; exact hn
    rw [if_neg hne] at hp
    obtain ⟨o3,ho3,a3,m3,H3,lo3,rfl,u3,hlo3,z3⟩:=k39 H2 hg2
    have hg3:=hg2.trans u3.grow
    rw [highs_len,←hdl] at ho3 z3
    have q37:=k37 H3 hg3 a3 m3 (highs s) z3 (fun y hy=>by have:=highs_bound hS y hy; omega) j d t hx' ht2 (by omega) (by omega)
    have l6:=z3.isLoc m3
    have g1':=g1 H3 hg3
    have n3:=u3.len
    have n5:H2.length≤lo3:=hlo3
    have hsb:=seg_top hS d t
    have w3:IntKind.wrap .i64 (seg (highs s) d t - c.2)=seg (highs s) d t - c.2:=wrap_id _ (by omega) (by omega)
    have hn':(((j+1:Nat):Int) < ((pl:Nat):Int))=True:=eq_true (by omega)
    have hjc:j < cl:=by omega
    simp (maxDischargeDepth:=8) only [↓SD,SU,SV,SW,simprocAttr,Int.cast_ofNat_Int,small,resV, q103x0,t1,t2,t5,t6,s0, s0,lt_nat,hj,hjc,l1,l2,l3,l4,l5,l6,ho2,n4,q83,ho3,n5,q37,hw1,hn',g1',w3,vv_mx]
    exact ih _ ⟨_,_,(H3),(_),(_),rfl,(by simp [get_set,t1] <;> omega),(by simp [get_set,t2] <;> omega),(by simp [get_set,t5] <;> omega),(by simp [get_set,t6] <;> omega),by simp [sget_sset,s0],⟨hp,by omega,by omega,(hu.trans u2).trans u3,by omega⟩⟩
   ·have hne:plan.drop (j+1)=[]:=Classical.byContradiction fun h=>hn (by have h':plan.drop (j+1)≠[]:=h; rw [drop_ne,hq.len] at h'; exact h')
    rw [if_pos hne] at hp
    have hn':(((j+1:Nat):Int) < ((pl:Nat):Int))=False:=eq_false (by omega)
    simp (maxDischargeDepth:=8) only [↓SD,SU,SV,SW,simprocAttr,Int.cast_ofNat_Int,small,resV, q103x0,t1,t2,t5,t6,s0, s0,lt_nat,hj,l1,l2,l3,l4,l5,ho2,n4,q83,hw1,hn']
    exact ih _ ⟨_,_,(H2),(mv),(_),rfl,(by simp [get_set,t1] <;> omega),(by simp [get_set,t2] <;> omega),(by simp [get_set,t5] <;> omega),(by simp [get_set,t6] <;> omega),by simp [sget_sset,s0],⟨hp,hm0,hm1,hu.trans u2,by omega⟩⟩
 ·rintro c' s ⟨T,S,H1,mv,lim,rfl,t1,t2,t5,t6,s0,hp⟩
  obtain ⟨hp,hm0,hm1,hu,hlim⟩:=hp
  rw [drop_all hq.len,hpl,List.drop_eq_nil_of_le (Nat.le_refl _),lack] at hp
  ·have y3:=hu.len
   rw [←hp]
   simp (maxDischargeDepth:=8) only [↓SD,SU,SV,SW,simprocAttr,Int.cast_ofNat_Int,small,resV, q103x0,t1,t2,t5,t6,s0, s0,lt_nat,Nat.lt_irrefl,l1,l2,l3,l4,R103,N103,hlim,y3]
  ·intro c cs d l h; cases h
theorem c57 {H:Heap}{r:ShR}{s:Sheet}(hs:ShOk H r s)(hd:Small r)(hS:ShFine s):∀H',Grow H H'→Fam H'→R (.func 57) [.agg #[.slice r.da r.dl r.dk,.slice r.wa r.wl r.wk,.slice r.ca r.cl r.ck]] H'=some ⟨.ok (.int .i64 (slack s)),H',H'.length⟩:=by
 intro H' hg hF
 refine run_k (pr 57) P57 (by simp [p57]) rfl ?_
 obtain ⟨o,ho,a0,m0,H1,lo1,rfl,u1,hlo1,hL⟩:=c90 hs hd hS s.coats.length [] (by simp) none 0 H' hg hF Sl.none
 have e0:(incN s s.coats.length []).map ([]++·)=incs s:=by rw [incN_all hS]; simp
 rw [e0] at ho hL
 have il:(incs s).length≤792:=by rw [←incN_all hS]; exact incN_len hS (by simp)
 have hg1:=hg.trans u1.grow
 have k103:=fun pa pk plan (h1:Ints H1 pa plan.length plan) (h2:PlFine s plan)=>c103 (pk:=pk) (hs.grow hg1) hd hS h1 h2 H1 (Grow.refl _)
 have n1:=u1.len
 have hlo1':H'.length≤lo1:=hlo1
 have l4:=hL.isLoc (incs s).length m0
 obtain ⟨da,dl,dk,wa,wl,wk,ca,cl,ck⟩:=r
 have hD:Spans H da dl s.dry:=hs.d
 have hW:Ints H wa wl s.work:=hs.w
 have hC:Spans H ca cl s.coats:=hs.c
 have nD:dl < 1000000:=hd.d
 have nW:wl < 1000000:=hd.w
 have nC:cl < 1000000:=hd.c
 have l1:=hD.isLoc dk
 have l2:=hW.isLoc wk
 have l3:=hC.isLoc ck
 simp only [List.length_nil] at ho k103
 simp (maxDischargeDepth:=8) only [↓SD,SU,SV,SW,simprocAttr,Int.cast_ofNat_Int,small,resV, B57,R57,N57,b57, l1,l2,l3,l4,ho,n1,hlo1']
 refine loop_ind (G:=(·=_)) (fun j σ=>∃T S lim,σ=⟨T,S,[],H1,lim,34,false⟩∧get T 1=.pointer (some ⟨1,0,some 1⟩)∧get T 3=.slice a0 (incs s).length m0∧get T 4=.int .i64 (slackF s ((incs s).take j))∧get T 5=.int .i64 (j:Nat)∧sget S 1=(1,.cells [.slice da dl dk,.slice wa wl wk,.slice ca cl ck])∧(H'.length≤lim)) ((incs s).length) ?_ ?_ 0 _ (Nat.zero_le _) ⟨_,_,_,rfl,rfl,rfl,rfl,rfl,rfl,by omega⟩
 ·rintro c' j s hj ⟨T,S,lim,rfl,t1,t3,t4,t5,s0,hp⟩ ih
  obtain ⟨b,off,xs,a',m',rfl,hx,f0,hq⟩:=hL.get hj
  have f0':=f0 H1 (Grow.refl _)
  have hq':Ints H1 a' xs.length xs:=hq
  have hw1:=wrap_succ j (by omega)
  have l6:=hq'.isLoc m'
  have hPl:=plan_of hS ((mem_incs hS).1 (List.mem_of_getElem? hx))
  have q103:=k103 a' m' xs hq' hPl
  have e:slackF s ((incs s).take (j+1))=if 0≤lackP s xs∧(slackF s ((incs s).take j) < 0∨lackP s xs < slackF s ((incs s).take j)) then lackP s xs else slackF s ((incs s).take j):=fold_succ _ _ hx
  generalize slackF s ((incs s).take j)=nv at *
  generalize lackP s xs=mv at *
  by_cases h1:0≤mv
  ·by_cases h2:nv < 0
   ·rw [if_pos ⟨h1,.inl h2⟩] at e
    rw [e] at ih
    simp (maxDischargeDepth:=8) only [↓SD,SU,SV,SW,simprocAttr,Int.cast_ofNat_Int,small,resV, q57x0,t1,t3,t4,t5,s0, s0,lt_nat,hj,l1,l2,l3,l4,l6,f0',q103,hw1,h1,h2]
    exact ih _ ⟨_,_,(_),rfl,(by simp [get_set,t1] <;> omega),(by simp [get_set,t3] <;> omega),(by simp [get_set,t4] <;> omega),(by simp [get_set,t5] <;> omega),by simp [sget_sset,s0],by omega⟩
   ·by_cases h3:mv < nv
    ·rw [if_pos ⟨h1,.inr h3⟩] at e
     rw [e] at ih
     simp (maxDischargeDepth:=8) only [↓SD,SU,SV,SW,simprocAttr,Int.cast_ofNat_Int,small,resV, q57x0,t1,t3,t4,t5,s0, s0,lt_nat,hj,l1,l2,l3,l4,l6,f0',q103,hw1,h1,h2,h3]
     exact ih _ ⟨_,_,(_),rfl,(by simp [get_set,t1] <;> omega),(by simp [get_set,t3] <;> omega),(by simp [get_set,t4] <;> omega),(by simp [get_set,t5] <;> omega),by simp [sget_sset,s0],by omega⟩
    ·rw [if_neg (fun h=>h.2.elim h2 h3)] at e
     rw [e] at ih
     simp (maxDischargeDepth:=8) only [↓SD,SU,SV,SW,simprocAttr,Int.cast_ofNat_Int,small,resV, q57x0,t1,t3,t4,t5,s0, s0,lt_nat,hj,l1,l2,l3,l4,l6,f0',q103,hw1,h1,h2,h3]
     exact ih _ ⟨_,_,(_),rfl,(by simp [get_set,t1] <;> omega),(by simp [get_set,t3] <;> omega),(by simp [get_set,t4] <;> omega),(by simp [get_set,t5] <;> omega),by simp [sget_sset,s0],by omega⟩
  ·rw [if_neg (fun h=>h1 h.1)] at e
   rw [e] at ih
   simp (maxDischargeDepth:=8) only [↓SD,SU,SV,SW,simprocAttr,Int.cast_ofNat_Int,small,resV, q57x0,t1,t3,t4,t5,s0, s0,lt_nat,hj,l1,l2,l3,l4,l6,f0',q103,hw1,h1]
   exact ih _ ⟨_,_,(_),rfl,(by simp [get_set,t1] <;> omega),(by simp [get_set,t3] <;> omega),(by simp [get_set,t4] <;> omega),(by simp [get_set,t5] <;> omega),by simp [sget_sset,s0],by omega⟩
 ·rintro c' s ⟨T,S,lim,rfl,t1,t3,t4,t5,s0,hp⟩
  rw [List.take_length] at t4
  simp (maxDischargeDepth:=8) only [↓SD,SU,SV,SW,simprocAttr,Int.cast_ofNat_Int,small,resV, q57x0,t1,t3,t4,t5,s0, s0,lt_nat,Nat.lt_irrefl,l1,l2,l3,l4,hp,n1,R57,N57]
  rfl
theorem c13 {H:Heap}{r:ShR}{s:Sheet}(hs:ShOk H r s)(hF:Fam H) :
  R (.func 13) [.agg #[.slice r.da r.dl r.dk,.slice r.wa r.wl r.wk,.slice r.ca r.cl r.ck]] H=some ⟨.ok (.bool true),H,H.length⟩:=by
 refine run_k (pr 13) P13 (by simp [p13]) rfl ?_
 have l1:=hs.d.isLoc r.dk
 have l2:=hs.w.isLoc r.wk
 have l3:=hs.c.isLoc r.ck
 have k22:=c22 hs H
 cases e1:isShort r with
 | false=>simp (maxDischargeDepth:=8) only [↓SD,SU,SV,SW,simprocAttr,Int.cast_ofNat_Int,small,resV, B13,R13,N13,b13, l1,l2,l3,k22,e1,c23]
 | true =>
 have hd:=short_small e1
 have k56:=c56 hs hd H (Grow.refl _) hF
 have k25:=c25 hs hd H (Grow.refl _)
 cases e2:isSheet s with
 | false =>
  simp only [e2,Bool.false_eq_true,if_false] at k56
  simp (maxDischargeDepth:=8) only [↓SD,SU,SV,SW,simprocAttr,Int.cast_ofNat_Int,small,resV, B13,R13,N13,b13, l1,l2,l3,k22,e1,c23,k56,k25,e2]
 | true =>
 have hS:=fine_of e2
 simp only [e2,if_true] at k56
 have k57:=c57 hs hd hS H (Grow.refl _) hF
 by_cases h:slack s < 0
 ·rw [if_pos h] at k56
  simp (maxDischargeDepth:=8) only [↓SD,SU,SV,SW,simprocAttr,Int.cast_ofNat_Int,small,resV, B13,R13,N13,b13, l1,l2,l3,k22,e1,c23,k56,k25,e2,k57,h]
 ·rw [if_neg h] at k56
  simp (maxDischargeDepth:=8) only [↓SD,SU,SV,SW,simprocAttr,Int.cast_ofNat_Int,small,resV, B13,R13,N13,b13, l1,l2,l3,k22,e1,c23,k56,k25,e2,k57,h]
end Go.Pi.L.Coa
set_option maxRecDepth 100000
namespace Go.Pi.L.Coa
open Go Go.Pi Go.Pi.L Go.Pi.Coa CM

theorem wider_get {s:Sheet}{n:Int}{j:Nat}{x:Int×Int}(h:s.coats[j]?=some x):(wider s n).coats.take (j+1)=(wider s n).coats.take j++[(x.1,x.2+n)]:=by
 obtain ⟨hj,rfl⟩:=List.getElem?_eq_some_iff.1 h
 rw [List.take_succ_eq_append_getElem (by simpa [wider] using hj)]
 simp [wider]
theorem c58 {H:Heap}{r:ShR}{s:Sheet}(hs:ShOk H r s)(hd:Small r)(hS:ShFine s){n:Int}(h0:0≤n)(h1:n≤600):∀H',Grow H H'→Fam H'→Yes (R (.func 58) [.agg #[.slice r.da r.dl r.dk,.slice r.wa r.wl r.wk,.slice r.ca r.cl r.ck],.int .i64 n] H') (fun o =>
  ∃a m H1 lo,o=⟨.ok (.agg #[.slice r.da r.dl r.dk,.slice r.wa r.wl r.wk,.slice a r.cl m]),H1,lo⟩∧Up H' H1∧H'.length≤lo∧ShOk H1 ⟨r.da,r.dl,r.dk,r.wa,r.wl,r.wk,a,r.cl,m⟩ (wider s n)∧isLoc (.slice a r.cl m)=false):=by
 intro H' hg hF
 refine run_y (pr 58) P58 (by simp [p58]) rfl ?_
 have hcl:r.cl=s.coats.length:=hs.c.len.symm
 have hc1:=hS.c1
 have hc2:=hS.c2
 obtain ⟨da,dl,dk,wa,wl,wk,ca,cl,ck⟩:=r
 have hD:Spans H da dl s.dry:=hs.d
 have hW:Ints H wa wl s.work:=hs.w
 have hC:Spans H ca cl s.coats:=hs.c
 have nD:dl < 1000000:=hd.d
 have nW:wl < 1000000:=hd.w
 have nC:cl < 1000000:=hd.c
 have l1:=hD.isLoc dk
 have l2:=hW.isLoc wk
 have l3:=hC.isLoc ck
 simp only at hcl
 simp (maxDischargeDepth:=8) only [↓SD,SU,SV,SW,simprocAttr,Int.cast_ofNat_Int,small,resV, B58,R58,N58,b58, l1,l2,l3]
 refine loop_ind (G:=(Yes · _)) (fun j σ=>∃T S H2 ao mo lim,σ=⟨T,S,[],H2,lim,35,false⟩∧get T 1=.int .i64 n∧get T 2=.pointer (some ⟨2,0,some 1⟩)∧get T 4=.pointer (some ⟨4,0,some 1⟩)∧get T 5=.slice ca cl ck∧get T 6=.int .i64 (j:Nat)∧sget S 2=(1,.cells [.slice da dl dk,.slice wa wl wk,.slice ao j mo])∧sget S 4=(1,.cells [.slice none 0 0,.slice none 0 0,.slice none 0 0])∧(Bld H'.length H2 2 ao j mo (cells encS ((wider s n).coats.take j))∧Up H' H2∧Fam H2∧H'.length≤lim)) (cl) ?_ ?_ 0 _ (Nat.zero_le _) ⟨_,_,_,_,_,_,rfl,rfl,rfl,rfl,rfl,rfl,rfl,rfl,⟨Bld.nil _ _ _,Up.refl _,hF,Nat.le_refl _⟩⟩
 ·rintro c' j s hj ⟨T,S,H2,ao,mo,lim,rfl,t1,t2,t4,t5,t6,s0,s1,hp⟩ ih
  obtain ⟨gB,hu,hF2,hlim⟩:=hp
  obtain ⟨b,off,x,rfl,hx,f2,f0,f1⟩:=hC.s2 hj
  have hxc:=hS.coats x (List.mem_of_getElem? hx)
  have hg2:=hg.trans hu.grow
  have f0':=f0 H2 hg2
  have f1':=f1 H2 hg2
  have w1:IntKind.wrap .i64 (x.2+n)=x.2+n:=wrap_id _ (by omega) (by omega)
  have w2:=wrap_succ j (by omega)
  obtain ⟨a4,m4,H4,q4,B4,g4,u4,hF4,n4⟩:=gB.appl hF2 (by decide) (by decide) hu.len [.int .i64 x.1,.int .i64 (x.2+n)] (i:=1) rfl (by omega)
  rw [show cells encS ((wider s n).coats.take j)++[.int .i64 x.1,.int .i64 (x.2+n)]=cells encS ((wider s n).coats.take (j+1)) by rw [wider_get hx,cells_app]; rfl] at B4
  have N1:=hu.len
  have l7:=gB.isLoc j mo
  have l8:=B4.isLoc (j+1) m4
  simp (maxDischargeDepth:=8) only [↓SD,SU,SV,SW,simprocAttr,Int.cast_ofNat_Int,small,resV, q58x0,t1,t2,t4,t5,t6,s0,s1, s0,s1,lt_nat,hj,l1,l2,l3,l7,l8,f0',f1',w1,w2,q4]
  exact ih _ ⟨_,_,(H4),(a4),(m4),(_),rfl,(by simp [get_set,t1] <;> omega),(by simp [get_set,t2] <;> omega),(by simp [get_set,t4] <;> omega),(by simp [get_set,t5] <;> omega),(by simp [get_set,t6] <;> omega),by simp [sget_sset,s0],by simp [sget_sset,s1],⟨B4,u4 H' hu (Nat.le_refl _),hF4,by omega⟩⟩
 ·rintro c' s ⟨T,S,H2,ao,mo,lim,rfl,t1,t2,t4,t5,t6,s0,s1,hp⟩
  obtain ⟨gB,hu,hF2,hlim⟩:=hp
  have l7:=gB.isLoc cl mo
  have hsp:Spans H2 ao cl ((wider s n).coats.take cl):=gB.sl (fun _=>rfl) (by decide)
  rw [List.take_of_length_le (by simp [wider]; omega)] at hsp
  simp (maxDischargeDepth:=8) only [↓SD,SU,SV,SW,simprocAttr,Int.cast_ofNat_Int,small,resV, q58x0,t1,t2,t4,t5,t6,s0,s1, s0,s1,lt_nat,Nat.lt_irrefl,l1,l2,l3,l7,R58,N58]
  rw [yes_some]
  rcases gB.ok with ⟨_,h,_⟩ | ⟨b,f,rfl,rfl,_⟩
  ·omega
  ·exact ⟨_,_,H2,_,by rw [gc_ite hlim,if_neg (by simp [flat])],hu,hlim,⟨hD.grow (hg.trans hu.grow),hW.grow (hg.trans hu.grow),hsp⟩,l7⟩
set_option maxHeartbeats 1000000 in
theorem c14 {H:Heap}{r:ShR}{s:Sheet}(hs:ShOk H r s){n:Int}(hF:Fam H) :
  R (.func 14) [.agg #[.slice r.da r.dl r.dk,.slice r.wa r.wl r.wk,.slice r.ca r.cl r.ck],.int .i64 n] H=some ⟨.ok (.bool true),H,H.length⟩:=by
 refine run_k (pr 14) P14 (by simp [p14]) rfl ?_
 have l1:=hs.d.isLoc r.dk
 have l2:=hs.w.isLoc r.wk
 have l3:=hs.c.isLoc r.ck
 have k22:=c22 hs H
 cases e1:isShort r with
 | false=>simp (maxDischargeDepth:=8) only [↓SD,SU,SV,SW,simprocAttr,Int.cast_ofNat_Int,small,resV, B14,R14,N14,b14, l1,l2,l3,k22,e1,c23]
 | true =>
 have hd:=short_small e1
 have k25:=c25 hs hd H (Grow.refl _)
 cases e2:isSheet s with
 | false=>simp (maxDischargeDepth:=8) only [↓SD,SU,SV,SW,simprocAttr,Int.cast_ofNat_Int,small,resV, B14,R14,N14,b14, l1,l2,l3,k22,e1,c23,k25,e2]
 | true =>
 have hS:=fine_of e2
 by_cases h0:n < 0
 ·simp (maxDischargeDepth:=8) only [↓SD,SU,SV,SW,simprocAttr,Int.cast_ofNat_Int,small,resV, B14,R14,N14,b14, l1,l2,l3,k22,e1,c23,k25,e2,h0]
 by_cases h1:400 < n
 ·simp (maxDischargeDepth:=8) only [↓SD,SU,SV,SW,simprocAttr,Int.cast_ofNat_Int,small,resV, B14,R14,N14,b14, l1,l2,l3,k22,e1,c23,k25,e2,h0,h1]
 obtain ⟨o,ho,a,m,H1,lo,rfl,u,hlo,hk1,lq⟩:=c58 hs hd hS (n:=n) (by omega) (by omega) H (Grow.refl _) hF
 have hF1:Fam H1:=famR ho hF
 have hd1:Small ⟨r.da,r.dl,r.dk,r.wa,r.wl,r.wk,a,r.cl,m⟩:=⟨hd.d,hd.w,hd.c⟩
 have k25b:=c25 hk1 hd1 H1 (Grow.refl _)
 simp only at k25b
 have n1:=u.len
 have n2:H.length≤lo:=hlo
 cases e3:isSheet (wider s n) with
 | false=>simp (maxDischargeDepth:=8) only [↓SD,SU,SV,SW,simprocAttr,Int.cast_ofNat_Int,small,resV, B14,R14,N14,b14, l1,l2,l3,lq,k22,e1,c23,k25,e2,h0,h1,ho,k25b,e3,n1,n2]
 | true =>
 have g1:=u.grow
 have k56:=c56 hs hd H1 g1 hF1
 simp only [e2,if_true] at k56
 have k54:=c54 hs hd e2 H1 g1 hF1
 obtain ⟨o,ho2,a2,m2,H2,lo2,rfl,u2,hlo2,hk2,lq2⟩:=c58 hs hd hS (n:=n) (by omega) (by omega) H1 g1 hF1
 have hF2:Fam H2:=famR ho2 hF1
 have hd2:Small ⟨r.da,r.dl,r.dk,r.wa,r.wl,r.wk,a2,r.cl,m2⟩:=⟨hd.d,hd.w,hd.c⟩
 have k54b:=c54 hk2 hd2 e3 H2 (Grow.refl _) hF2
 simp only at k54b
 have n3:=u2.len
 have n4:H1.length≤lo2:=hlo2
 have n5:H.length≤lo2:=by omega
 have n6:H.length≤H2.length:=by omega
 have x1:=can_slack e2 (n:=0) (by decide) (by decide)
 rw [wider_zero] at x1
 have x2:=can_slack e2 (n:=n) (by omega) (by omega)
 by_cases hk:slack s < 0
 ·rw [if_pos hk] at k56
  have y1:CM.can s=false:=by cases h:CM.can s with | false=>rfl | true=>have:=x1.1 h; omega
  have y2:CM.can (wider s n)=false:=by cases h:CM.can (wider s n) with | false=>rfl | true=>have:=x2.1 h; omega
  rw [y1] at k54
  rw [y2] at k54b
  simp (maxDischargeDepth:=8) only [↓SD,SU,SV,SW,simprocAttr,Int.cast_ofNat_Int,small,resV, B14,R14,N14,b14, l1,l2,l3,lq,lq2,k22,e1,c23,k25,e2,h0,h1,ho,k25b,e3,k56,k54,ho2,k54b,n1,n2,n3,n4,n5,n6]
 ·rw [if_neg hk] at k56
  have y1:CM.can s=decide (slack s=0):=by rw [Bool.eq_iff_iff,x1,decide_eq_true_iff]; omega
  have y2:CM.can (wider s n)=decide (slack s≤n):=by rw [Bool.eq_iff_iff,x2,decide_eq_true_iff]; omega
  rw [y1] at k54
  rw [y2] at k54b
  by_cases z1:slack s=0
  ·rw [decide_eq_true z1] at k54
   have z2:slack s≤n:=by omega
   rw [decide_eq_true z2] at k54b
   have z3:(0:Int)≤n:=by omega
   simp (maxDischargeDepth:=8) only [↓SD,SU,SV,SW,simprocAttr,Int.cast_ofNat_Int,small,resV, B14,R14,N14,b14, l1,l2,l3,lq,lq2,k22,e1,c23,k25,e2,h0,h1,ho,k25b,e3,k56,k54,ho2,k54b,n1,n2,n3,n4,n5,n6,hk,z1,z2,z3]
  ·rw [decide_eq_false z1] at k54
   by_cases z2:slack s≤n
   ·rw [decide_eq_true z2] at k54b
    simp (maxDischargeDepth:=8) only [↓SD,SU,SV,SW,simprocAttr,Int.cast_ofNat_Int,small,resV, B14,R14,N14,b14, l1,l2,l3,lq,lq2,k22,e1,c23,k25,e2,h0,h1,ho,k25b,e3,k56,k54,ho2,k54b,n1,n2,n3,n4,n5,n6,hk,z1,z2]
   ·rw [decide_eq_false z2] at k54b
    simp (maxDischargeDepth:=8) only [↓SD,SU,SV,SW,simprocAttr,Int.cast_ofNat_Int,small,resV, B14,R14,N14,b14, l1,l2,l3,lq,lq2,k22,e1,c23,k25,e2,h0,h1,ho,k25b,e3,k56,k54,ho2,k54b,n1,n2,n3,n4,n5,n6,hk,z1,z2]
end Go.Pi.L.Coa
