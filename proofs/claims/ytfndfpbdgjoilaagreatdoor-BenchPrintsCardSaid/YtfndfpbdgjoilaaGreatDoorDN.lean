/- Benches: the text of a bench is read as the bench. -/
import Derived.Test.YtfndfpbdgjoilaaGreatDoorDL
import Derived.Test.YtfndfpbdgjoilaaGreatDoorDM
import Derived.Test.YtfndfpbdgjoilaaGreatDoorDJ
import Derived.Test.YtfndfpbdgjoilaaGreatDoorDE
set_option linter.all false
set_option maxRecDepth 100000
namespace Go.Pi.L.Ben
open Go Go.Pi Go.Pi.L Go.Pi.E Go.Pi.Ben BM Go.Pi.Q

theorem dig_all:∀n,n < 100→numW (dig n)=some (n:Int)∧(dig n).all isDig=true∧(n < 10→(dig n).length=1):=by decide +kernel
theorem dgI_num {z:Int}(h0:0≤z)(h9:z≤99):numW (dgI z)=some z:=by
 have h:=(dig_all z.toNat (by omega)).1
 rw [Int.toNat_of_nonneg h0] at h; exact h
theorem dgI_no {z:Int}(h0:0≤z)(h9:z≤99){c:UInt8}(hc:isDig c=false):c ∉ dgI z:=fun h=>by
 have:=List.all_eq_true.1 (dig_all z.toNat (by omega)).2.1 c h
 rw [hc] at this; cases this
theorem dgI_one {z:Int}(h0:0≤z)(h9:z < 10):(dgI z).length=1:=(dig_all z.toNat (by omega)).2.2 (by omega)
theorem numsW_map:∀{ns:List Int},(∀z∈ns,0≤z∧z≤99)→numsW (ns.map dgI)=some ns
 | [],_=>rfl
 | z :: ns,h=>by
  have ih:=numsW_map fun w hw=>h w (List.mem_cons_of_mem _ hw)
  unfold numsW at ih ⊢
  rw [List.map_cons,List.mapM_cons,dgI_num (h z (List.mem_cons_self ..)).1 (h z (List.mem_cons_self ..)).2,ih]; rfl
theorem spl_join {c:UInt8}:∀{ps:List (List UInt8)} {p:List UInt8},(∀q∈p :: ps,c ∉ q)→spl c (p++(ps.map fun q=>c :: q).flatten)=p :: ps
 | [],p,h=>by simp [spl_none (h p (List.mem_cons_self ..))]
 | q :: ps,p,h=>by
  rw [List.map_cons,List.flatten_cons,List.cons_append,spl_hit _ (h p (List.mem_cons_self ..)),spl_join fun x hx=>h x (List.mem_cons_of_mem _ hx)]
theorem spl_rows {c:UInt8}:∀{rows:List (List UInt8)} {s:List UInt8},(∀r∈rows,c ∉ r)→spl c ((rows.map fun r=>r++[c]).flatten++s)=rows++spl c s
 | [],s,_=>rfl
 | r :: rows,s,h=>by
  rw [List.map_cons,List.flatten_cons,List.append_assoc,List.append_assoc,List.singleton_append,spl_hit _ (h r (List.mem_cons_self ..)),spl_rows fun x hx=>h x (List.mem_cons_of_mem _ hx)]; rfl
theorem numsT_eq (ns:List Int):numsT ns=((ns.map dgI).map fun q=>(32:UInt8) :: q).flatten:=by unfold numsT; rw [List.map_map]; rfl
theorem spl_head {a:Int}(h0:0≤a)(h9:a≤99):spl 32 (rowHead a)=[wBench,dgI a]:=by
 unfold rowHead
 rw [numsT_eq]
 exact spl_join (c:=32) (ps:=[dgI a]) fun q hq=>by
  rcases List.mem_cons.1 hq with e | hq
  ·rw [e]; decide
  ·rw [List.mem_singleton.1 hq]; exact dgI_no h0 h9 (by decide)
theorem spl_due {a:Int}(h0:0≤a)(h9:a≤99):spl 32 (rowDue a)=[wBoard,dgI a]:=by
 unfold rowDue
 rw [numsT_eq]
 exact spl_join (c:=32) (ps:=[dgI a]) fun q hq=>by
  rcases List.mem_cons.1 hq with e | hq
  ·rw [e]; decide
  ·rw [List.mem_singleton.1 hq]; exact dgI_no h0 h9 (by decide)
theorem listT_no {ns:List Int}(h:∀z∈ns,0≤z∧z≤99){c:UInt8}(hc:isDig c=false)(h44:c≠44)(h45:c≠45):c ∉ listT ns:=by
 unfold listT
 split
 ·simpa using h45
 ·cases ns with
  | nil=>simp [Lib.join_nil]
  | cons z ns =>
   rw [List.map_cons,Lib.join_cons]
   intro hm
   rcases List.mem_append.1 hm with hm | hm
   ·exact dgI_no (h z (List.mem_cons_self ..)).1 (h z (List.mem_cons_self ..)).2 hc hm
   ·unfold Lib.joinTail at hm
    obtain ⟨l,hl,hcl⟩:=List.mem_flatten.1 hm
    obtain ⟨q,hq,rfl⟩:=List.mem_map.1 hl
    obtain ⟨w,hw,rfl⟩:=List.mem_map.1 hq
    rcases List.mem_append.1 hcl with hcl | hcl
    ·exact h44 (List.mem_singleton.1 hcl)
    ·exact dgI_no (h w (List.mem_cons_of_mem _ hw)).1 (h w (List.mem_cons_of_mem _ hw)).2 hc hcl
theorem needW_list {ns:List Int}(h:∀z∈ns,0≤z∧z≤99):needW (listT ns)=some ns:=by
 cases ns with
 | nil=>rfl
 | cons z ns =>
  have hz:=h z (List.mem_cons_self ..)
  have e1:listT (z :: ns)=dgI z++Lib.joinTail [44] (ns.map dgI):=by unfold listT; rw [if_neg (by simp),List.map_cons,Lib.join_cons]
  rw [e1]
  unfold needW
  have hne:dgI z++Lib.joinTail [44] (ns.map dgI)≠[45]:=fun e=>by
   have h45:(45:UInt8) ∉ dgI z:=dgI_no hz.1 hz.2 (by decide)
   have hl:=(dig_len z.toNat).2
   cases hd:dgI z with
   | nil=>unfold dgI at hd; rw [hd] at hl; simp at hl
   | cons x l =>
    rw [hd] at e h45
    simp only [List.cons_append,List.cons.injEq] at e
    exact h45 (by rw [e.1]; exact List.mem_cons_self ..)
  rw [if_neg hne]
  have e:Lib.joinTail [44] (ns.map dgI)=((ns.map dgI).map fun q=>(44:UInt8) :: q).flatten:=rfl
  rw [e,spl_join (c:=44) (ps:=ns.map dgI) (p:=dgI z) fun q hq=>by
   rcases List.mem_cons.1 hq with e | hq
   ·rw [e]; exact dgI_no hz.1 hz.2 (by decide)
   ·obtain ⟨w,hw,rfl⟩:=List.mem_map.1 hq
    exact dgI_no (h w (List.mem_cons_of_mem _ hw)).1 (h w (List.mem_cons_of_mem _ hw)).2 (by decide)]
  have:=numsW_map h
  rwa [List.map_cons] at this
theorem spl_st {s:Stroke}(h:NuS s):spl 32 (rowSt s)=[(if s.round=true then wRound else wStraight),dgI s.board,dgI s.lo,dgI s.hi,listT s.needs]:=by
 unfold rowSt
 have e:numsT [s.board,s.lo,s.hi]++(32 :: listT s.needs)=(([dgI s.board,dgI s.lo,dgI s.hi,listT s.needs]).map fun q=>(32:UInt8) :: q).flatten:=by unfold numsT; simp
 rw [List.append_assoc,e]
 refine spl_join (c:=32) (ps:=[dgI s.board,dgI s.lo,dgI s.hi,listT s.needs]) fun q hq=>?_
 simp only [List.mem_cons,List.not_mem_nil,or_false] at hq
 rcases hq with e | e | e | e | e
 ·rw [e]; split <;> decide
 ·rw [e]; exact dgI_no h.b0 h.b9 (by decide)
 ·rw [e]; exact dgI_no h.l0 h.l9 (by decide)
 ·rw [e]; exact dgI_no h.h0 h.h9 (by decide)
 ·rw [e]; exact listT_no h.nd.1 (by decide) (by decide) (by decide)
theorem rowP_due (b:Bench){z:Int}(h0:0≤z)(h9:z≤99):rowP b (rowDue z)=some ⟨b.app,b.boards++[z],b.strokes⟩:=by
 unfold rowP
 rw [spl_due h0 h9]
 rw [if_pos (show ([wBoard,dgI z]:List (List UInt8)).getD 0 []=wBoard from rfl),if_pos (show ([wBoard,dgI z]:List (List UInt8)).length=2 from rfl)]
 have:numsW ([wBoard,dgI z].drop 1)=some [z]:=numsW_map (ns:=[z]) fun w hw=>by rw [List.mem_singleton.1 hw]; exact ⟨h0,h9⟩
 rw [this]; rfl
theorem rowP_st (b:Bench){s:Stroke}(h:NuS s):rowP b (rowSt s)=some ⟨b.app,b.boards,b.strokes++[s]⟩:=by
 unfold rowP
 rw [spl_st h]
 have hw:([(if s.round=true then wRound else wStraight),dgI s.board,dgI s.lo,dgI s.hi,listT s.needs]:List (List UInt8)).getD 0 []=(if s.round=true then wRound else wStraight):=rfl
 have h4:([(if s.round=true then wRound else wStraight),dgI s.board,dgI s.lo,dgI s.hi,listT s.needs]:List (List UInt8)).getD 4 []=listT s.needs:=rfl
 have hnw:numsW ((([(if s.round=true then wRound else wStraight),dgI s.board,dgI s.lo,dgI s.hi,listT s.needs]:List (List UInt8)).drop 1).take 3)=some [s.board,s.lo,s.hi]:=numsW_map (ns:=[s.board,s.lo,s.hi]) fun w hw=>by
  simp only [List.mem_cons,List.not_mem_nil,or_false] at hw
  rcases hw with e | e | e
  ·rw [e]; exact ⟨h.b0,h.b9⟩
  ·rw [e]; exact ⟨h.l0,h.l9⟩
  ·rw [e]; exact ⟨h.h0,h.h9⟩
 rw [hw,h4,hnw,needW_list h.nd.1,if_neg (by split <;> decide),if_pos (show ([(if s.round=true then wRound else wStraight),dgI s.board,dgI s.lo,dgI s.hi,listT s.needs]:List (List UInt8)).length=5 from rfl)]
 have e:strokeW [(if s.round=true then wRound else wStraight),dgI s.board,dgI s.lo,dgI s.hi,listT s.needs] [s.board,s.lo,s.hi] s.needs=s:=by
  unfold strokeW
  rw [hw]
  cases s with
  | mk bo ro lo hi nd =>
   cases ro <;> rfl
 simp only [e]
theorem foldP_due:∀(zs:List Int) (b:Bench),(∀z∈zs,0≤z∧z≤99)→foldP b (zs.map rowDue)=some ⟨b.app,b.boards++zs,b.strokes⟩
 | [],b,_=>by simp [foldP]
 | z :: zs,b,h=>by
  have ih:=foldP_due zs ⟨b.app,b.boards++[z],b.strokes⟩ fun w hw=>h w (List.mem_cons_of_mem _ hw)
  unfold foldP at ih ⊢
  rw [List.map_cons,List.foldlM_cons,rowP_due b (h z (List.mem_cons_self ..)).1 (h z (List.mem_cons_self ..)).2]
  show List.foldlM rowP _ _=_
  rw [ih]; simp
theorem foldP_st:∀(ss:List Stroke) (b:Bench),(∀s∈ss,NuS s)→foldP b (ss.map rowSt)=some ⟨b.app,b.boards,b.strokes++ss⟩
 | [],b,_=>by simp [foldP]
 | s :: ss,b,h=>by
  have ih:=foldP_st ss ⟨b.app,b.boards,b.strokes++[s]⟩ fun w hw=>h w (List.mem_cons_of_mem _ hw)
  unfold foldP at ih ⊢
  rw [List.map_cons,List.foldlM_cons,rowP_st b (h s (List.mem_cons_self ..))]
  show List.foldlM rowP _ _=_
  rw [ih]; simp
theorem endT_no (c:Nat)(hc:c < 197):(10:UInt8) ∉ endT c:=by
 have h:∀c,c < 197→(10:UInt8) ∉ endT c∧(endT c).length=7:=by decide +kernel
 exact (h c hc).1
theorem endT_len7 (c:Nat)(hc:c < 197):(endT c).length=7:=by
 have h:∀c,c < 197→(10:UInt8) ∉ endT c∧(endT c).length=7:=by decide +kernel
 exact (h c hc).2
end Go.Pi.L.Ben
set_option maxRecDepth 100000
namespace Go.Pi.L.Ben
open Go Go.Pi Go.Pi.L Go.Pi.E Go.Pi.Ben BM Go.Pi.Q

theorem numsT_no {ns:List Int}(h:∀z∈ns,0≤z∧z≤99){c:UInt8}(hc:isDig c=false)(h32:c≠32):c ∉ numsT ns:=by
 unfold numsT
 intro hm
 obtain ⟨l,hl,hcl⟩:=List.mem_flatten.1 hm
 obtain ⟨w,hw,rfl⟩:=List.mem_map.1 hl
 rcases List.mem_cons.1 hcl with hcl | hcl
 ·exact h32 hcl
 ·exact dgI_no (h w hw).1 (h w hw).2 hc hcl
theorem rows_no {b:Bench}(h:NuB b):∀r∈rowsT b,(10:UInt8) ∉ r:=by
 intro r hr
 have one:∀z:Int,0≤z→z≤99→∀w∈([z]:List Int),0≤w∧w≤99:=fun z h0 h9 w hw=>by rw [List.mem_singleton.1 hw]; exact ⟨h0,h9⟩
 unfold rowsT at hr
 rcases List.mem_append.1 hr with hr | hr
 ·rcases List.mem_cons.1 hr with e | hr
  ·rw [e]
   intro hm
   rcases List.mem_append.1 hm with hm | hm
   ·exact absurd hm (by decide)
   ·exact numsT_no (one _ h.a0 h.a9) (by decide) (by decide) hm
  ·obtain ⟨z,hz,rfl⟩:=List.mem_map.1 hr
   intro hm
   rcases List.mem_append.1 hm with hm | hm
   ·exact absurd hm (by decide)
   ·exact numsT_no (one _ (h.bo.1 z hz).1 (h.bo.1 z hz).2) (by decide) (by decide) hm
 ·obtain ⟨s,hs,rfl⟩:=List.mem_map.1 hr
  have hk:=h.st s hs
  intro hm
  unfold rowSt at hm
  rcases List.mem_append.1 hm with hm | hm
  ·rcases List.mem_append.1 hm with hm | hm
   ·revert hm; split <;> decide
   ·refine numsT_no (fun w hw=>?_) (by decide) (by decide) hm
    simp only [List.mem_cons,List.not_mem_nil,or_false] at hw
    rcases hw with e | e | e
    ·rw [e]; exact ⟨hk.b0,hk.b9⟩
    ·rw [e]; exact ⟨hk.l0,hk.l9⟩
    ·rw [e]; exact ⟨hk.h0,hk.h9⟩
  ·rcases List.mem_cons.1 hm with hm | hm
   ·exact absurd hm (by decide)
   ·exact listT_no hk.nd.1 (by decide) (by decide) (by decide) hm
theorem textT_flat (b:Bench):textT b=((rowsT b).map fun r=>r++[10]).flatten++(endT (chkL 0 (rowsT b) % 197)++[10]):=by
 have jf:∀(rows:List (List UInt8)) (e:List UInt8),Lib.join (rows++[e]) [10]=(rows.map fun r=>r++[10]).flatten++e:=by
  intro rows
  induction rows with
  | nil=>intro e; simp [Lib.join_one]
  | cons x rows ih =>
   intro e
   have ih:=ih e
   rw [List.cons_append,Lib.join_cons]
   cases rows with
   | nil=>simp [Lib.joinTail]
   | cons y r =>
    rw [List.cons_append,Lib.join_cons] at ih
    simp only [Lib.joinTail,List.cons_append,List.map_cons,List.flatten_cons,List.append_assoc] at ih ⊢
    rw [ih]
 unfold textT
 rw [jf,List.append_assoc]
theorem parse_text {b:Bench}(h:NuB b):parseP (textT b)=some b:=by
 have hQ:chkL 0 (rowsT b) % 197 < 197:=Nat.mod_lt _ (by decide)
 have hsp:spl 10 (textT b)=rowsT b++[endT (chkL 0 (rowsT b) % 197),[]]:=by
  rw [textT_flat,spl_rows (rows_no h),spl_hit [] (endT_no _ hQ)]; rfl
 have hrow:rowsT b=rowHead b.app :: (b.boards.map rowDue++b.strokes.map rowSt):=rfl
 have hlen:(spl 10 (textT b)).length=(b.boards.map rowDue++b.strokes.map rowSt).length+3:=by rw [hsp,hrow]; simp; omega
 have hR:rowsP (textT b)=b.boards.map rowDue++b.strokes.map rowSt:=by
  unfold rowsP
  rw [hlen,hsp,hrow,Nat.add_sub_cancel]
  show ((b.boards.map rowDue++b.strokes.map rowSt)++_).take _=_
  rw [List.take_left]
 unfold parseP
 rw [if_pos (by omega),hR]
 have h0:(spl 10 (textT b)).getD 0 []=rowHead b.app:=by rw [hsp,hrow]; rfl
 rw [h0,spl_head h.a0 h.a9]
 have hn:numsW (([wBench,dgI b.app]:List (List UInt8)).drop 1)=some [b.app]:=numsW_map (ns:=[b.app]) fun w hw=>by rw [List.mem_singleton.1 hw]; exact ⟨h.a0,h.a9⟩
 rw [hn]
 have hf:foldP ⟨b.app,[],[]⟩ (b.boards.map rowDue++b.strokes.map rowSt)=some b:=by
  have h1:=foldP_due b.boards ⟨b.app,[],[]⟩ h.bo.1
  have h2:=foldP_st b.strokes ⟨b.app,b.boards,[]⟩ h.st
  unfold foldP at h1 h2 ⊢
  rw [List.foldlM_append,h1]
  show List.foldlM rowP _ _=_
  rw [List.nil_append,h2]; rfl
 show parseT (foldP ⟨b.app,[],[]⟩ (b.boards.map rowDue++b.strokes.map rowSt)) (textT b)=some b
 rw [hf]
 unfold parseT
 simp only [if_true]
theorem inc_len:∀{l:List Int} {a m:Int},l.Pairwise (· < ·)→(∀z∈l,a≤z∧z < m)→a≤m→(l.length:Int)≤m - a
 | [],a,m,_,_,h=>by simp; omega
 | x :: l,a,m,hp,hb,h=>by
  obtain ⟨p1,p2⟩:=List.pairwise_cons.1 hp
  have hx:=hb x (List.mem_cons_self ..)
  have:=inc_len (a:=x+1) p2 (fun z hz=>⟨by have:=p1 z hz; omega,(hb z (List.mem_cons_of_mem _ hz)).2⟩) (by omega)
  simp only [List.length_cons]; omega
theorem stroke_bounds {nb m:Nat}{s:Stroke}(h:strokeOk nb m s=true)(hm:m≤5)(hnb:nb≤3):NuS s∧(rowSt s).length+1≤17+2*m:=by
 simp only [strokeOk,Bool.and_eq_true,List.all_eq_true,inL_iff] at h
 obtain ⟨⟨h1,h2⟩,h3,h4,h5⟩:=h
 have hnl:(s.needs.length:Int)≤(m:Int):=by
  have:=inc_len (a:=0) (m:=(m:Int)) (rises_pair h1) (fun z hz=>by have:=h2 z hz; omega) (by omega)
  omega
 have hnd:Nn s.needs:=⟨fun z hz=>by have:=h2 z hz; omega,by omega⟩
 refine ⟨⟨by omega,by omega,by omega,by omega,by omega,by omega,hnd⟩,?_⟩
 have hl:(listT s.needs).length≤1+2*m∧(listT s.needs).length≤max 1 (2*m):=by
  unfold listT
  split
  ·simp; omega
  ·have hj:=join_len (s.needs.map dgI) [44] 1 (fun x hx=>by
    obtain ⟨z,hz,rfl⟩:=List.mem_map.1 hx
    have:=h2 z hz
    rw [dgI_one (by omega) (by omega)]; exact Nat.le_refl _)
   rw [List.length_map] at hj
   simp only [List.length_singleton] at hj
   omega
 have d1:=dgI_one (z:=s.board) (by omega) (by omega)
 have d2:=dgI_one (z:=s.lo) (by omega) (by omega)
 have d3:=dgI_one (z:=s.hi) (by omega) (by omega)
 have hw:(if s.round=true then wRound else wStraight).length≤8:=by split <;> decide
 unfold rowSt numsT
 simp only [List.map_cons,List.map_nil,List.flatten_cons,List.flatten_nil,List.append_nil,List.length_append,List.length_cons,d1,d2,d3]
 omega
def gB (m:Nat):Nat:=[132,115,96,75,52,27,0].getD m 0
theorem strokes_len {nb:Nat}(hnb:nb≤3):∀(l:List Stroke) (m:Nat),strokesOk nb m l=true→m+l.length≤6→(∀s∈l,NuS s)∧(((l.map rowSt).map fun r=>r++[(10:UInt8)]).flatten).length≤gB m
 | [],m,_,_=>⟨fun s hs=>(by cases hs),by simp⟩
 | s :: l,m,h,hm=>by
  simp only [strokesOk,Bool.and_eq_true] at h
  simp only [List.length_cons] at hm
  obtain ⟨a1,a2⟩:=stroke_bounds h.1 (by omega) hnb
  obtain ⟨b1,b2⟩:=strokes_len hnb l (m+1) h.2 (by omega)
  refine ⟨fun x hx=>?_,?_⟩
  ·rcases List.mem_cons.1 hx with e | hx
   ·rw [e]; exact a1
   ·exact b1 x hx
  ·simp only [List.map_cons,List.flatten_cons,List.length_append,List.length_singleton]
   have hg:∀m,m≤5→17+2*m+gB (m+1)≤gB m:=by decide
   have:=hg m (by omega)
   omega
theorem bench_nu {b:Bench}(hB:isBench b=true):NuB b∧(textT b).length≤180:=by
 simp only [isBench,Bool.and_eq_true,List.all_eq_true,inL_iff] at hB
 obtain ⟨h1,h2,h3,h4,h5⟩:=hB
 obtain ⟨s1,s2⟩:=strokes_len (nb:=b.boards.length) (by omega) b.strokes 0 h4 (by omega)
 have hQ:chkL 0 (rowsT b) % 197 < 197:=Nat.mod_lt _ (by decide)
 refine ⟨⟨by omega,by omega,⟨fun z hz=>by have:=h5 z hz; omega,by omega⟩,s1,by omega⟩,?_⟩
 have hd:∀zs:List Int,(∀z∈zs,0≤z∧z≤60)→(((zs.map rowDue).map fun r=>r++[(10:UInt8)]).flatten).length≤9*zs.length:=by
  intro zs
  induction zs with
  | nil=>intro _; simp
  | cons z zs ih =>
   intro h
   have ih:=ih fun w hw=>h w (List.mem_cons_of_mem _ hw)
   have hz:(dgI z).length≤2:=(dig_len z.toNat).1
   simp only [List.map_cons,List.flatten_cons,List.length_append,List.length_cons,List.length_nil] at ih ⊢
   have:(rowDue z).length≤8:=by unfold rowDue numsT; simp [wBoard]; omega
   omega
 have hb3:=hd b.boards h5
 have hh:(rowHead b.app).length≤8:=by
  have hz:(dgI b.app).length≤2:=(dig_len b.app.toNat).1
  unfold rowHead numsT; simp [wBench]; omega
 have hh7:(rowHead b.app).length=7:=by
  have hz:=dgI_one (z:=b.app) (by omega) (by omega)
  unfold rowHead numsT; simp [wBench,hz]
 have e7:=endT_len7 (chkL 0 (rowsT b) % 197) hQ
 rw [textT_flat]
 generalize endT (chkL 0 (rowsT b) % 197)=E at e7 ⊢
 unfold rowsT
 rw [List.map_append,List.flatten_append,List.map_cons,List.flatten_cons]
 simp only [List.length_append,List.length_singleton,hh7,e7]
 have:gB 0=132:=rfl
 rw [this] at s2
 omega
end Go.Pi.L.Ben
set_option maxRecDepth 100000
namespace Go.Pi.L.Ben
open Go Go.Pi Go.Pi.L Go.Pi.E Go.Pi.Ben BM Go.Pi.Q

theorem c67 {H:Heap}{r:BeR}{b:Bench}(hb:BeOk H r b)(hd:SmB r):∀H',Grow H H'→R (.func 67) [.agg #[.int .i64 r.app,.slice r.ba r.bl r.bk,.slice r.sa r.sl r.sk]] H'=some ⟨.ok (if isBench b=true then .tuple #[.string ⟨(textT b).toArray⟩,.int .i64 0] else .tuple #[.string ⟨#[]⟩,.int .i64 2]),H',H'.length⟩:=by
 intro H' hg
 refine run_k (pr 67) P67 (by simp [p67]) rfl ?_
 have l1:=hb.br.isLoc r.bk
 have l2:=hb.st.isLoc r.sk
 have k74:=c74 hb hd H' hg
 cases hB:isBench b with
 | false =>
  rw [hB] at k74
  simp (maxDischargeDepth:=8) only [↓SD,SU,SV,SW,simprocAttr,Int.cast_ofNat_Int,small,resV, B67,R67,N67,b67, l1,l2,k74,R67,N67]
 | true =>
  rw [hB] at k74
  have k103:=c103 hb (bench_nu hB).1 H' hg
  simp (maxDischargeDepth:=8) only [↓SD,SU,SV,SW,simprocAttr,Int.cast_ofNat_Int,small,resV, B67,R67,N67,b67, l1,l2,k74,k103,R67,N67]
set_option maxHeartbeats 2000000 in
theorem c70 {H:Heap}{r rr:BeR}{b:Bench}(hb:BeOk H r b)(hbp:BeOk H rr b)(hn:NuB b):∀H',Grow H H'→R (.func 70) [.agg #[.int .i64 r.app,.slice r.ba r.bl r.bk,.slice r.sa r.sl r.sk],.agg #[.int .i64 rr.app,.slice rr.ba rr.bl rr.bk,.slice rr.sa rr.sl rr.sk]] H'=some ⟨.ok (.bool true),H',H'.length⟩:=by
 intro H' hg
 refine run_k (pr 70) P70 (by simp [p70]) rfl ?_
 have l1:=hb.br.isLoc r.bk
 have l2:=hb.st.isLoc r.sk
 have l3:=hbp.br.isLoc rr.bk
 have l4:=hbp.st.isLoc rr.sk
 have ha:rr.app=r.app:=by rw [hb.app,hbp.app]
 have hsl:rr.sl=r.sl:=by rw [←hb.len,←hbp.len]
 have hbl:=hn.bo.2
 have hssl:=hn.sl
 have hbb:=hb.blen
 have hlen:=hb.len
 have k37:=c37 (m1:=r.bk) (m2:=rr.bk) hb.br hbp.br (by omega) H' hg
 rw [decide_eq_true rfl] at k37
 rw [ha]
 rw [hsl] at l4 ⊢
 simp (maxDischargeDepth:=8) only [↓SD,SU,SV,SW,simprocAttr,Int.cast_ofNat_Int,small,resV, B70,R70,N70,b70, l1,l2,l3,l4,k37]
 refine loop_ind (G:=(·=_)) (fun j σ=>∃T S lim,σ=⟨T,S,[],H',lim,74,false⟩∧get T 2=.pointer (some ⟨2,0,some 1⟩)∧get T 3=.pointer (some ⟨3,0,some 1⟩)∧get T 5=.int .i64 (j:Nat)∧sget S 2=(1,.cells [.int .i64 r.app,.slice r.ba r.bl r.bk,.slice r.sa r.sl r.sk])∧sget S 3=(1,.cells [.int .i64 r.app,.slice rr.ba rr.bl rr.bk,.slice rr.sa r.sl rr.sk])∧(H'.length≤lim)) (r.sl) ?_ ?_ 0 _ (Nat.zero_le _) ⟨_,_,_,rfl,rfl,rfl,rfl,rfl,rfl,Nat.le_refl _⟩
 ·rintro c' j s hj ⟨T,S,lim,rfl,t2,t3,t5,s0,s1,hp⟩ ih
  have hw:=wrap_succ j (by omega)
  obtain ⟨b1,o1,k,hka,hk1,hat⟩:=hb.st.at eK_len (by decide) hj
  obtain ⟨b2,o2,k',hka',hk1',hat'⟩:=hbp.st.at eK_len (by decide) (j:=j) (by omega)
  have hss:k'.s=k.s:=by
   have h1:=hb.at hk1
   have h2:=hbp.at hk1'
   rw [h1] at h2; exact (Option.some.inj h2).symm
  have hnk:=hb.nd k (mem_drop hk1)
  have hnk':=hbp.nd k' (mem_drop hk1')
  rw [hss] at hnk'
  have lk:=hnk.isLoc k.m
  have lk':=hnk'.isLoc k'.m
  have hks:=hn.st k.s (List.mem_of_getElem? (hb.at hk1))
  have hnl:=hks.nd.2
  have hkl:=hnk.len
  have fk:rdO (hcells H' b1) (o1+j*5) (some 5)=some (.agg #[.int .i64 k.s.board,.bool k.s.round,.int .i64 k.s.lo,.int .i64 k.s.hi,.slice k.a k.l k.m]):=hat.all H' hg
  have fk':rdO (hcells H' b2) (o2+j*5) (some 5)=some (.agg #[.int .i64 k.s.board,.bool k.s.round,.int .i64 k.s.lo,.int .i64 k.s.hi,.slice k'.a k'.l k'.m]):=by
   have h:=hat'.all H' hg
   unfold eK at h
   rw [hss] at h; exact h
  have iak:vv (.ia 5) [.slice r.sa r.sl r.sk,.int .i64 (j:Nat)]=some (.pointer (some ⟨b1,o1+j*5,none⟩)):=by rw [hka]; exact vv_iaN 5 b1 o1 j _ _ _ hj
  have iak':vv (.ia 5) [.slice rr.sa r.sl rr.sk,.int .i64 (j:Nat)]=some (.pointer (some ⟨b2,o2+j*5,none⟩)):=by rw [hka']; exact vv_iaN 5 b2 o2 j _ _ _ hj
  have kn:=c37 (m1:=k.m) (m2:=k'.m) hnk hnk' (by omega) H' hg
  rw [decide_eq_true rfl] at kn
  have ag:vv (.ag [(.i .i64),(.i .i64)] true) [.agg #[.int .i64 k.s.lo,.int .i64 k.s.hi],.agg #[.int .i64 k.s.lo,.int .i64 k.s.hi]]=some (.bool false):=by
   rw [vv_of (by rfl)]; simp [VOp.ev,hasAll,PK.has,eqs,eqv]
  have bb:∀q:Bool,vv (.bb true) [.bool q,.bool q]=some (.bool false):=fun q=>by rw [vv_of rfl]; cases q <;> rfl
  have la:isLoc (.agg #[.int .i64 k.s.board,.bool k.s.round,.int .i64 k.s.lo,.int .i64 k.s.hi,.slice k.a k.l k.m])=false:=rfl
  have la':isLoc (.agg #[.int .i64 k.s.board,.bool k.s.round,.int .i64 k.s.lo,.int .i64 k.s.hi,.slice k'.a k'.l k'.m])=false:=rfl
  simp (maxDischargeDepth:=8) only [↓SD,SU,SV,SW,simprocAttr,Int.cast_ofNat_Int,small,resV, q70x0,t2,t3,t5,s0,s1, lt_nat,hj,l1,l2,l3,l4,lk,lk',iak,iak',fk,fk',kn,ag,bb,hw,so_loc,k_fixb,sget_sset]
  exact ih _ ⟨_,_,(_),rfl,(by simp [get_set,t2] <;> omega),(by simp [get_set,t3] <;> omega),(by simp [get_set,t5] <;> omega),by simp [sget_sset,s0],by simp [sget_sset,s1],by omega⟩
 ·rintro c' s ⟨T,S,lim,rfl,t2,t3,t5,s0,s1,hp⟩
  simp (maxDischargeDepth:=8) only [↓SD,SU,SV,SW,simprocAttr,Int.cast_ofNat_Int,small,resV, q70x0,t2,t3,t5,s0,s1, lt_nat,Nat.lt_irrefl,l1,l2,l3,l4,sget_sset,R70,N70]
  rw [gc_ite hp]; simp [flat]
set_option maxHeartbeats 2000000 in
theorem c18 {H:Heap}{r:BeR}{b:Bench}(hb:BeOk H r b)(hF:Fam H):R (.func 18) [.agg #[.int .i64 r.app,.slice r.ba r.bl r.bk,.slice r.sa r.sl r.sk]] H=some ⟨.ok (.bool true),H,H.length⟩:=by
 refine run_k (pr 18) P18 (by simp [p18]) rfl ?_
 have l1:=hb.br.isLoc r.bk
 have l2:=hb.st.isLoc r.sk
 have k31:=c31 hb H (Grow.refl _)
 cases q1:shortB r.xs r with
 | false=>rw [q1] at k31; simp (maxDischargeDepth:=8) only [↓SD,SU,SV,SW,simprocAttr,Int.cast_ofNat_Int,small,resV, B18,R18,N18,b18, l1,l2,k31,c25,R18,N18]
 | true =>
 rw [q1] at k31
 have hd:=short_sm hb q1
 have k67:=c67 hb hd H (Grow.refl _)
 have k34:=c34 hb hd H (Grow.refl _)
 cases hB:isBench b with
 | false =>
  rw [hB] at k67 k34
  simp only [Bool.false_eq_true,if_false] at k67
  have seq:=vv_seq' [] []
  rw [decide_eq_true rfl] at seq
  simp (maxDischargeDepth:=8) only [↓SD,SU,SV,SW,simprocAttr,Int.cast_ofNat_Int,small,resV, B18,R18,N18,b18, l1,l2,k31,k67,k34,seq,c25,R18,N18]
 | true =>
 rw [hB] at k67 k34
 simp only [if_true] at k67
 obtain ⟨hnb,hT⟩:=bench_nu hB
 obtain ⟨rr,H1,lo1,k68,u1,hlo1,hbp⟩:=c68 hT (parse_text hnb) hB H hF
 have l3:=hbp.br.isLoc rr.bk
 have l4:=hbp.st.isLoc rr.sk
 have h1:=u1.len
 have k69:=c69 (hb.grow u1.grow) hnb H1 (Grow.refl _)
 have k70:=c70 hbp (hb.grow u1.grow) hnb H1 (Grow.refl _)
 have seq:=vv_seq' (textT b) (textT b)
 rw [decide_eq_true rfl] at seq
 simp (maxDischargeDepth:=8) only [↓SD,SU,SV,SW,simprocAttr,Int.cast_ofNat_Int,small,resV, B18,R18,N18,b18, l1,l2,l3,l4,k31,k67,k34,k68,k69,k70,seq,c25,R18,N18]
 first | (rw [gc_ite (by omega)]; simp [flat]; done) | (simp [gcR,flat]; omega)
end Go.Pi.L.Ben
