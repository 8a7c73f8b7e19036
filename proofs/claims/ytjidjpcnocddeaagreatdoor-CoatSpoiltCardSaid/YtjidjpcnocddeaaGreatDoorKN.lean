/- The examples of coats are as they should be. -/
import Derived.Test.YtjidjpcnocddeaaGreatDoorCD
import Derived.Test.YtjidjpcnocddeaaGreatDoorGA
import Derived.Test.YtjidjpcnocddeaaGreatDoorGB
import Derived.Test.YtjidjpcnocddeaaGreatDoorGC
import Derived.Test.YtjidjpcnocddeaaGreatDoorGD
import Derived.Test.YtjidjpcnocddeaaGreatDoorGE
import Derived.Test.YtjidjpcnocddeaaGreatDoorGF
import Derived.Test.YtjidjpcnocddeaaGreatDoorGG
import Derived.Test.YtjidjpcnocddeaaGreatDoorGH
import Derived.Test.YtjidjpcnocddeaaGreatDoorGI
import Derived.Test.YtjidjpcnocddeaaGreatDoorGJ
set_option linter.all false
set_option maxRecDepth 1000000
namespace Go.Pi.L.Coa
open Go Go.Pi Go.Pi.Q Go.Pi.L Go.Pi.Coa CM
theorem famNil:Fam []:=fun i b f h=>by simp at h
theorem famApp {H:Heap}{c:List Value}{n:Nat}(h:Fam H)(hn:H.length=n):Fam (H++[⟨.cells c,true,true,some n⟩]):=h.append (fun f hf=>by cases hf; omega)
noncomputable abbrev R0:CallT:=runL PP Go.Pi.Coa.prims
theorem ints_at {H:Heap}{i:Nat}{t:Bool}{f:Option Nat}(xs:List Int)(h:H[i]?=some ⟨.cells (cells encI xs),true,t,f⟩):Ints H (some ⟨i,0,none⟩) xs.length xs:=Sl.of_cells encI_len (by simp [hcells,h])
theorem up_of {H H':Heap}{n1:Nat}{idx:List Nat}{bl:List (Option Blk)}(h:FactOf H H' n1 idx bl)(hl:H.length≤n1):Up H H':=⟨by rw [h.len]; exact hl,h.old⟩
set_option maxHeartbeats 4000000 in
theorem knownRun:R0 (.func 23) [] []=some ⟨.ok (.bool true),[],0⟩:=by
 have e0x0:(([]:Heap)).length=0:=rfl
 have up0:Up (([]:Heap)) (([]:Heap)):=(Up.refl _)
 obtain ⟨H0,r0,f0⟩:=fact prel pkeeps g0 (([]:Heap)) e0x0 (by intro p hp; cases hp) famNil
 replace r0:=runL_of r0
 have ux0:=up_of f0 (by rw [e0x0]; decide)
 have e1x0:(H0).length=3:=f0.len
 have e1x1:(H0++[(⟨.cells [.int .i64 0,.int .i64 3,.int .i64 6],true,true,some 3⟩:Blk)]).length=4:=by rw [List.length_append,e1x0]; rfl
 have e1x2:(H0++[(⟨.cells [.int .i64 0,.int .i64 3,.int .i64 6],true,true,some 3⟩:Blk)]++[(⟨.cells [.int .i64 6,.int .i64 5,.int .i64 10,.int .i64 2,.int .i64 6,.int .i64 5,.int .i64 8,.int .i64 4],true,true,some 4⟩:Blk)]).length=5:=by rw [List.length_append,e1x1]; rfl
 have up1:Up (H0) (H0++[(⟨.cells [.int .i64 0,.int .i64 3,.int .i64 6],true,true,some 3⟩:Blk)]++[(⟨.cells [.int .i64 6,.int .i64 5,.int .i64 10,.int .i64 2,.int .i64 6,.int .i64 5,.int .i64 8,.int .i64 4],true,true,some 4⟩:Blk)]):=(Up.refl _).app.app
 obtain ⟨H1,r1,f1⟩:=fact prel pkeeps g1 (H0++[(⟨.cells [.int .i64 0,.int .i64 3,.int .i64 6],true,true,some 3⟩:Blk)]++[(⟨.cells [.int .i64 6,.int .i64 5,.int .i64 10,.int .i64 2,.int .i64 6,.int .i64 5,.int .i64 8,.int .i64 4],true,true,some 4⟩:Blk)]) e1x2 (by
  intro p hp
  simp only [List.mem_cons,List.not_mem_nil,or_false] at hp
  rcases hp with rfl | rfl | rfl | rfl | rfl
  ·exact app_old (app_old (f0.new 0 0 _ rfl rfl))
  ·exact app_old (app_old (f0.new 1 1 _ rfl rfl))
  ·exact app_old (app_old (f0.new 2 2 _ rfl rfl))
  ·exact app_old (app_new e1x0)
  ·exact app_new e1x1) (famApp (famApp f0.fam e1x0) e1x1)
 replace r1:=runL_of r1
 have ux1:=up_of f1 (by rw [e1x2]; decide)
 have e2x0:(H1).length=5:=f1.len
 have up2:Up (H1) (H1):=(Up.refl _)
 obtain ⟨H2,r2,f2⟩:=fact prel pkeeps g2 (H1) e2x0 (by intro p hp; cases hp) f1.fam
 replace r2:=runL_of r2
 have ux2:=up_of f2 (by rw [e2x0]; decide)
 have e3x0:(H2).length=8:=f2.len
 have e3x1:(H2++[(⟨.cells [.int .i64 3,.int .i64 5,.int .i64 6],true,true,some 8⟩:Blk)]).length=9:=by rw [List.length_append,e3x0]; rfl
 have up3:Up (H2) (H2++[(⟨.cells [.int .i64 3,.int .i64 5,.int .i64 6],true,true,some 8⟩:Blk)]):=(Up.refl _).app
 obtain ⟨H3,r3,f3⟩:=fact prel pkeeps g3 (H2++[(⟨.cells [.int .i64 3,.int .i64 5,.int .i64 6],true,true,some 8⟩:Blk)]) e3x1 (by
  intro p hp
  simp only [List.mem_cons,List.not_mem_nil,or_false] at hp
  rcases hp with rfl | rfl | rfl | rfl
  ·exact app_old (f2.new 0 5 _ rfl rfl)
  ·exact app_old (f2.new 1 6 _ rfl rfl)
  ·exact app_old (f2.new 2 7 _ rfl rfl)
  ·exact app_new e3x0) (famApp f2.fam e3x0)
 replace r3:=runL_of r3
 have ux3:=up_of f3 (by rw [e3x1]; decide)
 have e4x0:(H3).length=9:=f3.len
 have up4:Up (H3) (H3):=(Up.refl _)
 obtain ⟨H4,r4,f4⟩:=fact prel pkeeps g4 (H3) e4x0 (by intro p hp; cases hp) f3.fam
 replace r4:=runL_of r4
 have ux4:=up_of f4 (by rw [e4x0]; decide)
 have e5x0:(H4).length=12:=f4.len
 have e5x1:(H4++[(⟨.cells [.int .i64 0,.int .i64 3,.int .i64 6],true,true,some 12⟩:Blk)]).length=13:=by rw [List.length_append,e5x0]; rfl
 have up5:Up (H4) (H4++[(⟨.cells [.int .i64 0,.int .i64 3,.int .i64 6],true,true,some 12⟩:Blk)]):=(Up.refl _).app
 obtain ⟨H5,r5,f5⟩:=fact prel pkeeps g5 (H4++[(⟨.cells [.int .i64 0,.int .i64 3,.int .i64 6],true,true,some 12⟩:Blk)]) e5x1 (by
  intro p hp
  simp only [List.mem_cons,List.not_mem_nil,or_false] at hp
  rcases hp with rfl | rfl | rfl | rfl
  ·exact app_old (f4.new 0 9 _ rfl rfl)
  ·exact app_old (f4.new 1 10 _ rfl rfl)
  ·exact app_old (f4.new 2 11 _ rfl rfl)
  ·exact app_new e5x0) (famApp f4.fam e5x0)
 replace r5:=runL_of r5
 have ux5:=up_of f5 (by rw [e5x1]; decide)
 have e6x0:(H5).length=13:=f5.len
 have up6:Up (H5) (H5):=(Up.refl _)
 obtain ⟨H6,r6,f6⟩:=fact prel pkeeps g6 (H5) e6x0 (by intro p hp; cases hp) f5.fam
 replace r6:=runL_of r6
 have ux6:=up_of f6 (by rw [e6x0]; decide)
 have e7x0:(H6).length=16:=f6.len
 have e7x1:(H6++[(⟨.cells [.int .i64 0,.int .i64 3,.int .i64 6],true,true,some 16⟩:Blk)]).length=17:=by rw [List.length_append,e7x0]; rfl
 have up7:Up (H6) (H6++[(⟨.cells [.int .i64 0,.int .i64 3,.int .i64 6],true,true,some 16⟩:Blk)]):=(Up.refl _).app
 obtain ⟨H7,r7,f7⟩:=fact prel pkeeps g7 (H6++[(⟨.cells [.int .i64 0,.int .i64 3,.int .i64 6],true,true,some 16⟩:Blk)]) e7x1 (by
  intro p hp
  simp only [List.mem_cons,List.not_mem_nil,or_false] at hp
  rcases hp with rfl | rfl | rfl | rfl
  ·exact app_old (f6.new 0 13 _ rfl rfl)
  ·exact app_old (f6.new 1 14 _ rfl rfl)
  ·exact app_old (f6.new 2 15 _ rfl rfl)
  ·exact app_new e7x0) (famApp f6.fam e7x0)
 replace r7:=runL_of r7
 have ux7:=up_of f7 (by rw [e7x1]; decide)
 have e8x0:(H7).length=243:=f7.len
 have up8:Up (H7) (H7):=(Up.refl _)
 obtain ⟨H8,r8,f8⟩:=fact prel pkeeps g8 (H7) e8x0 (by intro p hp; cases hp) f7.fam
 replace r8:=runL_of r8
 have ux8:=up_of f8 (by rw [e8x0]; decide)
 have e9x0:(H8).length=246:=f8.len
 have up9:Up (H8) (H8):=(Up.refl _)
 obtain ⟨H9,r9,f9⟩:=fact prel pkeeps g9 (H8) e9x0 (by
  intro p hp
  simp only [List.mem_cons,List.not_mem_nil,or_false] at hp
  rcases hp with rfl | rfl | rfl
  ·exact f8.new 0 243 _ rfl rfl
  ·exact f8.new 1 244 _ rfl rfl
  ·exact f8.new 2 245 _ rfl rfl) f8.fam
 replace r9:=runL_of r9
 have ux9:=up_of f9 (by rw [e9x0]; decide)
 have e10x0:(H9).length=375:=f9.len
 have up10:Up (H9) (H9):=(Up.refl _)
 obtain ⟨H10,r10,f10⟩:=fact prel pkeeps g10 (H9) e10x0 (by intro p hp; cases hp) f9.fam
 replace r10:=runL_of r10
 have ux10:=up_of f10 (by rw [e10x0]; decide)
 have e11x0:(H10).length=379:=f10.len
 have up11:Up (H10) (H10):=(Up.refl _)
 obtain ⟨H11,r11,f11⟩:=fact prel pkeeps g11 (H10) e11x0 (by
  intro p hp
  simp only [List.mem_cons,List.not_mem_nil,or_false] at hp
  rcases hp with rfl | rfl | rfl
  ·exact f10.new 0 375 _ rfl rfl
  ·exact f10.new 1 378 _ rfl rfl
  ·exact f10.new 2 377 _ rfl rfl) f10.fam
 replace r11:=runL_of r11
 have ux11:=up_of f11 (by rw [e11x0]; decide)
 have e12x0:(H11).length=379:=f11.len
 have up12:Up (H11) (H11):=(Up.refl _)
 obtain ⟨H12,r12,f12⟩:=fact prel pkeeps g12 (H11) e12x0 (by intro p hp; cases hp) f11.fam
 replace r12:=runL_of r12
 have ux12:=up_of f12 (by rw [e12x0]; decide)
 have e13x0:(H12).length=383:=f12.len
 have up13:Up (H12) (H12):=(Up.refl _)
 obtain ⟨H13,r13,f13⟩:=fact prel pkeeps g13 (H12) e13x0 (by
  intro p hp
  simp only [List.mem_cons,List.not_mem_nil,or_false] at hp
  rcases hp with rfl | rfl | rfl
  ·exact f12.new 0 379 _ rfl rfl
  ·exact f12.new 1 382 _ rfl rfl
  ·exact f12.new 2 381 _ rfl rfl) f12.fam
 replace r13:=runL_of r13
 have ux13:=up_of f13 (by rw [e13x0]; decide)
 have e14x0:(H13).length=685:=f13.len
 have up14:Up (H13) (H13):=(Up.refl _)
 obtain ⟨H14,r14,f14⟩:=fact prel pkeeps g14 (H13) e14x0 (by intro p hp; cases hp) f13.fam
 replace r14:=runL_of r14
 have ux14:=up_of f14 (by rw [e14x0]; decide)
 have e15x0:(H14).length=689:=f14.len
 have up15:Up (H14) (H14):=(Up.refl _)
 obtain ⟨H15,r15,f15⟩:=fact prel pkeeps g15 (H14) e15x0 (by
  intro p hp
  simp only [List.mem_cons,List.not_mem_nil,or_false] at hp
  rcases hp with rfl | rfl | rfl
  ·exact f14.new 0 685 _ rfl rfl
  ·exact f14.new 1 688 _ rfl rfl
  ·exact f14.new 2 687 _ rfl rfl) f14.fam
 replace r15:=runL_of r15
 have ux15:=up_of f15 (by rw [e15x0]; decide)
 have e16x0:(H15).length=689:=f15.len
 have up16:Up (H15) (H15):=(Up.refl _)
 obtain ⟨H16,r16,f16⟩:=fact prel pkeeps g16 (H15) e16x0 (by intro p hp; cases hp) f15.fam
 replace r16:=runL_of r16
 have ux16:=up_of f16 (by rw [e16x0]; decide)
 have e17x0:(H16).length=693:=f16.len
 have up17:Up (H16) (H16):=(Up.refl _)
 obtain ⟨H17,r17,f17⟩:=fact prel pkeeps g17 (H16) e17x0 (by
  intro p hp
  simp only [List.mem_cons,List.not_mem_nil,or_false] at hp
  rcases hp with rfl | rfl | rfl
  ·exact f16.new 0 689 _ rfl rfl
  ·exact f16.new 1 692 _ rfl rfl
  ·exact f16.new 2 691 _ rfl rfl) f16.fam
 replace r17:=runL_of r17
 have ux17:=up_of f17 (by rw [e17x0]; decide)
 have e18x0:(H17).length=693:=f17.len
 have up18:Up (H17) (H17):=(Up.refl _)
 obtain ⟨H18,r18,f18⟩:=fact prel pkeeps g18 (H17) e18x0 (by intro p hp; cases hp) f17.fam
 replace r18:=runL_of r18
 have ux18:=up_of f18 (by rw [e18x0]; decide)
 have e19x0:(H18).length=696:=f18.len
 have up19:Up (H18) (H18):=(Up.refl _)
 obtain ⟨H19,r19,f19⟩:=fact prel pkeeps g19 (H18) e19x0 (by
  intro p hp
  simp only [List.mem_cons,List.not_mem_nil,or_false] at hp
  rcases hp with rfl | rfl | rfl
  ·exact f18.new 0 693 _ rfl rfl
  ·exact f18.new 1 694 _ rfl rfl
  ·exact f18.new 2 695 _ rfl rfl) f18.fam
 replace r19:=runL_of r19
 have ux19:=up_of f19 (by rw [e19x0]; decide)
 have e20x0:(H19).length=696:=f19.len
 have up20:Up (H19) (H19):=(Up.refl _)
 obtain ⟨H20,r20,f20⟩:=fact prel pkeeps g20 (H19) e20x0 (by intro p hp; cases hp) f19.fam
 replace r20:=runL_of r20
 have ux20:=up_of f20 (by rw [e20x0]; decide)
 have e21x0:(H20).length=699:=f20.len
 have up21:Up (H20) (H20):=(Up.refl _)
 obtain ⟨H21,r21,f21⟩:=fact prel pkeeps g21 (H20) e21x0 (by
  intro p hp
  simp only [List.mem_cons,List.not_mem_nil,or_false] at hp
  rcases hp with rfl | rfl | rfl
  ·exact f20.new 0 696 _ rfl rfl
  ·exact f20.new 1 697 _ rfl rfl
  ·exact f20.new 2 698 _ rfl rfl) f20.fam
 replace r21:=runL_of r21
 have ux21:=up_of f21 (by rw [e21x0]; decide)
 have e22x0:(H21).length=699:=f21.len
 have up22:Up (H21) (H21):=(Up.refl _)
 obtain ⟨H22,r22,f22⟩:=fact prel pkeeps g22 (H21) e22x0 (by intro p hp; cases hp) f21.fam
 replace r22:=runL_of r22
 have ux22:=up_of f22 (by rw [e22x0]; decide)
 have e23x0:(H22).length=703:=f22.len
 have e23x1:(H22++[(⟨.cells [.int .i64 0,.int .i64 3,.int .i64 6],true,true,some 703⟩:Blk)]).length=704:=by rw [List.length_append,e23x0]; rfl
 have up23:Up (H22) (H22++[(⟨.cells [.int .i64 0,.int .i64 3,.int .i64 6],true,true,some 703⟩:Blk)]):=(Up.refl _).app
 obtain ⟨H23,r23,f23⟩:=fact prel pkeeps g23 (H22++[(⟨.cells [.int .i64 0,.int .i64 3,.int .i64 6],true,true,some 703⟩:Blk)]) e23x1 (by
  intro p hp
  simp only [List.mem_cons,List.not_mem_nil,or_false] at hp
  rcases hp with rfl | rfl | rfl | rfl
  ·exact app_old (f22.new 0 699 _ rfl rfl)
  ·exact app_old (f22.new 1 702 _ rfl rfl)
  ·exact app_old (f22.new 2 701 _ rfl rfl)
  ·exact app_new e23x0) (famApp f22.fam e23x0)
 replace r23:=runL_of r23
 have ux23:=up_of f23 (by rw [e23x1]; decide)
 have e24x0:(H23).length=993:=f23.len
 have up24:Up (H23) (H23):=(Up.refl _)
 obtain ⟨H24,r24,f24⟩:=fact prel pkeeps g24 (H23) e24x0 (by intro p hp; cases hp) f23.fam
 replace r24:=runL_of r24
 have ux24:=up_of f24 (by rw [e24x0]; decide)
 have e25x0:(H24).length=1003:=f24.len
 have e25x1:(H24++[(⟨.cells [.int .i64 6,.int .i64 5,.int .i64 10,.int .i64 2,.int .i64 6,.int .i64 5,.int .i64 8,.int .i64 4],true,true,some 1003⟩:Blk)]).length=1004:=by rw [List.length_append,e25x0]; rfl
 have e25x2:(H24++[(⟨.cells [.int .i64 6,.int .i64 5,.int .i64 10,.int .i64 2,.int .i64 6,.int .i64 5,.int .i64 8,.int .i64 4],true,true,some 1003⟩:Blk)]++[(⟨.cells [.int .i64 0,.int .i64 2,.int .i64 5],true,true,some 1004⟩:Blk)]).length=1005:=by rw [List.length_append,e25x1]; rfl
 have e25x3:(H24++[(⟨.cells [.int .i64 6,.int .i64 5,.int .i64 10,.int .i64 2,.int .i64 6,.int .i64 5,.int .i64 8,.int .i64 4],true,true,some 1003⟩:Blk)]++[(⟨.cells [.int .i64 0,.int .i64 2,.int .i64 5],true,true,some 1004⟩:Blk)]++[(⟨.cells [.int .i64 2,.int .i64 3,.int .i64 4],true,true,some 1005⟩:Blk)]).length=1006:=by rw [List.length_append,e25x2]; rfl
 have e25x4:(H24++[(⟨.cells [.int .i64 6,.int .i64 5,.int .i64 10,.int .i64 2,.int .i64 6,.int .i64 5,.int .i64 8,.int .i64 4],true,true,some 1003⟩:Blk)]++[(⟨.cells [.int .i64 0,.int .i64 2,.int .i64 5],true,true,some 1004⟩:Blk)]++[(⟨.cells [.int .i64 2,.int .i64 3,.int .i64 4],true,true,some 1005⟩:Blk)]++[(⟨.cells [.int .i64 0,.int .i64 2,.int .i64 4],true,true,some 1006⟩:Blk)]).length=1007:=by rw [List.length_append,e25x3]; rfl
 have up25:Up (H24) (H24++[(⟨.cells [.int .i64 6,.int .i64 5,.int .i64 10,.int .i64 2,.int .i64 6,.int .i64 5,.int .i64 8,.int .i64 4],true,true,some 1003⟩:Blk)]++[(⟨.cells [.int .i64 0,.int .i64 2,.int .i64 5],true,true,some 1004⟩:Blk)]++[(⟨.cells [.int .i64 2,.int .i64 3,.int .i64 4],true,true,some 1005⟩:Blk)]++[(⟨.cells [.int .i64 0,.int .i64 2,.int .i64 4],true,true,some 1006⟩:Blk)]):=(Up.refl _).app.app.app.app
 obtain ⟨H25,r25,f25⟩:=fact prel pkeeps g25 (H24++[(⟨.cells [.int .i64 6,.int .i64 5,.int .i64 10,.int .i64 2,.int .i64 6,.int .i64 5,.int .i64 8,.int .i64 4],true,true,some 1003⟩:Blk)]++[(⟨.cells [.int .i64 0,.int .i64 2,.int .i64 5],true,true,some 1004⟩:Blk)]++[(⟨.cells [.int .i64 2,.int .i64 3,.int .i64 4],true,true,some 1005⟩:Blk)]++[(⟨.cells [.int .i64 0,.int .i64 2,.int .i64 4],true,true,some 1006⟩:Blk)]) e25x4 (by
  intro p hp
  simp only [List.mem_cons,List.not_mem_nil,or_false] at hp
  rcases hp with rfl | rfl | rfl
  ·exact app_old (app_old (app_old (app_old (f24.new 0 1000 _ rfl rfl))))
  ·exact app_old (app_old (app_old (app_old (f24.new 1 999 _ rfl rfl))))
  ·exact app_old (app_old (app_old (app_old (f24.new 2 1002 _ rfl rfl))))) (famApp (famApp (famApp (famApp f24.fam e25x0) e25x1) e25x2) e25x3)
 replace r25:=runL_of r25
 have ux25:=up_of f25 (by rw [e25x4]; decide)
 have w0:(H24++[(⟨.cells [.int .i64 6,.int .i64 5,.int .i64 10,.int .i64 2,.int .i64 6,.int .i64 5,.int .i64 8,.int .i64 4],true,true,some 1003⟩:Blk)])[1003]?=some _:=app_new e25x0
 have v0:=ints_at [6,5,10,2,6,5,8,4] (f7.new 0 242 _ rfl rfl)
 have k0:R0 (.func 35) [.slice (some ⟨242,0,none⟩) 8 1,.slice (some ⟨1003,0,none⟩) 8 1] (H24++[(⟨.cells [.int .i64 6,.int .i64 5,.int .i64 10,.int .i64 2,.int .i64 6,.int .i64 5,.int .i64 8,.int .i64 4],true,true,some 1003⟩:Blk)])=some ⟨.ok (.bool true),_,_⟩:=c35p (Go.Pi.Coa.pr 35) (Sl.grow v0 ((((((((((((((((((((((((((((((((((((Up.refl H7).trans up8).trans ux8).trans up9).trans ux9).trans up10).trans ux10).trans up11).trans ux11).trans up12).trans ux12).trans up13).trans ux13).trans up14).trans ux14).trans up15).trans ux15).trans up16).trans ux16).trans up17).trans ux17).trans up18).trans ux18).trans up19).trans ux19).trans up20).trans ux20).trans up21).trans ux21).trans up22).trans ux22).trans up23).trans ux23).trans up24).trans ux24).app).grow) (ints_at [6,5,10,2,6,5,8,4] w0) (by decide) _ (Grow.refl _)
 have w1:(H24++[(⟨.cells [.int .i64 6,.int .i64 5,.int .i64 10,.int .i64 2,.int .i64 6,.int .i64 5,.int .i64 8,.int .i64 4],true,true,some 1003⟩:Blk)]++[(⟨.cells [.int .i64 0,.int .i64 2,.int .i64 5],true,true,some 1004⟩:Blk)])[1004]?=some _:=app_new e25x1
 have v1:=ints_at [0,2,5] (f9.new 0 306 _ rfl rfl)
 have k1:R0 (.func 35) [.slice (some ⟨306,0,none⟩) 3 1,.slice (some ⟨1004,0,none⟩) 3 1] (H24++[(⟨.cells [.int .i64 6,.int .i64 5,.int .i64 10,.int .i64 2,.int .i64 6,.int .i64 5,.int .i64 8,.int .i64 4],true,true,some 1003⟩:Blk)]++[(⟨.cells [.int .i64 0,.int .i64 2,.int .i64 5],true,true,some 1004⟩:Blk)])=some ⟨.ok (.bool true),_,_⟩:=c35p (Go.Pi.Coa.pr 35) (Sl.grow v1 ((((((((((((((((((((((((((((((((Up.refl H9).trans up10).trans ux10).trans up11).trans ux11).trans up12).trans ux12).trans up13).trans ux13).trans up14).trans ux14).trans up15).trans ux15).trans up16).trans ux16).trans up17).trans ux17).trans up18).trans ux18).trans up19).trans ux19).trans up20).trans ux20).trans up21).trans ux21).trans up22).trans ux22).trans up23).trans ux23).trans up24).trans ux24).app.app).grow) (ints_at [0,2,5] w1) (by decide) _ (Grow.refl _)
 have w2:(H24++[(⟨.cells [.int .i64 6,.int .i64 5,.int .i64 10,.int .i64 2,.int .i64 6,.int .i64 5,.int .i64 8,.int .i64 4],true,true,some 1003⟩:Blk)]++[(⟨.cells [.int .i64 0,.int .i64 2,.int .i64 5],true,true,some 1004⟩:Blk)]++[(⟨.cells [.int .i64 2,.int .i64 3,.int .i64 4],true,true,some 1005⟩:Blk)])[1005]?=some _:=app_new e25x2
 have v2:=ints_at [2,3,4] (f13.new 0 681 _ rfl rfl)
 have k2:R0 (.func 35) [.slice (some ⟨681,0,none⟩) 3 1,.slice (some ⟨1005,0,none⟩) 3 1] (H24++[(⟨.cells [.int .i64 6,.int .i64 5,.int .i64 10,.int .i64 2,.int .i64 6,.int .i64 5,.int .i64 8,.int .i64 4],true,true,some 1003⟩:Blk)]++[(⟨.cells [.int .i64 0,.int .i64 2,.int .i64 5],true,true,some 1004⟩:Blk)]++[(⟨.cells [.int .i64 2,.int .i64 3,.int .i64 4],true,true,some 1005⟩:Blk)])=some ⟨.ok (.bool true),_,_⟩:=c35p (Go.Pi.Coa.pr 35) (Sl.grow v2 ((((((((((((((((((((((((Up.refl H13).trans up14).trans ux14).trans up15).trans ux15).trans up16).trans ux16).trans up17).trans ux17).trans up18).trans ux18).trans up19).trans ux19).trans up20).trans ux20).trans up21).trans ux21).trans up22).trans ux22).trans up23).trans ux23).trans up24).trans ux24).app.app.app).grow) (ints_at [2,3,4] w2) (by decide) _ (Grow.refl _)
 have w3:(H24++[(⟨.cells [.int .i64 6,.int .i64 5,.int .i64 10,.int .i64 2,.int .i64 6,.int .i64 5,.int .i64 8,.int .i64 4],true,true,some 1003⟩:Blk)]++[(⟨.cells [.int .i64 0,.int .i64 2,.int .i64 5],true,true,some 1004⟩:Blk)]++[(⟨.cells [.int .i64 2,.int .i64 3,.int .i64 4],true,true,some 1005⟩:Blk)]++[(⟨.cells [.int .i64 0,.int .i64 2,.int .i64 4],true,true,some 1006⟩:Blk)])[1006]?=some _:=app_new e25x3
 have v3:=ints_at [0,2,4] (f23.new 0 777 _ rfl rfl)
 have k3:R0 (.func 35) [.slice (some ⟨777,0,none⟩) 3 1,.slice (some ⟨1006,0,none⟩) 3 1] (H24++[(⟨.cells [.int .i64 6,.int .i64 5,.int .i64 10,.int .i64 2,.int .i64 6,.int .i64 5,.int .i64 8,.int .i64 4],true,true,some 1003⟩:Blk)]++[(⟨.cells [.int .i64 0,.int .i64 2,.int .i64 5],true,true,some 1004⟩:Blk)]++[(⟨.cells [.int .i64 2,.int .i64 3,.int .i64 4],true,true,some 1005⟩:Blk)]++[(⟨.cells [.int .i64 0,.int .i64 2,.int .i64 4],true,true,some 1006⟩:Blk)])=some ⟨.ok (.bool true),_,_⟩:=c35p (Go.Pi.Coa.pr 35) (Sl.grow v3 ((((Up.refl H23).trans up24).trans ux24).app.app.app.app).grow) (ints_at [0,2,4] w3) (by decide) _ (Grow.refl _)
 rw [e25x1] at k0
 rw [e25x2] at k1
 rw [e25x3] at k2
 rw [e25x4] at k3
 refine run_k (Go.Pi.Coa.pr 23) P23 (by simp [p23]) rfl ?_
 simp only [show ([]:Heap).length=0 from rfl]
 simp (maxDischargeDepth:=8) (maxSteps:=4000000) only [↓SD,SU,SV,SW,simprocAttr,Int.cast_ofNat_Int,small,resV, B23,R23,N23,b23,r0,r1,r2,r3,r4,r5,r6,r7,r8,r9,r10,r11,r12,r13,r14,r15,r16,r17,r18,r19,r20,r21,r22,r23,r24,r25,e0x0,e10x0,e11x0,e12x0,e13x0,e14x0,e15x0,e16x0,e17x0,e18x0,e19x0,e1x0,e1x1,e1x2,e20x0,e21x0,e22x0,e23x0,e23x1,e24x0,e25x0,e25x1,e25x2,e25x3,e25x4,e2x0,e3x0,e3x1,e4x0,e5x0,e5x1,e6x0,e7x0,e7x1,e8x0,e9x0,k0,k1,k2,k3,ne_eq,not_false_eq_true,vv_seql]
end Go.Pi.L.Coa
