/- The law WitnessNames, walked. (Printed by gen_wcf.py.) -/
import Derived.Deep.RegionHeld
import Derived.Deep.Cut
import Derived.LoopTactic
import Derived.Test.YtockinpjfhhkoaaGreatDoorZ45
import Derived.Test.YtockinpjfhhkoaaGreatDoorZ14
set_option maxRecDepth 100000
set_option maxHeartbeats 16000000
open Go.Lib renaming cell_of_heap → Jc, hid → Jh
namespace Go.Proofs.YtockinpjfhhkoaaGreatDoor
open Go.RowKit
theorem prep_one {w : World} : PRep w w.heap.size 1 (1,0,[],[]) (.agg #[.int .u8 1,.int .u8 0,.slice none 0 0,.slice none 0 0]) :=
 ⟨_,none,0,rfl,(show (0 : Nat) ≤ 9223372036854775807 by decide),⟨none,0,rfl,(show (0 : Nat) ≤ 9223372036854775807 by decide),.inl rfl⟩,.inl rfl⟩
theorem z8e (w : World) (hr : Rdy w) : Calls Tryz.prog 8 #[] w fun e w' => e = .returned (.bool true) ∧ Below w.heap.size w w':=by
 have HR:=Jh hr
 clear hr
 go_enter Tryz.func8,Tryz.ntmps8
 go_upto_region 2 with fail
 obtain ⟨W1,hW1⟩ : ∃ W1,W1 = w.alloc (.cells #[.int .u8 1,.int .u8 0,.slice none 0 0,.slice none 0 0] 56):=⟨_,rfl⟩
 rw [← hW1]
 have HB1 : Hid (Below w.heap.size w W1):=by rw [hW1]; exact z08 _ _
 have HK1 : Hid (W1.heap[w.heap.size]? = some (.cells #[.int .u8 1,.int .u8 0,.slice none 0 0,.slice none 0 0] 56 (0,0))):=by rw [hW1]; exact z01 rfl
 clear hW1
 go_upto_region 3 with fail
 refine (z7y ofT_2 W1).mono ?_
 rintro e w2 ⟨v1,rfl,hb2,hp2⟩
 obtain ⟨va,a,cap,rfl,hm,⟨ra,rc,rfl,hrm,hrr⟩,hof⟩:=hp2
 have HP2 : Hid (PRep w2 w2.heap.size 2 ((4,1,[(1,1)],[(1,0,[],[]),(1,0,[],[])]) : PT 2) (.agg #[.int .u8 4,.int .u8 1,.slice ra 1 rc,.slice a 2 cap])):=⟨_,a,cap,rfl,hm,⟨ra,rc,rfl,hrm,hrr⟩,hof⟩
 have HB2:=Jh (HB1.out.trans (hb2.mono HB1.out.size))
 have HK2:=Jh ((hb2.block _ (Array.getElem?_eq_some_iff.1 HK1.out).1).trans HK1.out)
 clear hm hrm hrr hof hb2 HB1 HK1
 have hl1 : [((1 : Int),(1 : Int))].length = 1:=rfl
 have hl2 : (cutT 1 1).2.2.2.length = 2:=rfl
 have hl3 : (cutT 1 1).2.2.1.length = 1:=rfl
 have hk1 : (cutT 1 1).1 = 4:=rfl
 have hk2 : (cutT 1 1).2.1 = 0:=rfl
 try simp only [hl2,hl3,hk1,hk2]
 clear hl1 hl2 hl3 hk1 hk2
 go_upto_region 4 with fail
 obtain ⟨W3,hW3⟩ : ∃ W3,W3 = w2.alloc (.cells #[.int .u8 4,.int .u8 1,.slice ra 1 rc,.slice a 2 cap] 56):=⟨_,rfl⟩
 rw [← hW3]
 have hb3 : Below w2.heap.size w2 W3:=by rw [hW3]; exact z08 _ _
 have HB3:=Jh (HB2.out.trans (hb3.mono HB2.out.size))
 have HK3 : Hid (W3.heap[w2.heap.size]? = some (.cells #[.int .u8 4,.int .u8 1,.slice ra 1 rc,.slice a 2 cap] 56 (0,0))):=by rw [hW3]; exact z01 rfl
 have HK4:=Jh ((hb3.block _ (Array.getElem?_eq_some_iff.1 HK2.out).1).trans HK2.out)
 have HP3:=Jh (HP2.out.up hb3 hb3.size)
 clear hW3 hb3 HB2 HK2 HP2
 have HH : Hid (∀ W,Below W3.heap.size W3 W → ((W.cell? ⟨w.heap.size,0,none⟩ = some (.int .u8 1) ∧ W.cell? ⟨w.heap.size,1,none⟩ = some (.int .u8 0) ∧ W.cell? ⟨w.heap.size,2,none⟩ = some (.slice none 0 0) ∧ W.cell? ⟨w.heap.size,3,none⟩ = some (.slice none 0 0)) ∧ (W.cell? ⟨w2.heap.size,0,none⟩ = some (.int .u8 4) ∧ W.cell? ⟨w2.heap.size,1,none⟩ = some (.int .u8 1) ∧ W.cell? ⟨w2.heap.size,2,none⟩ = some (.slice ra 1 rc) ∧ W.cell? ⟨w2.heap.size,3,none⟩ = some (.slice a 2 cap))) ∧ Rdy W ∧ PRep W W.heap.size 2 ((4,1,[(1,1)],[(1,0,[],[]),(1,0,[],[])]) : PT 2) (.agg #[.int .u8 4,.int .u8 1,.slice ra 1 rc,.slice a 2 cap])):=by
  intro W hW
  have k0:=(hW.block _ (Array.getElem?_eq_some_iff.1 HK4.out).1).trans HK4.out
  have k1:=(hW.block _ (Array.getElem?_eq_some_iff.1 HK3.out).1).trans HK3.out
  exact ⟨⟨⟨Jc k0 0,Jc k0 1,Jc k0 2,Jc k0 3⟩,Jc k1 0,Jc k1 1,Jc k1 2,Jc k1 3⟩,HR.out.below (HB3.out.trans (hW.mono HB3.out.size)),HP3.out.up hW hW.size⟩
 clear HK3 HK4 HP3
 go_wp2_with fail
 refine (z5d W3 (HH.out _ (Below.refl _ _)).2.1).mono ?_
 rintro e w4 ⟨rfl,hb4⟩
 have HB4:=Jh hb4
 clear hb4
 obtain ⟨⟨⟨a0,a1,a2,a3⟩,b0,b1,b2,b3⟩,HRW,HPW⟩:=HH.out _ HB4.out
 replace HRW:=Jh HRW
 replace HPW:=Jh HPW
 go_wp2_with fail
 refine (z30 (n:=2) sC xC sC_cut sC_all z78 ofT_1 ofT_3 (z12 (by decide)) (z12 (by decide)) ((4,1,[(1,1)],[(1,0,[],[]),(1,0,[],[])]) : PT 2) _ false odd_is w4 HRW.out HPW.out (okT_cut _ _ _ (z12 (by decide)))).mono ?_
 rintro e w5 ⟨rfl,hb5⟩
 have HB5 : Hid (Below W3.heap.size W3 w5):=belS HB4.out hb5
 clear hb5 HB4 HRW HPW a0 a1 a2 a3 b0 b1 b2 b3
 obtain ⟨⟨⟨a0,a1,a2,a3⟩,b0,b1,b2,b3⟩,HRW,HPW⟩:=HH.out _ HB5.out
 replace HRW:=Jh HRW
 replace HPW:=Jh HPW
 go_wp2_with fail
 refine (z30 (n:=1) sP xP sP_cut sP_all z9t ofT_0 ofT_2 (z12 (by decide)) (z12 (by decide)) ((1,0,[],[]) : PT 1) _ true (one_is (by decide) (by decide) _ (by decide +kernel)) w5 HRW.out prep_one za9).mono ?_
 rintro e w6 ⟨rfl,hb6⟩
 have HB6 : Hid (Below W3.heap.size W3 w6):=belS HB5.out hb6
 clear hb6 HB5 HRW HPW a0 a1 a2 a3 b0 b1 b2 b3
 obtain ⟨⟨⟨a0,a1,a2,a3⟩,b0,b1,b2,b3⟩,HRW,HPW⟩:=HH.out _ HB6.out
 replace HRW:=Jh HRW
 replace HPW:=Jh HPW
 go_wp2_with fail
 refine (z30 (n:=1) sP xP sP_cut sP_all z9t ofT_0 ofT_4 (z12 (by decide)) (z12 (by decide)) ((1,0,[],[]) : PT 1) _ false (one_is (by decide) (by decide) _ (by decide +kernel)) w6 HRW.out prep_one za9).mono ?_
 rintro e w7 ⟨rfl,hb7⟩
 have HB7 : Hid (Below W3.heap.size W3 w7):=belS HB6.out hb7
 clear hb7 HB6 HRW HPW a0 a1 a2 a3 b0 b1 b2 b3
 obtain ⟨⟨⟨a0,a1,a2,a3⟩,b0,b1,b2,b3⟩,HRW,HPW⟩:=HH.out _ HB7.out
 replace HRW:=Jh HRW
 replace HPW:=Jh HPW
 go_wp2_with fail
 refine (z30 (n:=1) sP xP sP_cut sP_all z9t ofT_2 ofT_2 (z12 (by decide)) (z12 (by decide)) ((1,0,[],[]) : PT 1) _ false (one_is (by decide) (by decide) _ (by decide +kernel)) w7 HRW.out prep_one za9).mono ?_
 rintro e w8 ⟨rfl,hb8⟩
 have HB8 : Hid (Below W3.heap.size W3 w8):=belS HB7.out hb8
 clear hb8 HB7 HRW HPW a0 a1 a2 a3 b0 b1 b2 b3
 go_wp2_with fail
 refine (z7y ofT_2 w8).mono ?_
 rintro e w9 ⟨v9,rfl,hb9,hp9⟩
 have HB9 : Hid (Below W3.heap.size W3 w9):=belS HB8.out hb9
 have HP9:=Jh hp9
 clear hb9 hp9 HB8
 go_wp2_with fail
 refine (z7l 2 (cutT 1 1) v9 w9 w9.heap.size HP9.out (Nat.le_refl _)).mono ?_
 rw [show z0t 2 (cutT 1 1) = 3 by kernel_rfl]
 rintro e w10 ⟨rfl,hb10⟩
 have HB10 : Hid (Below W3.heap.size W3 w10):=belS HB9.out hb10
 clear hb10
 go_wp2_with fail
 all_goals go_ret
 all_goals exact ⟨rfl,HB3.out.trans (HB10.out.mono HB3.out.size)⟩
end Go.Proofs.YtockinpjfhhkoaaGreatDoor
