/- Fractions made of halves; point; cut. (Printed by gen_wca.py.) -/
import Derived.Deep.RegionHeld
import Derived.Deep.Cut
import Derived.LoopTactic
import Derived.Test.YtockinpjfhhkoaaGreatDoorZ42
set_option maxRecDepth 100000
set_option maxHeartbeats 16000000
open List renaming setIfInBounds_toArray → J1, set_cons_zero → J2, set_cons_succ → J3, getElem_toArray → J4, getElem_cons_zero → J5, getElem_cons_succ → J6
open Go.Lib renaming cell_of_heap → Jc, frozen_of_heap → Jf, hid → Jh
open Go.AllReadyH renaming cons → Jd, nil → Je
open Go renaming wpAnyH_ready → Jr
namespace Go.Proofs.YtockinpjfhhkoaaGreatDoor
open Go.RowKit
theorem low125_0 (w : World) : Calls Tryz.prog 125 #[.int .i64 0,.int .i64 2] w fun e w' => e = .returned (.tuple #[.agg #[.int .i64 0,.int .i64 1],.int .i64 0]) ∧ Below w.heap.size w w':=by
 have H1:=fun W => Jh ((z1y 0 W (by omega) (by omega)).mono fun e w' h => (⟨h.1,h.2 ▸ Below.refl _ _⟩ : e = .returned (.int .u64 0) ∧ Below W.heap.size W w'))
 have H2:=fun W => Jh ((z3r 0 2 W (by omega) (by omega)).mono fun e w' h => (⟨h.1,h.2⟩ : e = .returned (.int .u64 2) ∧ Below W.heap.size W w'))
 have H3:=fun W => Jh ((z1p 0 1 W ⟨by omega,by omega⟩).mono fun e w' h => (⟨h.1,h.2⟩ : e = .returned (.int .i64 0) ∧ Below W.heap.size W w'))
 obtain ⟨WB,hWWB⟩ : ∃ WB,WB = w.alloc (.cells #[.int .i64 0,.int .i64 0] 50):=⟨_,rfl⟩
 have hbWB : Below w.heap.size w WB:=by rw [hWWB]; exact z08 _ _
 have hx0 : WB.heap[w.heap.size]? = some (.cells #[.int .i64 0,.int .i64 0] 50 (0,0)):=by rw [hWWB]; exact z01 rfl
 have HX : Hid (∀ W,Below WB.heap.size WB W → W.heap[w.heap.size]? = some (.cells #[.int .i64 0,.int .i64 0] 50 (0,0))):=fun W hW => (hW.block _ (Array.getElem?_eq_some_iff.1 hx0).1).trans hx0
 have HF : Hid (∀ W,Below WB.heap.size WB W → W.cell? ⟨w.heap.size,0,none⟩ = some (.int .i64 0) ∧ W.cell? ⟨w.heap.size,1,none⟩ = some (.int .i64 0) ∧ W.frozen? ⟨w.heap.size,0,none⟩ = false ∧ W.frozen? ⟨w.heap.size,1,none⟩ = false ∧ w.heap.size < W.heap.size):=by
  intro W hW
  have k0:=HX.out W hW
  exact ⟨Jc k0 0,Jc k0 1,Jf k0 0,Jf k0 1,(Array.getElem?_eq_some_iff.1 k0).1⟩
 have HBB:=Jh hbWB
 have HWB:=Jh hWWB.symm
 clear hWWB hbWB hx0
 go_enter Tryz.func125,Tryz.ntmps125
 go_upto_region 1 with fail
 rw [HWB.out]
 clear HWB
 go_upto_region 2 with fail
 refine (H1 _).out.mono ?_
 rintro e w1 ⟨rfl,hb1⟩
 have HB1:=Jh hb1
 clear hb1
 go_upto_region 2 with fail
 refine (H2 _).out.mono ?_
 rintro e w2 ⟨rfl,hb2⟩
 have HB2:=Jh (HB1.out.trans (hb2.mono HB1.out.size))
 clear hb2 HB1
 go_upto_region 2 with fail
 refine wp_region_held_drew (S:=fun _ => True) (by kernel_rfl) trivial (fun hHeld => ?_)
 refine z00 (f:=2) (by kernel_rfl) (by assumption) [(0,true),(1,true),(2,true),(3,true),(4,true),(5,true),(6,true)] rfl (by kernel_rfl) ?_
 repeat (refine SeqH.take (v:=?_) rfl (fun _ _ _ h => h) (by kernel_rfl) ?_ ?_; rotate_left; (· (intro w hSw; (try dsimp only at hSw); go_simp) <;> with_reducible rfl); (try simp only [Act.put,J1,J2,J3,J4,J5,J6]))
 refine SeqH.nil ?_
 refine Jr (rs:=[7]) (by kernel_rfl) (by simp) ?_
 refine Jd rfl (fun K hK => ?_) Je
 go_simp
 refine hK.out _ _ trivial (fun hHeld => ?_)
 clear hK K
 try simp only [Act.put,J1,J2,J3,J4,J5,J6]
 refine Jr (rs:=[8]) (by kernel_rfl) (by simp) ?_
 refine Jd rfl (fun K hK => ?_) Je
 go_simp
 refine hK.out _ _ trivial (fun hHeld => ?_)
 clear hK K
 try simp only [Act.put,J1,J2,J3,J4,J5,J6]
 refine wpAnyH_done (by kernel_rfl) ?_ _
 clear hHeld
 go_upto_region 3 with fail
 obtain ⟨W3,hW3⟩ : ∃ W3,W3 = (w2.alloc (.cells #[.int .i64 0,.int .i64 1] 50)).drew:=⟨_,rfl⟩
 have e0 : IntKind.i64.wrap 0 = 0:=by decide
 have e1 : IntKind.i64.wrap 1 = 1:=by decide
 simp only [e0,e1]
 rw [← hW3]
 have hb3 : Below w2.heap.size w2 W3:=by rw [hW3]; exact (z08 _ _).drew
 have k0 : W3.heap[w2.heap.size]? = some (.cells #[.int .i64 0,.int .i64 1] 50 (0,0)):=by rw [hW3]; exact z01 rfl
 have hd0 : W3.cell? ⟨w2.heap.size,0,none⟩ = some (.int .i64 0):=Jc k0 0
 have hd1 : W3.cell? ⟨w2.heap.size,1,none⟩ = some (.int .i64 1):=Jc k0 1
 have HB3:=Jh (HB2.out.trans (hb3.mono HB2.out.size))
 have HK:=Jh k0
 clear e0 e1 hW3 hb3 k0 HB2
 go_upto_region 4 with fail
 refine (H3 _).out.mono ?_
 rintro e w4 ⟨rfl,hb4⟩
 have hk4:=(hb4.block _ (Array.getElem?_eq_some_iff.1 HK.out).1).trans HK.out
 have hd0' : w4.cell? ⟨w2.heap.size,0,none⟩ = some (.int .i64 0):=Jc hk4 0
 have hd1' : w4.cell? ⟨w2.heap.size,1,none⟩ = some (.int .i64 1):=Jc hk4 1
 have HB4:=Jh (HB3.out.trans (hb4.mono HB3.out.size))
 clear hb4 hk4 HK hd0 hd1
 obtain ⟨xf0,xf1,xf2,xf3,xf4⟩:=HF.out w4 (HB4.out)
 go_wp2_with fail
 refine bodyPost_ret (z0g rfl _ _ _ _ _ _ _ _ rfl rfl (z32 (HX.out _ HB4.out) _ _) Tryz.underlying50 rfl (by kernel_rfl)) rfl ?_
 exact ⟨rfl,z1w (HBB.out.trans (HB4.out.mono HBB.out.size)) (Nat.le_refl _) _ _⟩
theorem of64_0 (w : World) : Calls Tryz.prog 64 #[.int .i64 0,.int .i64 2] w fun e w' => e = .returned (.tuple #[.agg #[.int .i64 0,.int .i64 1],.int .i64 0]) ∧ Below w.heap.size w w':=by
 have H1:=fun W => Jh (low125_0 W)
 obtain ⟨WB,hWWB⟩ : ∃ WB,WB = w.alloc (.cells #[.int .i64 0,.int .i64 0] 50):=⟨_,rfl⟩
 have hbWB : Below w.heap.size w WB:=by rw [hWWB]; exact z08 _ _
 have hx0 : WB.heap[w.heap.size]? = some (.cells #[.int .i64 0,.int .i64 0] 50 (0,0)):=by rw [hWWB]; exact z01 rfl
 have HX : Hid (∀ W,Below WB.heap.size WB W → W.heap[w.heap.size]? = some (.cells #[.int .i64 0,.int .i64 0] 50 (0,0))):=fun W hW => (hW.block _ (Array.getElem?_eq_some_iff.1 hx0).1).trans hx0
 have HF : Hid (∀ W,Below WB.heap.size WB W → W.cell? ⟨w.heap.size,0,none⟩ = some (.int .i64 0) ∧ W.cell? ⟨w.heap.size,1,none⟩ = some (.int .i64 0) ∧ W.frozen? ⟨w.heap.size,0,none⟩ = false ∧ W.frozen? ⟨w.heap.size,1,none⟩ = false ∧ w.heap.size < W.heap.size):=by
  intro W hW
  have k0:=HX.out W hW
  exact ⟨Jc k0 0,Jc k0 1,Jf k0 0,Jf k0 1,(Array.getElem?_eq_some_iff.1 k0).1⟩
 have HBB:=Jh hbWB
 have HWB:=Jh hWWB.symm
 clear hWWB hbWB hx0
 go_enter Tryz.func64,Tryz.ntmps64
 go_upto_region 1 with fail
 rw [HWB.out]
 clear HWB
 go_wp2_with fail
 refine (H1 _).out.mono ?_
 rintro e w1 ⟨rfl,hb1⟩
 have HB1:=Jh hb1
 clear hb1
 obtain ⟨xf0,xf1,xf2,xf3,xf4⟩:=HF.out w1 (HB1.out)
 go_wp2_with fail
 refine bodyPost_ret (z0g rfl _ _ _ _ _ _ _ _ rfl rfl (z32 (HX.out _ HB1.out) _ _) Tryz.underlying50 rfl (by kernel_rfl)) rfl ?_
 exact ⟨rfl,z1w (HBB.out.trans (HB1.out.mono HBB.out.size)) (Nat.le_refl _) _ _⟩
theorem low125_1 (w : World) : Calls Tryz.prog 125 #[.int .i64 1,.int .i64 2] w fun e w' => e = .returned (.tuple #[.agg #[.int .i64 1,.int .i64 2],.int .i64 0]) ∧ Below w.heap.size w w':=by
 have H1:=fun W => Jh ((z1y 1 W (by omega) (by omega)).mono fun e w' h => (⟨h.1,h.2 ▸ Below.refl _ _⟩ : e = .returned (.int .u64 1) ∧ Below W.heap.size W w'))
 have H2:=fun W => Jh ((z3r 1 2 W (by omega) (by omega)).mono fun e w' h => (⟨h.1,h.2⟩ : e = .returned (.int .u64 1) ∧ Below W.heap.size W w'))
 have H3:=fun W => Jh ((z1p 1 2 W ⟨by omega,by omega⟩).mono fun e w' h => (⟨h.1,h.2⟩ : e = .returned (.int .i64 0) ∧ Below W.heap.size W w'))
 obtain ⟨WB,hWWB⟩ : ∃ WB,WB = w.alloc (.cells #[.int .i64 0,.int .i64 0] 50):=⟨_,rfl⟩
 have hbWB : Below w.heap.size w WB:=by rw [hWWB]; exact z08 _ _
 have hx0 : WB.heap[w.heap.size]? = some (.cells #[.int .i64 0,.int .i64 0] 50 (0,0)):=by rw [hWWB]; exact z01 rfl
 have HX : Hid (∀ W,Below WB.heap.size WB W → W.heap[w.heap.size]? = some (.cells #[.int .i64 0,.int .i64 0] 50 (0,0))):=fun W hW => (hW.block _ (Array.getElem?_eq_some_iff.1 hx0).1).trans hx0
 have HF : Hid (∀ W,Below WB.heap.size WB W → W.cell? ⟨w.heap.size,0,none⟩ = some (.int .i64 0) ∧ W.cell? ⟨w.heap.size,1,none⟩ = some (.int .i64 0) ∧ W.frozen? ⟨w.heap.size,0,none⟩ = false ∧ W.frozen? ⟨w.heap.size,1,none⟩ = false ∧ w.heap.size < W.heap.size):=by
  intro W hW
  have k0:=HX.out W hW
  exact ⟨Jc k0 0,Jc k0 1,Jf k0 0,Jf k0 1,(Array.getElem?_eq_some_iff.1 k0).1⟩
 have HBB:=Jh hbWB
 have HWB:=Jh hWWB.symm
 clear hWWB hbWB hx0
 go_enter Tryz.func125,Tryz.ntmps125
 go_upto_region 1 with fail
 rw [HWB.out]
 clear HWB
 go_upto_region 2 with fail
 refine (H1 _).out.mono ?_
 rintro e w1 ⟨rfl,hb1⟩
 have HB1:=Jh hb1
 clear hb1
 go_upto_region 2 with fail
 refine (H2 _).out.mono ?_
 rintro e w2 ⟨rfl,hb2⟩
 have HB2:=Jh (HB1.out.trans (hb2.mono HB1.out.size))
 clear hb2 HB1
 go_upto_region 2 with fail
 refine wp_region_held_drew (S:=fun _ => True) (by kernel_rfl) trivial (fun hHeld => ?_)
 refine z00 (f:=2) (by kernel_rfl) (by assumption) [(0,true),(1,true),(2,true),(3,true),(4,true),(5,true),(6,true)] rfl (by kernel_rfl) ?_
 repeat (refine SeqH.take (v:=?_) rfl (fun _ _ _ h => h) (by kernel_rfl) ?_ ?_; rotate_left; (· (intro w hSw; (try dsimp only at hSw); go_simp) <;> with_reducible rfl); (try simp only [Act.put,J1,J2,J3,J4,J5,J6]))
 refine SeqH.nil ?_
 refine Jr (rs:=[7]) (by kernel_rfl) (by simp) ?_
 refine Jd rfl (fun K hK => ?_) Je
 go_simp
 refine hK.out _ _ trivial (fun hHeld => ?_)
 clear hK K
 try simp only [Act.put,J1,J2,J3,J4,J5,J6]
 refine Jr (rs:=[8]) (by kernel_rfl) (by simp) ?_
 refine Jd rfl (fun K hK => ?_) Je
 go_simp
 refine hK.out _ _ trivial (fun hHeld => ?_)
 clear hK K
 try simp only [Act.put,J1,J2,J3,J4,J5,J6]
 refine wpAnyH_done (by kernel_rfl) ?_ _
 clear hHeld
 go_upto_region 3 with fail
 obtain ⟨W3,hW3⟩ : ∃ W3,W3 = (w2.alloc (.cells #[.int .i64 1,.int .i64 2] 50)).drew:=⟨_,rfl⟩
 have e0 : IntKind.i64.wrap 1 = 1:=by decide
 have e1 : IntKind.i64.wrap 2 = 2:=by decide
 simp only [e0,e1]
 rw [← hW3]
 have hb3 : Below w2.heap.size w2 W3:=by rw [hW3]; exact (z08 _ _).drew
 have k0 : W3.heap[w2.heap.size]? = some (.cells #[.int .i64 1,.int .i64 2] 50 (0,0)):=by rw [hW3]; exact z01 rfl
 have hd0 : W3.cell? ⟨w2.heap.size,0,none⟩ = some (.int .i64 1):=Jc k0 0
 have hd1 : W3.cell? ⟨w2.heap.size,1,none⟩ = some (.int .i64 2):=Jc k0 1
 have HB3:=Jh (HB2.out.trans (hb3.mono HB2.out.size))
 have HK:=Jh k0
 clear e0 e1 hW3 hb3 k0 HB2
 go_upto_region 4 with fail
 refine (H3 _).out.mono ?_
 rintro e w4 ⟨rfl,hb4⟩
 have hk4:=(hb4.block _ (Array.getElem?_eq_some_iff.1 HK.out).1).trans HK.out
 have hd0' : w4.cell? ⟨w2.heap.size,0,none⟩ = some (.int .i64 1):=Jc hk4 0
 have hd1' : w4.cell? ⟨w2.heap.size,1,none⟩ = some (.int .i64 2):=Jc hk4 1
 have HB4:=Jh (HB3.out.trans (hb4.mono HB3.out.size))
 clear hb4 hk4 HK hd0 hd1
 obtain ⟨xf0,xf1,xf2,xf3,xf4⟩:=HF.out w4 (HB4.out)
 go_wp2_with fail
 refine bodyPost_ret (z0g rfl _ _ _ _ _ _ _ _ rfl rfl (z32 (HX.out _ HB4.out) _ _) Tryz.underlying50 rfl (by kernel_rfl)) rfl ?_
 exact ⟨rfl,z1w (HBB.out.trans (HB4.out.mono HBB.out.size)) (Nat.le_refl _) _ _⟩
theorem of64_1 (w : World) : Calls Tryz.prog 64 #[.int .i64 1,.int .i64 2] w fun e w' => e = .returned (.tuple #[.agg #[.int .i64 1,.int .i64 2],.int .i64 0]) ∧ Below w.heap.size w w':=by
 have H1:=fun W => Jh (low125_1 W)
 obtain ⟨WB,hWWB⟩ : ∃ WB,WB = w.alloc (.cells #[.int .i64 0,.int .i64 0] 50):=⟨_,rfl⟩
 have hbWB : Below w.heap.size w WB:=by rw [hWWB]; exact z08 _ _
 have hx0 : WB.heap[w.heap.size]? = some (.cells #[.int .i64 0,.int .i64 0] 50 (0,0)):=by rw [hWWB]; exact z01 rfl
 have HX : Hid (∀ W,Below WB.heap.size WB W → W.heap[w.heap.size]? = some (.cells #[.int .i64 0,.int .i64 0] 50 (0,0))):=fun W hW => (hW.block _ (Array.getElem?_eq_some_iff.1 hx0).1).trans hx0
 have HF : Hid (∀ W,Below WB.heap.size WB W → W.cell? ⟨w.heap.size,0,none⟩ = some (.int .i64 0) ∧ W.cell? ⟨w.heap.size,1,none⟩ = some (.int .i64 0) ∧ W.frozen? ⟨w.heap.size,0,none⟩ = false ∧ W.frozen? ⟨w.heap.size,1,none⟩ = false ∧ w.heap.size < W.heap.size):=by
  intro W hW
  have k0:=HX.out W hW
  exact ⟨Jc k0 0,Jc k0 1,Jf k0 0,Jf k0 1,(Array.getElem?_eq_some_iff.1 k0).1⟩
 have HBB:=Jh hbWB
 have HWB:=Jh hWWB.symm
 clear hWWB hbWB hx0
 go_enter Tryz.func64,Tryz.ntmps64
 go_upto_region 1 with fail
 rw [HWB.out]
 clear HWB
 go_wp2_with fail
 refine (H1 _).out.mono ?_
 rintro e w1 ⟨rfl,hb1⟩
 have HB1:=Jh hb1
 clear hb1
 obtain ⟨xf0,xf1,xf2,xf3,xf4⟩:=HF.out w1 (HB1.out)
 go_wp2_with fail
 refine bodyPost_ret (z0g rfl _ _ _ _ _ _ _ _ rfl rfl (z32 (HX.out _ HB1.out) _ _) Tryz.underlying50 rfl (by kernel_rfl)) rfl ?_
 exact ⟨rfl,z1w (HBB.out.trans (HB1.out.mono HBB.out.size)) (Nat.le_refl _) _ _⟩
theorem low125_2 (w : World) : Calls Tryz.prog 125 #[.int .i64 2,.int .i64 2] w fun e w' => e = .returned (.tuple #[.agg #[.int .i64 1,.int .i64 1],.int .i64 0]) ∧ Below w.heap.size w w':=by
 have H1:=fun W => Jh ((z1y 2 W (by omega) (by omega)).mono fun e w' h => (⟨h.1,h.2 ▸ Below.refl _ _⟩ : e = .returned (.int .u64 2) ∧ Below W.heap.size W w'))
 have H2:=fun W => Jh ((z3r 2 2 W (by omega) (by omega)).mono fun e w' h => (⟨h.1,h.2⟩ : e = .returned (.int .u64 2) ∧ Below W.heap.size W w'))
 have H3:=fun W => Jh ((z1p 1 1 W ⟨by omega,by omega⟩).mono fun e w' h => (⟨h.1,h.2⟩ : e = .returned (.int .i64 0) ∧ Below W.heap.size W w'))
 obtain ⟨WB,hWWB⟩ : ∃ WB,WB = w.alloc (.cells #[.int .i64 0,.int .i64 0] 50):=⟨_,rfl⟩
 have hbWB : Below w.heap.size w WB:=by rw [hWWB]; exact z08 _ _
 have hx0 : WB.heap[w.heap.size]? = some (.cells #[.int .i64 0,.int .i64 0] 50 (0,0)):=by rw [hWWB]; exact z01 rfl
 have HX : Hid (∀ W,Below WB.heap.size WB W → W.heap[w.heap.size]? = some (.cells #[.int .i64 0,.int .i64 0] 50 (0,0))):=fun W hW => (hW.block _ (Array.getElem?_eq_some_iff.1 hx0).1).trans hx0
 have HF : Hid (∀ W,Below WB.heap.size WB W → W.cell? ⟨w.heap.size,0,none⟩ = some (.int .i64 0) ∧ W.cell? ⟨w.heap.size,1,none⟩ = some (.int .i64 0) ∧ W.frozen? ⟨w.heap.size,0,none⟩ = false ∧ W.frozen? ⟨w.heap.size,1,none⟩ = false ∧ w.heap.size < W.heap.size):=by
  intro W hW
  have k0:=HX.out W hW
  exact ⟨Jc k0 0,Jc k0 1,Jf k0 0,Jf k0 1,(Array.getElem?_eq_some_iff.1 k0).1⟩
 have HBB:=Jh hbWB
 have HWB:=Jh hWWB.symm
 clear hWWB hbWB hx0
 go_enter Tryz.func125,Tryz.ntmps125
 go_upto_region 1 with fail
 rw [HWB.out]
 clear HWB
 go_upto_region 2 with fail
 refine (H1 _).out.mono ?_
 rintro e w1 ⟨rfl,hb1⟩
 have HB1:=Jh hb1
 clear hb1
 go_upto_region 2 with fail
 refine (H2 _).out.mono ?_
 rintro e w2 ⟨rfl,hb2⟩
 have HB2:=Jh (HB1.out.trans (hb2.mono HB1.out.size))
 clear hb2 HB1
 go_upto_region 2 with fail
 refine wp_region_held_drew (S:=fun _ => True) (by kernel_rfl) trivial (fun hHeld => ?_)
 refine z00 (f:=2) (by kernel_rfl) (by assumption) [(0,true),(1,true),(2,true),(3,true),(4,true),(5,true),(6,true)] rfl (by kernel_rfl) ?_
 repeat (refine SeqH.take (v:=?_) rfl (fun _ _ _ h => h) (by kernel_rfl) ?_ ?_; rotate_left; (· (intro w hSw; (try dsimp only at hSw); go_simp) <;> with_reducible rfl); (try simp only [Act.put,J1,J2,J3,J4,J5,J6]))
 refine SeqH.nil ?_
 refine Jr (rs:=[7]) (by kernel_rfl) (by simp) ?_
 refine Jd rfl (fun K hK => ?_) Je
 go_simp
 refine hK.out _ _ trivial (fun hHeld => ?_)
 clear hK K
 try simp only [Act.put,J1,J2,J3,J4,J5,J6]
 refine Jr (rs:=[8]) (by kernel_rfl) (by simp) ?_
 refine Jd rfl (fun K hK => ?_) Je
 go_simp
 refine hK.out _ _ trivial (fun hHeld => ?_)
 clear hK K
 try simp only [Act.put,J1,J2,J3,J4,J5,J6]
 refine wpAnyH_done (by kernel_rfl) ?_ _
 clear hHeld
 go_upto_region 3 with fail
 obtain ⟨W3,hW3⟩ : ∃ W3,W3 = (w2.alloc (.cells #[.int .i64 1,.int .i64 1] 50)).drew:=⟨_,rfl⟩
 have e0 : IntKind.i64.wrap 1 = 1:=by decide
 have e1 : IntKind.i64.wrap 1 = 1:=by decide
 simp only [e0]
 rw [← hW3]
 have hb3 : Below w2.heap.size w2 W3:=by rw [hW3]; exact (z08 _ _).drew
 have k0 : W3.heap[w2.heap.size]? = some (.cells #[.int .i64 1,.int .i64 1] 50 (0,0)):=by rw [hW3]; exact z01 rfl
 have hd0 : W3.cell? ⟨w2.heap.size,0,none⟩ = some (.int .i64 1):=Jc k0 0
 have hd1 : W3.cell? ⟨w2.heap.size,1,none⟩ = some (.int .i64 1):=Jc k0 1
 have HB3:=Jh (HB2.out.trans (hb3.mono HB2.out.size))
 have HK:=Jh k0
 clear e0 e1 hW3 hb3 k0 HB2
 go_upto_region 4 with fail
 refine (H3 _).out.mono ?_
 rintro e w4 ⟨rfl,hb4⟩
 have hk4:=(hb4.block _ (Array.getElem?_eq_some_iff.1 HK.out).1).trans HK.out
 have hd0' : w4.cell? ⟨w2.heap.size,0,none⟩ = some (.int .i64 1):=Jc hk4 0
 have hd1' : w4.cell? ⟨w2.heap.size,1,none⟩ = some (.int .i64 1):=Jc hk4 1
 have HB4:=Jh (HB3.out.trans (hb4.mono HB3.out.size))
 clear hb4 hk4 HK hd0 hd1
 obtain ⟨xf0,xf1,xf2,xf3,xf4⟩:=HF.out w4 (HB4.out)
 go_wp2_with fail
 refine bodyPost_ret (z0g rfl _ _ _ _ _ _ _ _ rfl rfl (z32 (HX.out _ HB4.out) _ _) Tryz.underlying50 rfl (by kernel_rfl)) rfl ?_
 exact ⟨rfl,z1w (HBB.out.trans (HB4.out.mono HBB.out.size)) (Nat.le_refl _) _ _⟩
theorem of64_2 (w : World) : Calls Tryz.prog 64 #[.int .i64 2,.int .i64 2] w fun e w' => e = .returned (.tuple #[.agg #[.int .i64 1,.int .i64 1],.int .i64 0]) ∧ Below w.heap.size w w':=by
 have H1:=fun W => Jh (low125_2 W)
 obtain ⟨WB,hWWB⟩ : ∃ WB,WB = w.alloc (.cells #[.int .i64 0,.int .i64 0] 50):=⟨_,rfl⟩
 have hbWB : Below w.heap.size w WB:=by rw [hWWB]; exact z08 _ _
 have hx0 : WB.heap[w.heap.size]? = some (.cells #[.int .i64 0,.int .i64 0] 50 (0,0)):=by rw [hWWB]; exact z01 rfl
 have HX : Hid (∀ W,Below WB.heap.size WB W → W.heap[w.heap.size]? = some (.cells #[.int .i64 0,.int .i64 0] 50 (0,0))):=fun W hW => (hW.block _ (Array.getElem?_eq_some_iff.1 hx0).1).trans hx0
 have HF : Hid (∀ W,Below WB.heap.size WB W → W.cell? ⟨w.heap.size,0,none⟩ = some (.int .i64 0) ∧ W.cell? ⟨w.heap.size,1,none⟩ = some (.int .i64 0) ∧ W.frozen? ⟨w.heap.size,0,none⟩ = false ∧ W.frozen? ⟨w.heap.size,1,none⟩ = false ∧ w.heap.size < W.heap.size):=by
  intro W hW
  have k0:=HX.out W hW
  exact ⟨Jc k0 0,Jc k0 1,Jf k0 0,Jf k0 1,(Array.getElem?_eq_some_iff.1 k0).1⟩
 have HBB:=Jh hbWB
 have HWB:=Jh hWWB.symm
 clear hWWB hbWB hx0
 go_enter Tryz.func64,Tryz.ntmps64
 go_upto_region 1 with fail
 rw [HWB.out]
 clear HWB
 go_wp2_with fail
 refine (H1 _).out.mono ?_
 rintro e w1 ⟨rfl,hb1⟩
 have HB1:=Jh hb1
 clear hb1
 obtain ⟨xf0,xf1,xf2,xf3,xf4⟩:=HF.out w1 (HB1.out)
 go_wp2_with fail
 refine bodyPost_ret (z0g rfl _ _ _ _ _ _ _ _ rfl rfl (z32 (HX.out _ HB1.out) _ _) Tryz.underlying50 rfl (by kernel_rfl)) rfl ?_
 exact ⟨rfl,z1w (HBB.out.trans (HB1.out.mono HBB.out.size)) (Nat.le_refl _) _ _⟩
theorem low125_3 (w : World) : Calls Tryz.prog 125 #[.int .i64 3,.int .i64 2] w fun e w' => e = .returned (.tuple #[.agg #[.int .i64 3,.int .i64 2],.int .i64 0]) ∧ Below w.heap.size w w':=by
 have H1:=fun W => Jh ((z1y 3 W (by omega) (by omega)).mono fun e w' h => (⟨h.1,h.2 ▸ Below.refl _ _⟩ : e = .returned (.int .u64 3) ∧ Below W.heap.size W w'))
 have H2:=fun W => Jh ((z3r 3 2 W (by omega) (by omega)).mono fun e w' h => (⟨h.1,h.2⟩ : e = .returned (.int .u64 1) ∧ Below W.heap.size W w'))
 have H3:=fun W => Jh ((z1p 3 2 W ⟨by omega,by omega⟩).mono fun e w' h => (⟨h.1,h.2⟩ : e = .returned (.int .i64 0) ∧ Below W.heap.size W w'))
 obtain ⟨WB,hWWB⟩ : ∃ WB,WB = w.alloc (.cells #[.int .i64 0,.int .i64 0] 50):=⟨_,rfl⟩
 have hbWB : Below w.heap.size w WB:=by rw [hWWB]; exact z08 _ _
 have hx0 : WB.heap[w.heap.size]? = some (.cells #[.int .i64 0,.int .i64 0] 50 (0,0)):=by rw [hWWB]; exact z01 rfl
 have HX : Hid (∀ W,Below WB.heap.size WB W → W.heap[w.heap.size]? = some (.cells #[.int .i64 0,.int .i64 0] 50 (0,0))):=fun W hW => (hW.block _ (Array.getElem?_eq_some_iff.1 hx0).1).trans hx0
 have HF : Hid (∀ W,Below WB.heap.size WB W → W.cell? ⟨w.heap.size,0,none⟩ = some (.int .i64 0) ∧ W.cell? ⟨w.heap.size,1,none⟩ = some (.int .i64 0) ∧ W.frozen? ⟨w.heap.size,0,none⟩ = false ∧ W.frozen? ⟨w.heap.size,1,none⟩ = false ∧ w.heap.size < W.heap.size):=by
  intro W hW
  have k0:=HX.out W hW
  exact ⟨Jc k0 0,Jc k0 1,Jf k0 0,Jf k0 1,(Array.getElem?_eq_some_iff.1 k0).1⟩
 have HBB:=Jh hbWB
 have HWB:=Jh hWWB.symm
 clear hWWB hbWB hx0
 go_enter Tryz.func125,Tryz.ntmps125
 go_upto_region 1 with fail
 rw [HWB.out]
 clear HWB
 go_upto_region 2 with fail
 refine (H1 _).out.mono ?_
 rintro e w1 ⟨rfl,hb1⟩
 have HB1:=Jh hb1
 clear hb1
 go_upto_region 2 with fail
 refine (H2 _).out.mono ?_
 rintro e w2 ⟨rfl,hb2⟩
 have HB2:=Jh (HB1.out.trans (hb2.mono HB1.out.size))
 clear hb2 HB1
 go_upto_region 2 with fail
 refine wp_region_held_drew (S:=fun _ => True) (by kernel_rfl) trivial (fun hHeld => ?_)
 refine z00 (f:=2) (by kernel_rfl) (by assumption) [(0,true),(1,true),(2,true),(3,true),(4,true),(5,true),(6,true)] rfl (by kernel_rfl) ?_
 repeat (refine SeqH.take (v:=?_) rfl (fun _ _ _ h => h) (by kernel_rfl) ?_ ?_; rotate_left; (· (intro w hSw; (try dsimp only at hSw); go_simp) <;> with_reducible rfl); (try simp only [Act.put,J1,J2,J3,J4,J5,J6]))
 refine SeqH.nil ?_
 refine Jr (rs:=[7]) (by kernel_rfl) (by simp) ?_
 refine Jd rfl (fun K hK => ?_) Je
 go_simp
 refine hK.out _ _ trivial (fun hHeld => ?_)
 clear hK K
 try simp only [Act.put,J1,J2,J3,J4,J5,J6]
 refine Jr (rs:=[8]) (by kernel_rfl) (by simp) ?_
 refine Jd rfl (fun K hK => ?_) Je
 go_simp
 refine hK.out _ _ trivial (fun hHeld => ?_)
 clear hK K
 try simp only [Act.put,J1,J2,J3,J4,J5,J6]
 refine wpAnyH_done (by kernel_rfl) ?_ _
 clear hHeld
 go_upto_region 3 with fail
 obtain ⟨W3,hW3⟩ : ∃ W3,W3 = (w2.alloc (.cells #[.int .i64 3,.int .i64 2] 50)).drew:=⟨_,rfl⟩
 have e0 : IntKind.i64.wrap 3 = 3:=by decide
 have e1 : IntKind.i64.wrap 2 = 2:=by decide
 simp only [e0,e1]
 rw [← hW3]
 have hb3 : Below w2.heap.size w2 W3:=by rw [hW3]; exact (z08 _ _).drew
 have k0 : W3.heap[w2.heap.size]? = some (.cells #[.int .i64 3,.int .i64 2] 50 (0,0)):=by rw [hW3]; exact z01 rfl
 have hd0 : W3.cell? ⟨w2.heap.size,0,none⟩ = some (.int .i64 3):=Jc k0 0
 have hd1 : W3.cell? ⟨w2.heap.size,1,none⟩ = some (.int .i64 2):=Jc k0 1
 have HB3:=Jh (HB2.out.trans (hb3.mono HB2.out.size))
 have HK:=Jh k0
 clear e0 e1 hW3 hb3 k0 HB2
 go_upto_region 4 with fail
 refine (H3 _).out.mono ?_
 rintro e w4 ⟨rfl,hb4⟩
 have hk4:=(hb4.block _ (Array.getElem?_eq_some_iff.1 HK.out).1).trans HK.out
 have hd0' : w4.cell? ⟨w2.heap.size,0,none⟩ = some (.int .i64 3):=Jc hk4 0
 have hd1' : w4.cell? ⟨w2.heap.size,1,none⟩ = some (.int .i64 2):=Jc hk4 1
 have HB4:=Jh (HB3.out.trans (hb4.mono HB3.out.size))
 clear hb4 hk4 HK hd0 hd1
 obtain ⟨xf0,xf1,xf2,xf3,xf4⟩:=HF.out w4 (HB4.out)
 go_wp2_with fail
 refine bodyPost_ret (z0g rfl _ _ _ _ _ _ _ _ rfl rfl (z32 (HX.out _ HB4.out) _ _) Tryz.underlying50 rfl (by kernel_rfl)) rfl ?_
 exact ⟨rfl,z1w (HBB.out.trans (HB4.out.mono HBB.out.size)) (Nat.le_refl _) _ _⟩
theorem of64_3 (w : World) : Calls Tryz.prog 64 #[.int .i64 3,.int .i64 2] w fun e w' => e = .returned (.tuple #[.agg #[.int .i64 3,.int .i64 2],.int .i64 0]) ∧ Below w.heap.size w w':=by
 have H1:=fun W => Jh (low125_3 W)
 obtain ⟨WB,hWWB⟩ : ∃ WB,WB = w.alloc (.cells #[.int .i64 0,.int .i64 0] 50):=⟨_,rfl⟩
 have hbWB : Below w.heap.size w WB:=by rw [hWWB]; exact z08 _ _
 have hx0 : WB.heap[w.heap.size]? = some (.cells #[.int .i64 0,.int .i64 0] 50 (0,0)):=by rw [hWWB]; exact z01 rfl
 have HX : Hid (∀ W,Below WB.heap.size WB W → W.heap[w.heap.size]? = some (.cells #[.int .i64 0,.int .i64 0] 50 (0,0))):=fun W hW => (hW.block _ (Array.getElem?_eq_some_iff.1 hx0).1).trans hx0
 have HF : Hid (∀ W,Below WB.heap.size WB W → W.cell? ⟨w.heap.size,0,none⟩ = some (.int .i64 0) ∧ W.cell? ⟨w.heap.size,1,none⟩ = some (.int .i64 0) ∧ W.frozen? ⟨w.heap.size,0,none⟩ = false ∧ W.frozen? ⟨w.heap.size,1,none⟩ = false ∧ w.heap.size < W.heap.size):=by
  intro W hW
  have k0:=HX.out W hW
  exact ⟨Jc k0 0,Jc k0 1,Jf k0 0,Jf k0 1,(Array.getElem?_eq_some_iff.1 k0).1⟩
 have HBB:=Jh hbWB
 have HWB:=Jh hWWB.symm
 clear hWWB hbWB hx0
 go_enter Tryz.func64,Tryz.ntmps64
 go_upto_region 1 with fail
 rw [HWB.out]
 clear HWB
 go_wp2_with fail
 refine (H1 _).out.mono ?_
 rintro e w1 ⟨rfl,hb1⟩
 have HB1:=Jh hb1
 clear hb1
 obtain ⟨xf0,xf1,xf2,xf3,xf4⟩:=HF.out w1 (HB1.out)
 go_wp2_with fail
 refine bodyPost_ret (z0g rfl _ _ _ _ _ _ _ _ rfl rfl (z32 (HX.out _ HB1.out) _ _) Tryz.underlying50 rfl (by kernel_rfl)) rfl ?_
 exact ⟨rfl,z1w (HBB.out.trans (HB1.out.mono HBB.out.size)) (Nat.le_refl _) _ _⟩
theorem low125_4 (w : World) : Calls Tryz.prog 125 #[.int .i64 4,.int .i64 2] w fun e w' => e = .returned (.tuple #[.agg #[.int .i64 2,.int .i64 1],.int .i64 0]) ∧ Below w.heap.size w w':=by
 have H1:=fun W => Jh ((z1y 4 W (by omega) (by omega)).mono fun e w' h => (⟨h.1,h.2 ▸ Below.refl _ _⟩ : e = .returned (.int .u64 4) ∧ Below W.heap.size W w'))
 have H2:=fun W => Jh ((z3r 4 2 W (by omega) (by omega)).mono fun e w' h => (⟨h.1,h.2⟩ : e = .returned (.int .u64 2) ∧ Below W.heap.size W w'))
 have H3:=fun W => Jh ((z1p 2 1 W ⟨by omega,by omega⟩).mono fun e w' h => (⟨h.1,h.2⟩ : e = .returned (.int .i64 0) ∧ Below W.heap.size W w'))
 obtain ⟨WB,hWWB⟩ : ∃ WB,WB = w.alloc (.cells #[.int .i64 0,.int .i64 0] 50):=⟨_,rfl⟩
 have hbWB : Below w.heap.size w WB:=by rw [hWWB]; exact z08 _ _
 have hx0 : WB.heap[w.heap.size]? = some (.cells #[.int .i64 0,.int .i64 0] 50 (0,0)):=by rw [hWWB]; exact z01 rfl
 have HX : Hid (∀ W,Below WB.heap.size WB W → W.heap[w.heap.size]? = some (.cells #[.int .i64 0,.int .i64 0] 50 (0,0))):=fun W hW => (hW.block _ (Array.getElem?_eq_some_iff.1 hx0).1).trans hx0
 have HF : Hid (∀ W,Below WB.heap.size WB W → W.cell? ⟨w.heap.size,0,none⟩ = some (.int .i64 0) ∧ W.cell? ⟨w.heap.size,1,none⟩ = some (.int .i64 0) ∧ W.frozen? ⟨w.heap.size,0,none⟩ = false ∧ W.frozen? ⟨w.heap.size,1,none⟩ = false ∧ w.heap.size < W.heap.size):=by
  intro W hW
  have k0:=HX.out W hW
  exact ⟨Jc k0 0,Jc k0 1,Jf k0 0,Jf k0 1,(Array.getElem?_eq_some_iff.1 k0).1⟩
 have HBB:=Jh hbWB
 have HWB:=Jh hWWB.symm
 clear hWWB hbWB hx0
 go_enter Tryz.func125,Tryz.ntmps125
 go_upto_region 1 with fail
 rw [HWB.out]
 clear HWB
 go_upto_region 2 with fail
 refine (H1 _).out.mono ?_
 rintro e w1 ⟨rfl,hb1⟩
 have HB1:=Jh hb1
 clear hb1
 go_upto_region 2 with fail
 refine (H2 _).out.mono ?_
 rintro e w2 ⟨rfl,hb2⟩
 have HB2:=Jh (HB1.out.trans (hb2.mono HB1.out.size))
 clear hb2 HB1
 go_upto_region 2 with fail
 refine wp_region_held_drew (S:=fun _ => True) (by kernel_rfl) trivial (fun hHeld => ?_)
 refine z00 (f:=2) (by kernel_rfl) (by assumption) [(0,true),(1,true),(2,true),(3,true),(4,true),(5,true),(6,true)] rfl (by kernel_rfl) ?_
 repeat (refine SeqH.take (v:=?_) rfl (fun _ _ _ h => h) (by kernel_rfl) ?_ ?_; rotate_left; (· (intro w hSw; (try dsimp only at hSw); go_simp) <;> with_reducible rfl); (try simp only [Act.put,J1,J2,J3,J4,J5,J6]))
 refine SeqH.nil ?_
 refine Jr (rs:=[7]) (by kernel_rfl) (by simp) ?_
 refine Jd rfl (fun K hK => ?_) Je
 go_simp
 refine hK.out _ _ trivial (fun hHeld => ?_)
 clear hK K
 try simp only [Act.put,J1,J2,J3,J4,J5,J6]
 refine Jr (rs:=[8]) (by kernel_rfl) (by simp) ?_
 refine Jd rfl (fun K hK => ?_) Je
 go_simp
 refine hK.out _ _ trivial (fun hHeld => ?_)
 clear hK K
 try simp only [Act.put,J1,J2,J3,J4,J5,J6]
 refine wpAnyH_done (by kernel_rfl) ?_ _
 clear hHeld
 go_upto_region 3 with fail
 obtain ⟨W3,hW3⟩ : ∃ W3,W3 = (w2.alloc (.cells #[.int .i64 2,.int .i64 1] 50)).drew:=⟨_,rfl⟩
 have e0 : IntKind.i64.wrap 2 = 2:=by decide
 have e1 : IntKind.i64.wrap 1 = 1:=by decide
 simp only [e0,e1]
 rw [← hW3]
 have hb3 : Below w2.heap.size w2 W3:=by rw [hW3]; exact (z08 _ _).drew
 have k0 : W3.heap[w2.heap.size]? = some (.cells #[.int .i64 2,.int .i64 1] 50 (0,0)):=by rw [hW3]; exact z01 rfl
 have hd0 : W3.cell? ⟨w2.heap.size,0,none⟩ = some (.int .i64 2):=Jc k0 0
 have hd1 : W3.cell? ⟨w2.heap.size,1,none⟩ = some (.int .i64 1):=Jc k0 1
 have HB3:=Jh (HB2.out.trans (hb3.mono HB2.out.size))
 have HK:=Jh k0
 clear e0 e1 hW3 hb3 k0 HB2
 go_upto_region 4 with fail
 refine (H3 _).out.mono ?_
 rintro e w4 ⟨rfl,hb4⟩
 have hk4:=(hb4.block _ (Array.getElem?_eq_some_iff.1 HK.out).1).trans HK.out
 have hd0' : w4.cell? ⟨w2.heap.size,0,none⟩ = some (.int .i64 2):=Jc hk4 0
 have hd1' : w4.cell? ⟨w2.heap.size,1,none⟩ = some (.int .i64 1):=Jc hk4 1
 have HB4:=Jh (HB3.out.trans (hb4.mono HB3.out.size))
 clear hb4 hk4 HK hd0 hd1
 obtain ⟨xf0,xf1,xf2,xf3,xf4⟩:=HF.out w4 (HB4.out)
 go_wp2_with fail
 refine bodyPost_ret (z0g rfl _ _ _ _ _ _ _ _ rfl rfl (z32 (HX.out _ HB4.out) _ _) Tryz.underlying50 rfl (by kernel_rfl)) rfl ?_
 exact ⟨rfl,z1w (HBB.out.trans (HB4.out.mono HBB.out.size)) (Nat.le_refl _) _ _⟩
theorem of64_4 (w : World) : Calls Tryz.prog 64 #[.int .i64 4,.int .i64 2] w fun e w' => e = .returned (.tuple #[.agg #[.int .i64 2,.int .i64 1],.int .i64 0]) ∧ Below w.heap.size w w':=by
 have H1:=fun W => Jh (low125_4 W)
 obtain ⟨WB,hWWB⟩ : ∃ WB,WB = w.alloc (.cells #[.int .i64 0,.int .i64 0] 50):=⟨_,rfl⟩
 have hbWB : Below w.heap.size w WB:=by rw [hWWB]; exact z08 _ _
 have hx0 : WB.heap[w.heap.size]? = some (.cells #[.int .i64 0,.int .i64 0] 50 (0,0)):=by rw [hWWB]; exact z01 rfl
 have HX : Hid (∀ W,Below WB.heap.size WB W → W.heap[w.heap.size]? = some (.cells #[.int .i64 0,.int .i64 0] 50 (0,0))):=fun W hW => (hW.block _ (Array.getElem?_eq_some_iff.1 hx0).1).trans hx0
 have HF : Hid (∀ W,Below WB.heap.size WB W → W.cell? ⟨w.heap.size,0,none⟩ = some (.int .i64 0) ∧ W.cell? ⟨w.heap.size,1,none⟩ = some (.int .i64 0) ∧ W.frozen? ⟨w.heap.size,0,none⟩ = false ∧ W.frozen? ⟨w.heap.size,1,none⟩ = false ∧ w.heap.size < W.heap.size):=by
  intro W hW
  have k0:=HX.out W hW
  exact ⟨Jc k0 0,Jc k0 1,Jf k0 0,Jf k0 1,(Array.getElem?_eq_some_iff.1 k0).1⟩
 have HBB:=Jh hbWB
 have HWB:=Jh hWWB.symm
 clear hWWB hbWB hx0
 go_enter Tryz.func64,Tryz.ntmps64
 go_upto_region 1 with fail
 rw [HWB.out]
 clear HWB
 go_wp2_with fail
 refine (H1 _).out.mono ?_
 rintro e w1 ⟨rfl,hb1⟩
 have HB1:=Jh hb1
 clear hb1
 obtain ⟨xf0,xf1,xf2,xf3,xf4⟩:=HF.out w1 (HB1.out)
 go_wp2_with fail
 refine bodyPost_ret (z0g rfl _ _ _ _ _ _ _ _ rfl rfl (z32 (HX.out _ HB1.out) _ _) Tryz.underlying50 rfl (by kernel_rfl)) rfl ?_
 exact ⟨rfl,z1w (HBB.out.trans (HB1.out.mono HBB.out.size)) (Nat.le_refl _) _ _⟩
structure OfT (t n p : Int) : Prop where
 calls : ∀ w,Calls Tryz.prog 64 #[.int .i64 t,.int .i64 2] w fun e w' => e = .returned (.tuple #[.agg #[.int .i64 n,.int .i64 p],.int .i64 0]) ∧ Below w.heap.size w w'
theorem ofT_0 : OfT 0 0 1:=⟨of64_0⟩
theorem ofT_1 : OfT 1 1 2:=⟨of64_1⟩
theorem ofT_2 : OfT 2 1 1:=⟨of64_2⟩
theorem ofT_3 : OfT 3 3 2:=⟨of64_3⟩
theorem ofT_4 : OfT 4 2 1:=⟨of64_4⟩
end Go.Proofs.YtockinpjfhhkoaaGreatDoor
