/- Fractions walked: Check, checked. (Printed by gen_atk.py.) -/
import Derived.Test.YtockinpjfhhkoaaGreatDoorZ03
set_option maxRecDepth 100000
set_option maxHeartbeats 16000000
open List renaming setIfInBounds_toArray → J1, set_cons_zero → J2, set_cons_succ → J3, getElem_toArray → J4, getElem_cons_zero → J5, getElem_cons_succ → J6
open Go.Lib renaming cell_of_heap → Jc, hid → Jh
open Go.AllReadyH renaming cons → Jd, nil → Je
open Go renaming wpAnyH_ready → Jr
namespace Go.Proofs.YtockinpjfhhkoaaGreatDoor
open Go.RowKit
theorem z4a (a p : Int) (w : World) (ha : in64 a) : Calls Tryz.prog 52 #[.agg #[.int .i64 a,.int .i64 p]] w fun e w' => e = .returned (.int .i64 (ratE a p)) ∧ Below w.heap.size w w':=by
 obtain ⟨W1,hW1⟩ : ∃ W1,W1 = w.alloc (.cells #[.int .i64 a,.int .i64 p] 50):=⟨_,rfl⟩
 have hb1 : Below w.heap.size w W1:=by rw [hW1]; exact z0c _ _
 have hz1 : W1.heap.size = w.heap.size + 1:=by rw [hW1]; simp
 have hx1 : W1.heap[w.heap.size]? = some (.cells #[.int .i64 a,.int .i64 p] 50 (0,0)):=by rw [hW1]; exact z03 rfl
 have HX : Hid (∀ W,Below W1.heap.size W1 W → W.cell? ⟨w.heap.size,0,none⟩ = some (.int .i64 a) ∧ W.cell? ⟨w.heap.size,1,none⟩ = some (.int .i64 p) ∧ w.heap.size < W.heap.size):=by
  intro W hW
  have h1 : W.heap[w.heap.size]? = _:=(hW.block _ (by omega)).trans hx1
  exact ⟨Jc h1 0,Jc h1 1,(Array.getElem?_eq_some_iff.1 h1).1⟩
 have HB1:=Jh hb1
 have HW1:=Jh hW1.symm
 have HA:=Jh ha
 have hself : Below W1.heap.size W1 W1.drew:=(Below.refl _ _).drew
 have HS0 : Hid (W1.drew.cell? ⟨w.heap.size,0,none⟩ = some (.int .i64 a) ∧ W1.drew.cell? ⟨w.heap.size,1,none⟩ = some (.int .i64 p) ∧ w.heap.size < W1.drew.heap.size):=HX.out _ hself
 obtain ⟨x0,x1,xl⟩:=HX.out W1 (Below.refl _ _)
 clear hb1 hz1 hx1 hW1 ha
 by_cases hp : p < 1
 ·have d1 : decide (p < 1) = true:=by simpa using hp
  have HE : Hid (ratE a p = 8):=ratE_no (by rw [z42,decide_eq_false (by omega)]; rfl)
  rw [HE.out]
  clear hp
  go_enter Tryz.func52,Tryz.ntmps52
  go_upto_region 1 with fail
  rw [HW1.out]
  go_quiet (fail)
  go_wp2_with fail
  all_goals go_ret
  all_goals exact ⟨rfl,below_drewN HB1.out _⟩
 ·have d1 : decide (p < 1) = false:=by simpa using hp
  by_cases hp2 : 1048576 < p
  ·have d2 : decide (1048576 < p) = true:=by simpa using hp2
   have HE : Hid (ratE a p = 8):=ratE_no (by rw [z42,decide_eq_false (show ¬ p ≤ 1048576 by omega)]; simp)
   rw [HE.out]
   clear hp hp2
   go_enter Tryz.func52,Tryz.ntmps52
   go_upto_region 1 with fail
   rw [HW1.out]
   go_quiet (fail)
   go_wp2_with fail
   all_goals go_ret
   all_goals exact ⟨rfl,below_drewN HB1.out _⟩
  ·have d2 : decide (1048576 < p) = false:=by simpa using hp2
   have HWI:=Jh (within99_any a p W1.drew (by omega) (by omega) HA.out)
   have HP : Hid (1 ≤ p ∧ p ≤ 1048576):=⟨by omega,by omega⟩
   cases hwi : z1n a p with
   | false =>
    have HE : Hid (ratE a p = 8):=ratE_no (by rw [z42,hwi]; simp)
    rw [HE.out]
    rw [hwi] at HWI
    clear hwi hp hp2
    go_enter Tryz.func52,Tryz.ntmps52
    go_upto_region 1 with fail
    rw [HW1.out]
    refine wp_region_held_drew (S:=fun W => W.cell? ⟨w.heap.size,0,none⟩ = some (.int .i64 a) ∧ W.cell? ⟨w.heap.size,1,none⟩ = some (.int .i64 p) ∧ w.heap.size < W.heap.size) (by kernel_rfl) HS0.out (fun hHeld => ?_)
    refine wpAnyH_take (i:=0) (v:=?_) rfl (by kernel_rfl) (by kernel_rfl) (by kernel_rfl) (fun _ _ _ h => h) (Or.inl ⟨by kernel_rfl,?_⟩) (by assumption) ?_
    rotate_left
    ·(intro w hSw; (try dsimp only at hSw); go_simp)
     try with_reducible rfl
    try simp only [Act.put,J1,J2,J3,J4,J5]
    refine wpAnyH_take (i:=1) (v:=?_) rfl (by kernel_rfl) (by kernel_rfl) (by kernel_rfl) (fun _ _ _ h => h) (Or.inl ⟨by kernel_rfl,?_⟩) (by assumption) ?_
    rotate_left
    ·(intro w hSw; (try dsimp only at hSw); go_simp)
     try with_reducible rfl
    try simp only [Act.put,J1,J2,J3,J4,J5,J6]
    refine wpAnyH_take (i:=2) (v:=?_) rfl (by kernel_rfl) (by kernel_rfl) (by kernel_rfl) (fun _ _ _ h => h) (Or.inl ⟨by kernel_rfl,?_⟩) (by assumption) ?_
    rotate_left
    ·(intro w hSw; (try dsimp only at hSw); go_simp)
     try with_reducible rfl
    try simp only [Act.put,J1,J2,J3,J4,J5,J6]
    refine wpAnyH_take (i:=3) (v:=?_) rfl (by kernel_rfl) (by kernel_rfl) (by kernel_rfl) (fun _ _ _ h => h) (Or.inl ⟨by kernel_rfl,?_⟩) (by assumption) ?_
    rotate_left
    ·(intro w hSw; (try dsimp only at hSw); go_simp)
     try with_reducible rfl
    try simp only [Act.put,J1,J2,J3,J4,J5,J6]
    refine wpAnyH_take (i:=4) (v:=?_) rfl (by kernel_rfl) (by kernel_rfl) (by kernel_rfl) (fun _ _ _ h => h) (Or.inl ⟨by kernel_rfl,?_⟩) (by assumption) ?_
    rotate_left
    ·(intro w hSw; (try dsimp only at hSw); go_simp)
     try with_reducible rfl
    try simp only [Act.put,J1,J2,J3,J4,J5,J6]
    refine wpAnyH_take (i:=5) (v:=?_) rfl (by kernel_rfl) (by kernel_rfl) (by kernel_rfl) (fun _ _ _ h => h) (Or.inl ⟨by kernel_rfl,?_⟩) (by assumption) ?_
    rotate_left
    ·(intro w hSw; (try dsimp only at hSw); go_simp)
     try with_reducible rfl
    try simp only [Act.put,J1,J2,J3,J4,J5,J6]
    refine wpAnyH_take (i:=6) (v:=?_) rfl (by kernel_rfl) (by kernel_rfl) (by kernel_rfl) (fun _ _ _ h => h) (Or.inl ⟨by kernel_rfl,?_⟩) (by assumption) ?_
    rotate_left
    ·(intro w hSw; (try dsimp only at hSw); go_simp)
     try with_reducible rfl
    try simp only [Act.put,J1,J2,J3,J4,J5,J6]
    refine wpAnyH_take (i:=7) (v:=?_) rfl (by kernel_rfl) (by kernel_rfl) (by kernel_rfl) (fun _ _ _ h => h) (Or.inl ⟨by kernel_rfl,?_⟩) (by assumption) ?_
    rotate_left
    ·(intro w hSw; (try dsimp only at hSw); go_simp)
     try with_reducible rfl
    try simp only [Act.put,J1,J2,J3,J4,J5,J6]
    refine wpAnyH_take (i:=8) (v:=?_) rfl (by kernel_rfl) (by kernel_rfl) (by kernel_rfl) (fun _ _ _ h => h) (Or.inl ⟨by kernel_rfl,?_⟩) (by assumption) ?_
    rotate_left
    ·(intro w hSw; (try dsimp only at hSw); go_simp)
     try with_reducible rfl
    try simp only [Act.put,J1,J2,J3,J4,J5,J6]
    refine wpAnyH_take (i:=9) (v:=?_) rfl (by kernel_rfl) (by kernel_rfl) (by kernel_rfl) (fun _ _ _ h => h) (Or.inl ⟨by kernel_rfl,?_⟩) (by assumption) ?_
    rotate_left
    ·(intro w hSw; (try dsimp only at hSw); go_simp)
     try with_reducible rfl
    try simp only [Act.put,J1,J2,J3,J4,J5,J6]
    refine Jr (rs:=[10]) (by kernel_rfl) (by simp) ?_
    refine Jd rfl (fun K hK => ?_) Je
    go_simp
    go_at_call 99
    refine HWI.out.mono ?_
    rintro e wz ⟨rfl,hbz⟩
    have HBY : Hid (Below W1.heap.size W1 wz):=Below.trans (b:=W1.drew) hself hbz
    have HBZ : Hid (Below w.heap.size w wz):=HB1.out.trans (HBY.out.mono HB1.out.size)
    clear hbz
    try dsimp only
    refine hK.out _ _ (HX.out wz HBY.out) (fun hHeld => ?_)
    clear hK K
    try simp only [Act.put,J1,J2,J3,J4,J5,J6]
    refine wpAnyH_take (i:=11) (v:=?_) rfl (by kernel_rfl) (by kernel_rfl) (by kernel_rfl) (fun _ _ _ h => h) (Or.inl ⟨by kernel_rfl,?_⟩) (by assumption) ?_
    rotate_left
    ·(intro w hSw; (try dsimp only at hSw); go_simp)
     try with_reducible rfl
    try simp only [Act.put,J1,J2,J3,J4,J5,J6]
    refine wpAnyH_take (i:=12) (v:=?_) rfl (by kernel_rfl) (by kernel_rfl) (by kernel_rfl) (fun _ _ _ h => h) (Or.inl ⟨by kernel_rfl,?_⟩) (by assumption) ?_
    rotate_left
    ·(intro w hSw; (try dsimp only at hSw); go_simp)
     try with_reducible rfl
    try simp only [Act.put,J1,J2,J3,J4,J5,J6]
    refine wpAnyH_take (i:=13) (v:=?_) rfl (by kernel_rfl) (by kernel_rfl) (by kernel_rfl) (fun _ _ _ h => h) (Or.inl ⟨by kernel_rfl,?_⟩) (by assumption) ?_
    rotate_left
    ·(intro w hSw; (try dsimp only at hSw); go_simp)
     try with_reducible rfl
    try simp only [Act.put,J1,J2,J3,J4,J5,J6]
    refine wpAnyH_take (i:=14) (v:=undef) rfl (by kernel_rfl) (by kernel_rfl) (by kernel_rfl) (fun _ _ _ h => h) (Or.inr ⟨by kernel_rfl,rfl⟩) (by assumption) ?_
    try simp only [Act.put,J1,J2,J3,J4,J5,J6]
    refine wpAnyH_take (i:=15) (v:=undef) rfl (by kernel_rfl) (by kernel_rfl) (by kernel_rfl) (fun _ _ _ h => h) (Or.inr ⟨by kernel_rfl,rfl⟩) (by assumption) ?_
    try simp only [Act.put,J1,J2,J3,J4,J5,J6]
    refine wpAnyH_take (i:=16) (v:=undef) rfl (by kernel_rfl) (by kernel_rfl) (by kernel_rfl) (fun _ _ _ h => h) (Or.inr ⟨by kernel_rfl,rfl⟩) (by assumption) ?_
    try simp only [Act.put,J1,J2,J3,J4,J5,J6]
    refine wpAnyH_take (i:=17) (v:=undef) rfl (by kernel_rfl) (by kernel_rfl) (by kernel_rfl) (fun _ _ _ h => h) (Or.inr ⟨by kernel_rfl,rfl⟩) (by assumption) ?_
    try simp only [Act.put,J1,J2,J3,J4,J5,J6]
    refine wpAnyH_take (i:=18) (v:=undef) rfl (by kernel_rfl) (by kernel_rfl) (by kernel_rfl) (fun _ _ _ h => h) (Or.inr ⟨by kernel_rfl,rfl⟩) (by assumption) ?_
    try simp only [Act.put,J1,J2,J3,J4,J5,J6]
    refine wpAnyH_take (i:=19) (v:=undef) rfl (by kernel_rfl) (by kernel_rfl) (by kernel_rfl) (fun _ _ _ h => h) (Or.inr ⟨by kernel_rfl,rfl⟩) (by assumption) ?_
    try simp only [Act.put,J1,J2,J3,J4,J5,J6]
    refine wpAnyH_take (i:=20) (v:=undef) rfl (by kernel_rfl) (by kernel_rfl) (by kernel_rfl) (fun _ _ _ h => h) (Or.inr ⟨by kernel_rfl,rfl⟩) (by assumption) ?_
    try simp only [Act.put,J1,J2,J3,J4,J5,J6]
    refine wpAnyH_take (i:=21) (v:=undef) rfl (by kernel_rfl) (by kernel_rfl) (by kernel_rfl) (fun _ _ _ h => h) (Or.inr ⟨by kernel_rfl,rfl⟩) (by assumption) ?_
    try simp only [Act.put,J1,J2,J3,J4,J5,J6]
    refine wpAnyH_take (i:=22) (v:=?_) rfl (by kernel_rfl) (by kernel_rfl) (by kernel_rfl) (fun _ _ _ h => h) (Or.inl ⟨by kernel_rfl,?_⟩) (by assumption) ?_
    rotate_left
    ·(intro w hSw; (try dsimp only at hSw); go_simp)
     try with_reducible rfl
    try simp only [Act.put,J1,J2,J3,J4,J5,J6]
    refine wpAnyH_done (by kernel_rfl) ?_ _
    go_wp2_with fail
    all_goals go_ret
    all_goals exact ⟨rfl,HBZ.out⟩
   | true =>
    have hpn : IntKind.u64.wrap p = ((p.natAbs : Nat) : Int):=by rw [IntKind.wrap_u64]; omega
    obtain ⟨G,hG⟩ : ∃ G,Nat.gcd a.natAbs p.natAbs = G:=⟨_,rfl⟩
    have HGC : Hid (∀ W,Calls Tryz.prog 100 #[.int .u64 (a.natAbs : Nat),.int .u64 (p.natAbs : Nat)] W fun e w' => e = .returned (.int .u64 (G : Nat)) ∧ Below W.heap.size W w'):=by
     intro W
     have:=gcd100_any a.natAbs p.natAbs W (by have:=HA.out; unfold in64 at this; omega) (by omega)
     rw [hG] at this
     exact this
    obtain ⟨A,hA⟩ : ∃ A,a.natAbs = A:=⟨_,rfl⟩
    obtain ⟨Q,hQ⟩ : ∃ Q,p.natAbs = Q:=⟨_,rfl⟩
    have HSZ : Hid (∀ W,Calls Tryz.prog 101 #[.int .i64 a] W fun e w' => e = .returned (.int .u64 (A : Nat)) ∧ w' = W):=fun W => by rw [← hA]; exact z3y a W HA.out.1 HA.out.2
    rw [hA,hQ] at HGC
    rw [hQ] at hpn
    have HE : Hid (ratE a p = if G = 1 then 0 else 8):=by
     have h1 : mayQ a p = decide (G = 1):=by
      rw [z42,hwi,hG,decide_eq_true HP.out.1,decide_eq_true HP.out.2]
      exact Bool.eq_iff_iff.2 (by simp)
     rw [Hid,ratE,h1]
     by_cases h : G = 1 <;> simp [h]
    rw [HE.out]
    rw [hwi] at HWI
    clear hwi hp hp2 hA hQ hG
    by_cases hg : G = 1
    ·have q1 : ((G : Nat) : Int) = 1:=by rw [hg]; rfl
     have q2 : (((G : Nat) : Int) != 1) = false:=by rw [hg]; rfl
     have HE2 : Hid ((if G = 1 then (0 : Int) else 8) = 0):=if_pos hg
     rw [HE2.out]
     clear hg
     go_enter Tryz.func52,Tryz.ntmps52
     go_upto_region 1 with fail
     rw [HW1.out]
     refine wp_region_held_drew (S:=fun W => W.cell? ⟨w.heap.size,0,none⟩ = some (.int .i64 a) ∧ W.cell? ⟨w.heap.size,1,none⟩ = some (.int .i64 p) ∧ w.heap.size < W.heap.size) (by kernel_rfl) HS0.out (fun hHeld => ?_)
     refine wpAnyH_take (i:=0) (v:=?_) rfl (by kernel_rfl) (by kernel_rfl) (by kernel_rfl) (fun _ _ _ h => h) (Or.inl ⟨by kernel_rfl,?_⟩) (by assumption) ?_
     rotate_left
     ·(intro w hSw; (try dsimp only at hSw); go_simp)
      try with_reducible rfl
     try simp only [Act.put,J1,J2,J3,J4,J5]
     refine wpAnyH_take (i:=1) (v:=?_) rfl (by kernel_rfl) (by kernel_rfl) (by kernel_rfl) (fun _ _ _ h => h) (Or.inl ⟨by kernel_rfl,?_⟩) (by assumption) ?_
     rotate_left
     ·(intro w hSw; (try dsimp only at hSw); go_simp)
      try with_reducible rfl
     try simp only [Act.put,J1,J2,J3,J4,J5,J6]
     refine wpAnyH_take (i:=2) (v:=?_) rfl (by kernel_rfl) (by kernel_rfl) (by kernel_rfl) (fun _ _ _ h => h) (Or.inl ⟨by kernel_rfl,?_⟩) (by assumption) ?_
     rotate_left
     ·(intro w hSw; (try dsimp only at hSw); go_simp)
      try with_reducible rfl
     try simp only [Act.put,J1,J2,J3,J4,J5,J6]
     refine wpAnyH_take (i:=3) (v:=?_) rfl (by kernel_rfl) (by kernel_rfl) (by kernel_rfl) (fun _ _ _ h => h) (Or.inl ⟨by kernel_rfl,?_⟩) (by assumption) ?_
     rotate_left
     ·(intro w hSw; (try dsimp only at hSw); go_simp)
      try with_reducible rfl
     try simp only [Act.put,J1,J2,J3,J4,J5,J6]
     refine wpAnyH_take (i:=4) (v:=?_) rfl (by kernel_rfl) (by kernel_rfl) (by kernel_rfl) (fun _ _ _ h => h) (Or.inl ⟨by kernel_rfl,?_⟩) (by assumption) ?_
     rotate_left
     ·(intro w hSw; (try dsimp only at hSw); go_simp)
      try with_reducible rfl
     try simp only [Act.put,J1,J2,J3,J4,J5,J6]
     refine wpAnyH_take (i:=5) (v:=?_) rfl (by kernel_rfl) (by kernel_rfl) (by kernel_rfl) (fun _ _ _ h => h) (Or.inl ⟨by kernel_rfl,?_⟩) (by assumption) ?_
     rotate_left
     ·(intro w hSw; (try dsimp only at hSw); go_simp)
      try with_reducible rfl
     try simp only [Act.put,J1,J2,J3,J4,J5,J6]
     refine wpAnyH_take (i:=6) (v:=?_) rfl (by kernel_rfl) (by kernel_rfl) (by kernel_rfl) (fun _ _ _ h => h) (Or.inl ⟨by kernel_rfl,?_⟩) (by assumption) ?_
     rotate_left
     ·(intro w hSw; (try dsimp only at hSw); go_simp)
      try with_reducible rfl
     try simp only [Act.put,J1,J2,J3,J4,J5,J6]
     refine wpAnyH_take (i:=7) (v:=?_) rfl (by kernel_rfl) (by kernel_rfl) (by kernel_rfl) (fun _ _ _ h => h) (Or.inl ⟨by kernel_rfl,?_⟩) (by assumption) ?_
     rotate_left
     ·(intro w hSw; (try dsimp only at hSw); go_simp)
      try with_reducible rfl
     try simp only [Act.put,J1,J2,J3,J4,J5,J6]
     refine wpAnyH_take (i:=8) (v:=?_) rfl (by kernel_rfl) (by kernel_rfl) (by kernel_rfl) (fun _ _ _ h => h) (Or.inl ⟨by kernel_rfl,?_⟩) (by assumption) ?_
     rotate_left
     ·(intro w hSw; (try dsimp only at hSw); go_simp)
      try with_reducible rfl
     try simp only [Act.put,J1,J2,J3,J4,J5,J6]
     refine wpAnyH_take (i:=9) (v:=?_) rfl (by kernel_rfl) (by kernel_rfl) (by kernel_rfl) (fun _ _ _ h => h) (Or.inl ⟨by kernel_rfl,?_⟩) (by assumption) ?_
     rotate_left
     ·(intro w hSw; (try dsimp only at hSw); go_simp)
      try with_reducible rfl
     try simp only [Act.put,J1,J2,J3,J4,J5,J6]
     refine Jr (rs:=[10]) (by kernel_rfl) (by simp) ?_
     refine Jd rfl (fun K hK => ?_) Je
     go_simp
     go_at_call 99
     refine HWI.out.mono ?_
     rintro e wz ⟨rfl,hbz⟩
     have HBY : Hid (Below W1.heap.size W1 wz):=Below.trans (b:=W1.drew) hself hbz
     have HBZ : Hid (Below w.heap.size w wz):=HB1.out.trans (HBY.out.mono HB1.out.size)
     clear hbz
     try dsimp only
     refine hK.out _ _ (HX.out wz HBY.out) (fun hHeld => ?_)
     clear hK K
     try simp only [Act.put,J1,J2,J3,J4,J5,J6]
     refine wpAnyH_take (i:=11) (v:=?_) rfl (by kernel_rfl) (by kernel_rfl) (by kernel_rfl) (fun _ _ _ h => h) (Or.inl ⟨by kernel_rfl,?_⟩) (by assumption) ?_
     rotate_left
     ·(intro w hSw; (try dsimp only at hSw); go_simp)
      try with_reducible rfl
     try simp only [Act.put,J1,J2,J3,J4,J5,J6]
     refine wpAnyH_take (i:=12) (v:=?_) rfl (by kernel_rfl) (by kernel_rfl) (by kernel_rfl) (fun _ _ _ h => h) (Or.inl ⟨by kernel_rfl,?_⟩) (by assumption) ?_
     rotate_left
     ·(intro w hSw; (try dsimp only at hSw); go_simp)
      try with_reducible rfl
     try simp only [Act.put,J1,J2,J3,J4,J5,J6]
     refine wpAnyH_take (i:=13) (v:=?_) rfl (by kernel_rfl) (by kernel_rfl) (by kernel_rfl) (fun _ _ _ h => h) (Or.inl ⟨by kernel_rfl,?_⟩) (by assumption) ?_
     rotate_left
     ·(intro w hSw; (try dsimp only at hSw); go_simp)
      try with_reducible rfl
     try simp only [Act.put,J1,J2,J3,J4,J5,J6]
     refine wpAnyH_take (i:=14) (v:=?_) rfl (by kernel_rfl) (by kernel_rfl) (by kernel_rfl) (fun _ _ _ h => h) (Or.inl ⟨by kernel_rfl,?_⟩) (by assumption) ?_
     rotate_left
     ·(intro w hSw; (try dsimp only at hSw); go_simp)
      try with_reducible rfl
     try simp only [Act.put,J1,J2,J3,J4,J5,J6]
     refine wpAnyH_take (i:=15) (v:=?_) rfl (by kernel_rfl) (by kernel_rfl) (by kernel_rfl) (fun _ _ _ h => h) (Or.inl ⟨by kernel_rfl,?_⟩) (by assumption) ?_
     rotate_left
     ·(intro w hSw; (try dsimp only at hSw); go_simp)
      try with_reducible rfl
     try simp only [Act.put,J1,J2,J3,J4,J5,J6]
     refine wpAnyH_take (i:=17) (v:=?_) rfl (by kernel_rfl) (by kernel_rfl) (by kernel_rfl) (fun _ _ _ h => h) (Or.inl ⟨by kernel_rfl,?_⟩) (by assumption) ?_
     rotate_left
     ·(intro w hSw; (try dsimp only at hSw); go_simp)
      try with_reducible rfl
     try simp only [Act.put,J1,J2,J3,J4,J5,J6]
     refine wpAnyH_take (i:=18) (v:=?_) rfl (by kernel_rfl) (by kernel_rfl) (by kernel_rfl) (fun _ _ _ h => h) (Or.inl ⟨by kernel_rfl,?_⟩) (by assumption) ?_
     rotate_left
     ·(intro w hSw; (try dsimp only at hSw); go_simp)
      try with_reducible rfl
     try simp only [Act.put,J1,J2,J3,J4,J5,J6]
     refine wpAnyH_take (i:=19) (v:=?_) rfl (by kernel_rfl) (by kernel_rfl) (by kernel_rfl) (fun _ _ _ h => h) (Or.inl ⟨by kernel_rfl,?_⟩) (by assumption) ?_
     rotate_left
     ·(intro w hSw; (try dsimp only at hSw); go_simp)
      try with_reducible rfl
     try simp only [Act.put,J1,J2,J3,J4,J5,J6]
     refine Jr (rs:=[16]) (by kernel_rfl) (by simp) ?_
     refine Jd rfl (fun K hK => ?_) Je
     go_simp
     go_at_call 101
     refine (HSZ.out wz).mono ?_
     rintro e wy ⟨rfl,rfl⟩
     try dsimp only
     refine hK.out _ _ (HX.out wy HBY.out) (fun hHeld => ?_)
     clear hK K
     try simp only [Act.put,J1,J2,J3,J4,J5,J6]
     refine Jr (rs:=[20]) (by kernel_rfl) (by simp) ?_
     refine Jd rfl (fun K hK => ?_) Je
     go_simp
     go_at_call 100
     refine (HGC.out _).mono ?_
     rintro e wg ⟨rfl,hbg⟩
     have HBX : Hid (Below W1.heap.size W1 wg):=HBY.out.trans (hbg.mono HBY.out.size)
     have HBG : Hid (Below w.heap.size w wg):=HB1.out.trans (HBX.out.mono HB1.out.size)
     clear hbg
     try dsimp only
     refine hK.out _ _ (HX.out wg HBX.out) (fun hHeld => ?_)
     clear hK K
     try simp only [Act.put,J1,J2,J3,J4,J5,J6]
     refine wpAnyH_take (i:=21) (v:=?_) rfl (by kernel_rfl) (by kernel_rfl) (by kernel_rfl) (fun _ _ _ h => h) (Or.inl ⟨by kernel_rfl,?_⟩) (by assumption) ?_
     rotate_left
     ·(intro w hSw; (try dsimp only at hSw); go_simp)
      try with_reducible rfl
     try simp only [Act.put,J1,J2,J3,J4,J5,J6]
     refine wpAnyH_take (i:=22) (v:=?_) rfl (by kernel_rfl) (by kernel_rfl) (by kernel_rfl) (fun _ _ _ h => h) (Or.inl ⟨by kernel_rfl,?_⟩) (by assumption) ?_
     rotate_left
     ·(intro w hSw; (try dsimp only at hSw); go_simp)
      try with_reducible rfl
     try simp only [Act.put,J1,J2,J3,J4,J5,J6]
     refine wpAnyH_done (by kernel_rfl) ?_ _
     go_wp2_with fail
     all_goals go_ret
     all_goals exact ⟨rfl,HBG.out⟩
    ·have q2 : (((G : Nat) : Int) != 1) = true:=by simp; omega
     have HE2 : Hid ((if G = 1 then (0 : Int) else 8) = 8):=if_neg hg
     rw [HE2.out]
     clear hg
     go_enter Tryz.func52,Tryz.ntmps52
     go_upto_region 1 with fail
     rw [HW1.out]
     refine wp_region_held_drew (S:=fun W => W.cell? ⟨w.heap.size,0,none⟩ = some (.int .i64 a) ∧ W.cell? ⟨w.heap.size,1,none⟩ = some (.int .i64 p) ∧ w.heap.size < W.heap.size) (by kernel_rfl) HS0.out (fun hHeld => ?_)
     refine wpAnyH_take (i:=0) (v:=?_) rfl (by kernel_rfl) (by kernel_rfl) (by kernel_rfl) (fun _ _ _ h => h) (Or.inl ⟨by kernel_rfl,?_⟩) (by assumption) ?_
     rotate_left
     ·(intro w hSw; (try dsimp only at hSw); go_simp)
      try with_reducible rfl
     try simp only [Act.put,J1,J2,J3,J4,J5]
     refine wpAnyH_take (i:=1) (v:=?_) rfl (by kernel_rfl) (by kernel_rfl) (by kernel_rfl) (fun _ _ _ h => h) (Or.inl ⟨by kernel_rfl,?_⟩) (by assumption) ?_
     rotate_left
     ·(intro w hSw; (try dsimp only at hSw); go_simp)
      try with_reducible rfl
     try simp only [Act.put,J1,J2,J3,J4,J5,J6]
     refine wpAnyH_take (i:=2) (v:=?_) rfl (by kernel_rfl) (by kernel_rfl) (by kernel_rfl) (fun _ _ _ h => h) (Or.inl ⟨by kernel_rfl,?_⟩) (by assumption) ?_
     rotate_left
     ·(intro w hSw; (try dsimp only at hSw); go_simp)
      try with_reducible rfl
     try simp only [Act.put,J1,J2,J3,J4,J5,J6]
     refine wpAnyH_take (i:=3) (v:=?_) rfl (by kernel_rfl) (by kernel_rfl) (by kernel_rfl) (fun _ _ _ h => h) (Or.inl ⟨by kernel_rfl,?_⟩) (by assumption) ?_
     rotate_left
     ·(intro w hSw; (try dsimp only at hSw); go_simp)
      try with_reducible rfl
     try simp only [Act.put,J1,J2,J3,J4,J5,J6]
     refine wpAnyH_take (i:=4) (v:=?_) rfl (by kernel_rfl) (by kernel_rfl) (by kernel_rfl) (fun _ _ _ h => h) (Or.inl ⟨by kernel_rfl,?_⟩) (by assumption) ?_
     rotate_left
     ·(intro w hSw; (try dsimp only at hSw); go_simp)
      try with_reducible rfl
     try simp only [Act.put,J1,J2,J3,J4,J5,J6]
     refine wpAnyH_take (i:=5) (v:=?_) rfl (by kernel_rfl) (by kernel_rfl) (by kernel_rfl) (fun _ _ _ h => h) (Or.inl ⟨by kernel_rfl,?_⟩) (by assumption) ?_
     rotate_left
     ·(intro w hSw; (try dsimp only at hSw); go_simp)
      try with_reducible rfl
     try simp only [Act.put,J1,J2,J3,J4,J5,J6]
     refine wpAnyH_take (i:=6) (v:=?_) rfl (by kernel_rfl) (by kernel_rfl) (by kernel_rfl) (fun _ _ _ h => h) (Or.inl ⟨by kernel_rfl,?_⟩) (by assumption) ?_
     rotate_left
     ·(intro w hSw; (try dsimp only at hSw); go_simp)
      try with_reducible rfl
     try simp only [Act.put,J1,J2,J3,J4,J5,J6]
     refine wpAnyH_take (i:=7) (v:=?_) rfl (by kernel_rfl) (by kernel_rfl) (by kernel_rfl) (fun _ _ _ h => h) (Or.inl ⟨by kernel_rfl,?_⟩) (by assumption) ?_
     rotate_left
     ·(intro w hSw; (try dsimp only at hSw); go_simp)
      try with_reducible rfl
     try simp only [Act.put,J1,J2,J3,J4,J5,J6]
     refine wpAnyH_take (i:=8) (v:=?_) rfl (by kernel_rfl) (by kernel_rfl) (by kernel_rfl) (fun _ _ _ h => h) (Or.inl ⟨by kernel_rfl,?_⟩) (by assumption) ?_
     rotate_left
     ·(intro w hSw; (try dsimp only at hSw); go_simp)
      try with_reducible rfl
     try simp only [Act.put,J1,J2,J3,J4,J5,J6]
     refine wpAnyH_take (i:=9) (v:=?_) rfl (by kernel_rfl) (by kernel_rfl) (by kernel_rfl) (fun _ _ _ h => h) (Or.inl ⟨by kernel_rfl,?_⟩) (by assumption) ?_
     rotate_left
     ·(intro w hSw; (try dsimp only at hSw); go_simp)
      try with_reducible rfl
     try simp only [Act.put,J1,J2,J3,J4,J5,J6]
     refine Jr (rs:=[10]) (by kernel_rfl) (by simp) ?_
     refine Jd rfl (fun K hK => ?_) Je
     go_simp
     go_at_call 99
     refine HWI.out.mono ?_
     rintro e wz ⟨rfl,hbz⟩
     have HBY : Hid (Below W1.heap.size W1 wz):=Below.trans (b:=W1.drew) hself hbz
     have HBZ : Hid (Below w.heap.size w wz):=HB1.out.trans (HBY.out.mono HB1.out.size)
     clear hbz
     try dsimp only
     refine hK.out _ _ (HX.out wz HBY.out) (fun hHeld => ?_)
     clear hK K
     try simp only [Act.put,J1,J2,J3,J4,J5,J6]
     refine wpAnyH_take (i:=11) (v:=?_) rfl (by kernel_rfl) (by kernel_rfl) (by kernel_rfl) (fun _ _ _ h => h) (Or.inl ⟨by kernel_rfl,?_⟩) (by assumption) ?_
     rotate_left
     ·(intro w hSw; (try dsimp only at hSw); go_simp)
      try with_reducible rfl
     try simp only [Act.put,J1,J2,J3,J4,J5,J6]
     refine wpAnyH_take (i:=12) (v:=?_) rfl (by kernel_rfl) (by kernel_rfl) (by kernel_rfl) (fun _ _ _ h => h) (Or.inl ⟨by kernel_rfl,?_⟩) (by assumption) ?_
     rotate_left
     ·(intro w hSw; (try dsimp only at hSw); go_simp)
      try with_reducible rfl
     try simp only [Act.put,J1,J2,J3,J4,J5,J6]
     refine wpAnyH_take (i:=13) (v:=?_) rfl (by kernel_rfl) (by kernel_rfl) (by kernel_rfl) (fun _ _ _ h => h) (Or.inl ⟨by kernel_rfl,?_⟩) (by assumption) ?_
     rotate_left
     ·(intro w hSw; (try dsimp only at hSw); go_simp)
      try with_reducible rfl
     try simp only [Act.put,J1,J2,J3,J4,J5,J6]
     refine wpAnyH_take (i:=14) (v:=?_) rfl (by kernel_rfl) (by kernel_rfl) (by kernel_rfl) (fun _ _ _ h => h) (Or.inl ⟨by kernel_rfl,?_⟩) (by assumption) ?_
     rotate_left
     ·(intro w hSw; (try dsimp only at hSw); go_simp)
      try with_reducible rfl
     try simp only [Act.put,J1,J2,J3,J4,J5,J6]
     refine wpAnyH_take (i:=15) (v:=?_) rfl (by kernel_rfl) (by kernel_rfl) (by kernel_rfl) (fun _ _ _ h => h) (Or.inl ⟨by kernel_rfl,?_⟩) (by assumption) ?_
     rotate_left
     ·(intro w hSw; (try dsimp only at hSw); go_simp)
      try with_reducible rfl
     try simp only [Act.put,J1,J2,J3,J4,J5,J6]
     refine wpAnyH_take (i:=17) (v:=?_) rfl (by kernel_rfl) (by kernel_rfl) (by kernel_rfl) (fun _ _ _ h => h) (Or.inl ⟨by kernel_rfl,?_⟩) (by assumption) ?_
     rotate_left
     ·(intro w hSw; (try dsimp only at hSw); go_simp)
      try with_reducible rfl
     try simp only [Act.put,J1,J2,J3,J4,J5,J6]
     refine wpAnyH_take (i:=18) (v:=?_) rfl (by kernel_rfl) (by kernel_rfl) (by kernel_rfl) (fun _ _ _ h => h) (Or.inl ⟨by kernel_rfl,?_⟩) (by assumption) ?_
     rotate_left
     ·(intro w hSw; (try dsimp only at hSw); go_simp)
      try with_reducible rfl
     try simp only [Act.put,J1,J2,J3,J4,J5,J6]
     refine wpAnyH_take (i:=19) (v:=?_) rfl (by kernel_rfl) (by kernel_rfl) (by kernel_rfl) (fun _ _ _ h => h) (Or.inl ⟨by kernel_rfl,?_⟩) (by assumption) ?_
     rotate_left
     ·(intro w hSw; (try dsimp only at hSw); go_simp)
      try with_reducible rfl
     try simp only [Act.put,J1,J2,J3,J4,J5,J6]
     refine Jr (rs:=[16]) (by kernel_rfl) (by simp) ?_
     refine Jd rfl (fun K hK => ?_) Je
     go_simp
     go_at_call 101
     refine (HSZ.out wz).mono ?_
     rintro e wy ⟨rfl,rfl⟩
     try dsimp only
     refine hK.out _ _ (HX.out wy HBY.out) (fun hHeld => ?_)
     clear hK K
     try simp only [Act.put,J1,J2,J3,J4,J5,J6]
     refine Jr (rs:=[20]) (by kernel_rfl) (by simp) ?_
     refine Jd rfl (fun K hK => ?_) Je
     go_simp
     go_at_call 100
     refine (HGC.out _).mono ?_
     rintro e wg ⟨rfl,hbg⟩
     have HBX : Hid (Below W1.heap.size W1 wg):=HBY.out.trans (hbg.mono HBY.out.size)
     have HBG : Hid (Below w.heap.size w wg):=HB1.out.trans (HBX.out.mono HB1.out.size)
     clear hbg
     try dsimp only
     refine hK.out _ _ (HX.out wg HBX.out) (fun hHeld => ?_)
     clear hK K
     try simp only [Act.put,J1,J2,J3,J4,J5,J6]
     refine wpAnyH_take (i:=21) (v:=?_) rfl (by kernel_rfl) (by kernel_rfl) (by kernel_rfl) (fun _ _ _ h => h) (Or.inl ⟨by kernel_rfl,?_⟩) (by assumption) ?_
     rotate_left
     ·(intro w hSw; (try dsimp only at hSw); go_simp)
      try with_reducible rfl
     try simp only [Act.put,J1,J2,J3,J4,J5,J6]
     refine wpAnyH_take (i:=22) (v:=?_) rfl (by kernel_rfl) (by kernel_rfl) (by kernel_rfl) (fun _ _ _ h => h) (Or.inl ⟨by kernel_rfl,?_⟩) (by assumption) ?_
     rotate_left
     ·(intro w hSw; (try dsimp only at hSw); go_simp)
      try with_reducible rfl
     try simp only [Act.put,J1,J2,J3,J4,J5,J6]
     refine wpAnyH_done (by kernel_rfl) ?_ _
     go_wp2_with fail
     all_goals go_ret
     all_goals exact ⟨rfl,HBG.out⟩
end Go.Proofs.YtockinpjfhhkoaaGreatDoor
