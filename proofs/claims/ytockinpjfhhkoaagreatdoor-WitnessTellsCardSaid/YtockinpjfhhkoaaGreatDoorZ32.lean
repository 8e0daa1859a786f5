/- AtomsDoes: the document's Kept walked. (Printed by gen_dob.py.) -/
import Derived.Deep.RegionHeld
import Derived.Deep.Cut
import Derived.Test.YtockinpjfhhkoaaGreatDoorZ23
import Derived.Test.YtockinpjfhhkoaaGreatDoorZ31
import Derived.Test.YtockinpjfhhkoaaGreatDoorZ05
set_option maxRecDepth 100000
set_option maxHeartbeats 16000000
open List renaming setIfInBounds_toArray → J1, set_cons_zero → J2, set_cons_succ → J3, getElem_toArray → J4, getElem_cons_zero → J5, getElem_cons_succ → J6
open Go.Lib renaming cell_of_heap → Jc, hid → Jh
open Go.AllReadyH renaming cons → Jd, nil → Je
open Go renaming wpAnyH_ready → Jr
open Go.RowKit.Below renaming heap_alloc → Jb
namespace Go.Proofs.YtockinpjfhhkoaaGreatDoor
open Go.RowKit
theorem z6o {a p b q x : Int} (w : World) (ha : mayQ a p = true) (hb : mayQ b q = true) (hx : z1b x = true) (ia : in64 a) (ib : in64 b) :
 Calls Tryz.prog 169 #[.agg #[.int .i64 a,.int .i64 p],.agg #[.int .i64 b,.int .i64 q],.int .i64 x] w fun e w' => e = .returned (.bool (z0s a p b q x)) ∧ Below w.heap.size w w':=by
 obtain ⟨a1,a2,a3,a4⟩:=z1u ha
 obtain ⟨b1,b2,b3,b4⟩:=z1u hb
 obtain ⟨W2,hW2⟩ : ∃ W2,W2 = (w.alloc (.cells #[.int .i64 a,.int .i64 p] 50)).alloc (.cells #[.int .i64 b,.int .i64 q] 50):=⟨_,rfl⟩
 have hb2 : Below w.heap.size w W2:=by rw [hW2]; exact (z0c _ _).alloc (by simp) _
 have k0 : W2.heap[w.heap.size]? = some (.cells #[.int .i64 a,.int .i64 p] 50 (0,0)):=by rw [hW2]; exact (Jb _ _ _ (by simp)).trans (z03 rfl)
 have k1 : W2.heap[w.heap.size + 1]? = some (.cells #[.int .i64 b,.int .i64 q] 50 (0,0)):=by rw [hW2]; exact z03 (by simp)
 have HS : Hid (∀ W,Below W2.heap.size W2 W → W.cell? ⟨w.heap.size,0,none⟩ = some (.int .i64 a) ∧ W.cell? ⟨w.heap.size,1,none⟩ = some (.int .i64 p) ∧ W.cell? ⟨w.heap.size + 1,0,none⟩ = some (.int .i64 b) ∧ W.cell? ⟨w.heap.size + 1,1,none⟩ = some (.int .i64 q) ∧ w.heap.size < W.heap.size ∧ w.heap.size + 1 < W.heap.size):=by
  intro W hW
  have m0:=(hW.block _ (Array.getElem?_eq_some_iff.1 k0).1).trans k0
  have m1:=(hW.block _ (Array.getElem?_eq_some_iff.1 k1).1).trans k1
  exact ⟨Jc m0 0,Jc m0 1,Jc m1 0,Jc m1 1,(Array.getElem?_eq_some_iff.1 m0).1,(Array.getElem?_eq_some_iff.1 m1).1⟩
 have HB:=Jh hb2
 have HW2:=Jh hW2.symm
 clear hW2 hb2 k0 k1
 by_cases hn : x = z2z
 ·have HK : Hid (z0s a p b q x = true):=by rw [Hid,z0s,if_pos hn]
  have hd : (x == 9223372036854775807) = true:=by rw [hn]; rfl
  clear ha hb hx ia ib hn a1 a2 a3 a4 b1 b2 b3 b4
  go_enter Tryz.func169,Tryz.ntmps169
  go_upto_region 1 with fail
  rw [HW2.out]
  go_wp2_with fail
  all_goals go_ret
  all_goals exact ⟨by rw [HK.out]; rfl,HB.out⟩
 ·have hd : (x == 9223372036854775807) = false:=by simpa [z2z] using hn
  have hxb : -4611686018427387904 ≤ x ∧ x ≤ 4611686018427387907:=by
   unfold z1b at hx
   have h2 : (x == z2z) = false:=by simpa using hn
   rw [h2] at hx
   simp only [Bool.false_or,z3r,Bool.and_eq_true,decide_eq_true_eq] at hx
   omega
  have H1:=fun W => Jh ((z2t a p W a1 a2 ia.1 ia.2).mono fun e w' h => (⟨h.1,h.2 ▸ Below.refl _ _⟩ : _ ∧ Below W.heap.size W w'))
  have H2:=fun W => Jh ((z2t b q W b1 b2 ib.1 ib.2).mono fun e w' h => (⟨h.1,h.2 ▸ Below.refl _ _⟩ : _ ∧ Below W.heap.size W w'))
  have H3:=fun W => Jh ((z1t a p W a1 a2).mono fun e w' h => (⟨h.1,h.2 ▸ Below.refl _ _⟩ : _ ∧ Below W.heap.size W w'))
  have H4:=fun W => Jh ((z1t b q W b1 b2).mono fun e w' h => (⟨h.1,h.2 ▸ Below.refl _ _⟩ : _ ∧ Below W.heap.size W w'))
  have H5:=fun W => Jh ((number213_any x W (by omega) (by omega)).mono fun e w' h => (⟨h.1,h.2 ▸ Below.refl _ _⟩ : _ ∧ Below W.heap.size W w'))
  have H6:=fun W => Jh ((strict214_any x W).mono fun e w' h => (⟨h.1,h.2 ▸ Below.refl _ _⟩ : _ ∧ Below W.heap.size W w'))
  have hw1:=z2c (a:=a) a1 a2 b1 b2
  have hw2:=z2c (a:=b) b1 b2 a1 a2
  have HKQ : Hid (z0s a p b q x = (decide (a / p - b / q < x / 2) || (a / p - b / q == x / 2 && (decide ((a % p) * q < (b % q) * p) || ((a % p) * q == (b % q) * p && x % 2 == 1))))):=by
   rw [Hid,z0s,if_neg hn]
  have hx2 : x % 2 = 0 ∨ x % 2 = 1:=by omega
  obtain ⟨s,hs⟩ : ∃ s,a / p = s:=⟨_,rfl⟩
  obtain ⟨t,ht⟩ : ∃ t,b / q = t:=⟨_,rfl⟩
  obtain ⟨m,hm⟩ : ∃ m,a % p = m:=⟨_,rfl⟩
  obtain ⟨k,hk⟩ : ∃ k,b % q = k:=⟨_,rfl⟩
  obtain ⟨c,hc⟩ : ∃ c,x / 2 = c:=⟨_,rfl⟩
  obtain ⟨y,hy⟩ : ∃ y,x % 2 = y:=⟨_,rfl⟩
  rw [hs] at H1 a3 a4 HKQ
  rw [ht] at H2 b3 b4 HKQ
  rw [hm] at H3 hw1 HKQ
  rw [hk] at H4 hw2 HKQ
  rw [hc] at H5 HKQ
  rw [hy] at H6 HKQ hx2
  have hws : IntKind.i64.wrap (s - t) = s - t:=IntWalk.i64_in _ (by omega)
  have hws' : wrap64 (s - t) = s - t:=IntWalk.wrap64_in _ (by omega)
  obtain ⟨u,hu⟩ : ∃ u,m * q = u:=⟨_,rfl⟩
  obtain ⟨v,hv⟩ : ∃ v,k * p = v:=⟨_,rfl⟩
  rw [hu] at hw1 HKQ
  rw [hv] at hw2 HKQ
  have hw1' : wrap64 (m * q) = u:=by rw [hu]; exact (IntWalk.i64_left u).symm.trans hw1
  have hw2' : wrap64 (k * p) = v:=by rw [hv]; exact (IntWalk.i64_left v).symm.trans hw2
  have HU:=Jh hu
  have HV:=Jh hv
  have hv1 : IntKind.i64.wrap (m * q) = u:=by rw [hu]; exact hw1
  have hv2 : IntKind.i64.wrap (k * p) = v:=by rw [hv]; exact hw2
  have HX2:=Jh hx2
  clear ha hb hx ia ib hn a1 a2 a3 a4 b1 b2 b3 b4 hxb hs ht hm hk hc hu hv hy hx2
  go_enter Tryz.func169,Tryz.ntmps169
  go_upto_region 1 with fail
  rw [HW2.out]
  clear HW2
  go_wp2_with fail
  refine (H5 _).out.mono ?_
  rintro e w1 ⟨rfl,hb1⟩
  have HB1 : Hid (Below W2.heap.size W2 w1):=hb1
  clear hb1
  go_upto_region 4 with fail
  refine wrd (by kernel_rfl) HS.out (HB1.out.drew) (fun hHeld => ?_)
  refine wpAnyH_take (i:=0) (v:=?_) rfl (by kernel_rfl) (by kernel_rfl) (by kernel_rfl) (fun _ _ _ h => h) (Or.inl ⟨by kernel_rfl,?_⟩) (by assumption) ?_
  rotate_left
  ·(intro w hSw; (try dsimp only at hSw); go_simp)
   try with_reducible rfl
  try simp only [Act.put,J1,J2,J3,J4,J5]
  refine wpAnyH_take (i:=1) (v:=?_) rfl (by kernel_rfl) (by kernel_rfl) (by kernel_rfl) (fun _ _ _ h => h) (Or.inl ⟨by kernel_rfl,?_⟩) (by assumption) ?_
  rotate_left
  ·(intro w hSw; (try dsimp only at hSw); go_simp)
   try with_reducible rfl
  try simp only [Act.put,J1,J2,J3,J4,J5,J6]
  refine wpAnyH_take (i:=2) (v:=?_) rfl (by kernel_rfl) (by kernel_rfl) (by kernel_rfl) (fun _ _ _ h => h) (Or.inl ⟨by kernel_rfl,?_⟩) (by assumption) ?_
  rotate_left
  ·(intro w hSw; (try dsimp only at hSw); go_simp)
   try with_reducible rfl
  try simp only [Act.put,J1,J2,J3,J4,J5,J6]
  refine wpAnyH_take (i:=3) (v:=?_) rfl (by kernel_rfl) (by kernel_rfl) (by kernel_rfl) (fun _ _ _ h => h) (Or.inl ⟨by kernel_rfl,?_⟩) (by assumption) ?_
  rotate_left
  ·(intro w hSw; (try dsimp only at hSw); go_simp)
   try with_reducible rfl
  try simp only [Act.put,J1,J2,J3,J4,J5,J6]
  refine wpAnyH_take (i:=5) (v:=?_) rfl (by kernel_rfl) (by kernel_rfl) (by kernel_rfl) (fun _ _ _ h => h) (Or.inl ⟨by kernel_rfl,?_⟩) (by assumption) ?_
  rotate_left
  ·(intro w hSw; (try dsimp only at hSw); go_simp)
   try with_reducible rfl
  try simp only [Act.put,J1,J2,J3,J4,J5,J6]
  refine wpAnyH_take (i:=6) (v:=?_) rfl (by kernel_rfl) (by kernel_rfl) (by kernel_rfl) (fun _ _ _ h => h) (Or.inl ⟨by kernel_rfl,?_⟩) (by assumption) ?_
  rotate_left
  ·(intro w hSw; (try dsimp only at hSw); go_simp)
   try with_reducible rfl
  try simp only [Act.put,J1,J2,J3,J4,J5,J6]
  refine wpAnyH_take (i:=7) (v:=?_) rfl (by kernel_rfl) (by kernel_rfl) (by kernel_rfl) (fun _ _ _ h => h) (Or.inl ⟨by kernel_rfl,?_⟩) (by assumption) ?_
  rotate_left
  ·(intro w hSw; (try dsimp only at hSw); go_simp)
   try with_reducible rfl
  try simp only [Act.put,J1,J2,J3,J4,J5,J6]
  refine wpAnyH_take (i:=8) (v:=?_) rfl (by kernel_rfl) (by kernel_rfl) (by kernel_rfl) (fun _ _ _ h => h) (Or.inl ⟨by kernel_rfl,?_⟩) (by assumption) ?_
  rotate_left
  ·(intro w hSw; (try dsimp only at hSw); go_simp)
   try with_reducible rfl
  try simp only [Act.put,J1,J2,J3,J4,J5,J6]
  refine Jr (rs:=[4]) (by kernel_rfl) (by simp) ?_
  refine Jd rfl (fun K hK => ?_) Je
  go_simp
  go_at_call 110
  refine (H1 _).out.mono ?_
  rintro e wa ⟨rfl,hba⟩
  have HBa : Hid (Below W2.heap.size W2 wa):=belS HB1.out.drew hba
  clear hba
  try dsimp only
  refine hK.out _ _ (HS.out _ HBa.out) (fun hHeld => ?_)
  clear hK K
  try simp only [Act.put,J1,J2,J3,J4,J5,J6]
  refine Jr (rs:=[9]) (by kernel_rfl) (by simp) ?_
  refine Jd rfl (fun K hK => ?_) Je
  go_simp
  go_at_call 110
  refine (H2 _).out.mono ?_
  rintro e wb ⟨rfl,hbb⟩
  have HBb : Hid (Below W2.heap.size W2 wb):=belS HBa.out hbb
  clear hbb
  try dsimp only
  refine hK.out _ _ (HS.out _ HBb.out) (fun hHeld => ?_)
  clear hK K
  try simp only [Act.put,J1,J2,J3,J4,J5,J6]
  refine wpAnyH_take (i:=10) (v:=?_) rfl (by kernel_rfl) (by kernel_rfl) (by kernel_rfl) (fun _ _ _ h => h) (Or.inl ⟨by kernel_rfl,?_⟩) (by assumption) ?_
  rotate_left
  ·(intro w hSw; (try dsimp only at hSw); go_simp)
   try with_reducible rfl
  try simp only [Act.put,J1,J2,J3,J4,J5,J6]
  refine wpAnyH_take (i:=11) (v:=?_) rfl (by kernel_rfl) (by kernel_rfl) (by kernel_rfl) (fun _ _ _ h => h) (Or.inl ⟨by kernel_rfl,?_⟩) (by assumption) ?_
  rotate_left
  ·(intro w hSw; (try dsimp only at hSw); go_simp)
   try with_reducible rfl
  try simp only [Act.put,J1,J2,J3,J4,J5,J6]
  refine wpAnyH_done (by kernel_rfl) ?_ _
  clear hHeld
  have HB2:=Jh HBb.out
  by_cases hdc : s - t = c
  ·have hne : (s - t != c) = false:=by simpa using hdc
   have HD:=Jh hdc
   clear hdc
   go_upto_region 7 with fail
   refine wrd (by kernel_rfl) HS.out (HB2.out.drew) (fun hHeld => ?_)
   refine wpAnyH_take (i:=0) (v:=?_) rfl (by kernel_rfl) (by kernel_rfl) (by kernel_rfl) (fun _ _ _ h => h) (Or.inl ⟨by kernel_rfl,?_⟩) (by assumption) ?_
   rotate_left
   ·(intro w hSw; (try dsimp only at hSw); go_simp)
    try with_reducible rfl
   try simp only [Act.put,J1,J2,J3,J4,J5]
   refine wpAnyH_take (i:=1) (v:=?_) rfl (by kernel_rfl) (by kernel_rfl) (by kernel_rfl) (fun _ _ _ h => h) (Or.inl ⟨by kernel_rfl,?_⟩) (by assumption) ?_
   rotate_left
   ·(intro w hSw; (try dsimp only at hSw); go_simp)
    try with_reducible rfl
   try simp only [Act.put,J1,J2,J3,J4,J5,J6]
   refine wpAnyH_take (i:=2) (v:=?_) rfl (by kernel_rfl) (by kernel_rfl) (by kernel_rfl) (fun _ _ _ h => h) (Or.inl ⟨by kernel_rfl,?_⟩) (by assumption) ?_
   rotate_left
   ·(intro w hSw; (try dsimp only at hSw); go_simp)
    try with_reducible rfl
   try simp only [Act.put,J1,J2,J3,J4,J5,J6]
   refine wpAnyH_take (i:=3) (v:=?_) rfl (by kernel_rfl) (by kernel_rfl) (by kernel_rfl) (fun _ _ _ h => h) (Or.inl ⟨by kernel_rfl,?_⟩) (by assumption) ?_
   rotate_left
   ·(intro w hSw; (try dsimp only at hSw); go_simp)
    try with_reducible rfl
   try simp only [Act.put,J1,J2,J3,J4,J5,J6]
   refine wpAnyH_take (i:=5) (v:=?_) rfl (by kernel_rfl) (by kernel_rfl) (by kernel_rfl) (fun _ _ _ h => h) (Or.inl ⟨by kernel_rfl,?_⟩) (by assumption) ?_
   rotate_left
   ·(intro w hSw; (try dsimp only at hSw); go_simp)
    try with_reducible rfl
   try simp only [Act.put,J1,J2,J3,J4,J5,J6]
   refine wpAnyH_take (i:=6) (v:=?_) rfl (by kernel_rfl) (by kernel_rfl) (by kernel_rfl) (fun _ _ _ h => h) (Or.inl ⟨by kernel_rfl,?_⟩) (by assumption) ?_
   rotate_left
   ·(intro w hSw; (try dsimp only at hSw); go_simp)
    try with_reducible rfl
   try simp only [Act.put,J1,J2,J3,J4,J5,J6]
   refine Jr (rs:=[4]) (by kernel_rfl) (by simp) ?_
   refine Jd rfl (fun K hK => ?_) Je
   go_simp
   go_at_call 111
   refine (H3 _).out.mono ?_
   rintro e wc ⟨rfl,hbc⟩
   have HBc : Hid (Below W2.heap.size W2 wc):=belS HB2.out.drew hbc
   clear hbc
   try dsimp only
   refine hK.out _ _ (HS.out _ HBc.out) (fun hHeld => ?_)
   clear hK K
   try simp only [Act.put,J1,J2,J3,J4,J5,J6]
   refine wpAnyH_take (i:=7) (v:=?_) rfl (by kernel_rfl) (by kernel_rfl) (by kernel_rfl) (fun _ _ _ h => h) (Or.inl ⟨by kernel_rfl,?_⟩) (by assumption) ?_
   rotate_left
   ·(intro w hSw; (try dsimp only at hSw); go_simp)
    try with_reducible rfl
   try simp only [Act.put,J1,J2,J3,J4,J5,J6]
   refine wpAnyH_take (i:=8) (v:=?_) rfl (by kernel_rfl) (by kernel_rfl) (by kernel_rfl) (fun _ _ _ h => h) (Or.inl ⟨by kernel_rfl,?_⟩) (by assumption) ?_
   rotate_left
   ·(intro w hSw; (try dsimp only at hSw); go_simp)
    try with_reducible rfl
   try simp only [Act.put,J1,J2,J3,J4,J5,J6]
   refine wpAnyH_done (by kernel_rfl) ?_ _
   clear hHeld
   go_upto_region 8 with fail
   refine wrd (by kernel_rfl) HS.out (HBc.out.drew) (fun hHeld => ?_)
   refine wpAnyH_take (i:=0) (v:=?_) rfl (by kernel_rfl) (by kernel_rfl) (by kernel_rfl) (fun _ _ _ h => h) (Or.inl ⟨by kernel_rfl,?_⟩) (by assumption) ?_
   rotate_left
   ·(intro w hSw; (try dsimp only at hSw); go_simp)
    try with_reducible rfl
   try simp only [Act.put,J1,J2,J3,J4,J5]
   refine wpAnyH_take (i:=1) (v:=?_) rfl (by kernel_rfl) (by kernel_rfl) (by kernel_rfl) (fun _ _ _ h => h) (Or.inl ⟨by kernel_rfl,?_⟩) (by assumption) ?_
   rotate_left
   ·(intro w hSw; (try dsimp only at hSw); go_simp)
    try with_reducible rfl
   try simp only [Act.put,J1,J2,J3,J4,J5,J6]
   refine wpAnyH_take (i:=2) (v:=?_) rfl (by kernel_rfl) (by kernel_rfl) (by kernel_rfl) (fun _ _ _ h => h) (Or.inl ⟨by kernel_rfl,?_⟩) (by assumption) ?_
   rotate_left
   ·(intro w hSw; (try dsimp only at hSw); go_simp)
    try with_reducible rfl
   try simp only [Act.put,J1,J2,J3,J4,J5,J6]
   refine wpAnyH_take (i:=3) (v:=?_) rfl (by kernel_rfl) (by kernel_rfl) (by kernel_rfl) (fun _ _ _ h => h) (Or.inl ⟨by kernel_rfl,?_⟩) (by assumption) ?_
   rotate_left
   ·(intro w hSw; (try dsimp only at hSw); go_simp)
    try with_reducible rfl
   try simp only [Act.put,J1,J2,J3,J4,J5,J6]
   refine wpAnyH_take (i:=5) (v:=?_) rfl (by kernel_rfl) (by kernel_rfl) (by kernel_rfl) (fun _ _ _ h => h) (Or.inl ⟨by kernel_rfl,?_⟩) (by assumption) ?_
   rotate_left
   ·(intro w hSw; (try dsimp only at hSw); go_simp)
    try with_reducible rfl
   try simp only [Act.put,J1,J2,J3,J4,J5,J6]
   refine wpAnyH_take (i:=6) (v:=?_) rfl (by kernel_rfl) (by kernel_rfl) (by kernel_rfl) (fun _ _ _ h => h) (Or.inl ⟨by kernel_rfl,?_⟩) (by assumption) ?_
   rotate_left
   ·(intro w hSw; (try dsimp only at hSw); go_simp)
    try with_reducible rfl
   try simp only [Act.put,J1,J2,J3,J4,J5,J6]
   refine Jr (rs:=[4]) (by kernel_rfl) (by simp) ?_
   refine Jd rfl (fun K hK => ?_) Je
   go_simp
   go_at_call 111
   refine (H4 _).out.mono ?_
   rintro e wd ⟨rfl,hbd⟩
   have HBd : Hid (Below W2.heap.size W2 wd):=belS HBc.out.drew hbd
   clear hbd
   try dsimp only
   refine hK.out _ _ (HS.out _ HBd.out) (fun hHeld => ?_)
   clear hK K
   try simp only [Act.put,J1,J2,J3,J4,J5,J6]
   refine wpAnyH_take (i:=7) (v:=?_) rfl (by kernel_rfl) (by kernel_rfl) (by kernel_rfl) (fun _ _ _ h => h) (Or.inl ⟨by kernel_rfl,?_⟩) (by assumption) ?_
   rotate_left
   ·(intro w hSw; (try dsimp only at hSw); go_simp)
    try with_reducible rfl
   try simp only [Act.put,J1,J2,J3,J4,J5,J6]
   refine wpAnyH_take (i:=8) (v:=?_) rfl (by kernel_rfl) (by kernel_rfl) (by kernel_rfl) (fun _ _ _ h => h) (Or.inl ⟨by kernel_rfl,?_⟩) (by assumption) ?_
   rotate_left
   ·(intro w hSw; (try dsimp only at hSw); go_simp)
    try with_reducible rfl
   try simp only [Act.put,J1,J2,J3,J4,J5,J6]
   refine wpAnyH_done (by kernel_rfl) ?_ _
   clear hHeld
   have HB3:=Jh HBd.out
   clear hne
   by_cases huv : u < v
   ·have h1 : decide (u < v) = true:=by simpa using huv
    have HR : Hid (z0s a p b q x = true):=by
     rw [Hid,HKQ.out,HD.out,h1]; simp
    clear huv
    go_wp2_with fail
    all_goals go_ret
    all_goals exact ⟨by rw [HR.out]; rfl,HB.out.trans (HB3.out.mono HB.out.size)⟩
   ·have h1 : decide (u < v) = false:=by simpa using huv
    clear huv
    by_cases heq : u = v
    ·have h2 : (u == v) = true:=by simpa using heq
     have HR : Hid (z0s a p b q x = (y == 1)):=by
      rw [Hid,HKQ.out,HD.out,h1,h2]; simp
     have HY : Hid ((y == 1) = !(y == 0)):=by
      rw [Hid]; rcases HX2.out with h | h <;> rw [h] <;> rfl
     clear heq
     go_wp2_with fail
     refine (H6 _).out.mono ?_
     rintro e w9 ⟨rfl,hb9⟩
     have HB4:=Jh (belS HB3.out hb9)
     clear hb9
     go_wp2_with fail
     all_goals go_ret
     all_goals exact ⟨by rw [HR.out,HY.out]; rfl,HB.out.trans (HB4.out.mono HB.out.size)⟩
    ·have h2 : (u == v) = false:=by simpa using heq
     have HR : Hid (z0s a p b q x = false):=by
      rw [Hid,HKQ.out,HD.out,h1,h2]; simp
     clear heq
     go_wp2_with fail
     all_goals go_ret
     all_goals exact ⟨by rw [HR.out]; rfl,HB.out.trans (HB3.out.mono HB.out.size)⟩
  ·have hne : (s - t != c) = true:=by simpa using hdc
   have HR : Hid (z0s a p b q x = decide (s - t < c)):=by
    have : (s - t == c) = false:=by simpa using hdc
    rw [Hid,HKQ.out,this]; simp
   clear hdc
   go_wp2_with fail
   all_goals go_ret
   all_goals exact ⟨by rw [HR.out]; rfl,HB.out.trans (HB2.out.mono HB.out.size)⟩
end Go.Proofs.YtockinpjfhhkoaaGreatDoor
