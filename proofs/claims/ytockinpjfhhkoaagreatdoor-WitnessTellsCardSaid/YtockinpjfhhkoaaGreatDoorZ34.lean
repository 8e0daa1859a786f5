/- AtomsDoes: the document's Compared walked. (Printed by gen_dok.py.) -/
import Derived.Deep.RegionHeld
import Derived.Deep.Cut
import Derived.Test.YtockinpjfhhkoaaGreatDoorZ23
import Derived.Test.YtockinpjfhhkoaaGreatDoorZ31
import Derived.Test.YtockinpjfhhkoaaGreatDoorZ05
set_option maxRecDepth 100000
set_option maxHeartbeats 16000000
open List renaming setIfInBounds_toArray → J1, set_cons_zero → J2, set_cons_succ → J3, getElem_toArray → J4, getElem_cons_zero → J5, getElem_cons_succ → J6
open Go.Lib renaming cell_of_heap → Jc, hid → Jh
open Go.AllReadyH renaming cons → Jd, nil → Je
open Go renaming wpAnyH_ready → Jr
open Go.RowKit.Below renaming heap_alloc → Jb
namespace Go.Proofs.YtockinpjfhhkoaaGreatDoor
open Go.RowKit
def sgn2 (u v : Int) : Int:=if u < v then -1 else if u > v then 1 else 0
theorem z0x {a p b q : Int} (w : World) (ia : in64 a) (ib : in64 b) (a1 : 1 ≤ p) (a2 : p ≤ 1048576) (b1 : 1 ≤ q) (b2 : q ≤ 1048576) :
 Calls Tryz.prog 166 #[.agg #[.int .i64 a,.int .i64 p],.agg #[.int .i64 b,.int .i64 q]] w fun e w' => e = .returned (.int .i64 (cmpR (a,p) (b,q))) ∧ Below w.heap.size w w':=by
 obtain ⟨W2,hW2⟩ : ∃ W2,W2 = (w.alloc (.cells #[.int .i64 a,.int .i64 p] 50)).alloc (.cells #[.int .i64 b,.int .i64 q] 50):=⟨_,rfl⟩
 have hb2 : Below w.heap.size w W2:=by rw [hW2]; exact (z0c _ _).alloc (by simp) _
 have k0 : W2.heap[w.heap.size]? = some (.cells #[.int .i64 a,.int .i64 p] 50 (0,0)):=by rw [hW2]; exact (Jb _ _ _ (by simp)).trans (z03 rfl)
 have k1 : W2.heap[w.heap.size + 1]? = some (.cells #[.int .i64 b,.int .i64 q] 50 (0,0)):=by rw [hW2]; exact z03 (by simp)
 have HS : Hid (∀ W,Below W2.heap.size W2 W → W.cell? ⟨w.heap.size,0,none⟩ = some (.int .i64 a) ∧ W.cell? ⟨w.heap.size,1,none⟩ = some (.int .i64 p) ∧ W.cell? ⟨w.heap.size + 1,0,none⟩ = some (.int .i64 b) ∧ W.cell? ⟨w.heap.size + 1,1,none⟩ = some (.int .i64 q) ∧ w.heap.size < W.heap.size ∧ w.heap.size + 1 < W.heap.size):=by
  intro W hW
  have m0:=(hW.block _ (Array.getElem?_eq_some_iff.1 k0).1).trans k0
  have m1:=(hW.block _ (Array.getElem?_eq_some_iff.1 k1).1).trans k1
  exact ⟨Jc m0 0,Jc m0 1,Jc m1 0,Jc m1 1,(Array.getElem?_eq_some_iff.1 m0).1,(Array.getElem?_eq_some_iff.1 m1).1⟩
 have HB:=Jh hb2
 have HW2:=Jh hW2.symm
 clear hW2 hb2 k0 k1
 have H1:=fun W => Jh ((z2t a p W a1 a2 ia.1 ia.2).mono fun e w' h => (⟨h.1,h.2 ▸ Below.refl _ _⟩ : _ ∧ Below W.heap.size W w'))
 have H2:=fun W => Jh ((z2t b q W b1 b2 ib.1 ib.2).mono fun e w' h => (⟨h.1,h.2 ▸ Below.refl _ _⟩ : _ ∧ Below W.heap.size W w'))
 have H3:=fun W => Jh ((z1t a p W a1 a2).mono fun e w' h => (⟨h.1,h.2 ▸ Below.refl _ _⟩ : _ ∧ Below W.heap.size W w'))
 have H4:=fun W => Jh ((z1t b q W b1 b2).mono fun e w' h => (⟨h.1,h.2 ▸ Below.refl _ _⟩ : _ ∧ Below W.heap.size W w'))
 have hw1:=z2c (a:=a) a1 a2 b1 b2
 have hw2:=z2c (a:=b) b1 b2 a1 a2
 have HQ : Hid (cmpR (a,p) (b,q) = if a / p = b / q then sgn2 ((a % p) * q) ((b % q) * p) else sgn2 (a / p) (b / q)):=rfl
 obtain ⟨s,hs⟩ : ∃ s,a / p = s:=⟨_,rfl⟩
 obtain ⟨t,ht⟩ : ∃ t,b / q = t:=⟨_,rfl⟩
 obtain ⟨m,hm⟩ : ∃ m,a % p = m:=⟨_,rfl⟩
 obtain ⟨k,hk⟩ : ∃ k,b % q = k:=⟨_,rfl⟩
 rw [hs] at H1 HQ
 rw [ht] at H2 HQ
 rw [hm] at H3 hw1 HQ
 rw [hk] at H4 hw2 HQ
 obtain ⟨u,hu⟩ : ∃ u,m * q = u:=⟨_,rfl⟩
 obtain ⟨v,hv⟩ : ∃ v,k * p = v:=⟨_,rfl⟩
 rw [hu] at hw1 HQ
 rw [hv] at hw2 HQ
 have hw1' : wrap64 (m * q) = u:=by rw [hu]; exact (IntWalk.i64_left u).symm.trans hw1
 have hw2' : wrap64 (k * p) = v:=by rw [hv]; exact (IntWalk.i64_left v).symm.trans hw2
 have hv1 : IntKind.i64.wrap (m * q) = u:=by rw [hu]; exact hw1
 have hv2 : IntKind.i64.wrap (k * p) = v:=by rw [hv]; exact hw2
 clear ia ib a1 a2 b1 b2 hs ht hm hk hu hv
 go_enter Tryz.func166,Tryz.ntmps166
 go_upto_region 1 with fail
 rw [HW2.out]
 clear HW2
 obtain ⟨x0,x1,x2,x3,xl,xm⟩:=HS.out W2 (Below.refl _ _)
 go_wp2_with fail
 refine (H1 _).out.mono ?_
 rintro e w1 ⟨rfl,hb1⟩
 have HB1 : Hid (Below W2.heap.size W2 w1):=hb1
 clear hb1 x0 x1 x2 x3 xl xm
 obtain ⟨x0,x1,x2,x3,xl,xm⟩:=HS.out w1 HB1.out
 go_wp2_with fail
 refine (H2 _).out.mono ?_
 rintro e w2 ⟨rfl,hb2⟩
 have HB2 : Hid (Below W2.heap.size W2 w2):=belS HB1.out hb2
 clear hb2 x0 x1 x2 x3 xl xm
 by_cases hst : s = t
 ·have hd : (s == t) = true:=by simpa using hst
  rw [if_pos hst] at HQ
  clear hst
  go_upto_region 4 with fail
  refine wrd (by kernel_rfl) HS.out (HB2.out.drew) (fun hHeld => ?_)
  refine wpAnyH_take (i:=0) (v:=?_) rfl (by kernel_rfl) (by kernel_rfl) (by kernel_rfl) (fun _ _ _ h => h) (Or.inl ⟨by kernel_rfl,?_⟩) (by assumption) ?_
  rotate_left
  ·(intro w hSw; (try dsimp only at hSw); go_simp)
   try with_reducible rfl
  try simp only [Act.put,J1,J2,J3,J4,J5]
  refine wpAnyH_take (i:=1) (v:=?_) rfl (by kernel_rfl) (by kernel_rfl) (by kernel_rfl) (fun _ _ _ h => h) (Or.inl ⟨by kernel_rfl,?_⟩) (by assumption) ?_
  rotate_left
  ·(intro w hSw; (try dsimp only at hSw); go_simp)
   try with_reducible rfl
  try simp only [Act.put,J1,J2,J3,J4,J5,J6]
  refine wpAnyH_take (i:=2) (v:=?_) rfl (by kernel_rfl) (by kernel_rfl) (by kernel_rfl) (fun _ _ _ h => h) (Or.inl ⟨by kernel_rfl,?_⟩) (by assumption) ?_
  rotate_left
  ·(intro w hSw; (try dsimp only at hSw); go_simp)
   try with_reducible rfl
  try simp only [Act.put,J1,J2,J3,J4,J5,J6]
  refine wpAnyH_take (i:=3) (v:=?_) rfl (by kernel_rfl) (by kernel_rfl) (by kernel_rfl) (fun _ _ _ h => h) (Or.inl ⟨by kernel_rfl,?_⟩) (by assumption) ?_
  rotate_left
  ·(intro w hSw; (try dsimp only at hSw); go_simp)
   try with_reducible rfl
  try simp only [Act.put,J1,J2,J3,J4,J5,J6]
  refine wpAnyH_take (i:=5) (v:=?_) rfl (by kernel_rfl) (by kernel_rfl) (by kernel_rfl) (fun _ _ _ h => h) (Or.inl ⟨by kernel_rfl,?_⟩) (by assumption) ?_
  rotate_left
  ·(intro w hSw; (try dsimp only at hSw); go_simp)
   try with_reducible rfl
  try simp only [Act.put,J1,J2,J3,J4,J5,J6]
  refine wpAnyH_take (i:=6) (v:=?_) rfl (by kernel_rfl) (by kernel_rfl) (by kernel_rfl) (fun _ _ _ h => h) (Or.inl ⟨by kernel_rfl,?_⟩) (by assumption) ?_
  rotate_left
  ·(intro w hSw; (try dsimp only at hSw); go_simp)
   try with_reducible rfl
  try simp only [Act.put,J1,J2,J3,J4,J5,J6]
  refine Jr (rs:=[4]) (by kernel_rfl) (by simp) ?_
  refine Jd rfl (fun K hK => ?_) Je
  go_simp
  go_at_call 111
  refine (H3 _).out.mono ?_
  rintro e wc ⟨rfl,hbc⟩
  have HBc : Hid (Below W2.heap.size W2 wc):=belS HB2.out.drew hbc
  clear hbc
  try dsimp only
  refine hK.out _ _ (HS.out _ HBc.out) (fun hHeld => ?_)
  clear hK K
  try simp only [Act.put,J1,J2,J3,J4,J5,J6]
  refine wpAnyH_take (i:=7) (v:=?_) rfl (by kernel_rfl) (by kernel_rfl) (by kernel_rfl) (fun _ _ _ h => h) (Or.inl ⟨by kernel_rfl,?_⟩) (by assumption) ?_
  rotate_left
  ·(intro w hSw; (try dsimp only at hSw); go_simp)
   try with_reducible rfl
  try simp only [Act.put,J1,J2,J3,J4,J5,J6]
  refine wpAnyH_take (i:=8) (v:=?_) rfl (by kernel_rfl) (by kernel_rfl) (by kernel_rfl) (fun _ _ _ h => h) (Or.inl ⟨by kernel_rfl,?_⟩) (by assumption) ?_
  rotate_left
  ·(intro w hSw; (try dsimp only at hSw); go_simp)
   try with_reducible rfl
  try simp only [Act.put,J1,J2,J3,J4,J5,J6]
  refine wpAnyH_done (by kernel_rfl) ?_ _
  clear hHeld
  go_upto_region 5 with fail
  refine wrd (by kernel_rfl) HS.out (HBc.out.drew) (fun hHeld => ?_)
  refine wpAnyH_take (i:=0) (v:=?_) rfl (by kernel_rfl) (by kernel_rfl) (by kernel_rfl) (fun _ _ _ h => h) (Or.inl ⟨by kernel_rfl,?_⟩) (by assumption) ?_
  rotate_left
  ·(intro w hSw; (try dsimp only at hSw); go_simp)
   try with_reducible rfl
  try simp only [Act.put,J1,J2,J3,J4,J5]
  refine wpAnyH_take (i:=1) (v:=?_) rfl (by kernel_rfl) (by kernel_rfl) (by kernel_rfl) (fun _ _ _ h => h) (Or.inl ⟨by kernel_rfl,?_⟩) (by assumption) ?_
  rotate_left
  ·(intro w hSw; (try dsimp only at hSw); go_simp)
   try with_reducible rfl
  try simp only [Act.put,J1,J2,J3,J4,J5,J6]
  refine wpAnyH_take (i:=2) (v:=?_) rfl (by kernel_rfl) (by kernel_rfl) (by kernel_rfl) (fun _ _ _ h => h) (Or.inl ⟨by kernel_rfl,?_⟩) (by assumption) ?_
  rotate_left
  ·(intro w hSw; (try dsimp only at hSw); go_simp)
   try with_reducible rfl
  try simp only [Act.put,J1,J2,J3,J4,J5,J6]
  refine wpAnyH_take (i:=3) (v:=?_) rfl (by kernel_rfl) (by kernel_rfl) (by kernel_rfl) (fun _ _ _ h => h) (Or.inl ⟨by kernel_rfl,?_⟩) (by assumption) ?_
  rotate_left
  ·(intro w hSw; (try dsimp only at hSw); go_simp)
   try with_reducible rfl
  try simp only [Act.put,J1,J2,J3,J4,J5,J6]
  refine wpAnyH_take (i:=5) (v:=?_) rfl (by kernel_rfl) (by kernel_rfl) (by kernel_rfl) (fun _ _ _ h => h) (Or.inl ⟨by kernel_rfl,?_⟩) (by assumption) ?_
  rotate_left
  ·(intro w hSw; (try dsimp only at hSw); go_simp)
   try with_reducible rfl
  try simp only [Act.put,J1,J2,J3,J4,J5,J6]
  refine wpAnyH_take (i:=6) (v:=?_) rfl (by kernel_rfl) (by kernel_rfl) (by kernel_rfl) (fun _ _ _ h => h) (Or.inl ⟨by kernel_rfl,?_⟩) (by assumption) ?_
  rotate_left
  ·(intro w hSw; (try dsimp only at hSw); go_simp)
   try with_reducible rfl
  try simp only [Act.put,J1,J2,J3,J4,J5,J6]
  refine Jr (rs:=[4]) (by kernel_rfl) (by simp) ?_
  refine Jd rfl (fun K hK => ?_) Je
  go_simp
  go_at_call 111
  refine (H4 _).out.mono ?_
  rintro e wd ⟨rfl,hbd⟩
  have HBd : Hid (Below W2.heap.size W2 wd):=belS HBc.out.drew hbd
  clear hbd
  try dsimp only
  refine hK.out _ _ (HS.out _ HBd.out) (fun hHeld => ?_)
  clear hK K
  try simp only [Act.put,J1,J2,J3,J4,J5,J6]
  refine wpAnyH_take (i:=7) (v:=?_) rfl (by kernel_rfl) (by kernel_rfl) (by kernel_rfl) (fun _ _ _ h => h) (Or.inl ⟨by kernel_rfl,?_⟩) (by assumption) ?_
  rotate_left
  ·(intro w hSw; (try dsimp only at hSw); go_simp)
   try with_reducible rfl
  try simp only [Act.put,J1,J2,J3,J4,J5,J6]
  refine wpAnyH_take (i:=8) (v:=?_) rfl (by kernel_rfl) (by kernel_rfl) (by kernel_rfl) (fun _ _ _ h => h) (Or.inl ⟨by kernel_rfl,?_⟩) (by assumption) ?_
  rotate_left
  ·(intro w hSw; (try dsimp only at hSw); go_simp)
   try with_reducible rfl
  try simp only [Act.put,J1,J2,J3,J4,J5,J6]
  refine wpAnyH_done (by kernel_rfl) ?_ _
  clear hHeld
  by_cases h1 : u < v
  ·have e1 : decide (u < v) = true:=by simpa using h1
   have HV : Hid (sgn2 u v = -1):=if_pos h1
   clear h1
   go_wp2_with fail
   all_goals go_ret
   all_goals exact ⟨by rw [HQ.out,HV.out]; rfl,HB.out.trans (HBd.out.mono HB.out.size)⟩
  ·have e1 : decide (u < v) = false:=by simpa using h1
   by_cases h2 : v < u
   ·have e2 : decide (v < u) = true:=by simpa using h2
    have HV : Hid (sgn2 u v = 1):=by rw [Hid,sgn2,if_neg h1,if_pos h2]
    clear h1 h2
    go_wp2_with fail
    all_goals go_ret
    all_goals exact ⟨by rw [HQ.out,HV.out]; rfl,HB.out.trans (HBd.out.mono HB.out.size)⟩
   ·have e2 : decide (v < u) = false:=by simpa using h2
    have HV : Hid (sgn2 u v = 0):=by rw [Hid,sgn2,if_neg h1,if_neg h2]
    clear h1 h2
    go_wp2_with fail
    all_goals go_ret
    all_goals exact ⟨by rw [HQ.out,HV.out]; rfl,HB.out.trans (HBd.out.mono HB.out.size)⟩
 ·have hd : (s == t) = false:=by simpa using hst
  rw [if_neg hst] at HQ
  clear hst
  by_cases h1 : s < t
  ·have e1 : decide (s < t) = true:=by simpa using h1
   have HV : Hid (sgn2 s t = -1):=if_pos h1
   clear h1
   go_wp2_with fail
   all_goals go_ret
   all_goals exact ⟨by rw [HQ.out,HV.out]; rfl,HB.out.trans (HB2.out.mono HB.out.size)⟩
  ·have e1 : decide (s < t) = false:=by simpa using h1
   by_cases h2 : t < s
   ·have e2 : decide (t < s) = true:=by simpa using h2
    have HV : Hid (sgn2 s t = 1):=by rw [Hid,sgn2,if_neg h1,if_pos h2]
    clear h1 h2
    go_wp2_with fail
    all_goals go_ret
    all_goals exact ⟨by rw [HQ.out,HV.out]; rfl,HB.out.trans (HB2.out.mono HB.out.size)⟩
   ·have e2 : decide (t < s) = false:=by simpa using h2
    have HV : Hid (sgn2 s t = 0):=by rw [Hid,sgn2,if_neg h1,if_neg h2]
    clear h1 h2
    go_wp2_with fail
    all_goals go_ret
    all_goals exact ⟨by rw [HQ.out,HV.out]; rfl,HB.out.trans (HB2.out.mono HB.out.size)⟩
end Go.Proofs.YtockinpjfhhkoaaGreatDoor
