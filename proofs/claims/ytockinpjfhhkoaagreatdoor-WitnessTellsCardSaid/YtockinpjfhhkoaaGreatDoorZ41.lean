/- Proofs of matches: an atom's. (Printed by gen_wbd.py.) -/
import Derived.Deep.RegionHeld
import Derived.Deep.Cut
import Derived.LoopTactic
import Derived.Test.YtockinpjfhhkoaaGreatDoorZ23
import Derived.Test.YtockinpjfhhkoaaGreatDoorZ22
import Derived.Test.YtockinpjfhhkoaaGreatDoorZ06
set_option maxRecDepth 100000
set_option maxHeartbeats 16000000
open List renaming setIfInBounds_toArray → J1, set_cons_zero → J2, set_cons_succ → J3, getElem_toArray → J4, getElem_cons_zero → J5, getElem_cons_succ → J6
open Go.Lib renaming cell_of_heap → Jc, hid → Jh
open Go.AllReadyH renaming cons → Jd, nil → Je
open Go renaming wpAnyH_ready → Jr
open Go.RowKit.Below renaming heap_alloc → Jb
namespace Go.Proofs.YtockinpjfhhkoaaGreatDoor
open Go.RowKit
theorem atom171_any (names : List ByteArray) (nv : Value) (hns : ∀ s ∈ names,s.size ≤ 1048576) {m : Nat} (f : FT m) (k : Int) (a1 a2 : Option Addr) (c1 l2 c2 : Nat) (lo hi : Int) (ls hs op : Bool) (la : Option Addr) (lc : Nat) (l : List (Int × Int)) (a p b q wk sd : Int) (a3 a4 : Option Addr) (l3 l4 c3 c4 : Nat) (w : World)
 (hr : Rdy w) (hn : NRep w w.heap.size nv names) (hf : FRow w w.heap.size m a1 [f]) (hl : Segs w w.heap.size (.slice la l.length lc) l) (hsum : SumOk l) (ia : in64 a) (ib : in64 b) :
 Calls Tryz.prog 171 #[.agg #[nv,.slice la l.length lc],.agg #[.int .u8 k,.slice a1 1 c1,.slice a2 l2 c2,.int .i64 lo,.bool ls,.int .i64 hi,.bool hs,.bool op],.agg #[.int .i64 a,.int .i64 p],.agg #[.int .i64 b,.int .i64 q],.agg #[.int .u8 wk,.int .u8 sd,.slice a3 l3 c3,.slice a4 l4 c4]] w fun e w' => e = .returned (.bool (((sd == 0) && ((l3 : Int) == 0) && ((l4 : Int) == 0)) && z5f (z1v names f) l (a,p) (b,q))) ∧ Below w.heap.size w w':=by
 obtain ⟨WB,hWWB⟩ : ∃ WB,WB = ((((w.alloc (.cells #[nv,.slice la l.length lc] 107)).alloc (.cells #[.int .u8 k,.slice a1 1 c1,.slice a2 l2 c2,.int .i64 lo,.bool ls,.int .i64 hi,.bool hs,.bool op] 47)).alloc (.cells #[.int .i64 a,.int .i64 p] 50)).alloc (.cells #[.int .i64 b,.int .i64 q] 50)).alloc (.cells #[.int .u8 wk,.int .u8 sd,.slice a3 l3 c3,.slice a4 l4 c4] 56):=⟨_,rfl⟩
 have hbWB : Below w.heap.size w WB:=by rw [hWWB]; exact ((((z0c _ _).alloc (by simp <;> omega) _).alloc (by simp <;> omega) _).alloc (by simp <;> omega) _).alloc (by simp <;> omega) _
 have hx0 : WB.heap[w.heap.size]? = some (.cells #[nv,.slice la l.length lc] 107 (0,0)):=by rw [hWWB]; exact (Jb _ _ _ (by simp <;> omega)).trans ((Jb _ _ _ (by simp <;> omega)).trans ((Jb _ _ _ (by simp <;> omega)).trans ((Jb _ _ _ (by simp <;> omega)).trans (z03 rfl))))
 have hx1 : WB.heap[w.heap.size + 1]? = some (.cells #[.int .u8 k,.slice a1 1 c1,.slice a2 l2 c2,.int .i64 lo,.bool ls,.int .i64 hi,.bool hs,.bool op] 47 (0,0)):=by rw [hWWB]; exact (Jb _ _ _ (by simp <;> omega)).trans ((Jb _ _ _ (by simp <;> omega)).trans ((Jb _ _ _ (by simp <;> omega)).trans (z03 (by simp))))
 have hx2 : WB.heap[w.heap.size + 1 + 1]? = some (.cells #[.int .i64 a,.int .i64 p] 50 (0,0)):=by rw [hWWB]; exact (Jb _ _ _ (by simp <;> omega)).trans ((Jb _ _ _ (by simp <;> omega)).trans (z03 (by simp)))
 have hx3 : WB.heap[w.heap.size + 1 + 1 + 1]? = some (.cells #[.int .i64 b,.int .i64 q] 50 (0,0)):=by rw [hWWB]; exact (Jb _ _ _ (by simp <;> omega)).trans (z03 (by simp))
 have hx4 : WB.heap[w.heap.size + 1 + 1 + 1 + 1]? = some (.cells #[.int .u8 wk,.int .u8 sd,.slice a3 l3 c3,.slice a4 l4 c4] 56 (0,0)):=by rw [hWWB]; exact z03 (by simp)
 have HX : Hid (∀ W,Below WB.heap.size WB W → W.heap[w.heap.size]? = some (.cells #[nv,.slice la l.length lc] 107 (0,0)) ∧ W.heap[w.heap.size + 1]? = some (.cells #[.int .u8 k,.slice a1 1 c1,.slice a2 l2 c2,.int .i64 lo,.bool ls,.int .i64 hi,.bool hs,.bool op] 47 (0,0)) ∧ W.heap[w.heap.size + 1 + 1]? = some (.cells #[.int .i64 a,.int .i64 p] 50 (0,0)) ∧ W.heap[w.heap.size + 1 + 1 + 1]? = some (.cells #[.int .i64 b,.int .i64 q] 50 (0,0)) ∧ W.heap[w.heap.size + 1 + 1 + 1 + 1]? = some (.cells #[.int .u8 wk,.int .u8 sd,.slice a3 l3 c3,.slice a4 l4 c4] 56 (0,0))):=fun W hW => ⟨(hW.block _ (Array.getElem?_eq_some_iff.1 hx0).1).trans hx0,(hW.block _ (Array.getElem?_eq_some_iff.1 hx1).1).trans hx1,(hW.block _ (Array.getElem?_eq_some_iff.1 hx2).1).trans hx2,(hW.block _ (Array.getElem?_eq_some_iff.1 hx3).1).trans hx3,(hW.block _ (Array.getElem?_eq_some_iff.1 hx4).1).trans hx4⟩
 have HF : Hid (∀ W,Below WB.heap.size WB W → W.cell? ⟨w.heap.size,0,none⟩ = some (nv) ∧ W.cell? ⟨w.heap.size,1,none⟩ = some (.slice la l.length lc) ∧ W.cell? ⟨w.heap.size + 1,0,none⟩ = some (.int .u8 k) ∧ W.cell? ⟨w.heap.size + 1,1,none⟩ = some (.slice a1 1 c1) ∧ W.cell? ⟨w.heap.size + 1,2,none⟩ = some (.slice a2 l2 c2) ∧ W.cell? ⟨w.heap.size + 1,3,none⟩ = some (.int .i64 lo) ∧ W.cell? ⟨w.heap.size + 1,4,none⟩ = some (.bool ls) ∧ W.cell? ⟨w.heap.size + 1,5,none⟩ = some (.int .i64 hi) ∧ W.cell? ⟨w.heap.size + 1,6,none⟩ = some (.bool hs) ∧ W.cell? ⟨w.heap.size + 1,7,none⟩ = some (.bool op) ∧ W.cell? ⟨w.heap.size + 1 + 1,0,none⟩ = some (.int .i64 a) ∧ W.cell? ⟨w.heap.size + 1 + 1,1,none⟩ = some (.int .i64 p) ∧ W.cell? ⟨w.heap.size + 1 + 1 + 1,0,none⟩ = some (.int .i64 b) ∧ W.cell? ⟨w.heap.size + 1 + 1 + 1,1,none⟩ = some (.int .i64 q) ∧ W.cell? ⟨w.heap.size + 1 + 1 + 1 + 1,0,none⟩ = some (.int .u8 wk) ∧ W.cell? ⟨w.heap.size + 1 + 1 + 1 + 1,1,none⟩ = some (.int .u8 sd) ∧ W.cell? ⟨w.heap.size + 1 + 1 + 1 + 1,2,none⟩ = some (.slice a3 l3 c3) ∧ W.cell? ⟨w.heap.size + 1 + 1 + 1 + 1,3,none⟩ = some (.slice a4 l4 c4) ∧ w.heap.size < W.heap.size ∧ w.heap.size + 1 < W.heap.size ∧ w.heap.size + 1 + 1 < W.heap.size ∧ w.heap.size + 1 + 1 + 1 < W.heap.size ∧ w.heap.size + 1 + 1 + 1 + 1 < W.heap.size):=by
  intro W hW
  obtain ⟨k0,k1,k2,k3,k4⟩:=HX.out W hW
  exact ⟨Jc k0 0,Jc k0 1,Jc k1 0,Jc k1 1,Jc k1 2,Jc k1 3,Jc k1 4,Jc k1 5,Jc k1 6,Jc k1 7,Jc k2 0,Jc k2 1,Jc k3 0,Jc k3 1,Jc k4 0,Jc k4 1,Jc k4 2,Jc k4 3,(Array.getElem?_eq_some_iff.1 k0).1,(Array.getElem?_eq_some_iff.1 k1).1,(Array.getElem?_eq_some_iff.1 k2).1,(Array.getElem?_eq_some_iff.1 k3).1,(Array.getElem?_eq_some_iff.1 k4).1⟩
 have HBB:=Jh hbWB
 have HWB:=Jh hWWB.symm
 clear hWWB hbWB hx0 hx1 hx2 hx3 hx4
 have HF2 : Hid (∀ W,Below WB.heap.size WB W → W.cell? ⟨w.heap.size + 1 + 1,0,none⟩ = some (.int .i64 a) ∧ W.cell? ⟨w.heap.size + 1 + 1,1,none⟩ = some (.int .i64 p) ∧ W.cell? ⟨w.heap.size + 1 + 1 + 1,0,none⟩ = some (.int .i64 b) ∧ W.cell? ⟨w.heap.size + 1 + 1 + 1,1,none⟩ = some (.int .i64 q) ∧ W.cell? ⟨w.heap.size + 1 + 1 + 1 + 1,0,none⟩ = some (.int .u8 wk) ∧ W.cell? ⟨w.heap.size + 1 + 1 + 1 + 1,1,none⟩ = some (.int .u8 sd) ∧ W.cell? ⟨w.heap.size + 1 + 1 + 1 + 1,2,none⟩ = some (.slice a3 l3 c3) ∧ W.cell? ⟨w.heap.size + 1 + 1 + 1 + 1,3,none⟩ = some (.slice a4 l4 c4) ∧ w.heap.size + 1 + 1 < W.heap.size ∧ w.heap.size + 1 + 1 + 1 < W.heap.size ∧ w.heap.size + 1 + 1 + 1 + 1 < W.heap.size):=by
  intro W hW
  obtain ⟨k0,k1,k2,k3,k4⟩:=HX.out W hW
  exact ⟨Jc k2 0,Jc k2 1,Jc k3 0,Jc k3 1,Jc k4 0,Jc k4 1,Jc k4 2,Jc k4 3,(Array.getElem?_eq_some_iff.1 k2).1,(Array.getElem?_eq_some_iff.1 k3).1,(Array.getElem?_eq_some_iff.1 k4).1⟩
 have HBW : Hid (∀ W,Below WB.heap.size WB W → Below w.heap.size w W):=fun W h => HBB.out.trans (h.mono HBB.out.size)
 have HRD : Hid (∀ W,Below WB.heap.size WB W → Rdy W):=fun W h => hr.below (HBW.out W h)
 have HNR : Hid (∀ W,Below WB.heap.size WB W → NRep W W.heap.size nv names):=fun W h => hn.up (HBW.out W h) (HBW.out W h).size
 have HFR : Hid (∀ W,Below WB.heap.size WB W → FRow W W.heap.size m a1 [f]):=fun W h => FRow.up hf (HBW.out W h) (HBW.out W h).size
 have HSG : Hid (∀ W,Below WB.heap.size WB W → Segs W w.heap.size (.slice la l.length lc) l):=fun W h => Segs.below (HBW.out W h) hl
 have HNS:=Jh hns
 have HSU:=Jh hsum
 have HIA:=Jh ia
 have HIB:=Jh ib
 have H1:=fun W => Jh (z4c wk sd 0 a3 a4 l3 l4 c3 c4 W)
 have H2:=fun W => Jh (z16 a p b q W ia ib)
 have H3:=fun W => Jh (z16 a p 0 1 W ia ⟨by omega,by omega⟩)
 have HW0:=fun W => Jh (z2h 0 W)
 obtain ⟨B1,hB1⟩ : ∃ B,((sd == 0) && ((l3 : Int) == 0) && ((l4 : Int) == 0)) = B:=⟨_,rfl⟩
 obtain ⟨B2,hB2⟩ : ∃ B,z0f (a,p) (b,q) = B:=⟨_,rfl⟩
 obtain ⟨B3,hB3⟩ : ∃ B,z0f (a,p) (z1i 0) = B:=⟨_,rfl⟩
 have hB3' : z0f (a,p) (0,1) = B3:=hB3
 have HV : Hid (z5f (z1v names f) l (a,p) (b,q) = (B2 && !B3 && (match z1l (z1v names f) (a,p) (b,q) 0 l with | none => false | some e => !z0f (z1i e) (b,q)))):=by rw [Hid,z5f,hB2,hB3]; rfl
 rw [hB1] at H1 ⊢
 rw [hB2] at H2
 rw [hB3'] at H3
 clear hB1 hB2 hB3 hB3' hns hsum ia ib hr hn hf hl
 cases B1 with
 | false =>
  go_enter Tryz.func171,Tryz.ntmps171
  go_upto_region 2 with fail
  rw [HWB.out]
  clear HWB
  refine wrd (by kernel_rfl) HF2.out ((Below.refl WB.heap.size WB).drew) (fun hHeld => ?_)
  refine z00 (f:=14) (by kernel_rfl) (by assumption) [(0,true)] rfl (by kernel_rfl) ?_
  repeat (refine SeqH.take (v:=?_) rfl (fun _ _ _ h => h) (by kernel_rfl) ?_ ?_; rotate_left; (· (intro w hSw; (try dsimp only at hSw); go_simp) <;> with_reducible rfl); (try simp only [Act.put,J1,J2,J3,J4,J5]))
  refine SeqH.nil ?_
  refine Jr (rs:=[1]) (by kernel_rfl) (by simp) ?_
  refine Jd rfl (fun K hK => ?_) Je
  go_simp
  go_at_call 216
  refine (H1 _).out.mono ?_
  rintro e wc ⟨rfl,hbc⟩
  have HBc : Hid (Below WB.heap.size WB wc):=belS ((Below.refl WB.heap.size WB).drew) hbc
  clear hbc
  try dsimp only
  refine hK.out _ _ (HF2.out _ HBc.out) (fun hHeld => ?_)
  clear hK K
  try simp only [Act.put,J1,J2,J3,J4,J5,J6]
  refine z00 (f:=0) (by kernel_rfl) (by assumption) [(2,true),(3,true),(4,false),(5,false),(6,false),(7,false),(8,true),(9,true),(10,false),(11,false),(12,false),(13,false),(14,true)] rfl (by kernel_rfl) ?_
  repeat (first | (refine SeqH.skip rfl (fun _ _ _ h => h) (by kernel_rfl) ?_; (try simp only [Act.put,J1,J2,J3,J4,J5,J6])) | (refine SeqH.take (v:=?_) rfl (fun _ _ _ h => h) (by kernel_rfl) ?_ ?_; rotate_left; (· (intro w hSw; (try dsimp only at hSw); go_simp) <;> with_reducible rfl); (try simp only [Act.put,J1,J2,J3,J4,J5,J6])))
  refine SeqH.nil ?_
  refine wpAnyH_done (by kernel_rfl) ?_ _
  clear hHeld
  go_wp2_with fail
  all_goals go_ret
  all_goals exact ⟨rfl,HBW.out _ HBc.out⟩
 | true =>
 cases B2 with
 | false =>
  have HVV : Hid (z5f (z1v names f) l (a,p) (b,q) = false):=by rw [Hid,HV.out]; rfl
  go_enter Tryz.func171,Tryz.ntmps171
  go_upto_region 2 with fail
  rw [HWB.out]
  clear HWB
  refine wrd (by kernel_rfl) HF2.out ((Below.refl WB.heap.size WB).drew) (fun hHeld => ?_)
  refine z00 (f:=14) (by kernel_rfl) (by assumption) [(0,true)] rfl (by kernel_rfl) ?_
  repeat (refine SeqH.take (v:=?_) rfl (fun _ _ _ h => h) (by kernel_rfl) ?_ ?_; rotate_left; (· (intro w hSw; (try dsimp only at hSw); go_simp) <;> with_reducible rfl); (try simp only [Act.put,J1,J2,J3,J4,J5]))
  refine SeqH.nil ?_
  refine Jr (rs:=[1]) (by kernel_rfl) (by simp) ?_
  refine Jd rfl (fun K hK => ?_) Je
  go_simp
  go_at_call 216
  refine (H1 _).out.mono ?_
  rintro e wc ⟨rfl,hbc⟩
  have HBc : Hid (Below WB.heap.size WB wc):=belS ((Below.refl WB.heap.size WB).drew) hbc
  clear hbc
  try dsimp only
  refine hK.out _ _ (HF2.out _ HBc.out) (fun hHeld => ?_)
  clear hK K
  try simp only [Act.put,J1,J2,J3,J4,J5,J6]
  refine z00 (f:=9) (by kernel_rfl) (by assumption) [(2,true),(3,true),(4,true),(5,true)] rfl (by kernel_rfl) ?_
  repeat (refine SeqH.take (v:=?_) rfl (fun _ _ _ h => h) (by kernel_rfl) ?_ ?_; rotate_left; (· (intro w hSw; (try dsimp only at hSw); go_simp) <;> with_reducible rfl); (try simp only [Act.put,J1,J2,J3,J4,J5,J6]))
  refine SeqH.nil ?_
  refine Jr (rs:=[6]) (by kernel_rfl) (by simp) ?_
  refine Jd rfl (fun K hK => ?_) Je
  go_simp
  go_at_call 217
  refine (H2 _).out.mono ?_
  rintro e wd ⟨rfl,hbd⟩
  have HBd : Hid (Below WB.heap.size WB wd):=belS (HBc.out) hbd
  clear hbd
  try dsimp only
  refine hK.out _ _ (HF2.out _ HBd.out) (fun hHeld => ?_)
  clear hK K
  try simp only [Act.put,J1,J2,J3,J4,J5,J6]
  refine z00 (f:=0) (by kernel_rfl) (by assumption) [(7,true),(8,true),(9,true),(10,false),(11,false),(12,false),(13,false),(14,true)] rfl (by kernel_rfl) ?_
  repeat (first | (refine SeqH.skip rfl (fun _ _ _ h => h) (by kernel_rfl) ?_; (try simp only [Act.put,J1,J2,J3,J4,J5,J6])) | (refine SeqH.take (v:=?_) rfl (fun _ _ _ h => h) (by kernel_rfl) ?_ ?_; rotate_left; (· (intro w hSw; (try dsimp only at hSw); go_simp) <;> with_reducible rfl); (try simp only [Act.put,J1,J2,J3,J4,J5,J6])))
  refine SeqH.nil ?_
  refine wpAnyH_done (by kernel_rfl) ?_ _
  clear hHeld
  go_wp2_with fail
  all_goals go_ret
  all_goals exact ⟨by rw [HVV.out]; rfl,HBW.out _ HBd.out⟩
 | true =>
 cases B3 with
 | true =>
  have HVV : Hid (z5f (z1v names f) l (a,p) (b,q) = false):=by rw [Hid,HV.out]; rfl
  go_enter Tryz.func171,Tryz.ntmps171
  go_upto_region 2 with fail
  rw [HWB.out]
  clear HWB
  refine wrd (by kernel_rfl) HF2.out ((Below.refl WB.heap.size WB).drew) (fun hHeld => ?_)
  refine z00 (f:=14) (by kernel_rfl) (by assumption) [(0,true)] rfl (by kernel_rfl) ?_
  repeat (refine SeqH.take (v:=?_) rfl (fun _ _ _ h => h) (by kernel_rfl) ?_ ?_; rotate_left; (· (intro w hSw; (try dsimp only at hSw); go_simp) <;> with_reducible rfl); (try simp only [Act.put,J1,J2,J3,J4,J5]))
  refine SeqH.nil ?_
  refine Jr (rs:=[1]) (by kernel_rfl) (by simp) ?_
  refine Jd rfl (fun K hK => ?_) Je
  go_simp
  go_at_call 216
  refine (H1 _).out.mono ?_
  rintro e wc ⟨rfl,hbc⟩
  have HBc : Hid (Below WB.heap.size WB wc):=belS ((Below.refl WB.heap.size WB).drew) hbc
  clear hbc
  try dsimp only
  refine hK.out _ _ (HF2.out _ HBc.out) (fun hHeld => ?_)
  clear hK K
  try simp only [Act.put,J1,J2,J3,J4,J5,J6]
  refine z00 (f:=9) (by kernel_rfl) (by assumption) [(2,true),(3,true),(4,true),(5,true)] rfl (by kernel_rfl) ?_
  repeat (refine SeqH.take (v:=?_) rfl (fun _ _ _ h => h) (by kernel_rfl) ?_ ?_; rotate_left; (· (intro w hSw; (try dsimp only at hSw); go_simp) <;> with_reducible rfl); (try simp only [Act.put,J1,J2,J3,J4,J5,J6]))
  refine SeqH.nil ?_
  refine Jr (rs:=[6]) (by kernel_rfl) (by simp) ?_
  refine Jd rfl (fun K hK => ?_) Je
  go_simp
  go_at_call 217
  refine (H2 _).out.mono ?_
  rintro e wd ⟨rfl,hbd⟩
  have HBd : Hid (Below WB.heap.size WB wd):=belS (HBc.out) hbd
  clear hbd
  try dsimp only
  refine hK.out _ _ (HF2.out _ HBd.out) (fun hHeld => ?_)
  clear hK K
  try simp only [Act.put,J1,J2,J3,J4,J5,J6]
  refine z00 (f:=3) (by kernel_rfl) (by assumption) [(7,true),(8,true),(9,true),(10,true),(11,true)] rfl (by kernel_rfl) ?_
  repeat (refine SeqH.take (v:=?_) rfl (fun _ _ _ h => h) (by kernel_rfl) ?_ ?_; rotate_left; (· (intro w hSw; (try dsimp only at hSw); go_simp) <;> with_reducible rfl); (try simp only [Act.put,J1,J2,J3,J4,J5,J6]))
  refine SeqH.nil ?_
  refine Jr (rs:=[12]) (by kernel_rfl) (by simp) ?_
  refine Jd rfl (fun K hK => ?_) Je
  go_simp
  go_at_call 215
  refine (HW0 _).out.mono ?_
  rintro e wf ⟨rfl,hbf⟩
  have HBf : Hid (Below WB.heap.size WB wf):=belS (HBd.out) hbf
  clear hbf
  try dsimp only
  refine hK.out _ _ (HF2.out _ HBf.out) (fun hHeld => ?_)
  clear hK K
  try simp only [Act.put,J1,J2,J3,J4,J5,J6]
  refine Jr (rs:=[13]) (by kernel_rfl) (by simp) ?_
  refine Jd rfl (fun K hK => ?_) Je
  go_simp
  go_at_call 217
  refine (H3 _).out.mono ?_
  rintro e wg ⟨rfl,hbg⟩
  have HBg : Hid (Below WB.heap.size WB wg):=belS (HBf.out) hbg
  clear hbg
  try dsimp only
  refine hK.out _ _ (HF2.out _ HBg.out) (fun hHeld => ?_)
  clear hK K
  try simp only [Act.put,J1,J2,J3,J4,J5,J6]
  refine z00 (f:=0) (by kernel_rfl) (by assumption) [(14,true)] rfl (by kernel_rfl) ?_
  repeat (refine SeqH.take (v:=?_) rfl (fun _ _ _ h => h) (by kernel_rfl) ?_ ?_; rotate_left; (· (intro w hSw; (try dsimp only at hSw); go_simp) <;> with_reducible rfl); (try simp only [Act.put,J1,J2,J3,J4,J5,J6]))
  refine SeqH.nil ?_
  refine wpAnyH_done (by kernel_rfl) ?_ _
  clear hHeld
  go_wp2_with fail
  all_goals go_ret
  all_goals exact ⟨by rw [HVV.out]; rfl,HBW.out _ HBg.out⟩
 | false =>
 have HVV : Hid (z5f (z1v names f) l (a,p) (b,q) = (match z1l (z1v names f) (a,p) (b,q) 0 l with | none => false | some e => !z0f (z1i e) (b,q))):=by rw [Hid,HV.out]; rfl
 clear HV
 go_enter Tryz.func171,Tryz.ntmps171
 go_upto_region 2 with fail
 rw [HWB.out]
 clear HWB
 refine wrd (by kernel_rfl) HF2.out ((Below.refl WB.heap.size WB).drew) (fun hHeld => ?_)
 refine z00 (f:=14) (by kernel_rfl) (by assumption) [(0,true)] rfl (by kernel_rfl) ?_
 repeat (refine SeqH.take (v:=?_) rfl (fun _ _ _ h => h) (by kernel_rfl) ?_ ?_; rotate_left; (· (intro w hSw; (try dsimp only at hSw); go_simp) <;> with_reducible rfl); (try simp only [Act.put,J1,J2,J3,J4,J5]))
 refine SeqH.nil ?_
 refine Jr (rs:=[1]) (by kernel_rfl) (by simp) ?_
 refine Jd rfl (fun K hK => ?_) Je
 go_simp
 go_at_call 216
 refine (H1 _).out.mono ?_
 rintro e wc ⟨rfl,hbc⟩
 have HBc : Hid (Below WB.heap.size WB wc):=belS ((Below.refl WB.heap.size WB).drew) hbc
 clear hbc
 try dsimp only
 refine hK.out _ _ (HF2.out _ HBc.out) (fun hHeld => ?_)
 clear hK K
 try simp only [Act.put,J1,J2,J3,J4,J5,J6]
 refine z00 (f:=9) (by kernel_rfl) (by assumption) [(2,true),(3,true),(4,true),(5,true)] rfl (by kernel_rfl) ?_
 repeat (refine SeqH.take (v:=?_) rfl (fun _ _ _ h => h) (by kernel_rfl) ?_ ?_; rotate_left; (· (intro w hSw; (try dsimp only at hSw); go_simp) <;> with_reducible rfl); (try simp only [Act.put,J1,J2,J3,J4,J5,J6]))
 refine SeqH.nil ?_
 refine Jr (rs:=[6]) (by kernel_rfl) (by simp) ?_
 refine Jd rfl (fun K hK => ?_) Je
 go_simp
 go_at_call 217
 refine (H2 _).out.mono ?_
 rintro e wd ⟨rfl,hbd⟩
 have HBd : Hid (Below WB.heap.size WB wd):=belS (HBc.out) hbd
 clear hbd
 try dsimp only
 refine hK.out _ _ (HF2.out _ HBd.out) (fun hHeld => ?_)
 clear hK K
 try simp only [Act.put,J1,J2,J3,J4,J5,J6]
 refine z00 (f:=3) (by kernel_rfl) (by assumption) [(7,true),(8,true),(9,true),(10,true),(11,true)] rfl (by kernel_rfl) ?_
 repeat (refine SeqH.take (v:=?_) rfl (fun _ _ _ h => h) (by kernel_rfl) ?_ ?_; rotate_left; (· (intro w hSw; (try dsimp only at hSw); go_simp) <;> with_reducible rfl); (try simp only [Act.put,J1,J2,J3,J4,J5,J6]))
 refine SeqH.nil ?_
 refine Jr (rs:=[12]) (by kernel_rfl) (by simp) ?_
 refine Jd rfl (fun K hK => ?_) Je
 go_simp
 go_at_call 215
 refine (HW0 _).out.mono ?_
 rintro e wf ⟨rfl,hbf⟩
 have HBf : Hid (Below WB.heap.size WB wf):=belS (HBd.out) hbf
 clear hbf
 try dsimp only
 refine hK.out _ _ (HF2.out _ HBf.out) (fun hHeld => ?_)
 clear hK K
 try simp only [Act.put,J1,J2,J3,J4,J5,J6]
 refine Jr (rs:=[13]) (by kernel_rfl) (by simp) ?_
 refine Jd rfl (fun K hK => ?_) Je
 go_simp
 go_at_call 217
 refine (H3 _).out.mono ?_
 rintro e wg ⟨rfl,hbg⟩
 have HBg : Hid (Below WB.heap.size WB wg):=belS (HBf.out) hbg
 clear hbg
 try dsimp only
 refine hK.out _ _ (HF2.out _ HBg.out) (fun hHeld => ?_)
 clear hK K
 try simp only [Act.put,J1,J2,J3,J4,J5,J6]
 refine z00 (f:=0) (by kernel_rfl) (by assumption) [(14,true)] rfl (by kernel_rfl) ?_
 repeat (refine SeqH.take (v:=?_) rfl (fun _ _ _ h => h) (by kernel_rfl) ?_ ?_; rotate_left; (· (intro w hSw; (try dsimp only at hSw); go_simp) <;> with_reducible rfl); (try simp only [Act.put,J1,J2,J3,J4,J5,J6]))
 refine SeqH.nil ?_
 refine wpAnyH_done (by kernel_rfl) ?_ _
 clear hHeld
 obtain ⟨xf0,xf1,xf2,xf3,xf4,xf5,xf6,xf7,xf8,xf9,xf10,xf11,xf12,xf13,xf14,xf15,xf16,xf17,xf18,xf19,xf20,xf21,xf22⟩:=HF.out wg (HBg.out)
 go_wp2_with fail
 go_loopw [12,35] (fun av iv wr => ∃ j : Nat,j ≤ l.length ∧ av = .int .i64 (sumG 0 (l.take j)) ∧ iv = .int .i64 j ∧ Hid (z1l (z1v names f) (a,p) (b,q) 0 l = z1l (z1v names f) (a,p) (b,q) (sumG 0 (l.take j)) (l.drop j)) ∧ Hid (Below WB.heap.size WB wr)) (fun _ iv _ => l.length - (intOf iv).toNat)
 case atStart => exact ⟨0,Nat.zero_le _,rfl,rfl,rfl,HBg.out⟩
 case round =>
  obtain ⟨j,hj,rfl,rfl,HGJ,HBR⟩:=hrel
  obtain ⟨at_,hat⟩ : ∃ at_,sumG 0 (l.take j) = at_:=⟨_,rfl⟩
  have hs0:=HSU.out j hj
  rw [hat] at hs0 HGJ
  simp only [hat]
  by_cases hlt : j < l.length
  ·obtain ⟨la2,lc2,hlv,hlm,hcl,hrg⟩:=HSG.out wr HBR.out
   have hhl:=hcl.resolve_left (by intro e; rw [e] at hlt; simp at hlt)
   obtain ⟨sb,so,hla,hsb,hsc⟩:=hhl
   injection hlv with hlv1 hlv2 hlv3
   subst hlv1
   subst hla
   obtain ⟨x,y,hxy⟩ : ∃ x y,l[j] = (x,y):=⟨_,_,rfl⟩
   have hcell:=hsc j hlt
   have hrx:=hrg _ (List.getElem_mem hlt)
   have hs1:=HSU.out (j + 1) hlt
   rw [sum_succ l j hlt,hat] at hs1
   have hst:=z6r (z1v names f) (a,p) (b,q) l j hlt at_
   rw [show l[j]?.getD (0,0) = l[j] by rw [List.getElem?_eq_getElem hlt]; rfl,hxy] at hcell
   rw [hxy] at hrx hs1 hst
   dsimp only at hcell hrx hs1 hst
   obtain ⟨q0,q1⟩:=hcell
   obtain ⟨at2,hat2⟩ : ∃ at2,at_ + x = at2:=⟨_,rfl⟩
   have HAT : Hid (sumG 0 (l.take (j + 1)) = at2):=by rw [Hid,sum_succ l j hlt,hat,hxy]; exact hat2
   rw [hat2] at hs1 hst
   obtain ⟨v1,v1',v2,v2',w1,w2,hi0,hi1⟩:=seg_round hs0 hat2 hs1 hlt hlm
   have HA0:=fun W => Jh (z2h at_ W)
   have HA1:=fun W => Jh (z2h at2 W)
   have HD1:=fun W => Jh (z16 at_ 1 b q W w1 HIB.out)
   have HD2:=fun W => Jh (z16 a p at2 1 W HIA.out w2)
   obtain ⟨D1,hD1⟩ : ∃ D,z0f (z1i at_) (b,q) = D:=⟨_,rfl⟩
   obtain ⟨D2,hD2⟩ : ∃ D,z0f (a,p) (z1i at2) = D:=⟨_,rfl⟩
   have hD1' : z0f (at_,1) (b,q) = D1:=hD1
   have hD2' : z0f (a,p) (at2,1) = D2:=hD2
   rw [hD1'] at HD1
   rw [hD2'] at HD2
   rw [hD1,hD2] at hst
   have HST:=Jh hst
   have HLT:=Jh hlt
   have HJC : Hid (Value.int .i64 ((j : Int) + 1) = .int .i64 ((j + 1 : Nat) : Int)):=rfl
   have HY : Hid (0 ≤ y ∧ y ≤ 255):=⟨hrx.2.2.1,hrx.2.2.2⟩
   have hsbw : sb < wr.heap.size:=Nat.lt_of_lt_of_le hsb (HBW.out wr HBR.out).size
   obtain ⟨W7,hW7⟩ : ∃ W7,W7 = wr.alloc (.cells #[.int .i64 x,.int .u8 y] 29):=⟨_,rfl⟩
   have hb7 : Below WB.heap.size WB W7:=by rw [hW7]; exact belA' HBR.out _
   have hx7 : W7.heap[wr.heap.size]? = some (.cells #[.int .i64 x,.int .u8 y] 29 (0,0)):=by rw [hW7]; exact z03 rfl
   have HX7 : Hid (∀ W,Below W7.heap.size W7 W → W.heap[wr.heap.size]? = some (.cells #[.int .i64 x,.int .u8 y] 29 (0,0))):=fun W h => (h.block _ (Array.getElem?_eq_some_iff.1 hx7).1).trans hx7
   have HB7:=Jh hb7
   have HWR7 : Hid (Below wr.heap.size wr W7):=by rw [Hid,hW7]; exact z0c _ _
   have HW7:=Jh hW7.symm
   clear hat hlt hlm w1 w2 hcl hrg hsb hsc hxy hrx hs1 hs0 hst hat2 hD1 hD1' hD2 hD2' hx7 hb7 hW7
   go_upto_region 8 with fail
   rw [HW7.out]
   clear HW7 q0 q1
   have HF8 : Hid (∀ W,Below W7.heap.size W7 W → W.cell? ⟨w.heap.size + 1 + 1,0,none⟩ = some (.int .i64 a) ∧ W.cell? ⟨w.heap.size + 1 + 1,1,none⟩ = some (.int .i64 p) ∧ W.cell? ⟨w.heap.size + 1 + 1 + 1,0,none⟩ = some (.int .i64 b) ∧ W.cell? ⟨w.heap.size + 1 + 1 + 1,1,none⟩ = some (.int .i64 q) ∧ w.heap.size + 1 + 1 < W.heap.size ∧ w.heap.size + 1 + 1 + 1 < W.heap.size ∧ W.cell? ⟨wr.heap.size,0,none⟩ = some (.int .i64 x) ∧ W.cell? ⟨wr.heap.size,1,none⟩ = some (.int .u8 y) ∧ wr.heap.size < W.heap.size):=by
    intro W hW
    obtain ⟨k0,k1,k2,k3,k4⟩:=HX.out W (belS HB7.out hW)
    have k7:=HX7.out W hW
    exact ⟨Jc k2 0,Jc k2 1,Jc k3 0,Jc k3 1,(Array.getElem?_eq_some_iff.1 k2).1,(Array.getElem?_eq_some_iff.1 k3).1,Jc k7 0,Jc k7 1,(Array.getElem?_eq_some_iff.1 k7).1⟩
   cases D1 with
   | false =>
    have HGO : Hid (z1l (z1v names f) (a,p) (b,q) 0 l = z1l (z1v names f) (a,p) (b,q) (sumG 0 (l.take (j + 1))) (l.drop (j + 1))):=by rw [Hid,HGJ.out,HST.out,HAT.out]; rfl
    refine wrd (by kernel_rfl) HF8.out ((Below.refl W7.heap.size W7).drew) (fun hHeld => ?_)
    refine z00 (f:=12) (by kernel_rfl) (by assumption) [(0,true),(1,true),(3,true)] rfl (by kernel_rfl) ?_
    repeat (refine SeqH.take (v:=?_) rfl (fun _ _ _ h => h) (by kernel_rfl) ?_ ?_; rotate_left; (· (intro w hSw; (try dsimp only at hSw); go_simp) <;> with_reducible rfl); (try simp only [Act.put,J1,J2,J3,J4,J5,J6]))
    refine SeqH.nil ?_
    refine Jr (rs:=[2]) (by kernel_rfl) (by simp) ?_
    refine Jd rfl (fun K hK => ?_) Je
    go_simp
    go_at_call 215
    refine (HA0 _).out.mono ?_
    rintro e wc ⟨rfl,hbc⟩
    have HBc : Hid (Below W7.heap.size W7 wc):=belS ((Below.refl W7.heap.size W7).drew) hbc
    clear hbc
    try dsimp only
    refine hK.out _ _ (HF8.out _ HBc.out) (fun hHeld => ?_)
    clear hK K
    try simp only [Act.put,J1,J2,J3,J4,J5,J6]
    refine Jr (rs:=[4]) (by kernel_rfl) (by simp) ?_
    refine Jd rfl (fun K hK => ?_) Je
    go_simp
    go_at_call 217
    refine (HD1 _).out.mono ?_
    rintro e wd ⟨rfl,hbd⟩
    have HBd : Hid (Below W7.heap.size W7 wd):=belS (HBc.out) hbd
    clear hbd
    try dsimp only
    refine hK.out _ _ (HF8.out _ HBd.out) (fun hHeld => ?_)
    clear hK K
    try simp only [Act.put,J1,J2,J3,J4,J5,J6]
    refine z00 (f:=0) (by kernel_rfl) (by assumption) [(5,true),(6,false),(7,false),(8,false),(9,false),(10,false),(11,false),(12,false),(13,false),(14,true)] rfl (by kernel_rfl) ?_
    repeat (first | (refine SeqH.skip rfl (fun _ _ _ h => h) (by kernel_rfl) ?_; (try simp only [Act.put,J1,J2,J3,J4,J5,J6])) | (refine SeqH.take (v:=?_) rfl (fun _ _ _ h => h) (by kernel_rfl) ?_ ?_; rotate_left; (· (intro w hSw; (try dsimp only at hSw); go_simp) <;> with_reducible rfl); (try simp only [Act.put,J1,J2,J3,J4,J5,J6])))
    refine SeqH.nil ?_
    refine wpAnyH_done (by kernel_rfl) ?_ _
    clear hHeld
    obtain ⟨yf0,yf1,yf2,yf3,yf4,yf5,yf6,yf7,yf8⟩:=HF8.out wd HBd.out
    go_wp2_with fail
    exact ⟨⟨_,_,_,_,_,_,⟨j + 1,HLT.out,by rw [HAT.out],HJC.out,HGO.out,belS HB7.out HBd.out⟩,rfl,rfl,rfl,rfl,rfl,rfl⟩,meas HLT.out⟩
   | true =>
   cases D2 with
   | false =>
    have HGO : Hid (z1l (z1v names f) (a,p) (b,q) 0 l = z1l (z1v names f) (a,p) (b,q) (sumG 0 (l.take (j + 1))) (l.drop (j + 1))):=by rw [Hid,HGJ.out,HST.out,HAT.out]; rfl
    refine wrd (by kernel_rfl) HF8.out ((Below.refl W7.heap.size W7).drew) (fun hHeld => ?_)
    refine z00 (f:=12) (by kernel_rfl) (by assumption) [(0,true),(1,true),(3,true)] rfl (by kernel_rfl) ?_
    repeat (refine SeqH.take (v:=?_) rfl (fun _ _ _ h => h) (by kernel_rfl) ?_ ?_; rotate_left; (· (intro w hSw; (try dsimp only at hSw); go_simp) <;> with_reducible rfl); (try simp only [Act.put,J1,J2,J3,J4,J5,J6]))
    refine SeqH.nil ?_
    refine Jr (rs:=[2]) (by kernel_rfl) (by simp) ?_
    refine Jd rfl (fun K hK => ?_) Je
    go_simp
    go_at_call 215
    refine (HA0 _).out.mono ?_
    rintro e wc ⟨rfl,hbc⟩
    have HBc : Hid (Below W7.heap.size W7 wc):=belS ((Below.refl W7.heap.size W7).drew) hbc
    clear hbc
    try dsimp only
    refine hK.out _ _ (HF8.out _ HBc.out) (fun hHeld => ?_)
    clear hK K
    try simp only [Act.put,J1,J2,J3,J4,J5,J6]
    refine Jr (rs:=[4]) (by kernel_rfl) (by simp) ?_
    refine Jd rfl (fun K hK => ?_) Je
    go_simp
    go_at_call 217
    refine (HD1 _).out.mono ?_
    rintro e wd ⟨rfl,hbd⟩
    have HBd : Hid (Below W7.heap.size W7 wd):=belS (HBc.out) hbd
    clear hbd
    try dsimp only
    refine hK.out _ _ (HF8.out _ HBd.out) (fun hHeld => ?_)
    clear hK K
    try simp only [Act.put,J1,J2,J3,J4,J5,J6]
    refine z00 (f:=3) (by kernel_rfl) (by assumption) [(5,true),(6,true),(7,true),(8,true),(9,true),(10,true),(11,true)] rfl (by kernel_rfl) ?_
    repeat (refine SeqH.take (v:=?_) rfl (fun _ _ _ h => h) (by kernel_rfl) ?_ ?_; rotate_left; (· (intro w hSw; (try dsimp only at hSw); go_simp) <;> with_reducible rfl); (try simp only [Act.put,J1,J2,J3,J4,J5,J6]))
    refine SeqH.nil ?_
    refine Jr (rs:=[12]) (by kernel_rfl) (by simp) ?_
    refine Jd rfl (fun K hK => ?_) Je
    go_simp
    go_at_call 215
    refine (HA1 _).out.mono ?_
    rintro e wf ⟨rfl,hbf⟩
    have HBf : Hid (Below W7.heap.size W7 wf):=belS (HBd.out) hbf
    clear hbf
    try dsimp only
    refine hK.out _ _ (HF8.out _ HBf.out) (fun hHeld => ?_)
    clear hK K
    try simp only [Act.put,J1,J2,J3,J4,J5,J6]
    refine Jr (rs:=[13]) (by kernel_rfl) (by simp) ?_
    refine Jd rfl (fun K hK => ?_) Je
    go_simp
    go_at_call 217
    refine (HD2 _).out.mono ?_
    rintro e wg ⟨rfl,hbg⟩
    have HBg : Hid (Below W7.heap.size W7 wg):=belS (HBf.out) hbg
    clear hbg
    try dsimp only
    refine hK.out _ _ (HF8.out _ HBg.out) (fun hHeld => ?_)
    clear hK K
    try simp only [Act.put,J1,J2,J3,J4,J5,J6]
    refine z00 (f:=0) (by kernel_rfl) (by assumption) [(14,true)] rfl (by kernel_rfl) ?_
    repeat (refine SeqH.take (v:=?_) rfl (fun _ _ _ h => h) (by kernel_rfl) ?_ ?_; rotate_left; (· (intro w hSw; (try dsimp only at hSw); go_simp) <;> with_reducible rfl); (try simp only [Act.put,J1,J2,J3,J4,J5,J6]))
    refine SeqH.nil ?_
    refine wpAnyH_done (by kernel_rfl) ?_ _
    clear hHeld
    obtain ⟨yf0,yf1,yf2,yf3,yf4,yf5,yf6,yf7,yf8⟩:=HF8.out wg HBg.out
    go_wp2_with fail
    exact ⟨⟨_,_,_,_,_,_,⟨j + 1,HLT.out,by rw [HAT.out],HJC.out,HGO.out,belS HB7.out HBg.out⟩,rfl,rfl,rfl,rfl,rfl,rfl⟩,meas HLT.out⟩
   | true =>
   refine wrd (by kernel_rfl) HF8.out ((Below.refl W7.heap.size W7).drew) (fun hHeld => ?_)
   refine z00 (f:=12) (by kernel_rfl) (by assumption) [(0,true),(1,true),(3,true)] rfl (by kernel_rfl) ?_
   repeat (refine SeqH.take (v:=?_) rfl (fun _ _ _ h => h) (by kernel_rfl) ?_ ?_; rotate_left; (· (intro w hSw; (try dsimp only at hSw); go_simp) <;> with_reducible rfl); (try simp only [Act.put,J1,J2,J3,J4,J5,J6]))
   refine SeqH.nil ?_
   refine Jr (rs:=[2]) (by kernel_rfl) (by simp) ?_
   refine Jd rfl (fun K hK => ?_) Je
   go_simp
   go_at_call 215
   refine (HA0 _).out.mono ?_
   rintro e wc ⟨rfl,hbc⟩
   have HBc : Hid (Below W7.heap.size W7 wc):=belS ((Below.refl W7.heap.size W7).drew) hbc
   clear hbc
   try dsimp only
   refine hK.out _ _ (HF8.out _ HBc.out) (fun hHeld => ?_)
   clear hK K
   try simp only [Act.put,J1,J2,J3,J4,J5,J6]
   refine Jr (rs:=[4]) (by kernel_rfl) (by simp) ?_
   refine Jd rfl (fun K hK => ?_) Je
   go_simp
   go_at_call 217
   refine (HD1 _).out.mono ?_
   rintro e wd ⟨rfl,hbd⟩
   have HBd : Hid (Below W7.heap.size W7 wd):=belS (HBc.out) hbd
   clear hbd
   try dsimp only
   refine hK.out _ _ (HF8.out _ HBd.out) (fun hHeld => ?_)
   clear hK K
   try simp only [Act.put,J1,J2,J3,J4,J5,J6]
   refine z00 (f:=3) (by kernel_rfl) (by assumption) [(5,true),(6,true),(7,true),(8,true),(9,true),(10,true),(11,true)] rfl (by kernel_rfl) ?_
   repeat (refine SeqH.take (v:=?_) rfl (fun _ _ _ h => h) (by kernel_rfl) ?_ ?_; rotate_left; (· (intro w hSw; (try dsimp only at hSw); go_simp) <;> with_reducible rfl); (try simp only [Act.put,J1,J2,J3,J4,J5,J6]))
   refine SeqH.nil ?_
   refine Jr (rs:=[12]) (by kernel_rfl) (by simp) ?_
   refine Jd rfl (fun K hK => ?_) Je
   go_simp
   go_at_call 215
   refine (HA1 _).out.mono ?_
   rintro e wf ⟨rfl,hbf⟩
   have HBf : Hid (Below W7.heap.size W7 wf):=belS (HBd.out) hbf
   clear hbf
   try dsimp only
   refine hK.out _ _ (HF8.out _ HBf.out) (fun hHeld => ?_)
   clear hK K
   try simp only [Act.put,J1,J2,J3,J4,J5,J6]
   refine Jr (rs:=[13]) (by kernel_rfl) (by simp) ?_
   refine Jd rfl (fun K hK => ?_) Je
   go_simp
   go_at_call 217
   refine (HD2 _).out.mono ?_
   rintro e wg ⟨rfl,hbg⟩
   have HBg : Hid (Below W7.heap.size W7 wg):=belS (HBf.out) hbg
   clear hbg
   try dsimp only
   refine hK.out _ _ (HF8.out _ HBg.out) (fun hHeld => ?_)
   clear hK K
   try simp only [Act.put,J1,J2,J3,J4,J5,J6]
   refine z00 (f:=0) (by kernel_rfl) (by assumption) [(14,true)] rfl (by kernel_rfl) ?_
   repeat (refine SeqH.take (v:=?_) rfl (fun _ _ _ h => h) (by kernel_rfl) ?_ ?_; rotate_left; (· (intro w hSw; (try dsimp only at hSw); go_simp) <;> with_reducible rfl); (try simp only [Act.put,J1,J2,J3,J4,J5,J6]))
   refine SeqH.nil ?_
   refine wpAnyH_done (by kernel_rfl) ?_ _
   clear hHeld
   obtain ⟨fb,fo,fk,fs,fa,fl,fc,hfa,hfb,f0,f1,f2,hfr⟩:=(HFR.out wr HBR.out).at 0 (by simp)
   subst hfa
   simp only [Nat.zero_mul,Nat.add_zero,J5] at f0 f1 f2 hfr
   have HBQ : Hid (∀ W,Below W7.heap.size W7 W → Below wr.heap.size wr W):=fun W h => HWR7.out.trans (h.mono HWR7.out.size)
   have HF9 : Hid (∀ W,Below W7.heap.size W7 W → W.cell? ⟨w.heap.size,0,none⟩ = some (nv) ∧ W.cell? ⟨w.heap.size,1,none⟩ = some (.slice (some ⟨sb,so,none⟩) l.length lc) ∧ W.cell? ⟨w.heap.size + 1,0,none⟩ = some (.int .u8 k) ∧ W.cell? ⟨w.heap.size + 1,1,none⟩ = some (.slice (some ⟨fb,fo,none⟩) 1 c1) ∧ W.cell? ⟨w.heap.size + 1,2,none⟩ = some (.slice a2 l2 c2) ∧ W.cell? ⟨w.heap.size + 1,3,none⟩ = some (.int .i64 lo) ∧ W.cell? ⟨w.heap.size + 1,4,none⟩ = some (.bool ls) ∧ W.cell? ⟨w.heap.size + 1,5,none⟩ = some (.int .i64 hi) ∧ W.cell? ⟨w.heap.size + 1,6,none⟩ = some (.bool hs) ∧ W.cell? ⟨w.heap.size + 1,7,none⟩ = some (.bool op) ∧ w.heap.size < W.heap.size ∧ w.heap.size + 1 < W.heap.size ∧ W.cell? ⟨wr.heap.size,0,none⟩ = some (.int .i64 x) ∧ W.cell? ⟨wr.heap.size,1,none⟩ = some (.int .u8 y) ∧ wr.heap.size < W.heap.size ∧ W.cell? ⟨fb,fo,none⟩ = some (.int .u8 fk) ∧ W.cell? ⟨fb,fo + 1,none⟩ = some (.string fs) ∧ W.cell? ⟨fb,fo + 2,none⟩ = some (.slice fa fl fc) ∧ fb < W.heap.size):=by
    intro W hW
    obtain ⟨k0,k1,k2,k3,k4⟩:=HX.out W (belS HB7.out hW)
    have k7:=HX7.out W hW
    have hq:=HBQ.out W hW
    exact ⟨Jc k0 0,Jc k0 1,Jc k1 0,Jc k1 1,Jc k1 2,Jc k1 3,Jc k1 4,Jc k1 5,Jc k1 6,Jc k1 7,(Array.getElem?_eq_some_iff.1 k0).1,(Array.getElem?_eq_some_iff.1 k1).1,Jc k7 0,Jc k7 1,(Array.getElem?_eq_some_iff.1 k7).1,(hq.cell (p:=⟨fb,_,none⟩) hfb).trans f0,(hq.cell (p:=⟨fb,_,none⟩) hfb).trans f1,(hq.cell (p:=⟨fb,_,none⟩) hfb).trans f2,Nat.lt_of_lt_of_le hfb hq.size⟩
   have HH : Hid (∀ W,Below W7.heap.size W7 W → Calls Tryz.prog 40 #[nv,.agg #[.int .u8 fk,.string fs,.slice fa fl fc],.int .u8 y] W fun e w' => e = .returned (.tuple #[.bool (z28 names m f y).1,.int .i64 (z28 names m f y).2]) ∧ Below W.heap.size W w'):=by
    intro W hW
    have hq:=HBQ.out W hW
    exact holds22_any names nv HNS.out m f _ y W HY.out.1 HY.out.2 (HRD.out W (belS HB7.out hW)) (HNR.out W (belS HB7.out hW)) (hfr.up hq hq.size)
   have HHO : Hid (z1v names f y = ((z28 names m f y).2 == 0 && (z28 names m f y).1)):=rfl
   obtain ⟨hB,hhB⟩ : ∃ hB,(z28 names m f y).1 = hB:=⟨_,rfl⟩
   obtain ⟨hE,hhE⟩ : ∃ hE,(z28 names m f y).2 = hE:=⟨_,rfl⟩
   rw [hhB,hhE] at HH HHO
   clear hhB hhE hfr f0 f1 f2 hfb
   go_upto_region 9 with fail
   refine wrd (by kernel_rfl) HF9.out (HBg.out.drew) (fun hHeld => ?_)
   refine z00 (f:=6) (by kernel_rfl) (by assumption) [(0,true),(1,true),(2,true),(3,true),(4,true),(5,true),(6,true),(7,true)] rfl (by kernel_rfl) ?_
   repeat (refine SeqH.take (v:=?_) rfl (fun _ _ _ h => h) (by kernel_rfl) ?_ ?_; rotate_left; (· (intro w hSw; (try dsimp only at hSw); go_simp) <;> with_reducible rfl); (try simp only [Act.put,J1,J2,J3,J4,J5,J6]))
   refine SeqH.nil ?_
   refine Jr (rs:=[8]) (by kernel_rfl) (by simp) ?_
   refine Jd rfl (fun K hK => ?_) Je
   go_simp
   go_at_call 40
   refine (HH.out _ HBg.out.drew).mono ?_
   rintro e wh ⟨rfl,hbh⟩
   have HBh : Hid (Below W7.heap.size W7 wh):=belS HBg.out.drew hbh
   clear hbh
   try dsimp only
   refine hK.out _ _ (HF9.out _ HBh.out) (fun hHeld => ?_)
   clear hK K
   try simp only [Act.put,J1,J2,J3,J4,J5,J6]
   refine z00 (f:=0) (by kernel_rfl) (by assumption) [(9,true),(10,true),(11,true),(12,true),(13,true)] rfl (by kernel_rfl) ?_
   repeat (refine SeqH.take (v:=?_) rfl (fun _ _ _ h => h) (by kernel_rfl) ?_ ?_; rotate_left; (· (intro w hSw; (try dsimp only at hSw); go_simp) <;> with_reducible rfl); (try simp only [Act.put,J1,J2,J3,J4,J5,J6]))
   refine SeqH.nil ?_
   refine wpAnyH_done (by kernel_rfl) ?_ _
   clear hHeld
   by_cases he : hE = 0
   rotate_left
   ·have d1 : (hE != 0) = true:=by simpa using he
    have HHV : (hE == 0 && hB) = false:=by rw [show (hE == 0) = false by simpa using he]; rfl
    rw [HHV] at HHO
    clear he HHV
    have HNO : Hid (z1l (z1v names f) (a,p) (b,q) 0 l = none):=by rw [Hid,HGJ.out,HST.out,HHO.out]; rfl
    have HVF : Hid (z5f (z1v names f) l (a,p) (b,q) = false):=by rw [Hid,HVV.out,HNO.out]
    go_wp2_with fail
    all_goals go_ret
    all_goals exact ⟨by rw [HVF.out]; rfl,HBW.out _ (belS HB7.out HBh.out)⟩
   ·have d1 : (hE != 0) = false:=by simpa using he
    cases hB with
    | false =>
     have HHV : (hE == 0 && false) = false:=by simp
     rw [HHV] at HHO
     clear he HHV
     have HNO : Hid (z1l (z1v names f) (a,p) (b,q) 0 l = none):=by rw [Hid,HGJ.out,HST.out,HHO.out]; rfl
     have HVF : Hid (z5f (z1v names f) l (a,p) (b,q) = false):=by rw [Hid,HVV.out,HNO.out]
     go_wp2_with fail
     all_goals go_ret
     all_goals exact ⟨by rw [HVF.out]; rfl,HBW.out _ (belS HB7.out HBh.out)⟩
    | true =>
     have HHV : (hE == 0 && true) = true:=by simpa using he
     rw [HHV] at HHO
     clear he HHV
     have HGO : Hid (z1l (z1v names f) (a,p) (b,q) 0 l = z1l (z1v names f) (a,p) (b,q) (sumG 0 (l.take (j + 1))) (l.drop (j + 1))):=by rw [Hid,HGJ.out,HST.out,HAT.out,HHO.out]; rfl
     obtain ⟨yf0,yf1,yf2,yf3,yf4,yf5,yf6,yf7,yf8⟩:=HF8.out wh HBh.out
     go_wp2_with fail
     exact ⟨⟨_,_,_,_,_,_,⟨j + 1,HLT.out,by rw [HAT.out],HJC.out,HGO.out,belS HB7.out HBh.out⟩,rfl,rfl,rfl,rfl,rfl,rfl⟩,meas HLT.out⟩
  ·obtain rfl : j = l.length:=Nat.le_antisymm hj (Nat.le_of_not_lt hlt)
   have HSO : Hid (z1l (z1v names f) (a,p) (b,q) 0 l = some at_):=by rw [Hid,HGJ.out,List.drop_length]; rfl
   have HE0:=fun W => Jh (z2h at_ W)
   have HDE:=fun W => Jh (z16 at_ 1 b q W (in64_of hs0) HIB.out)
   obtain ⟨DE,hDE⟩ : ∃ D,z0f (z1i at_) (b,q) = D:=⟨_,rfl⟩
   have hDE' : z0f (at_,1) (b,q) = DE:=hDE
   have HVF : Hid (z5f (z1v names f) l (a,p) (b,q) = !DE):=by rw [Hid,HVV.out,HSO.out]; dsimp only; rw [hDE]
   rw [hDE'] at HDE
   clear hDE hDE' hs0 hat
   go_upto_region 14 with fail
   refine wrd (by kernel_rfl) HF2.out (HBR.out.drew) (fun hHeld => ?_)
   refine z00 (f:=4) (by kernel_rfl) (by assumption) [(0,true),(1,true),(3,true)] rfl (by kernel_rfl) ?_
   repeat (refine SeqH.take (v:=?_) rfl (fun _ _ _ h => h) (by kernel_rfl) ?_ ?_; rotate_left; (· (intro w hSw; (try dsimp only at hSw); go_simp) <;> with_reducible rfl); (try simp only [Act.put,J1,J2,J3,J4,J5,J6]))
   refine SeqH.nil ?_
   refine Jr (rs:=[2]) (by kernel_rfl) (by simp) ?_
   refine Jd rfl (fun K hK => ?_) Je
   go_simp
   go_at_call 215
   refine (HE0 _).out.mono ?_
   rintro e wc2 ⟨rfl,hbc2⟩
   have HBc2 : Hid (Below WB.heap.size WB wc2):=belS (HBR.out.drew) hbc2
   clear hbc2
   try dsimp only
   refine hK.out _ _ (HF2.out _ HBc2.out) (fun hHeld => ?_)
   clear hK K
   try simp only [Act.put,J1,J2,J3,J4,J5,J6]
   refine Jr (rs:=[4]) (by kernel_rfl) (by simp) ?_
   refine Jd rfl (fun K hK => ?_) Je
   go_simp
   go_at_call 217
   refine (HDE _).out.mono ?_
   rintro e wd2 ⟨rfl,hbd2⟩
   have HBd2 : Hid (Below WB.heap.size WB wd2):=belS (HBc2.out) hbd2
   clear hbd2
   try dsimp only
   refine hK.out _ _ (HF2.out _ HBd2.out) (fun hHeld => ?_)
   clear hK K
   try simp only [Act.put,J1,J2,J3,J4,J5,J6]
   refine z00 (f:=0) (by kernel_rfl) (by assumption) [(5,true),(6,true)] rfl (by kernel_rfl) ?_
   repeat (refine SeqH.take (v:=?_) rfl (fun _ _ _ h => h) (by kernel_rfl) ?_ ?_; rotate_left; (· (intro w hSw; (try dsimp only at hSw); go_simp) <;> with_reducible rfl); (try simp only [Act.put,J1,J2,J3,J4,J5,J6]))
   refine SeqH.nil ?_
   refine wpAnyH_done (by kernel_rfl) ?_ _
   clear hHeld
   go_wp2_with fail
   all_goals go_ret
   all_goals exact ⟨by rw [HVF.out]; rfl,HBW.out _ HBd2.out⟩
end Go.Proofs.YtockinpjfhhkoaaGreatDoor
