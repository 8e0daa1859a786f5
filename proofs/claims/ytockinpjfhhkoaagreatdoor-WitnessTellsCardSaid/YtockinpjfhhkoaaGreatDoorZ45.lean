/- Proofs of matches: checker.shows. (Printed by gen_wbl.py.) -/
import Derived.Deep.RegionHeld
import Derived.Deep.Cut
import Derived.LoopTactic
import Derived.Test.YtockinpjfhhkoaaGreatDoorZ23
import Derived.Test.YtockinpjfhhkoaaGreatDoorZ41
import Derived.Test.YtockinpjfhhkoaaGreatDoorZ43
import Derived.Test.YtockinpjfhhkoaaGreatDoorZ44
import Derived.Test.YtockinpjfhhkoaaGreatDoorZ22
set_option maxRecDepth 100000
set_option maxHeartbeats 16000000
open List renaming setIfInBounds_toArray → J1, set_cons_zero → J2, set_cons_succ → J3, getElem_toArray → J4, getElem_cons_zero → J5, getElem_cons_succ → J6
open Go.Lib renaming cell_of_heap → Jc, hid → Jh
open Go.AllReadyH renaming cons → Jd, nil → Je
open Go renaming wpAnyH_ready → Jr
open Go.RowKit.Below renaming heap_alloc → Jb
namespace Go.Proofs.YtockinpjfhhkoaaGreatDoor
open Go.RowKit
theorem in_one {α : Type} (f : α → Bool) (x : X) (g : X → α → Bool) (hg : g x = f) : ∀ (of : List α),(match of,[x] with | [w],[x] => g x w | _,_ => false) = one1 f of
 | [] => rfl
 | [w] => by rw [← hg]; rfl
 | _ :: _ :: _ => rfl
theorem step1 {α : Type} (hold : F → Int → Bool) (l : List (Int × Int)) (shows : X → Int × Int → Int × Int → α → Bool) (f : F) (xs : List X) (i : Spn) (t u : Int × Int) (side : Int) (ats : List (Int × Int)) (of : List α) (l3 l4 : Nat) (h3 : ats.length = l3) (h4 : of.length = l4) :
 z6a hold l shows 1 [f] xs i t u 1 side ats of = (((side == 0) && ((l3 : Int) == 0) && ((l4 : Int) == 0)) && z5f (hold f) l t u):=by
 rw [← z4o h3,← z4o h4]; rfl
theorem step2 {α : Type} (hold : F → Int → Bool) (l : List (Int × Int)) (shows : X → Int × Int → Int × Int → α → Bool) (is : List F) (x y : X) (i : Spn) (t u : Int × Int) (side : Int) (ats : List (Int × Int)) (of : List α) :
 z6a hold l shows 2 is [x,y] i t u 2 side ats of = (decide (1 ≤ side) && decide (side ≤ 2) && ats.isEmpty && one1 (shows (if side = 1 then x else y) t u) of):=by
 match of with
 | [] => rfl
 | [w] => rfl
 | _ :: _ :: _ => rfl
theorem step3 {α : Type} (hold : F → Int → Bool) (l : List (Int × Int)) (shows : X → Int × Int → Int × Int → α → Bool) (is : List F) (x y : X) (i : Spn) (t u : Int × Int) (side : Int) (ats : List (Int × Int)) (of : List α) :
 z6a hold l shows 3 is [x,y] i t u 3 side ats of = (side == 0 && ats.isEmpty && two2 (fun v w => shows x t u v && shows y t u w) of):=by
 match of with
 | [] => rfl
 | [_] => rfl
 | [_,_] => rfl
 | _ :: _ :: _ :: _ => rfl
theorem step4 {α : Type} (hold : F → Int → Bool) (l : List (Int × Int)) (shows : X → Int × Int → Int × Int → α → Bool) (is : List F) (x y : X) (i : Spn) (t u : Int × Int) (side : Int) (ats : List (Int × Int)) (of : List α) :
 z6a hold l shows 4 is [x,y] i t u 4 side ats of = (side == 0 && cat2 (fun s v w => z0f t s && z0f s u && shows x t s v && shows y s u w) ats of):=by
 match ats,of with
 | [_],[_,_] => rfl
 | [],_ => rfl
 | _ :: _ :: _,_ => rfl
 | [_],[] => rfl
 | [_],[_] => rfl
 | [_],_ :: _ :: _ :: _ => rfl
theorem step5 {α : Type} (hold : F → Int → Bool) (l : List (Int × Int)) (shows : X → Int × Int → Int × Int → α → Bool) (is : List F) (x : X) (i : Spn) (t u : Int × Int) (side : Int) (ats : List (Int × Int)) (of : List α) :
 z6a hold l shows 5 is [x] i t u 5 side ats of = (side == 0 && of.length == ats.length + 1 && z40 (fun t' u' y => shows x t' u' y) u t ats of):=rfl
theorem step6 {α : Type} (hold : F → Int → Bool) (l : List (Int × Int)) (shows : X → Int × Int → Int × Int → α → Bool) (is : List F) (x : X) (i : Spn) (t u : Int × Int) (side : Int) (ats : List (Int × Int)) (of : List α) :
 z6a hold l shows 6 is [x] i t u 6 side ats of = (side == 0 && ats.isEmpty && one1 (fun w => z2k t u i && shows x t u w) of):=by
 match of with
 | [] => rfl
 | [w] => rfl
 | _ :: _ :: _ => rfl
theorem step_no {α : Type} (hold : F → Int → Bool) (l : List (Int × Int)) (shows : X → Int × Int → Int × Int → α → Bool) {k wk : Int} (h : (wk == k) = false) (is : List F) (xs : List X) (i : Spn) (t u : Int × Int) (side : Int) (ats : List (Int × Int)) (of : List α) :
 z6a hold l shows k is xs i t u wk side ats of = false:=by
 unfold z6a
 rw [h]; rfl
theorem z5h {α : Type} {f : α → Bool} {x y : α} (h : [x,y].all f = true) : f x = true ∧ f y = true:=by
 simpa using h
theorem all_one {α : Type} {f : α → Bool} {x : α} (h : [x].all f = true) : f x = true:=by
 simpa using h
theorem span_in {i : Spn} (h : ivR i = 0) : -288230376151711744 ≤ i.low ∧ i.low ≤ 288230376151711744 ∧ -288230376151711744 ≤ i.high ∧ i.high ≤ 288230376151711744:=by
 unfold ivR at h
 split at h
 ·cases h
 ·rename_i hn
  simp only [Bool.or_eq_true,Bool.not_eq_true',not_or,Bool.not_eq_false] at hn
  obtain ⟨⟨h1,h2⟩,_⟩:=hn
  simp only [z2u,Bool.and_eq_true,decide_eq_true_eq] at h1 h2
  omega
def z5y (K : Nat) (nv : Value) (la : Option Addr) (n lc : Nat) (xv : Value) (a p b q : Int) (wv : Value) (W0 : World) (R : Bool) : Prop :=
 ∀ W,Below W0.heap.size W0 W → Calls Tryz.prog K #[.agg #[nv,.slice la n lc],xv,.agg #[.int .i64 a,.int .i64 p],.agg #[.int .i64 b,.int .i64 q],wv] W fun e w' => e = .returned (.bool R) ∧ Below W.heap.size W w'
theorem shows_no (nv : Value) (la : Option Addr) (n lc : Nat) (k : Int) (a1 a2 a3 a4 : Option Addr) (n1 n2 l3 l4 c1 c2 c3 c4 : Nat) (i : Spn) (a p b q wk sd : Int) (w : World) (h : (wk == k) = false) :
 Calls Tryz.prog 53 #[.agg #[nv,.slice la n lc],.agg #[.int .u8 k,.slice a1 n1 c1,.slice a2 n2 c2,.int .i64 i.low,.bool i.ls,.int .i64 i.high,.bool i.hs,.bool i.op],.agg #[.int .i64 a,.int .i64 p],.agg #[.int .i64 b,.int .i64 q],.agg #[.int .u8 wk,.int .u8 sd,.slice a3 l3 c3,.slice a4 l4 c4]] w fun e w' => e = .returned (.bool false) ∧ Below w.heap.size w w':=by
 obtain ⟨WB,hWWB⟩ : ∃ WB,WB = ((((w.alloc (.cells #[nv,.slice la n lc] 107)).alloc (.cells #[.int .u8 k,.slice a1 n1 c1,.slice a2 n2 c2,.int .i64 i.low,.bool i.ls,.int .i64 i.high,.bool i.hs,.bool i.op] 47)).alloc (.cells #[.int .i64 a,.int .i64 p] 50)).alloc (.cells #[.int .i64 b,.int .i64 q] 50)).alloc (.cells #[.int .u8 wk,.int .u8 sd,.slice a3 l3 c3,.slice a4 l4 c4] 56):=⟨_,rfl⟩
 have hbWB : Below w.heap.size w WB:=by rw [hWWB]; exact ((((z0c _ _).alloc (by simp <;> omega) _).alloc (by simp <;> omega) _).alloc (by simp <;> omega) _).alloc (by simp <;> omega) _
 have hx0 : WB.heap[w.heap.size]? = some (.cells #[nv,.slice la n lc] 107 (0,0)):=by rw [hWWB]; exact (Jb _ _ _ (by simp <;> omega)).trans ((Jb _ _ _ (by simp <;> omega)).trans ((Jb _ _ _ (by simp <;> omega)).trans ((Jb _ _ _ (by simp <;> omega)).trans (z03 rfl))))
 have hx1 : WB.heap[w.heap.size + 1]? = some (.cells #[.int .u8 k,.slice a1 n1 c1,.slice a2 n2 c2,.int .i64 i.low,.bool i.ls,.int .i64 i.high,.bool i.hs,.bool i.op] 47 (0,0)):=by rw [hWWB]; exact (Jb _ _ _ (by simp <;> omega)).trans ((Jb _ _ _ (by simp <;> omega)).trans ((Jb _ _ _ (by simp <;> omega)).trans (z03 (by simp))))
 have hx2 : WB.heap[w.heap.size + 1 + 1]? = some (.cells #[.int .i64 a,.int .i64 p] 50 (0,0)):=by rw [hWWB]; exact (Jb _ _ _ (by simp <;> omega)).trans ((Jb _ _ _ (by simp <;> omega)).trans (z03 (by simp)))
 have hx3 : WB.heap[w.heap.size + 1 + 1 + 1]? = some (.cells #[.int .i64 b,.int .i64 q] 50 (0,0)):=by rw [hWWB]; exact (Jb _ _ _ (by simp <;> omega)).trans (z03 (by simp))
 have hx4 : WB.heap[w.heap.size + 1 + 1 + 1 + 1]? = some (.cells #[.int .u8 wk,.int .u8 sd,.slice a3 l3 c3,.slice a4 l4 c4] 56 (0,0)):=by rw [hWWB]; exact z03 (by simp)
 have HX : Hid (∀ W,Below WB.heap.size WB W → W.heap[w.heap.size]? = some (.cells #[nv,.slice la n lc] 107 (0,0)) ∧ W.heap[w.heap.size + 1]? = some (.cells #[.int .u8 k,.slice a1 n1 c1,.slice a2 n2 c2,.int .i64 i.low,.bool i.ls,.int .i64 i.high,.bool i.hs,.bool i.op] 47 (0,0)) ∧ W.heap[w.heap.size + 1 + 1]? = some (.cells #[.int .i64 a,.int .i64 p] 50 (0,0)) ∧ W.heap[w.heap.size + 1 + 1 + 1]? = some (.cells #[.int .i64 b,.int .i64 q] 50 (0,0)) ∧ W.heap[w.heap.size + 1 + 1 + 1 + 1]? = some (.cells #[.int .u8 wk,.int .u8 sd,.slice a3 l3 c3,.slice a4 l4 c4] 56 (0,0))):=fun W hW => ⟨(hW.block _ (Array.getElem?_eq_some_iff.1 hx0).1).trans hx0,(hW.block _ (Array.getElem?_eq_some_iff.1 hx1).1).trans hx1,(hW.block _ (Array.getElem?_eq_some_iff.1 hx2).1).trans hx2,(hW.block _ (Array.getElem?_eq_some_iff.1 hx3).1).trans hx3,(hW.block _ (Array.getElem?_eq_some_iff.1 hx4).1).trans hx4⟩
 have HF : Hid (∀ W,Below WB.heap.size WB W → W.cell? ⟨w.heap.size,0,none⟩ = some (nv) ∧ W.cell? ⟨w.heap.size,1,none⟩ = some (.slice la n lc) ∧ W.cell? ⟨w.heap.size + 1,0,none⟩ = some (.int .u8 k) ∧ W.cell? ⟨w.heap.size + 1,1,none⟩ = some (.slice a1 n1 c1) ∧ W.cell? ⟨w.heap.size + 1,2,none⟩ = some (.slice a2 n2 c2) ∧ W.cell? ⟨w.heap.size + 1,3,none⟩ = some (.int .i64 i.low) ∧ W.cell? ⟨w.heap.size + 1,4,none⟩ = some (.bool i.ls) ∧ W.cell? ⟨w.heap.size + 1,5,none⟩ = some (.int .i64 i.high) ∧ W.cell? ⟨w.heap.size + 1,6,none⟩ = some (.bool i.hs) ∧ W.cell? ⟨w.heap.size + 1,7,none⟩ = some (.bool i.op) ∧ W.cell? ⟨w.heap.size + 1 + 1,0,none⟩ = some (.int .i64 a) ∧ W.cell? ⟨w.heap.size + 1 + 1,1,none⟩ = some (.int .i64 p) ∧ W.cell? ⟨w.heap.size + 1 + 1 + 1,0,none⟩ = some (.int .i64 b) ∧ W.cell? ⟨w.heap.size + 1 + 1 + 1,1,none⟩ = some (.int .i64 q) ∧ W.cell? ⟨w.heap.size + 1 + 1 + 1 + 1,0,none⟩ = some (.int .u8 wk) ∧ W.cell? ⟨w.heap.size + 1 + 1 + 1 + 1,1,none⟩ = some (.int .u8 sd) ∧ W.cell? ⟨w.heap.size + 1 + 1 + 1 + 1,2,none⟩ = some (.slice a3 l3 c3) ∧ W.cell? ⟨w.heap.size + 1 + 1 + 1 + 1,3,none⟩ = some (.slice a4 l4 c4) ∧ w.heap.size < W.heap.size ∧ w.heap.size + 1 < W.heap.size ∧ w.heap.size + 1 + 1 < W.heap.size ∧ w.heap.size + 1 + 1 + 1 < W.heap.size ∧ w.heap.size + 1 + 1 + 1 + 1 < W.heap.size):=by
  intro W hW
  obtain ⟨k0,k1,k2,k3,k4⟩:=HX.out W hW
  exact ⟨Jc k0 0,Jc k0 1,Jc k1 0,Jc k1 1,Jc k1 2,Jc k1 3,Jc k1 4,Jc k1 5,Jc k1 6,Jc k1 7,Jc k2 0,Jc k2 1,Jc k3 0,Jc k3 1,Jc k4 0,Jc k4 1,Jc k4 2,Jc k4 3,(Array.getElem?_eq_some_iff.1 k0).1,(Array.getElem?_eq_some_iff.1 k1).1,(Array.getElem?_eq_some_iff.1 k2).1,(Array.getElem?_eq_some_iff.1 k3).1,(Array.getElem?_eq_some_iff.1 k4).1⟩
 have HBB:=Jh hbWB
 have HWB:=Jh hWWB.symm
 clear hWWB hbWB hx0 hx1 hx2 hx3 hx4
 have HBW : Hid (∀ W,Below WB.heap.size WB W → Below w.heap.size w W):=fun W h => HBB.out.trans (h.mono HBB.out.size)
 have HF : Hid (∀ W,Below WB.heap.size WB W → W.cell? ⟨w.heap.size + 1,0,none⟩ = some (.int .u8 k) ∧ W.cell? ⟨w.heap.size + 1 + 1 + 1 + 1,0,none⟩ = some (.int .u8 wk) ∧ w.heap.size + 1 < W.heap.size ∧ w.heap.size + 1 + 1 + 1 + 1 < W.heap.size):=by
  intro W hW
  have hq:=HBW.out W hW
  obtain ⟨k0,k1,k2,k3,k4⟩:=HX.out W hW
  exact ⟨Jc k1 0,Jc k4 0,(Array.getElem?_eq_some_iff.1 k1).1,(Array.getElem?_eq_some_iff.1 k4).1⟩
 go_enter Tryz.func53,Tryz.ntmps53
 go_upto_region 1 with fail
 rw [HWB.out]
 clear HWB
 refine wrd (by kernel_rfl) HF.out (((Below.refl WB.heap.size WB).drew)) (fun hHeld => ?_)
 refine z00 (f:=0) (by kernel_rfl) (by assumption) [(0,true),(1,true),(2,true),(3,true),(4,true),(5,true),(7,false),(8,false),(10,false),(11,false),(12,false),(13,false),(14,false),(6,false),(9,false),(15,false),(16,true),(17,true)] rfl (by kernel_rfl) ?_
 repeat (first | (refine SeqH.skip rfl (fun _ _ _ h => h) (by kernel_rfl) ?_; (try simp only [Act.put,J1,J2,J3,J4,J5,J6])) | (refine SeqH.take (v:=?_) rfl (fun _ _ _ h => h) (by kernel_rfl) ?_ ?_; rotate_left; (· (intro w hSw; (try dsimp only at hSw); go_simp) <;> with_reducible rfl); (try simp only [Act.put,J1,J2,J3,J4,J5,J6])))
 refine SeqH.nil ?_
 refine wpAnyH_done (by kernel_rfl) ?_ _
 clear hHeld
 go_wp2_with fail
 all_goals go_ret
 all_goals exact ⟨rfl,HBW.out _ ((Below.refl WB.heap.size WB).drew)⟩
theorem shows_k1 (nv : Value) (la : Option Addr) (n lc : Nat) (a1 a2 a3 a4 : Option Addr) (n1 n2 l3 l4 c1 c2 c3 c4 : Nat) (i : Spn) (a p b q sd : Int) (w : World) (R : Bool) (hM : z5y 171 nv la n lc (.agg #[.int .u8 1,.slice a1 n1 c1,.slice a2 n2 c2,.int .i64 i.low,.bool i.ls,.int .i64 i.high,.bool i.hs,.bool i.op]) a p b q (.agg #[.int .u8 1,.int .u8 sd,.slice a3 l3 c3,.slice a4 l4 c4]) w R) :
 Calls Tryz.prog 53 #[.agg #[nv,.slice la n lc],.agg #[.int .u8 1,.slice a1 n1 c1,.slice a2 n2 c2,.int .i64 i.low,.bool i.ls,.int .i64 i.high,.bool i.hs,.bool i.op],.agg #[.int .i64 a,.int .i64 p],.agg #[.int .i64 b,.int .i64 q],.agg #[.int .u8 1,.int .u8 sd,.slice a3 l3 c3,.slice a4 l4 c4]] w fun e w' => e = .returned (.bool R) ∧ Below w.heap.size w w':=by
 obtain ⟨WB,hWWB⟩ : ∃ WB,WB = ((((w.alloc (.cells #[nv,.slice la n lc] 107)).alloc (.cells #[.int .u8 1,.slice a1 n1 c1,.slice a2 n2 c2,.int .i64 i.low,.bool i.ls,.int .i64 i.high,.bool i.hs,.bool i.op] 47)).alloc (.cells #[.int .i64 a,.int .i64 p] 50)).alloc (.cells #[.int .i64 b,.int .i64 q] 50)).alloc (.cells #[.int .u8 1,.int .u8 sd,.slice a3 l3 c3,.slice a4 l4 c4] 56):=⟨_,rfl⟩
 have hbWB : Below w.heap.size w WB:=by rw [hWWB]; exact ((((z0c _ _).alloc (by simp <;> omega) _).alloc (by simp <;> omega) _).alloc (by simp <;> omega) _).alloc (by simp <;> omega) _
 have hx0 : WB.heap[w.heap.size]? = some (.cells #[nv,.slice la n lc] 107 (0,0)):=by rw [hWWB]; exact (Jb _ _ _ (by simp <;> omega)).trans ((Jb _ _ _ (by simp <;> omega)).trans ((Jb _ _ _ (by simp <;> omega)).trans ((Jb _ _ _ (by simp <;> omega)).trans (z03 rfl))))
 have hx1 : WB.heap[w.heap.size + 1]? = some (.cells #[.int .u8 1,.slice a1 n1 c1,.slice a2 n2 c2,.int .i64 i.low,.bool i.ls,.int .i64 i.high,.bool i.hs,.bool i.op] 47 (0,0)):=by rw [hWWB]; exact (Jb _ _ _ (by simp <;> omega)).trans ((Jb _ _ _ (by simp <;> omega)).trans ((Jb _ _ _ (by simp <;> omega)).trans (z03 (by simp))))
 have hx2 : WB.heap[w.heap.size + 1 + 1]? = some (.cells #[.int .i64 a,.int .i64 p] 50 (0,0)):=by rw [hWWB]; exact (Jb _ _ _ (by simp <;> omega)).trans ((Jb _ _ _ (by simp <;> omega)).trans (z03 (by simp)))
 have hx3 : WB.heap[w.heap.size + 1 + 1 + 1]? = some (.cells #[.int .i64 b,.int .i64 q] 50 (0,0)):=by rw [hWWB]; exact (Jb _ _ _ (by simp <;> omega)).trans (z03 (by simp))
 have hx4 : WB.heap[w.heap.size + 1 + 1 + 1 + 1]? = some (.cells #[.int .u8 1,.int .u8 sd,.slice a3 l3 c3,.slice a4 l4 c4] 56 (0,0)):=by rw [hWWB]; exact z03 (by simp)
 have HX : Hid (∀ W,Below WB.heap.size WB W → W.heap[w.heap.size]? = some (.cells #[nv,.slice la n lc] 107 (0,0)) ∧ W.heap[w.heap.size + 1]? = some (.cells #[.int .u8 1,.slice a1 n1 c1,.slice a2 n2 c2,.int .i64 i.low,.bool i.ls,.int .i64 i.high,.bool i.hs,.bool i.op] 47 (0,0)) ∧ W.heap[w.heap.size + 1 + 1]? = some (.cells #[.int .i64 a,.int .i64 p] 50 (0,0)) ∧ W.heap[w.heap.size + 1 + 1 + 1]? = some (.cells #[.int .i64 b,.int .i64 q] 50 (0,0)) ∧ W.heap[w.heap.size + 1 + 1 + 1 + 1]? = some (.cells #[.int .u8 1,.int .u8 sd,.slice a3 l3 c3,.slice a4 l4 c4] 56 (0,0))):=fun W hW => ⟨(hW.block _ (Array.getElem?_eq_some_iff.1 hx0).1).trans hx0,(hW.block _ (Array.getElem?_eq_some_iff.1 hx1).1).trans hx1,(hW.block _ (Array.getElem?_eq_some_iff.1 hx2).1).trans hx2,(hW.block _ (Array.getElem?_eq_some_iff.1 hx3).1).trans hx3,(hW.block _ (Array.getElem?_eq_some_iff.1 hx4).1).trans hx4⟩
 have HF : Hid (∀ W,Below WB.heap.size WB W → W.cell? ⟨w.heap.size,0,none⟩ = some (nv) ∧ W.cell? ⟨w.heap.size,1,none⟩ = some (.slice la n lc) ∧ W.cell? ⟨w.heap.size + 1,0,none⟩ = some (.int .u8 1) ∧ W.cell? ⟨w.heap.size + 1,1,none⟩ = some (.slice a1 n1 c1) ∧ W.cell? ⟨w.heap.size + 1,2,none⟩ = some (.slice a2 n2 c2) ∧ W.cell? ⟨w.heap.size + 1,3,none⟩ = some (.int .i64 i.low) ∧ W.cell? ⟨w.heap.size + 1,4,none⟩ = some (.bool i.ls) ∧ W.cell? ⟨w.heap.size + 1,5,none⟩ = some (.int .i64 i.high) ∧ W.cell? ⟨w.heap.size + 1,6,none⟩ = some (.bool i.hs) ∧ W.cell? ⟨w.heap.size + 1,7,none⟩ = some (.bool i.op) ∧ W.cell? ⟨w.heap.size + 1 + 1,0,none⟩ = some (.int .i64 a) ∧ W.cell? ⟨w.heap.size + 1 + 1,1,none⟩ = some (.int .i64 p) ∧ W.cell? ⟨w.heap.size + 1 + 1 + 1,0,none⟩ = some (.int .i64 b) ∧ W.cell? ⟨w.heap.size + 1 + 1 + 1,1,none⟩ = some (.int .i64 q) ∧ W.cell? ⟨w.heap.size + 1 + 1 + 1 + 1,0,none⟩ = some (.int .u8 1) ∧ W.cell? ⟨w.heap.size + 1 + 1 + 1 + 1,1,none⟩ = some (.int .u8 sd) ∧ W.cell? ⟨w.heap.size + 1 + 1 + 1 + 1,2,none⟩ = some (.slice a3 l3 c3) ∧ W.cell? ⟨w.heap.size + 1 + 1 + 1 + 1,3,none⟩ = some (.slice a4 l4 c4) ∧ w.heap.size < W.heap.size ∧ w.heap.size + 1 < W.heap.size ∧ w.heap.size + 1 + 1 < W.heap.size ∧ w.heap.size + 1 + 1 + 1 < W.heap.size ∧ w.heap.size + 1 + 1 + 1 + 1 < W.heap.size):=by
  intro W hW
  obtain ⟨k0,k1,k2,k3,k4⟩:=HX.out W hW
  exact ⟨Jc k0 0,Jc k0 1,Jc k1 0,Jc k1 1,Jc k1 2,Jc k1 3,Jc k1 4,Jc k1 5,Jc k1 6,Jc k1 7,Jc k2 0,Jc k2 1,Jc k3 0,Jc k3 1,Jc k4 0,Jc k4 1,Jc k4 2,Jc k4 3,(Array.getElem?_eq_some_iff.1 k0).1,(Array.getElem?_eq_some_iff.1 k1).1,(Array.getElem?_eq_some_iff.1 k2).1,(Array.getElem?_eq_some_iff.1 k3).1,(Array.getElem?_eq_some_iff.1 k4).1⟩
 have HBB:=Jh hbWB
 have HWB:=Jh hWWB.symm
 clear hWWB hbWB hx0 hx1 hx2 hx3 hx4
 have HBW : Hid (∀ W,Below WB.heap.size WB W → Below w.heap.size w W):=fun W h => HBB.out.trans (h.mono HBB.out.size)
 have HF : Hid (∀ W,Below WB.heap.size WB W → W.cell? ⟨w.heap.size,0,none⟩ = some (nv) ∧ W.cell? ⟨w.heap.size,1,none⟩ = some (.slice la n lc) ∧ W.cell? ⟨w.heap.size + 1,0,none⟩ = some (.int .u8 1) ∧ W.cell? ⟨w.heap.size + 1,1,none⟩ = some (.slice a1 n1 c1) ∧ W.cell? ⟨w.heap.size + 1,2,none⟩ = some (.slice a2 n2 c2) ∧ W.cell? ⟨w.heap.size + 1,3,none⟩ = some (.int .i64 i.low) ∧ W.cell? ⟨w.heap.size + 1,4,none⟩ = some (.bool i.ls) ∧ W.cell? ⟨w.heap.size + 1,5,none⟩ = some (.int .i64 i.high) ∧ W.cell? ⟨w.heap.size + 1,6,none⟩ = some (.bool i.hs) ∧ W.cell? ⟨w.heap.size + 1,7,none⟩ = some (.bool i.op) ∧ W.cell? ⟨w.heap.size + 1 + 1,0,none⟩ = some (.int .i64 a) ∧ W.cell? ⟨w.heap.size + 1 + 1,1,none⟩ = some (.int .i64 p) ∧ W.cell? ⟨w.heap.size + 1 + 1 + 1,0,none⟩ = some (.int .i64 b) ∧ W.cell? ⟨w.heap.size + 1 + 1 + 1,1,none⟩ = some (.int .i64 q) ∧ W.cell? ⟨w.heap.size + 1 + 1 + 1 + 1,0,none⟩ = some (.int .u8 1) ∧ W.cell? ⟨w.heap.size + 1 + 1 + 1 + 1,1,none⟩ = some (.int .u8 sd) ∧ W.cell? ⟨w.heap.size + 1 + 1 + 1 + 1,2,none⟩ = some (.slice a3 l3 c3) ∧ W.cell? ⟨w.heap.size + 1 + 1 + 1 + 1,3,none⟩ = some (.slice a4 l4 c4) ∧ w.heap.size < W.heap.size ∧ w.heap.size + 1 < W.heap.size ∧ w.heap.size + 1 + 1 < W.heap.size ∧ w.heap.size + 1 + 1 + 1 < W.heap.size ∧ w.heap.size + 1 + 1 + 1 + 1 < W.heap.size):=by
  intro W hW
  have hq:=HBW.out W hW
  obtain ⟨k0,k1,k2,k3,k4⟩:=HX.out W hW
  exact ⟨Jc k0 0,Jc k0 1,Jc k1 0,Jc k1 1,Jc k1 2,Jc k1 3,Jc k1 4,Jc k1 5,Jc k1 6,Jc k1 7,Jc k2 0,Jc k2 1,Jc k3 0,Jc k3 1,Jc k4 0,Jc k4 1,Jc k4 2,Jc k4 3,(Array.getElem?_eq_some_iff.1 k0).1,(Array.getElem?_eq_some_iff.1 k1).1,(Array.getElem?_eq_some_iff.1 k2).1,(Array.getElem?_eq_some_iff.1 k3).1,(Array.getElem?_eq_some_iff.1 k4).1⟩
 have HM : Hid (z5y 171 nv la n lc (.agg #[.int .u8 1,.slice a1 n1 c1,.slice a2 n2 c2,.int .i64 i.low,.bool i.ls,.int .i64 i.high,.bool i.hs,.bool i.op]) a p b q (.agg #[.int .u8 1,.int .u8 sd,.slice a3 l3 c3,.slice a4 l4 c4]) WB R):=fun W hW => hM W (HBW.out W hW)
 clear hM
 go_enter Tryz.func53,Tryz.ntmps53
 go_upto_region 1 with fail
 rw [HWB.out]
 clear HWB
 refine wrd (by kernel_rfl) HF.out (((Below.refl WB.heap.size WB).drew)) (fun hHeld => ?_)
 refine z00 (f:=5) (by kernel_rfl) (by assumption) [(0,true),(1,true),(2,true),(3,true),(4,true),(5,true),(7,true),(8,true),(10,true),(11,true),(12,true),(13,true),(14,true)] rfl (by kernel_rfl) ?_
 repeat (refine SeqH.take (v:=?_) rfl (fun _ _ _ h => h) (by kernel_rfl) ?_ ?_; rotate_left; (· (intro w hSw; (try dsimp only at hSw); go_simp) <;> with_reducible rfl); (try simp only [Act.put,J1,J2,J3,J4,J5,J6]))
 refine SeqH.nil ?_
 refine Jr (rs:=[6]) (by kernel_rfl) (by simp) ?_
 refine Jd rfl (fun K hK => ?_) Je
 go_simp
 go_at_call 102
 refine (z1j _).mono ?_
 rintro e wc ⟨⟨rfl,hkn⟩,hbc⟩
 have HBc : Hid (Below WB.heap.size WB wc):=belS ((Below.refl WB.heap.size WB).drew) hbc
 have hlk:=z5a (r:=WB.heap.size) hkn 1 (.func (.func 171) #[] #[]) 0 rfl
 clear hbc hkn
 try dsimp only
 refine hK.out _ _ (HF.out _ HBc.out) (fun hHeld => ?_)
 clear hK K
 try simp only [Act.put,J1,J2,J3,J4,J5,J6]
 refine Jr (rs:=[9]) (by kernel_rfl) (by simp) ?_
 refine Jd rfl (fun K hK => ?_) Je
 go_simp
 refine hK.out _ _ (HF.out _ HBc.out) (fun hHeld => ?_)
 clear hK K hlk
 try simp only [Act.put,J1,J2,J3,J4,J5,J6]
 refine Jr (rs:=[15]) (by kernel_rfl) (by simp) ?_
 refine Jd rfl (fun K hK => ?_) Je
 go_simp
 go_at_call 171
 refine (HM.out _ HBc.out).mono ?_
 rintro e wd ⟨rfl,hbd⟩
 have HBd : Hid (Below WB.heap.size WB wd):=belS HBc.out hbd
 clear hbd
 try dsimp only
 refine hK.out _ _ (HF.out _ HBd.out) (fun hHeld => ?_)
 clear hK K
 try simp only [Act.put,J1,J2,J3,J4,J5,J6]
 refine z00 (f:=0) (by kernel_rfl) (by assumption) [(16,true),(17,true)] rfl (by kernel_rfl) ?_
 repeat (refine SeqH.take (v:=?_) rfl (fun _ _ _ h => h) (by kernel_rfl) ?_ ?_; rotate_left; (· (intro w hSw; (try dsimp only at hSw); go_simp) <;> with_reducible rfl); (try simp only [Act.put,J1,J2,J3,J4,J5,J6]))
 refine SeqH.nil ?_
 refine wpAnyH_done (by kernel_rfl) ?_ _
 clear hHeld
 go_wp2_with fail
 all_goals go_ret
 all_goals exact ⟨rfl,HBW.out _ (HBd.out)⟩
theorem shows_k2 (nv : Value) (la : Option Addr) (n lc : Nat) (a1 a2 a3 a4 : Option Addr) (n1 n2 l3 l4 c1 c2 c3 c4 : Nat) (i : Spn) (a p b q sd : Int) (w : World) (R : Bool) (hM : z5y 172 nv la n lc (.agg #[.int .u8 2,.slice a1 n1 c1,.slice a2 n2 c2,.int .i64 i.low,.bool i.ls,.int .i64 i.high,.bool i.hs,.bool i.op]) a p b q (.agg #[.int .u8 2,.int .u8 sd,.slice a3 l3 c3,.slice a4 l4 c4]) w R) :
 Calls Tryz.prog 53 #[.agg #[nv,.slice la n lc],.agg #[.int .u8 2,.slice a1 n1 c1,.slice a2 n2 c2,.int .i64 i.low,.bool i.ls,.int .i64 i.high,.bool i.hs,.bool i.op],.agg #[.int .i64 a,.int .i64 p],.agg #[.int .i64 b,.int .i64 q],.agg #[.int .u8 2,.int .u8 sd,.slice a3 l3 c3,.slice a4 l4 c4]] w fun e w' => e = .returned (.bool R) ∧ Below w.heap.size w w':=by
 obtain ⟨WB,hWWB⟩ : ∃ WB,WB = ((((w.alloc (.cells #[nv,.slice la n lc] 107)).alloc (.cells #[.int .u8 2,.slice a1 n1 c1,.slice a2 n2 c2,.int .i64 i.low,.bool i.ls,.int .i64 i.high,.bool i.hs,.bool i.op] 47)).alloc (.cells #[.int .i64 a,.int .i64 p] 50)).alloc (.cells #[.int .i64 b,.int .i64 q] 50)).alloc (.cells #[.int .u8 2,.int .u8 sd,.slice a3 l3 c3,.slice a4 l4 c4] 56):=⟨_,rfl⟩
 have hbWB : Below w.heap.size w WB:=by rw [hWWB]; exact ((((z0c _ _).alloc (by simp <;> omega) _).alloc (by simp <;> omega) _).alloc (by simp <;> omega) _).alloc (by simp <;> omega) _
 have hx0 : WB.heap[w.heap.size]? = some (.cells #[nv,.slice la n lc] 107 (0,0)):=by rw [hWWB]; exact (Jb _ _ _ (by simp <;> omega)).trans ((Jb _ _ _ (by simp <;> omega)).trans ((Jb _ _ _ (by simp <;> omega)).trans ((Jb _ _ _ (by simp <;> omega)).trans (z03 rfl))))
 have hx1 : WB.heap[w.heap.size + 1]? = some (.cells #[.int .u8 2,.slice a1 n1 c1,.slice a2 n2 c2,.int .i64 i.low,.bool i.ls,.int .i64 i.high,.bool i.hs,.bool i.op] 47 (0,0)):=by rw [hWWB]; exact (Jb _ _ _ (by simp <;> omega)).trans ((Jb _ _ _ (by simp <;> omega)).trans ((Jb _ _ _ (by simp <;> omega)).trans (z03 (by simp))))
 have hx2 : WB.heap[w.heap.size + 1 + 1]? = some (.cells #[.int .i64 a,.int .i64 p] 50 (0,0)):=by rw [hWWB]; exact (Jb _ _ _ (by simp <;> omega)).trans ((Jb _ _ _ (by simp <;> omega)).trans (z03 (by simp)))
 have hx3 : WB.heap[w.heap.size + 1 + 1 + 1]? = some (.cells #[.int .i64 b,.int .i64 q] 50 (0,0)):=by rw [hWWB]; exact (Jb _ _ _ (by simp <;> omega)).trans (z03 (by simp))
 have hx4 : WB.heap[w.heap.size + 1 + 1 + 1 + 1]? = some (.cells #[.int .u8 2,.int .u8 sd,.slice a3 l3 c3,.slice a4 l4 c4] 56 (0,0)):=by rw [hWWB]; exact z03 (by simp)
 have HX : Hid (∀ W,Below WB.heap.size WB W → W.heap[w.heap.size]? = some (.cells #[nv,.slice la n lc] 107 (0,0)) ∧ W.heap[w.heap.size + 1]? = some (.cells #[.int .u8 2,.slice a1 n1 c1,.slice a2 n2 c2,.int .i64 i.low,.bool i.ls,.int .i64 i.high,.bool i.hs,.bool i.op] 47 (0,0)) ∧ W.heap[w.heap.size + 1 + 1]? = some (.cells #[.int .i64 a,.int .i64 p] 50 (0,0)) ∧ W.heap[w.heap.size + 1 + 1 + 1]? = some (.cells #[.int .i64 b,.int .i64 q] 50 (0,0)) ∧ W.heap[w.heap.size + 1 + 1 + 1 + 1]? = some (.cells #[.int .u8 2,.int .u8 sd,.slice a3 l3 c3,.slice a4 l4 c4] 56 (0,0))):=fun W hW => ⟨(hW.block _ (Array.getElem?_eq_some_iff.1 hx0).1).trans hx0,(hW.block _ (Array.getElem?_eq_some_iff.1 hx1).1).trans hx1,(hW.block _ (Array.getElem?_eq_some_iff.1 hx2).1).trans hx2,(hW.block _ (Array.getElem?_eq_some_iff.1 hx3).1).trans hx3,(hW.block _ (Array.getElem?_eq_some_iff.1 hx4).1).trans hx4⟩
 have HF : Hid (∀ W,Below WB.heap.size WB W → W.cell? ⟨w.heap.size,0,none⟩ = some (nv) ∧ W.cell? ⟨w.heap.size,1,none⟩ = some (.slice la n lc) ∧ W.cell? ⟨w.heap.size + 1,0,none⟩ = some (.int .u8 2) ∧ W.cell? ⟨w.heap.size + 1,1,none⟩ = some (.slice a1 n1 c1) ∧ W.cell? ⟨w.heap.size + 1,2,none⟩ = some (.slice a2 n2 c2) ∧ W.cell? ⟨w.heap.size + 1,3,none⟩ = some (.int .i64 i.low) ∧ W.cell? ⟨w.heap.size + 1,4,none⟩ = some (.bool i.ls) ∧ W.cell? ⟨w.heap.size + 1,5,none⟩ = some (.int .i64 i.high) ∧ W.cell? ⟨w.heap.size + 1,6,none⟩ = some (.bool i.hs) ∧ W.cell? ⟨w.heap.size + 1,7,none⟩ = some (.bool i.op) ∧ W.cell? ⟨w.heap.size + 1 + 1,0,none⟩ = some (.int .i64 a) ∧ W.cell? ⟨w.heap.size + 1 + 1,1,none⟩ = some (.int .i64 p) ∧ W.cell? ⟨w.heap.size + 1 + 1 + 1,0,none⟩ = some (.int .i64 b) ∧ W.cell? ⟨w.heap.size + 1 + 1 + 1,1,none⟩ = some (.int .i64 q) ∧ W.cell? ⟨w.heap.size + 1 + 1 + 1 + 1,0,none⟩ = some (.int .u8 2) ∧ W.cell? ⟨w.heap.size + 1 + 1 + 1 + 1,1,none⟩ = some (.int .u8 sd) ∧ W.cell? ⟨w.heap.size + 1 + 1 + 1 + 1,2,none⟩ = some (.slice a3 l3 c3) ∧ W.cell? ⟨w.heap.size + 1 + 1 + 1 + 1,3,none⟩ = some (.slice a4 l4 c4) ∧ w.heap.size < W.heap.size ∧ w.heap.size + 1 < W.heap.size ∧ w.heap.size + 1 + 1 < W.heap.size ∧ w.heap.size + 1 + 1 + 1 < W.heap.size ∧ w.heap.size + 1 + 1 + 1 + 1 < W.heap.size):=by
  intro W hW
  obtain ⟨k0,k1,k2,k3,k4⟩:=HX.out W hW
  exact ⟨Jc k0 0,Jc k0 1,Jc k1 0,Jc k1 1,Jc k1 2,Jc k1 3,Jc k1 4,Jc k1 5,Jc k1 6,Jc k1 7,Jc k2 0,Jc k2 1,Jc k3 0,Jc k3 1,Jc k4 0,Jc k4 1,Jc k4 2,Jc k4 3,(Array.getElem?_eq_some_iff.1 k0).1,(Array.getElem?_eq_some_iff.1 k1).1,(Array.getElem?_eq_some_iff.1 k2).1,(Array.getElem?_eq_some_iff.1 k3).1,(Array.getElem?_eq_some_iff.1 k4).1⟩
 have HBB:=Jh hbWB
 have HWB:=Jh hWWB.symm
 clear hWWB hbWB hx0 hx1 hx2 hx3 hx4
 have HBW : Hid (∀ W,Below WB.heap.size WB W → Below w.heap.size w W):=fun W h => HBB.out.trans (h.mono HBB.out.size)
 have HF : Hid (∀ W,Below WB.heap.size WB W → W.cell? ⟨w.heap.size,0,none⟩ = some (nv) ∧ W.cell? ⟨w.heap.size,1,none⟩ = some (.slice la n lc) ∧ W.cell? ⟨w.heap.size + 1,0,none⟩ = some (.int .u8 2) ∧ W.cell? ⟨w.heap.size + 1,1,none⟩ = some (.slice a1 n1 c1) ∧ W.cell? ⟨w.heap.size + 1,2,none⟩ = some (.slice a2 n2 c2) ∧ W.cell? ⟨w.heap.size + 1,3,none⟩ = some (.int .i64 i.low) ∧ W.cell? ⟨w.heap.size + 1,4,none⟩ = some (.bool i.ls) ∧ W.cell? ⟨w.heap.size + 1,5,none⟩ = some (.int .i64 i.high) ∧ W.cell? ⟨w.heap.size + 1,6,none⟩ = some (.bool i.hs) ∧ W.cell? ⟨w.heap.size + 1,7,none⟩ = some (.bool i.op) ∧ W.cell? ⟨w.heap.size + 1 + 1,0,none⟩ = some (.int .i64 a) ∧ W.cell? ⟨w.heap.size + 1 + 1,1,none⟩ = some (.int .i64 p) ∧ W.cell? ⟨w.heap.size + 1 + 1 + 1,0,none⟩ = some (.int .i64 b) ∧ W.cell? ⟨w.heap.size + 1 + 1 + 1,1,none⟩ = some (.int .i64 q) ∧ W.cell? ⟨w.heap.size + 1 + 1 + 1 + 1,0,none⟩ = some (.int .u8 2) ∧ W.cell? ⟨w.heap.size + 1 + 1 + 1 + 1,1,none⟩ = some (.int .u8 sd) ∧ W.cell? ⟨w.heap.size + 1 + 1 + 1 + 1,2,none⟩ = some (.slice a3 l3 c3) ∧ W.cell? ⟨w.heap.size + 1 + 1 + 1 + 1,3,none⟩ = some (.slice a4 l4 c4) ∧ w.heap.size < W.heap.size ∧ w.heap.size + 1 < W.heap.size ∧ w.heap.size + 1 + 1 < W.heap.size ∧ w.heap.size + 1 + 1 + 1 < W.heap.size ∧ w.heap.size + 1 + 1 + 1 + 1 < W.heap.size):=by
  intro W hW
  have hq:=HBW.out W hW
  obtain ⟨k0,k1,k2,k3,k4⟩:=HX.out W hW
  exact ⟨Jc k0 0,Jc k0 1,Jc k1 0,Jc k1 1,Jc k1 2,Jc k1 3,Jc k1 4,Jc k1 5,Jc k1 6,Jc k1 7,Jc k2 0,Jc k2 1,Jc k3 0,Jc k3 1,Jc k4 0,Jc k4 1,Jc k4 2,Jc k4 3,(Array.getElem?_eq_some_iff.1 k0).1,(Array.getElem?_eq_some_iff.1 k1).1,(Array.getElem?_eq_some_iff.1 k2).1,(Array.getElem?_eq_some_iff.1 k3).1,(Array.getElem?_eq_some_iff.1 k4).1⟩
 have HM : Hid (z5y 172 nv la n lc (.agg #[.int .u8 2,.slice a1 n1 c1,.slice a2 n2 c2,.int .i64 i.low,.bool i.ls,.int .i64 i.high,.bool i.hs,.bool i.op]) a p b q (.agg #[.int .u8 2,.int .u8 sd,.slice a3 l3 c3,.slice a4 l4 c4]) WB R):=fun W hW => hM W (HBW.out W hW)
 clear hM
 go_enter Tryz.func53,Tryz.ntmps53
 go_upto_region 1 with fail
 rw [HWB.out]
 clear HWB
 refine wrd (by kernel_rfl) HF.out (((Below.refl WB.heap.size WB).drew)) (fun hHeld => ?_)
 refine z00 (f:=5) (by kernel_rfl) (by assumption) [(0,true),(1,true),(2,true),(3,true),(4,true),(5,true),(7,true),(8,true),(10,true),(11,true),(12,true),(13,true),(14,true)] rfl (by kernel_rfl) ?_
 repeat (refine SeqH.take (v:=?_) rfl (fun _ _ _ h => h) (by kernel_rfl) ?_ ?_; rotate_left; (· (intro w hSw; (try dsimp only at hSw); go_simp) <;> with_reducible rfl); (try simp only [Act.put,J1,J2,J3,J4,J5,J6]))
 refine SeqH.nil ?_
 refine Jr (rs:=[6]) (by kernel_rfl) (by simp) ?_
 refine Jd rfl (fun K hK => ?_) Je
 go_simp
 go_at_call 102
 refine (z1j _).mono ?_
 rintro e wc ⟨⟨rfl,hkn⟩,hbc⟩
 have HBc : Hid (Below WB.heap.size WB wc):=belS ((Below.refl WB.heap.size WB).drew) hbc
 have hlk:=z5a (r:=WB.heap.size) hkn 2 (.func (.func 172) #[] #[]) 1 rfl
 clear hbc hkn
 try dsimp only
 refine hK.out _ _ (HF.out _ HBc.out) (fun hHeld => ?_)
 clear hK K
 try simp only [Act.put,J1,J2,J3,J4,J5,J6]
 refine Jr (rs:=[9]) (by kernel_rfl) (by simp) ?_
 refine Jd rfl (fun K hK => ?_) Je
 go_simp
 refine hK.out _ _ (HF.out _ HBc.out) (fun hHeld => ?_)
 clear hK K hlk
 try simp only [Act.put,J1,J2,J3,J4,J5,J6]
 refine Jr (rs:=[15]) (by kernel_rfl) (by simp) ?_
 refine Jd rfl (fun K hK => ?_) Je
 go_simp
 go_at_call 172
 refine (HM.out _ HBc.out).mono ?_
 rintro e wd ⟨rfl,hbd⟩
 have HBd : Hid (Below WB.heap.size WB wd):=belS HBc.out hbd
 clear hbd
 try dsimp only
 refine hK.out _ _ (HF.out _ HBd.out) (fun hHeld => ?_)
 clear hK K
 try simp only [Act.put,J1,J2,J3,J4,J5,J6]
 refine z00 (f:=0) (by kernel_rfl) (by assumption) [(16,true),(17,true)] rfl (by kernel_rfl) ?_
 repeat (refine SeqH.take (v:=?_) rfl (fun _ _ _ h => h) (by kernel_rfl) ?_ ?_; rotate_left; (· (intro w hSw; (try dsimp only at hSw); go_simp) <;> with_reducible rfl); (try simp only [Act.put,J1,J2,J3,J4,J5,J6]))
 refine SeqH.nil ?_
 refine wpAnyH_done (by kernel_rfl) ?_ _
 clear hHeld
 go_wp2_with fail
 all_goals go_ret
 all_goals exact ⟨rfl,HBW.out _ (HBd.out)⟩
theorem shows_k3 (nv : Value) (la : Option Addr) (n lc : Nat) (a1 a2 a3 a4 : Option Addr) (n1 n2 l3 l4 c1 c2 c3 c4 : Nat) (i : Spn) (a p b q sd : Int) (w : World) (R : Bool) (hM : z5y 173 nv la n lc (.agg #[.int .u8 3,.slice a1 n1 c1,.slice a2 n2 c2,.int .i64 i.low,.bool i.ls,.int .i64 i.high,.bool i.hs,.bool i.op]) a p b q (.agg #[.int .u8 3,.int .u8 sd,.slice a3 l3 c3,.slice a4 l4 c4]) w R) :
 Calls Tryz.prog 53 #[.agg #[nv,.slice la n lc],.agg #[.int .u8 3,.slice a1 n1 c1,.slice a2 n2 c2,.int .i64 i.low,.bool i.ls,.int .i64 i.high,.bool i.hs,.bool i.op],.agg #[.int .i64 a,.int .i64 p],.agg #[.int .i64 b,.int .i64 q],.agg #[.int .u8 3,.int .u8 sd,.slice a3 l3 c3,.slice a4 l4 c4]] w fun e w' => e = .returned (.bool R) ∧ Below w.heap.size w w':=by
 obtain ⟨WB,hWWB⟩ : ∃ WB,WB = ((((w.alloc (.cells #[nv,.slice la n lc] 107)).alloc (.cells #[.int .u8 3,.slice a1 n1 c1,.slice a2 n2 c2,.int .i64 i.low,.bool i.ls,.int .i64 i.high,.bool i.hs,.bool i.op] 47)).alloc (.cells #[.int .i64 a,.int .i64 p] 50)).alloc (.cells #[.int .i64 b,.int .i64 q] 50)).alloc (.cells #[.int .u8 3,.int .u8 sd,.slice a3 l3 c3,.slice a4 l4 c4] 56):=⟨_,rfl⟩
 have hbWB : Below w.heap.size w WB:=by rw [hWWB]; exact ((((z0c _ _).alloc (by simp <;> omega) _).alloc (by simp <;> omega) _).alloc (by simp <;> omega) _).alloc (by simp <;> omega) _
 have hx0 : WB.heap[w.heap.size]? = some (.cells #[nv,.slice la n lc] 107 (0,0)):=by rw [hWWB]; exact (Jb _ _ _ (by simp <;> omega)).trans ((Jb _ _ _ (by simp <;> omega)).trans ((Jb _ _ _ (by simp <;> omega)).trans ((Jb _ _ _ (by simp <;> omega)).trans (z03 rfl))))
 have hx1 : WB.heap[w.heap.size + 1]? = some (.cells #[.int .u8 3,.slice a1 n1 c1,.slice a2 n2 c2,.int .i64 i.low,.bool i.ls,.int .i64 i.high,.bool i.hs,.bool i.op] 47 (0,0)):=by rw [hWWB]; exact (Jb _ _ _ (by simp <;> omega)).trans ((Jb _ _ _ (by simp <;> omega)).trans ((Jb _ _ _ (by simp <;> omega)).trans (z03 (by simp))))
 have hx2 : WB.heap[w.heap.size + 1 + 1]? = some (.cells #[.int .i64 a,.int .i64 p] 50 (0,0)):=by rw [hWWB]; exact (Jb _ _ _ (by simp <;> omega)).trans ((Jb _ _ _ (by simp <;> omega)).trans (z03 (by simp)))
 have hx3 : WB.heap[w.heap.size + 1 + 1 + 1]? = some (.cells #[.int .i64 b,.int .i64 q] 50 (0,0)):=by rw [hWWB]; exact (Jb _ _ _ (by simp <;> omega)).trans (z03 (by simp))
 have hx4 : WB.heap[w.heap.size + 1 + 1 + 1 + 1]? = some (.cells #[.int .u8 3,.int .u8 sd,.slice a3 l3 c3,.slice a4 l4 c4] 56 (0,0)):=by rw [hWWB]; exact z03 (by simp)
 have HX : Hid (∀ W,Below WB.heap.size WB W → W.heap[w.heap.size]? = some (.cells #[nv,.slice la n lc] 107 (0,0)) ∧ W.heap[w.heap.size + 1]? = some (.cells #[.int .u8 3,.slice a1 n1 c1,.slice a2 n2 c2,.int .i64 i.low,.bool i.ls,.int .i64 i.high,.bool i.hs,.bool i.op] 47 (0,0)) ∧ W.heap[w.heap.size + 1 + 1]? = some (.cells #[.int .i64 a,.int .i64 p] 50 (0,0)) ∧ W.heap[w.heap.size + 1 + 1 + 1]? = some (.cells #[.int .i64 b,.int .i64 q] 50 (0,0)) ∧ W.heap[w.heap.size + 1 + 1 + 1 + 1]? = some (.cells #[.int .u8 3,.int .u8 sd,.slice a3 l3 c3,.slice a4 l4 c4] 56 (0,0))):=fun W hW => ⟨(hW.block _ (Array.getElem?_eq_some_iff.1 hx0).1).trans hx0,(hW.block _ (Array.getElem?_eq_some_iff.1 hx1).1).trans hx1,(hW.block _ (Array.getElem?_eq_some_iff.1 hx2).1).trans hx2,(hW.block _ (Array.getElem?_eq_some_iff.1 hx3).1).trans hx3,(hW.block _ (Array.getElem?_eq_some_iff.1 hx4).1).trans hx4⟩
 have HF : Hid (∀ W,Below WB.heap.size WB W → W.cell? ⟨w.heap.size,0,none⟩ = some (nv) ∧ W.cell? ⟨w.heap.size,1,none⟩ = some (.slice la n lc) ∧ W.cell? ⟨w.heap.size + 1,0,none⟩ = some (.int .u8 3) ∧ W.cell? ⟨w.heap.size + 1,1,none⟩ = some (.slice a1 n1 c1) ∧ W.cell? ⟨w.heap.size + 1,2,none⟩ = some (.slice a2 n2 c2) ∧ W.cell? ⟨w.heap.size + 1,3,none⟩ = some (.int .i64 i.low) ∧ W.cell? ⟨w.heap.size + 1,4,none⟩ = some (.bool i.ls) ∧ W.cell? ⟨w.heap.size + 1,5,none⟩ = some (.int .i64 i.high) ∧ W.cell? ⟨w.heap.size + 1,6,none⟩ = some (.bool i.hs) ∧ W.cell? ⟨w.heap.size + 1,7,none⟩ = some (.bool i.op) ∧ W.cell? ⟨w.heap.size + 1 + 1,0,none⟩ = some (.int .i64 a) ∧ W.cell? ⟨w.heap.size + 1 + 1,1,none⟩ = some (.int .i64 p) ∧ W.cell? ⟨w.heap.size + 1 + 1 + 1,0,none⟩ = some (.int .i64 b) ∧ W.cell? ⟨w.heap.size + 1 + 1 + 1,1,none⟩ = some (.int .i64 q) ∧ W.cell? ⟨w.heap.size + 1 + 1 + 1 + 1,0,none⟩ = some (.int .u8 3) ∧ W.cell? ⟨w.heap.size + 1 + 1 + 1 + 1,1,none⟩ = some (.int .u8 sd) ∧ W.cell? ⟨w.heap.size + 1 + 1 + 1 + 1,2,none⟩ = some (.slice a3 l3 c3) ∧ W.cell? ⟨w.heap.size + 1 + 1 + 1 + 1,3,none⟩ = some (.slice a4 l4 c4) ∧ w.heap.size < W.heap.size ∧ w.heap.size + 1 < W.heap.size ∧ w.heap.size + 1 + 1 < W.heap.size ∧ w.heap.size + 1 + 1 + 1 < W.heap.size ∧ w.heap.size + 1 + 1 + 1 + 1 < W.heap.size):=by
  intro W hW
  obtain ⟨k0,k1,k2,k3,k4⟩:=HX.out W hW
  exact ⟨Jc k0 0,Jc k0 1,Jc k1 0,Jc k1 1,Jc k1 2,Jc k1 3,Jc k1 4,Jc k1 5,Jc k1 6,Jc k1 7,Jc k2 0,Jc k2 1,Jc k3 0,Jc k3 1,Jc k4 0,Jc k4 1,Jc k4 2,Jc k4 3,(Array.getElem?_eq_some_iff.1 k0).1,(Array.getElem?_eq_some_iff.1 k1).1,(Array.getElem?_eq_some_iff.1 k2).1,(Array.getElem?_eq_some_iff.1 k3).1,(Array.getElem?_eq_some_iff.1 k4).1⟩
 have HBB:=Jh hbWB
 have HWB:=Jh hWWB.symm
 clear hWWB hbWB hx0 hx1 hx2 hx3 hx4
 have HBW : Hid (∀ W,Below WB.heap.size WB W → Below w.heap.size w W):=fun W h => HBB.out.trans (h.mono HBB.out.size)
 have HF : Hid (∀ W,Below WB.heap.size WB W → W.cell? ⟨w.heap.size,0,none⟩ = some (nv) ∧ W.cell? ⟨w.heap.size,1,none⟩ = some (.slice la n lc) ∧ W.cell? ⟨w.heap.size + 1,0,none⟩ = some (.int .u8 3) ∧ W.cell? ⟨w.heap.size + 1,1,none⟩ = some (.slice a1 n1 c1) ∧ W.cell? ⟨w.heap.size + 1,2,none⟩ = some (.slice a2 n2 c2) ∧ W.cell? ⟨w.heap.size + 1,3,none⟩ = some (.int .i64 i.low) ∧ W.cell? ⟨w.heap.size + 1,4,none⟩ = some (.bool i.ls) ∧ W.cell? ⟨w.heap.size + 1,5,none⟩ = some (.int .i64 i.high) ∧ W.cell? ⟨w.heap.size + 1,6,none⟩ = some (.bool i.hs) ∧ W.cell? ⟨w.heap.size + 1,7,none⟩ = some (.bool i.op) ∧ W.cell? ⟨w.heap.size + 1 + 1,0,none⟩ = some (.int .i64 a) ∧ W.cell? ⟨w.heap.size + 1 + 1,1,none⟩ = some (.int .i64 p) ∧ W.cell? ⟨w.heap.size + 1 + 1 + 1,0,none⟩ = some (.int .i64 b) ∧ W.cell? ⟨w.heap.size + 1 + 1 + 1,1,none⟩ = some (.int .i64 q) ∧ W.cell? ⟨w.heap.size + 1 + 1 + 1 + 1,0,none⟩ = some (.int .u8 3) ∧ W.cell? ⟨w.heap.size + 1 + 1 + 1 + 1,1,none⟩ = some (.int .u8 sd) ∧ W.cell? ⟨w.heap.size + 1 + 1 + 1 + 1,2,none⟩ = some (.slice a3 l3 c3) ∧ W.cell? ⟨w.heap.size + 1 + 1 + 1 + 1,3,none⟩ = some (.slice a4 l4 c4) ∧ w.heap.size < W.heap.size ∧ w.heap.size + 1 < W.heap.size ∧ w.heap.size + 1 + 1 < W.heap.size ∧ w.heap.size + 1 + 1 + 1 < W.heap.size ∧ w.heap.size + 1 + 1 + 1 + 1 < W.heap.size):=by
  intro W hW
  have hq:=HBW.out W hW
  obtain ⟨k0,k1,k2,k3,k4⟩:=HX.out W hW
  exact ⟨Jc k0 0,Jc k0 1,Jc k1 0,Jc k1 1,Jc k1 2,Jc k1 3,Jc k1 4,Jc k1 5,Jc k1 6,Jc k1 7,Jc k2 0,Jc k2 1,Jc k3 0,Jc k3 1,Jc k4 0,Jc k4 1,Jc k4 2,Jc k4 3,(Array.getElem?_eq_some_iff.1 k0).1,(Array.getElem?_eq_some_iff.1 k1).1,(Array.getElem?_eq_some_iff.1 k2).1,(Array.getElem?_eq_some_iff.1 k3).1,(Array.getElem?_eq_some_iff.1 k4).1⟩
 have HM : Hid (z5y 173 nv la n lc (.agg #[.int .u8 3,.slice a1 n1 c1,.slice a2 n2 c2,.int .i64 i.low,.bool i.ls,.int .i64 i.high,.bool i.hs,.bool i.op]) a p b q (.agg #[.int .u8 3,.int .u8 sd,.slice a3 l3 c3,.slice a4 l4 c4]) WB R):=fun W hW => hM W (HBW.out W hW)
 clear hM
 go_enter Tryz.func53,Tryz.ntmps53
 go_upto_region 1 with fail
 rw [HWB.out]
 clear HWB
 refine wrd (by kernel_rfl) HF.out (((Below.refl WB.heap.size WB).drew)) (fun hHeld => ?_)
 refine z00 (f:=5) (by kernel_rfl) (by assumption) [(0,true),(1,true),(2,true),(3,true),(4,true),(5,true),(7,true),(8,true),(10,true),(11,true),(12,true),(13,true),(14,true)] rfl (by kernel_rfl) ?_
 repeat (refine SeqH.take (v:=?_) rfl (fun _ _ _ h => h) (by kernel_rfl) ?_ ?_; rotate_left; (· (intro w hSw; (try dsimp only at hSw); go_simp) <;> with_reducible rfl); (try simp only [Act.put,J1,J2,J3,J4,J5,J6]))
 refine SeqH.nil ?_
 refine Jr (rs:=[6]) (by kernel_rfl) (by simp) ?_
 refine Jd rfl (fun K hK => ?_) Je
 go_simp
 go_at_call 102
 refine (z1j _).mono ?_
 rintro e wc ⟨⟨rfl,hkn⟩,hbc⟩
 have HBc : Hid (Below WB.heap.size WB wc):=belS ((Below.refl WB.heap.size WB).drew) hbc
 have hlk:=z5a (r:=WB.heap.size) hkn 3 (.func (.func 173) #[] #[]) 2 rfl
 clear hbc hkn
 try dsimp only
 refine hK.out _ _ (HF.out _ HBc.out) (fun hHeld => ?_)
 clear hK K
 try simp only [Act.put,J1,J2,J3,J4,J5,J6]
 refine Jr (rs:=[9]) (by kernel_rfl) (by simp) ?_
 refine Jd rfl (fun K hK => ?_) Je
 go_simp
 refine hK.out _ _ (HF.out _ HBc.out) (fun hHeld => ?_)
 clear hK K hlk
 try simp only [Act.put,J1,J2,J3,J4,J5,J6]
 refine Jr (rs:=[15]) (by kernel_rfl) (by simp) ?_
 refine Jd rfl (fun K hK => ?_) Je
 go_simp
 go_at_call 173
 refine (HM.out _ HBc.out).mono ?_
 rintro e wd ⟨rfl,hbd⟩
 have HBd : Hid (Below WB.heap.size WB wd):=belS HBc.out hbd
 clear hbd
 try dsimp only
 refine hK.out _ _ (HF.out _ HBd.out) (fun hHeld => ?_)
 clear hK K
 try simp only [Act.put,J1,J2,J3,J4,J5,J6]
 refine z00 (f:=0) (by kernel_rfl) (by assumption) [(16,true),(17,true)] rfl (by kernel_rfl) ?_
 repeat (refine SeqH.take (v:=?_) rfl (fun _ _ _ h => h) (by kernel_rfl) ?_ ?_; rotate_left; (· (intro w hSw; (try dsimp only at hSw); go_simp) <;> with_reducible rfl); (try simp only [Act.put,J1,J2,J3,J4,J5,J6]))
 refine SeqH.nil ?_
 refine wpAnyH_done (by kernel_rfl) ?_ _
 clear hHeld
 go_wp2_with fail
 all_goals go_ret
 all_goals exact ⟨rfl,HBW.out _ (HBd.out)⟩
theorem shows_k4 (nv : Value) (la : Option Addr) (n lc : Nat) (a1 a2 a3 a4 : Option Addr) (n1 n2 l3 l4 c1 c2 c3 c4 : Nat) (i : Spn) (a p b q sd : Int) (w : World) (R : Bool) (hM : z5y 174 nv la n lc (.agg #[.int .u8 4,.slice a1 n1 c1,.slice a2 n2 c2,.int .i64 i.low,.bool i.ls,.int .i64 i.high,.bool i.hs,.bool i.op]) a p b q (.agg #[.int .u8 4,.int .u8 sd,.slice a3 l3 c3,.slice a4 l4 c4]) w R) :
 Calls Tryz.prog 53 #[.agg #[nv,.slice la n lc],.agg #[.int .u8 4,.slice a1 n1 c1,.slice a2 n2 c2,.int .i64 i.low,.bool i.ls,.int .i64 i.high,.bool i.hs,.bool i.op],.agg #[.int .i64 a,.int .i64 p],.agg #[.int .i64 b,.int .i64 q],.agg #[.int .u8 4,.int .u8 sd,.slice a3 l3 c3,.slice a4 l4 c4]] w fun e w' => e = .returned (.bool R) ∧ Below w.heap.size w w':=by
 obtain ⟨WB,hWWB⟩ : ∃ WB,WB = ((((w.alloc (.cells #[nv,.slice la n lc] 107)).alloc (.cells #[.int .u8 4,.slice a1 n1 c1,.slice a2 n2 c2,.int .i64 i.low,.bool i.ls,.int .i64 i.high,.bool i.hs,.bool i.op] 47)).alloc (.cells #[.int .i64 a,.int .i64 p] 50)).alloc (.cells #[.int .i64 b,.int .i64 q] 50)).alloc (.cells #[.int .u8 4,.int .u8 sd,.slice a3 l3 c3,.slice a4 l4 c4] 56):=⟨_,rfl⟩
 have hbWB : Below w.heap.size w WB:=by rw [hWWB]; exact ((((z0c _ _).alloc (by simp <;> omega) _).alloc (by simp <;> omega) _).alloc (by simp <;> omega) _).alloc (by simp <;> omega) _
 have hx0 : WB.heap[w.heap.size]? = some (.cells #[nv,.slice la n lc] 107 (0,0)):=by rw [hWWB]; exact (Jb _ _ _ (by simp <;> omega)).trans ((Jb _ _ _ (by simp <;> omega)).trans ((Jb _ _ _ (by simp <;> omega)).trans ((Jb _ _ _ (by simp <;> omega)).trans (z03 rfl))))
 have hx1 : WB.heap[w.heap.size + 1]? = some (.cells #[.int .u8 4,.slice a1 n1 c1,.slice a2 n2 c2,.int .i64 i.low,.bool i.ls,.int .i64 i.high,.bool i.hs,.bool i.op] 47 (0,0)):=by rw [hWWB]; exact (Jb _ _ _ (by simp <;> omega)).trans ((Jb _ _ _ (by simp <;> omega)).trans ((Jb _ _ _ (by simp <;> omega)).trans (z03 (by simp))))
 have hx2 : WB.heap[w.heap.size + 1 + 1]? = some (.cells #[.int .i64 a,.int .i64 p] 50 (0,0)):=by rw [hWWB]; exact (Jb _ _ _ (by simp <;> omega)).trans ((Jb _ _ _ (by simp <;> omega)).trans (z03 (by simp)))
 have hx3 : WB.heap[w.heap.size + 1 + 1 + 1]? = some (.cells #[.int .i64 b,.int .i64 q] 50 (0,0)):=by rw [hWWB]; exact (Jb _ _ _ (by simp <;> omega)).trans (z03 (by simp))
 have hx4 : WB.heap[w.heap.size + 1 + 1 + 1 + 1]? = some (.cells #[.int .u8 4,.int .u8 sd,.slice a3 l3 c3,.slice a4 l4 c4] 56 (0,0)):=by rw [hWWB]; exact z03 (by simp)
 have HX : Hid (∀ W,Below WB.heap.size WB W → W.heap[w.heap.size]? = some (.cells #[nv,.slice la n lc] 107 (0,0)) ∧ W.heap[w.heap.size + 1]? = some (.cells #[.int .u8 4,.slice a1 n1 c1,.slice a2 n2 c2,.int .i64 i.low,.bool i.ls,.int .i64 i.high,.bool i.hs,.bool i.op] 47 (0,0)) ∧ W.heap[w.heap.size + 1 + 1]? = some (.cells #[.int .i64 a,.int .i64 p] 50 (0,0)) ∧ W.heap[w.heap.size + 1 + 1 + 1]? = some (.cells #[.int .i64 b,.int .i64 q] 50 (0,0)) ∧ W.heap[w.heap.size + 1 + 1 + 1 + 1]? = some (.cells #[.int .u8 4,.int .u8 sd,.slice a3 l3 c3,.slice a4 l4 c4] 56 (0,0))):=fun W hW => ⟨(hW.block _ (Array.getElem?_eq_some_iff.1 hx0).1).trans hx0,(hW.block _ (Array.getElem?_eq_some_iff.1 hx1).1).trans hx1,(hW.block _ (Array.getElem?_eq_some_iff.1 hx2).1).trans hx2,(hW.block _ (Array.getElem?_eq_some_iff.1 hx3).1).trans hx3,(hW.block _ (Array.getElem?_eq_some_iff.1 hx4).1).trans hx4⟩
 have HF : Hid (∀ W,Below WB.heap.size WB W → W.cell? ⟨w.heap.size,0,none⟩ = some (nv) ∧ W.cell? ⟨w.heap.size,1,none⟩ = some (.slice la n lc) ∧ W.cell? ⟨w.heap.size + 1,0,none⟩ = some (.int .u8 4) ∧ W.cell? ⟨w.heap.size + 1,1,none⟩ = some (.slice a1 n1 c1) ∧ W.cell? ⟨w.heap.size + 1,2,none⟩ = some (.slice a2 n2 c2) ∧ W.cell? ⟨w.heap.size + 1,3,none⟩ = some (.int .i64 i.low) ∧ W.cell? ⟨w.heap.size + 1,4,none⟩ = some (.bool i.ls) ∧ W.cell? ⟨w.heap.size + 1,5,none⟩ = some (.int .i64 i.high) ∧ W.cell? ⟨w.heap.size + 1,6,none⟩ = some (.bool i.hs) ∧ W.cell? ⟨w.heap.size + 1,7,none⟩ = some (.bool i.op) ∧ W.cell? ⟨w.heap.size + 1 + 1,0,none⟩ = some (.int .i64 a) ∧ W.cell? ⟨w.heap.size + 1 + 1,1,none⟩ = some (.int .i64 p) ∧ W.cell? ⟨w.heap.size + 1 + 1 + 1,0,none⟩ = some (.int .i64 b) ∧ W.cell? ⟨w.heap.size + 1 + 1 + 1,1,none⟩ = some (.int .i64 q) ∧ W.cell? ⟨w.heap.size + 1 + 1 + 1 + 1,0,none⟩ = some (.int .u8 4) ∧ W.cell? ⟨w.heap.size + 1 + 1 + 1 + 1,1,none⟩ = some (.int .u8 sd) ∧ W.cell? ⟨w.heap.size + 1 + 1 + 1 + 1,2,none⟩ = some (.slice a3 l3 c3) ∧ W.cell? ⟨w.heap.size + 1 + 1 + 1 + 1,3,none⟩ = some (.slice a4 l4 c4) ∧ w.heap.size < W.heap.size ∧ w.heap.size + 1 < W.heap.size ∧ w.heap.size + 1 + 1 < W.heap.size ∧ w.heap.size + 1 + 1 + 1 < W.heap.size ∧ w.heap.size + 1 + 1 + 1 + 1 < W.heap.size):=by
  intro W hW
  obtain ⟨k0,k1,k2,k3,k4⟩:=HX.out W hW
  exact ⟨Jc k0 0,Jc k0 1,Jc k1 0,Jc k1 1,Jc k1 2,Jc k1 3,Jc k1 4,Jc k1 5,Jc k1 6,Jc k1 7,Jc k2 0,Jc k2 1,Jc k3 0,Jc k3 1,Jc k4 0,Jc k4 1,Jc k4 2,Jc k4 3,(Array.getElem?_eq_some_iff.1 k0).1,(Array.getElem?_eq_some_iff.1 k1).1,(Array.getElem?_eq_some_iff.1 k2).1,(Array.getElem?_eq_some_iff.1 k3).1,(Array.getElem?_eq_some_iff.1 k4).1⟩
 have HBB:=Jh hbWB
 have HWB:=Jh hWWB.symm
 clear hWWB hbWB hx0 hx1 hx2 hx3 hx4
 have HBW : Hid (∀ W,Below WB.heap.size WB W → Below w.heap.size w W):=fun W h => HBB.out.trans (h.mono HBB.out.size)
 have HF : Hid (∀ W,Below WB.heap.size WB W → W.cell? ⟨w.heap.size,0,none⟩ = some (nv) ∧ W.cell? ⟨w.heap.size,1,none⟩ = some (.slice la n lc) ∧ W.cell? ⟨w.heap.size + 1,0,none⟩ = some (.int .u8 4) ∧ W.cell? ⟨w.heap.size + 1,1,none⟩ = some (.slice a1 n1 c1) ∧ W.cell? ⟨w.heap.size + 1,2,none⟩ = some (.slice a2 n2 c2) ∧ W.cell? ⟨w.heap.size + 1,3,none⟩ = some (.int .i64 i.low) ∧ W.cell? ⟨w.heap.size + 1,4,none⟩ = some (.bool i.ls) ∧ W.cell? ⟨w.heap.size + 1,5,none⟩ = some (.int .i64 i.high) ∧ W.cell? ⟨w.heap.size + 1,6,none⟩ = some (.bool i.hs) ∧ W.cell? ⟨w.heap.size + 1,7,none⟩ = some (.bool i.op) ∧ W.cell? ⟨w.heap.size + 1 + 1,0,none⟩ = some (.int .i64 a) ∧ W.cell? ⟨w.heap.size + 1 + 1,1,none⟩ = some (.int .i64 p) ∧ W.cell? ⟨w.heap.size + 1 + 1 + 1,0,none⟩ = some (.int .i64 b) ∧ W.cell? ⟨w.heap.size + 1 + 1 + 1,1,none⟩ = some (.int .i64 q) ∧ W.cell? ⟨w.heap.size + 1 + 1 + 1 + 1,0,none⟩ = some (.int .u8 4) ∧ W.cell? ⟨w.heap.size + 1 + 1 + 1 + 1,1,none⟩ = some (.int .u8 sd) ∧ W.cell? ⟨w.heap.size + 1 + 1 + 1 + 1,2,none⟩ = some (.slice a3 l3 c3) ∧ W.cell? ⟨w.heap.size + 1 + 1 + 1 + 1,3,none⟩ = some (.slice a4 l4 c4) ∧ w.heap.size < W.heap.size ∧ w.heap.size + 1 < W.heap.size ∧ w.heap.size + 1 + 1 < W.heap.size ∧ w.heap.size + 1 + 1 + 1 < W.heap.size ∧ w.heap.size + 1 + 1 + 1 + 1 < W.heap.size):=by
  intro W hW
  have hq:=HBW.out W hW
  obtain ⟨k0,k1,k2,k3,k4⟩:=HX.out W hW
  exact ⟨Jc k0 0,Jc k0 1,Jc k1 0,Jc k1 1,Jc k1 2,Jc k1 3,Jc k1 4,Jc k1 5,Jc k1 6,Jc k1 7,Jc k2 0,Jc k2 1,Jc k3 0,Jc k3 1,Jc k4 0,Jc k4 1,Jc k4 2,Jc k4 3,(Array.getElem?_eq_some_iff.1 k0).1,(Array.getElem?_eq_some_iff.1 k1).1,(Array.getElem?_eq_some_iff.1 k2).1,(Array.getElem?_eq_some_iff.1 k3).1,(Array.getElem?_eq_some_iff.1 k4).1⟩
 have HM : Hid (z5y 174 nv la n lc (.agg #[.int .u8 4,.slice a1 n1 c1,.slice a2 n2 c2,.int .i64 i.low,.bool i.ls,.int .i64 i.high,.bool i.hs,.bool i.op]) a p b q (.agg #[.int .u8 4,.int .u8 sd,.slice a3 l3 c3,.slice a4 l4 c4]) WB R):=fun W hW => hM W (HBW.out W hW)
 clear hM
 go_enter Tryz.func53,Tryz.ntmps53
 go_upto_region 1 with fail
 rw [HWB.out]
 clear HWB
 refine wrd (by kernel_rfl) HF.out (((Below.refl WB.heap.size WB).drew)) (fun hHeld => ?_)
 refine z00 (f:=5) (by kernel_rfl) (by assumption) [(0,true),(1,true),(2,true),(3,true),(4,true),(5,true),(7,true),(8,true),(10,true),(11,true),(12,true),(13,true),(14,true)] rfl (by kernel_rfl) ?_
 repeat (refine SeqH.take (v:=?_) rfl (fun _ _ _ h => h) (by kernel_rfl) ?_ ?_; rotate_left; (· (intro w hSw; (try dsimp only at hSw); go_simp) <;> with_reducible rfl); (try simp only [Act.put,J1,J2,J3,J4,J5,J6]))
 refine SeqH.nil ?_
 refine Jr (rs:=[6]) (by kernel_rfl) (by simp) ?_
 refine Jd rfl (fun K hK => ?_) Je
 go_simp
 go_at_call 102
 refine (z1j _).mono ?_
 rintro e wc ⟨⟨rfl,hkn⟩,hbc⟩
 have HBc : Hid (Below WB.heap.size WB wc):=belS ((Below.refl WB.heap.size WB).drew) hbc
 have hlk:=z5a (r:=WB.heap.size) hkn 4 (.func (.func 174) #[] #[]) 3 rfl
 clear hbc hkn
 try dsimp only
 refine hK.out _ _ (HF.out _ HBc.out) (fun hHeld => ?_)
 clear hK K
 try simp only [Act.put,J1,J2,J3,J4,J5,J6]
 refine Jr (rs:=[9]) (by kernel_rfl) (by simp) ?_
 refine Jd rfl (fun K hK => ?_) Je
 go_simp
 refine hK.out _ _ (HF.out _ HBc.out) (fun hHeld => ?_)
 clear hK K hlk
 try simp only [Act.put,J1,J2,J3,J4,J5,J6]
 refine Jr (rs:=[15]) (by kernel_rfl) (by simp) ?_
 refine Jd rfl (fun K hK => ?_) Je
 go_simp
 go_at_call 174
 refine (HM.out _ HBc.out).mono ?_
 rintro e wd ⟨rfl,hbd⟩
 have HBd : Hid (Below WB.heap.size WB wd):=belS HBc.out hbd
 clear hbd
 try dsimp only
 refine hK.out _ _ (HF.out _ HBd.out) (fun hHeld => ?_)
 clear hK K
 try simp only [Act.put,J1,J2,J3,J4,J5,J6]
 refine z00 (f:=0) (by kernel_rfl) (by assumption) [(16,true),(17,true)] rfl (by kernel_rfl) ?_
 repeat (refine SeqH.take (v:=?_) rfl (fun _ _ _ h => h) (by kernel_rfl) ?_ ?_; rotate_left; (· (intro w hSw; (try dsimp only at hSw); go_simp) <;> with_reducible rfl); (try simp only [Act.put,J1,J2,J3,J4,J5,J6]))
 refine SeqH.nil ?_
 refine wpAnyH_done (by kernel_rfl) ?_ _
 clear hHeld
 go_wp2_with fail
 all_goals go_ret
 all_goals exact ⟨rfl,HBW.out _ (HBd.out)⟩
theorem shows_k5 (nv : Value) (la : Option Addr) (n lc : Nat) (a1 a2 a3 a4 : Option Addr) (n1 n2 l3 l4 c1 c2 c3 c4 : Nat) (i : Spn) (a p b q sd : Int) (w : World) (R : Bool) (hM : z5y 175 nv la n lc (.agg #[.int .u8 5,.slice a1 n1 c1,.slice a2 n2 c2,.int .i64 i.low,.bool i.ls,.int .i64 i.high,.bool i.hs,.bool i.op]) a p b q (.agg #[.int .u8 5,.int .u8 sd,.slice a3 l3 c3,.slice a4 l4 c4]) w R) :
 Calls Tryz.prog 53 #[.agg #[nv,.slice la n lc],.agg #[.int .u8 5,.slice a1 n1 c1,.slice a2 n2 c2,.int .i64 i.low,.bool i.ls,.int .i64 i.high,.bool i.hs,.bool i.op],.agg #[.int .i64 a,.int .i64 p],.agg #[.int .i64 b,.int .i64 q],.agg #[.int .u8 5,.int .u8 sd,.slice a3 l3 c3,.slice a4 l4 c4]] w fun e w' => e = .returned (.bool R) ∧ Below w.heap.size w w':=by
 obtain ⟨WB,hWWB⟩ : ∃ WB,WB = ((((w.alloc (.cells #[nv,.slice la n lc] 107)).alloc (.cells #[.int .u8 5,.slice a1 n1 c1,.slice a2 n2 c2,.int .i64 i.low,.bool i.ls,.int .i64 i.high,.bool i.hs,.bool i.op] 47)).alloc (.cells #[.int .i64 a,.int .i64 p] 50)).alloc (.cells #[.int .i64 b,.int .i64 q] 50)).alloc (.cells #[.int .u8 5,.int .u8 sd,.slice a3 l3 c3,.slice a4 l4 c4] 56):=⟨_,rfl⟩
 have hbWB : Below w.heap.size w WB:=by rw [hWWB]; exact ((((z0c _ _).alloc (by simp <;> omega) _).alloc (by simp <;> omega) _).alloc (by simp <;> omega) _).alloc (by simp <;> omega) _
 have hx0 : WB.heap[w.heap.size]? = some (.cells #[nv,.slice la n lc] 107 (0,0)):=by rw [hWWB]; exact (Jb _ _ _ (by simp <;> omega)).trans ((Jb _ _ _ (by simp <;> omega)).trans ((Jb _ _ _ (by simp <;> omega)).trans ((Jb _ _ _ (by simp <;> omega)).trans (z03 rfl))))
 have hx1 : WB.heap[w.heap.size + 1]? = some (.cells #[.int .u8 5,.slice a1 n1 c1,.slice a2 n2 c2,.int .i64 i.low,.bool i.ls,.int .i64 i.high,.bool i.hs,.bool i.op] 47 (0,0)):=by rw [hWWB]; exact (Jb _ _ _ (by simp <;> omega)).trans ((Jb _ _ _ (by simp <;> omega)).trans ((Jb _ _ _ (by simp <;> omega)).trans (z03 (by simp))))
 have hx2 : WB.heap[w.heap.size + 1 + 1]? = some (.cells #[.int .i64 a,.int .i64 p] 50 (0,0)):=by rw [hWWB]; exact (Jb _ _ _ (by simp <;> omega)).trans ((Jb _ _ _ (by simp <;> omega)).trans (z03 (by simp)))
 have hx3 : WB.heap[w.heap.size + 1 + 1 + 1]? = some (.cells #[.int .i64 b,.int .i64 q] 50 (0,0)):=by rw [hWWB]; exact (Jb _ _ _ (by simp <;> omega)).trans (z03 (by simp))
 have hx4 : WB.heap[w.heap.size + 1 + 1 + 1 + 1]? = some (.cells #[.int .u8 5,.int .u8 sd,.slice a3 l3 c3,.slice a4 l4 c4] 56 (0,0)):=by rw [hWWB]; exact z03 (by simp)
 have HX : Hid (∀ W,Below WB.heap.size WB W → W.heap[w.heap.size]? = some (.cells #[nv,.slice la n lc] 107 (0,0)) ∧ W.heap[w.heap.size + 1]? = some (.cells #[.int .u8 5,.slice a1 n1 c1,.slice a2 n2 c2,.int .i64 i.low,.bool i.ls,.int .i64 i.high,.bool i.hs,.bool i.op] 47 (0,0)) ∧ W.heap[w.heap.size + 1 + 1]? = some (.cells #[.int .i64 a,.int .i64 p] 50 (0,0)) ∧ W.heap[w.heap.size + 1 + 1 + 1]? = some (.cells #[.int .i64 b,.int .i64 q] 50 (0,0)) ∧ W.heap[w.heap.size + 1 + 1 + 1 + 1]? = some (.cells #[.int .u8 5,.int .u8 sd,.slice a3 l3 c3,.slice a4 l4 c4] 56 (0,0))):=fun W hW => ⟨(hW.block _ (Array.getElem?_eq_some_iff.1 hx0).1).trans hx0,(hW.block _ (Array.getElem?_eq_some_iff.1 hx1).1).trans hx1,(hW.block _ (Array.getElem?_eq_some_iff.1 hx2).1).trans hx2,(hW.block _ (Array.getElem?_eq_some_iff.1 hx3).1).trans hx3,(hW.block _ (Array.getElem?_eq_some_iff.1 hx4).1).trans hx4⟩
 have HF : Hid (∀ W,Below WB.heap.size WB W → W.cell? ⟨w.heap.size,0,none⟩ = some (nv) ∧ W.cell? ⟨w.heap.size,1,none⟩ = some (.slice la n lc) ∧ W.cell? ⟨w.heap.size + 1,0,none⟩ = some (.int .u8 5) ∧ W.cell? ⟨w.heap.size + 1,1,none⟩ = some (.slice a1 n1 c1) ∧ W.cell? ⟨w.heap.size + 1,2,none⟩ = some (.slice a2 n2 c2) ∧ W.cell? ⟨w.heap.size + 1,3,none⟩ = some (.int .i64 i.low) ∧ W.cell? ⟨w.heap.size + 1,4,none⟩ = some (.bool i.ls) ∧ W.cell? ⟨w.heap.size + 1,5,none⟩ = some (.int .i64 i.high) ∧ W.cell? ⟨w.heap.size + 1,6,none⟩ = some (.bool i.hs) ∧ W.cell? ⟨w.heap.size + 1,7,none⟩ = some (.bool i.op) ∧ W.cell? ⟨w.heap.size + 1 + 1,0,none⟩ = some (.int .i64 a) ∧ W.cell? ⟨w.heap.size + 1 + 1,1,none⟩ = some (.int .i64 p) ∧ W.cell? ⟨w.heap.size + 1 + 1 + 1,0,none⟩ = some (.int .i64 b) ∧ W.cell? ⟨w.heap.size + 1 + 1 + 1,1,none⟩ = some (.int .i64 q) ∧ W.cell? ⟨w.heap.size + 1 + 1 + 1 + 1,0,none⟩ = some (.int .u8 5) ∧ W.cell? ⟨w.heap.size + 1 + 1 + 1 + 1,1,none⟩ = some (.int .u8 sd) ∧ W.cell? ⟨w.heap.size + 1 + 1 + 1 + 1,2,none⟩ = some (.slice a3 l3 c3) ∧ W.cell? ⟨w.heap.size + 1 + 1 + 1 + 1,3,none⟩ = some (.slice a4 l4 c4) ∧ w.heap.size < W.heap.size ∧ w.heap.size + 1 < W.heap.size ∧ w.heap.size + 1 + 1 < W.heap.size ∧ w.heap.size + 1 + 1 + 1 < W.heap.size ∧ w.heap.size + 1 + 1 + 1 + 1 < W.heap.size):=by
  intro W hW
  obtain ⟨k0,k1,k2,k3,k4⟩:=HX.out W hW
  exact ⟨Jc k0 0,Jc k0 1,Jc k1 0,Jc k1 1,Jc k1 2,Jc k1 3,Jc k1 4,Jc k1 5,Jc k1 6,Jc k1 7,Jc k2 0,Jc k2 1,Jc k3 0,Jc k3 1,Jc k4 0,Jc k4 1,Jc k4 2,Jc k4 3,(Array.getElem?_eq_some_iff.1 k0).1,(Array.getElem?_eq_some_iff.1 k1).1,(Array.getElem?_eq_some_iff.1 k2).1,(Array.getElem?_eq_some_iff.1 k3).1,(Array.getElem?_eq_some_iff.1 k4).1⟩
 have HBB:=Jh hbWB
 have HWB:=Jh hWWB.symm
 clear hWWB hbWB hx0 hx1 hx2 hx3 hx4
 have HBW : Hid (∀ W,Below WB.heap.size WB W → Below w.heap.size w W):=fun W h => HBB.out.trans (h.mono HBB.out.size)
 have HF : Hid (∀ W,Below WB.heap.size WB W → W.cell? ⟨w.heap.size,0,none⟩ = some (nv) ∧ W.cell? ⟨w.heap.size,1,none⟩ = some (.slice la n lc) ∧ W.cell? ⟨w.heap.size + 1,0,none⟩ = some (.int .u8 5) ∧ W.cell? ⟨w.heap.size + 1,1,none⟩ = some (.slice a1 n1 c1) ∧ W.cell? ⟨w.heap.size + 1,2,none⟩ = some (.slice a2 n2 c2) ∧ W.cell? ⟨w.heap.size + 1,3,none⟩ = some (.int .i64 i.low) ∧ W.cell? ⟨w.heap.size + 1,4,none⟩ = some (.bool i.ls) ∧ W.cell? ⟨w.heap.size + 1,5,none⟩ = some (.int .i64 i.high) ∧ W.cell? ⟨w.heap.size + 1,6,none⟩ = some (.bool i.hs) ∧ W.cell? ⟨w.heap.size + 1,7,none⟩ = some (.bool i.op) ∧ W.cell? ⟨w.heap.size + 1 + 1,0,none⟩ = some (.int .i64 a) ∧ W.cell? ⟨w.heap.size + 1 + 1,1,none⟩ = some (.int .i64 p) ∧ W.cell? ⟨w.heap.size + 1 + 1 + 1,0,none⟩ = some (.int .i64 b) ∧ W.cell? ⟨w.heap.size + 1 + 1 + 1,1,none⟩ = some (.int .i64 q) ∧ W.cell? ⟨w.heap.size + 1 + 1 + 1 + 1,0,none⟩ = some (.int .u8 5) ∧ W.cell? ⟨w.heap.size + 1 + 1 + 1 + 1,1,none⟩ = some (.int .u8 sd) ∧ W.cell? ⟨w.heap.size + 1 + 1 + 1 + 1,2,none⟩ = some (.slice a3 l3 c3) ∧ W.cell? ⟨w.heap.size + 1 + 1 + 1 + 1,3,none⟩ = some (.slice a4 l4 c4) ∧ w.heap.size < W.heap.size ∧ w.heap.size + 1 < W.heap.size ∧ w.heap.size + 1 + 1 < W.heap.size ∧ w.heap.size + 1 + 1 + 1 < W.heap.size ∧ w.heap.size + 1 + 1 + 1 + 1 < W.heap.size):=by
  intro W hW
  have hq:=HBW.out W hW
  obtain ⟨k0,k1,k2,k3,k4⟩:=HX.out W hW
  exact ⟨Jc k0 0,Jc k0 1,Jc k1 0,Jc k1 1,Jc k1 2,Jc k1 3,Jc k1 4,Jc k1 5,Jc k1 6,Jc k1 7,Jc k2 0,Jc k2 1,Jc k3 0,Jc k3 1,Jc k4 0,Jc k4 1,Jc k4 2,Jc k4 3,(Array.getElem?_eq_some_iff.1 k0).1,(Array.getElem?_eq_some_iff.1 k1).1,(Array.getElem?_eq_some_iff.1 k2).1,(Array.getElem?_eq_some_iff.1 k3).1,(Array.getElem?_eq_some_iff.1 k4).1⟩
 have HM : Hid (z5y 175 nv la n lc (.agg #[.int .u8 5,.slice a1 n1 c1,.slice a2 n2 c2,.int .i64 i.low,.bool i.ls,.int .i64 i.high,.bool i.hs,.bool i.op]) a p b q (.agg #[.int .u8 5,.int .u8 sd,.slice a3 l3 c3,.slice a4 l4 c4]) WB R):=fun W hW => hM W (HBW.out W hW)
 clear hM
 go_enter Tryz.func53,Tryz.ntmps53
 go_upto_region 1 with fail
 rw [HWB.out]
 clear HWB
 refine wrd (by kernel_rfl) HF.out (((Below.refl WB.heap.size WB).drew)) (fun hHeld => ?_)
 refine z00 (f:=5) (by kernel_rfl) (by assumption) [(0,true),(1,true),(2,true),(3,true),(4,true),(5,true),(7,true),(8,true),(10,true),(11,true),(12,true),(13,true),(14,true)] rfl (by kernel_rfl) ?_
 repeat (refine SeqH.take (v:=?_) rfl (fun _ _ _ h => h) (by kernel_rfl) ?_ ?_; rotate_left; (· (intro w hSw; (try dsimp only at hSw); go_simp) <;> with_reducible rfl); (try simp only [Act.put,J1,J2,J3,J4,J5,J6]))
 refine SeqH.nil ?_
 refine Jr (rs:=[6]) (by kernel_rfl) (by simp) ?_
 refine Jd rfl (fun K hK => ?_) Je
 go_simp
 go_at_call 102
 refine (z1j _).mono ?_
 rintro e wc ⟨⟨rfl,hkn⟩,hbc⟩
 have HBc : Hid (Below WB.heap.size WB wc):=belS ((Below.refl WB.heap.size WB).drew) hbc
 have hlk:=z5a (r:=WB.heap.size) hkn 5 (.func (.func 175) #[] #[]) 4 rfl
 clear hbc hkn
 try dsimp only
 refine hK.out _ _ (HF.out _ HBc.out) (fun hHeld => ?_)
 clear hK K
 try simp only [Act.put,J1,J2,J3,J4,J5,J6]
 refine Jr (rs:=[9]) (by kernel_rfl) (by simp) ?_
 refine Jd rfl (fun K hK => ?_) Je
 go_simp
 refine hK.out _ _ (HF.out _ HBc.out) (fun hHeld => ?_)
 clear hK K hlk
 try simp only [Act.put,J1,J2,J3,J4,J5,J6]
 refine Jr (rs:=[15]) (by kernel_rfl) (by simp) ?_
 refine Jd rfl (fun K hK => ?_) Je
 go_simp
 go_at_call 175
 refine (HM.out _ HBc.out).mono ?_
 rintro e wd ⟨rfl,hbd⟩
 have HBd : Hid (Below WB.heap.size WB wd):=belS HBc.out hbd
 clear hbd
 try dsimp only
 refine hK.out _ _ (HF.out _ HBd.out) (fun hHeld => ?_)
 clear hK K
 try simp only [Act.put,J1,J2,J3,J4,J5,J6]
 refine z00 (f:=0) (by kernel_rfl) (by assumption) [(16,true),(17,true)] rfl (by kernel_rfl) ?_
 repeat (refine SeqH.take (v:=?_) rfl (fun _ _ _ h => h) (by kernel_rfl) ?_ ?_; rotate_left; (· (intro w hSw; (try dsimp only at hSw); go_simp) <;> with_reducible rfl); (try simp only [Act.put,J1,J2,J3,J4,J5,J6]))
 refine SeqH.nil ?_
 refine wpAnyH_done (by kernel_rfl) ?_ _
 clear hHeld
 go_wp2_with fail
 all_goals go_ret
 all_goals exact ⟨rfl,HBW.out _ (HBd.out)⟩
theorem shows_k6 (nv : Value) (la : Option Addr) (n lc : Nat) (a1 a2 a3 a4 : Option Addr) (n1 n2 l3 l4 c1 c2 c3 c4 : Nat) (i : Spn) (a p b q sd : Int) (w : World) (R : Bool) (hM : z5y 176 nv la n lc (.agg #[.int .u8 6,.slice a1 n1 c1,.slice a2 n2 c2,.int .i64 i.low,.bool i.ls,.int .i64 i.high,.bool i.hs,.bool i.op]) a p b q (.agg #[.int .u8 6,.int .u8 sd,.slice a3 l3 c3,.slice a4 l4 c4]) w R) :
 Calls Tryz.prog 53 #[.agg #[nv,.slice la n lc],.agg #[.int .u8 6,.slice a1 n1 c1,.slice a2 n2 c2,.int .i64 i.low,.bool i.ls,.int .i64 i.high,.bool i.hs,.bool i.op],.agg #[.int .i64 a,.int .i64 p],.agg #[.int .i64 b,.int .i64 q],.agg #[.int .u8 6,.int .u8 sd,.slice a3 l3 c3,.slice a4 l4 c4]] w fun e w' => e = .returned (.bool R) ∧ Below w.heap.size w w':=by
 obtain ⟨WB,hWWB⟩ : ∃ WB,WB = ((((w.alloc (.cells #[nv,.slice la n lc] 107)).alloc (.cells #[.int .u8 6,.slice a1 n1 c1,.slice a2 n2 c2,.int .i64 i.low,.bool i.ls,.int .i64 i.high,.bool i.hs,.bool i.op] 47)).alloc (.cells #[.int .i64 a,.int .i64 p] 50)).alloc (.cells #[.int .i64 b,.int .i64 q] 50)).alloc (.cells #[.int .u8 6,.int .u8 sd,.slice a3 l3 c3,.slice a4 l4 c4] 56):=⟨_,rfl⟩
 have hbWB : Below w.heap.size w WB:=by rw [hWWB]; exact ((((z0c _ _).alloc (by simp <;> omega) _).alloc (by simp <;> omega) _).alloc (by simp <;> omega) _).alloc (by simp <;> omega) _
 have hx0 : WB.heap[w.heap.size]? = some (.cells #[nv,.slice la n lc] 107 (0,0)):=by rw [hWWB]; exact (Jb _ _ _ (by simp <;> omega)).trans ((Jb _ _ _ (by simp <;> omega)).trans ((Jb _ _ _ (by simp <;> omega)).trans ((Jb _ _ _ (by simp <;> omega)).trans (z03 rfl))))
 have hx1 : WB.heap[w.heap.size + 1]? = some (.cells #[.int .u8 6,.slice a1 n1 c1,.slice a2 n2 c2,.int .i64 i.low,.bool i.ls,.int .i64 i.high,.bool i.hs,.bool i.op] 47 (0,0)):=by rw [hWWB]; exact (Jb _ _ _ (by simp <;> omega)).trans ((Jb _ _ _ (by simp <;> omega)).trans ((Jb _ _ _ (by simp <;> omega)).trans (z03 (by simp))))
 have hx2 : WB.heap[w.heap.size + 1 + 1]? = some (.cells #[.int .i64 a,.int .i64 p] 50 (0,0)):=by rw [hWWB]; exact (Jb _ _ _ (by simp <;> omega)).trans ((Jb _ _ _ (by simp <;> omega)).trans (z03 (by simp)))
 have hx3 : WB.heap[w.heap.size + 1 + 1 + 1]? = some (.cells #[.int .i64 b,.int .i64 q] 50 (0,0)):=by rw [hWWB]; exact (Jb _ _ _ (by simp <;> omega)).trans (z03 (by simp))
 have hx4 : WB.heap[w.heap.size + 1 + 1 + 1 + 1]? = some (.cells #[.int .u8 6,.int .u8 sd,.slice a3 l3 c3,.slice a4 l4 c4] 56 (0,0)):=by rw [hWWB]; exact z03 (by simp)
 have HX : Hid (∀ W,Below WB.heap.size WB W → W.heap[w.heap.size]? = some (.cells #[nv,.slice la n lc] 107 (0,0)) ∧ W.heap[w.heap.size + 1]? = some (.cells #[.int .u8 6,.slice a1 n1 c1,.slice a2 n2 c2,.int .i64 i.low,.bool i.ls,.int .i64 i.high,.bool i.hs,.bool i.op] 47 (0,0)) ∧ W.heap[w.heap.size + 1 + 1]? = some (.cells #[.int .i64 a,.int .i64 p] 50 (0,0)) ∧ W.heap[w.heap.size + 1 + 1 + 1]? = some (.cells #[.int .i64 b,.int .i64 q] 50 (0,0)) ∧ W.heap[w.heap.size + 1 + 1 + 1 + 1]? = some (.cells #[.int .u8 6,.int .u8 sd,.slice a3 l3 c3,.slice a4 l4 c4] 56 (0,0))):=fun W hW => ⟨(hW.block _ (Array.getElem?_eq_some_iff.1 hx0).1).trans hx0,(hW.block _ (Array.getElem?_eq_some_iff.1 hx1).1).trans hx1,(hW.block _ (Array.getElem?_eq_some_iff.1 hx2).1).trans hx2,(hW.block _ (Array.getElem?_eq_some_iff.1 hx3).1).trans hx3,(hW.block _ (Array.getElem?_eq_some_iff.1 hx4).1).trans hx4⟩
 have HF : Hid (∀ W,Below WB.heap.size WB W → W.cell? ⟨w.heap.size,0,none⟩ = some (nv) ∧ W.cell? ⟨w.heap.size,1,none⟩ = some (.slice la n lc) ∧ W.cell? ⟨w.heap.size + 1,0,none⟩ = some (.int .u8 6) ∧ W.cell? ⟨w.heap.size + 1,1,none⟩ = some (.slice a1 n1 c1) ∧ W.cell? ⟨w.heap.size + 1,2,none⟩ = some (.slice a2 n2 c2) ∧ W.cell? ⟨w.heap.size + 1,3,none⟩ = some (.int .i64 i.low) ∧ W.cell? ⟨w.heap.size + 1,4,none⟩ = some (.bool i.ls) ∧ W.cell? ⟨w.heap.size + 1,5,none⟩ = some (.int .i64 i.high) ∧ W.cell? ⟨w.heap.size + 1,6,none⟩ = some (.bool i.hs) ∧ W.cell? ⟨w.heap.size + 1,7,none⟩ = some (.bool i.op) ∧ W.cell? ⟨w.heap.size + 1 + 1,0,none⟩ = some (.int .i64 a) ∧ W.cell? ⟨w.heap.size + 1 + 1,1,none⟩ = some (.int .i64 p) ∧ W.cell? ⟨w.heap.size + 1 + 1 + 1,0,none⟩ = some (.int .i64 b) ∧ W.cell? ⟨w.heap.size + 1 + 1 + 1,1,none⟩ = some (.int .i64 q) ∧ W.cell? ⟨w.heap.size + 1 + 1 + 1 + 1,0,none⟩ = some (.int .u8 6) ∧ W.cell? ⟨w.heap.size + 1 + 1 + 1 + 1,1,none⟩ = some (.int .u8 sd) ∧ W.cell? ⟨w.heap.size + 1 + 1 + 1 + 1,2,none⟩ = some (.slice a3 l3 c3) ∧ W.cell? ⟨w.heap.size + 1 + 1 + 1 + 1,3,none⟩ = some (.slice a4 l4 c4) ∧ w.heap.size < W.heap.size ∧ w.heap.size + 1 < W.heap.size ∧ w.heap.size + 1 + 1 < W.heap.size ∧ w.heap.size + 1 + 1 + 1 < W.heap.size ∧ w.heap.size + 1 + 1 + 1 + 1 < W.heap.size):=by
  intro W hW
  obtain ⟨k0,k1,k2,k3,k4⟩:=HX.out W hW
  exact ⟨Jc k0 0,Jc k0 1,Jc k1 0,Jc k1 1,Jc k1 2,Jc k1 3,Jc k1 4,Jc k1 5,Jc k1 6,Jc k1 7,Jc k2 0,Jc k2 1,Jc k3 0,Jc k3 1,Jc k4 0,Jc k4 1,Jc k4 2,Jc k4 3,(Array.getElem?_eq_some_iff.1 k0).1,(Array.getElem?_eq_some_iff.1 k1).1,(Array.getElem?_eq_some_iff.1 k2).1,(Array.getElem?_eq_some_iff.1 k3).1,(Array.getElem?_eq_some_iff.1 k4).1⟩
 have HBB:=Jh hbWB
 have HWB:=Jh hWWB.symm
 clear hWWB hbWB hx0 hx1 hx2 hx3 hx4
 have HBW : Hid (∀ W,Below WB.heap.size WB W → Below w.heap.size w W):=fun W h => HBB.out.trans (h.mono HBB.out.size)
 have HF : Hid (∀ W,Below WB.heap.size WB W → W.cell? ⟨w.heap.size,0,none⟩ = some (nv) ∧ W.cell? ⟨w.heap.size,1,none⟩ = some (.slice la n lc) ∧ W.cell? ⟨w.heap.size + 1,0,none⟩ = some (.int .u8 6) ∧ W.cell? ⟨w.heap.size + 1,1,none⟩ = some (.slice a1 n1 c1) ∧ W.cell? ⟨w.heap.size + 1,2,none⟩ = some (.slice a2 n2 c2) ∧ W.cell? ⟨w.heap.size + 1,3,none⟩ = some (.int .i64 i.low) ∧ W.cell? ⟨w.heap.size + 1,4,none⟩ = some (.bool i.ls) ∧ W.cell? ⟨w.heap.size + 1,5,none⟩ = some (.int .i64 i.high) ∧ W.cell? ⟨w.heap.size + 1,6,none⟩ = some (.bool i.hs) ∧ W.cell? ⟨w.heap.size + 1,7,none⟩ = some (.bool i.op) ∧ W.cell? ⟨w.heap.size + 1 + 1,0,none⟩ = some (.int .i64 a) ∧ W.cell? ⟨w.heap.size + 1 + 1,1,none⟩ = some (.int .i64 p) ∧ W.cell? ⟨w.heap.size + 1 + 1 + 1,0,none⟩ = some (.int .i64 b) ∧ W.cell? ⟨w.heap.size + 1 + 1 + 1,1,none⟩ = some (.int .i64 q) ∧ W.cell? ⟨w.heap.size + 1 + 1 + 1 + 1,0,none⟩ = some (.int .u8 6) ∧ W.cell? ⟨w.heap.size + 1 + 1 + 1 + 1,1,none⟩ = some (.int .u8 sd) ∧ W.cell? ⟨w.heap.size + 1 + 1 + 1 + 1,2,none⟩ = some (.slice a3 l3 c3) ∧ W.cell? ⟨w.heap.size + 1 + 1 + 1 + 1,3,none⟩ = some (.slice a4 l4 c4) ∧ w.heap.size < W.heap.size ∧ w.heap.size + 1 < W.heap.size ∧ w.heap.size + 1 + 1 < W.heap.size ∧ w.heap.size + 1 + 1 + 1 < W.heap.size ∧ w.heap.size + 1 + 1 + 1 + 1 < W.heap.size):=by
  intro W hW
  have hq:=HBW.out W hW
  obtain ⟨k0,k1,k2,k3,k4⟩:=HX.out W hW
  exact ⟨Jc k0 0,Jc k0 1,Jc k1 0,Jc k1 1,Jc k1 2,Jc k1 3,Jc k1 4,Jc k1 5,Jc k1 6,Jc k1 7,Jc k2 0,Jc k2 1,Jc k3 0,Jc k3 1,Jc k4 0,Jc k4 1,Jc k4 2,Jc k4 3,(Array.getElem?_eq_some_iff.1 k0).1,(Array.getElem?_eq_some_iff.1 k1).1,(Array.getElem?_eq_some_iff.1 k2).1,(Array.getElem?_eq_some_iff.1 k3).1,(Array.getElem?_eq_some_iff.1 k4).1⟩
 have HM : Hid (z5y 176 nv la n lc (.agg #[.int .u8 6,.slice a1 n1 c1,.slice a2 n2 c2,.int .i64 i.low,.bool i.ls,.int .i64 i.high,.bool i.hs,.bool i.op]) a p b q (.agg #[.int .u8 6,.int .u8 sd,.slice a3 l3 c3,.slice a4 l4 c4]) WB R):=fun W hW => hM W (HBW.out W hW)
 clear hM
 go_enter Tryz.func53,Tryz.ntmps53
 go_upto_region 1 with fail
 rw [HWB.out]
 clear HWB
 refine wrd (by kernel_rfl) HF.out (((Below.refl WB.heap.size WB).drew)) (fun hHeld => ?_)
 refine z00 (f:=5) (by kernel_rfl) (by assumption) [(0,true),(1,true),(2,true),(3,true),(4,true),(5,true),(7,true),(8,true),(10,true),(11,true),(12,true),(13,true),(14,true)] rfl (by kernel_rfl) ?_
 repeat (refine SeqH.take (v:=?_) rfl (fun _ _ _ h => h) (by kernel_rfl) ?_ ?_; rotate_left; (· (intro w hSw; (try dsimp only at hSw); go_simp) <;> with_reducible rfl); (try simp only [Act.put,J1,J2,J3,J4,J5,J6]))
 refine SeqH.nil ?_
 refine Jr (rs:=[6]) (by kernel_rfl) (by simp) ?_
 refine Jd rfl (fun K hK => ?_) Je
 go_simp
 go_at_call 102
 refine (z1j _).mono ?_
 rintro e wc ⟨⟨rfl,hkn⟩,hbc⟩
 have HBc : Hid (Below WB.heap.size WB wc):=belS ((Below.refl WB.heap.size WB).drew) hbc
 have hlk:=z5a (r:=WB.heap.size) hkn 6 (.func (.func 176) #[] #[]) 5 rfl
 clear hbc hkn
 try dsimp only
 refine hK.out _ _ (HF.out _ HBc.out) (fun hHeld => ?_)
 clear hK K
 try simp only [Act.put,J1,J2,J3,J4,J5,J6]
 refine Jr (rs:=[9]) (by kernel_rfl) (by simp) ?_
 refine Jd rfl (fun K hK => ?_) Je
 go_simp
 refine hK.out _ _ (HF.out _ HBc.out) (fun hHeld => ?_)
 clear hK K hlk
 try simp only [Act.put,J1,J2,J3,J4,J5,J6]
 refine Jr (rs:=[15]) (by kernel_rfl) (by simp) ?_
 refine Jd rfl (fun K hK => ?_) Je
 go_simp
 go_at_call 176
 refine (HM.out _ HBc.out).mono ?_
 rintro e wd ⟨rfl,hbd⟩
 have HBd : Hid (Below WB.heap.size WB wd):=belS HBc.out hbd
 clear hbd
 try dsimp only
 refine hK.out _ _ (HF.out _ HBd.out) (fun hHeld => ?_)
 clear hK K
 try simp only [Act.put,J1,J2,J3,J4,J5,J6]
 refine z00 (f:=0) (by kernel_rfl) (by assumption) [(16,true),(17,true)] rfl (by kernel_rfl) ?_
 repeat (refine SeqH.take (v:=?_) rfl (fun _ _ _ h => h) (by kernel_rfl) ?_ ?_; rotate_left; (· (intro w hSw; (try dsimp only at hSw); go_simp) <;> with_reducible rfl); (try simp only [Act.put,J1,J2,J3,J4,J5,J6]))
 refine SeqH.nil ?_
 refine wpAnyH_done (by kernel_rfl) ?_ _
 clear hHeld
 go_wp2_with fail
 all_goals go_ret
 all_goals exact ⟨rfl,HBW.out _ (HBd.out)⟩
end Go.Proofs.YtockinpjfhhkoaaGreatDoor
