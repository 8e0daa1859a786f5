/- A drawn region's held facts out of a law that shows them. -/
import Derived.Deep.RegionHeld
import Derived.Test.YtockinpjfhhkoaaGreatDoorProg
import Derived.Deep.Cut
import Derived.LoopTactic
import Derived.Test.YtockinpjfhhkoaaGreatDoorZ22
set_option maxRecDepth 100000
set_option maxHeartbeats 16000000
open List renaming setIfInBounds_toArray → J1, set_cons_zero → J2, set_cons_succ → J3, getElem_toArray → J4, getElem_cons_zero → J5, getElem_cons_succ → J6
open Go.Lib renaming cell_of_heap → Jc, hid → Jh
open Go.AllReadyH renaming cons → Jd, nil → Je
open Go renaming wpAnyH_ready → Jr
open Go.RowKit.Below renaming heap_alloc → Jb
namespace Go.Proofs.YtockinpjfhhkoaaGreatDoor
theorem wrd {P : Program} {ops : Array Oper} {Q : Exit → Act → World → Prop} {S R : World → Prop} {id : Nat} {a : Act} {w : World} (hm : P.follows .mixedOrders = true) (hF : ∀ W,R W → S W) (hb : R w.drew)
    (h : S w.drew → wpAnyH P .any ops Q S ops.size (Array.replicate ops.size false) a w.drew) : (Code.region id ops true).wp P Q a w:=wp_region_held_drew hm (hF _ hb) h
def seqOk (md : Region.Mode) (ops : Array Oper) : Array Bool → List (Nat × Bool) → Bool
 | _,[] => true
 | listed,x :: r => Region.free md ops listed x.1 && (Region.ready md ops listed).contains x.1 && seqOk md ops (listed.setIfInBounds x.1 true) r
def seqTo (listed : Array Bool) (is : List (Nat × Bool)) : Array Bool:=is.foldl (fun l x => l.setIfInBounds x.1 true) listed
inductive SeqH (P : Program) (ops : Array Oper) (Q : Exit → Act → World → Prop) (S : World → Prop) (K : Act → Prop) : List (Nat × Bool) → Act → Prop
 | nil {a : Act} (h : K a) : SeqH P ops Q S K [] a
 | take {a : Act} {i : Nat} {r : List (Nat × Bool)} {oi : Oper} {v : Value} (hi : ops[i]? = some oi) (hQ : ∀ c a w,Q (.panic c) (a.put oi.dst v) w → Q (.panic c) a w)
  (hw : Region.wanted oi (yielded ops a.tmps) = true) (hy : ∀ w,S w → (execOp a.eval oi).run P w = .ok (.value v) w) (h : SeqH P ops Q S K r (a.put oi.dst v)) : SeqH P ops Q S K ((i,true) :: r) a
 | skip {a : Act} {i : Nat} {r : List (Nat × Bool)} {oi : Oper} (hi : ops[i]? = some oi) (hQ : ∀ c a w,Q (.panic c) (a.put oi.dst undef) w → Q (.panic c) a w)
  (hw : Region.wanted oi (yielded ops a.tmps) = false) (h : SeqH P ops Q S K r (a.put oi.dst undef)) : SeqH P ops Q S K ((i,false) :: r) a
theorem SeqH.run {P : Program} {md : Region.Mode} {ops : Array Oper} {Q : Exit → Act → World → Prop} {S : World → Prop} {f : Nat} {w : World} (hs : Region.noSelect ops = true) (hS : S w) {K : Act → Prop} {is : List (Nat × Bool)} {a : Act} (h : SeqH P ops Q S K is a) :
 ∀ {F : Nat} (_ : F = f + is.length) {listed : Array Bool} (_ : seqOk md ops listed is = true) (_ : ∀ a,K a → wpAnyH P md ops Q S f (seqTo listed is) a w),wpAnyH P md ops Q S F listed a w:=by
 induction h with
 | nil h => intro F hF listed _ hK; subst hF; exact hK _ h
 | take hi hQ hw hy _ ih =>
  intro F hF listed hk hK
  simp only [seqOk,Bool.and_eq_true] at hk
  obtain ⟨⟨k1,k2⟩,k3⟩:=hk
  subst hF
  exact wpAnyH_take hi hs k1 k2 hQ (Or.inl ⟨hw,hy⟩) hS (ih rfl k3 hK)
 | skip hi hQ hw _ ih =>
  intro F hF listed hk hK
  simp only [seqOk,Bool.and_eq_true] at hk
  obtain ⟨⟨k1,k2⟩,k3⟩:=hk
  subst hF
  exact wpAnyH_take hi hs k1 k2 hQ (Or.inr ⟨hw,rfl⟩) hS (ih rfl k3 hK)
theorem z00 {P : Program} {md : Region.Mode} {ops : Array Oper} {Q : Exit → Act → World → Prop} {S : World → Prop} {f : Nat} {w : World} (hs : Region.noSelect ops = true) (hS : S w) (is : List (Nat × Bool)) {F : Nat} (hF : F = f + is.length)
 {listed : Array Bool} {a : Act} (hk : seqOk md ops listed is = true) (h : SeqH P ops Q S (fun a => wpAnyH P md ops Q S f (seqTo listed is) a w) is a) : wpAnyH P md ops Q S F listed a w :=
 h.run hs hS hF hk fun _ h => h
open Go.RowKit
def two2 {α : Type} (f : α → α → Bool) : List α → Bool
 | [x,y] => f x y
 | _ => false
theorem two2_no {α : Type} (f : α → α → Bool) : ∀ (l : List α),l.length ≠ 2 → two2 f l = false
 | [],_ => rfl
 | [_],_ => rfl
 | [_,_],h => absurd rfl h
 | _ :: _ :: _ :: _,_ => rfl
theorem z4j {α : Type} (l : List α) (h : l.length = 2) : ∃ x y,l = [x,y]:=by
 match l,h with
 | [x,y],_ => exact ⟨x,y,rfl⟩
theorem z4o {α : Type} {l : List α} {k : Nat} (h : l.length = k) : l.isEmpty = ((k : Int) == 0):=by
 subst h
 cases l with
 | nil => rfl
 | cons x r => simp; omega
theorem bare_two {α β : Type} {sd : Int} {l3 l4 : Nat} {ats : List β} {of : List α} (f : α → α → Bool) (hl3 : ats.length = l3) (hl4 : of.length = l4) (h : ((sd == 0) && ((l3 : Int) == 0) && ((l4 : Int) == 2)) = false) : (sd == 0 && ats.isEmpty && two2 f of) = false:=by
 rw [z4o hl3]
 by_cases h4 : of.length = 2
 ·have : ((l4 : Int) == 2) = true:=by rw [← hl4,h4]; rfl
  rw [this,Bool.and_true] at h
  rw [h]; rfl
 ·rw [two2_no f of h4,Bool.and_false]
theorem and173_any {names : List ByteArray} {m : Nat} {nv : Value} {la : Option Addr} {lc : Nat} {l : List (Int × Int)} {d n : Nat} (ih : ShowsC names m nv la lc l d n) (k : Int) (l1 : Nat) (i : Spn) (x1 x2 : XT m d) (a p b q wk sd : Int) (ats : List (Int × Int)) (of : List (PT n)) (l3 l4 : Nat) (hl3 : ats.length = l3) (hl4 : of.length = l4) (a1 a2 a3 a4 : Option Addr) (c1 c2 c3 c4 : Nat) (w : World)
 (he : EnvC names nv la lc l w) (hx : XRow w w.heap.size m d a2 [x1,x2]) (r1 : allX z02 d x1 = true) (r2 : allX z02 d x2 = true) (o1 : allX z11 d x1 = true) (o2 : allX z11 d x2 = true) (hp : PRow w w.heap.size n a4 of) (hk : ∀ y ∈ of,okT n y) (ht : mayP (a,p) = true) (hu : mayP (b,q) = true) (ia : in64 a) (ib : in64 b) :
 Calls Tryz.prog 173 #[.agg #[nv,.slice la l.length lc],.agg #[.int .u8 k,.slice a1 l1 c1,.slice a2 2 c2,.int .i64 i.low,.bool i.ls,.int .i64 i.high,.bool i.hs,.bool i.op],.agg #[.int .i64 a,.int .i64 p],.agg #[.int .i64 b,.int .i64 q],.agg #[.int .u8 wk,.int .u8 sd,.slice a3 l3 c3,.slice a4 l4 c4]] w fun e w' => e = .returned (.bool (sd == 0 && ats.isEmpty && two2 (fun v y => z08 (z09 names m) l n (toX d x1) (a,p) (b,q) v && z08 (z09 names m) l n (toX d x2) (a,p) (b,q) y) of)) ∧ Below w.heap.size w w':=by
 obtain ⟨WB,hWWB⟩ : ∃ WB,WB = ((((w.alloc (.cells #[nv,.slice la l.length lc] 107)).alloc (.cells #[.int .u8 k,.slice a1 l1 c1,.slice a2 2 c2,.int .i64 i.low,.bool i.ls,.int .i64 i.high,.bool i.hs,.bool i.op] 47)).alloc (.cells #[.int .i64 a,.int .i64 p] 50)).alloc (.cells #[.int .i64 b,.int .i64 q] 50)).alloc (.cells #[.int .u8 wk,.int .u8 sd,.slice a3 l3 c3,.slice a4 l4 c4] 56):=⟨_,rfl⟩
 have hbWB : Below w.heap.size w WB:=by rw [hWWB]; exact ((((z0c _ _).alloc (by simp <;> omega) _).alloc (by simp <;> omega) _).alloc (by simp <;> omega) _).alloc (by simp <;> omega) _
 have hx0 : WB.heap[w.heap.size]? = some (.cells #[nv,.slice la l.length lc] 107 (0,0)):=by rw [hWWB]; exact (Jb _ _ _ (by simp <;> omega)).trans ((Jb _ _ _ (by simp <;> omega)).trans ((Jb _ _ _ (by simp <;> omega)).trans ((Jb _ _ _ (by simp <;> omega)).trans (z03 rfl))))
 have hx1 : WB.heap[w.heap.size + 1]? = some (.cells #[.int .u8 k,.slice a1 l1 c1,.slice a2 2 c2,.int .i64 i.low,.bool i.ls,.int .i64 i.high,.bool i.hs,.bool i.op] 47 (0,0)):=by rw [hWWB]; exact (Jb _ _ _ (by simp <;> omega)).trans ((Jb _ _ _ (by simp <;> omega)).trans ((Jb _ _ _ (by simp <;> omega)).trans (z03 (by simp))))
 have hx2 : WB.heap[w.heap.size + 1 + 1]? = some (.cells #[.int .i64 a,.int .i64 p] 50 (0,0)):=by rw [hWWB]; exact (Jb _ _ _ (by simp <;> omega)).trans ((Jb _ _ _ (by simp <;> omega)).trans (z03 (by simp)))
 have hx3 : WB.heap[w.heap.size + 1 + 1 + 1]? = some (.cells #[.int .i64 b,.int .i64 q] 50 (0,0)):=by rw [hWWB]; exact (Jb _ _ _ (by simp <;> omega)).trans (z03 (by simp))
 have hx4 : WB.heap[w.heap.size + 1 + 1 + 1 + 1]? = some (.cells #[.int .u8 wk,.int .u8 sd,.slice a3 l3 c3,.slice a4 l4 c4] 56 (0,0)):=by rw [hWWB]; exact z03 (by simp)
 have HX : Hid (∀ W,Below WB.heap.size WB W → W.heap[w.heap.size]? = some (.cells #[nv,.slice la l.length lc] 107 (0,0)) ∧ W.heap[w.heap.size + 1]? = some (.cells #[.int .u8 k,.slice a1 l1 c1,.slice a2 2 c2,.int .i64 i.low,.bool i.ls,.int .i64 i.high,.bool i.hs,.bool i.op] 47 (0,0)) ∧ W.heap[w.heap.size + 1 + 1]? = some (.cells #[.int .i64 a,.int .i64 p] 50 (0,0)) ∧ W.heap[w.heap.size + 1 + 1 + 1]? = some (.cells #[.int .i64 b,.int .i64 q] 50 (0,0)) ∧ W.heap[w.heap.size + 1 + 1 + 1 + 1]? = some (.cells #[.int .u8 wk,.int .u8 sd,.slice a3 l3 c3,.slice a4 l4 c4] 56 (0,0))):=fun W hW => ⟨(hW.block _ (Array.getElem?_eq_some_iff.1 hx0).1).trans hx0,(hW.block _ (Array.getElem?_eq_some_iff.1 hx1).1).trans hx1,(hW.block _ (Array.getElem?_eq_some_iff.1 hx2).1).trans hx2,(hW.block _ (Array.getElem?_eq_some_iff.1 hx3).1).trans hx3,(hW.block _ (Array.getElem?_eq_some_iff.1 hx4).1).trans hx4⟩
 have HF : Hid (∀ W,Below WB.heap.size WB W → W.cell? ⟨w.heap.size,0,none⟩ = some (nv) ∧ W.cell? ⟨w.heap.size,1,none⟩ = some (.slice la l.length lc) ∧ W.cell? ⟨w.heap.size + 1,0,none⟩ = some (.int .u8 k) ∧ W.cell? ⟨w.heap.size + 1,1,none⟩ = some (.slice a1 l1 c1) ∧ W.cell? ⟨w.heap.size + 1,2,none⟩ = some (.slice a2 2 c2) ∧ W.cell? ⟨w.heap.size + 1,3,none⟩ = some (.int .i64 i.low) ∧ W.cell? ⟨w.heap.size + 1,4,none⟩ = some (.bool i.ls) ∧ W.cell? ⟨w.heap.size + 1,5,none⟩ = some (.int .i64 i.high) ∧ W.cell? ⟨w.heap.size + 1,6,none⟩ = some (.bool i.hs) ∧ W.cell? ⟨w.heap.size + 1,7,none⟩ = some (.bool i.op) ∧ W.cell? ⟨w.heap.size + 1 + 1,0,none⟩ = some (.int .i64 a) ∧ W.cell? ⟨w.heap.size + 1 + 1,1,none⟩ = some (.int .i64 p) ∧ W.cell? ⟨w.heap.size + 1 + 1 + 1,0,none⟩ = some (.int .i64 b) ∧ W.cell? ⟨w.heap.size + 1 + 1 + 1,1,none⟩ = some (.int .i64 q) ∧ W.cell? ⟨w.heap.size + 1 + 1 + 1 + 1,0,none⟩ = some (.int .u8 wk) ∧ W.cell? ⟨w.heap.size + 1 + 1 + 1 + 1,1,none⟩ = some (.int .u8 sd) ∧ W.cell? ⟨w.heap.size + 1 + 1 + 1 + 1,2,none⟩ = some (.slice a3 l3 c3) ∧ W.cell? ⟨w.heap.size + 1 + 1 + 1 + 1,3,none⟩ = some (.slice a4 l4 c4) ∧ w.heap.size < W.heap.size ∧ w.heap.size + 1 < W.heap.size ∧ w.heap.size + 1 + 1 < W.heap.size ∧ w.heap.size + 1 + 1 + 1 < W.heap.size ∧ w.heap.size + 1 + 1 + 1 + 1 < W.heap.size):=by
  intro W hW
  obtain ⟨k0,k1,k2,k3,k4⟩:=HX.out W hW
  exact ⟨Jc k0 0,Jc k0 1,Jc k1 0,Jc k1 1,Jc k1 2,Jc k1 3,Jc k1 4,Jc k1 5,Jc k1 6,Jc k1 7,Jc k2 0,Jc k2 1,Jc k3 0,Jc k3 1,Jc k4 0,Jc k4 1,Jc k4 2,Jc k4 3,(Array.getElem?_eq_some_iff.1 k0).1,(Array.getElem?_eq_some_iff.1 k1).1,(Array.getElem?_eq_some_iff.1 k2).1,(Array.getElem?_eq_some_iff.1 k3).1,(Array.getElem?_eq_some_iff.1 k4).1⟩
 have HBB:=Jh hbWB
 have HWB:=Jh hWWB.symm
 clear hWWB hbWB hx0 hx1 hx2 hx3 hx4
 have HBW : Hid (∀ W,Below WB.heap.size WB W → Below w.heap.size w W):=fun W h => HBB.out.trans (h.mono HBB.out.size)
 have HEN : Hid (∀ W,Below WB.heap.size WB W → EnvC names nv la lc l W):=fun W h => he.up (HBW.out W h)
 have H1:=fun W => Jh (z4c wk sd 2 a3 a4 l3 l4 c3 c4 W)
 have HF4 : Hid (∀ W,Below WB.heap.size WB W → W.cell? ⟨w.heap.size + 1 + 1 + 1 + 1,0,none⟩ = some (.int .u8 wk) ∧ W.cell? ⟨w.heap.size + 1 + 1 + 1 + 1,1,none⟩ = some (.int .u8 sd) ∧ W.cell? ⟨w.heap.size + 1 + 1 + 1 + 1,2,none⟩ = some (.slice a3 l3 c3) ∧ W.cell? ⟨w.heap.size + 1 + 1 + 1 + 1,3,none⟩ = some (.slice a4 l4 c4) ∧ w.heap.size + 1 + 1 + 1 + 1 < W.heap.size):=by
  intro W hW
  have hq:=HBW.out W hW
  obtain ⟨k0,k1,k2,k3,k4⟩:=HX.out W hW
  exact ⟨Jc k4 0,Jc k4 1,Jc k4 2,Jc k4 3,(Array.getElem?_eq_some_iff.1 k4).1⟩
 by_cases hb1 : ((sd == 0) && ((l3 : Int) == 0) && ((l4 : Int) == 2)) = true
 rotate_left
 ·have hb0:=Bool.eq_false_iff.2 hb1
  rw [bare_two _ hl3 hl4 hb0]
  rw [hb0] at H1
  clear ih hx hp hk ht hu ia ib he HEN hl3 hl4 hb0 hb1
  go_enter Tryz.func173,Tryz.ntmps173
  go_upto_region 1 with fail
  rw [HWB.out]
  clear HWB
  refine wrd (by kernel_rfl) HF4.out (((Below.refl WB.heap.size WB).drew)) (fun hHeld => ?_)
  refine z00 (f:=30) (by kernel_rfl) (by assumption) [(0,true)] rfl (by kernel_rfl) ?_
  repeat (refine SeqH.take (v:=?_) rfl (fun _ _ _ h => h) (by kernel_rfl) ?_ ?_; rotate_left; (· (intro w hSw; (try dsimp only at hSw); go_simp) <;> with_reducible rfl); (try simp only [Act.put,J1,J2,J3,J4,J5]))
  refine SeqH.nil ?_
  refine Jr (rs:=[1]) (by kernel_rfl) (by simp) ?_
  refine Jd rfl (fun K hK => ?_) Je
  go_simp
  go_at_call 216
  refine (H1 _).out.mono ?_
  rintro e wc ⟨rfl,hbc⟩
  have HBc : Hid (Below WB.heap.size WB wc):=belS ((Below.refl WB.heap.size WB).drew) hbc
  clear hbc
  try dsimp only
  refine hK.out _ _ (HF4.out _ HBc.out) (fun hHeld => ?_)
  clear hK K
  try simp only [Act.put,J1,J2,J3,J4,J5,J6]
  refine z00 (f:=0) (by kernel_rfl) (by assumption) [(2,true),(3,false),(4,false),(5,false),(6,false),(7,false),(8,false),(9,false),(10,false),(11,false),(12,false),(13,false),(14,false),(15,true),(16,true),(17,false),(18,false),(19,false),(20,false),(21,false),(22,false),(23,false),(24,false),(25,false),(26,false),(27,false),(28,false),(29,true),(30,true)] rfl (by kernel_rfl) ?_
  repeat (first | (refine SeqH.skip rfl (fun _ _ _ h => h) (by kernel_rfl) ?_; (try simp only [Act.put,J1,J2,J3,J4,J5,J6])) | (refine SeqH.take (v:=?_) rfl (fun _ _ _ h => h) (by kernel_rfl) ?_ ?_; rotate_left; (· (intro w hSw; (try dsimp only at hSw); go_simp) <;> with_reducible rfl); (try simp only [Act.put,J1,J2,J3,J4,J5,J6])))
  refine SeqH.nil ?_
  refine wpAnyH_done (by kernel_rfl) ?_ _
  clear hHeld
  go_wp2_with fail
  all_goals go_ret
  all_goals exact ⟨rfl,HBW.out _ (HBc.out)⟩
 rw [hb1] at H1
 simp only [Bool.and_eq_true,beq_iff_eq] at hb1
 obtain ⟨⟨rfl,h3⟩,h4⟩:=hb1
 obtain rfl : l3 = 0:=by omega
 obtain rfl : l4 = 2:=by omega
 obtain rfl : ats = []:=List.length_eq_zero_iff.1 hl3
 obtain ⟨v,y,rfl⟩:=z4j of hl4
 have hkv:=hk v (by simp)
 have hky:=hk y (by simp)
 obtain ⟨y0b,y0o,y0k,y0s,y0a,y0l,y0c,y0d,y0m,y0e,hy0a,y0lt,y0f0,y0f1,y0f2,y0f3,hy0r⟩:=hp.at 0 (by simp)
 simp only [Nat.zero_mul,Nat.add_zero,J5] at y0f0 y0f1 y0f2 y0f3 hy0r
 obtain ⟨y1b,y1o,y1k,y1s,y1a,y1l,y1c,y1d,y1m,y1e,hy1a,y1lt,y1f0,y1f1,y1f2,y1f3,hy1r⟩:=hp.at 1 (by simp)
 simp only [Nat.one_mul,J5,J6] at y1f0 y1f1 y1f2 y1f3 hy1r
 obtain ⟨x0b,x0o,x0k,x0a,x0l,x0c,x0d,x0m,x0e,x0g,x0h,x0i,x0j,x0p,hx0a,x0lt,x0f0,x0f1,x0f2,x0f3,x0f4,x0f5,x0f6,x0f7,hx0r⟩:=hx.at 0 (by simp)
 simp only [Nat.zero_mul,Nat.add_zero,J5] at x0f0 x0f1 x0f2 x0f3 x0f4 x0f5 x0f6 x0f7 hx0r
 obtain ⟨x1b,x1o,x1k,x1a,x1l,x1c,x1d,x1m,x1e,x1g,x1h,x1i,x1j,x1p,hx1a,x1lt,x1f0,x1f1,x1f2,x1f3,x1f4,x1f5,x1f6,x1f7,hx1r⟩:=hx.at 1 (by simp)
 simp only [Nat.one_mul,J5,J6] at x1f0 x1f1 x1f2 x1f3 x1f4 x1f5 x1f6 x1f7 hx1r
 subst hx0a hy0a
 injection hx1a with hx1a
 injection hx1a with hx1b hx1o
 injection hy1a with hy1a
 injection hy1a with hy1b hy1o
 subst hx1b hx1o hy1b hy1o
 have HS0 : Hid (∀ W,Below WB.heap.size WB W → Calls Tryz.prog 53 #[.agg #[nv,.slice la l.length lc],.agg #[.int .u8 x0k,.slice x0a x0l x0c,.slice x0d x0m x0e,.int .i64 x0g,.bool x0h,.int .i64 x0i,.bool x0j,.bool x0p],.agg #[.int .i64 a,.int .i64 p],.agg #[.int .i64 b,.int .i64 q],.agg #[.int .u8 y0k,.int .u8 y0s,.slice y0a y0l y0c,.slice y0d y0m y0e]] W fun e w' => e = .returned (.bool (z08 (z09 names m) l n (toX d x1) (a,p) (b,q) v)) ∧ Below W.heap.size W w'):=fun W h => ih _ _ _ _ _ _ _ _ W (HEN.out W h) (hx0r.up (HBW.out W h) (HBW.out W h).size) r1 o1 (PRep.up (HBW.out W h) (HBW.out W h).size hy0r) hkv ht hu ia ib
 have HS1 : Hid (∀ W,Below WB.heap.size WB W → Calls Tryz.prog 53 #[.agg #[nv,.slice la l.length lc],.agg #[.int .u8 x1k,.slice x1a x1l x1c,.slice x1d x1m x1e,.int .i64 x1g,.bool x1h,.int .i64 x1i,.bool x1j,.bool x1p],.agg #[.int .i64 a,.int .i64 p],.agg #[.int .i64 b,.int .i64 q],.agg #[.int .u8 y1k,.int .u8 y1s,.slice y1a y1l y1c,.slice y1d y1m y1e]] W fun e w' => e = .returned (.bool (z08 (z09 names m) l n (toX d x2) (a,p) (b,q) y)) ∧ Below W.heap.size W w'):=fun W h => ih _ _ _ _ _ _ _ _ W (HEN.out W h) (hx1r.up (HBW.out W h) (HBW.out W h).size) r2 o2 (PRep.up (HBW.out W h) (HBW.out W h).size hy1r) hky ht hu ia ib
 obtain ⟨R0,hR0⟩ : ∃ R,z08 (z09 names m) l n (toX d x1) (a,p) (b,q) v = R:=⟨_,rfl⟩
 obtain ⟨R1,hR1⟩ : ∃ R,z08 (z09 names m) l n (toX d x2) (a,p) (b,q) y = R:=⟨_,rfl⟩
 rw [hR0] at HS0
 rw [hR1] at HS1
 rw [show ((0 : Int) == 0 && ([] : List (Int × Int)).isEmpty && two2 (fun v y => z08 (z09 names m) l n (toX d x1) (a,p) (b,q) v && z08 (z09 names m) l n (toX d x2) (a,p) (b,q) y) [v,y]) = (R0 && R1) by rw [← hR0,← hR1]; rfl]
 have HF5 : Hid (∀ W,Below WB.heap.size WB W → W.cell? ⟨w.heap.size,0,none⟩ = some (nv) ∧ W.cell? ⟨w.heap.size,1,none⟩ = some (.slice la l.length lc) ∧ W.cell? ⟨w.heap.size + 1,2,none⟩ = some (.slice (some ⟨x0b,x0o,none⟩) 2 c2) ∧ W.cell? ⟨w.heap.size + 1 + 1,0,none⟩ = some (.int .i64 a) ∧ W.cell? ⟨w.heap.size + 1 + 1,1,none⟩ = some (.int .i64 p) ∧ W.cell? ⟨w.heap.size + 1 + 1 + 1,0,none⟩ = some (.int .i64 b) ∧ W.cell? ⟨w.heap.size + 1 + 1 + 1,1,none⟩ = some (.int .i64 q) ∧ W.cell? ⟨w.heap.size + 1 + 1 + 1 + 1,0,none⟩ = some (.int .u8 wk) ∧ W.cell? ⟨w.heap.size + 1 + 1 + 1 + 1,1,none⟩ = some (.int .u8 0) ∧ W.cell? ⟨w.heap.size + 1 + 1 + 1 + 1,2,none⟩ = some (.slice a3 0 c3) ∧ W.cell? ⟨w.heap.size + 1 + 1 + 1 + 1,3,none⟩ = some (.slice (some ⟨y0b,y0o,none⟩) 2 c4) ∧ w.heap.size < W.heap.size ∧ w.heap.size + 1 < W.heap.size ∧ w.heap.size + 1 + 1 < W.heap.size ∧ w.heap.size + 1 + 1 + 1 < W.heap.size ∧ w.heap.size + 1 + 1 + 1 + 1 < W.heap.size ∧ W.cell? ⟨x0b,x0o,none⟩ = some (.int .u8 x0k) ∧ W.cell? ⟨x0b,x0o + 1,none⟩ = some (.slice x0a x0l x0c) ∧ W.cell? ⟨x0b,x0o + 2,none⟩ = some (.slice x0d x0m x0e) ∧ W.cell? ⟨x0b,x0o + 3,none⟩ = some (.int .i64 x0g) ∧ W.cell? ⟨x0b,x0o + 4,none⟩ = some (.bool x0h) ∧ W.cell? ⟨x0b,x0o + 5,none⟩ = some (.int .i64 x0i) ∧ W.cell? ⟨x0b,x0o + 6,none⟩ = some (.bool x0j) ∧ W.cell? ⟨x0b,x0o + 7,none⟩ = some (.bool x0p) ∧ x0b < W.heap.size ∧ W.cell? ⟨x0b,x0o + 8,none⟩ = some (.int .u8 x1k) ∧ W.cell? ⟨x0b,x0o + 8 + 1,none⟩ = some (.slice x1a x1l x1c) ∧ W.cell? ⟨x0b,x0o + 8 + 2,none⟩ = some (.slice x1d x1m x1e) ∧ W.cell? ⟨x0b,x0o + 8 + 3,none⟩ = some (.int .i64 x1g) ∧ W.cell? ⟨x0b,x0o + 8 + 4,none⟩ = some (.bool x1h) ∧ W.cell? ⟨x0b,x0o + 8 + 5,none⟩ = some (.int .i64 x1i) ∧ W.cell? ⟨x0b,x0o + 8 + 6,none⟩ = some (.bool x1j) ∧ W.cell? ⟨x0b,x0o + 8 + 7,none⟩ = some (.bool x1p) ∧ x0b < W.heap.size ∧ W.cell? ⟨y0b,y0o,none⟩ = some (.int .u8 y0k) ∧ W.cell? ⟨y0b,y0o + 1,none⟩ = some (.int .u8 y0s) ∧ W.cell? ⟨y0b,y0o + 2,none⟩ = some (.slice y0a y0l y0c) ∧ W.cell? ⟨y0b,y0o + 3,none⟩ = some (.slice y0d y0m y0e) ∧ y0b < W.heap.size ∧ W.cell? ⟨y0b,y0o + 4,none⟩ = some (.int .u8 y1k) ∧ W.cell? ⟨y0b,y0o + 4 + 1,none⟩ = some (.int .u8 y1s) ∧ W.cell? ⟨y0b,y0o + 4 + 2,none⟩ = some (.slice y1a y1l y1c) ∧ W.cell? ⟨y0b,y0o + 4 + 3,none⟩ = some (.slice y1d y1m y1e) ∧ y0b < W.heap.size):=by
  intro W hW
  have hq:=HBW.out W hW
  obtain ⟨k0,k1,k2,k3,k4⟩:=HX.out W hW
  exact ⟨Jc k0 0,Jc k0 1,Jc k1 2,Jc k2 0,Jc k2 1,Jc k3 0,Jc k3 1,Jc k4 0,Jc k4 1,Jc k4 2,Jc k4 3,(Array.getElem?_eq_some_iff.1 k0).1,(Array.getElem?_eq_some_iff.1 k1).1,(Array.getElem?_eq_some_iff.1 k2).1,(Array.getElem?_eq_some_iff.1 k3).1,(Array.getElem?_eq_some_iff.1 k4).1,(hq.cell (p:=⟨x0b,_,none⟩) x0lt).trans x0f0,(hq.cell (p:=⟨x0b,_,none⟩) x0lt).trans x0f1,(hq.cell (p:=⟨x0b,_,none⟩) x0lt).trans x0f2,(hq.cell (p:=⟨x0b,_,none⟩) x0lt).trans x0f3,(hq.cell (p:=⟨x0b,_,none⟩) x0lt).trans x0f4,(hq.cell (p:=⟨x0b,_,none⟩) x0lt).trans x0f5,(hq.cell (p:=⟨x0b,_,none⟩) x0lt).trans x0f6,(hq.cell (p:=⟨x0b,_,none⟩) x0lt).trans x0f7,Nat.lt_of_lt_of_le x0lt hq.size,(hq.cell (p:=⟨x0b,_,none⟩) x1lt).trans x1f0,(hq.cell (p:=⟨x0b,_,none⟩) x1lt).trans x1f1,(hq.cell (p:=⟨x0b,_,none⟩) x1lt).trans x1f2,(hq.cell (p:=⟨x0b,_,none⟩) x1lt).trans x1f3,(hq.cell (p:=⟨x0b,_,none⟩) x1lt).trans x1f4,(hq.cell (p:=⟨x0b,_,none⟩) x1lt).trans x1f5,(hq.cell (p:=⟨x0b,_,none⟩) x1lt).trans x1f6,(hq.cell (p:=⟨x0b,_,none⟩) x1lt).trans x1f7,Nat.lt_of_lt_of_le x1lt hq.size,(hq.cell (p:=⟨y0b,_,none⟩) y0lt).trans y0f0,(hq.cell (p:=⟨y0b,_,none⟩) y0lt).trans y0f1,(hq.cell (p:=⟨y0b,_,none⟩) y0lt).trans y0f2,(hq.cell (p:=⟨y0b,_,none⟩) y0lt).trans y0f3,Nat.lt_of_lt_of_le y0lt hq.size,(hq.cell (p:=⟨y0b,_,none⟩) y1lt).trans y1f0,(hq.cell (p:=⟨y0b,_,none⟩) y1lt).trans y1f1,(hq.cell (p:=⟨y0b,_,none⟩) y1lt).trans y1f2,(hq.cell (p:=⟨y0b,_,none⟩) y1lt).trans y1f3,Nat.lt_of_lt_of_le y1lt hq.size⟩
 clear ih hx hp hk ht hu ia ib he hR0 hR1 hl3 hl4 h3 h4 hkv hky x0f0 x0f1 x0f2 x0f3 x0f4 x0f5 x0f6 x0f7 x1f0 x1f1 x1f2 x1f3 x1f4 x1f5 x1f6 x1f7 y0f0 y0f1 y0f2 y0f3 y1f0 y1f1 y1f2 y1f3 hx0r hy0r hx1r hy1r x0lt y0lt x1lt y1lt
 cases R0 with
 | false =>
  go_enter Tryz.func173,Tryz.ntmps173
  go_upto_region 1 with fail
  rw [HWB.out]
  clear HWB
  refine wrd (by kernel_rfl) HF5.out (((Below.refl WB.heap.size WB).drew)) (fun hHeld => ?_)
  refine z00 (f:=30) (by kernel_rfl) (by assumption) [(0,true)] rfl (by kernel_rfl) ?_
  repeat (refine SeqH.take (v:=?_) rfl (fun _ _ _ h => h) (by kernel_rfl) ?_ ?_; rotate_left; (· (intro w hSw; (try dsimp only at hSw); go_simp) <;> with_reducible rfl); (try simp only [Act.put,J1,J2,J3,J4,J5]))
  refine SeqH.nil ?_
  refine Jr (rs:=[1]) (by kernel_rfl) (by simp) ?_
  refine Jd rfl (fun K hK => ?_) Je
  go_simp
  go_at_call 216
  refine (H1 _).out.mono ?_
  rintro e wc ⟨rfl,hbc⟩
  have HBc : Hid (Below WB.heap.size WB wc):=belS ((Below.refl WB.heap.size WB).drew) hbc
  clear hbc
  try dsimp only
  refine hK.out _ _ (HF5.out _ HBc.out) (fun hHeld => ?_)
  clear hK K
  try simp only [Act.put,J1,J2,J3,J4,J5,J6]
  refine z00 (f:=17) (by kernel_rfl) (by assumption) [(2,true),(3,true),(4,true),(5,true),(6,true),(7,true),(8,true),(9,true),(10,true),(11,true),(12,true),(13,true)] rfl (by kernel_rfl) ?_
  repeat (refine SeqH.take (v:=?_) rfl (fun _ _ _ h => h) (by kernel_rfl) ?_ ?_; rotate_left; (· (intro w hSw; (try dsimp only at hSw); go_simp) <;> with_reducible rfl); (try simp only [Act.put,J1,J2,J3,J4,J5,J6]))
  refine SeqH.nil ?_
  refine Jr (rs:=[14]) (by kernel_rfl) (by simp) ?_
  refine Jd rfl (fun K hK => ?_) Je
  go_simp
  go_at_call 53
  refine (HS0.out _ (HBc.out)).mono ?_
  rintro e wd ⟨rfl,hbd⟩
  have HBd : Hid (Below WB.heap.size WB wd):=belS (HBc.out) hbd
  clear hbd
  try dsimp only
  refine hK.out _ _ (HF5.out _ HBd.out) (fun hHeld => ?_)
  clear hK K
  try simp only [Act.put,J1,J2,J3,J4,J5,J6]
  refine z00 (f:=0) (by kernel_rfl) (by assumption) [(15,true),(16,true),(17,false),(18,false),(19,false),(20,false),(21,false),(22,false),(23,false),(24,false),(25,false),(26,false),(27,false),(28,false),(29,true),(30,true)] rfl (by kernel_rfl) ?_
  repeat (first | (refine SeqH.skip rfl (fun _ _ _ h => h) (by kernel_rfl) ?_; (try simp only [Act.put,J1,J2,J3,J4,J5,J6])) | (refine SeqH.take (v:=?_) rfl (fun _ _ _ h => h) (by kernel_rfl) ?_ ?_; rotate_left; (· (intro w hSw; (try dsimp only at hSw); go_simp) <;> with_reducible rfl); (try simp only [Act.put,J1,J2,J3,J4,J5,J6])))
  refine SeqH.nil ?_
  refine wpAnyH_done (by kernel_rfl) ?_ _
  clear hHeld
  go_wp2_with fail
  all_goals go_ret
  all_goals exact ⟨rfl,HBW.out _ (HBd.out)⟩
 | true =>
  go_enter Tryz.func173,Tryz.ntmps173
  go_upto_region 1 with fail
  rw [HWB.out]
  clear HWB
  refine wrd (by kernel_rfl) HF5.out (((Below.refl WB.heap.size WB).drew)) (fun hHeld => ?_)
  refine z00 (f:=30) (by kernel_rfl) (by assumption) [(0,true)] rfl (by kernel_rfl) ?_
  repeat (refine SeqH.take (v:=?_) rfl (fun _ _ _ h => h) (by kernel_rfl) ?_ ?_; rotate_left; (· (intro w hSw; (try dsimp only at hSw); go_simp) <;> with_reducible rfl); (try simp only [Act.put,J1,J2,J3,J4,J5]))
  refine SeqH.nil ?_
  refine Jr (rs:=[1]) (by kernel_rfl) (by simp) ?_
  refine Jd rfl (fun K hK => ?_) Je
  go_simp
  go_at_call 216
  refine (H1 _).out.mono ?_
  rintro e wc ⟨rfl,hbc⟩
  have HBc : Hid (Below WB.heap.size WB wc):=belS ((Below.refl WB.heap.size WB).drew) hbc
  clear hbc
  try dsimp only
  refine hK.out _ _ (HF5.out _ HBc.out) (fun hHeld => ?_)
  clear hK K
  try simp only [Act.put,J1,J2,J3,J4,J5,J6]
  refine z00 (f:=17) (by kernel_rfl) (by assumption) [(2,true),(3,true),(4,true),(5,true),(6,true),(7,true),(8,true),(9,true),(10,true),(11,true),(12,true),(13,true)] rfl (by kernel_rfl) ?_
  repeat (refine SeqH.take (v:=?_) rfl (fun _ _ _ h => h) (by kernel_rfl) ?_ ?_; rotate_left; (· (intro w hSw; (try dsimp only at hSw); go_simp) <;> with_reducible rfl); (try simp only [Act.put,J1,J2,J3,J4,J5,J6]))
  refine SeqH.nil ?_
  refine Jr (rs:=[14]) (by kernel_rfl) (by simp) ?_
  refine Jd rfl (fun K hK => ?_) Je
  go_simp
  go_at_call 53
  refine (HS0.out _ (HBc.out)).mono ?_
  rintro e wd ⟨rfl,hbd⟩
  have HBd : Hid (Below WB.heap.size WB wd):=belS (HBc.out) hbd
  clear hbd
  try dsimp only
  refine hK.out _ _ (HF5.out _ HBd.out) (fun hHeld => ?_)
  clear hK K
  try simp only [Act.put,J1,J2,J3,J4,J5,J6]
  refine z00 (f:=3) (by kernel_rfl) (by assumption) [(15,true),(16,true),(17,true),(18,true),(19,true),(20,true),(21,true),(22,true),(23,true),(24,true),(25,true),(26,true),(27,true)] rfl (by kernel_rfl) ?_
  repeat (refine SeqH.take (v:=?_) rfl (fun _ _ _ h => h) (by kernel_rfl) ?_ ?_; rotate_left; (· (intro w hSw; (try dsimp only at hSw); go_simp) <;> with_reducible rfl); (try simp only [Act.put,J1,J2,J3,J4,J5,J6]))
  refine SeqH.nil ?_
  refine Jr (rs:=[28]) (by kernel_rfl) (by simp) ?_
  refine Jd rfl (fun K hK => ?_) Je
  go_simp
  go_at_call 53
  refine (HS1.out _ (HBd.out)).mono ?_
  rintro e wf ⟨rfl,hbf⟩
  have HBf : Hid (Below WB.heap.size WB wf):=belS (HBd.out) hbf
  clear hbf
  try dsimp only
  refine hK.out _ _ (HF5.out _ HBf.out) (fun hHeld => ?_)
  clear hK K
  try simp only [Act.put,J1,J2,J3,J4,J5,J6]
  refine z00 (f:=0) (by kernel_rfl) (by assumption) [(29,true),(30,true)] rfl (by kernel_rfl) ?_
  repeat (refine SeqH.take (v:=?_) rfl (fun _ _ _ h => h) (by kernel_rfl) ?_ ?_; rotate_left; (· (intro w hSw; (try dsimp only at hSw); go_simp) <;> with_reducible rfl); (try simp only [Act.put,J1,J2,J3,J4,J5,J6]))
  refine SeqH.nil ?_
  refine wpAnyH_done (by kernel_rfl) ?_ _
  clear hHeld
  go_wp2_with fail
  all_goals go_ret
  all_goals exact ⟨rfl,HBW.out _ (HBf.out)⟩
end Go.Proofs.YtockinpjfhhkoaaGreatDoor
