/- What is laid over parts that lie there: expressions and proofs in memory. -/
import Derived.Test.YtockinpjfhhkoaaGreatDoorZ24
set_option maxRecDepth 100000
set_option maxHeartbeats 16000000
open Go.Lib renaming cell_of_heap → Jc
namespace Go.Proofs.YtockinpjfhhkoaaGreatDoor
open Go.RowKit
theorem prep_over {w : World} {n : Nat} {t : PT n} {b : Nat} {T : TypeId} {k' s' : Int} {a1 a2 : Option Addr} {l1 c1 l2 c2 : Nat} (k s : Int)
 (h : w.heap[b]? = some (.cells #[.int .u8 k',.int .u8 s',.slice a1 l1 c1,.slice a2 l2 c2] T (0,0)))
 (hp : PRep w w.heap.size n t (.agg #[.int .u8 k',.int .u8 s',.slice a1 l1 c1,.slice a2 l2 c2])) (c : Nat) :
 PRep w w.heap.size (n + 1) ((k,s,[],[t]) : PT (n + 1)) (.agg #[.int .u8 k,.int .u8 s,.slice none 0 0,.slice (some ⟨b,0,none⟩) 1 c]):=by
 refine ⟨_,some ⟨b,0,none⟩,c,rfl,(show (1 : Nat) ≤ 9223372036854775807 by decide),⟨none,0,rfl,(show (0 : Nat) ≤ 9223372036854775807 by decide),.inl rfl⟩,.inr ⟨b,0,rfl,(Array.getElem?_eq_some_iff.1 h).1,fun i hi => ?_⟩⟩
 have hi' : i < 1:=hi
 obtain rfl : i = 0:=by omega
 exact ⟨_,_,_,_,Jc h 0,Jc h 1,Jc h 2,Jc h 3,hp⟩
theorem z4y {w : World} {n : Nat} {t u : PT n} {b : Nat} {T : TypeId} {k' s' k2 s2 : Int} {a1 a2 a3 a4 : Option Addr} {l1 c1 l2 c2 l3 c3 l4 c4 : Nat} (k s : Int)
 (h : w.heap[b]? = some (.cells #[.int .u8 k',.int .u8 s',.slice a1 l1 c1,.slice a2 l2 c2,.int .u8 k2,.int .u8 s2,.slice a3 l3 c3,.slice a4 l4 c4] T (0,0)))
 (hp : PRep w w.heap.size n t (.agg #[.int .u8 k',.int .u8 s',.slice a1 l1 c1,.slice a2 l2 c2]))
 (hq : PRep w w.heap.size n u (.agg #[.int .u8 k2,.int .u8 s2,.slice a3 l3 c3,.slice a4 l4 c4])) {rv : Value} {at_ : List (Int × Int)} (hr : RatsRep w w.heap.size rv at_) (c : Nat) :
 PRep w w.heap.size (n + 1) ((k,s,at_,[t,u]) : PT (n + 1)) (.agg #[.int .u8 k,.int .u8 s,rv,.slice (some ⟨b,0,none⟩) 2 c]):=by
 refine ⟨_,some ⟨b,0,none⟩,c,rfl,(show (2 : Nat) ≤ 9223372036854775807 by decide),hr,.inr ⟨b,0,rfl,(Array.getElem?_eq_some_iff.1 h).1,fun i hi => ?_⟩⟩
 have hi' : i < 2:=hi
 rcases (by omega : i = 0 ∨ i = 1) with rfl | rfl
 ·exact ⟨_,_,_,_,Jc h 0,Jc h 1,Jc h 2,Jc h 3,hp⟩
 ·exact ⟨_,_,_,_,Jc h 4,Jc h 5,Jc h 6,Jc h 7,hq⟩
theorem rats_none {w : World} {B : Nat} : RatsRep w B (.slice none 0 0) []:=⟨none,0,rfl,(show (0 : Nat) ≤ 9223372036854775807 by decide),.inl rfl⟩
theorem z41 {w : World} {m d : Nat} {x : XT m d} {b : Nat} {T : TypeId} {kx : Int} {a1x a2x : Option Addr} {n1x c1x n2x c2x : Nat} {lox hix : Int} {lsx hsx opx : Bool} (k : Int) (i : Spn)
 (h : w.heap[b]? = some (.cells #[.int .u8 kx,.slice a1x n1x c1x,.slice a2x n2x c2x,.int .i64 lox,.bool lsx,.int .i64 hix,.bool hsx,.bool opx] T (0,0))) (hx : XRep w w.heap.size m d x (.agg #[.int .u8 kx,.slice a1x n1x c1x,.slice a2x n2x c2x,.int .i64 lox,.bool lsx,.int .i64 hix,.bool hsx,.bool opx])) (c : Nat) :
 XRep w w.heap.size m (d + 1) ((k,[],[x],i) : XT m (d + 1)) (.agg #[.int .u8 k,.slice none 0 0,.slice (some ⟨b,0,none⟩) 1 c,.int .i64 i.low,.bool i.ls,.int .i64 i.high,.bool i.hs,.bool i.op]):=by
 refine ⟨none,0,some ⟨b,0,none⟩,c,rfl,⟨(show (0 : Nat) ≤ 9223372036854775807 by decide),.inl rfl⟩,(show (1 : Nat) ≤ 9223372036854775807 by decide),.inr ⟨b,0,rfl,(Array.getElem?_eq_some_iff.1 h).1,fun j hj => ?_⟩⟩
 have hj' : j < 1:=hj
 obtain rfl : j = 0:=by omega
 refine ⟨[.int .u8 kx,.slice a1x n1x c1x,.slice a2x n2x c2x,.int .i64 lox,.bool lsx,.int .i64 hix,.bool hsx,.bool opx],rfl,?_,hx⟩
 exact fun j hj => by
  rcases (by omega : j = 0 ∨ j = 1 ∨ j = 2 ∨ j = 3 ∨ j = 4 ∨ j = 5 ∨ j = 6 ∨ j = 7) with rfl | rfl | rfl | rfl | rfl | rfl | rfl | rfl
  ·exact Jc h 0
  ·exact Jc h 1
  ·exact Jc h 2
  ·exact Jc h 3
  ·exact Jc h 4
  ·exact Jc h 5
  ·exact Jc h 6
  ·exact Jc h 7
theorem z9s {w : World} {m d : Nat} {x y : XT m d} {b : Nat} {T : TypeId} {kx : Int} {a1x a2x : Option Addr} {n1x c1x n2x c2x : Nat} {lox hix : Int} {lsx hsx opx : Bool} {ky : Int} {a1y a2y : Option Addr} {n1y c1y n2y c2y : Nat} {loy hiy : Int} {lsy hsy opy : Bool} (k : Int) (i : Spn)
 (h : w.heap[b]? = some (.cells #[.int .u8 kx,.slice a1x n1x c1x,.slice a2x n2x c2x,.int .i64 lox,.bool lsx,.int .i64 hix,.bool hsx,.bool opx,.int .u8 ky,.slice a1y n1y c1y,.slice a2y n2y c2y,.int .i64 loy,.bool lsy,.int .i64 hiy,.bool hsy,.bool opy] T (0,0))) (hx : XRep w w.heap.size m d x (.agg #[.int .u8 kx,.slice a1x n1x c1x,.slice a2x n2x c2x,.int .i64 lox,.bool lsx,.int .i64 hix,.bool hsx,.bool opx])) (hy : XRep w w.heap.size m d y (.agg #[.int .u8 ky,.slice a1y n1y c1y,.slice a2y n2y c2y,.int .i64 loy,.bool lsy,.int .i64 hiy,.bool hsy,.bool opy])) (c : Nat) :
 XRep w w.heap.size m (d + 1) ((k,[],[x,y],i) : XT m (d + 1)) (.agg #[.int .u8 k,.slice none 0 0,.slice (some ⟨b,0,none⟩) 2 c,.int .i64 i.low,.bool i.ls,.int .i64 i.high,.bool i.hs,.bool i.op]):=by
 refine ⟨none,0,some ⟨b,0,none⟩,c,rfl,⟨(show (0 : Nat) ≤ 9223372036854775807 by decide),.inl rfl⟩,(show (2 : Nat) ≤ 9223372036854775807 by decide),.inr ⟨b,0,rfl,(Array.getElem?_eq_some_iff.1 h).1,fun j hj => ?_⟩⟩
 have hj' : j < 2:=hj
 rcases (by omega : j = 0 ∨ j = 1) with rfl | rfl
 ·refine ⟨[.int .u8 kx,.slice a1x n1x c1x,.slice a2x n2x c2x,.int .i64 lox,.bool lsx,.int .i64 hix,.bool hsx,.bool opx],rfl,?_,hx⟩
  exact fun j hj => by
   rcases (by omega : j = 0 ∨ j = 1 ∨ j = 2 ∨ j = 3 ∨ j = 4 ∨ j = 5 ∨ j = 6 ∨ j = 7) with rfl | rfl | rfl | rfl | rfl | rfl | rfl | rfl
   ·exact Jc h 0
   ·exact Jc h 1
   ·exact Jc h 2
   ·exact Jc h 3
   ·exact Jc h 4
   ·exact Jc h 5
   ·exact Jc h 6
   ·exact Jc h 7
 ·refine ⟨[.int .u8 ky,.slice a1y n1y c1y,.slice a2y n2y c2y,.int .i64 loy,.bool lsy,.int .i64 hiy,.bool hsy,.bool opy],rfl,?_,hy⟩
  exact fun j hj => by
   rcases (by omega : j = 0 ∨ j = 1 ∨ j = 2 ∨ j = 3 ∨ j = 4 ∨ j = 5 ∨ j = 6 ∨ j = 7) with rfl | rfl | rfl | rfl | rfl | rfl | rfl | rfl
   ·exact Jc h 8
   ·exact Jc h 9
   ·exact Jc h 10
   ·exact Jc h 11
   ·exact Jc h 12
   ·exact Jc h 13
   ·exact Jc h 14
   ·exact Jc h 15
end Go.Proofs.YtockinpjfhhkoaaGreatDoor
