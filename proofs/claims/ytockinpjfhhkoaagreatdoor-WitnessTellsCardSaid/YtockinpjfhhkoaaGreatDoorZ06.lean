/- Proofs (the struct witness.Proof) as trees in Lean: what Many and Same compute. No program. -/
import Derived.WalkKit
import Derived.Test.YtockinpjfhhkoaaGreatDoorProg
import Derived.WalkSpells
import Derived.WalkLawsBesides
import Derived.Lib.Hide
import Derived.Deep.QuietTactic
import Derived.BigQuiet
import Derived.RangeFuncNested
import Derived.RangeFuncBound
import Derived.RangeFuncCalls
import Derived.RangeFuncLeaves
import Derived.Shelf.Abstract
import Derived.Shelf.RegionOpen
import Derived.OwnWalkIn
import Derived.TacticsInMore
import Derived.LoopNIn
import Derived.LoopIn
set_option maxRecDepth 100000
set_option maxHeartbeats 16000000
open Go.Lib renaming hid → Jh
namespace Go.Proofs.YtockinpjfhhkoaaGreatDoor
open Go.RowKit
def PT : Nat → Type
 | 0 => Unit
 | n + 1 => Int × Int × List (Int × Int) × List (PT n)
def z2f : (n : Nat) → PT n → Int
 | 0,_ => 1
 | n + 1,t => t.2.2.2.foldl (fun acc x => wrap64 (acc + z2f n x)) 1
def z6m (n : Nat) (of : List (PT n)) (k : Nat) : Int:=(of.take k).foldl (fun acc x => wrap64 (acc + z2f n x)) 1
theorem z6l (n : Nat) (of : List (PT n)) (k : Nat) (h : k < of.length) : z6m n of (k + 1) = wrap64 (z6m n of k + z2f n of[k]):=by
 unfold z6m
 rw [List.take_succ_eq_append_getElem h,List.foldl_append]
 rfl
theorem manyTo_all (n : Nat) (k s : Int) (ats : List (Int × Int)) (of : List (PT n)) : z6m n of of.length = z2f (n + 1) (k,s,ats,of):=by
 unfold z6m
 rw [List.take_length]
 rfl
def z1d (a b : Int) : Int:=if b < a then b else a
def z1g {α : Type} (f : α → Int → Int) : List α → Int → Int
 | [],l => l
 | x :: r,l => if 0 ≤ l then z1g f r (f x l) else l
def z0j : (n : Nat) → PT n → Int → Int
 | 0,_,l => l
 | n + 1,t,l => z1g (z0j n) t.2.2.2 (wrap64 (wrap64 (l - 1) - z1d t.2.2.1.length 10000))
theorem roomL_drop {α : Type} (f : α → Int → Int) (l : List α) (k : Nat) (m : Int) (h : k < l.length) (hm : 0 ≤ m) : z1g f (l.drop k) m = z1g f (l.drop (k + 1)) (f l[k] m):=by
 rw [List.drop_eq_getElem_cons h,z1g,if_pos hm]
theorem roomL_stop {α : Type} (f : α → Int → Int) (l : List α) (m : Int) (hm : ¬ 0 ≤ m) : z1g f l m = m:=by
 cases l with
 | nil => rfl
 | cons x r => rw [z1g,if_neg hm]
def RatsRep (w : World) (B : Nat) (v : Value) (l : List (Int × Int)) : Prop :=
 ∃ a cap,v = .slice a l.length cap ∧ l.length ≤ 9223372036854775807 ∧ (l = [] ∨ ∃ b off,a = some ⟨b,off,none⟩ ∧ b < B ∧
  ∀ i (h : i < l.length),w.cell? ⟨b,off + i * 2,none⟩ = some (.int .i64 l[i].1) ∧ w.cell? ⟨b,off + i * 2 + 1,none⟩ = some (.int .i64 l[i].2))
def PRep (w : World) (B : Nat) : (n : Nat) → PT n → Value → Prop
 | 0,_,_ => False
 | n
  + 1,t,v => ∃ va a cap,v = .agg #[.int .u8 t.1,.int .u8 t.2.1,va,.slice a t.2.2.2.length cap] ∧ t.2.2.2.length ≤ 9223372036854775807 ∧ RatsRep w B va t.2.2.1 ∧
  (t.2.2.2 = [] ∨ ∃ b off,a = some ⟨b,off,none⟩ ∧ b < B ∧
   ∀ i (h : i < t.2.2.2.length),∃ v0 v1 v2 v3,w.cell? ⟨b,off + i * 4,none⟩ = some v0 ∧ w.cell? ⟨b,off + i * 4 + 1,none⟩ = some v1 ∧
    w.cell? ⟨b,off + i * 4 + 2,none⟩ = some v2 ∧ w.cell? ⟨b,off + i * 4 + 3,none⟩ = some v3 ∧ PRep w B n t.2.2.2[i] (.agg #[v0,v1,v2,v3]))
theorem RatsRep.below {w w' : World} {B : Nat} (hb : Below B w w') {v : Value} {l : List (Int × Int)} (h : RatsRep w B v l) : RatsRep w' B v l:=by
 obtain ⟨a,cap,hv,hm,h⟩:=h
 refine ⟨a,cap,hv,hm,?_⟩
 rcases h with h | ⟨b,off,ha,hlt,hc⟩
 ·exact .inl h
 ·exact .inr ⟨b,off,ha,hlt,fun i hi => ⟨(hb.cell (p:=⟨b,_,none⟩) hlt).trans (hc i hi).1,(hb.cell (p:=⟨b,_,none⟩) hlt).trans (hc i hi).2⟩⟩
theorem PRep.below {w w' : World} {B : Nat} (hb : Below B w w') : ∀ (n : Nat) {t : PT n} {v : Value},PRep w B n t v → PRep w' B n t v
 | 0,_,_,h => h.elim
 | n + 1,t,v,h => by
  obtain ⟨va,a,cap,hv,hm,hr,h⟩:=h
  refine ⟨va,a,cap,hv,hm,hr.below hb,?_⟩
  rcases h with h | ⟨b,off,ha,hlt,hc⟩
  ·exact .inl h
  ·refine .inr ⟨b,off,ha,hlt,fun i hi => ?_⟩
   obtain ⟨v0,v1,v2,v3,c0,c1,c2,c3,hp⟩:=hc i hi
   exact ⟨v0,v1,v2,v3,(hb.cell (p:=⟨b,_,none⟩) hlt).trans c0,(hb.cell (p:=⟨b,_,none⟩) hlt).trans c1,(hb.cell (p:=⟨b,_,none⟩) hlt).trans c2,(hb.cell (p:=⟨b,_,none⟩) hlt).trans c3,PRep.below hb n hp⟩
theorem PRep.shape {w : World} {B n : Nat} {t : PT n} {v : Value} (h : PRep w B n t v) :
 ∃ k s a1 l1 c1 a2 l2 c2,v = .agg #[.int .u8 k,.int .u8 s,.slice a1 l1 c1,.slice a2 l2 c2]:=by
 cases n with
 | zero => exact h.elim
 | succ n =>
  obtain ⟨va,a,cap,hv,_,⟨a',cap',hr,_⟩,_⟩:=h
  exact ⟨_,_,a',_,cap',a,_,cap,by rw [hv,hr]⟩
theorem z3l {w wr : World} {B n b off : Nat} {of : List (PT n)} (hB : B ≤ w.heap.size) (hbw : Below w.heap.size w wr) (hbl : b < B)
 (hc :
  ∀ i (h : i < of.length),∃ v0 v1 v2 v3,w.cell? ⟨b,off + i * 4,none⟩ = some v0 ∧ w.cell? ⟨b,off + i * 4 + 1,none⟩ = some v1 ∧
  w.cell? ⟨b,off + i * 4 + 2,none⟩ = some v2 ∧ w.cell? ⟨b,off + i * 4 + 3,none⟩ = some v3 ∧ PRep w B n of[i] (.agg #[v0,v1,v2,v3])) (j : Nat) (hlt : j < of.length) :
 ∃ k s
  a1 l1 c1 a2 l2 c2,wr.cell? ⟨b,off + j * 4,none⟩ = some (.int .u8 k) ∧ wr.cell? ⟨b,off + j * 4 + 1,none⟩ = some (.int .u8 s) ∧
  wr.cell? ⟨b,off + j * 4 + 2,none⟩ = some (.slice a1 l1 c1) ∧ wr.cell? ⟨b,off + j * 4 + 3,none⟩ = some (.slice a2 l2 c2) ∧
  PRep wr B n of[j] (.agg #[.int .u8 k,.int .u8 s,.slice a1 l1 c1,.slice a2 l2 c2]):=by
 obtain ⟨v0,v1,v2,v3,c0,c1,c2,c3,hp⟩:=hc j hlt
 obtain ⟨k,s,a1,l1,e1,a2,l2,e2,hv⟩:=hp.shape
 simp only [Value.agg.injEq,Array.mk.injEq,List.cons.injEq,and_true] at hv
 obtain ⟨rfl,rfl,rfl,rfl⟩:=hv
 exact ⟨k,s,a1,l1,e1,a2,l2,e2,(hbw.cell (p:=⟨b,_,none⟩) (by show b < _; omega)).trans c0,(hbw.cell (p:=⟨b,_,none⟩) (by show b < _; omega)).trans c1,
  (hbw.cell (p:=⟨b,_,none⟩) (by show b < _; omega)).trans c2,(hbw.cell (p:=⟨b,_,none⟩) (by show b < _; omega)).trans c3,PRep.below (hbw.mono hB) n hp⟩
open Go.RowKit
theorem z1f {k : IntKind} {a b : Int} (h : a = b) : Ending.returned (.int k a) = .returned (.int k b):=by rw [h]
theorem many_any (n : Nat) : ∀ (t : PT n) (v : Value) (w : World) (B : Nat),PRep w B n t v → B ≤ w.heap.size →
 Calls Tryz.prog 31 #[v] w fun e w' => e = .returned (.int .i64 (z2f n t)) ∧ Below w.heap.size w w':=by
 induction n with
 | zero => intro t v w B h; exact h.elim
 | succ n ih =>
  intro t v w B h hB
  obtain ⟨k,s,ats,of⟩:=t
  obtain ⟨va,a,cap,rfl,hm,hr,h⟩:=h
  dsimp only at h hr hm ⊢
  clear hr
  go_enter Tryz.func31,Tryz.ntmps31
  go_wp2_with fail
  go_loopw [3,9] (fun m i wr => ∃ j : Nat,j ≤ of.length ∧ i = .int .i64 j ∧ m = .int .i64 (z6m n of j) ∧ Below w.heap.size w wr ∧ w.heap.size < wr.heap.size) (fun _ i _ => of.length - (intOf i).toNat)
  case atStart => exact ⟨0,Nat.zero_le _,rfl,rfl,(Below.refl _ _).alloc (Nat.le_refl _) _,by simp⟩
  case round =>
   obtain ⟨j,hj,rfl,rfl,hbw,hsz⟩:=hrel
   have hb0 : Below w.heap.size w wr:=hbw
   by_cases hlt : j < of.length
   ·rcases h with h | ⟨b,off,rfl,hbl,hc⟩
    ·rw [h] at hlt; exact absurd hlt (by simp)
    ·obtain ⟨k1,s1,a1,l1,e1,a2,l2,e2,d0,d1,d2,d3,hp'⟩:=z3l hB hbw hbl hc j hlt
     have hS:=Jh (z6l n of j hlt)
     have HC:=Jh hc
     clear hc
     go_wp2_with fail
     refine (ih _ _ _ B (PRep.below ((Below.refl B wr).alloc (by omega) _) n hp') (by simp; omega)).mono ?_
     rintro e w1 ⟨rfl,hb1⟩
     clear hp'
     have hb2 : Below w.heap.size w w1:=hbw.trans (((Below.refl w.heap.size wr).alloc (by omega) _).trans (hb1.mono (by simp; omega)))
     have hz : w.heap.size < w1.heap.size:=by have:=hb1.size; simp at this; omega
     go_wp2_with fail
     go_roundw
     case rel => exact ⟨j + 1,by omega,by go_num,by rw [hS.out],hb2,hz⟩
     case measure => simp [intOf]; omega
   ·have hje : j = of.length:=by omega
    have hA:=Jh (manyTo_all n k s ats of)
    clear h
    go_wp2_with fail
    go_ret
    exact ⟨z1f (by rw [hje,hA.out]),hbw⟩
theorem refmany_any (n : Nat) : ∀ (t : PT n) (v : Value) (w : World) (B : Nat),PRep w B n t v → B ≤ w.heap.size →
 Calls Tryz.prog 57 #[v] w fun e w' => e = .returned (.int .i64 (z2f n t)) ∧ Below w.heap.size w w':=by
 induction n with
 | zero => intro t v w B h; exact h.elim
 | succ n ih =>
  intro t v w B h hB
  obtain ⟨k,s,ats,of⟩:=t
  obtain ⟨va,a,cap,rfl,hm,⟨va1,va2,rfl,hr⟩,h⟩:=h
  dsimp only at h hr hm ⊢
  clear hr
  go_enter Tryz.func57,Tryz.ntmps57
  go_wp2_with fail
  go_loopw [3,4] (fun m i wr => ∃ j : Nat,j ≤ of.length ∧ i = .int .i64 j ∧ m = .int .i64 (z6m n of j) ∧ Below w.heap.size w wr ∧ w.heap.size < wr.heap.size ∧ wr.cell? ⟨w.heap.size,3,none⟩ = some (.slice a of.length cap)) (fun _ i _ => of.length - (intOf i).toNat)
  case atStart => exact ⟨0,Nat.zero_le _,rfl,rfl,(Below.refl _ _).alloc (Nat.le_refl _) _,by simp,by simp [World.cell?_alloc_at]⟩
  case round =>
   obtain ⟨j,hj,rfl,rfl,hbw,hsz,hbox⟩:=hrel
   by_cases hlt : j < of.length
   ·rcases h with h | ⟨b,off,rfl,hbl,hc⟩
    ·rw [h] at hlt; exact absurd hlt (by simp)
    ·obtain ⟨k1,s1,a1,l1,e1,a2,l2,e2,d0,d1,d2,d3,hp'⟩:=z3l hB hbw hbl hc j hlt
     have hS:=Jh (z6l n of j hlt)
     have HC:=Jh hc
     clear hc
     go_wp2_with fail
     refine (ih _ _ _ B hp' (by omega)).mono ?_
     rintro e w1 ⟨rfl,hb1⟩
     clear hp'
     have hb2 : Below w.heap.size w w1:=hbw.trans (hb1.mono (by omega))
     have hz : w.heap.size < w1.heap.size:=by have:=hb1.size; omega
     have hx:=(hb1.cell (p:=⟨w.heap.size,3,none⟩) hsz).trans hbox
     go_wp2_with fail
     go_roundw
     case rel => exact ⟨j + 1,by omega,by go_num,by rw [hS.out],hb2,hz,hx⟩
     case measure => simp [intOf]; omega
   ·have hje : j = of.length:=by omega
    have hA:=Jh (manyTo_all n k s ats of)
    clear h
    go_wp2_with fail
    go_ret
    exact ⟨z1f (by rw [hje,hA.out]),hbw⟩
theorem room_any (n : Nat) : ∀ (t : PT n) (v : Value) (l : Int) (w : World) (B : Nat),PRep w B n t v → B ≤ w.heap.size →
 Calls Tryz.prog 50 #[v,.int .i64 l] w fun e w' => e = .returned (.int .i64 (z0j n t l)) ∧ Below w.heap.size w w':=by
 induction n with
 | zero => intro t v l w B h; exact h.elim
 | succ n ih =>
  intro t v l w B h hB
  obtain ⟨k,s,ats,of⟩:=t
  obtain ⟨va,a,cap,rfl,hm,⟨va1,va2,rfl,hm2,hr⟩,h⟩:=h
  dsimp only at h hr hm hm2 ⊢
  clear hr
  by_cases hlen : 10000 < (ats.length : Int)
  ·have H0 : Hid (z0j (n + 1) (k,s,ats,of) l = z1g (z0j n) (of.drop 0) (wrap64 (wrap64 (l - 1) - 10000))):=by
    show z1g _ _ (wrap64 (wrap64 (l - 1) - z1d _ _)) = _
    rw [z1d,if_pos hlen]; rfl
   go_enter Tryz.func50,Tryz.ntmps50
   go_wp2_with fail
   go_loopw [1,5] (fun m i wr => ∃ (j : Nat) (q : Int),j ≤ of.length ∧ i = .int .i64 j ∧ m = .int .i64 q ∧ Hid (z0j (n + 1) (k,s,ats,of) l = z1g (z0j n) (of.drop j) q) ∧ Below w.heap.size w wr ∧ w.heap.size < wr.heap.size ∧ wr.cell? ⟨w.heap.size,3,none⟩ = some (.slice a of.length cap)) (fun _ i _ => of.length - (intOf i).toNat)
   case atStart => exact ⟨0,_,Nat.zero_le _,rfl,rfl,H0,(Below.refl _ _).alloc (Nat.le_refl _) _,by simp,by simp [World.cell?_alloc_at]⟩
   case round =>
    obtain ⟨j,q,hj,rfl,rfl,hR,hbw,hsz,hbox⟩:=hrel
    by_cases hlt : j < of.length
    ·by_cases hq : 0 ≤ q
     ·rcases h with h | ⟨b,off,rfl,hbl,hc⟩
      ·rw [h] at hlt; exact absurd hlt (by simp)
      ·obtain ⟨k1,s1,a1,l1,e1,a2,l2,e2,d0,d1,d2,d3,hp'⟩:=z3l hB hbw hbl hc j hlt
       have hS:=Jh (roomL_drop (z0j n) of j q hlt hq)
       have HC:=Jh hc
       clear hc
       go_wp2_with fail
       refine (ih _ _ _ _ B hp' (by omega)).mono ?_
       rintro e w1 ⟨rfl,hb1⟩
       clear hp'
       have hb2 : Below w.heap.size w w1:=hbw.trans (hb1.mono (by omega))
       have hz : w.heap.size < w1.heap.size:=by have:=hb1.size; omega
       have hx:=(hb1.cell (p:=⟨w.heap.size,3,none⟩) hsz).trans hbox
       go_wp2_with fail
       go_roundw
       case rel => exact ⟨j + 1,_,by omega,by go_num,rfl,hR.out.trans hS.out,hb2,hz,hx⟩
       case measure => simp [intOf]; omega
     ·have hS:=Jh (roomL_stop (z0j n) (of.drop j) q hq)
      clear h
      go_wp2_with fail
      go_ret
      exact ⟨z1f (by rw [hR.out,hS.out]),hbw⟩
    ·have hS : Hid (z1g (z0j n) (of.drop j) q = q):=by
      rw [show j = of.length by omega,List.drop_length]; rfl
     clear h
     go_wp2_with fail
     go_ret
     exact ⟨z1f (by rw [hR.out,hS.out]),hbw⟩
  ·have H0 : Hid (z0j (n + 1) (k,s,ats,of) l = z1g (z0j n) (of.drop 0) (wrap64 (wrap64 (l - 1) - ats.length))):=by
    show z1g _ _ (wrap64 (wrap64 (l - 1) - z1d _ _)) = _
    rw [z1d,if_neg hlen]; rfl
   go_enter Tryz.func50,Tryz.ntmps50
   go_wp2_with fail
   go_loopw [1,5] (fun m i wr => ∃ (j : Nat) (q : Int),j ≤ of.length ∧ i = .int .i64 j ∧ m = .int .i64 q ∧ Hid (z0j (n + 1) (k,s,ats,of) l = z1g (z0j n) (of.drop j) q) ∧ Below w.heap.size w wr ∧ w.heap.size < wr.heap.size ∧ wr.cell? ⟨w.heap.size,3,none⟩ = some (.slice a of.length cap)) (fun _ i _ => of.length - (intOf i).toNat)
   case atStart => exact ⟨0,_,Nat.zero_le _,rfl,rfl,H0,(Below.refl _ _).alloc (Nat.le_refl _) _,by simp,by simp [World.cell?_alloc_at]⟩
   case round =>
    obtain ⟨j,q,hj,rfl,rfl,hR,hbw,hsz,hbox⟩:=hrel
    by_cases hlt : j < of.length
    ·by_cases hq : 0 ≤ q
     ·rcases h with h | ⟨b,off,rfl,hbl,hc⟩
      ·rw [h] at hlt; exact absurd hlt (by simp)
      ·obtain ⟨k1,s1,a1,l1,e1,a2,l2,e2,d0,d1,d2,d3,hp'⟩:=z3l hB hbw hbl hc j hlt
       have hS:=Jh (roomL_drop (z0j n) of j q hlt hq)
       have HC:=Jh hc
       clear hc
       go_wp2_with fail
       refine (ih _ _ _ _ B hp' (by omega)).mono ?_
       rintro e w1 ⟨rfl,hb1⟩
       clear hp'
       have hb2 : Below w.heap.size w w1:=hbw.trans (hb1.mono (by omega))
       have hz : w.heap.size < w1.heap.size:=by have:=hb1.size; omega
       have hx:=(hb1.cell (p:=⟨w.heap.size,3,none⟩) hsz).trans hbox
       go_wp2_with fail
       go_roundw
       case rel => exact ⟨j + 1,_,by omega,by go_num,rfl,hR.out.trans hS.out,hb2,hz,hx⟩
       case measure => simp [intOf]; omega
     ·have hS:=Jh (roomL_stop (z0j n) (of.drop j) q hq)
      clear h
      go_wp2_with fail
      go_ret
      exact ⟨z1f (by rw [hR.out,hS.out]),hbw⟩
    ·have hS : Hid (z1g (z0j n) (of.drop j) q = q):=by
      rw [show j = of.length by omega,List.drop_length]; rfl
     clear h
     go_wp2_with fail
     go_ret
     exact ⟨z1f (by rw [hR.out,hS.out]),hbw⟩
theorem great_any (n : Nat) (t : PT n) (v : Value) (w : World) (B : Nat) (h : PRep w B n t v) (hB : B ≤ w.heap.size) :
 Calls Tryz.prog 20 #[v] w fun e w' => e = .returned (.bool (decide (z0j n t 6000 < 0))) ∧ Below w.heap.size w w':=by
 obtain ⟨k1,s1,a1,l1,e1,a2,l2,e2,rfl⟩:=h.shape
 go_enter Tryz.func20,Tryz.ntmps20
 go_wp2_with fail
 refine (room_any n t _ _ _ B (PRep.below ((Below.refl B w).alloc (by omega) _) n h) (by simp; omega)).mono ?_
 rintro e w1 ⟨rfl,hb1⟩
 clear h
 go_wp2_with fail
 go_ret
 exact ⟨rfl,((Below.refl w.heap.size w).alloc (Nat.le_refl _) _).trans (hb1.mono (by simp))⟩
open Go.RowKit Go.Shelf
attribute [local go_sem] Oper.semAt_some
def SegC (w : World) (b off : Nat) (l : List (Int × Int)) : Prop :=
 ∀ i,i < l.length → w.cell? ⟨b,off + i * 2,none⟩ = some (.int .i64 (l[i]?.getD (0,0)).1) ∧ w.cell? ⟨b,off + i * 2 + 1,none⟩ = some (.int .u8 (l[i]?.getD (0,0)).2)
theorem SegC.below {w w' : World} {B b off : Nat} {l : List (Int × Int)} (hb : Below B w w') (hlt : b < B) (h : SegC w b off l) : SegC w' b off l :=
 fun i hi => ⟨(hb.cell (p:=⟨b,_,none⟩) hlt).trans (h i hi).1,(hb.cell (p:=⟨b,_,none⟩) hlt).trans (h i hi).2⟩
def atOf (l : List (Int × Int)) : Nat → Int
 | 0 => 0
 | j + 1 => wrap64 (atOf l j + (l[j]?.getD (0,0)).1)
def itemOf (l : List (Int × Int)) (j : Nat) : Int × Int × Int:=(atOf l j,(l[j]?.getD (0,0)).1,(l[j]?.getD (0,0)).2)
def z17 (l : List (Int × Int)) (k : Nat) : List (Int × Int × Int):=(List.range k).map (itemOf l)
theorem z5o (l : List (Int × Int)) (k : Nat) : z17 l (k + 1) = z17 l k ++ [itemOf l k]:=by simp [z17,List.range_succ]
theorem z3s (l : List (Int × Int)) (k : Nat) : (z17 l k).length = k:=by simp [z17]
def encItem (x : Int × Int × Int) : Array Value:=#[.int .i64 x.1,.agg #[.int .i64 x.2.1,.int .u8 x.2.2]]
def KpD (n₀ D : Nat) (W W' : World) : Prop:=Below n₀ W W' ∧ ∀ (k : Nat) (o : Obj),D ≤ k → W.heap[k]? = some o → o.isCells = true → W'.heap[k]? = some o
theorem kpD_t {n₀ D : Nat} {A B C : World} (h : KpD n₀ D A B) (k : KpD n₀ D B C) : KpD n₀ D A C :=
 ⟨h.1.trans k.1,fun i o hi ho hc => k.2 i o hi (h.2 i o hi ho hc) hc⟩
theorem kpD_b {n₀ D : Nat} {w : World} (hn : n₀ ≤ w.heap.size) (W : World) (l : Nat) (o o' : Obj) (hl : w.heap.size ≤ l) (h : W.heap[l]? = some o) (hc : o.isCells = false) (hw : o.isWalk = false) : KpD n₀ D W (W.putObj l o') :=
 ⟨belowK_b hn W l o o' hl h hc hw,fun k o2 _ h2 hc2 => by
  by_cases e : k = l
  ·subst e; rw [h] at h2; cases h2; rw [hc] at hc2; cases hc2
  ·exact (World.putObj_heap_other e).trans h2⟩
theorem begins1_in (F : Fence) (n : Nat) (h40 : F.fn 150) (hro : F.round = none) (hn : 1 ≤ n) (l Bs n₀ D b off cap : Nat) (zs : List (Int × Int)) (hm : zs.length ≤ 9223372036854775807) (hb : b < n₀) (J Jx : List (Int × Int × Int) → World → Prop)
 (W : World) (hD : D ≤ W.heap.size) (hn0 : n₀ ≤ W.heap.size) (hJ : AbidesFrom W.heap.size J)
 (hY : ∀ pre x W1,J pre W1 → pre.length < zs.length → YieldAt F (n - 1) Tryz.prog l (encItem x) W1 fun e W' =>
  (e = .returned (.bool true) ∧ J (pre ++ [x]) W' ∧ KpD n₀ D W1 W') ∨ (e = .returned (.bool false) ∧ Jx (pre ++ [x]) W'))
 (hBs : W.cell? ⟨Bs,0,none⟩ = some (.slice (some ⟨b,off,none⟩) zs.length cap)) (hc : SegC W b off zs) (h0 : J [] W) :
 CallsIn F n Tryz.prog 150 #[.func (.yield l) #[] #[],.pointer (some ⟨Bs,0,none⟩)] W fun e W' => (∃ v,e = .returned v) ∧
  ((∃ ys,ys = z17 zs zs.length ∧ J ys W') ∨ (∃ pre,(∃ k,k ≤ zs.length ∧ pre = z17 zs k) ∧ Jx pre W')):=by
 refine callsIn_of_wp Tryz.func150 rfl h40 ?_ hro
 simp only [Tryz.ntmps150,List.size_toArray,List.length_cons,List.length_nil,Nat.reduceAdd,Nat.reduceSub,Array.replicate_succ,Array.replicate_zero,List.push_toArray,List.append_toArray,List.nil_append,List.cons_append]
 gi_wp2
 gi_loopw [3,8] (fun t i wr => ∃ k : Nat,k ≤ zs.length ∧ i = .int .i64 k ∧ t = .int .i64 (atOf zs k) ∧ J (z17 zs k) wr ∧ Below n₀ W wr ∧ D ≤ wr.heap.size ∧ W.heap.size ≤ wr.heap.size)
  (fun _ i _ => zs.length - (intOf i).toNat)
 case atStart => exact ⟨0,Nat.zero_le _,rfl,rfl,h0,Below.refl _ _,hD,Nat.le_refl _⟩
 case round =>
  obtain ⟨k,hk,rfl,rfl,hJs,hnx,hDr,hWr⟩:=hrel
  by_cases hlt : k < zs.length
  ·obtain ⟨c1,c2⟩:=(hc.below hnx hb) k hlt
   obtain ⟨p,q,hpq⟩ : ∃ p q,zs[k]?.getD (0,0) = (p,q):=⟨_,_,rfl⟩
   rw [hpq] at c1 c2
   dsimp only at c1 c2
   have hJ1 : J (z17 zs k) (wr.alloc (.cells #[.int .i64 p,.int .u8 q] 29)):=hJ _ _ _ none hJs (World.grownBy_alloc _ _ _) (by intro r e; cases e)
   obtain ⟨fn,tmps,assign,body,hy,hR⟩:=hY _ (itemOf zs k) _ hJ1 (by rw [z3s]; exact hlt)
   simp only [encItem,itemOf,hpq] at hy
   have HR:=Jh hR
   have HC:=Jh hc
   have HP:=Jh hpq
   have HA : Hid (atOf zs (k + 1) = wrap64 (atOf zs k + p)):=by show wrap64 _ = _; rw [hpq]
   clear hR hc hY hpq
   gi_wp2
   refine HR.out.mono ?_
   rintro e W3 (⟨rfl,hJ3,hk3⟩ | ⟨rfl,hJx3⟩)
   ·have hbox : W3.heap[wr.heap.size]? = some (.cells #[.int .i64 p,.int .u8 q] 29):=hk3.2 _ _ hDr (World.alloc_heap_new wr _) rfl
    have g1 : W3.cell? ⟨wr.heap.size,0,none⟩ = some (.int .i64 p):=by simp [World.cell?,hbox]
    have hb3 : Below n₀ W W3:=(hnx.trans ((Below.refl n₀ wr).alloc (by omega) _)).trans hk3.1
    have hz:=hk3.1.size
    simp only [World.size_alloc] at hz
    clear hbox
    gi_wp2
    go_roundw
    case rel => exact ⟨k + 1,by omega,by go_num,by rw [HA.out],by rw [z5o]; exact hJ3,hb3,by omega,by omega⟩
    case measure => simp [intOf]; omega
   ·gi_wp2
    refine bodyPost_ret (results_none rfl _ _ _) rfl ?_
    exact ⟨⟨_,rfl⟩,.inr ⟨_,⟨k + 1,by omega,(z5o _ _).symm⟩,hJx3⟩⟩
  ·obtain rfl : k = zs.length:=by omega
   gi_wp2
   go_end0
   exact ⟨⟨_,rfl⟩,.inl ⟨_,rfl,hJs⟩⟩
open Go.RowKit Go.Shelf
def badB (p : Int) (s : Int × Int) : Bool:=decide (s.1 < 1) || decide (2 ^ p.toNat ≤ s.2)
theorem check1_any (a q p : Int) (Bp : Nat) (w : World) (hp0 : 0 ≤ p) (hp8 : p ≤ 8) (hq0 : 0 ≤ q) (hq : q ≤ 255) (hc : w.cell? ⟨Bp,0,none⟩ = some (.int .i64 p)) (hB : Bp < w.heap.size) :
 Calls Tryz.prog 98 #[.agg #[.int .i64 a,.int .u8 q],.pointer (some ⟨Bp,0,none⟩)] w fun e w' => e = .returned (.bool (badB p (a,q))) ∧ Below w.heap.size w w':=by
 by_cases ha : a < 1
 ·have hb : Hid (badB p (a,q) = true):=by show (_ || _) = true; simp [ha]
  go_enter Tryz.func98,Tryz.ntmps98
  go_wp2_with fail
  go_ret
  exact ⟨by rw [hb.out]; rfl,(Below.refl _ _).alloc (Nat.le_refl _) _⟩
 ·have hb : Hid (badB p (a,q) = decide (0 < q / 2 ^ p.toNat)):=by
   show (_ || _) = _
   have hc : (0 : Int) < 2 ^ p.toNat:=Int.pow_pos (by omega)
   simp only [ha,decide_false,Bool.false_or,decide_eq_decide]
   have:=Int.le_ediv_iff_mul_le (a:=1) (b:=q) hc
   rw [Int.one_mul] at this
   omega
  go_enter Tryz.func98,Tryz.ntmps98
  go_wp2_with fail
  go_ret
  exact ⟨by rw [hb.out]; rfl,(Below.refl _ _).alloc (Nat.le_refl _) _⟩
def idxF {α : Type} (f : α → Bool) : List α → Int → Int
 | [],_ => -1
 | x :: r,k => if f x then k else idxF f r (k + 1)
theorem idxF_any {α : Type} (f : α → Bool) : ∀ (l : List α) (k : Int),0 ≤ k → decide (0 ≤ idxF f l k) = l.any f
 | [],_,_ => rfl
 | x :: r,k,h => by
  rw [idxF,List.any_cons]
  cases f x
  ·simpa using idxF_any f r (k + 1) (by omega)
  ·simpa using h
theorem idxF_drop {α : Type} (f : α → Bool) (l : List α) (j : Nat) (h : j < l.length) : idxF f (l.drop j) j = if f l[j] then (j : Int) else idxF f (l.drop (j + 1)) ((j + 1 : Nat) : Int):=by
 rw [List.drop_eq_getElem_cons h,idxF]
 rfl
def Segs (w : World) (B : Nat) (v : Value) (l : List (Int × Int)) : Prop :=
 ∃ a cap,v = .slice a l.length cap ∧ l.length ≤ 9223372036854775807 ∧ (l = [] ∨ ∃ b off,a = some ⟨b,off,none⟩ ∧ b < B ∧ SegC w b off l) ∧
  ∀ s ∈ l,-9223372036854775808 ≤ s.1 ∧ s.1 ≤ 9223372036854775807 ∧ 0 ≤ s.2 ∧ s.2 ≤ 255
theorem Segs.below {w w' : World} {B : Nat} {v : Value} {l : List (Int × Int)} (hb : Below B w w') (h : Segs w B v l) : Segs w' B v l:=by
 obtain ⟨a,cap,hv,hm,h,hr⟩:=h
 refine ⟨a,cap,hv,hm,?_,hr⟩
 rcases h with h | ⟨b,off,ha,hlt,hc⟩
 ·exact .inl h
 ·exact .inr ⟨b,off,ha,hlt,hc.below hb hlt⟩
theorem Segs.mono {w : World} {B B' : Nat} {v : Value} {l : List (Int × Int)} (hB : B ≤ B') (h : Segs w B v l) : Segs w B' v l:=by
 obtain ⟨a,cap,hv,hm,h,hr⟩:=h
 refine ⟨a,cap,hv,hm,?_,hr⟩
 rcases h with h | ⟨b,off,ha,hlt,hc⟩
 ·exact .inl h
 ·exact .inr ⟨b,off,ha,by omega,hc⟩
theorem getD_eq (l : List (Int × Int)) (j : Nat) (h : j < l.length) : l[j]?.getD (0,0) = l[j]:=by simp [h]
theorem indexFunc_any (v : Value) (l : List (Int × Int)) (p : Int) (Bp : Nat) (w : World) (hs : Segs w w.heap.size v l) (hp0 : 0 ≤ p) (hp8 : p ≤ 8) (hc : w.cell? ⟨Bp,0,none⟩ = some (.int .i64 p)) (hB : Bp < w.heap.size) :
 Calls Tryz.prog 170 #[v,.func (.func 98) #[] #[.pointer (some ⟨Bp,0,none⟩)]] w fun e w' => e = .returned (.int .i64 (idxF (badB p) l 0)) ∧ Below w.heap.size w w':=by
 obtain ⟨a,cap,rfl,hm,h,hr⟩:=hs
 have HR:=Jh hr
 have HBp:=Jh hc
 clear hr hc
 have H0 : Hid (idxF (badB p) l 0 = idxF (badB p) (l.drop 0) ((0 : Nat) : Int)):=rfl
 go_enter Tryz.func170,Tryz.ntmps170
 go_wp2_with fail
 go_loopw [8] (fun i wr => ∃ j : Nat,j ≤ l.length ∧ i = .int .i64 j ∧ Hid (idxF (badB p) l 0 = idxF (badB p) (l.drop j) (j : Int)) ∧ Below w.heap.size w wr) (fun i _ => l.length - (intOf i).toNat)
 case atStart => exact ⟨0,Nat.zero_le _,rfl,H0,Below.refl _ _⟩
 case round =>
  obtain ⟨j,hj,rfl,hI,hbw⟩:=hrel
  by_cases hlt : j < l.length
  ·rcases h with h | ⟨b,off,rfl,hbl,hc⟩
   ·rw [h] at hlt; exact absurd hlt (by simp)
   ·obtain ⟨c1,c2⟩:=(hc.below hbw hbl) j hlt
    obtain ⟨x,y,hxy⟩ : ∃ x y,l[j] = (x,y):=⟨_,_,rfl⟩
    rw [getD_eq l j hlt,hxy] at c1 c2
    dsimp only at c1 c2
    have hD:=idxF_drop (badB p) l j hlt
    have hrg:=HR.out _ (List.getElem_mem hlt)
    rw [hxy] at hD hrg
    obtain ⟨_,_,hy0,hy1⟩:=hrg
    have HD:=Jh hD
    have HX:=Jh hxy
    have HC:=Jh hc
    have hcp:=(hbw.cell (p:=⟨Bp,0,none⟩) hB).trans HBp.out
    have hsw:=hbw.size
    clear hxy hc hD
    dsimp only at hy0 hy1
    cases hb : badB p (x,y)
    ·have HB:=Jh hb
     clear hb
     go_wp2_with fail
     refine (check1_any x y p Bp wr hp0 hp8 hy0 hy1 hcp (by omega)).mono ?_
     rintro e w1 ⟨rfl,hb1⟩
     rw [HB.out]
     clear c1 c2 hcp
     go_wp2_with fail
     go_roundw
     case rel => exact ⟨j + 1,by omega,by go_num,by rw [hI.out,HD.out,HB.out]; rfl,hbw.trans (hb1.mono hsw)⟩
     case measure => simp [intOf]; omega
    ·have HB:=Jh hb
     clear hb
     go_wp2_with fail
     refine (check1_any x y p Bp wr hp0 hp8 hy0 hy1 hcp (by omega)).mono ?_
     rintro e w1 ⟨rfl,hb1⟩
     rw [HB.out]
     clear c1 c2 hcp
     go_wp2_with fail
     go_ret
     exact ⟨z1f (by rw [hI.out,HD.out,HB.out]; rfl),hbw.trans (hb1.mono hsw)⟩
  ·have hE : Hid (idxF (badB p) (l.drop j) (j : Int) = -1):=by rw [show j = l.length by omega,List.drop_length]; rfl
   clear h
   go_wp2_with fail
   go_ret
   exact ⟨z1f (by rw [hI.out,hE.out]),hbw⟩
theorem z31 (v : Value) (l : List (Int × Int)) (p : Int) (Bp : Nat) (w : World) (hs : Segs w w.heap.size v l) (hp0 : 0 ≤ p) (hp8 : p ≤ 8) (hc : w.cell? ⟨Bp,0,none⟩ = some (.int .i64 p)) (hB : Bp < w.heap.size) :
 Calls Tryz.prog 97 #[v,.func (.func 98) #[] #[.pointer (some ⟨Bp,0,none⟩)]] w fun e w' => e = .returned (.bool (l.any (badB p))) ∧ Below w.heap.size w w':=by
 have H:=Jh (indexFunc_any v l p Bp w hs hp0 hp8 hc hB)
 have HA:=Jh (idxF_any (badB p) l 0 (by omega))
 clear hs hc
 go_enter Tryz.func97,Tryz.ntmps97
 go_wp2_with fail
 refine H.out.mono ?_
 rintro e w1 ⟨rfl,hb1⟩
 go_wp2_with fail
 go_ret
 exact ⟨by rw [← HA.out]; rfl,hb1⟩
end Go.Proofs.YtockinpjfhhkoaaGreatDoor
