/- Layer 16 walked: strings sought in a row of names; names of a formula that are declared; formulas that are made right. -/
import Derived.Test.YtpgdplmndnopbaaGreatDoorZ02
import Derived.Test.YtpgdplmndnopbaaGreatDoorZ01
import Derived.Deep.QuietTactic
import Derived.BigQuiet
import Derived.StillTailTactics
import Derived.WalkLawsBesides
import Derived.Deep.RegionLaw
import Derived.RegionTactic
set_option maxRecDepth 100000
set_option maxHeartbeats 16000000
namespace Go.Proofs.YtpgdplmndnopbaaGreatDoor
open Go.RowKit
def idxN (s : ByteArray) (l : List ByteArray) : Int:=match l.findIdx? (fun x => s.toList == x.toList) with
 | some k => k
 | none => -1
theorem idxN_at (s : ByteArray) (l : List ByteArray) (j : Nat) (h : j < l.length) (h0 : ∀ i (hi : i < l.length),i < j → (s.toList == (l[i]).toList) = false) (h1 : (s.toList == (l[j]).toList) = true) : idxN s l = j:=by
 have : l.findIdx? (fun x => s.toList == x.toList) = some j:=by
  rw [List.findIdx?_eq_some_iff_getElem]
  exact ⟨h,h1,fun i hi => by rw [h0 i (by omega) hi]; simp⟩
 unfold idxN; rw [this]
theorem idxN_none (s : ByteArray) (l : List ByteArray) (h0 : ∀ i (hi : i < l.length),i < l.length → (s.toList == (l[i]).toList) = false) : idxN s l = -1:=by
 have : l.findIdx? (fun x => s.toList == x.toList) = none:=by
  rw [List.findIdx?_eq_none_iff]
  intro x hx
  obtain ⟨i,hi,rfl⟩:=List.getElem_of_mem hx
  exact h0 i hi hi
 unfold idxN; rw [this]
theorem idxN_in (s : ByteArray) (l : List ByteArray) : decide (0 ≤ idxN s l) = inN s l:=by
 unfold idxN inN
 cases h : l.findIdx? (fun x => s.toList == x.toList) with
 | none =>
  rw [List.findIdx?_eq_none_iff] at h
  have : l.any (fun x => s.toList == x.toList) = false:=by
   rw [List.any_eq_false]; intro x hx; rw [h x hx]; simp
  rw [this]; rfl
 | some k =>
  rw [List.findIdx?_eq_some_iff_getElem] at h
  obtain ⟨hk,hp,_⟩:=h
  have : l.any (fun x => s.toList == x.toList) = true:=List.any_eq_true.2 ⟨_,List.getElem_mem hk,hp⟩
  rw [this]; simp
theorem index63_any (l : List ByteArray) (v : Value) (s : ByteArray) (w : World) (hn : NRep w w.heap.size v l) :
 Calls Tryz.prog 149 #[v,.string s] w fun e w' => e = .returned (.int .i64 (idxN s l)) ∧ w' = w:=by
 obtain ⟨a,c,rfl,hm,hn⟩:=hn
 have HA:=Lib.hid (idxN_at s l)
 have HN:=Lib.hid (idxN_none s l)
 go_enter Tryz.func149,Tryz.ntmps149
 go_wp2_with fail
 go_loopw [8] (fun i wr => ∃ j : Nat,j ≤ l.length ∧ i = .int .i64 j ∧ Hid (∀ i (hi : i < l.length),i < j → (s.toList == (l[i]).toList) = false) ∧ wr = w) (fun i _ => l.length - (intOf i).toNat)
 case atStart => exact ⟨0,Nat.zero_le _,rfl,fun _ _ h => absurd h (by omega),rfl⟩
 case round =>
  obtain ⟨j,hj,rfl,HT,rfl⟩:=hrel
  by_cases hlt : j < l.length
  ·rcases hn with hn | ⟨b,off,rfl,hb,hc⟩
   ·rw [hn] at hlt; exact absurd hlt (by simp)
   ·have c0:=hc j hlt
    have HC:=Lib.hid hc
    clear hc
    have HAj:=Lib.hid (HA.out j hlt HT.out)
    cases q : (s.toList == (l[j]).toList) with
    | true =>
     have HR:=Lib.hid (HAj.out q)
     go_wp2_with fail
     all_goals go_ret
     all_goals exact ⟨z2q (by rw [HR.out]),rfl⟩
    | false =>
     have HR:=Lib.hid q
     go_wp2_with fail
     go_roundw
     case rel => exact ⟨j + 1,by omega,by go_num,fun i hi hij => by
      rcases Nat.lt_or_ge i j with h | h
      ·exact HT.out i hi h
      ·obtain rfl : i = j:=by omega
       exact HR.out,trivial⟩
     case measure => simp [intOf]; omega
  ·have hje : j = l.length:=by omega
   have HR:=Lib.hid (HN.out (fun i hi _ => HT.out i hi (by omega)))
   clear HT hn
   go_wp2_with fail
   all_goals go_ret
   all_goals exact ⟨z2q (by rw [HR.out]),rfl⟩
theorem contains53_any (l : List ByteArray) (v : Value) (s : ByteArray) (w : World) (hn : NRep w w.heap.size v l) :
 Calls Tryz.prog 108 #[v,.string s] w fun e w' => e = .returned (.bool (inN s l)) ∧ w' = w:=by
 have HI:=Lib.hid (index63_any l v s w hn)
 have HE:=Lib.hid (idxN_in s l)
 obtain ⟨a,c,rfl,hm,hn⟩:=hn
 clear hn
 go_enter Tryz.func108,Tryz.ntmps108
 go_wp2_with fail
 refine HI.out.mono ?_
 rintro e w1 ⟨rfl,rfl⟩
 go_wp2_with fail
 all_goals go_ret
 all_goals exact ⟨z00 HE.out,rfl⟩
theorem so52 (names : List ByteArray) (nv : Value) (b : Nat) (w : World) (hb : b < w.heap.size) (hc : w.cell? ⟨b,0,none⟩ = some nv) (hn : NRep w w.heap.size nv names) :
 SoF w 107 #[.pointer (some ⟨b,0,none⟩)] (z1n names):=by
 intro n
 refine ⟨z2x Tryz.func107 (by kernel_rfl) (by kernel_rfl),fun t v w' hb' hr => ?_⟩
 obtain ⟨k,s,of⟩:=t
 obtain ⟨a,c,rfl,_⟩:=hr
 dsimp only
 have hz:=hb'.size
 have hb1 : Below w.heap.size w (w'.alloc (.cells #[.int .u8 k,.string s,.slice a of.length c] 61)):=hb'.alloc hz _
 have HC:=Lib.hid (contains53_any names nv s _ (hn.up hb1 hb1.size))
 have c0 : w'.cell? ⟨b,0,none⟩ = some nv:=(hb'.cell (p:=⟨b,0,none⟩) hb).trans hc
 have hbz : b < w'.heap.size:=by omega
 obtain ⟨na,nc,rfl,_⟩:=hn
 clear hb1 hc
 have hD : z1n names k s of.length = (k != 3 || inN s names):=rfl
 have HB : Hid (∀ o,Below w'.heap.size w' (w'.alloc o)):=fun o => (Below.refl _ _).alloc (Nat.le_refl _) o
 rw [hD]
 clear hD hb'
 show Calls Tryz.prog 107 #[_,_] w' _
 cases q : k != 3 with
 | true =>
  go_enter Tryz.func107,Tryz.ntmps107
  go_wp2_with fail
  all_goals go_ret
  all_goals exact ⟨rfl,HB.out _⟩
 | false =>
  go_enter Tryz.func107,Tryz.ntmps107
  go_wp2_with fail
  refine HC.out.mono ?_
  rintro e w1 ⟨rfl,rfl⟩
  go_wp2_with fail
  all_goals go_ret
  all_goals exact ⟨rfl,HB.out _⟩
theorem declared51_any (names : List ByteArray) (nv : Value) (b : Nat) (n : Nat) (t : FT n) (v : Value) (w : World) (hb : b < w.heap.size) (hc : w.cell? ⟨b,0,none⟩ = some nv) (hn : NRep w w.heap.size nv names) (hr : FRep w w.heap.size n t v) :
 Calls Tryz.prog 104 #[v,.pointer (some ⟨b,0,none⟩)] w fun e w' => e = .returned (.bool (allF (z1n names) n t)) ∧ Below w.heap.size w w':=by
 obtain ⟨k,s,a,l,c,rfl⟩:=hr.shape
 have hmf : ∀ (fn : Fn) (first cap : Array Value) (w : World),(Instr.makeFunc fn first cap).run Tryz.prog w = .ok (.func fn first cap) w:=fun _ _ _ _ => rfl
 have hbw : Below w.heap.size w (w.alloc (.cells #[.int .u8 k,.string s,.slice a l c] 61)):=(Below.refl _ _).alloc (Nat.le_refl _) _
 have HA:=Lib.hid (all42_any (z1n names) 107 #[.pointer (some ⟨b,0,none⟩)] n t _ _ (hr.up hbw hbw.size) ((so52 names nv b w hb hc hn).up hbw))
 have HB:=Lib.hid hbw
 clear hbw hn hr hc
 go_enter Tryz.func104,Tryz.ntmps104
 go_wp2_with fail
 refine HA.out.mono ?_
 rintro e w1 ⟨rfl,hb1⟩
 have HB1:=Lib.hid (HB.out.trans (hb1.mono HB.out.size))
 clear hb1
 go_wp2_with fail
 all_goals go_ret
 all_goals exact ⟨rfl,HB1.out⟩
theorem declared31_any (a : Option Addr) (l c : Nat) (w : World) :
 Calls Tryz.prog 50 #[.slice a l c] w fun e w' => e = .returned (.func (.func 104) #[] #[.pointer (some ⟨w.heap.size,0,none⟩)]) ∧ w' = w.alloc (.cells #[.slice a l c] 22):=by
 have hmf : ∀ (fn : Fn) (first cap : Array Value) (w : World),(Instr.makeFunc fn first cap).run Tryz.prog w = .ok (.func fn first cap) w:=fun _ _ _ _ => rfl
 go_enter Tryz.func50,Tryz.ntmps50
 go_wp2_with fail
 all_goals go_ret
 all_goals exact ⟨rfl,rfl⟩
end Go.Proofs.YtpgdplmndnopbaaGreatDoor
namespace Go.Proofs.YtpgdplmndnopbaaGreatDoor
open Go.RowKit Go.Shelf
theorem digVal_snoc (l : List UInt8) (c : UInt8) : ∀ a,z1l a (l ++ [c]) = 10 * z1l a l + (c.toNat - 48):=by
 induction l with
 | nil => intro a; rfl
 | cons b r ih => intro a; rw [List.cons_append,z17,z17,ih]
theorem digVal_lt (l : List UInt8) (h : l.all z2d = true) : ∀ a,z1l a l < (a + 1) * 10 ^ l.length:=by
 induction l with
 | nil => intro a; simp [z1l]
 | cons b r ih =>
  intro a
  simp only [List.all_cons,Bool.and_eq_true] at h
  have h1:=h.1
  simp only [z2d,Bool.and_eq_true,decide_eq_true_eq] at h1
  have:=ih h.2 (10 * a + (b.toNat - 48))
  rw [z17,List.length_cons,Nat.pow_succ]
  refine Nat.lt_of_lt_of_le this ?_
  calc (10 * a + (b.toNat - 48) + 1) * 10 ^ r.length ≤ ((a + 1) * 10) * 10 ^ r.length:=Nat.mul_le_mul_right _ (by omega)
   _ = (a + 1) * (10 ^ r.length * 10):=by rw [Nat.mul_assoc,Nat.mul_comm 10]
theorem digVal_take_lt (l : List UInt8) (k : Nat) (hk : k ≤ 17) (h : (l.take k).all z2d = true) : z1l 0 (l.take k) < 100000000000000000:=by
 have:=digVal_lt _ h 0
 have h2 : (l.take k).length ≤ 17:=by rw [List.length_take]; omega
 have h3 : 10 ^ (l.take k).length ≤ 10 ^ 17:=Nat.pow_le_pow_right (by decide) h2
 omega
def numB (l : List UInt8) : Bool:=decide (1 ≤ l.length) && z3e l
end Go.Proofs.YtpgdplmndnopbaaGreatDoor
namespace Go.Proofs.YtpgdplmndnopbaaGreatDoor
open Go.RowKit Go.Shelf
def kindB (l : List UInt8) : Int:=if z41 l then 1 else if numB l then 2 else if z4s l then 3 else 0
def z3q (l : List UInt8) : Nat:=if rowN l = 0 ∧ 2 ≤ l.length ∧ z4s (l.take 2) = true then 2 else max 1 (rowN l)
end Go.Proofs.YtpgdplmndnopbaaGreatDoor
namespace Go.Proofs.YtpgdplmndnopbaaGreatDoor
open Go.RowKit Go.Shelf
theorem sign_row_fin : ∀ i : Fin 256,(z19 (UInt8.ofNat i.val) = true → z0h (UInt8.ofNat i.val) = false) ∧ z4s [UInt8.ofNat i.val] = z19 (UInt8.ofNat i.val) ∧ (twin (UInt8.ofNat i.val) = (UInt8.ofNat i.val == 124 || UInt8.ofNat i.val == 38)) ∧ (twin (UInt8.ofNat i.val) = true → z19 (UInt8.ofNat i.val) = true) ∧ (z19 (UInt8.ofNat i.val) = true → z13 (UInt8.ofNat i.val) = false) ∧ (z0h (UInt8.ofNat i.val) = true → z13 (UInt8.ofNat i.val) = false):=by decide +kernel
theorem sign_row (b : UInt8) : (z19 b = true → z0h b = false) ∧ z4s [b] = z19 b ∧ (twin b = (b == 124 || b == 38)) ∧ (twin b = true → z19 b = true) ∧ (z19 b = true → z13 b = false) ∧ (z0h b = true → z13 b = false):=by
 have:=sign_row_fin ⟨b.toNat,b.toNat_lt⟩
 simpa using this
theorem z6d (b c : UInt8) : z4s [b,c] = (twin b && c == b):=by
 rw [(sign_row b).2.2.1,Bool.eq_iff_iff]
 simp [z4s]
 constructor
 ·rintro (⟨rfl,rfl⟩ | ⟨rfl,rfl⟩) <;> simp
 ·rintro ⟨rfl | rfl,rfl⟩ <;> simp
theorem signB_long (b c d : UInt8) (r : List UInt8) : z4s (b :: c :: d :: r) = false:=by simp [z4s]
theorem signB_cons (b : UInt8) (r : List UInt8) : z4s (b :: r) = (z19 b && (r == [] || (twin b && r == [b]))):=by
 cases r with
 | nil => rw [(sign_row b).2.1]; simp
 | cons c r => cases r with
  | nil =>
   rw [z6d]
   cases ht : twin b with
   | false => simp
   | true => rw [(sign_row b).2.2.2.1 ht]; simp
  | cons d r =>
   rw [signB_long]
   simp
theorem kindB_eq (l : List UInt8) : kindB l = z0u l:=by
 cases l with
 | nil => rfl
 | cons b r =>
  simp only [kindB,z0u]
  by_cases hb : z0h b = true
  ·have hs : z4s (b :: r) = false:=by
    rw [signB_cons]
    cases h : z19 b with
    | false => rfl
    | true => rw [(sign_row b).1 h] at hb; cases hb
   rw [hs,if_pos hb]
   by_cases hl : z3g b = true
   ·have hn : numB (b :: r) = false:=by
     have : z2d b = false:=by
      simp only [z3g,z2d,Bool.and_eq_true,decide_eq_true_eq] at hl ⊢
      rw [Bool.and_eq_false_iff]
      right; simp; omega
     simp [numB,z3e,this]
    have hw : z41 (b :: r) = (decide (r.length + 1 ≤ 8) && r.all z0h):=by simp [z41,hl]
    rw [hw,hn]
    simp only [z0y,hl,if_true]
    by_cases h8 : r.length + 1 ≤ 8
    ·simp [h8]
    ·simp [h8]
   ·have hl' : z3g b = false:=by simpa using hl
    have hw : z41 (b :: r) = false:=by simp [z41,hl']
    rw [hw]
    simp only [z0y,hl',Bool.false_eq_true,if_false]
    have hnB : numB (b :: r) = z3e (b :: r):=by simp [numB]
    rw [hnB]
    cases hn : z3e (b :: r) with
    | false => simp
    | true =>
     have hall : r.all z0h = true:=by
      simp only [z3e,Bool.and_eq_true,List.all_cons] at hn
      have h1:=hn.1.1.1.2
      rw [List.all_eq_true] at h1 ⊢
      intro x hx
      simp [z0h,h1 x hx]
     simp [hall]
  ·have hb' : z0h b = false:=by simpa using hb
   have hl' : z3g b = false:=by simp only [z0h,Bool.or_eq_false_iff] at hb'; exact hb'.1
   have hd' : z2d b = false:=by simp only [z0h,Bool.or_eq_false_iff] at hb'; exact hb'.2
   have hw : z41 (b :: r) = false:=by simp [z41,hl']
   have hn : numB (b :: r) = false:=by simp [numB,z3e,hd']
   rw [hw,hn,signB_cons,hb']
   rfl
end Go.Proofs.YtpgdplmndnopbaaGreatDoor
namespace Go.Proofs.YtpgdplmndnopbaaGreatDoor
open Go.RowKit Go.Shelf
attribute [local go_sem ↓] Go.wp_at_zero Go.wp_at_succ
theorem bsOf_size (a : List UInt8) : (bsOf a).size = a.length:=by rw [← z1j,z3n]
end Go.Proofs.YtpgdplmndnopbaaGreatDoor
namespace Go.Proofs.YtpgdplmndnopbaaGreatDoor
open Go.RowKit Go.Shelf
attribute [local go_sem ↓] Go.wp_at_zero Go.wp_at_succ
theorem rowKind_err {b : UInt8} {r : List UInt8} {e : Int} (hb : z0h b = true) (h : z0y (b :: r) = .error e) : e = if z3g b then 152 else if z2d b then 151 else 150:=by
 simp only [z0y] at h
 cases hl : z3g b with
 | true =>
  simp only [hl,if_true] at h ⊢
  split at h <;> simp at h
  exact h.symm
 | false =>
  have hd : z2d b = true:=by simp only [z0h,hl,Bool.false_or] at hb; exact hb
  simp only [hl,Bool.false_eq_true,if_false,hd,if_true] at h ⊢
  split at h <;> simp at h
  exact h.symm
theorem cut_book (b : UInt8) (r : List UInt8) (hbl : z13 b = false) :
 1 ≤ z3q (b :: r) ∧ z3q (b :: r) ≤ (b :: r).length ∧
 ((z0u ((b :: r).take (z3q (b :: r))) = 0 ∧ ∀ a,cut a (b :: r) = .bad a (if z3g b then 152 else if z2d b then 151 else 150)) ∨
  (z0u ((b :: r).take (z3q (b :: r))) ≠ 0 ∧ ∀ a,cut a (b :: r) = Res.cons ⟨z0u ((b :: r).take (z3q (b :: r))),bsOf ((b :: r).take (z3q (b :: r))),a⟩ (cut (a + z3q (b :: r)) ((b :: r).drop (z3q (b :: r)))))):=by
 by_cases hb : z0h b = true
 ·have h1 : rowN (b :: r) = (z1f r).length + 1:=by rw [rowN,z2g b r hb]; rfl
  have hn : z3q (b :: r) = rowN (b :: r):=by
   rw [z3q,if_neg (fun h => by rw [h1] at h; omega)]; omega
  have ht : (b :: r).take (rowN (b :: r)) = z1f (b :: r):=by
   have : ∀ A B L : List UInt8,L = A ++ B → L.take A.length = A:=by rintro A B L rfl; simp
   exact this _ _ _ (rowOf_drop _)
  have hl : rowN (b :: r) ≤ (b :: r).length:=rowOf_len _
  rw [hn,ht]
  refine ⟨by omega,hl,?_⟩
  cases hk : z0y (z1f (b :: r)) with
  | error e =>
   left
   have h0 : z0u (z1f (b :: r)) = 0:=by
    have hall : (z1f r).all z0h = true:=List.all_takeWhile
    rw [z2g b r hb] at hk ⊢
    simp [z0u,hb,hall,hk]
   refine ⟨h0,fun a => ?_⟩
   rw [cut_row a b r hb,hk]
   rw [z2g b r hb] at hk
   rw [rowKind_err hb hk]
  | ok k =>
   right
   have h0:=kindOf_row hb hk
   rw [h0]
   refine ⟨by rcases z4t hk with h | h <;> simp [h],fun a => ?_⟩
   rw [cut_row a b r hb,hk]
   rfl
 ·have hb' : z0h b = false:=by simpa using hb
  have h1 : rowN (b :: r) = 0:=by simp [rowN,z1f,hb']
  by_cases h2 : 2 ≤ (b :: r).length ∧ z4s ((b :: r).take 2) = true
  ·have hn : z3q (b :: r) = 2:=by rw [z3q,if_pos ⟨h1,h2⟩]
   cases r with
   | nil => simp at h2
   | cons c r =>
    have h3:=h2.2
    rw [List.take_succ_cons,List.take_succ_cons,List.take_zero,z6d] at h3
    simp only [Bool.and_eq_true,beq_iff_eq] at h3
    obtain ⟨ht,rfl⟩:=h3
    have hk : z0u [c,c] = 3:=by
     simp [z0u,hb',ht,(sign_row c).2.2.2.1 ht]
    rw [hn]
    refine ⟨by omega,by simp,.inr ⟨by simp [hk],fun a => ?_⟩⟩
    rw [z6p a c r ht]
    simp [hk]
  ·have hn : z3q (b :: r) = 1:=by
    rw [z3q,if_neg (fun h => h2 h.2),h1]; rfl
   rw [hn]
   have hl : z3g b = false:=by simp only [z0h,Bool.or_eq_false_iff] at hb'; exact hb'.1
   have hd : z2d b = false:=by simp only [z0h,Bool.or_eq_false_iff] at hb'; exact hb'.2
   refine ⟨by omega,by simp,?_⟩
   cases hs : z19 b with
   | true =>
    right
    have hk : z0u [b] = 3:=by simp [z0u,hb',hs]
    refine ⟨by simp [hk],fun a => ?_⟩
    rw [z54 a b r hb' hbl hs ?_]
    ·simp [hk]
    ·cases r with
     | nil => simp
     | cons c r =>
      rw [Bool.eq_false_iff]
      intro h3
      simp only [List.head?_cons,Bool.and_eq_true,beq_iff_eq,Option.some.injEq] at h3
      refine h2 ⟨by simp,?_⟩
      rw [List.take_succ_cons,List.take_succ_cons,List.take_zero,z6d,h3.1,h3.2]
      simp
   | false =>
    left
    refine ⟨by simp [z0u,hb',hs],fun a => ?_⟩
    rw [z5g a b r hb' hbl hs,hl,hd]
    rfl
def cutR (s : ByteArray) : List Tok × Int × Int :=
 if 4096 < s.size then ([],0,3) else match cut 0 s.data.toList with
  | .ok l => (l,0,0)
  | .bad a e => ([],a,e)
end Go.Proofs.YtpgdplmndnopbaaGreatDoor
namespace Go.Proofs.YtpgdplmndnopbaaGreatDoor
open Go.RowKit
def Bt (pb : Nat) (w w' : World) : Prop:=w'.os = w.os ∧ w'.tape = w.tape ∧ w'.output = w.output ∧ w.heap.size ≤ w'.heap.size ∧ ∀ k,k < w.heap.size → k ≠ pb → w'.heap[k]? = w.heap[k]?
theorem Bt.refl (pb : Nat) (w : World) : Bt pb w w:=⟨rfl,rfl,rfl,Nat.le_refl _,fun _ _ _ => rfl⟩
theorem Bt.trans {pb : Nat} {w w' w'' : World} (h : Bt pb w w') (k : Bt pb w' w'') : Bt pb w w'' :=
 ⟨k.1.trans h.1,k.2.1.trans h.2.1,k.2.2.1.trans h.2.2.1,Nat.le_trans h.2.2.2.1 k.2.2.2.1,fun i hi hp => (k.2.2.2.2 i (Nat.lt_of_lt_of_le hi h.2.2.2.1) hp).trans (h.2.2.2.2 i hi hp)⟩
theorem Bt.of_below {pb : Nat} {w w' : World} (h : Below w.heap.size w w') : Bt pb w w':=⟨h.os,h.tape,h.output,h.size,fun k hk _ => h.block k hk⟩
theorem Bt.alloc {pb : Nat} {w w' : World} (h : Bt pb w w') (o : Obj) : Bt pb w (w'.alloc o):=h.trans (.of_below ((Below.refl _ _).alloc (Nat.le_refl _) _))
theorem Bt.drew {pb : Nat} {w w' : World} (h : Bt pb w w') : Bt pb w w'.drew:=h
theorem Bt.at {pb : Nat} {w w' : World} (h : Bt pb w w') {k : Nat} {o : Obj} (hk : w.heap[k]? = some o) (hp : k ≠ pb) : w'.heap[k]? = some o :=
 (h.2.2.2.2 k (Array.getElem?_eq_some_iff.1 hk).1 hp).trans hk
def Ends (l : List Tok) : Prop:=∃ (l0 : List Tok) (stop : Int),l = l0 ++ [⟨0,⟨#[]⟩,stop⟩]
theorem Ends.cons {l : List Tok} (h : Ends l) : ∃ t r,l = t :: r:=by
 obtain ⟨l0,stop,rfl⟩:=h
 cases l0 with
 | nil => exact ⟨_,_,rfl⟩
 | cons t r => exact ⟨t,_,rfl⟩
theorem Ends.tail {t : Tok} {r : List Tok} (h : Ends (t :: r)) (hk : t.kind ≠ 0 ∨ t.text.data.toList ≠ []) : Ends r:=by
 obtain ⟨l0,stop,e⟩:=h
 cases l0 with
 | nil =>
  injection e with e1 _
  subst e1
  rcases hk with h | h <;> exact absurd rfl h
 | cons t' r' =>
  injection e with _ e2
  exact ⟨r',stop,e2⟩
def TokG (t : Tok) : Prop:=t.text.size ≤ 1048576 ∧ (t.kind = 2 → t.text.data.toList ≠ [] ∧ t.text.data.toList.length ≤ 18 ∧ ∀ c ∈ t.text.data.toList,48 ≤ c ∧ c ≤ 57)
structure Ps (pb tb : Nat) (w : World) (l : List Tok) (deep : Nat) : Prop where
 blk : ∃ off cap,w.heap[pb]? = some (.cells #[.slice (some ⟨tb,off,none⟩) l.length cap,.int .i64 deep] 81 (0,0)) ∧ l.length ≤ cap ∧ cap ≤ 9223372036854775807 ∧ tb ≠ pb ∧ tb < w.heap.size ∧ TokC w tb off l
 ends : Ends l
 toks : ∀ t ∈ l,TokG t
theorem Ps.lt {pb tb deep : Nat} {w : World} {l : List Tok} (h : Ps pb tb w l deep) : pb < w.heap.size:=by
 obtain ⟨off,cap,hb,_⟩:=h.blk
 exact (Array.getElem?_eq_some_iff.1 hb).1
theorem TokC.agree {w w' : World} {b off : Nat} {l : List Tok} (h : TokC w b off l) (he : w'.heap[b]? = w.heap[b]?) : TokC w' b off l:=by
 intro i hi
 have:=h i hi
 unfold World.cell? at this ⊢
 simp only at this ⊢
 rw [he]; exact this
theorem Ps.below {pb tb deep : Nat} {w w' : World} {l : List Tok} (h : Ps pb tb w l deep) (hb : Below w.heap.size w w') : Ps pb tb w' l deep:=by
 obtain ⟨off,cap,h1,h2,h3,h4,h5,h6⟩:=h.blk
 exact ⟨⟨off,cap,(hb.block _ h.lt).trans h1,h2,h3,h4,Nat.lt_of_lt_of_le h5 hb.size,h6.agree (hb.block _ h5)⟩,h.ends,h.toks⟩
def thr (c at_ : Int) : List PanicEntry:=[{ v:=.iface 77 (.agg #[.int .i64 c,.int .i64 at_]),recovered:=false }]
theorem z06 {w : World} {o : Obj} {k : Nat} (h : k = w.heap.size) : (w.alloc o).heap[k]? = some o:=by subst h; exact Array.getElem?_push_size
theorem z0d {w : World} {o x : Obj} {k : Nat} (h : w.heap[k]? = some x) : (w.alloc o).heap[k]? = some x :=
 (Lib.alloc_old w o k (Array.getElem?_eq_some_iff.1 h).1).trans h
theorem Ps.drew {pb tb deep : Nat} {w : World} {l : List Tok} (h : Ps pb tb w l deep) : Ps pb tb w.drew l deep:=⟨h.blk,h.ends,h.toks⟩
theorem Ps.alloc {pb tb deep : Nat} {w : World} {l : List Tok} (h : Ps pb tb w l deep) (o : Obj) : Ps pb tb (w.alloc o) l deep:=h.below ((Below.refl _ _).alloc (Nat.le_refl _) o)
theorem Ps.at {pb tb deep : Nat} {w : World} {k : Int} {s : ByteArray} {pl : Int} {r : List Tok} (h : Ps pb tb w (⟨k,s,pl⟩ :: r) deep) :
 ∃ off cap,w.cell? ⟨pb,0,none⟩ = some (.slice (some ⟨tb,off,none⟩) (r.length + 1) cap) ∧ w.cell? ⟨pb,1,none⟩ = some (.int .i64 deep) ∧ w.frozen? ⟨pb,0,none⟩ = false ∧ w.frozen? ⟨pb,1,none⟩ = false ∧
  w.cell? ⟨tb,off,none⟩ = some (.int .u8 k) ∧ w.cell? ⟨tb,off + 1,none⟩ = some (.string s) ∧ w.cell? ⟨tb,off + 2,none⟩ = some (.int .i64 pl) ∧ pb < w.heap.size ∧ tb < w.heap.size ∧ tb ≠ pb ∧ r.length + 1 ≤ cap ∧ cap ≤ 9223372036854775807 ∧
  w.heap[pb]? = some (.cells #[.slice (some ⟨tb,off,none⟩) (r.length + 1) cap,.int .i64 deep] 81 (0,0)) ∧ TokC w tb off (⟨k,s,pl⟩ :: r):=by
 obtain ⟨off,cap,hb,hcl,hcm,hne,hlt,hT⟩:=h.blk
 obtain ⟨k0,k1,k2⟩:=hT 0 (by simp)
 simp only [Nat.zero_mul,Nat.add_zero,List.getElem_cons_zero] at k0 k1 k2
 exact ⟨off,cap,by rw [Lib.cell_of_heap hb]; rfl,by rw [Lib.cell_of_heap hb]; rfl,Lib.frozen_of_heap hb 0,Lib.frozen_of_heap hb 1,k0,k1,k2,h.lt,hlt,hne,by simpa using hcl,hcm,hb,hT⟩
theorem fld51 (x y z : Value) (w : World) : (Instr.field 51 (.agg #[x,y,z]) 0).run Tryz.prog w = .ok x w ∧ (Instr.field 51 (.agg #[x,y,z]) 1).run Tryz.prog w = .ok y w ∧ (Instr.field 51 (.agg #[x,y,z]) 2).run Tryz.prog w = .ok z w:=by
 refine ⟨?_,?_,?_⟩ <;> simp [Instr.field,run_underlying Tryz.underlying51,Sem.run_bind,Result.andThen,go_sem] <;> rfl
theorem slice47 (tb off n cap : Nat) (h1 : 1 ≤ n) (hc : 2 ≤ cap) (w : World) : (Instr.slice 47 (.slice (some ⟨tb,off,none⟩) n cap) (some (.int .i64 1)) none none).run Tryz.prog w = .ok (.slice (some ⟨tb,off + 3,none⟩) (n - 1) (cap - 1)) w:=by
 rw [run_slice_l (P:=Tryz.prog) (t:=47) (a:=some ⟨tb,off,none⟩) (len:=n) (cap:=cap) (ht:=by kernel_rfl) (kl:=.i64) (l:=1) (h0:=by decide) (h1:=by omega)]
 have hs : (sizeOf (Tryz.prog.elem 47)).run Tryz.prog w = .ok 3 w:=Tryz.sizeOf51 w
 rw [hs]
 simp only [Result.andThen,sliced]
 rw [if_neg (by simp; omega)]
 rfl
theorem z3h (pb tb deep : Nat) (k : Int) (s : ByteArray) (pl : Int) (r : List Tok) (w : World) (h : Ps pb tb w (⟨k,s,pl⟩ :: r) deep) :
 Calls Tryz.prog 94 #[.pointer (some ⟨pb,0,none⟩)] w fun e w' => e = .returned (.agg #[.int .u8 k,.string s,.int .i64 pl]) ∧ Below w.heap.size w w':=by
 obtain ⟨off,cap,c0,_,_,_,k0,k1,k2,hpl,hlt,_,_,_,_⟩:=h.at
 have h0 : (0 : Int) < ((r.length + 1 : Nat) : Int):=by omega
 have HB2 : Hid (∀ o,Below w.heap.size w (w.alloc o)):=fun o => (Below.refl _ w).alloc (Nat.le_refl _) o
 clear h
 go_enter Tryz.func94,Tryz.ntmps94
 go_wp2_with fail
 refine bodyPost_ret (results_cell_row rfl _ _ _ _ _ _ _ rfl (z06 rfl) Tryz.underlying51 rfl (by kernel_rfl)) rfl ?_
 exact ⟨rfl,HB2.out _⟩
theorem z3j (pb tb deep : Nat) (c : Int) (k : Int) (s : ByteArray) (pl : Int) (r : List Tok) (w : World) (h : Ps pb tb w (⟨k,s,pl⟩ :: r) deep) :
 Calls Tryz.prog 45 #[.pointer (some ⟨pb,0,none⟩),.int .i64 c] w fun e w' => e = .panicked (thr c pl) ∧ Below w.heap.size w w':=by
 have HN:=Lib.hid (z3h pb tb deep k s pl r w h)
 have hfd:=fun W => (fld51 (.int .u8 k) (.string s) (.int .i64 pl) W).2.2
 clear h
 go_enter Tryz.func45,Tryz.ntmps45
 go_wp2_with fail
 refine HN.out.mono ?_
 rintro e w1 ⟨rfl,hb⟩
 have HB:=Lib.hid hb
 clear hb
 go_wp2_with fail
 exact ⟨rfl,rfl,HB.out⟩
theorem z3k (pb tb deep : Nat) (k : Int) (s : ByteArray) (pl : Int) (r : List Tok) (w : World) (h : Ps pb tb w (⟨k,s,pl⟩ :: r) deep) (hr : Ends r) :
 Calls Tryz.prog 167 #[.pointer (some ⟨pb,0,none⟩)] w fun e w' => e = .returned (.agg #[.int .u8 k,.string s,.int .i64 pl]) ∧ Ps pb tb w' r deep ∧ Bt pb w w':=by
 obtain ⟨off,cap,c0,_,f0,_,k0,k1,k2,hpl,hlt,hne,hcl,hcm,hb,hT⟩:=h.at
 have h0 : (0 : Int) < ((r.length + 1 : Nat) : Int):=by omega
 have h1 : (1 : Int) ≤ ((r.length + 1 : Nat) : Int):=by omega
 have h2 : ((r.length + 1 : Nat) : Int) ≤ (cap : Int):=by omega
 have HX : Hid (Ps pb tb (((w.setCell ⟨pb,0,none⟩ (.slice (some ⟨tb,off + 3,none⟩) r.length (cap - 1))).alloc (.cells #[.int .u8 k,.string s,.int .i64 pl] 51)).drew) r deep ∧ Bt pb w (((w.setCell ⟨pb,0,none⟩ (.slice (some ⟨tb,off + 3,none⟩) r.length (cap - 1))).alloc (.cells #[.int .u8 k,.string s,.int .i64 pl] 51)).drew)):=by
  have hE : ∀ j,j ≠ pb → (w.setCell ⟨pb,0,none⟩ (.slice (some ⟨tb,off + 3,none⟩) r.length (cap - 1))).heap[j]? = w.heap[j]? :=
   fun j hj => Below.heap_setCell _ _ _ _ (fun e => hj e)
  have hsz : (w.setCell ⟨pb,0,none⟩ (.slice (some ⟨tb,off + 3,none⟩) r.length (cap - 1))).heap.size = w.heap.size:=by simp [World.setCell]
  have hP : Ps pb tb (w.setCell ⟨pb,0,none⟩ (.slice (some ⟨tb,off + 3,none⟩) r.length (cap - 1))) r deep:=by
   refine ⟨⟨off + 3,cap - 1,?_,by omega,by omega,hne,by omega,?_⟩,hr,fun t ht => h.toks t (List.mem_cons_of_mem _ ht)⟩
   ·simp [World.setCell,Array.getElem?_modify,hb]
   ·intro i hi
    have:=hT (i + 1) (by simpa using hi)
    simp only [List.getElem_cons_succ] at this
    have e : off + (i + 1) * 3 = off + 3 + i * 3:=by omega
    rw [e] at this
    have hh:=hE tb hne
    unfold World.cell? at this ⊢
    simp only at this ⊢
    rw [hh]; exact this
  have hB : Bt pb w (w.setCell ⟨pb,0,none⟩ (.slice (some ⟨tb,off + 3,none⟩) r.length (cap - 1))):=⟨rfl,rfl,rfl,by omega,fun j hj hp => hE j hp⟩
  exact ⟨(hP.alloc _).drew,(hB.alloc _).drew⟩
 have HN : Hid ((((w.setCell ⟨pb,0,none⟩ (.slice (some ⟨tb,off + 3,none⟩) r.length (cap - 1))).alloc (.cells #[.int .u8 k,.string s,.int .i64 pl] 51)).drew).heap[w.heap.size]? = some (.cells #[.int .u8 k,.string s,.int .i64 pl] 51 (0,0))):=by
  show ((w.setCell ⟨pb,0,none⟩ (.slice (some ⟨tb,off + 3,none⟩) r.length (cap - 1))).alloc (.cells #[.int .u8 k,.string s,.int .i64 pl] 51)).heap[w.heap.size]? = _
  exact z06 (by simp [World.setCell])
 have hr1 : 1 ≤ r.length:=by obtain ⟨t',r',rfl⟩:=hr.cons; simp
 have hsl:=fun W => slice47 tb off (r.length + 1) cap (by omega) (by omega) W
 clear h hb hT hcl hcm hr1
 go_enter Tryz.func167,Tryz.ntmps167
 go_wp2_with fail
 go_region_law (fail)
 all_goals
  go_wp2_with fail
  refine bodyPost_ret (results_cell_row rfl _ _ _ _ _ _ _ rfl HN.out Tryz.underlying51 rfl (by kernel_rfl)) rfl ?_
  exact ⟨rfl,HX.out⟩
end Go.Proofs.YtpgdplmndnopbaaGreatDoor
namespace Go.Proofs.YtpgdplmndnopbaaGreatDoor
open Go.RowKit
def z01 (L : List Tok) (stop : Int) (nx : Nat) : List Tok:=L.drop nx ++ [⟨0,⟨#[]⟩,stop⟩]
structure RP (pb tb : Nat) (w : World) (L : List Tok) (stop : Int) (nx : Nat) (deep e bad : Int) : Prop where
 blk : ∃ a cap,w.heap[pb]? = some (.cells #[.slice a L.length cap,.int .i64 stop,.int .i64 nx,.int .i64 deep,.int .i64 e,.int .i64 bad] 87 (0,0)) ∧ (L = [] ∨ (a = some ⟨tb,0,none⟩ ∧ tb ≠ pb ∧ tb < w.heap.size ∧ TokC w tb 0 L))
 len : L.length ≤ 1000000
 le : nx ≤ L.length
 toks : ∀ t ∈ L,TokG t
theorem RP.lt {pb tb : Nat} {w : World} {L : List Tok} {stop : Int} {nx : Nat} {deep e bad : Int} (h : RP pb tb w L stop nx deep e bad) : pb < w.heap.size:=by
 obtain ⟨a,cap,hb,_⟩:=h.blk
 exact (Array.getElem?_eq_some_iff.1 hb).1
theorem RP.set {pb tb : Nat} {w w' : World} {L : List Tok} {stop : Int} {nx nx' : Nat} {deep e bad deep' e' bad' : Int} (h : RP pb tb w L stop nx deep e bad) (hb : Bt pb w w') (hn : nx' ≤ L.length)
 (hk : ∀ a cap,w.heap[pb]? = some (.cells #[.slice a L.length cap,.int .i64 stop,.int .i64 nx,.int .i64 deep,.int .i64 e,.int .i64 bad] 87 (0,0)) → w'.heap[pb]? = some (.cells #[.slice a L.length cap,.int .i64 stop,.int .i64 nx',.int .i64 deep',.int .i64 e',.int .i64 bad'] 87 (0,0))) : RP pb tb w' L stop nx' deep' e' bad':=by
 obtain ⟨a,cap,h1,h2⟩:=h.blk
 refine ⟨⟨a,cap,hk a cap h1,?_⟩,h.len,hn,h.toks⟩
 rcases h2 with h2 | ⟨h3,h4,h5,h6⟩
 ·exact .inl h2
 ·exact .inr ⟨h3,h4,Nat.lt_of_lt_of_le h5 hb.2.2.2.1,h6.agree (hb.2.2.2.2 _ h5 h4)⟩
theorem RP.bt {pb tb : Nat} {w w' : World} {L : List Tok} {stop : Int} {nx : Nat} {deep e bad : Int} (h : RP pb tb w L stop nx deep e bad) (hb : Below w.heap.size w w') : RP pb tb w' L stop nx deep e bad :=
 h.set (.of_below hb) h.le (fun a cap h1 => (hb.block _ h.lt).trans h1)
theorem RP.drew {pb tb : Nat} {w : World} {L : List Tok} {stop : Int} {nx : Nat} {deep e bad : Int} (h : RP pb tb w L stop nx deep e bad) : RP pb tb w.drew L stop nx deep e bad :=
 h.bt ((Below.refl _ _).drew)
theorem rest_place (L : List Tok) (stop : Int) (nx : Nat) (h : nx ≤ L.length) : z05 (z01 L stop nx) = if hl : nx < L.length then L[nx].place else stop:=by
 unfold z01
 split
 ·rename_i hl
  rw [List.drop_eq_getElem_cons hl]; rfl
 ·rename_i hl
  rw [List.drop_of_length_le (by omega)]; rfl
theorem rest_is (s : List UInt8) (hs : s ≠ []) (L : List Tok) (stop : Int) (nx : Nat) : isT s (z01 L stop nx) = if hl : nx < L.length then (L[nx].kind != 2 && L[nx].text.data.toList == s) else false:=by
 unfold z01
 split
 ·rename_i hl
  rw [List.drop_eq_getElem_cons hl]; rfl
 ·rename_i hl
  rw [List.drop_of_length_le (by omega)]
  have h0 : (([] : List UInt8) == s) = false:=by rw [beq_eq_false_iff_ne]; exact Ne.symm hs
  show (((0 : Int) != 2) && (([] : List UInt8) == s)) = false
  rw [h0,Bool.and_false]
theorem z2u {pb : Nat} {w w' : World} (h : Bt pb w w') (i : Nat) (v : Value) : Bt pb w (w'.setCell ⟨pb,i,none⟩ v) :=
 h.trans ⟨rfl,rfl,rfl,by simp [World.setCell],fun k _ hp => Below.heap_setCell _ _ _ _ (by simpa using hp)⟩
theorem z4n {pb : Nat} {w w' : World} (h : Bt pb w w') (n : Nat) : Bt pb w (w'.drewN n):=h.trans ⟨rfl,rfl,rfl,Nat.le_refl _,fun _ _ _ => rfl⟩
theorem z5a {w : World} {g : Nat} {o : Obj} (h : w.heap[g]? = some o) (n : Nat) : (w.drewN n).heap[g]? = some o:=h
theorem z5x {w : World} {g : Nat} {cs : Array Value} {t : TypeId} {fz : Nat × Nat} (h : w.heap[g]? = some (.cells cs t fz)) (j : Nat) (v : Value) : (w.setCell ⟨g,j,none⟩ v).heap[g]? = some (.cells (cs.setIfInBounds j v) t fz):=by
 simp [World.setCell,Array.getElem?_modify,h]
theorem z38 (pb tb : Nat) (L : List Tok) (stop : Int) (nx : Nat) (deep e bad c : Int) (he : e ≠ 0) (w : World) (h : RP pb tb w L stop nx deep e bad) :
 Calls Tryz.prog 49 #[.pointer (some ⟨pb,0,none⟩),.int .i64 c] w fun en w' => en = .returned (.tuple #[]) ∧ w' = w:=by
 obtain ⟨a,cap,hb,_⟩:=h.blk
 have x4:=Lib.cell_of_heap hb 4
 simp only [List.getElem?_toArray,List.getElem?_cons_zero,List.getElem?_cons_succ] at x4
 have q : (e != 0) = true:=by simpa using he
 clear hb h
 go_enter Tryz.func49,Tryz.ntmps49
 go_wp2_with fail
 all_goals first | go_end0 | refine bodyPost_ret (results_none rfl _ _ _) rfl ?_
 all_goals exact ⟨rfl,rfl⟩
theorem z2z (pb tb : Nat) (L : List Tok) (stop : Int) (nx : Nat) (deep bad c : Int) (w : World) (h : RP pb tb w L stop nx deep 0 bad) :
 Calls Tryz.prog 49 #[.pointer (some ⟨pb,0,none⟩),.int .i64 c] w fun en w' => en = .returned (.tuple #[]) ∧ RP pb tb w' L stop nx deep c (z05 (z01 L stop nx)) ∧ Bt pb w w':=by
 obtain ⟨a,cap,hb,hc⟩:=h.blk
 have HB:=Lib.hid hb
 have HPL:=Lib.hid (rest_place L stop nx h.le)
 have H:=Lib.hid h
 have hle:=h.le
 have hlen:=h.len
 have x0:=Lib.cell_of_heap hb 0
 have x1:=Lib.cell_of_heap hb 1
 have x2:=Lib.cell_of_heap hb 2
 have x4:=Lib.cell_of_heap hb 4
 have x5:=Lib.cell_of_heap hb 5
 have f4:=Lib.frozen_of_heap hb 4
 have f5:=Lib.frozen_of_heap hb 5
 simp only [List.getElem?_toArray,List.getElem?_cons_zero,List.getElem?_cons_succ] at x0 x1 x2 x4 x5
 by_cases hlt : nx < L.length
 ·rcases hc with hc | ⟨rfl,hne,htb,htc⟩
  ·rw [hc] at hlt; exact absurd hlt (by simp)
  ·have hltI : ((nx : Nat) : Int) < ((L.length : Nat) : Int):=by omega
   obtain ⟨_,_,t2⟩:=htc nx hlt
   rw [Nat.zero_add] at t2
   have HOUT : Hid (∀ (q : Nat) W,W = (((w.setCell ⟨pb,4,none⟩ (.int .i64 c)).setCell ⟨pb,5,none⟩ (.int .i64 stop)).drewN q).setCell ⟨pb,5,none⟩ (.int .i64 L[nx].place) → RP pb tb W L stop nx deep c (z05 (z01 L stop nx)) ∧ Bt pb w W):=by
    rintro q W rfl
    have hbt : Bt pb w ((((w.setCell ⟨pb,4,none⟩ (.int .i64 c)).setCell ⟨pb,5,none⟩ (.int .i64 stop)).drewN q).setCell ⟨pb,5,none⟩ (.int .i64 L[nx].place)):=z2u (z4n (z2u (z2u (Bt.refl _ _) _ _) _ _) q) _ _
    refine ⟨H.out.set hbt H.out.le (fun a cap h1 => ?_),hbt⟩
    rw [HPL.out,dif_pos hlt]
    exact z5x (z5a (z5x (z5x h1 4 _) 5 _) q) 5 _
   clear hb h htc
   go_enter Tryz.func49,Tryz.ntmps49
   go_wp2_with fail
   go_quiet (fail)
   go_wp2_with fail
   go_region
   all_goals go_end0
   all_goals exact ⟨rfl,HOUT.out _ _ rfl⟩
 ·have hltI : ¬ ((nx : Nat) : Int) < ((L.length : Nat) : Int):=by omega
  have HOUT : Hid (∀ (q : Nat) W,W = ((w.setCell ⟨pb,4,none⟩ (.int .i64 c)).setCell ⟨pb,5,none⟩ (.int .i64 stop)).drewN q → RP pb tb W L stop nx deep c (z05 (z01 L stop nx)) ∧ Bt pb w W):=by
   rintro q W rfl
   have hbt : Bt pb w (((w.setCell ⟨pb,4,none⟩ (.int .i64 c)).setCell ⟨pb,5,none⟩ (.int .i64 stop)).drewN q):=z4n (z2u (z2u (Bt.refl _ _) _ _) _ _) q
   refine ⟨H.out.set hbt H.out.le (fun a cap h1 => ?_),hbt⟩
   rw [HPL.out,dif_neg hlt]
   exact z5a (z5x (z5x h1 4 _) 5 _) q
  clear hb h hc
  go_enter Tryz.func49,Tryz.ntmps49
  go_wp2_with fail
  go_quiet (fail)
  go_wp2_with fail
  all_goals go_end0
  all_goals exact ⟨rfl,HOUT.out _ _ rfl⟩
end Go.Proofs.YtpgdplmndnopbaaGreatDoor
namespace Go.Proofs.YtpgdplmndnopbaaGreatDoor
open Go.RowKit
def Same (pb tb : Nat) (w w' : World) (L : List Tok) (stop : Int) (nx : Nat) (deep e bad : Int) : Prop:=RP pb tb w' L stop nx deep e bad ∧ Bt pb w w'
theorem Same.drewN {pb tb : Nat} {w : World} {L : List Tok} {stop : Int} {nx : Nat} {deep e bad : Int} (h : RP pb tb w L stop nx deep e bad) (q : Nat) : Same pb tb w (w.drewN q) L stop nx deep e bad :=
 ⟨h.set (z4n (Bt.refl _ _) q) h.le (fun _ _ h1 => z5a h1 q),z4n (Bt.refl _ _) q⟩
theorem z4y (pb tb : Nat) (L : List Tok) (stop : Int) (nx : Nat) (deep e bad : Int) (s : ByteArray) (he : e ≠ 0) (w : World) (h : RP pb tb w L stop nx deep e bad) :
 Calls Tryz.prog 147 #[.pointer (some ⟨pb,0,none⟩),.string s] w fun en w' => en = .returned (.bool false) ∧ Same pb tb w w' L stop nx deep e bad:=by
 obtain ⟨a,cap,hb,_⟩:=h.blk
 have H:=Lib.hid (fun q => Same.drewN h q)
 have x4:=Lib.cell_of_heap hb 4
 simp only [List.getElem?_toArray,List.getElem?_cons_zero,List.getElem?_cons_succ] at x4
 have q : (e == 0) = false:=by simpa using he
 clear hb h
 go_enter Tryz.func147,Tryz.ntmps147
 go_wp2_with fail
 go_quiet (fail)
 go_wp2_with fail
 all_goals go_ret
 all_goals exact ⟨rfl,H.out _⟩
theorem z1t (pb tb : Nat) (L : List Tok) (stop : Int) (nx : Nat) (deep bad : Int) (s : ByteArray) (hs : s.data.toList ≠ []) (w : World) (h : RP pb tb w L stop nx deep 0 bad) :
 Calls Tryz.prog 147 #[.pointer (some ⟨pb,0,none⟩),.string s] w fun en w' => en = .returned (.bool (isT s.data.toList (z01 L stop nx))) ∧ Same pb tb w w' L stop nx deep 0 bad:=by
 obtain ⟨a,cap,hb,hc⟩:=h.blk
 have H:=Lib.hid (fun q => Same.drewN h q)
 have HIS:=Lib.hid (rest_is s.data.toList hs L stop nx)
 have hle:=h.le
 have hlen:=h.len
 have x0:=Lib.cell_of_heap hb 0
 have x2:=Lib.cell_of_heap hb 2
 have x4:=Lib.cell_of_heap hb 4
 simp only [List.getElem?_toArray,List.getElem?_cons_zero,List.getElem?_cons_succ] at x0 x2 x4
 by_cases hlt : nx < L.length
 ·rcases hc with hc | ⟨rfl,hne,htb,htc⟩
  ·rw [hc] at hlt; exact absurd hlt (by simp)
  ·have hltI : ((nx : Nat) : Int) < ((L.length : Nat) : Int):=by omega
   obtain ⟨t0,t1,_⟩:=htc nx hlt
   rw [Nat.zero_add] at t0 t1
   have HI : Hid (isT s.data.toList (z01 L stop nx) = (L[nx].kind != 2 && L[nx].text.toList == s.toList)):=by
    rw [Hid,HIS.out,dif_pos hlt,ByteArray.toList_eq,ByteArray.toList_eq]
   clear hb h htc hs
   cases qk : (L[nx].kind != 2) with
   | false =>
    have qk' : (L[nx].kind == 2) = true:=by simpa [bne] using qk
    have HI2 : Hid (isT s.data.toList (z01 L stop nx) = false):=by rw [Hid,HI.out,qk]; rfl
    go_enter Tryz.func147,Tryz.ntmps147
    go_wp2_with fail
    go_quiet (fail)
    go_wp2_with fail
    all_goals go_ret
    all_goals exact ⟨z00 (by rw [HI2.out]),H.out _⟩
   | true =>
    have qk' : (L[nx].kind == 2) = false:=by simpa [bne] using qk
    have HI2 : Hid (isT s.data.toList (z01 L stop nx) = (L[nx].text.toList == s.toList)):=by rw [Hid,HI.out,qk]; rfl
    cases qt : (L[nx].text.toList == s.toList) with
    | false =>
     rw [qt] at HI2
     go_enter Tryz.func147,Tryz.ntmps147
     go_wp2_with fail
     go_quiet (fail)
     go_wp2_with fail
     all_goals go_ret
     all_goals exact ⟨z00 (by rw [HI2.out]),H.out _⟩
    | true =>
     rw [qt] at HI2
     go_enter Tryz.func147,Tryz.ntmps147
     go_wp2_with fail
     go_quiet (fail)
     go_wp2_with fail
     all_goals go_ret
     all_goals exact ⟨z00 (by rw [HI2.out]),H.out _⟩
 ·have hltI : ¬ ((nx : Nat) : Int) < ((L.length : Nat) : Int):=by omega
  have HI2 : Hid (isT s.data.toList (z01 L stop nx) = false):=by rw [Hid,HIS.out,dif_neg hlt]
  clear hb h hc hs
  go_enter Tryz.func147,Tryz.ntmps147
  go_wp2_with fail
  go_quiet (fail)
  go_wp2_with fail
  all_goals go_ret
  all_goals exact ⟨z00 (by rw [HI2.out]),H.out _⟩
end Go.Proofs.YtpgdplmndnopbaaGreatDoor
namespace Go.Proofs.YtpgdplmndnopbaaGreatDoor
open Go.RowKit
theorem z0z {s : List UInt8} (hs : s ≠ []) {L : List Tok} {stop : Int} {nx : Nat} (h : isT s (z01 L stop nx) = true) : nx < L.length:=by
 rw [rest_is s hs] at h
 by_cases hl : nx < L.length
 ·exact hl
 ·rw [dif_neg hl] at h; cases h
theorem z0p {L : List Tok} {stop : Int} {nx : Nat} (h : nx < L.length) : (z01 L stop nx).tail = z01 L stop (nx + 1):=by
 unfold z01
 rw [List.drop_eq_getElem_cons h]; rfl
theorem z08 (pb tb : Nat) (L : List Tok) (stop : Int) (nx : Nat) (deep e bad : Int) (s : ByteArray) (he : e ≠ 0) (w : World) (h : RP pb tb w L stop nx deep e bad) :
 Calls Tryz.prog 103 #[.pointer (some ⟨pb,0,none⟩),.string s] w fun en w' => en = .returned (.bool false) ∧ Same pb tb w w' L stop nx deep e bad:=by
 have HC:=Lib.hid (z4y pb tb L stop nx deep e bad s he w h)
 clear h he
 go_enter Tryz.func103,Tryz.ntmps103
 go_wp2_with fail
 refine HC.out.mono ?_
 rintro en w1 ⟨rfl,h1⟩
 have H1:=Lib.hid h1
 clear h1
 go_wp2_with fail
 all_goals go_ret
 all_goals exact ⟨rfl,H1.out⟩
theorem z0e (pb tb : Nat) (L : List Tok) (stop : Int) (nx : Nat) (deep bad : Int) (s : ByteArray) (hs : s.data.toList ≠ []) (w : World) (h : RP pb tb w L stop nx deep 0 bad) :
 Calls Tryz.prog 103 #[.pointer (some ⟨pb,0,none⟩),.string s] w fun en w' => en = .returned (.bool (isT s.data.toList (z01 L stop nx))) ∧ Same pb tb w w' L stop (if isT s.data.toList (z01 L stop nx) = true then nx + 1 else nx) deep 0 bad:=by
 have HC:=Lib.hid (z1t pb tb L stop nx deep bad s hs w h)
 have HLT:=Lib.hid (fun h => z0z (L:=L) (stop:=stop) (nx:=nx) hs h)
 have hlen:=h.len
 have hle:=h.le
 clear h hs
 cases q : isT s.data.toList (z01 L stop nx) with
 | false =>
  rw [q] at HC
  clear q
  go_enter Tryz.func103,Tryz.ntmps103
  go_wp2_with fail
  refine HC.out.mono ?_
  rintro en w1 ⟨rfl,h1⟩
  have H1:=Lib.hid h1
  clear h1
  go_wp2_with fail
  all_goals go_ret
  all_goals exact ⟨rfl,H1.out⟩
 | true =>
  rw [q] at HC
  have hlt:=HLT.out q
  clear q
  go_enter Tryz.func103,Tryz.ntmps103
  go_wp2_with fail
  refine HC.out.mono ?_
  rintro en w1 ⟨rfl,h1⟩
  obtain ⟨a,cap,hb,_⟩:=h1.1.blk
  have x2:=Lib.cell_of_heap hb 2
  have f2:=Lib.frozen_of_heap hb 2
  simp only [List.getElem?_toArray,List.getElem?_cons_zero,List.getElem?_cons_succ] at x2
  have HOUT : Hid (Same pb tb w (w1.setCell ⟨pb,2,none⟩ (.int .i64 ((nx : Int) + 1))) L stop (nx + 1) deep 0 bad) :=
   ⟨h1.1.set (z2u (Bt.refl _ _) _ _) (by omega) (fun a cap hk => by have:=z5x hk 2 (.int .i64 ((nx : Int) + 1)); push_cast; exact this),z2u h1.2 _ _⟩
  clear h1 hb
  go_wp2_with fail
  all_goals go_ret
  all_goals exact ⟨rfl,HOUT.out⟩
end Go.Proofs.YtpgdplmndnopbaaGreatDoor
