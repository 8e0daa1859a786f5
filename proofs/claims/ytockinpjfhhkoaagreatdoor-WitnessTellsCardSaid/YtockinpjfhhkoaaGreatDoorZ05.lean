/- rat.checked, first, Keeps walked. -/
import Derived.Deep.Cut
import Derived.LoopTactic
import Derived.Test.YtockinpjfhhkoaaGreatDoorZ04
import Derived.Deep.AppendSrc
import Derived.Deep.AppendLies
import Derived.Test.YtockinpjfhhkoaaGreatDoorZ02
import Derived.Test.YtockinpjfhhkoaaGreatDoorZ00
import Derived.Lib.SliceRun
import Derived.IntWalk
import Derived.Deep.RegionHeld3
import Derived.StillTailTactics
import Derived.Test.YtockinpjfhhkoaaGreatDoorZ03
import Derived.RangeFuncNested
import Derived.RangeFuncBound
import Derived.RangeFuncCalls
import Derived.RangeFuncLeaves
import Derived.Shelf.RegionOpen
import Derived.OwnWalkIn
import Derived.TacticsInMore
import Derived.LoopIn
import Derived.OrdersHeld
import Derived.Stop.RegionWithIn
import Derived.Deep.RegionHeld
import Derived.Deep.QuietTactic
import Derived.BigQuiet
import Derived.Deep.RegionLaw
import Derived.Maps.OwnIn
import Derived.Lib.MinMax
set_option maxRecDepth 100000
set_option maxHeartbeats 16000000
open List renaming getElem?_cons_zero → J7, getElem?_cons_succ → J8, getElem?_toArray → J9
open Go.Lib renaming cell_of_heap → Jc, hid → Jh
open Go.RowKit.Below renaming heap_alloc → Jb
namespace Go.Proofs.YtockinpjfhhkoaaGreatDoor
open Go.RowKit
def RatR (w : World) (b : Nat) (l : List (Int × Int)) : Prop:=b < w.heap.size ∧ ∀ k (h : k < l.length),w.cell? ⟨b,k * 2,none⟩ = some (.int .i64 (l[k]).1) ∧ w.cell? ⟨b,k * 2 + 1,none⟩ = some (.int .i64 (l[k]).2)
theorem RatR.below {w w' : World} {b : Nat} {l : List (Int × Int)} (h : RatR w b l) (hb : Below w.heap.size w w') : RatR w' b l :=
 ⟨Nat.lt_of_lt_of_le h.1 hb.size,fun k hk => ⟨(hb.cell (p:=⟨b,_,none⟩) h.1).trans (h.2 k hk).1,(hb.cell (p:=⟨b,_,none⟩) h.1).trans (h.2 k hk).2⟩⟩
def z3z (l : List (Int × Int)) : Int:=if l.all (fun a => mayQ a.1 a.2) = true then 0 else 8
theorem ratsE_at {l : List (Int × Int)} {k : Nat} (h : k < l.length) (hf : mayQ (l[k]).1 (l[k]).2 = false) : z3z l = 8:=by
 unfold z3z
 have : l.all (fun a => mayQ a.1 a.2) = false:=by
  rw [List.all_eq_false]
  exact ⟨_,List.getElem_mem h,by simp [hf]⟩
 rw [this]
 rfl
theorem ratsE_all {l : List (Int × Int)} (h : ∀ k (hk : k < l.length),mayQ (l[k]).1 (l[k]).2 = true) : z3z l = 0:=by
 unfold z3z
 rw [if_pos]
 rw [List.all_eq_true]
 intro x hx
 obtain ⟨k,hk,rfl⟩:=List.mem_iff_getElem.1 hx
 exact h k hk
theorem z4q {b c : Nat} {l : List (Int × Int)} {w : World} (h : RatR w b l) (hl : l.length ≤ 100) (hr : ∀ x ∈ l,in64 x.1) :
 Calls Tryz.prog 80 #[.slice (some ⟨b,0,none⟩) l.length c] w fun e w' => e = .returned (.int .i64 (z3z l)) ∧ Below w.heap.size w w':=by
 have H:=Jh h
 have HR:=Jh hr
 have hbl:=h.1
 clear h hr
 go_enter Tryz.func80,Tryz.ntmps80
 go_wp2_with fail
 go_loopw [8] (fun i wr => ∃ k : Nat,k ≤ l.length ∧ i = .int .i64 k ∧ Hid (∀ i (h : i < k) (h' : i < l.length),mayQ (l[i]).1 (l[i]).2 = true) ∧ Hid (Below w.heap.size w wr)) (fun i _ => l.length - (intOf i).toNat)
 case atStart => exact ⟨0,Nat.zero_le _,rfl,fun i h => absurd h (Nat.not_lt_zero i),Below.refl _ _⟩
 case round =>
  obtain ⟨k,hk,rfl,HP,HB⟩:=hrel
  have hz:=HB.out.size
  by_cases hlt : k < l.length
  ·obtain ⟨c1,c2⟩:=(H.out.below HB.out).2 k hlt
   obtain ⟨a,p,hap⟩ : ∃ a p,l[k] = (a,p):=⟨_,_,rfl⟩
   have ha : in64 a:=by have:=HR.out _ (List.getElem_mem hlt); rw [hap] at this; exact this
   rw [hap] at c1 c2
   dsimp only at c1 c2
   have HAP:=Jh hap
   have HC:=Jh (z4a a p (wr.alloc (.cells #[.int .i64 a,.int .i64 p] 50)) ha)
   have hbl2 : b < wr.heap.size:=by omega
   have hlti : (k : Int) < (l.length : Int):=by omega
   clear hap ha
   cases hm : mayQ a p with
   | true =>
    have HM:=Jh hm
    have HE:=Jh (ratE_ok hm)
    rw [HE.out] at HC
    clear hm HE
    go_wp2_with fail
    refine HC.out.mono ?_
    rintro e w1 ⟨rfl,hb1⟩
    have HB1:=Jh ((HB.out.alloc hz (.cells #[.int .i64 a,.int .i64 p] 50)).trans (hb1.mono (by simp; omega)))
    clear hb1 c1 c2
    go_wp2_with fail
    go_roundw
    case rel => exact ⟨k + 1,by omega,by go_num,fun i hi hi' => (by
     rcases Nat.lt_or_ge i k with h | h
     ·exact HP.out i h hi'
     ·obtain rfl : i = k:=by omega
      rw [HAP.out]; exact HM.out),HB1⟩
    case measure => simp [intOf]; omega
   | false =>
    have HM : Hid (z3z l = 8):=ratsE_at hlt (by rw [HAP.out]; exact hm)
    have HE:=Jh (ratE_no hm)
    rw [HE.out] at HC
    clear hm HE
    go_wp2_with fail
    refine HC.out.mono ?_
    rintro e w1 ⟨rfl,hb1⟩
    have HB1:=Jh ((HB.out.alloc hz (.cells #[.int .i64 a,.int .i64 p] 50)).trans (hb1.mono (by simp; omega)))
    clear hb1 c1 c2
    go_wp2_with fail
    go_ret
    exact ⟨z0u (by rw [HM.out]),HB1.out⟩
  ·have HM : Hid (z3z l = 0):=ratsE_all fun k' hk' => HP.out k' (by omega) hk'
   go_wp2_with fail
   go_ret
   exact ⟨z0u (by rw [HM.out]),HB.out⟩
theorem z5p (x y v : Int) (K : Nat) (caps : Array Value) (w : World) (hK : Ent K) (hC : Calls Tryz.prog K caps w fun e w' => e = .returned (.int .i64 v) ∧ Below w.heap.size w w') :
 Calls Tryz.prog 146 #[.int .i64 x,.int .i64 y,.func (.func K) #[] caps] w fun e w' => e = .returned (.int .i64 (if cmpI x y = 0 then v else cmpI x y)) ∧ Below w.heap.size w w':=by
 unfold Ent at hK
 have HC:=Jh hC
 clear hC
 have HP:=Jh (cmp190_any x y w)
 obtain ⟨c,hc⟩ : ∃ c,cmpI x y = c:=⟨_,rfl⟩
 rw [hc] at HP ⊢
 clear hc
 by_cases h0 : c = 0
 ·have HE : Hid ((if c = 0 then v else c) = v):=if_pos h0
  rw [HE.out]
  have q : (c != 0) = false:=by simpa using h0
  clear h0
  go_enter Tryz.func146,Tryz.ntmps146
  go_wp2_with fail
  refine HP.out.mono ?_
  rintro e w1 ⟨rfl,rfl⟩
  go_wp2_with fail
  refine HC.out.mono ?_
  rintro e w2 ⟨rfl,hb2⟩
  go_wp2_with fail
  all_goals go_ret
  all_goals exact ⟨rfl,hb2⟩
 ·have HE : Hid ((if c = 0 then v else c) = c):=if_neg h0
  rw [HE.out]
  have q : (c != 0) = true:=by simpa using h0
  clear h0
  go_enter Tryz.func146,Tryz.ntmps146
  go_wp2_with fail
  refine HP.out.mono ?_
  rintro e w1 ⟨rfl,rfl⟩
  go_wp2_with fail
  all_goals go_ret
  all_goals exact ⟨rfl,Below.refl _ _⟩
open Go.RowKit
theorem clo189_any {br ba bs bb : Nat} {r p s q a b : Int} {w : World} (h0 : w.heap[br]? = some (.cells #[.int .i64 r] 3 (0,0))) (h1 : w.heap[bb]? = some (.cells #[.int .i64 b,.int .i64 q] 50 (0,0))) (h2 : w.heap[bs]? = some (.cells #[.int .i64 s] 3 (0,0))) (h3 : w.heap[ba]? = some (.cells #[.int .i64 a,.int .i64 p] 50 (0,0)))
 (hw1 : IntKind.i64.wrap (r * q) = r * q) (hw2 : IntKind.i64.wrap (s * p) = s * p) :
 Calls Tryz.prog 189 #[.pointer (some ⟨br,0,none⟩),.pointer (some ⟨bb,0,none⟩),.pointer (some ⟨bs,0,none⟩),.pointer (some ⟨ba,0,none⟩)] w fun e w' => e = .returned (.int .i64 (cmpI (r * q) (s * p))) ∧ Below w.heap.size w w':=by
 have c0:=Jc h0 0
 have c1:=Jc h1 1
 have c2:=Jc h2 0
 have c3:=Jc h3 1
 simp only [J9,J7,J8] at c0 c1 c2 c3
 have l0:=(Array.getElem?_eq_some_iff.1 h0).1
 have l1:=(Array.getElem?_eq_some_iff.1 h1).1
 have l2:=(Array.getElem?_eq_some_iff.1 h2).1
 have l3:=(Array.getElem?_eq_some_iff.1 h3).1
 clear h0 h1 h2 h3
 go_enter Tryz.func189,Tryz.ntmps189
 go_wp2_with fail
 refine (cmp190_any _ _ w).mono ?_
 rintro e w1 ⟨rfl,rfl⟩
 go_wp2_with fail
 all_goals go_ret
 all_goals exact ⟨rfl,Below.refl _ _⟩
theorem z2c {a p q : Int} (hp : 1 ≤ p) (hp2 : p ≤ 1048576) (hq : 1 ≤ q) (hq2 : q ≤ 1048576) : IntKind.i64.wrap ((a % p) * q) = (a % p) * q:=by
 have r0:=Int.emod_nonneg a (by omega : p ≠ 0)
 have r1:=Int.emod_lt_of_pos a (by omega : 0 < p)
 generalize a % p = r at *
 have h0 : 0 ≤ r * q:=Int.mul_nonneg r0 (by omega)
 have h1 : r * q ≤ 1048576 * 1048576:=Int.mul_le_mul (by omega) hq2 (by omega) (by omega)
 exact IntWalk.i64_in _ ⟨by omega,by omega⟩
theorem cmp_keeps {a p b q x d : Int} (hx : x ≠ z2z) (hd : a / p - b / q = d) :
 z0s a p b q x = (decide ((if cmpI d (x / 2) = 0 then cmpI ((a % p) * q) ((b % q) * p) else cmpI d (x / 2)) < 0) || ((if cmpI d (x / 2) = 0 then cmpI ((a % p) * q) ((b % q) * p) else cmpI d (x / 2)) == 0 && !(x % 2 == 0))):=by
 unfold z0s
 rw [if_neg hx]
 dsimp only
 rw [hd]
 generalize (a % p) * q = u
 generalize (b % q) * p = v
 generalize hc : x / 2 = c
 have hx2 : (x % 2 == 1) = !(x % 2 == 0):=by
  rcases Int.emod_two_eq x with h | h <;> rw [h] <;> rfl
 rw [hx2]
 unfold cmpI
 rcases Int.lt_trichotomy d c with h | h | h
 ·rw [if_pos h]
  simp [h]
 ·subst h
  rw [if_neg (Int.lt_irrefl _),if_neg (Int.lt_irrefl _),if_pos rfl]
  rcases Int.lt_trichotomy u v with h2 | h2 | h2
  ·simp [h2]
  ·subst h2; simp
  ·have : ¬ u < v:=by omega
   have : ¬ u = v:=by omega
   simp [*]
 ·have h1 : ¬ d < c:=by omega
  have h2 : ¬ d = c:=by omega
  simp [*]
theorem z1u {a p : Int} (h : mayQ a p = true) : 1 ≤ p ∧ p ≤ 1048576 ∧ -2305843009213693952 ≤ a / p ∧ a / p ≤ 2305843009213693952:=by
 unfold mayQ at h
 simp only [Bool.and_eq_true,Bool.or_eq_true,decide_eq_true_eq,beq_iff_eq] at h
 omega
theorem z5n {a p b q x : Int} {w : World} (ha : mayQ a p = true) (hb : mayQ b q = true) (hx : z1b x = true) (ia : in64 a) (ib : in64 b) :
 Calls Tryz.prog 119 #[.agg #[.int .i64 a,.int .i64 p],.agg #[.int .i64 b,.int .i64 q],.int .i64 x] w fun e w' => e = .returned (.tuple #[.bool (z0s a p b q x),.int .i64 0]) ∧ Below w.heap.size w w':=by
 obtain ⟨a1,a2,a3,a4⟩:=z1u ha
 obtain ⟨b1,b2,b3,b4⟩:=z1u hb
 obtain ⟨W3,hW3⟩ : ∃ W3,W3 = ((w.alloc (.cells #[.int .i64 a,.int .i64 p] 50)).alloc (.cells #[.int .i64 b,.int .i64 q] 50)).alloc (.cells #[.int .i64 a,.int .i64 p,.int .i64 b,.int .i64 q] 50):=⟨_,rfl⟩
 have hb3 : Below w.heap.size w W3:=by rw [hW3]; exact ((z0c _ _).alloc (by simp) _).alloc (by simp; omega) _
 have hz3 : W3.heap.size = w.heap.size + 3:=by rw [hW3]; simp
 have hx0 : W3.heap[w.heap.size]? = some (.cells #[.int .i64 a,.int .i64 p] 50 (0,0)):=by
  rw [hW3]; exact (Jb _ _ _ (by simp; omega)).trans ((Jb _ _ _ (by simp)).trans (z03 rfl))
 have hx1 : W3.heap[w.heap.size + 1]? = some (.cells #[.int .i64 b,.int .i64 q] 50 (0,0)):=by
  rw [hW3]; exact (Jb _ _ _ (by simp)).trans (z03 (by simp))
 have hx2 : W3.heap[w.heap.size + 2]? = some (.cells #[.int .i64 a,.int .i64 p,.int .i64 b,.int .i64 q] 50 (0,0)):=by
  rw [hW3]; exact z03 (by simp)
 have hrow : RatR W3 (w.heap.size + 2) [(a,p),(b,q)]:=by
  refine ⟨by omega,fun k hk => ?_⟩
  match k,hk with
  | 0,_ => exact ⟨by rw [Jc hx2]; rfl,by rw [Jc hx2]; rfl⟩
  | 1,_ => exact ⟨by rw [Jc hx2]; rfl,by rw [Jc hx2]; rfl⟩
 have HCK:=Jh (z4q (c:=2) hrow (by simp) (by intro y hy; simp at hy; rcases hy with rfl | rfl <;> assumption))
 have HE : Hid (z3z [(a,p),(b,q)] = 0):=by rw [Hid,z3z]; simp [ha,hb]
 have HA0:=Jh (chkE_ok hx)
 have HX0 : Hid (∀ W,Below W3.heap.size W3 W → W.heap[w.heap.size]? = some (.cells #[.int .i64 a,.int .i64 p] 50 (0,0)) ∧ W.heap[w.heap.size + 1]? = some (.cells #[.int .i64 b,.int .i64 q] 50 (0,0))):=fun W hW => ⟨(hW.block _ (by omega)).trans hx0,(hW.block _ (by omega)).trans hx1⟩
 have HW3:=Jh hW3.symm
 have HB3:=Jh hb3
 have HZ3:=Jh hz3
 have HV : Hid (valR x = if x = z2z then (0,false,6) else (x / 2,x % 2 == 0,0)):=by rw [Hid,valR,if_neg (by rw [hx]; decide)]
 have HI:=Jh (And.intro ia ib)
 have HP:=Jh (And.intro (And.intro a1 a2) (And.intro b1 b2))
 have HQ:=Jh (And.intro (And.intro a3 a4) (And.intro b3 b4))
 have HS1:=Jh (z2c (a:=a) a1 a2 b1 b2)
 have HS2:=Jh (z2c (a:=b) b1 b2 a1 a2)
 have hl2 : ([(a,p),(b,q)] : List (Int × Int)).length = 2:=rfl
 rw [hl2] at HCK
 clear ha hb hx ia ib a1 a2 a3 a4 b1 b2 b3 b4 hW3 hb3 hz3 hx0 hx1 hx2 hrow hl2
 go_enter Tryz.func119,Tryz.ntmps119
 go_wp2_with fail
 rw [HW3.out]
 refine HCK.out.mono ?_
 rintro e w4 ⟨rfl,hb4⟩
 rw [HE.out]
 have HB4:=Jh hb4
 clear hb4 HW3
 go_wp2_with fail
 refine (z5r x w4).mono ?_
 rintro e w5 ⟨rfl,hb5⟩
 rw [HA0.out]
 have HB5:=Jh (HB4.out.trans (hb5.mono HB4.out.size))
 clear hb5
 go_wp2_with fail
 refine (value188_any x w5).mono ?_
 rintro e w6 ⟨rfl,hb6⟩
 have HB6:=Jh (HB5.out.trans (hb6.mono HB5.out.size))
 clear hb6
 rw [HV.out]
 by_cases hxn : x = z2z
 ·have HK : Hid (z0s a p b q x = true):=by rw [Hid,z0s,if_pos hxn]
  rw [if_pos hxn]
  clear hxn
  go_wp2_with fail
  all_goals go_ret2
  all_goals exact ⟨by rw [HK.out]; rfl,HB3.out.trans (HB6.out.mono HB3.out.size)⟩
 ·rw [if_neg hxn]
  obtain ⟨n,hn⟩ : ∃ n,a / p = n:=⟨_,rfl⟩
  obtain ⟨m,hm⟩ : ∃ m,b / q = m:=⟨_,rfl⟩
  obtain ⟨r,hr⟩ : ∃ r,a % p = r:=⟨_,rfl⟩
  obtain ⟨s,hs⟩ : ∃ s,b % q = s:=⟨_,rfl⟩
  obtain ⟨c,hc⟩ : ∃ c,x / 2 = c:=⟨_,rfl⟩
  obtain ⟨st,hst⟩ : ∃ st,(x % 2 == 0) = st:=⟨_,rfl⟩
  have HKK:=Jh (cmp_keeps (a:=a) (p:=p) (b:=b) (q:=q) (d:=n - m) hxn (by rw [hn,hm]))
  have HF1 : Hid (∀ W,Calls Tryz.prog 83 #[.int .i64 a,.int .i64 p] W fun e w' => e = .returned (.tuple #[.int .i64 n,.int .i64 r]) ∧ Below W.heap.size W w'):=fun W => by
   have:=z45 a p W HP.out.1.1 HP.out.1.2 HI.out.1.1 HI.out.1.2
   rw [hn,hr] at this; exact this
  have HF2 : Hid (∀ W,Calls Tryz.prog 83 #[.int .i64 b,.int .i64 q] W fun e w' => e = .returned (.tuple #[.int .i64 m,.int .i64 s]) ∧ Below W.heap.size W w'):=fun W => by
   have:=z45 b q W HP.out.2.1 HP.out.2.2 HI.out.2.1 HI.out.2.2
   rw [hm,hs] at this; exact this
  rw [hr,hs,hc,hst] at HKK
  rw [hr] at HS1
  rw [hs] at HS2
  rw [hc,hst]
  have hwn : wrap64 (n - m) = n - m:=by
   obtain ⟨⟨q1,q2⟩,q3,q4⟩:=HQ.out
   rw [hn] at q1 q2
   rw [hm] at q3 q4
   exact IntWalk.wrap64_in _ ⟨by omega,by omega⟩
  clear hxn hn hm hr hs hc hst
  obtain ⟨y0,y1⟩:=HX0.out w6 HB6.out
  have z0:=Jc y0 0
  have z1:=Jc y0 1
  have z2:=Jc y1 0
  have z3:=Jc y1 1
  simp only [J9,J7,J8] at z0 z1 z2 z3
  have zl:=(Array.getElem?_eq_some_iff.1 y0).1
  have zl1:=(Array.getElem?_eq_some_iff.1 y1).1
  clear y0 y1
  go_wp2_with fail
  refine (HF1.out w6).mono ?_
  rintro e w7 ⟨rfl,hb7⟩
  have HB7:=Jh (HB6.out.trans (hb7.mono HB6.out.size))
  have v2:=(hb7.cell (p:=⟨_,0,none⟩) zl1).trans z2
  have v3:=(hb7.cell (p:=⟨_,1,none⟩) zl1).trans z3
  have vl:=Nat.lt_of_lt_of_le zl1 hb7.size
  clear hb7 z0 z1 z2 z3 zl zl1
  go_wp2_with fail
  refine (HF2.out _).mono ?_
  rintro e w8 ⟨rfl,hb8⟩
  have HB8:=Jh ((HB7.out.alloc HB7.out.size (.cells #[.int .i64 r] 3)).trans (hb8.mono (by have:=HB7.out.size; simp; omega)))
  have hr8 : Hid (w8.heap[w7.heap.size]? = some (.cells #[.int .i64 r] 3 (0,0))):=(hb8.block _ (by simp)).trans (z03 rfl)
  have hs8 : Hid (w7.heap.size < w8.heap.size):=(Array.getElem?_eq_some_iff.1 hr8.out).1
  have HB9 : Hid (Below W3.heap.size W3 (w8.alloc (.cells #[.int .i64 s] 3))):=HB8.out.alloc HB8.out.size _
  have HC0:=Jh (clo189_any (w:=w8.alloc (.cells #[.int .i64 s] 3)) (br:=w7.heap.size) (bb:=w.heap.size + 1) (bs:=w8.heap.size) (ba:=w.heap.size) ((Jb _ _ _ hs8.out).trans hr8.out) (HX0.out _ HB9.out).2 (z03 rfl) (HX0.out _ HB9.out).1 HS1.out HS2.out)
  have HFI:=Jh (z5p (n - m) c (cmpI (r * q) (s * p)) 189 _ (w8.alloc (.cells #[.int .i64 s] 3)) (z2g Tryz.func189 (by kernel_rfl) (by kernel_rfl)) HC0.out)
  have hmf : ∀ (fn : Fn) (first cap : Array Value) (w : World),(Instr.makeFunc fn first cap).run Tryz.prog w = .ok (.func fn first cap) w:=fun _ _ _ _ => by simp [Instr.makeFunc,go_sem]
  clear hb8
  go_wp2_with fail
  refine HFI.out.mono ?_
  rintro e w10 ⟨rfl,hb10⟩
  have HBX : Hid (Below w.heap.size w w10):=HB3.out.trans ((HB9.out.trans (hb10.mono HB9.out.size)).mono HB3.out.size)
  obtain ⟨f,hf⟩ : ∃ f,(if cmpI (n - m) c = 0 then cmpI (r * q) (s * p) else cmpI (n - m) c) = f:=⟨_,rfl⟩
  rw [hf] at HKK ⊢
  clear hf hb10 v2 v3 vl hmf
  cases st with
  | true =>
   go_wp2_with fail
   all_goals go_ret2
   all_goals exact ⟨by rw [HKK.out]; simp_all,HBX.out⟩
  | false =>
   go_wp2_with fail
   all_goals go_ret2
   all_goals exact ⟨by rw [HKK.out]; simp_all,HBX.out⟩
open Go.RowKit
theorem z2a {P : Program} {w : World} {ops : Array Oper} {rest : List Oper} {o : Oper} {a : Act} {Q : Exit → Act → World → Prop} (hgd : o.guard = none) (s x : Operand) (t : TypeId)
 (ho : o.op = .call { callee:=.builtin .append,args:=#[s,x],argTypes:=#[t,t] }) (v xv : Value) (hs : a.eval s = v) (hx : a.eval x = xv) (R : Value → World → Prop)
 (hrun : ∃ v' w',(Builtin.append_ #[t,t] o.type #[v,xv]).run P w = .ok v' w' ∧ R v' w')
 (h : ∀ v' w',R v' w' → wpList P ops Q rest (a.put o.dst v') w') : wpList P ops Q (o :: rest) a w:=by
 refine wpList_plain hgd fun K hK => ?_
 obtain ⟨v',w',hr,h2⟩:=hrun
 unfold Oper.wp execOp
 simp only [ho,resolve,invoke,builtin,Sem.run_bind,Sem.run_pure,Result.andThen_ok,List.map_toArray,List.map_cons,List.map_nil,hs,hx,hr]
 exact hK _ _ (h v' w' h2)
open Go.RowKit
theorem setCell_at {w : World} {g : Nat} {cs : Array Value} {t : TypeId} {fz : Nat × Nat} (h : w.heap[g]? = some (.cells cs t fz)) (j : Nat) (v : Value) : (w.setCell ⟨g,j,none⟩ v).heap[g]? = some (.cells (cs.setIfInBounds j v) t fz):=by
 simp [World.setCell,Array.getElem?_modify,h]
theorem z1w (w : World) (g i : Nat) (v : Value) (j : Nat) (hj : j ≠ g) : (w.setCell ⟨g,i,none⟩ v).heap[j]? = w.heap[j]?:=Below.heap_setCell _ _ _ _ (by simpa using hj)
open Go.RowKit Go.Shelf
attribute [local go_sem] Oper.semAt_some
open Go.RowKit Go.Shelf
open Go.RowKit Go.Shelf
/-! ### A region that draws,within a round of the wide fence -/
open Go.RowKit
def Bt (pb : Nat) (w w' : World) : Prop:=w'.os = w.os ∧ w'.tape = w.tape ∧ w'.output = w.output ∧ w.heap.size ≤ w'.heap.size ∧ ∀ k,k < w.heap.size → k ≠ pb → w'.heap[k]? = w.heap[k]?
theorem Bt.refl (pb : Nat) (w : World) : Bt pb w w:=⟨rfl,rfl,rfl,Nat.le_refl _,fun _ _ _ => rfl⟩
theorem Bt.trans {pb : Nat} {w w' w'' : World} (h : Bt pb w w') (k : Bt pb w' w'') : Bt pb w w'' :=
 ⟨k.1.trans h.1,k.2.1.trans h.2.1,k.2.2.1.trans h.2.2.1,Nat.le_trans h.2.2.2.1 k.2.2.2.1,fun i hi hp => (k.2.2.2.2 i (Nat.lt_of_lt_of_le hi h.2.2.2.1) hp).trans (h.2.2.2.2 i hi hp)⟩
theorem Bt.of_below {pb : Nat} {w w' : World} (h : Below w.heap.size w w') : Bt pb w w':=⟨h.os,h.tape,h.output,h.size,fun k hk _ => h.block k hk⟩
theorem Bt.at {pb : Nat} {w w' : World} (h : Bt pb w w') {k : Nat} {o : Obj} (hk : w.heap[k]? = some o) (hp : k ≠ pb) : w'.heap[k]? = some o :=
 (h.2.2.2.2 k (Array.getElem?_eq_some_iff.1 hk).1 hp).trans hk
theorem Bt.set {pb : Nat} {w w' : World} (h : Bt pb w w') (i : Nat) (v : Value) : Bt pb w (w'.setCell ⟨pb,i,none⟩ v) :=
 ⟨h.1,h.2.1,h.2.2.1,by simpa [World.setCell] using h.2.2.2.1,fun k hk hp => (z1w _ _ _ _ _ hp).trans (h.2.2.2.2 k hk hp)⟩
theorem Bt.setNew {pb : Nat} {w w' : World} (h : Bt pb w w') {g : Nat} (hg : w.heap.size ≤ g) (i : Nat) (v : Value) : Bt pb w (w'.setCell ⟨g,i,none⟩ v) :=
 ⟨h.1,h.2.1,h.2.2.1,by simpa [World.setCell] using h.2.2.2.1,fun k hk hp => (z1w _ _ _ _ _ (by omega)).trans (h.2.2.2.2 k hk hp)⟩
theorem Bt.below {pb : Nat} {w w' : World} (h : Bt pb w w') {n : Nat} (hn : n ≤ pb) (hw : n ≤ w.heap.size) : Below n w w' :=
 ⟨h.1,h.2.1,h.2.2.1,h.2.2.2.1,fun k hk => h.2.2.2.2 k (by omega) (by omega)⟩
open Go.RowKit Go.Shelf
attribute [local go_sem] Oper.semAt_some
open Go.RowKit
open Go.RowKit
def set2 (w : World) (b : Nat) (x y : Value) : World:=(w.setCell ⟨b,0,none⟩ x).setCell ⟨b,1,none⟩ y
theorem z57 {w : World} {b : Nat} {u v : Value} {t : TypeId} (h : w.heap[b]? = some (.cells #[u,v] t (0,0))) (x y : Value) : (set2 w b x y).heap[b]? = some (.cells #[x,y] t (0,0)):=setCell_at (setCell_at h 0 x) 1 y
theorem z3i (w : World) (b : Nat) (x y : Value) (j : Nat) (hj : j ≠ b) : (set2 w b x y).heap[j]? = w.heap[j]?:=(z1w _ _ _ _ j hj).trans (z1w _ _ _ _ j hj)
theorem z56 {B : Nat} {w w' : World} (h : Below B w w') {b : Nat} (hb : B ≤ b) (x y : Value) : Below B w (set2 w' b x y):=(h.setCell (p:=⟨b,0,none⟩) hb x).setCell (p:=⟨b,1,none⟩) hb y
open Go.RowKit Go.Shelf
attribute [local go_sem ↓] Go.wp_at_zero Go.wp_at_succ
open Go.RowKit Go.Shelf
attribute [local go_sem] Oper.semAt_some
open Go.RowKit
open Go.RowKit
open Go.RowKit
open Go.RowKit
open Go.RowKit
open Go.RowKit
open Go.RowKit
theorem belA' {w w1 : World} (h : Below w.heap.size w w1) (o : Obj) : Below w.heap.size w (w1.alloc o):=h.alloc h.size o
theorem belS {w w1 w2 : World} (h : Below w.heap.size w w1) (k : Below w1.heap.size w1 w2) : Below w.heap.size w w2:=h.trans (k.mono h.size)
open Go.RowKit Go.Shelf
theorem info50 : (Tryz.prog.info? 50).map (fun i => (i.zero,i.size,i.bytes)) = some (some (.agg #[.int .i64 0,.int .i64 0]),2,16):=by kernel_rfl
def vRat (l : List (Int × Int)) : List Value:=l.flatMap fun a => [.int .i64 a.1,.int .i64 a.2]
theorem vRat_at : ∀ (l : List (Int × Int)) (k : Nat) (h : k < l.length),(vRat l)[k * 2]? = some (.int .i64 (l[k]).1) ∧ (vRat l)[k * 2 + 1]? = some (.int .i64 (l[k]).2)
 | a :: r,0,_ => ⟨rfl,rfl⟩
 | a :: r,k + 1,h => by
  have:=vRat_at r k (by simpa using h)
  have e1 : (k + 1) * 2 = k * 2 + 2:=by omega
  have e2 : (k + 1) * 2 + 1 = k * 2 + 1 + 2:=by omega
  exact ⟨by rw [e1]; exact this.1,by rw [e2]; exact this.2⟩
theorem vRat_len : ∀ (l : List (Int × Int)),(vRat l).length = l.length * 2
 | [] => rfl
 | a :: r => by
  have:=vRat_len r
  show (_ :: _ :: vRat r).length = _
  simp [this]
  omega
open Go.RowKit Go.Shelf
attribute [local go_sem] Oper.semAt_some
open Go.RowKit
open Go.RowKit
end Go.Proofs.YtockinpjfhhkoaaGreatDoor
