/- Bounds and matrices in plain Lean: what layers 2 and 4 compute, and that an atom's matrix is closed. No program. -/
import Derived.WalkKit
import Derived.Deep.QuietTactic
import Derived.BigQuiet
import Derived.Laws.Bits128
import Derived.OwnWalk
import Derived.Test.YtockinpjfhhkoaaGreatDoorZ02
import Derived.Deep.Cut
import Derived.Deep.RegionHeld3
import Derived.LoopTactic
import Derived.IntWalk
set_option maxRecDepth 100000
set_option maxHeartbeats 16000000
open Go.Lib renaming hid → Jh
namespace Go.Proofs.YtockinpjfhhkoaaGreatDoor
open Go.RowKit
def z2z : Int:=9223372036854775807
def z3r (c : Int) : Bool:=decide (-2305843009213693952 ≤ c) && decide (c ≤ 2305843009213693952)
def z1b (b : Int) : Bool:=b == z2z || z3r (b / 2)
def z0s (a p b q x : Int) : Bool :=
 if x = z2z then true
 else
  let d:=a / p - b / q
  let c:=x / 2
  let u:=(a % p) * q
  let v:=(b % q) * p
  decide (d < c) || (d == c && (decide (u < v) || (u == v && x % 2 == 1)))
open Go.RowKit
theorem i64_and1 (n : Int) : bits .and .i64 n 1 = n % 2:=by
 have h1 : (BitVec.ofInt 64 1).toNat = 2 ^ 1 - 1:=by decide
 have key : (BitVec.ofInt 64 n &&& BitVec.ofInt 64 1).toNat = (n % ((2 ^ 64 : Nat) : Int)).toNat % 2 ^ 1:=by
  rw [BitVec.toNat_and,BitVec.toNat_ofInt,h1,Nat.and_two_pow_sub_one_eq_mod]
 show IntKind.i64.wrap ((BitVec.ofInt 64 n &&& BitVec.ofInt 64 1).toNat : Nat) = n % 2
 rw [key,IntKind.wrap_i64]
 omega
def numE (a : Int) : Int:=if z3r a = true then 0 else 10
theorem numE_ok {a : Int} (h : z3r a = true) : numE a = 0:=by unfold numE; rw [if_pos h]
theorem numE_no {a : Int} (h : z3r a = false) : numE a = 10:=by unfold numE; rw [h]; rfl
theorem num221_any (a : Int) (w : World) : Calls Tryz.prog 221 #[.int .i64 a] w fun e w' => e = .returned (.int .i64 (numE a)) ∧ w' = w:=by
 go_enter Tryz.func221,Tryz.ntmps221
 go_wp2_with fail
 all_goals go_ret
 all_goals exact ⟨z0u (by unfold numE z3r; simp; omega),rfl⟩
theorem z03 {w : World} {o : Obj} {n : Nat} (h : n = w.heap.size) : (w.alloc o).heap[n]? = some o:=by subst h; exact Array.getElem?_push_size
theorem z0c (w : World) (o : Obj) : Below w.heap.size w (w.alloc o):=(Below.refl _ _).alloc (Nat.le_refl _) o
theorem belowAllocA {B : Nat} {w w' : World} (h : Below B w w') (hB : B ≤ w.heap.size) (o : Obj) : Below B w (w'.alloc o):=h.alloc (Nat.le_trans hB h.size) o
theorem of222_any (b : Int) (w : World) : Calls Tryz.prog 222 #[.int .i64 b] w fun e w' => e = .returned (.agg #[.int .i64 (b / 2),.bool (b % 2 == 0)]) ∧ Below w.heap.size w w':=by
 have h1:=i64_and1 b
 go_enter Tryz.func222,Tryz.ntmps222
 go_wp2_with fail
 refine bodyPost_ret (results_cell_row rfl _ _ _ _ _ _ _ rfl (z03 rfl) Tryz.underlying268 rfl (by kernel_rfl)) rfl ?_
 exact ⟨rfl,z0c _ _⟩
def chkE (b : Int) : Int:=if z1b b = true then 0 else 8
theorem chkE_ok {b : Int} (h : z1b b = true) : chkE b = 0:=by unfold chkE; rw [if_pos h]
theorem chkE_no {b : Int} (h : z1b b = false) : chkE b = 8:=by unfold chkE; rw [h]; rfl
theorem checkB_none : z1b z2z = true:=by decide
theorem checkB_num {b : Int} (h : b ≠ z2z) : z1b b = z3r (b / 2):=by
 unfold z1b
 have : (b == z2z) = false:=by simpa using h
 rw [this,Bool.false_or]
theorem fld268 (x y : Value) (w : World) : (Instr.field 268 (.agg #[x,y]) 0).run Tryz.prog w = .ok x w ∧ (Instr.field 268 (.agg #[x,y]) 1).run Tryz.prog w = .ok y w:=by
 refine ⟨?_,?_⟩ <;> simp [Instr.field,run_underlying Tryz.underlying268,Sem.run_bind,Result.andThen,go_sem] <;> rfl
theorem z5r (b : Int) (w : World) : Calls Tryz.prog 187 #[.int .i64 b] w fun e w' => e = .returned (.int .i64 (chkE b)) ∧ Below w.heap.size w w':=by
 by_cases hb : b = z2z
 ·subst hb
  have HE:=Jh (chkE_ok checkB_none)
  rw [HE.out]
  unfold z2z
  go_enter Tryz.func187,Tryz.ntmps187
  go_wp2_with fail
  all_goals go_ret
  all_goals exact ⟨rfl,Below.refl _ _⟩
 ·have HN:=Jh (checkB_num hb)
  have q1 : (b == 9223372036854775807) = false:=by simpa [z2z] using hb
  have q2 : (b != 9223372036854775807) = true:=by simpa [z2z] using hb
  have HO:=Jh (of222_any b w)
  have hfl:=fun W => (fld268 (.int .i64 (b / 2)) (.bool (b % 2 == 0)) W).1
  clear hb
  cases hk : z3r (b / 2) with
  | true =>
   have HE:=Jh (chkE_ok (HN.out.trans hk))
   rw [HE.out]
   have HK:=Jh (numE_ok hk)
   clear hk
   go_enter Tryz.func187,Tryz.ntmps187
   go_wp2_with fail
   refine HO.out.mono ?_
   rintro e w1 ⟨rfl,hb1⟩
   have HB:=Jh hb1
   clear hb1
   go_wp2_with fail
   refine (num221_any _ _).mono ?_
   rintro e w2 ⟨rfl,rfl⟩
   rw [HK.out]
   go_wp2_with fail
   all_goals go_ret
   all_goals exact ⟨rfl,HB.out⟩
  | false =>
   have HE:=Jh (chkE_no (HN.out.trans hk))
   rw [HE.out]
   have HK:=Jh (numE_no hk)
   clear hk
   go_enter Tryz.func187,Tryz.ntmps187
   go_wp2_with fail
   refine HO.out.mono ?_
   rintro e w1 ⟨rfl,hb1⟩
   have HB:=Jh hb1
   clear hb1
   go_wp2_with fail
   refine (num221_any _ _).mono ?_
   rintro e w2 ⟨rfl,rfl⟩
   rw [HK.out]
   go_wp2_with fail
   all_goals go_ret
   all_goals exact ⟨rfl,HB.out⟩
def valR (b : Int) : Int × Bool × Int:=if z1b b = false then (0,false,8) else if b = z2z then (0,false,6) else (b / 2,b % 2 == 0,0)
theorem value188_any (b : Int) (w : World) : Calls Tryz.prog 188 #[.int .i64 b] w fun e w' => e = .returned (.tuple #[.int .i64 (valR b).1,.bool (valR b).2.1,.int .i64 (valR b).2.2]) ∧ Below w.heap.size w w':=by
 have HC:=Jh (z5r b w)
 cases hk : z1b b with
 | false =>
  have HV : Hid (valR b = (0,false,8)):=by rw [Hid,valR,if_pos hk]
  have HK:=Jh (chkE_no hk)
  rw [HV.out]
  clear hk
  go_enter Tryz.func188,Tryz.ntmps188
  go_wp2_with fail
  refine HC.out.mono ?_
  rintro e w1 ⟨rfl,hb1⟩
  rw [HK.out]
  have HB:=Jh hb1
  clear hb1
  go_wp2_with fail
  all_goals go_ret3
  all_goals exact ⟨rfl,HB.out⟩
 | true =>
  have HK:=Jh (chkE_ok hk)
  by_cases hb : b = z2z
  ·have HV : Hid (valR b = (0,false,6)):=by rw [Hid,valR,hk,if_neg (by decide),if_pos hb]
   rw [HV.out]
   have q1 : (b == 9223372036854775807) = true:=by simpa [z2z] using hb
   clear hk hb
   go_enter Tryz.func188,Tryz.ntmps188
   go_wp2_with fail
   refine HC.out.mono ?_
   rintro e w1 ⟨rfl,hb1⟩
   rw [HK.out]
   have HB:=Jh hb1
   clear hb1
   go_wp2_with fail
   all_goals go_ret3
   all_goals exact ⟨rfl,HB.out⟩
  ·have HV : Hid (valR b = (b / 2,b % 2 == 0,0)):=by rw [Hid,valR,hk,if_neg (by decide),if_neg hb]
   rw [HV.out]
   have q1 : (b == 9223372036854775807) = false:=by simpa [z2z] using hb
   clear hk hb
   go_enter Tryz.func188,Tryz.ntmps188
   go_wp2_with fail
   refine HC.out.mono ?_
   rintro e w1 ⟨rfl,hb1⟩
   rw [HK.out]
   have HB:=Jh hb1
   clear hb1
   go_wp2_with fail
   refine (of222_any _ _).mono ?_
   rintro e w2 ⟨rfl,hb2⟩
   have HB2:=Jh (HB.out.trans (hb2.mono HB.out.size))
   clear hb2
   go_wp2_with fail
   go_quiet (fail)
   go_wp2_with fail
   all_goals go_ret3
   all_goals exact ⟨rfl,(belowAllocA HB2.out (Nat.le_refl _) _).trans ⟨rfl,rfl,rfl,Nat.le_refl _,fun _ _ => rfl⟩⟩
open Go.RowKit
def mayQ (a p : Int) : Bool:=decide (1 ≤ p) && decide (p ≤ 1048576) && decide (-2305843009213693952 ≤ a / p) && (decide (a / p < 2305843009213693952) || (a / p == 2305843009213693952 && a % p == 0)) && (Nat.gcd a.natAbs p.natAbs == 1)
def ltQ (a p b q : Int) : Bool:=decide (a * q < b * p)
def hiQ (x : Int) : Int:=x / 18446744073709551616
def loQ (x : Int) : Int:=x % 18446744073709551616
theorem hilo_neg {x : Int} (h0 : 0 ≤ x) (h1 : x < 170141183460469231731687303715884105728) :
 loQ (-x) = (0 - loQ x) % 18446744073709551616 ∧ hiQ (-x) = (let h:=(0 - hiQ x - (if loQ x = 0 then 0 else 1)) % 18446744073709551616; if h < 9223372036854775808 then h else h - 18446744073709551616):=by
 unfold hiQ loQ
 dsimp only
 constructor
 ·omega
 ·split <;> split <;> omega
theorem lt_floor {a b p q : Int} (hp : 0 < p) (hq : 0 < q) : a * q < b * p ↔ (a / p < b / q ∨ (a / p = b / q ∧ (a % p) * q < (b % q) * p)):=by
 have ea : a = p * (a / p) + a % p:=(Int.mul_ediv_add_emod a p).symm
 have eb : b = q * (b / q) + b % q:=(Int.mul_ediv_add_emod b q).symm
 have r0:=Int.emod_nonneg a (by omega : p ≠ 0)
 have r1:=Int.emod_lt_of_pos a hp
 have s0:=Int.emod_nonneg b (by omega : q ≠ 0)
 have s1:=Int.emod_lt_of_pos b hq
 generalize hn : a / p = n at *
 generalize hm : b / q = m at *
 generalize hr : a % p = r at *
 generalize hs : b % q = s at *
 have e1 : a * q = p * q * n + r * q:=by rw [ea,Int.add_mul,Int.mul_right_comm]
 have e2 : b * p = p * q * m + s * p:=by rw [eb,Int.add_mul,Int.mul_right_comm,Int.mul_comm q p]
 have b1 : r * q < p * q:=Int.mul_lt_mul_of_pos_right r1 hq
 have b2 : s * p < p * q:=by rw [Int.mul_comm p q]; exact Int.mul_lt_mul_of_pos_right s1 hp
 have b3 : 0 ≤ r * q:=Int.mul_nonneg r0 (by omega)
 have b4 : 0 ≤ s * p:=Int.mul_nonneg s0 (by omega)
 have hpq : 0 < p * q:=Int.mul_pos hp hq
 rw [e1,e2]
 rcases Int.lt_trichotomy n m with h | h | h
 ·have k : p * q * n + p * q ≤ p * q * m:=by
   have:=Int.mul_le_mul_of_nonneg_left (show n + 1 ≤ m by omega) (Int.le_of_lt hpq)
   rw [Int.mul_add,Int.mul_one] at this
   exact this
  omega
 ·subst h; omega
 ·have k : p * q * m + p * q ≤ p * q * n:=by
   have:=Int.mul_le_mul_of_nonneg_left (show m + 1 ≤ n by omega) (Int.le_of_lt hpq)
   rw [Int.mul_add,Int.mul_one] at this
   exact this
  omega
theorem gcd_part (a p : Int) : Nat.gcd (a % p).natAbs p.natAbs = Nat.gcd a.natAbs p.natAbs:=by
 refine Int.gcd_left_eq_iff.2 fun c hc => ?_
 have e:=Int.mul_ediv_add_emod a p
 have h0 : c ∣ p * (a / p):=Int.dvd_trans hc (Int.dvd_mul_right _ _)
 constructor
 ·intro h
  have h1:=Int.dvd_add h0 h
  rw [e] at h1
  exact h1
 ·intro h
  have h1:=Int.dvd_sub h h0
  have h2 : a - p * (a / p) = a % p:=by omega
  rw [h2] at h1
  exact h1
open Go.RowKit
theorem z2q {n p : Int} (hp : 0 < p) : (0 ≤ n.tmod p → n.tdiv p = n / p ∧ n.tmod p = n % p) ∧ (n.tmod p < 0 → n.tdiv p - 1 = n / p ∧ n.tmod p + p = n % p):=by
 have e:=Int.mul_tdiv_add_tmod n p
 have e2:=Int.mul_ediv_add_emod n p
 have r0:=Int.emod_nonneg n (by omega : p ≠ 0)
 have r1:=Int.emod_lt_of_pos n hp
 have t1 : n.tmod p < p:=Int.tmod_lt_of_pos n hp
 have t2 : -p < n.tmod p:=by
  have:=Int.lt_tmod_of_pos n hp
  omega
 generalize n.tdiv p = q at *
 generalize n.tmod p = r at *
 generalize n / p = a at *
 generalize n % p = b at *
 constructor
 ·intro h
  have h1 : p * (q - a) = b - r:=by rw [Int.mul_sub]; omega
  have h2 : q - a = 0:=by
   rcases Int.lt_trichotomy (q - a) 0 with h | h | h
   ·have : p * (q - a) ≤ p * (-1):=Int.mul_le_mul_of_nonneg_left (by omega) (by omega)
    omega
   ·exact h
   ·have : p * 1 ≤ p * (q - a):=Int.mul_le_mul_of_nonneg_left (by omega) (by omega)
    omega
  rw [h2] at h1
  omega
 ·intro h
  have h1 : p * (q - a) = b - r:=by rw [Int.mul_sub]; omega
  have h2 : q - a = 1:=by
   rcases Int.lt_trichotomy (q - a) 1 with h3 | h3 | h3
   ·have : p * (q - a) ≤ p * 0:=Int.mul_le_mul_of_nonneg_left (by omega) (by omega)
    omega
   ·exact h3
   ·have : p * 2 ≤ p * (q - a):=Int.mul_le_mul_of_nonneg_left (by omega) (by omega)
    omega
  rw [h2] at h1
  omega
theorem div_in64 {n p : Int} (hp : 1 ≤ p) (hn : -9223372036854775808 ≤ n) (hn2 : n ≤ 9223372036854775807) : -9223372036854775808 ≤ n / p ∧ n / p ≤ 9223372036854775807 ∧ 0 ≤ n % p ∧ n % p < p:=by
 have e2:=Int.mul_ediv_add_emod n p
 have r0:=Int.emod_nonneg n (by omega : p ≠ 0)
 have r1:=Int.emod_lt_of_pos n (by omega : 0 < p)
 generalize n / p = a at *
 generalize n % p = b at *
 refine ⟨?_,?_,r0,r1⟩
 ·rcases Int.lt_or_le a (-9223372036854775808) with h | h
  ·have h1 : p * a ≤ p * (-9223372036854775809):=Int.mul_le_mul_of_nonneg_left (by omega) (by omega)
   have h2 : p * (-9223372036854775809) = -(p * 9223372036854775809):=by rw [Int.mul_neg]
   omega
  ·exact h
 ·rcases Int.lt_or_le 9223372036854775807 a with h | h
  ·have h1 : p * 9223372036854775808 ≤ p * a:=Int.mul_le_mul_of_nonneg_left (by omega) (by omega)
   omega
  ·exact h
theorem z45 (n p : Int) (w : World) (hp : 1 ≤ p) (hp2 : p ≤ 1048576) (hn : -9223372036854775808 ≤ n) (hn2 : n ≤ 9223372036854775807) :
 Calls Tryz.prog 83 #[.int .i64 n,.int .i64 p] w fun e w' => e = .returned (.tuple #[.int .i64 (n / p),.int .i64 (n % p)]) ∧ Below w.heap.size w w':=by
 obtain ⟨T1,T2⟩:=z2q (n:=n) (p:=p) (by omega)
 obtain ⟨d1,d2,d3,d4⟩:=div_in64 hp hn hn2
 have hneg : n.tmod p < 0 → n / p < 0:=fun h => by
  have h1 : n < 0:=by
   rcases Int.lt_or_le n 0 with h2 | h2
   ·exact h2
   ·have:=Int.tmod_nonneg p h2; omega
  exact Int.ediv_neg_of_neg_of_pos h1 (by omega)
 obtain ⟨q,hq⟩ : ∃ q,n.tdiv p = q:=⟨_,rfl⟩
 obtain ⟨r,hr⟩ : ∃ r,n.tmod p = r:=⟨_,rfl⟩
 rw [hq,hr] at T1 T2
 rw [hr] at hneg
 by_cases h0 : r < 0
 ·obtain ⟨e1,e2⟩:=T2 h0
  have hn1:=hneg h0
  rw [← e1] at d1 d2 hn1
  rw [← e2] at d3 d4
  rw [← e1,← e2]
  have hw1 : wrap64 q = q:=IntWalk.wrap64_in q ⟨by omega,by omega⟩
  have hw2 : wrap64 (q - 1) = q - 1:=IntWalk.wrap64_in _ ⟨by omega,by omega⟩
  clear T1 T2 e1 e2 hneg hn1
  go_enter Tryz.func83,Tryz.ntmps83
  go_wp2_with fail
  go_quiet (fail)
  go_wp2_with fail
  all_goals go_ret2
  all_goals exact ⟨rfl,below_drewN (Below.refl _ _) _⟩
 ·obtain ⟨e1,e2⟩:=T1 (by omega)
  rw [← e1] at d1 d2
  rw [← e1,← e2]
  have hw1 : wrap64 q = q:=IntWalk.wrap64_in q ⟨by omega,by omega⟩
  clear T1 T2 e1 e2 d1 d2 d3 d4 hneg
  go_enter Tryz.func83,Tryz.ntmps83
  go_wp2_with fail
  go_quiet (fail)
  go_wp2_with fail
  all_goals go_ret2
  all_goals exact ⟨by simp [hw1],below_drewN (Below.refl _ _) _⟩
theorem ret_u {a b : Int} (h : a = b) : Ending.returned (.int .u64 a) = .returned (.int .u64 b):=by rw [h]
theorem z3y (n : Int) (w : World) (hn : -9223372036854775808 ≤ n) (hn2 : n ≤ 9223372036854775807) :
 Calls Tryz.prog 101 #[.int .i64 n] w fun e w' => e = .returned (.int .u64 (n.natAbs : Nat)) ∧ w' = w:=by
 go_enter Tryz.func101,Tryz.ntmps101
 go_wp2_with fail
 all_goals go_ret
 all_goals exact ⟨ret_u (by (try dsimp only [Array.getD]); first | (rw [IntKind.wrap_u64,IntKind.wrap_u64]; omega) | (rw [IntKind.wrap_u64]; omega) | omega),rfl⟩
theorem gcd100_any (a b : Nat) (w : World) (ha : a < 18446744073709551616) (hb : b < 18446744073709551616) :
 Calls Tryz.prog 100 #[.int .u64 (a : Nat),.int .u64 (b : Nat)] w fun e w' => e = .returned (.int .u64 (Nat.gcd a b : Nat)) ∧ Below w.heap.size w w':=by
 obtain ⟨G,hG0⟩ : ∃ G,Nat.gcd a b = G:=⟨_,rfl⟩
 have H0:=Jh hG0
 rw [hG0]
 clear hG0
 go_enter Tryz.func100,Tryz.ntmps100
 go_wp2_with fail
 go_loopw [0,1] (fun x y wr => ∃ c d : Nat,x = .int .u64 c ∧ y = .int .u64 d ∧ c < 18446744073709551616 ∧ d < 18446744073709551616 ∧ Hid (Nat.gcd c d = G) ∧ Below w.heap.size w wr) (fun _ y _ => (intOf y).toNat)
 case atStart => exact ⟨a,b,rfl,rfl,ha,hb,H0,Below.refl _ _⟩
 case round =>
  obtain ⟨c,d,rfl,rfl,hc,hd,hG,hbw⟩:=hrel
  by_cases h0 : 0 < d
  ·have hm : (c : Int) % (d : Int) = ((c % d : Nat) : Int):=by omega
   have hl:=Nat.mod_lt c h0
   have hG2 : Hid (Nat.gcd d (c % d) = G):=by rw [Hid,← hG.out,Nat.gcd_comm c d,Nat.gcd_rec d c,Nat.gcd_comm]
   have hi0 : 0 < (d : Int):=by omega
   clear hG H0
   go_wp2_with fail
   go_quiet (fail)
   go_wp2_with fail
   refine ⟨⟨d,c % d,rfl,by rw [hm],hd,by omega,hG2,below_drewN hbw _⟩,?_⟩
   simp [intOf]
   omega
  ·have hd0 : d = 0:=by omega
   subst hd0
   have hc0 : Hid (c = G):=by rw [Hid,← hG.out]; simp
   clear hG H0
   go_wp2_with fail
   go_ret
   exact ⟨ret_u (by rw [hc0.out]),hbw⟩
open Go.RowKit
def in64 (x : Int) : Prop:=-9223372036854775808 ≤ x ∧ x ≤ 9223372036854775807
def z1n (a p : Int) : Bool:=decide (-2305843009213693952 ≤ a / p) && (decide (a / p < 2305843009213693952) || (a / p == 2305843009213693952 && a % p == 0))
theorem z42 (a p : Int) : mayQ a p = (decide (1 ≤ p) && decide (p ≤ 1048576) && z1n a p && (Nat.gcd a.natAbs p.natAbs == 1)):=by
 unfold mayQ z1n
 simp only [Bool.and_assoc]
theorem within99_any (a p : Int) (w : World) (hp : 1 ≤ p) (hp2 : p ≤ 1048576) (ha : in64 a) :
 Calls Tryz.prog 99 #[.agg #[.int .i64 a,.int .i64 p]] w fun e w' => e = .returned (.bool (z1n a p)) ∧ Below w.heap.size w w':=by
 have HB:=Jh (z0c w (.cells #[.int .i64 a,.int .i64 p] 50))
 have HF:=Jh (z45 a p (w.alloc (.cells #[.int .i64 a,.int .i64 p] 50)) hp hp2 ha.1 ha.2)
 obtain ⟨q,hq⟩ : ∃ q,a / p = q:=⟨_,rfl⟩
 obtain ⟨r,hr⟩ : ∃ r,a % p = r:=⟨_,rfl⟩
 have HW : Hid (z1n a p = (decide (-2305843009213693952 ≤ q) && (decide (q < 2305843009213693952) || (q == 2305843009213693952 && r == 0)))):=by rw [Hid,z1n,hq,hr]
 rw [hq,hr] at HF
 rw [HW.out]
 clear hq hr ha
 go_enter Tryz.func99,Tryz.ntmps99
 go_wp2_with fail
 refine HF.out.mono ?_
 rintro e w1 ⟨rfl,hb1⟩
 have HB1:=Jh (HB.out.trans (hb1.mono HB.out.size))
 clear hb1
 go_wp2_with fail
 all_goals go_ret
 all_goals exact ⟨z01 (by simp_all <;> omega),HB1.out⟩
def ratE (a p : Int) : Int:=if mayQ a p = true then 0 else 8
theorem ratE_ok {a p : Int} (h : mayQ a p = true) : ratE a p = 0:=by unfold ratE; rw [if_pos h]
theorem ratE_no {a p : Int} (h : mayQ a p = false) : ratE a p = 8:=by unfold ratE; rw [h]; rfl
theorem nan223_any (a : Int) (w : World) : Calls Tryz.prog 223 #[.int .i64 a] w fun e w' => e = .returned (.bool false) ∧ w' = w:=by
 go_enter Tryz.func223,Tryz.ntmps223
 go_wp2_with fail
 all_goals go_ret
 all_goals exact ⟨z01 (by simp),rfl⟩
def cmpI (a b : Int) : Int:=if a < b then -1 else if b < a then 1 else 0
theorem cmp190_any (a b : Int) (w : World) : Calls Tryz.prog 190 #[.int .i64 a,.int .i64 b] w fun e w' => e = .returned (.int .i64 (cmpI a b)) ∧ w' = w:=by
 unfold cmpI
 go_enter Tryz.func190,Tryz.ntmps190
 go_wp2_with fail
 refine (nan223_any _ _).mono ?_
 rintro e w1 ⟨rfl,rfl⟩
 go_wp2_with fail
 refine (nan223_any _ _).mono ?_
 rintro e w1 ⟨rfl,rfl⟩
 go_wp2_with fail
 all_goals go_ret
 all_goals exact ⟨z0u (by simp_all <;> omega),rfl⟩
open Go.RowKit
open Go.RowKit
open Go.RowKit
def cmpR (a b : Int × Int) : Int :=
 if a.1 / a.2 = b.1 / b.2 then (if (a.1 % a.2) * b.2 < (b.1 % b.2) * a.2 then -1 else if (a.1 % a.2) * b.2 > (b.1 % b.2) * a.2 then 1 else 0)
 else if a.1 / a.2 < b.1 / b.2 then -1 else if a.1 / a.2 > b.1 / b.2 then 1 else 0
theorem cmpR_lt {a b : Int × Int} (ha : 0 < a.2) (hb : 0 < b.2) : cmpR a b < 0 ↔ a.1 * b.2 < b.1 * a.2:=by
 rw [lt_floor ha hb]
 unfold cmpR
 split
 ·rename_i h
  split
  ·rename_i h1; exact ⟨fun _ => .inr ⟨h,h1⟩,fun _ => by omega⟩
  ·rename_i h1
   split
   ·exact ⟨fun h2 => by omega,fun h2 => by omega⟩
   ·exact ⟨fun h2 => by omega,fun h2 => by omega⟩
 ·rename_i h
  split
  ·rename_i h1; exact ⟨fun _ => .inl h1,fun _ => by omega⟩
  ·rename_i h1
   split
   ·exact ⟨fun h2 => by omega,fun h2 => by omega⟩
   ·exact ⟨fun h2 => by omega,fun h2 => by omega⟩
theorem cmpR_neg (a b : Int × Int) : cmpR b a = -cmpR a b:=by
 unfold cmpR
 by_cases h : a.1 / a.2 = b.1 / b.2
 ·rw [if_pos h,if_pos h.symm]
  generalize (a.1 % a.2) * b.2 = x
  generalize (b.1 % b.2) * a.2 = y
  split <;> split <;> (try split) <;> omega
 ·rw [if_neg h,if_neg (fun h' => h h'.symm)]
  split <;> split <;> (try split) <;> omega
theorem cmpR_le {a b : Int × Int} (ha : 0 < a.2) (hb : 0 < b.2) : cmpR a b ≤ 0 ↔ a.1 * b.2 ≤ b.1 * a.2:=by
 have h:=cmpR_lt hb ha
 have h1:=cmpR_neg a b
 constructor
 ·intro h2
  have : ¬ cmpR b a < 0:=by omega
  rw [h] at this; omega
 ·intro h2
  have : ¬ cmpR b a < 0:=by rw [h]; omega
  omega
end Go.Proofs.YtockinpjfhhkoaaGreatDoor
