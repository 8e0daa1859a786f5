/- Fractions walked: floor, size, gcd, within, Check, checked. -/
import Derived.Deep.Cut
import Derived.Deep.RegionHeld3
import Derived.LoopTactic
import Derived.IntWalk
import Derived.Test.YtockinpjfhhkoaaGreatDoorAtA
import Derived.Test.YtockinpjfhhkoaaGreatDoorMhA
import Derived.OwnWalk
namespace Go.Proofs.YtockinpjfhhkoaaGreatDoor
open Go.RowKit

theorem tdiv_floor {n p : Int} (hp : 0 < p) : (0 ≤ n.tmod p → n.tdiv p = n / p ∧ n.tmod p = n % p) ∧ (n.tmod p < 0 → n.tdiv p - 1 = n / p ∧ n.tmod p + p = n % p) := by
  have e := Int.mul_tdiv_add_tmod n p
  have e2 := Int.mul_ediv_add_emod n p
  have r0 := Int.emod_nonneg n (by omega : p ≠ 0)
  have r1 := Int.emod_lt_of_pos n hp
  have t1 : n.tmod p < p := Int.tmod_lt_of_pos n hp
  have t2 : -p < n.tmod p := by
    have := Int.lt_tmod_of_pos n hp
    omega
  generalize n.tdiv p = q at *
  generalize n.tmod p = r at *
  generalize n / p = a at *
  generalize n % p = b at *
  constructor
  · intro h
    have h1 : p * (q - a) = b - r := by rw [Int.mul_sub]; omega
    have h2 : q - a = 0 := by
      rcases Int.lt_trichotomy (q - a) 0 with h | h | h
      · have : p * (q - a) ≤ p * (-1) := Int.mul_le_mul_of_nonneg_left (by omega) (by omega)
        omega
      · exact h
      · have : p * 1 ≤ p * (q - a) := Int.mul_le_mul_of_nonneg_left (by omega) (by omega)
        omega
    rw [h2] at h1
    omega
  · intro h
    have h1 : p * (q - a) = b - r := by rw [Int.mul_sub]; omega
    have h2 : q - a = 1 := by
      rcases Int.lt_trichotomy (q - a) 1 with h3 | h3 | h3
      · have : p * (q - a) ≤ p * 0 := Int.mul_le_mul_of_nonneg_left (by omega) (by omega)
        omega
      · exact h3
      · have : p * 2 ≤ p * (q - a) := Int.mul_le_mul_of_nonneg_left (by omega) (by omega)
        omega
    rw [h2] at h1
    omega
theorem div_in64 {n p : Int} (hp : 1 ≤ p) (hn : -9223372036854775808 ≤ n) (hn2 : n ≤ 9223372036854775807) : -9223372036854775808 ≤ n / p ∧ n / p ≤ 9223372036854775807 ∧ 0 ≤ n % p ∧ n % p < p := by
  have e2 := Int.mul_ediv_add_emod n p
  have r0 := Int.emod_nonneg n (by omega : p ≠ 0)
  have r1 := Int.emod_lt_of_pos n (by omega : 0 < p)
  generalize n / p = a at *
  generalize n % p = b at *
  refine ⟨?_, ?_, r0, r1⟩
  · rcases Int.lt_or_le a (-9223372036854775808) with h | h
    · have h1 : p * a ≤ p * (-9223372036854775809) := Int.mul_le_mul_of_nonneg_left (by omega) (by omega)
      have h2 : p * (-9223372036854775809) = -(p * 9223372036854775809) := by rw [Int.mul_neg]
      omega
    · exact h
  · rcases Int.lt_or_le 9223372036854775807 a with h | h
    · have h1 : p * 9223372036854775808 ≤ p * a := Int.mul_le_mul_of_nonneg_left (by omega) (by omega)
      omega
    · exact h
set_option maxRecDepth 100000 in
set_option maxHeartbeats 2000000 in
theorem floor83_any (n p : Int) (w : World) (hp : 1 ≤ p) (hp2 : p ≤ 1048576) (hn : -9223372036854775808 ≤ n) (hn2 : n ≤ 9223372036854775807) :
    Calls Tryz.prog 83 #[.int .i64 n, .int .i64 p] w fun e w' => e = .returned (.tuple #[.int .i64 (n / p), .int .i64 (n % p)]) ∧ Below w.heap.size w w' := by
  obtain ⟨T1, T2⟩ := tdiv_floor (n := n) (p := p) (by omega)
  obtain ⟨d1, d2, d3, d4⟩ := div_in64 hp hn hn2
  have hneg : n.tmod p < 0 → n / p < 0 := fun h => by
    have h1 : n < 0 := by
      rcases Int.lt_or_le n 0 with h2 | h2
      · exact h2
      · have := Int.tmod_nonneg p h2; omega
    exact Int.ediv_neg_of_neg_of_pos h1 (by omega)
  obtain ⟨q, hq⟩ : ∃ q, n.tdiv p = q := ⟨_, rfl⟩
  obtain ⟨r, hr⟩ : ∃ r, n.tmod p = r := ⟨_, rfl⟩
  rw [hq, hr] at T1 T2
  rw [hr] at hneg
  by_cases h0 : r < 0
  · obtain ⟨e1, e2⟩ := T2 h0
    have hn1 := hneg h0
    rw [← e1] at d1 d2 hn1
    rw [← e2] at d3 d4
    rw [← e1, ← e2]
    have hw1 : wrap64 q = q := IntWalk.wrap64_in q ⟨by omega, by omega⟩
    have hw2 : wrap64 (q - 1) = q - 1 := IntWalk.wrap64_in _ ⟨by omega, by omega⟩
    clear T1 T2 e1 e2 hneg hn1
    go_enter Tryz.func83, Tryz.ntmps83
    go_wp2_with fail
    go_quiet (fail)
    go_wp2_with fail
    all_goals go_ret2
    all_goals exact ⟨rfl, below_drewN (Below.refl _ _) _⟩
  · obtain ⟨e1, e2⟩ := T1 (by omega)
    rw [← e1] at d1 d2
    rw [← e1, ← e2]
    have hw1 : wrap64 q = q := IntWalk.wrap64_in q ⟨by omega, by omega⟩
    clear T1 T2 e1 e2 d1 d2 d3 d4 hneg
    go_enter Tryz.func83, Tryz.ntmps83
    go_wp2_with fail
    go_quiet (fail)
    go_wp2_with fail
    all_goals go_ret2
    all_goals exact ⟨by simp [hw1], below_drewN (Below.refl _ _) _⟩
theorem ret_u {a b : Int} (h : a = b) : Ending.returned (.int .u64 a) = .returned (.int .u64 b) := by rw [h]
set_option maxRecDepth 100000 in
theorem size101_any (n : Int) (w : World) (hn : -9223372036854775808 ≤ n) (hn2 : n ≤ 9223372036854775807) :
    Calls Tryz.prog 101 #[.int .i64 n] w fun e w' => e = .returned (.int .u64 (n.natAbs : Nat)) ∧ w' = w := by
  go_enter Tryz.func101, Tryz.ntmps101
  go_wp2_with fail
  all_goals go_ret
  all_goals exact ⟨ret_u (by (try dsimp only [Array.getD]); first | (rw [IntKind.wrap_u64, IntKind.wrap_u64]; omega) | (rw [IntKind.wrap_u64]; omega) | omega), rfl⟩
set_option maxRecDepth 100000 in
set_option maxHeartbeats 2000000 in
theorem gcd100_any (a b : Nat) (w : World) (ha : a < 18446744073709551616) (hb : b < 18446744073709551616) :
    Calls Tryz.prog 100 #[.int .u64 (a : Nat), .int .u64 (b : Nat)] w fun e w' => e = .returned (.int .u64 (Nat.gcd a b : Nat)) ∧ Below w.heap.size w w' := by
  obtain ⟨G, hG0⟩ : ∃ G, Nat.gcd a b = G := ⟨_, rfl⟩
  have H0 := Lib.hid hG0
  rw [hG0]
  clear hG0
  go_enter Tryz.func100, Tryz.ntmps100
  go_wp2_with fail
  go_loopw [0, 1] (fun x y wr => ∃ c d : Nat, x = .int .u64 c ∧ y = .int .u64 d ∧ c < 18446744073709551616 ∧ d < 18446744073709551616 ∧ Hid (Nat.gcd c d = G) ∧ Below w.heap.size w wr) (fun _ y _ => (intOf y).toNat)
  case atStart => exact ⟨a, b, rfl, rfl, ha, hb, H0, Below.refl _ _⟩
  case round =>
    obtain ⟨c, d, rfl, rfl, hc, hd, hG, hbw⟩ := hrel
    by_cases h0 : 0 < d
    · have hm : (c : Int) % (d : Int) = ((c % d : Nat) : Int) := by omega
      have hl := Nat.mod_lt c h0
      have hG2 : Hid (Nat.gcd d (c % d) = G) := by rw [Hid, ← hG.out, Nat.gcd_comm c d, Nat.gcd_rec d c, Nat.gcd_comm]
      have hi0 : 0 < (d : Int) := by omega
      clear hG H0
      go_wp2_with fail
      go_quiet (fail)
      go_wp2_with fail
      refine ⟨⟨d, c % d, rfl, by rw [hm], hd, by omega, hG2, below_drewN hbw _⟩, ?_⟩
      simp [intOf]
      omega
    · have hd0 : d = 0 := by omega
      subst hd0
      have hc0 : Hid (c = G) := by rw [Hid, ← hG.out]; simp
      clear hG H0
      go_wp2_with fail
      go_ret
      exact ⟨ret_u (by rw [hc0.out]), hbw⟩
end Go.Proofs.YtockinpjfhhkoaaGreatDoor

/- Fractions walked: within, Check, checked; cmp.Compare. -/
namespace Go.Proofs.YtockinpjfhhkoaaGreatDoor
open Go.RowKit

def in64 (x : Int) : Prop := -9223372036854775808 ≤ x ∧ x ≤ 9223372036854775807
/-- Does it lie where it may? -/
def withinQ (a p : Int) : Bool := decide (-2305843009213693952 ≤ a / p) && (decide (a / p < 2305843009213693952) || (a / p == 2305843009213693952 && a % p == 0))
theorem mayQ_eq (a p : Int) : mayQ a p = (decide (1 ≤ p) && decide (p ≤ 1048576) && withinQ a p && (Nat.gcd a.natAbs p.natAbs == 1)) := by
  unfold mayQ withinQ
  simp only [Bool.and_assoc]
set_option maxRecDepth 100000 in
set_option maxHeartbeats 2000000 in
theorem within99_any (a p : Int) (w : World) (hp : 1 ≤ p) (hp2 : p ≤ 1048576) (ha : in64 a) :
    Calls Tryz.prog 99 #[.agg #[.int .i64 a, .int .i64 p]] w fun e w' => e = .returned (.bool (withinQ a p)) ∧ Below w.heap.size w w' := by
  have HB := Lib.hid (belowA w (.cells #[.int .i64 a, .int .i64 p] 50))
  have HF := Lib.hid (floor83_any a p (w.alloc (.cells #[.int .i64 a, .int .i64 p] 50)) hp hp2 ha.1 ha.2)
  obtain ⟨q, hq⟩ : ∃ q, a / p = q := ⟨_, rfl⟩
  obtain ⟨r, hr⟩ : ∃ r, a % p = r := ⟨_, rfl⟩
  have HW : Hid (withinQ a p = (decide (-2305843009213693952 ≤ q) && (decide (q < 2305843009213693952) || (q == 2305843009213693952 && r == 0)))) := by rw [Hid, withinQ, hq, hr]
  rw [hq, hr] at HF
  rw [HW.out]
  clear hq hr ha
  go_enter Tryz.func99, Tryz.ntmps99
  go_wp2_with fail
  refine HF.out.mono ?_
  rintro e w1 ⟨rfl, hb1⟩
  have HB1 := Lib.hid (HB.out.trans (hb1.mono HB.out.size))
  clear hb1
  go_wp2_with fail
  all_goals go_ret
  all_goals exact ⟨ret_bool' (by simp_all <;> omega), HB1.out⟩
def ratE (a p : Int) : Int := if mayQ a p = true then 0 else 8
theorem ratE_ok {a p : Int} (h : mayQ a p = true) : ratE a p = 0 := by unfold ratE; rw [if_pos h]
theorem ratE_no {a p : Int} (h : mayQ a p = false) : ratE a p = 8 := by unfold ratE; rw [h]; rfl
set_option maxRecDepth 100000 in
theorem nan223_any (a : Int) (w : World) : Calls Tryz.prog 223 #[.int .i64 a] w fun e w' => e = .returned (.bool false) ∧ w' = w := by
  go_enter Tryz.func223, Tryz.ntmps223
  go_wp2_with fail
  all_goals go_ret
  all_goals exact ⟨ret_bool' (by simp), rfl⟩
/-- How numbers are compared. -/
def cmpI (a b : Int) : Int := if a < b then -1 else if b < a then 1 else 0
set_option maxRecDepth 100000 in
theorem cmp190_any (a b : Int) (w : World) : Calls Tryz.prog 190 #[.int .i64 a, .int .i64 b] w fun e w' => e = .returned (.int .i64 (cmpI a b)) ∧ w' = w := by
  unfold cmpI
  go_enter Tryz.func190, Tryz.ntmps190
  go_wp2_with fail
  refine (nan223_any _ _).mono ?_
  rintro e w1 ⟨rfl, rfl⟩
  go_wp2_with fail
  refine (nan223_any _ _).mono ?_
  rintro e w1 ⟨rfl, rfl⟩
  go_wp2_with fail
  all_goals go_ret
  all_goals exact ⟨ret_i (by simp_all <;> omega), rfl⟩
end Go.Proofs.YtockinpjfhhkoaaGreatDoor
