/- The law SignalTells, walked. -/
import Derived.Test.YtnpaoekblfflmaaSigK
namespace Go.Proofs.Ytnpaoekblfflmaa
open Go.RowKit Go.Shelf
attribute [local go_sem ↓] Go.wp_at_zero Go.wp_at_succ

theorem Segs.inR {w : World} {B : Nat} {v : Value} {l : List (Int × Int)} (h : Segs w B v l) : ∀ s ∈ l, InR s := h.choose_spec.choose_spec.2.2.2

theorem long_any (p : Int) (v : Value) (l : List (Int × Int)) (w : World) (hs : Segs w w.heap.size v l) :
    Calls Try.prog 19 #[.int .i64 p, v] w fun e W' => e = .returned (.tuple #[.int .i64 (long22 (checkP p l) l), .int .i64 (checkP p l)]) ∧ Below w.heap.size w W' := by
  by_cases hc : checkP p l = 0
  · rw [hc, long22, if_pos rfl, ← long_eq hs.inR hc]
    exact long_ok p v l w hs hc
  · rw [long22, if_neg hc]
    exact long_err p v l w hs hc
theorem on_any (p m : Int) (v : Value) (l : List (Int × Int)) (w : World) (hs : Segs w w.heap.size v l) (hm : m ≤ 9223372036854775807) :
    Calls Try.prog 21 #[.int .i64 p, v, .int .i64 m] w fun e W' => e = .returned (.tuple #[.int .u8 (on22 (checkP p l) l m).1, .int .i64 (on22 (checkP p l) l m).2]) ∧ Below w.heap.size w W' := by
  by_cases hc : checkP p l = 0
  · rw [hc, ← on_eq hs.inR hc hm]
    exact on_ok p m v l w hs hc
  · rw [on22, if_neg hc]
    exact on_err p m v l w hs hc

theorem Segs.at {w w1 : World} {v : Value} {l : List (Int × Int)} (h : Segs w w.heap.size v l) (hb : Below w.heap.size w w1) : Segs w1 w1.heap.size v l := (h.below hb).mono hb.size

set_option maxRecDepth 100000 in
set_option maxHeartbeats 4000000 in
theorem tells_any (p m : Int) (v v' : Value) (l r : List (Int × Int)) (w : World) (hs : Segs w w.heap.size v l) (hs' : Segs w w.heap.size v' r) (hm : m ≤ 9223372036854775807) :
    Calls Try.prog 5 #[.int .i64 p, v, v', .int .i64 m] w fun e w' => e = .returned (.bool true) ∧ Below w.heap.size w w' := by
  have HS := Lib.hid hs
  have HS' := Lib.hid hs'
  have HM := Lib.hid hm
  obtain ⟨a, cap, rfl, hm, h, hr⟩ := hs
  obtain ⟨a', cap', rfl, hm', h', hr'⟩ := hs'
  clear h hr h' hr' hm
  by_cases h1 : 10000 < l.length
  · have d1 : decide (10000 < (l.length : Int)) = true := by simp; omega
    clear h1
    go_enter Try.func5, Try.ntmps5
    go_wp2_with fail
    go_ret
    exact ⟨rfl, Below.refl _ _⟩
  have d1 : decide (10000 < (l.length : Int)) = false := by simp; omega
  by_cases h2 : 10000 < r.length
  · have d2 : decide (10000 < (r.length : Int)) = true := by simp; omega
    clear h1 h2
    go_enter Try.func5, Try.ntmps5
    go_wp2_with fail
    go_ret
    exact ⟨rfl, Below.refl _ _⟩
  have d2 : decide (10000 < (r.length : Int)) = false := by simp; omega
  clear h1 h2
  obtain ⟨c, hc⟩ : ∃ c, checkP p l = c := ⟨_, rfl⟩
  obtain ⟨d, hd⟩ : ∃ d, checkP p r = d := ⟨_, rfl⟩
  have hc' : check22P p l = c := by rw [← check_eq HS.out.inR, hc]
  have hd' : check22P p r = d := by rw [← check_eq HS'.out.inR, hd]
  have k1 : Hid (∀ w1, Below w.heap.size w w1 → Calls Try.prog 19 #[.int .i64 p, .slice a l.length cap] w1 fun e W' => e = .returned (.tuple #[.int .i64 (long22 c l), .int .i64 c]) ∧ Below w1.heap.size w1 W') := fun w1 hb => by
    rw [← hc]; exact long_any p _ l w1 (HS.out.at hb)
  have k2 : Hid (∀ w1, Below w.heap.size w w1 → Calls Try.prog 20 #[.int .i64 p, .slice a l.length cap] w1 fun e W' => e = .returned (.tuple #[.int .i64 (long22 c l), .int .i64 c]) ∧ Below w1.heap.size w1 W') := fun w1 hb => by
    rw [← hc']; exact long22_any p _ l w1 (HS.out.at hb)
  have k3 : Hid (∀ w1, Below w.heap.size w w1 → Calls Try.prog 21 #[.int .i64 p, .slice a l.length cap, .int .i64 m] w1 fun e W' => e = .returned (.tuple #[.int .u8 (on22 c l m).1, .int .i64 (on22 c l m).2]) ∧ Below w1.heap.size w1 W') := fun w1 hb => by
    rw [← hc]; exact on_any p m _ l w1 (HS.out.at hb) HM.out
  have k4 : Hid (∀ w1, Below w.heap.size w w1 → Calls Try.prog 22 #[.int .i64 p, .slice a l.length cap, .int .i64 m] w1 fun e W' => e = .returned (.tuple #[.int .u8 (on22 c l m).1, .int .i64 (on22 c l m).2]) ∧ Below w1.heap.size w1 W') := fun w1 hb => by
    rw [← hc']; exact on22_any p m _ l w1 (HS.out.at hb)
  have k5 : Hid (∀ w1, Below w.heap.size w w1 → Calls Try.prog 23 #[.int .i64 p, .slice a l.length cap, .slice a' r.length cap'] w1 fun e W' => e = .returned (.tuple #[.bool (same22 c d l r).1, .int .i64 (same22 c d l r).2]) ∧ Below w1.heap.size w1 W') := fun w1 hb => by
    rw [← hc, ← hd]; exact same_any p _ _ l r w1 (HS.out.at hb) (HS'.out.at hb) HS.out.inR HS'.out.inR
  have k6 : Hid (∀ w1, Below w.heap.size w w1 → Calls Try.prog 24 #[.int .i64 p, .slice a l.length cap, .slice a' r.length cap'] w1 fun e W' => e = .returned (.tuple #[.bool (same22 c d l r).1, .int .i64 (same22 c d l r).2]) ∧ Below w1.heap.size w1 W') := fun w1 hb => by
    rw [← hc', ← hd']; exact same22_any p _ _ l r w1 (HS.out.at hb) (HS'.out.at hb) HS.out.inR HS'.out.inR
  have k7 : Hid (∀ w1, Below w.heap.size w w1 → Calls Try.prog 25 #[.int .i64 p, .slice a l.length cap] w1 fun e W' => e = .returned (.int .i64 c) ∧ Below w1.heap.size w1 W') := fun w1 hb => by
    rw [← hc]; exact check_any p _ l w1 (HS.out.at hb)
  have k8 : Hid (∀ w1, Below w.heap.size w w1 → Calls Try.prog 26 #[.int .i64 p, .slice a l.length cap] w1 fun e W' => e = .returned (.int .i64 c) ∧ Below w1.heap.size w1 W') := fun w1 hb => by
    rw [← hc']; exact check22_any p _ l w1 (HS.out.at hb)
  clear hc hd hc' hd'
  obtain ⟨n, hn⟩ : ∃ n, long22 c l = n := ⟨_, rfl⟩
  obtain ⟨x, hx⟩ : ∃ x, (on22 c l m).1 = x := ⟨_, rfl⟩
  obtain ⟨g, hg⟩ : ∃ g, (on22 c l m).2 = g := ⟨_, rfl⟩
  obtain ⟨y, hy⟩ : ∃ y, (same22 c d l r).1 = y := ⟨_, rfl⟩
  obtain ⟨z, hz⟩ : ∃ z, (same22 c d l r).2 = z := ⟨_, rfl⟩
  rw [hn] at k1 k2
  rw [hx, hg] at k3 k4
  rw [hy, hz] at k5 k6
  clear hn hx hg hy hz
  have b0 : Below w.heap.size w w := Below.refl _ _
  go_enter Try.func5, Try.ntmps5
  have q := k1.out w b0
  go_wp2_with fail
  refine q.mono ?_
  clear q
  rintro e w1 ⟨rfl, hb⟩
  have b1 : Below w.heap.size w w1 := b0.trans (hb.mono b0.size)
  clear b0 hb
  have q := k2.out w1 b1
  go_wp2_with fail
  refine q.mono ?_
  clear q
  rintro e w2 ⟨rfl, hb⟩
  have b2 : Below w.heap.size w w2 := b1.trans (hb.mono b1.size)
  clear b1 hb
  have q := k3.out w2 b2
  go_wp2_with fail
  refine q.mono ?_
  clear q
  rintro e w3 ⟨rfl, hb⟩
  have b3 : Below w.heap.size w w3 := b2.trans (hb.mono b2.size)
  clear b2 hb
  have q := k4.out w3 b3
  go_wp2_with fail
  refine q.mono ?_
  clear q
  rintro e w4 ⟨rfl, hb⟩
  have b4 : Below w.heap.size w w4 := b3.trans (hb.mono b3.size)
  clear b3 hb
  have q := k5.out w4 b4
  go_wp2_with fail
  refine q.mono ?_
  clear q
  rintro e w5 ⟨rfl, hb⟩
  have b5 : Below w.heap.size w w5 := b4.trans (hb.mono b4.size)
  clear b4 hb
  have q := k6.out w5 b5
  go_wp2_with fail
  refine q.mono ?_
  clear q
  rintro e w6 ⟨rfl, hb⟩
  have b6 : Below w.heap.size w w6 := b5.trans (hb.mono b5.size)
  clear b5 hb
  have q := k7.out w6 b6
  go_wp2_with fail
  refine q.mono ?_
  clear q
  rintro e w7 ⟨rfl, hb⟩
  have b7 : Below w.heap.size w w7 := b6.trans (hb.mono b6.size)
  clear b6 hb
  have q := k8.out w7 b7
  go_wp2_with fail
  refine q.mono ?_
  clear q
  rintro e w8 ⟨rfl, hb⟩
  have b8 : Below w.heap.size w w8 := b7.trans (hb.mono b7.size)
  clear b7 hb
  go_wp2_with fail
  go_ret
  exact ⟨rfl, b8⟩
end Go.Proofs.Ytnpaoekblfflmaa
