/- The law SignalApart, walked. -/
import Derived.Test.YtnpaoekblfflmaaSigN
import Derived.Test.YtnpaoekblfflmaaSigO
namespace Go.Proofs.Ytnpaoekblfflmaa
open Go.RowKit Go.Shelf
attribute [local go_sem ↓] Go.wp_at_zero Go.wp_at_succ

/-- What the calls tell: any one of them, at a world behind. -/
structure Told (w : World) (p : Int) (v : Value) (l : List (Int × Int)) (v' : Value) (r : List (Int × Int)) (m : Int) (c d : Int) : Prop where
  same : ∀ w1, Below w.heap.size w w1 → Calls Try.prog 23 #[.int .i64 p, v, v'] w1 fun e W' => e = .returned (.tuple #[.bool (same22 c d l r).1, .int .i64 (same22 c d l r).2]) ∧ Below w1.heap.size w1 W'
  back : ∀ w1, Below w.heap.size w w1 → Calls Try.prog 23 #[.int .i64 p, v', v] w1 fun e W' => e = .returned (.tuple #[.bool (same22 d c r l).1, .int .i64 (same22 d c r l).2]) ∧ Below w1.heap.size w1 W'
  long1 : ∀ w1, Below w.heap.size w w1 → Calls Try.prog 19 #[.int .i64 p, v] w1 fun e W' => e = .returned (.tuple #[.int .i64 (long22 c l), .int .i64 c]) ∧ Below w1.heap.size w1 W'
  long2 : ∀ w1, Below w.heap.size w w1 → Calls Try.prog 19 #[.int .i64 p, v'] w1 fun e W' => e = .returned (.tuple #[.int .i64 (long22 d r), .int .i64 d]) ∧ Below w1.heap.size w1 W'
  on1 : ∀ w1, Below w.heap.size w w1 → Calls Try.prog 21 #[.int .i64 p, v, .int .i64 m] w1 fun e W' => e = .returned (.tuple #[.int .u8 (on22 c l m).1, .int .i64 (on22 c l m).2]) ∧ Below w1.heap.size w1 W'
  on2 : ∀ w1, Below w.heap.size w w1 → Calls Try.prog 21 #[.int .i64 p, v', .int .i64 m] w1 fun e W' => e = .returned (.tuple #[.int .u8 (on22 d r m).1, .int .i64 (on22 d r m).2]) ∧ Below w1.heap.size w1 W'

theorem told_of (p m : Int) (v v' : Value) (l r : List (Int × Int)) (w : World) (hs : Segs w w.heap.size v l) (hs' : Segs w w.heap.size v' r) (hm : m ≤ 9223372036854775807) : Told w p v l v' r m (checkP p l) (checkP p r) :=
  ⟨fun w1 hb => same_any p _ _ l r w1 (hs.at hb) (hs'.at hb) hs.inR hs'.inR, fun w1 hb => same_any p _ _ r l w1 (hs'.at hb) (hs.at hb) hs'.inR hs.inR,
    fun w1 hb => long_any p _ l w1 (hs.at hb), fun w1 hb => long_any p _ r w1 (hs'.at hb), fun w1 hb => on_any p m _ l w1 (hs.at hb) hm, fun w1 hb => on_any p m _ r w1 (hs'.at hb) hm⟩

set_option maxRecDepth 100000 in
set_option maxHeartbeats 4000000 in
theorem apart_any (p m : Int) (v v' : Value) (l r : List (Int × Int)) (w : World) (hs : Segs w w.heap.size v l) (hs' : Segs w w.heap.size v' r) (hm : m ≤ 9223372036854775807) :
    Calls Try.prog 6 #[.int .i64 p, v, v', .int .i64 m] w fun e w' => e = .returned (.bool true) ∧ Below w.heap.size w w' := by
  have HT := Lib.hid (told_of p m v v' l r w hs hs' hm)
  have HL : Hid (∀ s ∈ l, InR s) := hs.inR
  have HR : Hid (∀ s ∈ r, InR s) := hs'.inR
  have HM := Lib.hid hm
  obtain ⟨a, cap, rfl, hm, h, hr⟩ := hs
  obtain ⟨a', cap', rfl, hm', h', hr'⟩ := hs'
  clear h hr h' hr' hm
  have b0 : Below w.heap.size w w := Below.refl _ _
  have HA := alive_any w
  obtain ⟨c, hc⟩ : ∃ c, checkP p l = c := ⟨_, rfl⟩
  obtain ⟨d, hd⟩ : ∃ d, checkP p r = d := ⟨_, rfl⟩
  rw [hc, hd] at HT
  have HC := Lib.hid hc
  have HD := Lib.hid hd
  clear hc hd
  by_cases h1 : 10000 < l.length
  · have d1 : decide (10000 < (l.length : Int)) = true := by simp; omega
    clear h1
    go_enter Try.func6, Try.ntmps6
    go_wp2_with fail
    refine HA.mono ?_
    rintro e w1 ⟨rfl, b1⟩
    clear HA
    go_wp2_with fail
    go_ret
    exact ⟨rfl, b1⟩
  have d1 : decide (10000 < (l.length : Int)) = false := by simp; omega
  by_cases h2 : 10000 < r.length
  · have d2 : decide (10000 < (r.length : Int)) = true := by simp; omega
    clear h1 h2
    go_enter Try.func6, Try.ntmps6
    go_wp2_with fail
    refine HA.mono ?_
    rintro e w1 ⟨rfl, b1⟩
    clear HA
    go_wp2_with fail
    go_ret
    exact ⟨rfl, b1⟩
  have d2 : decide (10000 < (r.length : Int)) = false := by simp; omega
  clear h1 h2
  by_cases h0 : c = 0
  · subst h0
    by_cases h1 : d = 0
    · subst h1
      have e1 : same22 0 0 l r = (decide (mergedL l = mergedL r), 0) := by rw [same22, if_pos rfl, if_pos rfl]
      have e2 : same22 0 0 r l = (decide (mergedL l = mergedL r), 0) := by
        rw [same22, if_pos rfl, if_pos rfl]
        congr 1
        exact decide_eq_decide.2 ⟨Eq.symm, Eq.symm⟩
      by_cases hq : mergedL l = mergedL r
      · have e3 : long22 0 r = long22 0 l := by
          simp only [long22, if_pos]
          exact (same_long HL.out HR.out HC.out HD.out hq).symm
        have e4 := (same_on HL.out HR.out HC.out HD.out hq HM.out).symm
        rw [decide_eq_true hq] at e1 e2
        obtain ⟨n, hn⟩ : ∃ n, long22 0 l = n := ⟨_, rfl⟩
        obtain ⟨x, hx⟩ : ∃ x, on22 0 l m = x := ⟨_, rfl⟩
        have HE1 := Lib.hid e1
        have HE2 := Lib.hid e2
        rw [hn] at e3
        rw [hx] at e4
        have HE3 := Lib.hid e3
        have HE4 := Lib.hid e4
        have HN := Lib.hid hn
        have HX := Lib.hid hx
        clear e1 e2 e3 e4 hq hn hx
        go_enter Try.func6, Try.ntmps6
        go_wp2_with fail
        refine HA.mono ?_
        rintro e w1 ⟨rfl, b1⟩
        clear HA b0
        have q := HT.out.same w1 b1
        rw [HE1.out] at q
        go_wp2_with fail
        refine q.mono ?_
        clear q
        rintro e w2 ⟨rfl, hb⟩
        have b2 : Below w.heap.size w w2 := b1.trans (hb.mono b1.size)
        clear b1 hb
        have q := HT.out.back w2 b2
        rw [HE2.out] at q
        go_wp2_with fail
        refine q.mono ?_
        clear q
        rintro e w3 ⟨rfl, hb⟩
        have b3 : Below w.heap.size w w3 := b2.trans (hb.mono b2.size)
        clear b2 hb
        have q := HT.out.long1 w3 b3
        rw [HN.out] at q
        go_wp2_with fail
        refine q.mono ?_
        clear q
        rintro e w4 ⟨rfl, hb⟩
        have b4 : Below w.heap.size w w4 := b3.trans (hb.mono b3.size)
        clear b3 hb
        have q := HT.out.long2 w4 b4
        rw [HE3.out] at q
        go_wp2_with fail
        refine q.mono ?_
        clear q
        rintro e w5 ⟨rfl, hb⟩
        have b5 : Below w.heap.size w w5 := b4.trans (hb.mono b4.size)
        clear b4 hb
        have q := HT.out.on1 w5 b5
        rw [HX.out] at q
        go_wp2_with fail
        refine q.mono ?_
        clear q
        rintro e w6 ⟨rfl, hb⟩
        have b6 : Below w.heap.size w w6 := b5.trans (hb.mono b5.size)
        clear b5 hb
        have q := HT.out.on2 w6 b6
        rw [HE4.out] at q
        go_wp2_with fail
        refine q.mono ?_
        clear q
        rintro e w7 ⟨rfl, hb⟩
        have b7 : Below w.heap.size w w7 := b6.trans (hb.mono b6.size)
        clear b6 hb
        go_wp2_with fail
        go_ret
        exact ⟨rfl, b7⟩
      · rw [decide_eq_false hq] at e1 e2
        have HE1 := Lib.hid e1
        have HE2 := Lib.hid e2
        clear e1 e2 hq
        go_enter Try.func6, Try.ntmps6
        go_wp2_with fail
        refine HA.mono ?_
        rintro e w1 ⟨rfl, b1⟩
        clear HA b0
        have q := HT.out.same w1 b1
        rw [HE1.out] at q
        go_wp2_with fail
        refine q.mono ?_
        clear q
        rintro e w2 ⟨rfl, hb⟩
        have b2 : Below w.heap.size w w2 := b1.trans (hb.mono b1.size)
        clear b1 hb
        have q := HT.out.back w2 b2
        rw [HE2.out] at q
        go_wp2_with fail
        refine q.mono ?_
        clear q
        rintro e w3 ⟨rfl, hb⟩
        have b3 : Below w.heap.size w w3 := b2.trans (hb.mono b2.size)
        clear b2 hb
        have q := HT.out.long1 w3 b3
        go_wp2_with fail
        refine q.mono ?_
        clear q
        rintro e w4 ⟨rfl, hb⟩
        have b4 : Below w.heap.size w w4 := b3.trans (hb.mono b3.size)
        clear b3 hb
        have q := HT.out.long2 w4 b4
        go_wp2_with fail
        refine q.mono ?_
        clear q
        rintro e w5 ⟨rfl, hb⟩
        have b5 : Below w.heap.size w w5 := b4.trans (hb.mono b4.size)
        clear b4 hb
        have q := HT.out.on1 w5 b5
        go_wp2_with fail
        refine q.mono ?_
        clear q
        rintro e w6 ⟨rfl, hb⟩
        have b6 : Below w.heap.size w w6 := b5.trans (hb.mono b5.size)
        clear b5 hb
        have q := HT.out.on2 w6 b6
        go_wp2_with fail
        refine q.mono ?_
        clear q
        rintro e w7 ⟨rfl, hb⟩
        have b7 : Below w.heap.size w w7 := b6.trans (hb.mono b6.size)
        clear b6 hb
        go_wp2_with fail
        go_ret
        exact ⟨rfl, b7⟩
    · have e0 : (d != 0) = true := by simpa using h1
      have HE1 : Hid (same22 0 d l r = (false, d)) := by rw [Hid, same22, if_pos rfl, if_neg h1]
      have HE2 : Hid (same22 d 0 r l = (false, d)) := by rw [Hid, same22, if_neg h1]
      clear h1
      go_enter Try.func6, Try.ntmps6
      go_wp2_with fail
      refine HA.mono ?_
      rintro e w1 ⟨rfl, b1⟩
      clear HA b0
      have q := HT.out.same w1 b1
      rw [HE1.out] at q
      go_wp2_with fail
      refine q.mono ?_
      clear q
      rintro e w2 ⟨rfl, hb⟩
      have b2 : Below w.heap.size w w2 := b1.trans (hb.mono b1.size)
      clear b1 hb
      have q := HT.out.back w2 b2
      rw [HE2.out] at q
      go_wp2_with fail
      refine q.mono ?_
      clear q
      rintro e w3 ⟨rfl, hb⟩
      have b3 : Below w.heap.size w w3 := b2.trans (hb.mono b2.size)
      clear b2 hb
      have q := HT.out.long1 w3 b3
      go_wp2_with fail
      refine q.mono ?_
      clear q
      rintro e w4 ⟨rfl, hb⟩
      have b4 : Below w.heap.size w w4 := b3.trans (hb.mono b3.size)
      clear b3 hb
      have q := HT.out.long2 w4 b4
      go_wp2_with fail
      refine q.mono ?_
      clear q
      rintro e w5 ⟨rfl, hb⟩
      have b5 : Below w.heap.size w w5 := b4.trans (hb.mono b4.size)
      clear b4 hb
      go_wp2_with fail
      go_ret
      exact ⟨rfl, b5⟩
  · have e0 : (c != 0) = true := by simpa using h0
    have HE1 : Hid (same22 c d l r = (false, c)) := by rw [Hid, same22, if_neg h0]
    have HE2 : Hid ((same22 d c r l).1 = false) := by
      rw [Hid, same22]
      by_cases h1 : d = 0
      · rw [if_pos h1, if_neg h0]
      · rw [if_neg h1]
    clear h0
    go_enter Try.func6, Try.ntmps6
    go_wp2_with fail
    refine HA.mono ?_
    rintro e w1 ⟨rfl, b1⟩
    clear HA b0
    have q := HT.out.same w1 b1
    rw [HE1.out] at q
    go_wp2_with fail
    refine q.mono ?_
    clear q
    rintro e w2 ⟨rfl, hb⟩
    have b2 : Below w.heap.size w w2 := b1.trans (hb.mono b1.size)
    clear b1 hb
    have q := HT.out.back w2 b2
    rw [HE2.out] at q
    go_wp2_with fail
    refine q.mono ?_
    clear q
    rintro e w3 ⟨rfl, hb⟩
    have b3 : Below w.heap.size w w3 := b2.trans (hb.mono b2.size)
    clear b2 hb
    have q := HT.out.long1 w3 b3
    go_wp2_with fail
    refine q.mono ?_
    clear q
    rintro e w4 ⟨rfl, hb⟩
    have b4 : Below w.heap.size w w4 := b3.trans (hb.mono b3.size)
    clear b3 hb
    have q := HT.out.long2 w4 b4
    go_wp2_with fail
    refine q.mono ?_
    clear q
    rintro e w5 ⟨rfl, hb⟩
    have b5 : Below w.heap.size w w5 := b4.trans (hb.mono b4.size)
    clear b4 hb
    go_wp2_with fail
    go_ret
    exact ⟨rfl, b5⟩
end Go.Proofs.Ytnpaoekblfflmaa
