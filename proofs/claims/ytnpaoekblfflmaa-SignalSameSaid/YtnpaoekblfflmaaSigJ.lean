/- signal.Same. -/
import Derived.Test.YtnpaoekblfflmaaSigI
namespace Go.Proofs.Ytnpaoekblfflmaa
open Go.RowKit Go.Shelf
attribute [local go_sem ↓] Go.wp_at_zero Go.wp_at_succ

set_option maxHeartbeats 1000000 in
theorem same_any (p : Int) (v v' : Value) (l r : List (Int × Int)) (w : World) (hs : Segs w w.heap.size v l) (hs' : Segs w w.heap.size v' r) (hr : ∀ s ∈ l, InR s) (hr' : ∀ s ∈ r, InR s) :
    Calls Try.prog 23 #[.int .i64 p, v, v'] w fun e w' => e = .returned (.tuple #[.bool (same22 (checkP p l) (checkP p r) l r).1, .int .i64 (same22 (checkP p l) (checkP p r) l r).2]) ∧ Below w.heap.size w w' := by
  have HS := Lib.hid hs
  have HS' := Lib.hid hs'
  have HR := Lib.hid hr
  have HR' := Lib.hid hr'
  clear hr hr'
  have hc0 : ∀ w1, Below w.heap.size w w1 → Calls Try.prog 25 #[.int .i64 p, v] w1 fun e w' => e = .returned (.int .i64 (checkP p l)) ∧ Below w1.heap.size w1 w' := fun w1 hb => check_any p v l w1 ((HS.out.below hb).mono hb.size)
  have hd0 : ∀ w1, Below w.heap.size w w1 → Calls Try.prog 25 #[.int .i64 p, v'] w1 fun e w' => e = .returned (.int .i64 (checkP p r)) ∧ Below w1.heap.size w1 w' := fun w1 hb => check_any p v' r w1 ((HS'.out.below hb).mono hb.size)
  obtain ⟨c, hc⟩ : ∃ c, checkP p l = c := ⟨_, rfl⟩
  obtain ⟨d, hd⟩ : ∃ d, checkP p r = d := ⟨_, rfl⟩
  simp only [hc] at hc0 ⊢
  simp only [hd] at hd0 ⊢
  have HC := Lib.hid hc0
  have HD := Lib.hid hd0
  have HKc := Lib.hid hc
  have HKd := Lib.hid hd
  clear hd0 hc hd hc0
  obtain ⟨a, cap, rfl, hm, h, hr⟩ := hs
  obtain ⟨a', cap', rfl, hm', h', hr'⟩ := hs'
  clear h hr h' hr'
  obtain ⟨W0, hW0⟩ : ∃ W0 : World, w.alloc (.cells #[.slice a l.length cap, .slice a' r.length cap'] 29) = W0 := ⟨_, rfl⟩
  have b0 : Hid (Below w.heap.size w W0) := by rw [← hW0]; exact (Below.refl _ _).alloc (Nat.le_refl _) _
  have q0 : W0.cell? ⟨w.heap.size, 0, none⟩ = some (.slice a l.length cap) := by rw [← hW0]; simp [World.cell?_alloc_at]
  have q1 : W0.cell? ⟨w.heap.size, 1, none⟩ = some (.slice a' r.length cap') := by rw [← hW0]; simp [World.cell?_alloc_at]
  have hz0 : W0.heap.size = w.heap.size + 1 := by rw [← hW0]; simp
  have Q0 := Lib.hid q0
  have Q1 := Lib.hid q1
  clear q0 q1
  go_enter Try.func23, Try.ntmps23
  go_wp2_with fail
  have HW := Lib.hid hW0
  clear hW0
  go_loopw [15] (fun i wr => ∃ (k : Nat), k ≤ 2 ∧ i = .int .i64 k ∧ (1 ≤ k → c = 0) ∧ (2 ≤ k → d = 0) ∧ Below W0.heap.size W0 wr) (fun i _ => 2 - (intOf i).toNat)
  case atStart => exact ⟨0, by omega, rfl, by omega, by omega, Below.refl _ _⟩
  case round =>
    obtain ⟨k, hk, rfl, hk1, hk2, hbw⟩ := hrel
    have c0 : wr.cell? ⟨w.heap.size, 0, none⟩ = some (.slice a l.length cap) := (hbw.cell (p := ⟨w.heap.size, 0, none⟩) (by show w.heap.size < _; omega)).trans Q0.out
    have c1 : wr.cell? ⟨w.heap.size, 1, none⟩ = some (.slice a' r.length cap') := (hbw.cell (p := ⟨w.heap.size, 1, none⟩) (by show w.heap.size < _; omega)).trans Q1.out
    have hbw' : Below w.heap.size w wr := b0.out.trans (hbw.mono (by omega))
    rcases (by omega : k = 0 ∨ k = 1 ∨ k = 2) with rfl | rfl | rfl
    · clear hk1 hk2
      have HC1 := HC.out wr hbw'
      by_cases h0 : c = 0
      · subst h0
        go_wp2_with fail
        refine HC1.mono ?_
        rintro e w1 ⟨rfl, hb1⟩
        clear HC1
        go_wp2_with fail
        refine ⟨⟨1, by omega, rfl, fun _ => by simp, fun h => absurd h (by omega), hbw.trans (hb1.mono hbw.size)⟩, by simp [intOf]⟩
      · have d0 : (c != 0) = true := by simpa using h0
        have HN : Hid (same22 c d l r = (false, c)) := by rw [Hid, same22, if_neg h0]
        clear h0
        go_wp2_with fail
        refine HC1.mono ?_
        rintro e w1 ⟨rfl, hb1⟩
        clear HC1
        go_wp2_with fail
        go_ret2
        exact ⟨by rw [HN.out]; rfl, hbw'.trans (hb1.mono hbw'.size)⟩
    · have hcz := hk1 (by omega)
      subst hcz
      clear hk1 hk2
      have HD1 := HD.out wr hbw'
      by_cases h0 : d = 0
      · subst h0
        go_wp2_with fail
        refine HD1.mono ?_
        rintro e w1 ⟨rfl, hb1⟩
        clear HD1
        go_wp2_with fail
        refine ⟨⟨2, by omega, rfl, fun _ => by simp, fun _ => by simp, hbw.trans (hb1.mono hbw.size)⟩, by simp [intOf]⟩
      · have d0 : (d != 0) = true := by simpa using h0
        have HN : Hid (same22 0 d l r = (false, d)) := by rw [Hid, same22, if_pos rfl, if_neg h0]
        clear h0
        go_wp2_with fail
        refine HD1.mono ?_
        rintro e w1 ⟨rfl, hb1⟩
        clear HD1
        go_wp2_with fail
        go_ret2
        exact ⟨by rw [HN.out]; rfl, hbw'.trans (hb1.mono hbw'.size)⟩
    · have hcz := hk1 (by omega)
      have hdz := hk2 (by omega)
      subst hcz hdz
      clear hk1 hk2
      have HN : Hid (same22 0 0 l r = (decide (mergedL l = mergedL r), 0)) := by rw [Hid, same22, if_pos rfl, if_pos rfl]
      have hl1 := checkP_short HKc.out
      have hl2 := checkP_short HKd.out
      have HM := merged_any _ l wr ((HS.out.below hbw').mono hbw'.size) (by omega)
      go_wp2_with fail
      refine HM.mono ?_
      rintro e w3 ⟨⟨v3, rfl, ho3⟩, hb3⟩
      clear HM
      have hb3' : Below w.heap.size w w3 := hbw'.trans (hb3.mono hbw'.size)
      have HM := merged_any _ r w3 ((HS'.out.below hb3').mono hb3'.size) (by omega)
      have HO3 := Lib.hid ho3
      clear ho3
      go_wp2_with fail
      refine HM.mono ?_
      rintro e w4 ⟨⟨v4, rfl, ho4⟩, hb4⟩
      clear HM
      have hb4' : Below w.heap.size w w4 := hb3'.trans (hb4.mono hb3'.size)
      have hg3 := (HO3.out.below hb4).segs (by have := mergedL_length l; omega) (mergedL_range HR.out)
      have hg4 := ho4.segs (by have := mergedL_length r; omega) (mergedL_range HR'.out)
      have HQ := equal39_any _ _ _ _ w4 hg3 hg4
      clear hg3 hg4 ho4
      go_wp2_with fail
      refine HQ.mono ?_
      rintro e w5 ⟨rfl, hb5⟩
      clear HQ
      go_wp2_with fail
      go_ret2
      exact ⟨by rw [HN.out]; rfl, hb4'.trans (hb5.mono hb4'.size)⟩
end Go.Proofs.Ytnpaoekblfflmaa
