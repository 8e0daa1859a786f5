import Derived.Test.YtnpaoekblfflmaaWitD
import Derived.StillTailTactics
namespace Go.Proofs.Ytnpaoekblfflmaa
open Go.RowKit

theorem sameT_llen {n : Nat} {k1 s1 k2 s2 : Int} {l1 l2 : List (Int × Int)} {o1 o2 : List (PT n)} (h : l1.length ≠ l2.length) : sameT (n + 1) (k1, s1, l1, o1) (k2, s2, l2, o2) = false :=
  sameT_l (by rw [decide_eq_false_iff_not]; intro e; exact h (by rw [e]))
theorem sameT_olen {n : Nat} {k1 s1 k2 s2 : Int} {l1 l2 : List (Int × Int)} {o1 o2 : List (PT n)} (h : o1.length ≠ o2.length) : sameT (n + 1) (k1, s1, l1, o1) (k2, s2, l2, o2) = false := by
  simp [sameT, sameL_len _ _ _ h]
theorem sameT_kk {n : Nat} {k s : Int} {l1 l2 : List (Int × Int)} {o1 o2 : List (PT n)} : sameT (n + 1) (k, s, l1, o1) (k, s, l2, o2) = (decide (l1 = l2) && sameL (sameT n) o1 o2) := by
  simp [sameT]

set_option maxHeartbeats 800000 in
theorem refsame_any (n : Nat) : SameC 13 n := by
  induction n with
  | zero => intro t1 t2 v1 v2 w B h; exact h.elim
  | succ n ih =>
    intro t1 t2 v1 v2 w B h1 h2 hB
    obtain ⟨k1, s1, ats1, of1⟩ := t1
    obtain ⟨k2, s2, ats2, of2⟩ := t2
    obtain ⟨va1, a1, c1, rfl, hm1, hr1, h1⟩ := h1
    obtain ⟨va2, a2, c2, rfl, hm2, hr2, h2⟩ := h2
    obtain ⟨x1, y1, rfl, hn1, hr1⟩ := hr1
    obtain ⟨x2, y2, rfl, hn2, hr2⟩ := hr2
    dsimp only at h1 h2 hr1 hr2 hm1 hm2 hn1 hn2 ⊢
    have IH := Lib.hid ih
    clear ih
    by_cases hk : k1 = k2
    · by_cases hs : s1 = s2
      · have f1 : (k1 != k2) = false := by simpa using hk
        have f2 : (s1 != s2) = false := by simpa using hs
        subst hk hs
        by_cases hL : ats1.length = ats2.length
        · by_cases hO : of1.length = of2.length
          · have f3 : ((ats1.length : Int) != (ats2.length : Int)) = false := by simp; omega
            have f4 : ((of1.length : Int) != (of2.length : Int)) = false := by simp; omega
            have HL := Lib.hid hL
            have HO := Lib.hid hO
            clear hL hO
            have H0 : Hid (sameT (n + 1) (k1, s1, ats1, of1) (k1, s1, ats2, of2) = (sameL (fun a b => decide (a = b)) (ats1.drop 0) (ats2.drop 0) && sameL (sameT n) of1 of2)) := by
              rw [sameT_kk, List.drop_zero, List.drop_zero, sameL_eq]; rfl
            go_enter Try.func13, Try.ntmps13
            go_wp2_with fail
            clear f1 f2 f4
            go_loopw [5] (fun i wr => ∃ j : Nat, j ≤ ats1.length ∧ i = .int .i64 j ∧ Hid (sameT (n + 1) (k1, s1, ats1, of1) (k1, s1, ats2, of2) = (sameL (fun a b => decide (a = b)) (ats1.drop j) (ats2.drop j) && sameL (sameT n) of1 of2)) ∧ Below w.heap.size w wr ∧ w.heap.size + 1 < wr.heap.size ∧ (wr.cell? ⟨w.heap.size, 2, none⟩ = some (.slice x1 ats1.length y1) ∧ wr.cell? ⟨w.heap.size, 3, none⟩ = some (.slice a1 of1.length c1) ∧ wr.cell? ⟨w.heap.size + 1, 2, none⟩ = some (.slice x2 ats2.length y2) ∧ wr.cell? ⟨w.heap.size + 1, 3, none⟩ = some (.slice a2 of2.length c2))) (fun i _ => ats1.length - (intOf i).toNat)
            case atStart => exact ⟨0, Nat.zero_le _, rfl, H0, below2 _ _ _, by simp, by simp, by simp, by simp [World.cell?_alloc_at], by simp [World.cell?_alloc_at]⟩
            case round =>
              obtain ⟨j, hj, rfl, hR, hbw, hsz, b1, b2, b3, b4⟩ := hrel
              by_cases hlt : j < ats1.length
              · have hlt2 : j < ats2.length := by have := HL.out; omega
                rcases hr1 with hr1 | ⟨p1, o1, rfl, hp1, hc1⟩
                · rw [hr1] at hlt; exact absurd hlt (by simp)
                rcases hr2 with hr2 | ⟨p2, o2, rfl, hp2, hc2⟩
                · rw [hr2] at hlt2; exact absurd hlt2 (by simp)
                obtain ⟨z1, z2⟩ := hc1 j hlt
                obtain ⟨u1, u2⟩ := hc2 j hlt2
                have z1 := (hbw.cell (p := ⟨p1, _, none⟩) (show p1 < w.heap.size by omega)).trans z1
                have z2 := (hbw.cell (p := ⟨p1, _, none⟩) (show p1 < w.heap.size by omega)).trans z2
                have u1 := (hbw.cell (p := ⟨p2, _, none⟩) (show p2 < w.heap.size by omega)).trans u1
                have u2 := (hbw.cell (p := ⟨p2, _, none⟩) (show p2 < w.heap.size by omega)).trans u2
                have hS := Lib.hid (sameL_drop (fun a b => decide (a = b)) ats1 ats2 j hlt hlt2)
                clear hc1 hc2 h1 h2
                by_cases e1 : ats1[j].1 = ats2[j].1
                · by_cases e2 : ats1[j].2 = ats2[j].2
                  · have HD : Hid (decide (ats1[j] = ats2[j]) = true) := by rw [decide_eq_true_eq]; exact Prod.ext e1 e2
                    have g1 : (ats1[j].1 == ats2[j].1) = true := by simpa using e1
                    have g2 : (ats1[j].2 == ats2[j].2) = true := by simpa using e2
                    clear e1 e2
                    go_wp2_with fail
                    go_quiet (fail)
                    go_wp2_with fail
                    go_roundw
                    case rel => exact ⟨j + 1, by omega, by go_num, by rw [hR.out, hS.out, HD.out, Bool.true_and]; rfl, below_drewN hbw _, hsz, b1, b2, b3, b4⟩
                    case measure => simp [intOf]; omega
                  · have HD : Hid (decide (ats1[j] = ats2[j]) = false) := by rw [decide_eq_false_iff_not]; intro h; exact e2 (by rw [h])
                    have g1 : (ats1[j].1 == ats2[j].1) = true := by simpa using e1
                    have g2 : (ats1[j].2 == ats2[j].2) = false := by simpa using e2
                    clear e1 e2
                    go_wp2_with fail
                    go_quiet (fail)
                    go_wp2_with fail
                    go_ret
                    exact ⟨by rw [hR.out, hS.out, HD.out]; rfl, below_drewN hbw _⟩
                · have HD : Hid (decide (ats1[j] = ats2[j]) = false) := by rw [decide_eq_false_iff_not]; intro h; exact e1 (by rw [h])
                  have g1 : (ats1[j].1 == ats2[j].1) = false := by simpa using e1
                  clear e1
                  go_wp2_with fail
                  go_quiet (fail)
                  go_wp2_with fail
                  go_ret
                  exact ⟨by rw [hR.out, hS.out, HD.out]; rfl, below_drewN hbw _⟩
              · have HE : Hid (sameT (n + 1) (k1, s1, ats1, of1) (k1, s1, ats2, of2) = sameL (sameT n) (of1.drop 0) (of2.drop 0)) := by
                  rw [hR.out, show j = ats1.length by omega, sameL_end _ ats1 ats2 HL.out, Bool.true_and]; rfl
                clear hR hr1 hr2
                obtain ⟨wo, hwo⟩ : ∃ wo : World, wo = wr := ⟨_, rfl⟩
                subst hwo
                go_wp2_with fail
                go_loopw [6] (fun i wr => ∃ j : Nat, j ≤ of1.length ∧ i = .int .i64 j ∧ Hid (sameT (n + 1) (k1, s1, ats1, of1) (k1, s1, ats2, of2) = sameL (sameT n) (of1.drop j) (of2.drop j)) ∧ Below w.heap.size w wr ∧ w.heap.size + 1 < wr.heap.size ∧ (wr.cell? ⟨w.heap.size, 3, none⟩ = some (.slice a1 of1.length c1) ∧ wr.cell? ⟨w.heap.size + 1, 3, none⟩ = some (.slice a2 of2.length c2))) (fun i _ => of1.length - (intOf i).toNat)
                case atStart => exact ⟨0, Nat.zero_le _, rfl, HE, hbw, hsz, b2, b4⟩
                case round =>
                  clear hbw hsz b1 b2 b3 b4
                  obtain ⟨j, hj, rfl, hR, hbw, hsz, b2, b4⟩ := hrel
                  by_cases hlt : j < of1.length
                  · have hlt2 : j < of2.length := by have := HO.out; omega
                    rcases h1 with h1 | ⟨p1, o1, rfl, hp1, hc1⟩
                    · rw [h1] at hlt; exact absurd hlt (by simp)
                    rcases h2 with h2 | ⟨p2, o2, rfl, hp2, hc2⟩
                    · rw [h2] at hlt2; exact absurd hlt2 (by simp)
                    obtain ⟨k3, s3, x3, l3, e3, y3, m3, q3, d0, d1, d2, d3, hp⟩ := part_cells hB hbw hp1 hc1 j hlt
                    obtain ⟨k4, s4, x4, l4, e4, y4, m4, q4, g0, g1, g2, g3, hq⟩ := part_cells hB hbw hp2 hc2 j hlt2
                    have hS := Lib.hid (sameL_drop (sameT n) of1 of2 j hlt hlt2)
                    clear hc1 hc2
                    have hsw := hbw.size
                    have hp' := PRep.below ((Below.refl B wr).drew) n hp
                    have hq' := PRep.below ((Below.refl B wr).drew) n hq
                    clear hp hq
                    cases hb : sameT n of1[j] of2[j]
                    · have HB := Lib.hid hb
                      clear hb
                      go_wp2_with fail
                      go_still_tail 10, (by kernel_rfl)
                      change wpList _ _ _ _ _ wr.drew
                      go_wp2_with fail
                      refine (IH.out _ _ _ _ _ B hp' hq' (show B ≤ wr.heap.size by omega)).mono ?_
                      rintro e w1 ⟨rfl, hb1⟩
                      clear hp' hq' b2 b4
                      rw [HB.out]
                      go_wp2_with fail
                      go_ret
                      exact ⟨by rw [hR.out, hS.out, HB.out]; rfl, (hbw.drew).trans (hb1.mono (show w.heap.size ≤ wr.heap.size by omega))⟩
                    · have HB := Lib.hid hb
                      clear hb
                      go_wp2_with fail
                      go_still_tail 10, (by kernel_rfl)
                      change wpList _ _ _ _ _ wr.drew
                      go_wp2_with fail
                      refine (IH.out _ _ _ _ _ B hp' hq' (show B ≤ wr.heap.size by omega)).mono ?_
                      rintro e w1 ⟨rfl, hb1⟩
                      clear hp' hq'
                      rw [HB.out]
                      have hbz : Below w.heap.size w w1 := (hbw.drew).trans (hb1.mono (show w.heap.size ≤ wr.heap.size by omega))
                      have hz : w.heap.size + 1 < w1.heap.size := by have : wr.heap.size ≤ w1.heap.size := hb1.size; omega
                      have b2' := (hb1.cell (p := ⟨w.heap.size, 3, none⟩) (show w.heap.size < wr.heap.size by omega)).trans b2
                      have b4' := (hb1.cell (p := ⟨w.heap.size + 1, 3, none⟩) (show w.heap.size + 1 < wr.heap.size by omega)).trans b4
                      clear b2 b4
                      go_wp2_with fail
                      go_roundw
                      case rel => exact ⟨j + 1, by omega, by go_num, by rw [hR.out, hS.out, HB.out]; rfl, hbz, hz, b2', b4'⟩
                      case measure => simp [intOf]; omega
                  · have HE : Hid (sameL (sameT n) (of1.drop j) (of2.drop j) = true) := by
                      rw [show j = of1.length by omega]; exact sameL_end _ of1 of2 HO.out
                    clear h1 h2
                    go_wp2_with fail
                    go_ret
                    exact ⟨by rw [hR.out, HE.out]; rfl, hbw⟩
          · have f3 : ((ats1.length : Int) != (ats2.length : Int)) = false := by simp; omega
            have f4 : ((of1.length : Int) != (of2.length : Int)) = true := by simp; omega
            have HT := Lib.hid (sameT_olen (n := n) (k1 := k1) (s1 := s1) (k2 := k1) (s2 := s1) (l1 := ats1) (l2 := ats2) (o1 := of1) (o2 := of2) hO)
            clear hO hL h1 h2 hr1 hr2
            go_enter Try.func13, Try.ntmps13
            go_wp2_with fail
            go_ret
            exact ⟨by rw [HT.out]; rfl, below2 _ _ _⟩
        · have f3 : ((ats1.length : Int) != (ats2.length : Int)) = true := by simp; omega
          have HT := Lib.hid (sameT_llen (n := n) (k1 := k1) (s1 := s1) (k2 := k1) (s2 := s1) (l1 := ats1) (l2 := ats2) (o1 := of1) (o2 := of2) hL)
          clear hL h1 h2 hr1 hr2
          go_enter Try.func13, Try.ntmps13
          go_wp2_with fail
          go_ret
          exact ⟨by rw [HT.out]; rfl, below2 _ _ _⟩
      · have f1 : (k1 != k2) = false := by simpa using hk
        have f2 : (s1 != s2) = true := by simpa using hs
        have HT := Lib.hid (sameT_s (n := n) (k1 := k1) (k2 := k2) (l1 := ats1) (l2 := ats2) (o1 := of1) (o2 := of2) hs)
        clear hk hs h1 h2 hr1 hr2
        go_enter Try.func13, Try.ntmps13
        go_wp2_with fail
        go_ret
        exact ⟨by rw [HT.out]; rfl, below2 _ _ _⟩
    · have f1 : (k1 != k2) = true := by simpa using hk
      have HT := Lib.hid (sameT_k (n := n) (s1 := s1) (s2 := s2) (l1 := ats1) (l2 := ats2) (o1 := of1) (o2 := of2) hk)
      clear hk h1 h2 hr1 hr2
      go_enter Try.func13, Try.ntmps13
      go_wp2_with fail
      go_ret
      exact ⟨by rw [HT.out]; rfl, below2 _ _ _⟩
end Go.Proofs.Ytnpaoekblfflmaa
