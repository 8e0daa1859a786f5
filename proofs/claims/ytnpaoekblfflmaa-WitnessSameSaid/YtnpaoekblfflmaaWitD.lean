import Derived.Test.YtnpaoekblfflmaaWitC
namespace Go.Proofs.Ytnpaoekblfflmaa
open Go.RowKit

theorem below2 (w : World) (o o' : Obj) : Below w.heap.size w ((w.alloc o).alloc o') := ((Below.refl _ _).alloc (Nat.le_refl _) o).alloc (by simp) o'

theorem cell2 {w w1 : World} {C C' : Array Value} {t t' : TypeId} (hb : Below ((w.alloc (.cells C t)).alloc (.cells C' t')).heap.size ((w.alloc (.cells C t)).alloc (.cells C' t')) w1) (i : Nat) :
    w1.cell? ⟨w.heap.size, i, none⟩ = C[i]? ∧ w1.cell? ⟨w.heap.size + 1, i, none⟩ = C'[i]? := by
  refine ⟨(hb.cell (p := ⟨w.heap.size, i, none⟩) (by simp only [World.size_alloc]; omega)).trans ?_, (hb.cell (p := ⟨w.heap.size + 1, i, none⟩) (by simp only [World.size_alloc]; omega)).trans ?_⟩
  · rw [World.cell?_alloc_past _ _ _ (by simp), World.cell?_alloc_at _ _ _ _ rfl]
  · rw [World.cell?_alloc_at _ _ _ _ (by simp)]

theorem sameT_k {n : Nat} {k1 s1 k2 s2 : Int} {l1 l2 : List (Int × Int)} {o1 o2 : List (PT n)} (h : k1 ≠ k2) : sameT (n + 1) (k1, s1, l1, o1) (k2, s2, l2, o2) = false := by
  have : (k1 == k2) = false := by simpa using h
  simp [sameT, this]
theorem sameT_s {n : Nat} {k1 s1 k2 s2 : Int} {l1 l2 : List (Int × Int)} {o1 o2 : List (PT n)} (h : s1 ≠ s2) : sameT (n + 1) (k1, s1, l1, o1) (k2, s2, l2, o2) = false := by
  have : (s1 == s2) = false := by simpa using h
  simp [sameT, this]
theorem sameT_l {n : Nat} {k1 s1 k2 s2 : Int} {l1 l2 : List (Int × Int)} {o1 o2 : List (PT n)} (h : decide (l1 = l2) = false) : sameT (n + 1) (k1, s1, l1, o1) (k2, s2, l2, o2) = false := by
  simp only [sameT, h]; simp
theorem sameT_o {n : Nat} {k s : Int} {l1 l2 : List (Int × Int)} {o1 o2 : List (PT n)} (h : decide (l1 = l2) = true) : sameT (n + 1) (k, s, l1, o1) (k, s, l2, o2) = sameL (sameT n) o1 o2 := by
  simp only [sameT, h]; simp

set_option maxHeartbeats 400000 in
theorem same_any (n : Nat) : SameC 12 n := by
  induction n with
  | zero => intro t1 t2 v1 v2 w B h; exact h.elim
  | succ n ih =>
    intro t1 t2 v1 v2 w B h1 h2 hB
    obtain ⟨k1, s1, ats1, of1⟩ := t1
    obtain ⟨k2, s2, ats2, of2⟩ := t2
    obtain ⟨va1, a1, c1, rfl, hm1, hr1, h1⟩ := h1
    obtain ⟨va2, a2, c2, rfl, hm2, hr2, h2⟩ := h2
    obtain ⟨x1, y1, rfl, hn1, hr1⟩ := hr1
    obtain ⟨x2, y2, rfl, hn2, hr2⟩ := hr2
    dsimp only at h1 h2 hr1 hr2 hm1 hm2 hn1 hn2 ⊢
    have IH := Lib.hid ih
    clear ih
    by_cases hk : k1 = k2
    · by_cases hs : s1 = s2
      · have f1 : (k1 == k2) = true := by simpa using hk
        have f2 : (s1 == s2) = true := by simpa using hs
        subst hk hs
        have bw := (below2 w (.cells #[.int .u8 k1, .int .u8 s1, .slice x1 ats1.length y1, .slice a1 of1.length c1] 25) (.cells #[.int .u8 k1, .int .u8 s1, .slice x2 ats2.length y2, .slice a2 of2.length c2] 25))
        have R1 : Hid (RatsRep ((w.alloc (.cells #[.int .u8 k1, .int .u8 s1, .slice x1 ats1.length y1, .slice a1 of1.length c1] 25)).alloc (.cells #[.int .u8 k1, .int .u8 s1, .slice x2 ats2.length y2, .slice a2 of2.length c2] 25)) B (.slice x1 ats1.length y1) ats1) := RatsRep.below (bw.mono hB) ⟨_, _, rfl, hn1, hr1⟩
        have R2 : Hid (RatsRep ((w.alloc (.cells #[.int .u8 k1, .int .u8 s1, .slice x1 ats1.length y1, .slice a1 of1.length c1] 25)).alloc (.cells #[.int .u8 k1, .int .u8 s1, .slice x2 ats2.length y2, .slice a2 of2.length c2] 25)) B (.slice x2 ats2.length y2) ats2) := RatsRep.below (bw.mono hB) ⟨_, _, rfl, hn2, hr2⟩
        have P1 : Hid (PartsRep w B n a1 of1) := h1
        have P2 : Hid (PartsRep w B n a2 of2) := h2
        clear h1 h2 hr1 hr2
        cases hl : decide (ats1 = ats2)
        · have HL := Lib.hid hl
          clear hl
          have HT := Lib.hid (sameT_l (n := n) (k1 := k1) (s1 := s1) (k2 := k1) (s2 := s1) (o1 := of1) (o2 := of2) HL.out)
          go_enter Try.func12, Try.ntmps12
          go_wp2_with fail
          refine (eqrats_any _ _ ats1 ats2 _ B R1.out R2.out (by simp; omega)).mono ?_
          rintro e w1 ⟨rfl, hb1⟩
          rw [HL.out]
          clear f1 f2
          go_wp2_with fail
          go_ret
          exact ⟨by rw [HT.out]; rfl, bw.trans (hb1.mono (by simp; omega))⟩
        · have HL := Lib.hid hl
          clear hl
          have HT := Lib.hid (sameT_o (n := n) (k := k1) (s := s1) (o1 := of1) (o2 := of2) HL.out)
          go_enter Try.func12, Try.ntmps12
          go_wp2_with fail
          refine (eqrats_any _ _ ats1 ats2 _ B R1.out R2.out (by simp; omega)).mono ?_
          rintro e w1 ⟨rfl, hb1⟩
          rw [HL.out]
          have g1 : w1.cell? ⟨w.heap.size, 3, none⟩ = some (.slice a1 of1.length c1) := (cell2 hb1 3).1
          have g2 : w1.cell? ⟨w.heap.size + 1, 3, none⟩ = some (.slice a2 of2.length c2) := (cell2 hb1 3).2
          have bz := bw.trans (hb1.mono (by simp; omega))
          have Q1 : Hid (PartsRep w1 B n a1 of1) := PartsRep.below (bz.mono hB) P1.out
          have Q2 : Hid (PartsRep w1 B n a2 of2) := PartsRep.below (bz.mono hB) P2.out
          have hz := bz.size
          clear f1 f2
          go_wp2_with fail
          refine (eqfunc_any n IH.out a1 a2 c1 c2 of1 of2 _ B hm1 hm2 Q1.out Q2.out (by omega)).mono ?_
          rintro e w2 ⟨rfl, hb2⟩
          clear g1 g2
          go_wp2_with fail
          go_ret
          exact ⟨by rw [HT.out]; rfl, bz.trans (hb2.mono hz)⟩
      · have f1 : (k1 == k2) = true := by simpa using hk
        have f2 : (s1 == s2) = false := by simpa using hs
        have HT := Lib.hid (sameT_s (n := n) (k1 := k1) (k2 := k2) (l1 := ats1) (l2 := ats2) (o1 := of1) (o2 := of2) hs)
        clear hk hs h1 h2 hr1 hr2
        go_enter Try.func12, Try.ntmps12
        go_wp2_with fail
        go_ret
        exact ⟨by rw [HT.out]; rfl, below2 _ _ _⟩
    · have f1 : (k1 == k2) = false := by simpa using hk
      have HT := Lib.hid (sameT_k (n := n) (s1 := s1) (s2 := s2) (l1 := ats1) (l2 := ats2) (o1 := of1) (o2 := of2) hk)
      clear hk h1 h2 hr1 hr2
      go_enter Try.func12, Try.ntmps12
      go_wp2_with fail
      go_ret
      exact ⟨by rw [HT.out]; rfl, below2 _ _ _⟩
end Go.Proofs.Ytnpaoekblfflmaa
