/- dbm.Top walked; slices.Equal on bounds, Same. -/
import Derived.Deep.Cut
import Derived.LoopTactic
import Derived.LoopIn
import Derived.Maps.OwnIn
import Derived.Deep.QuietTactic
import Derived.Test.YtockinpjfhhkoaaGreatDoorAtF
namespace Go.Proofs.YtockinpjfhhkoaaGreatDoor
open Go.RowKit Go.Shelf
attribute [local go_sem ↓] Go.wp_at_zero Go.wp_at_succ

set_option maxRecDepth 100000 in
set_option maxHeartbeats 4000000 in
theorem equal124_any (g g' c c' : Nat) (L M : List Int) (w : World) (h : RowB w g L) (h' : RowB w g' M) (hlb : L.length ≤ 100) (hlm : M.length ≤ 100) :
    Calls Tryz.prog 124 #[.slice (some ⟨g, 0, none⟩) L.length c, .slice (some ⟨g', 0, none⟩) M.length c'] w fun e w' => e = .returned (.bool (decide (L = M))) ∧ Below w.heap.size w w' := by
  by_cases hlen : L.length = M.length
  · have hl0 : ((L.length : Int) == (M.length : Int)) = true := by simp [hlen]
    have hl1 : ((L.length : Int) != (M.length : Int)) = false := by simp [hlen]
    have H := Lib.hid h
    have H' := Lib.hid h'
    have HLEN := Lib.hid hlen
    have hgl := h.lt
    have hgl' := h'.lt
    clear h h' hlen
    go_enter Tryz.func124, Tryz.ntmps124
    go_wp2_with fail
    go_loopw [13] (fun i wr => ∃ k : Nat, k ≤ L.length ∧ i = .int .i64 k ∧ Hid (L.take k = M.take k) ∧ Hid (Below w.heap.size w wr)) (fun i _ => L.length - (intOf i).toNat)
    case atStart => exact ⟨0, Nat.zero_le _, rfl, rfl, Below.refl _ _⟩
    case round =>
      obtain ⟨k, hk, rfl, HT, HB⟩ := hrel
      have hz := HB.out.size
      by_cases hlt : k < L.length
      · have hlt' : k < M.length := by have := HLEN.out; omega
        have c1 := (H.out.below HB.out).cell k hlt
        have c2 := (H'.out.below HB.out).cell k hlt'
        obtain ⟨x, hx⟩ : ∃ x, L[k] = x := ⟨_, rfl⟩
        obtain ⟨y, hy⟩ : ∃ y, M[k] = y := ⟨_, rfl⟩
        rw [hx] at c1
        rw [hy] at c2
        have hlti : (k : Int) < (M.length : Int) := by omega
        have hg1 : g < wr.heap.size := by omega
        have hg2 : g' < wr.heap.size := by omega
        by_cases he : x = y
        · have HE : Hid (L.take (k + 1) = M.take (k + 1)) := by rw [Hid, List.take_succ_eq_append_getElem hlt, List.take_succ_eq_append_getElem hlt', HT.out, hx, hy, he]
          have q1 : (x == y) = true := by simpa using he
          have q2 : (x != y) = false := by simpa using he
          clear hx hy he HT
          go_wp2_with fail
          go_quiet (fail)
          go_wp2_with fail
          refine ⟨⟨k + 1, by omega, by push_cast; rfl, HE, below_drewN HB.out _⟩, ?_⟩
          simp [intOf]; omega
        · have HE : Hid (decide (L = M) = false) := by
            refine decide_eq_false fun h => ?_
            subst h
            exact he (hx.symm.trans hy)
          have q1 : (x == y) = false := by simpa using he
          have q2 : (x != y) = true := by simpa using he
          clear hx hy he HT
          go_wp2_with fail
          go_quiet (fail)
          go_wp2_with fail
          go_ret
          exact ⟨by rw [HE.out]; rfl, below_drewN HB.out _⟩
      · have HE : Hid (decide (L = M) = true) := by
          have h3 := HT.out
          have h4 := HLEN.out
          obtain rfl : k = L.length := by omega
          rw [List.take_length, h4, List.take_length] at h3
          exact decide_eq_true h3
        have hlt2 : decide ((k : Int) < (M.length : Int)) = false := by have := HLEN.out; simp; omega
        clear HT
        go_wp2_with fail
        go_ret
        exact ⟨by rw [HE.out]; rfl, HB.out⟩
  · have hl0 : ((L.length : Int) == (M.length : Int)) = false := by simp; omega
    have hl1 : ((L.length : Int) != (M.length : Int)) = true := by simp; omega
    have HE : Hid (decide (L = M) = false) := decide_eq_false fun h => hlen (by rw [h])
    clear h h' hlen
    go_enter Tryz.func124, Tryz.ntmps124
    go_wp2_with fail
    go_ret
    exact ⟨by rw [HE.out]; rfl, Below.refl _ _⟩
set_option maxRecDepth 100000 in
set_option maxHeartbeats 4000000 in
theorem same63_any {n m g g' c c' : Nat} {L M : List Int} {w : World} (h : RowB w g L) (h' : RowB w g' M) (hlb : L.length ≤ 100) (hlm : M.length ≤ 100) :
    Calls Tryz.prog 63 #[.agg #[.int .i64 n, .slice (some ⟨g, 0, none⟩) L.length c], .agg #[.int .i64 m, .slice (some ⟨g', 0, none⟩) M.length c']] w fun e w' => e = .returned (.bool (decide (n = m) && decide (L = M))) ∧ Below w.heap.size w w' := by
  obtain ⟨W2, hW2⟩ : ∃ W2, W2 = (w.alloc (.cells #[.int .i64 n, .slice (some ⟨g, 0, none⟩) L.length c] 116)).alloc (.cells #[.int .i64 m, .slice (some ⟨g', 0, none⟩) M.length c'] 116) := ⟨_, rfl⟩
  have hb2 : Below w.heap.size w W2 := by rw [hW2]; exact (belowA _ _).alloc (by simp) _
  have HEQ := Lib.hid (equal124_any g g' c c' L M W2 (h.below hb2) (h'.below hb2) hlb hlm)
  have HB := Lib.hid hb2
  have HW2 := Lib.hid hW2.symm
  clear h h' hlb hlm hb2 hW2
  by_cases hnm : n = m
  · have q1 : ((n : Int) == (m : Int)) = true := by rw [hnm]; simp
    have HD : Hid ((decide (n = m) && decide (L = M)) = decide (L = M)) := by rw [Hid, decide_eq_true hnm]; rfl
    rw [HD.out]
    clear hnm
    go_enter Tryz.func63, Tryz.ntmps63
    go_wp2_with fail
    rw [HW2.out]
    refine HEQ.out.mono ?_
    rintro e w1 ⟨rfl, hb1⟩
    go_wp2_with fail
    all_goals go_ret
    all_goals exact ⟨rfl, HB.out.trans (hb1.mono HB.out.size)⟩
  · have q1 : ((n : Int) == (m : Int)) = false := by simp; omega
    have HD : Hid ((decide (n = m) && decide (L = M)) = false) := by rw [Hid, decide_eq_false hnm]; rfl
    rw [HD.out]
    clear hnm
    go_enter Tryz.func63, Tryz.ntmps63
    go_wp2_with fail
    all_goals go_ret
    all_goals exact ⟨rfl, by rw [HW2.out]; exact HB.out⟩
end Go.Proofs.YtockinpjfhhkoaaGreatDoor
