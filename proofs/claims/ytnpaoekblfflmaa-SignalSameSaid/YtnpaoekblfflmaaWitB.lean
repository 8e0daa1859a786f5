/- The walks of witness.Many, rallentandoref28.Many, Great, slices.Equal at fractions: each computes what WitA says. -/
import Derived.Test.YtnpaoekblfflmaaRows
import Derived.Test.YtnpaoekblfflmaaWitA
import Derived.WalkKit
import Derived.WalkSpells
import Derived.WalkLawsBesides
import Derived.Lib.Hide
import Derived.Deep.QuietTactic
import Derived.BigQuiet
namespace Go.Proofs.Ytnpaoekblfflmaa
open Go.RowKit
theorem ret_int {k : IntKind} {a b : Int} (h : a = b) : Ending.returned (.int k a) = .returned (.int k b) := by rw [h]

set_option maxHeartbeats 400000 in
theorem many_any (n : Nat) : ∀ (t : PT n) (v : Value) (w : World) (B : Nat), PRep w B n t v → B ≤ w.heap.size →
    Calls Try.prog 10 #[v] w fun e w' => e = .returned (.int .i64 (manyT n t)) ∧ Below w.heap.size w w' := by
  induction n with
  | zero => intro t v w B h; exact h.elim
  | succ n ih =>
    intro t v w B h hB
    obtain ⟨k, s, ats, of⟩ := t
    obtain ⟨va, a, cap, rfl, hm, hr, h⟩ := h
    dsimp only at h hr hm ⊢
    clear hr
    go_enter Try.func10, Try.ntmps10
    go_wp2_with fail
    go_loopw [3, 9] (fun m i wr => ∃ j : Nat, j ≤ of.length ∧ i = .int .i64 j ∧ m = .int .i64 (manyTo n of j) ∧ Below w.heap.size w wr ∧ w.heap.size < wr.heap.size) (fun _ i _ => of.length - (intOf i).toNat)
    case atStart => exact ⟨0, Nat.zero_le _, rfl, rfl, (Below.refl _ _).alloc (Nat.le_refl _) _, by simp⟩
    case round =>
      obtain ⟨j, hj, rfl, rfl, hbw, hsz⟩ := hrel
      have hb0 : Below w.heap.size w wr := hbw
      by_cases hlt : j < of.length
      · rcases h with h | ⟨b, off, rfl, hbl, hc⟩
        · rw [h] at hlt; exact absurd hlt (by simp)
        · obtain ⟨k1, s1, a1, l1, e1, a2, l2, e2, d0, d1, d2, d3, hp'⟩ := part_cells hB hbw hbl hc j hlt
          have hS := Lib.hid (manyTo_succ n of j hlt)
          have HC := Lib.hid hc
          clear hc
          go_wp2_with fail
          refine (ih _ _ _ B (PRep.below ((Below.refl B wr).alloc (by omega) _) n hp') (by simp; omega)).mono ?_
          rintro e w1 ⟨rfl, hb1⟩
          clear hp'
          have hb2 : Below w.heap.size w w1 := hbw.trans (((Below.refl w.heap.size wr).alloc (by omega) _).trans (hb1.mono (by simp; omega)))
          have hz : w.heap.size < w1.heap.size := by have := hb1.size; simp at this; omega
          go_wp2_with fail
          go_roundw
          case rel => exact ⟨j + 1, by omega, by go_num, by rw [hS.out], hb2, hz⟩
          case measure => simp [intOf]; omega
      · have hje : j = of.length := by omega
        have hA := Lib.hid (manyTo_all n k s ats of)
        clear h
        go_wp2_with fail
        go_ret
        exact ⟨ret_int (by rw [hje, hA.out]), hbw⟩

set_option maxHeartbeats 400000 in
theorem refmany_any (n : Nat) : ∀ (t : PT n) (v : Value) (w : World) (B : Nat), PRep w B n t v → B ≤ w.heap.size →
    Calls Try.prog 11 #[v] w fun e w' => e = .returned (.int .i64 (manyT n t)) ∧ Below w.heap.size w w' := by
  induction n with
  | zero => intro t v w B h; exact h.elim
  | succ n ih =>
    intro t v w B h hB
    obtain ⟨k, s, ats, of⟩ := t
    obtain ⟨va, a, cap, rfl, hm, ⟨va1, va2, rfl, hr⟩, h⟩ := h
    dsimp only at h hr hm ⊢
    clear hr
    go_enter Try.func11, Try.ntmps11
    go_wp2_with fail
    go_loopw [3, 4] (fun m i wr => ∃ j : Nat, j ≤ of.length ∧ i = .int .i64 j ∧ m = .int .i64 (manyTo n of j) ∧ Below w.heap.size w wr ∧ w.heap.size < wr.heap.size ∧ wr.cell? ⟨w.heap.size, 3, none⟩ = some (.slice a of.length cap)) (fun _ i _ => of.length - (intOf i).toNat)
    case atStart => exact ⟨0, Nat.zero_le _, rfl, rfl, (Below.refl _ _).alloc (Nat.le_refl _) _, by simp, by simp [World.cell?_alloc_at]⟩
    case round =>
      obtain ⟨j, hj, rfl, rfl, hbw, hsz, hbox⟩ := hrel
      by_cases hlt : j < of.length
      · rcases h with h | ⟨b, off, rfl, hbl, hc⟩
        · rw [h] at hlt; exact absurd hlt (by simp)
        · obtain ⟨k1, s1, a1, l1, e1, a2, l2, e2, d0, d1, d2, d3, hp'⟩ := part_cells hB hbw hbl hc j hlt
          have hS := Lib.hid (manyTo_succ n of j hlt)
          have HC := Lib.hid hc
          clear hc
          go_wp2_with fail
          refine (ih _ _ _ B hp' (by omega)).mono ?_
          rintro e w1 ⟨rfl, hb1⟩
          clear hp'
          have hb2 : Below w.heap.size w w1 := hbw.trans (hb1.mono (by omega))
          have hz : w.heap.size < w1.heap.size := by have := hb1.size; omega
          have hx := (hb1.cell (p := ⟨w.heap.size, 3, none⟩) hsz).trans hbox
          go_wp2_with fail
          go_roundw
          case rel => exact ⟨j + 1, by omega, by go_num, by rw [hS.out], hb2, hz, hx⟩
          case measure => simp [intOf]; omega
      · have hje : j = of.length := by omega
        have hA := Lib.hid (manyTo_all n k s ats of)
        clear h
        go_wp2_with fail
        go_ret
        exact ⟨ret_int (by rw [hje, hA.out]), hbw⟩

set_option maxHeartbeats 400000 in
theorem room_any (n : Nat) : ∀ (t : PT n) (v : Value) (l : Int) (w : World) (B : Nat), PRep w B n t v → B ≤ w.heap.size →
    Calls Try.prog 29 #[v, .int .i64 l] w fun e w' => e = .returned (.int .i64 (roomT n t l)) ∧ Below w.heap.size w w' := by
  induction n with
  | zero => intro t v l w B h; exact h.elim
  | succ n ih =>
    intro t v l w B h hB
    obtain ⟨k, s, ats, of⟩ := t
    obtain ⟨va, a, cap, rfl, hm, ⟨va1, va2, rfl, hm2, hr⟩, h⟩ := h
    dsimp only at h hr hm hm2 ⊢
    clear hr
    by_cases hlen : 10000 < (ats.length : Int)
    · have H0 : Hid (roomT (n + 1) (k, s, ats, of) l = roomL (roomT n) (of.drop 0) (wrap64 (wrap64 (l - 1) - 10000))) := by
        show roomL _ _ (wrap64 (wrap64 (l - 1) - min64 _ _)) = _
        rw [min64, if_pos hlen]; rfl
      go_enter Try.func29, Try.ntmps29
      go_wp2_with fail
      go_loopw [1, 5] (fun m i wr => ∃ (j : Nat) (q : Int), j ≤ of.length ∧ i = .int .i64 j ∧ m = .int .i64 q ∧ Hid (roomT (n + 1) (k, s, ats, of) l = roomL (roomT n) (of.drop j) q) ∧ Below w.heap.size w wr ∧ w.heap.size < wr.heap.size ∧ wr.cell? ⟨w.heap.size, 3, none⟩ = some (.slice a of.length cap)) (fun _ i _ => of.length - (intOf i).toNat)
      case atStart => exact ⟨0, _, Nat.zero_le _, rfl, rfl, H0, (Below.refl _ _).alloc (Nat.le_refl _) _, by simp, by simp [World.cell?_alloc_at]⟩
      case round =>
        obtain ⟨j, q, hj, rfl, rfl, hR, hbw, hsz, hbox⟩ := hrel
        by_cases hlt : j < of.length
        · by_cases hq : 0 ≤ q
          · rcases h with h | ⟨b, off, rfl, hbl, hc⟩
            · rw [h] at hlt; exact absurd hlt (by simp)
            · obtain ⟨k1, s1, a1, l1, e1, a2, l2, e2, d0, d1, d2, d3, hp'⟩ := part_cells hB hbw hbl hc j hlt
              have hS := Lib.hid (roomL_drop (roomT n) of j q hlt hq)
              have HC := Lib.hid hc
              clear hc
              go_wp2_with fail
              refine (ih _ _ _ _ B hp' (by omega)).mono ?_
              rintro e w1 ⟨rfl, hb1⟩
              clear hp'
              have hb2 : Below w.heap.size w w1 := hbw.trans (hb1.mono (by omega))
              have hz : w.heap.size < w1.heap.size := by have := hb1.size; omega
              have hx := (hb1.cell (p := ⟨w.heap.size, 3, none⟩) hsz).trans hbox
              go_wp2_with fail
              go_roundw
              case rel => exact ⟨j + 1, _, by omega, by go_num, rfl, hR.out.trans hS.out, hb2, hz, hx⟩
              case measure => simp [intOf]; omega
          · have hS := Lib.hid (roomL_stop (roomT n) (of.drop j) q hq)
            clear h
            go_wp2_with fail
            go_ret
            exact ⟨ret_int (by rw [hR.out, hS.out]), hbw⟩
        · have hS : Hid (roomL (roomT n) (of.drop j) q = q) := by
            rw [show j = of.length by omega, List.drop_length]; rfl
          clear h
          go_wp2_with fail
          go_ret
          exact ⟨ret_int (by rw [hR.out, hS.out]), hbw⟩
    · have H0 : Hid (roomT (n + 1) (k, s, ats, of) l = roomL (roomT n) (of.drop 0) (wrap64 (wrap64 (l - 1) - ats.length))) := by
        show roomL _ _ (wrap64 (wrap64 (l - 1) - min64 _ _)) = _
        rw [min64, if_neg hlen]; rfl
      go_enter Try.func29, Try.ntmps29
      go_wp2_with fail
      go_loopw [1, 5] (fun m i wr => ∃ (j : Nat) (q : Int), j ≤ of.length ∧ i = .int .i64 j ∧ m = .int .i64 q ∧ Hid (roomT (n + 1) (k, s, ats, of) l = roomL (roomT n) (of.drop j) q) ∧ Below w.heap.size w wr ∧ w.heap.size < wr.heap.size ∧ wr.cell? ⟨w.heap.size, 3, none⟩ = some (.slice a of.length cap)) (fun _ i _ => of.length - (intOf i).toNat)
      case atStart => exact ⟨0, _, Nat.zero_le _, rfl, rfl, H0, (Below.refl _ _).alloc (Nat.le_refl _) _, by simp, by simp [World.cell?_alloc_at]⟩
      case round =>
        obtain ⟨j, q, hj, rfl, rfl, hR, hbw, hsz, hbox⟩ := hrel
        by_cases hlt : j < of.length
        · by_cases hq : 0 ≤ q
          · rcases h with h | ⟨b, off, rfl, hbl, hc⟩
            · rw [h] at hlt; exact absurd hlt (by simp)
            · obtain ⟨k1, s1, a1, l1, e1, a2, l2, e2, d0, d1, d2, d3, hp'⟩ := part_cells hB hbw hbl hc j hlt
              have hS := Lib.hid (roomL_drop (roomT n) of j q hlt hq)
              have HC := Lib.hid hc
              clear hc
              go_wp2_with fail
              refine (ih _ _ _ _ B hp' (by omega)).mono ?_
              rintro e w1 ⟨rfl, hb1⟩
              clear hp'
              have hb2 : Below w.heap.size w w1 := hbw.trans (hb1.mono (by omega))
              have hz : w.heap.size < w1.heap.size := by have := hb1.size; omega
              have hx := (hb1.cell (p := ⟨w.heap.size, 3, none⟩) hsz).trans hbox
              go_wp2_with fail
              go_roundw
              case rel => exact ⟨j + 1, _, by omega, by go_num, rfl, hR.out.trans hS.out, hb2, hz, hx⟩
              case measure => simp [intOf]; omega
          · have hS := Lib.hid (roomL_stop (roomT n) (of.drop j) q hq)
            clear h
            go_wp2_with fail
            go_ret
            exact ⟨ret_int (by rw [hR.out, hS.out]), hbw⟩
        · have hS : Hid (roomL (roomT n) (of.drop j) q = q) := by
            rw [show j = of.length by omega, List.drop_length]; rfl
          clear h
          go_wp2_with fail
          go_ret
          exact ⟨ret_int (by rw [hR.out, hS.out]), hbw⟩

set_option maxHeartbeats 400000 in
theorem great_any (n : Nat) (t : PT n) (v : Value) (w : World) (B : Nat) (h : PRep w B n t v) (hB : B ≤ w.heap.size) :
    Calls Try.prog 9 #[v] w fun e w' => e = .returned (.bool (decide (roomT n t 6000 < 0))) ∧ Below w.heap.size w w' := by
  obtain ⟨k1, s1, a1, l1, e1, a2, l2, e2, rfl⟩ := h.shape
  go_enter Try.func9, Try.ntmps9
  go_wp2_with fail
  refine (room_any n t _ _ _ B (PRep.below ((Below.refl B w).alloc (by omega) _) n h) (by simp; omega)).mono ?_
  rintro e w1 ⟨rfl, hb1⟩
  clear h
  go_wp2_with fail
  go_ret
  exact ⟨rfl, ((Below.refl w.heap.size w).alloc (Nat.le_refl _) _).trans (hb1.mono (by simp))⟩

set_option maxHeartbeats 400000 in
theorem eqrats_any (v1 v2 : Value) (l r : List (Int × Int)) (w : World) (B : Nat) (h1 : RatsRep w B v1 l) (h2 : RatsRep w B v2 r) (hB : B ≤ w.heap.size) :
    Calls Try.prog 30 #[v1, v2] w fun e w' => e = .returned (.bool (decide (l = r))) ∧ Below w.heap.size w w' := by
  obtain ⟨a1, c1, rfl, hm1, h1⟩ := h1
  obtain ⟨a2, c2, rfl, hm2, h2⟩ := h2
  by_cases hl : l.length = r.length
  · have h3 : ((l.length : Int) != (r.length : Int)) = false := by simp; omega
    have HL := Lib.hid hl
    clear hl
    have H0 : Hid (decide (l = r) = sameL (fun a b => decide (a = b)) (l.drop 0) (r.drop 0)) := (sameL_eq l r).symm
    go_enter Try.func30, Try.ntmps30
    go_wp2_with fail
    go_loopw [13] (fun i wr => ∃ j : Nat, j ≤ l.length ∧ i = .int .i64 j ∧ Hid (decide (l = r) = sameL (fun a b => decide (a = b)) (l.drop j) (r.drop j)) ∧ Below w.heap.size w wr) (fun i _ => l.length - (intOf i).toNat)
    case atStart => exact ⟨0, Nat.zero_le _, rfl, H0, Below.refl _ _⟩
    case round =>
      obtain ⟨j, hj, rfl, hR, hbw⟩ := hrel
      by_cases hlt : j < l.length
      · have hlt2 : j < r.length := by have := HL.out; omega
        rcases h1 with h1 | ⟨b1, o1, rfl, hb1, hc1⟩
        · rw [h1] at hlt; exact absurd hlt (by simp)
        rcases h2 with h2 | ⟨b2, o2, rfl, hb2, hc2⟩
        · rw [h2] at hlt2; exact absurd hlt2 (by simp)
        obtain ⟨x1, x2⟩ := hc1 j hlt
        obtain ⟨y1, y2⟩ := hc2 j hlt2
        have x1 := (hbw.cell (p := ⟨b1, _, none⟩) (show b1 < w.heap.size by omega)).trans x1
        have x2 := (hbw.cell (p := ⟨b1, _, none⟩) (show b1 < w.heap.size by omega)).trans x2
        have y1 := (hbw.cell (p := ⟨b2, _, none⟩) (show b2 < w.heap.size by omega)).trans y1
        have y2 := (hbw.cell (p := ⟨b2, _, none⟩) (show b2 < w.heap.size by omega)).trans y2
        have hS := Lib.hid (sameL_drop (fun a b => decide (a = b)) l r j hlt hlt2)
        clear hc1 hc2
        by_cases e1 : l[j].1 = r[j].1
        · by_cases e2 : l[j].2 = r[j].2
          · have HD : Hid (decide (l[j] = r[j]) = true) := by rw [decide_eq_true_eq]; exact Prod.ext e1 e2
            have f1 : (l[j].1 == r[j].1) = true := by simpa using e1
            have f2 : (l[j].2 == r[j].2) = true := by simpa using e2
            clear e1 e2
            go_wp2_with fail
            go_quiet (fail)
            go_wp2_with fail
            go_roundw
            case rel => exact ⟨j + 1, by omega, by go_num, by rw [hR.out, hS.out, HD.out, Bool.true_and]; rfl, below_drewN hbw _⟩
            case measure => simp [intOf]; omega
          · have HD : Hid (decide (l[j] = r[j]) = false) := by rw [decide_eq_false_iff_not]; intro h; exact e2 (by rw [h])
            have f1 : (l[j].1 == r[j].1) = true := by simpa using e1
            have f2 : (l[j].2 == r[j].2) = false := by simpa using e2
            clear e1 e2
            go_wp2_with fail
            go_quiet (fail)
            go_wp2_with fail
            go_ret
            exact ⟨by rw [hR.out, hS.out, HD.out]; rfl, below_drewN hbw _⟩
        · have HD : Hid (decide (l[j] = r[j]) = false) := by rw [decide_eq_false_iff_not]; intro h; exact e1 (by rw [h])
          have f1 : (l[j].1 == r[j].1) = false := by simpa using e1
          clear e1
          go_wp2_with fail
          go_quiet (fail)
          go_wp2_with fail
          go_ret
          exact ⟨by rw [hR.out, hS.out, HD.out]; rfl, below_drewN hbw _⟩
      · have HE : Hid (sameL (fun a b => decide (a = b)) (l.drop j) (r.drop j) = true) := by
          rw [show j = l.length by omega]; exact sameL_end _ l r HL.out
        clear h1 h2
        go_wp2_with fail
        go_ret
        exact ⟨by rw [hR.out, HE.out]; rfl, hbw⟩
  · have hne : decide (l = r) = false := by simp; intro h; exact hl (by rw [h])
    have h3 : ((l.length : Int) != (r.length : Int)) = true := by simp; omega
    rw [hne]
    go_enter Try.func30, Try.ntmps30
    go_wp2_with fail
    go_ret
    exact ⟨rfl, Below.refl _ _⟩

end Go.Proofs.Ytnpaoekblfflmaa
