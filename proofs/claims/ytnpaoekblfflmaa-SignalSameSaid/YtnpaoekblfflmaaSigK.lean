/- The plain law: the program's reckoning of a signal is the book's. -/
import Derived.Test.YtnpaoekblfflmaaSigJ
namespace Go.Proofs.Ytnpaoekblfflmaa
open Go.RowKit Go.Shelf

/-- The items from a moment on. -/
def itemsFrom : Int → List (Int × Int) → List (Int × Int × Int)
  | _, [] => []
  | a, x :: r => (a, x.1, x.2) :: itemsFrom (wrap64 (a + x.1)) r
def atFrom : Int → List (Int × Int) → Nat → Int
  | a, _, 0 => a
  | a, [], k + 1 => atFrom (wrap64 (a + 0)) [] k
  | a, x :: r, k + 1 => atFrom (wrap64 (a + x.1)) r k
theorem atFrom_succ : ∀ (l : List (Int × Int)) (a : Int) (k : Nat), atFrom a l (k + 1) = wrap64 (atFrom a l k + (l[k]?.getD (0, 0)).1)
  | [], a, 0 => by simp [atFrom]
  | [], a, k + 1 => by rw [atFrom, atFrom_succ [] _ k, atFrom]; simp
  | x :: r, a, 0 => by simp [atFrom]
  | x :: r, a, k + 1 => by rw [atFrom, atFrom_succ r _ k, atFrom]; simp
theorem atOf_from (l : List (Int × Int)) : ∀ k, atOf l k = atFrom 0 l k
  | 0 => by cases l <;> rfl
  | k + 1 => by rw [atFrom_succ, ← atOf_from l k]; rfl
theorem itemsFrom_length : ∀ (l : List (Int × Int)) (a : Int), (itemsFrom a l).length = l.length
  | [], _ => rfl
  | x :: r, a => by simp [itemsFrom, itemsFrom_length r]
theorem itemsFrom_get : ∀ (l : List (Int × Int)) (a : Int) (k : Nat), k < l.length → (itemsFrom a l)[k]? = some (atFrom a l k, (l[k]?.getD (0, 0)).1, (l[k]?.getD (0, 0)).2)
  | [], _, _, h => by simp at h
  | x :: r, a, 0, _ => by simp [itemsFrom, atFrom]
  | x :: r, a, k + 1, h => by
    rw [itemsFrom, List.getElem?_cons_succ, itemsFrom_get r _ k (by simpa using h), atFrom]
    simp
theorem itemsTo_from (l : List (Int × Int)) : itemsTo l l.length = itemsFrom 0 l := by
  apply List.ext_getElem?
  intro k
  by_cases hk : k < l.length
  · rw [itemsFrom_get l 0 k hk, ← atOf_from]
    simp [itemsTo, hk, itemOf]
  · rw [List.getElem?_eq_none (by rw [itemsTo_length]; omega), List.getElem?_eq_none (by rw [itemsFrom_length]; omega)]

/-- How long all are together, as numbers. -/
def sumL : List (Int × Int) → Int
  | [] => 0
  | x :: r => x.1 + sumL r
def Long1 (l : List (Int × Int)) : Prop := ∀ s ∈ l, 1 ≤ s.1 ∧ s.1 ≤ 9223372036854775807
theorem Long1.tail {x : Int × Int} {r : List (Int × Int)} (h : Long1 (x :: r)) : Long1 r := fun s hs => h s (by simp [hs])
theorem sumL_nonneg : ∀ {l : List (Int × Int)}, Long1 l → 0 ≤ sumL l
  | [], _ => by simp [sumL]
  | x :: r, h => by
    have := sumL_nonneg h.tail
    have := h x (by simp)
    simp only [sumL]; omega
theorem sumL_far {l : List (Int × Int)} (h : Long1 l) (hf : l.any farB = true) : 288230376151711744 ≤ sumL l := by
  induction l with
  | nil => simp at hf
  | cons x r ih =>
    have h1 := sumL_nonneg h.tail
    have h2 := h x (by simp)
    simp only [List.any_cons, Bool.or_eq_true] at hf
    simp only [sumL]
    rcases hf with hf | hf
    · simp [farB] at hf; omega
    · have := ih h.tail hf; omega

theorem anyFar : ∀ (l : List (Int × Int)) (a : Int), 0 ≤ a → a < 288230376151711744 → Long1 l → (itemsFrom a l).any farI = decide (288230376151711744 ≤ a + sumL l)
  | [], a, _, h, _ => by simp [itemsFrom, sumL]; omega
  | x :: r, a, h0, h, hl => by
    have h1 := sumL_nonneg hl.tail
    have h2 := hl x (by simp)
    have hw : wrap64 (288230376151711744 - a) = 288230376151711744 - a := IntWalk.wrap64_in _ (by omega)
    have hf : farI (a, x.1, x.2) = decide (288230376151711744 - a ≤ x.1) := by simp only [farI, hw]
    simp only [itemsFrom, List.any_cons, hf, sumL]
    by_cases hx : 288230376151711744 - a ≤ x.1
    · rw [decide_eq_true hx, Bool.true_or]
      symm
      exact decide_eq_true (by omega)
    · rw [decide_eq_false hx, Bool.false_or, IntWalk.wrap64_in _ (by omega), anyFar r (a + x.1) (by omega) (by omega) hl.tail]
      exact decide_eq_decide.2 (by omega)

theorem totF_ge (l : List (Int × Int)) (n : Int) (h : 288230376151711744 ≤ n) : totF l n = n := by
  cases l with
  | nil => rfl
  | cons x r => rw [totF, if_neg (by omega)]
theorem totF_sum : ∀ (l : List (Int × Int)) (a : Int), 0 ≤ a → a < 288230376151711744 → Long1 l → l.any farB = false → (a + sumL l < 288230376151711744 → totF l a = a + sumL l) ∧ (288230376151711744 ≤ a + sumL l → 288230376151711744 ≤ totF l a)
  | [], a, _, h, _, _ => by simp [totF, sumL]
  | x :: r, a, h0, h, hl, hf => by
    have h1 := sumL_nonneg hl.tail
    have h2 := hl x (by simp)
    simp only [List.any_cons, Bool.or_eq_false_iff] at hf
    obtain ⟨hx, hf⟩ := hf
    simp only [farB, decide_eq_false_iff_not] at hx
    simp only [totF, sumL, if_pos h]
    rw [IntWalk.wrap64_in _ (by omega)]
    by_cases hb : a + x.1 < 288230376151711744
    · have := totF_sum r (a + x.1) (by omega) hb hl.tail hf
      refine ⟨fun h => ?_, fun h => this.2 (by omega)⟩
      rw [this.1 (by omega)]; omega
    · rw [totF_ge _ _ (by omega)]
      exact ⟨fun h => by omega, fun h => by omega⟩
theorem total22_sum {l : List (Int × Int)} (hl : Long1 l) (hf : l.any farB = false) : total22 l = if sumL l < 288230376151711744 then sumL l else 288230376151711744 := by
  have := totF_sum l 0 (by omega) (by omega) hl hf
  rw [Int.zero_add] at this
  unfold total22
  by_cases h : sumL l < 288230376151711744
  · rw [if_pos h, this.1 h, if_neg (by omega)]
  · rw [if_neg h]
    have h2 := this.2 (by omega)
    split <;> omega

theorem long1_of {l : List (Int × Int)} {p : Int} (hr : ∀ s ∈ l, InR s) (hb : l.any (badB p) = false) : Long1 l := fun s hs => by
  have h1 := List.any_eq_false.1 hb s hs
  simp only [badB, Bool.or_eq_true, decide_eq_true_eq, not_or] at h1
  have := (hr s hs).2.1
  omega

theorem check_eq {p : Int} {l : List (Int × Int)} (hr : ∀ s ∈ l, InR s) : checkP p l = check22P p l := by
  unfold checkP check22P
  by_cases h1 : p < 0 ∨ 8 < p
  · rw [if_pos h1, if_pos h1]
  rw [if_neg h1, if_neg h1]
  by_cases h2 : 1024 < l.length
  · rw [if_pos h2, if_pos h2]
  rw [if_neg h2, if_neg h2]
  cases h3 : l.any (badB p)
  · have hl := long1_of hr h3
    simp only [Bool.false_eq_true, if_false]
    rw [farE, itemsTo_from, anyFar l 0 (by omega) (by omega) hl, Int.zero_add]
    cases h4 : l.any farB
    · rw [total22_sum hl h4]
      by_cases h5 : 288230376151711744 ≤ sumL l
      · simp [h5, show ¬ sumL l < 288230376151711744 by omega]
      · simp [h5, show sumL l < 288230376151711744 by omega]
    · simp [sumL_far hl h4]
  · simp

/-- A signal that may be. -/
theorem good_of {p : Int} {l : List (Int × Int)} (hr : ∀ s ∈ l, InR s) (hc : checkP p l = 0) : Long1 l ∧ sumL l < 288230376151711744 ∧ l.any farB = false := by
  unfold checkP at hc
  split at hc
  · simp at hc
  split at hc
  · simp at hc
  cases h3 : l.any (badB p)
  · have hl := long1_of hr h3
    rw [h3] at hc
    simp only [Bool.false_eq_true, if_false] at hc
    rw [farE, itemsTo_from, anyFar l 0 (by omega) (by omega) hl, Int.zero_add] at hc
    have hs : sumL l < 288230376151711744 := by
      by_cases h5 : 288230376151711744 ≤ sumL l
      · simp [h5] at hc
      · omega
    refine ⟨hl, hs, ?_⟩
    cases h4 : l.any farB
    · rfl
    · have := sumL_far hl h4; omega
  · rw [h3] at hc; simp at hc

theorem atFrom_sum : ∀ (l : List (Int × Int)) (a : Int), 0 ≤ a → a + sumL l < 288230376151711744 → Long1 l → atFrom a l l.length = a + sumL l
  | [], a, _, _, _ => by simp [atFrom, sumL]
  | x :: r, a, h0, h, hl => by
    have h1 := sumL_nonneg hl.tail
    have h2 := hl x (by simp)
    simp only [sumL] at h ⊢
    rw [List.length_cons, atFrom, IntWalk.wrap64_in _ (by omega), atFrom_sum r _ (by omega) (by omega) hl.tail]
    omega
theorem long_eq {p : Int} {l : List (Int × Int)} (hr : ∀ s ∈ l, InR s) (hc : checkP p l = 0) : atOf l l.length = total22 l := by
  obtain ⟨hl, hs, hf⟩ := good_of hr hc
  rw [atOf_from, atFrom_sum l 0 (by omega) (by omega) hl, total22_sum hl hf, if_pos hs, Int.zero_add]

theorem find_on : ∀ (l : List (Int × Int)) (a m : Int), 0 ≤ a → a + sumL l < 288230376151711744 → Long1 l → m ≤ 9223372036854775807 →
    (itemsFrom a l).find? (inI m) = none ∧ (m < a ∨ a + sumL l ≤ m) ∨ ∃ x, (itemsFrom a l).find? (inI m) = some x ∧ a ≤ m ∧ m < a + sumL l ∧ x.2.2 = ofF l (m - a)
  | [], a, m, _, _, _, _ => by left; simp [itemsFrom, sumL]; omega
  | x :: r, a, m, h0, h, hl, hm => by
    have h1 := sumL_nonneg hl.tail
    have h2 := hl x (by simp)
    simp only [sumL] at h ⊢
    have hw : wrap64 (a + x.1) = a + x.1 := IntWalk.wrap64_in _ (by omega)
    simp only [itemsFrom, List.find?_cons, hw]
    have hi : inI m (a, x.1, x.2) = (decide (a ≤ m) && decide (m < a + x.1)) := by simp only [inI, hw]
    rw [hi]
    have ih := find_on r (a + x.1) m (by omega) (by omega) hl.tail hm
    by_cases hx : a ≤ m ∧ m < a + x.1
    · right
      refine ⟨(a, x.1, x.2), by simp [hx], hx.1, by omega, ?_⟩
      rw [ofF, if_pos (by omega)]
    · have hd : (decide (a ≤ m) && decide (m < a + x.1)) = false := by
        by_cases ha : a ≤ m
        · simp [ha]; omega
        · simp [ha]
      rw [hd]
      rcases ih with ⟨ih, hh⟩ | ⟨y, ih, ha, hb, hy⟩
      · left
        refine ⟨ih, by omega⟩
      · right
        refine ⟨y, ih, by omega, by omega, ?_⟩
        rw [hy, ofF, if_neg (by omega), IntWalk.wrap64_in _ (by omega)]
        congr 1
        omega
theorem on_eq {p m : Int} {l : List (Int × Int)} (hr : ∀ s ∈ l, InR s) (hc : checkP p l = 0) (hm : m ≤ 9223372036854775807) : onP l m = on22 0 l m := by
  obtain ⟨hl, hs, hf⟩ := good_of hr hc
  have ht : total22 l = sumL l := by rw [total22_sum hl hf, if_pos hs]
  rw [on22, if_pos rfl, ht, onP, itemsTo_from]
  rcases find_on l 0 m (by omega) (by omega) hl hm with ⟨h, hh⟩ | ⟨x, h, ha, hb, hx⟩
  · rw [h, if_pos (by omega)]
  · rw [h, if_neg (by omega)]
    simp [hx]
end Go.Proofs.Ytnpaoekblfflmaa
