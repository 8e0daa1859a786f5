/- How small an expression is whose text is known. No program. -/
import Derived.Test.YtpgdplmndnopbaaGreatDoorMgG
import Derived.Test.YtpgdplmndnopbaaGreatDoorMgI
namespace Go.Proofs.YtpgdplmndnopbaaGreatDoor
open Go.RowKit

theorem wrapP_ge (is : Bool) (o c : UInt8) (b : List UInt8) : b.length ≤ (wrapP is o c b).length := by unfold wrapP; split <;> simp <;> omega
theorem len_two {α : Type} {l : List α} (h : l.length = 2) : ∃ a b, l = [a, b] := by
  match l, h with
  | [a, b], _ => exact ⟨a, b, rfl⟩
theorem name_pos {s : ByteArray} (h : nameB s.data.toList = true) : 1 ≤ s.size := by
  have e : s.data.toList.length = s.size := by rw [Array.length_toList]; rfl
  cases hq : s.data.toList with
  | nil => rw [hq] at h; exact absurd h (by decide)
  | cons b r => rw [hq] at e; simp at e; omega
theorem low_F : ∀ (n : Nat) (t : FT n) (least : Nat), allF rightB n t = true → allF nmB n t = true → tF n t ≤ 2 * (prF n t least).length
  | 0, t, _, _, _ => nomatch t
  | n + 1, (k, s, of), least, hr, hn => by
    have hr' : (rightB k s of.length && of.all (allF rightB n)) = true := hr
    have hn' : (nmB k s of.length && of.all (allF nmB n)) = true := hn
    rw [Bool.and_eq_true, List.all_eq_true] at hr' hn'
    obtain ⟨h1, h2⟩ := hr'
    obtain ⟨g1, g2⟩ := hn'
    have ih : ∀ x ∈ of, ∀ l, tF n x ≤ 2 * (prF n x l).length := fun x hx l => low_F n x l (h2 x hx) (g2 x hx)
    unfold rightB at h1
    simp only [Bool.and_eq_true, decide_eq_true_eq, beq_iff_eq, Bool.or_eq_true] at h1
    obtain ⟨⟨⟨k1, k6⟩, hl⟩, hs⟩ := h1
    have es : s.data.toList.length = s.size := by rw [Array.length_toList]; rfl
    have ht : tF (n + 1) (k, s, of) = 1 + s.size + (of.map (tF n)).sum := rfl
    rw [ht, prF_succ]
    refine Nat.le_trans ?_ (Nat.mul_le_mul_left 2 (wrapP_ge _ _ _ _))
    have hk : k = 1 ∨ k = 2 ∨ k = 3 ∨ k = 4 ∨ k = 5 ∨ k = 6 := by omega
    rcases hk with rfl | rfl | rfl | rfl | rfl | rfl
    · have hz : s.size = 0 := by simpa using hs
      have : of = [] := List.eq_nil_of_length_eq_zero (by simpa [manyOf] using hl)
      subst this
      simp [hz]
    · have hz : s.size = 0 := by simpa using hs
      have : of = [] := List.eq_nil_of_length_eq_zero (by simpa [manyOf] using hl)
      subst this
      simp [hz]
    · have : of = [] := List.eq_nil_of_length_eq_zero (by simpa [manyOf] using hl)
      subst this
      have hnm : nameB s.data.toList = true := by simpa [nmB] using g1
      have := name_pos hnm
      simp
      omega
    · have hz : s.size = 0 := by simpa using hs
      obtain ⟨a, rfl⟩ : ∃ a, of = [a] := List.length_eq_one_iff.1 (by simpa [manyOf] using hl)
      have := ih a (by simp) 3
      simp [hz]
      omega
    · have hz : s.size = 0 := by simpa using hs
      obtain ⟨a, b, rfl⟩ : ∃ a b, of = [a, b] := len_two (by simpa [manyOf] using hl)
      have h1 := ih a (by simp) 2
      have h2 := ih b (by simp) 3
      simp [hz]
      omega
    · have hz : s.size = 0 := by simpa using hs
      obtain ⟨a, b, rfl⟩ : ∃ a b, of = [a, b] := len_two (by simpa [manyOf] using hl)
      have h1 := ih a (by simp) 1
      have h2 := ih b (by simp) 2
      simp [hz]
      omega
theorem tF_pos : ∀ (n : Nat) (t : FT n), 1 ≤ tF n t
  | 0, t => nomatch t
  | n + 1, t => by rw [tF]; omega
theorem low_X (it : Int → List UInt8) {m : Nat} : ∀ (n : Nat) (t : XT m n) (least : Nat), allX rightX n t = true → allX nmX n t = true → tX n t ≤ 3 * (prX it n t least).length
  | 0, t, _, _, _ => nomatch t
  | n + 1, (k, is, of, i), least, hr, hn => by
    have hr' : (rightX k is of.length i && of.all (allX rightX n)) = true := hr
    have hn' : (nmX k is of.length i && of.all (allX nmX n)) = true := hn
    rw [Bool.and_eq_true, List.all_eq_true] at hr' hn'
    obtain ⟨h1, h2⟩ := hr'
    obtain ⟨g1, g2⟩ := hn'
    have ih : ∀ x ∈ of, ∀ l, tX n x ≤ 3 * (prX it n x l).length := fun x hx l => low_X it n x l (h2 x hx) (g2 x hx)
    unfold rightX at h1
    simp only [Bool.and_eq_true, decide_eq_true_eq, beq_iff_eq] at h1
    obtain ⟨⟨⟨⟨⟨k1, k6⟩, hl⟩, _⟩, _⟩, hs⟩ := h1
    have ht : tX (n + 1) (k, is, of, i) = 1 + (is.map (tF m)).sum + (of.map (tX n)).sum := rfl
    rw [ht, prX_succ]
    refine Nat.le_trans ?_ (Nat.mul_le_mul_left 3 (wrapP_ge _ _ _ _))
    have hk : k = 1 ∨ k = 2 ∨ k = 3 ∨ k = 4 ∨ k = 5 ∨ k = 6 := by omega
    rcases hk with rfl | rfl | rfl | rfl | rfl | rfl
    · have : of = [] := List.eq_nil_of_length_eq_zero (by simpa [manyOfX] using hl)
      subst this
      simp only [if_true, Bool.and_eq_true, beq_iff_eq] at hs
      obtain ⟨f, rfl⟩ : ∃ f, is = [f] := List.length_eq_one_iff.1 hs.1
      have hf : allF rightB m f = true := by simpa using hs.2
      have hg : allF nmB m f = true := by simpa [nmX] using g1
      have h1 := low_F m f 0 hf hg
      have h2 := tF_pos m f
      simp
      omega
    all_goals
      have : is = [] := List.eq_nil_of_length_eq_zero (by simpa using hs)
      subst this
    · obtain ⟨a, b, rfl⟩ : ∃ a b, of = [a, b] := len_two (by simpa [manyOfX] using hl)
      have h1 := ih a (by simp) (heightX 2)
      have h2 := ih b (by simp) (heightX 2 + 1)
      simp
      omega
    · obtain ⟨a, b, rfl⟩ : ∃ a b, of = [a, b] := len_two (by simpa [manyOfX] using hl)
      have h1 := ih a (by simp) (heightX 3)
      have h2 := ih b (by simp) (heightX 3 + 1)
      simp
      omega
    · obtain ⟨a, b, rfl⟩ : ∃ a b, of = [a, b] := len_two (by simpa [manyOfX] using hl)
      have h1 := ih a (by simp) (heightX 4)
      have h2 := ih b (by simp) (heightX 4 + 1)
      simp
      omega
    · obtain ⟨a, rfl⟩ : ∃ a, of = [a] := List.length_eq_one_iff.1 (by simpa [manyOfX] using hl)
      have h1 := ih a (by simp) 4
      simp
      omega
    · obtain ⟨a, rfl⟩ : ∃ a, of = [a] := List.length_eq_one_iff.1 (by simpa [manyOfX] using hl)
      have h1 := ih a (by simp) 0
      simp
      omega
end Go.Proofs.YtpgdplmndnopbaaGreatDoor
