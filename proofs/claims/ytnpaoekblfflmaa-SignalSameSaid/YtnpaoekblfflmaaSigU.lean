/- The plain law: the program cuts as the book does. -/
import Derived.Test.YtnpaoekblfflmaaSigO
import Derived.Test.YtnpaoekblfflmaaSigS
import Derived.Test.YtnpaoekblfflmaaSigT
namespace Go.Proofs.Ytnpaoekblfflmaa
open Go.RowKit Go.Shelf

theorem atOf_take {l : List (Int × Int)} (hl : Long1 l) (hs : sumL l < 288230376151711744) : ∀ k, k ≤ l.length → atOf l k = sumL (l.take k) ∧ 0 ≤ atOf l k ∧ atOf l k ≤ sumL l
  | 0, _ => by
    have := sumL_nonneg hl
    simp [atOf, sumL]; omega
  | k + 1, h => by
    obtain ⟨h1, h2, h3⟩ := atOf_take hl hs k (by omega)
    have e : sumL l = sumL (l.take (k + 1)) + sumL (l.drop (k + 1)) := by rw [← sumL_append, List.take_append_drop]
    have hd : 0 ≤ sumL (l.drop (k + 1)) := sumL_nonneg fun s hs => hl s (List.mem_of_mem_drop hs)
    have hk := hl l[k] (List.getElem_mem (by omega))
    have ht : sumL (l.take (k + 1)) = sumL (l.take k) + l[k].1 := by
      rw [List.take_succ_eq_append_getElem (by omega), sumL_append]
      simp [sumL]
    have hw : atOf l (k + 1) = sumL (l.take (k + 1)) := by
      rw [atOf, List.getElem?_eq_getElem (by omega), Option.getD_some, IntWalk.wrap64_in _ (by omega)]
      omega
    exact ⟨hw, by omega, by omega⟩

theorem cut_eq_to {l : List (Int × Int)} {m : Int} (hl : Long1 l) (hs : sumL l < 288230376151711744) (hm0 : 0 ≤ m) (hm1 : m ≤ sumL l) : ∀ k, k ≤ l.length → c22To m l k = (m - atOf l k, cutTo m l k)
  | 0, _ => by simp [c22To, atOf, cutTo, itemsTo]
  | k + 1, h => by
    have ih := cut_eq_to hl hs hm0 hm1 k (by omega)
    obtain ⟨_, a0, a1⟩ := atOf_take hl hs k (by omega)
    obtain ⟨_, b0, b1⟩ := atOf_take hl hs (k + 1) h
    have hk := hl l[k] (List.getElem_mem (by omega))
    have hat : atOf l (k + 1) = wrap64 (atOf l k + l[k].1) := by rw [atOf, List.getElem?_eq_getElem (by omega), Option.getD_some]
    have hwr : atOf l (k + 1) = atOf l k + l[k].1 := by
      rw [(atOf_take hl hs (k + 1) h).1, (atOf_take hl hs k (by omega)).1, List.take_succ_eq_append_getElem (by omega), sumL_append]
      simp [sumL]
    rw [c22To_succ m l k (by omega), ih, cutTo_succ]
    have hit : itemOf l k = (atOf l k, l[k].1, l[k].2) := by rw [itemOf, List.getElem?_eq_getElem (by omega), Option.getD_some]
    rw [hit]
    simp only [c22Step, cutStep]
    rw [← hat, IntWalk.wrap64_in (m - atOf l k - l[k].1) (by omega), IntWalk.wrap64_in (m - atOf l k) (by omega)]
    have h1 : m - atOf l k - l[k].1 = m - atOf l (k + 1) := by omega
    rw [h1]
    by_cases hc : atOf l k < m ∧ m < atOf l (k + 1)
    · rw [if_pos hc, if_pos (by omega)]
      simp
    · rw [if_neg hc, if_neg (by omega)]

theorem cut_eq {p m : Int} {l : List (Int × Int)} (hr : ∀ s ∈ l, InR s) : cutA (checkP p l) l m = cut22A (checkP p l) l m := by
  unfold cutA cut22A
  by_cases hc : checkP p l = 0
  · rw [if_pos hc, if_pos hc]
    obtain ⟨hl, hs, hf⟩ := good_of hr hc
    have ht : total22 l = sumL l := by rw [total22_sum hl hf, if_pos hs]
    unfold cutP cut22P
    by_cases hm : m < 0 ∨ total22 l < m
    · rw [if_pos hm, if_pos hm]
    · rw [if_neg hm, if_neg hm]
      have := cut_eq_to (m := m) hl hs (by omega) (by omega) l.length (Nat.le_refl _)
      rw [this]
  · rw [if_neg hc, if_neg hc]
end Go.Proofs.Ytnpaoekblfflmaa
