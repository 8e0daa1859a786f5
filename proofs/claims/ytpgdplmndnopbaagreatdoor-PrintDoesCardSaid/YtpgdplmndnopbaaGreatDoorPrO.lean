/- A text of tokens with a blank ahead of each is cut into them, with more behind, too. No program. -/
import Derived.Test.YtpgdplmndnopbaaGreatDoorMgG
import Derived.Test.YtpgdplmndnopbaaGreatDoorPrN
namespace Go.Proofs.YtpgdplmndnopbaaGreatDoor
open Go.RowKit

def wideB (ts : List (List UInt8)) : List UInt8 := ts.flatMap fun u => 32 :: u
theorem cut_wide (rest : List UInt8) (hr : ∀ u, kindOf u ≠ 0 → apart u rest = true) : ∀ (ts : List (List UInt8)) (a : Nat), (∀ u ∈ ts, kindOf u ≠ 0) →
    ∃ l, plainT l = ts.map (fun u => (kindOf u, u)) ∧ cut a (wideB ts ++ rest) = Res.app l (cut (a + (wideB ts).length) rest)
  | [], a, _ => ⟨[], rfl, by rw [Res.app_nil]; rfl⟩
  | u :: ts, a, h => by
    have hu := h u (by simp)
    obtain ⟨l, h1, h2⟩ := cut_wide rest hr ts (a + 1 + u.length) (fun v hv => h v (by simp [hv]))
    have e : wideB (u :: ts) = 32 :: (u ++ wideB ts) := by simp [wideB]
    have hap : apart u (wideB ts ++ rest) = true := by
      cases ts with
      | nil => exact hr u hu
      | cons v ts =>
        have e2 : wideB (v :: ts) ++ rest = 32 :: (v ++ wideB ts ++ rest) := by simp [wideB]
        rw [e2]
        exact apart_blank _ _
    refine ⟨⟨kindOf u, bsOf u, (a + 1 : Nat)⟩ :: l, ?_, ?_⟩
    · show (kindOf u, (bsOf u).data.toList) :: plainT l = _
      rw [h1]
      simp [bsOf]
    · have e3 : wideB (u :: ts) ++ rest = 32 :: (u ++ (wideB ts ++ rest)) := by rw [e]; simp
      rw [e3, cut_blank a 32 _ (by decide) (by decide), cut_tok (a + 1) u _ hu hap, h2]
      have e4 : (wideB (u :: ts)).length = 1 + u.length + (wideB ts).length := by rw [e]; simp; omega
      rw [e4, show a + (1 + u.length + (wideB ts).length) = a + 1 + u.length + (wideB ts).length by omega]
      generalize cut (a + 1 + u.length + (wideB ts).length) rest = R
      cases R <;> rfl
theorem apart_shut (u : List UInt8) (_ : kindOf u ≠ 0) : apart u [41] = true := by
  cases u with
  | nil => rfl
  | cons a r =>
    show (if isRow a then !isRow 41 else !(r == [] && twin a && 41 == a)) = true
    have h1 : isRow 41 = false := by decide
    split
    · rw [h1]; rfl
    · by_cases h : (41 : UInt8) = a
      · subst h
        have : twin 41 = false := by decide
        rw [this]; simp
      · have : ((41 : UInt8) == a) = false := by simpa using h
        rw [this]; simp
/-- The wide text of a text's tokens is parsed to the same expression, or to the same error. -/
theorem wide_same {s : List UInt8} {l : List Tok} (h : cut 0 s = .ok l) (stop stop' : Int) : ∃ l', cut 0 (wideB (textsOf l)) = .ok l' ∧ plainT l' = plainT l ∧ ((∃ x, allR l stop = .ok x ∧ allR l' stop' = .ok x) ∨ ∃ e p p', allR l stop = .error (e, p) ∧ allR l' stop' = .error (e, p')) := by
  have hk := cut_kinds s 0 l h
  have hv : ∀ u ∈ textsOf l, kindOf u ≠ 0 := by
    intro u hu
    unfold textsOf at hu
    obtain ⟨t, ht, rfl⟩ := List.mem_map.1 hu
    obtain ⟨k1, k2, _⟩ := hk t ht
    rw [k1]; exact k2
  obtain ⟨l', h1, h2⟩ := cut_wide [] (fun u _ => by cases u <;> rfl) (textsOf l) 0 hv
  have hp : plainT l' = plainT l := by
    rw [h1]
    unfold textsOf plainT
    rw [List.map_map]
    refine List.map_congr_left fun t ht => ?_
    obtain ⟨k1, _, _⟩ := hk t ht
    show (kindOf t.text.data.toList, t.text.data.toList) = _
    rw [k1]
  refine ⟨l', ?_, hp, all_rel stop stop' hp.symm⟩
  rw [List.append_nil] at h2
  rw [h2]
  have : cut (0 + (wideB (textsOf l)).length) [] = .ok [] := rfl
  rw [this]
  simp [Res.app]
end Go.Proofs.YtpgdplmndnopbaaGreatDoor
