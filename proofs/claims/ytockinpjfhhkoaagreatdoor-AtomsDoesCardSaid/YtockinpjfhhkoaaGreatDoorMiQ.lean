/- Fractions of small denominators in an atom's zone: the law of its regions. No program. -/
import Derived.Test.YtockinpjfhhkoaaGreatDoorMhA
namespace Go.Proofs.YtockinpjfhhkoaaGreatDoor
open Go.RowKit

theorem keeps_123 {p q : Int} (hp : p = 1 ∨ p = 2 ∨ p = 3) (hq : q = 1 ∨ q = 2 ∨ q = 3) (a b c : Int) (h : 2 * c + 1 < noneB) :
    (keepsQ a p b q (2 * c + 1) = decide (a * q - b * p ≤ c * (p * q))) ∧ (keepsQ a p b q (2 * c) = decide (a * q - b * p < c * (p * q))) := by
  have h1 : ¬ 2 * c + 1 = noneB := by omega
  have h2 : ¬ 2 * c = noneB := by omega
  have e1 : (2 * c + 1) / 2 = c := by omega
  have e2 : (2 * c) / 2 = c := by omega
  have e3 : (2 * c + 1) % 2 = 1 := by omega
  have e4 : (2 * c) % 2 = 0 := by omega
  unfold keepsQ
  rw [if_neg h1, if_neg h2, e1, e2, e3, e4]
  constructor <;> rcases hp with rfl | rfl | rfl <;> rcases hq with rfl | rfl | rfl <;> apply Bool.eq_iff_iff.2 <;> simp <;> omega
/-- A pair of times of small denominators is a match of an atom just if it begins since the atom has held, and ends behind the moment. -/
theorem atom_region {f at_ e a b p q : Int} (hf : 0 ≤ f) (ha : f ≤ at_) (_ : at_ < e) (hm : e ≤ 288230376151711744) (hp : p = 1 ∨ p = 2 ∨ p = 3) (hq : q = 1 ∨ q = 2 ∨ q = 3) (hab : a * q < b * p) (hb : b ≤ e * q) :
    keepsD 3 [1, 2 * (-f) + 1, 2 * (-at_), 2 * e, 1, 0, 2 * e + 1, 2 * (e - f) + 1, 1] [(0, 1), (a, p), (b, q)] = (decide (f * p ≤ a) && decide (at_ * q < b)) := by
  have k1 := fun (c : Int) (h : 2 * c + 1 < noneB) => (keeps_123 (p := 1) (q := p) (.inl rfl) hp 0 a c h)
  have k2 := fun (c : Int) (h : 2 * c + 1 < noneB) => (keeps_123 (p := 1) (q := q) (.inl rfl) hq 0 b c h)
  have k3 := fun (c : Int) (h : 2 * c + 1 < noneB) => (keeps_123 (p := p) (q := 1) hp (.inl rfl) a 0 c h)
  have k4 := fun (c : Int) (h : 2 * c + 1 < noneB) => (keeps_123 (p := q) (q := 1) hq (.inl rfl) b 0 c h)
  have k5 := fun (c : Int) (h : 2 * c + 1 < noneB) => (keeps_123 (p := p) (q := q) hp hq a b c h)
  have k6 := fun (c : Int) (h : 2 * c + 1 < noneB) => (keeps_123 (p := q) (q := p) hq hp b a c h)
  have d0 := (keeps_123 (p := 1) (q := 1) (.inl rfl) (.inl rfl) 0 0 0 (by unfold noneB; omega)).1
  have d1 := (keeps_123 (p := p) (q := p) hp hp a a 0 (by unfold noneB; omega)).1
  have d2 := (keeps_123 (p := q) (q := q) hq hq b b 0 (by unfold noneB; omega)).1
  have g1 := (k1 (-f) (by unfold noneB; omega)).1
  have g2 := (k2 (-at_) (by unfold noneB; omega)).2
  have g3 := (k3 e (by unfold noneB; omega)).2
  have g4 := (k4 e (by unfold noneB; omega)).1
  have g5 := (k5 0 (by unfold noneB; omega)).2
  have g6 := (k6 (e - f) (by unfold noneB; omega)).1
  rw [Int.mul_zero] at g5
  have d0' : keepsQ 0 1 0 1 1 = decide ((0 : Int) * 1 - 0 * 1 ≤ 0 * (1 * 1)) := d0
  have d1' : keepsQ a p a p 1 = decide (a * p - a * p ≤ 0 * (p * p)) := d1
  have d2' : keepsQ b q b q 1 = decide (b * q - b * q ≤ 0 * (q * q)) := d2
  show (keepsQ 0 1 0 1 1 && (keepsQ 0 1 a p (2 * (-f) + 1) && (keepsQ 0 1 b q (2 * (-at_)) && (keepsQ a p 0 1 (2 * e) && (keepsQ a p a p 1 && (keepsQ a p b q 0 && (keepsQ b q 0 1 (2 * e + 1) && (keepsQ b q a p (2 * (e - f) + 1) && (keepsQ b q b q 1 && true))))))))) = _
  rw [d0', d1', d2', g1, g2, g3, g4, g5, g6]
  apply Bool.eq_iff_iff.2
  rcases hp with rfl | rfl | rfl <;> rcases hq with rfl | rfl | rfl <;> simp <;> omega
/-- What is kept of a row by one test is what is kept by another one that agrees on it. -/
theorem keep_same {α : Type} (p q : α → Bool) : ∀ l : List α, (∀ x ∈ l, p x = q x) → l.filter p = l.filter q
  | [], _ => rfl
  | x :: r, h => by
    rw [List.filter_cons, List.filter_cons, h x (by simp), keep_same p q r fun y hy => h y (by simp [hy])]
end Go.Proofs.YtockinpjfhhkoaaGreatDoor

/- The plain law of AtomsDoes: the regions of an atom's zone are those that the document tells. No program. -/
namespace Go.Proofs.YtockinpjfhhkoaaGreatDoor
open Go.RowKit

/-- How the document compares two fractions. -/
def cmpR (a b : Int × Int) : Int :=
  if a.1 / a.2 = b.1 / b.2 then (if (a.1 % a.2) * b.2 < (b.1 % b.2) * a.2 then -1 else if (a.1 % a.2) * b.2 > (b.1 % b.2) * a.2 then 1 else 0)
  else if a.1 / a.2 < b.1 / b.2 then -1 else if a.1 / a.2 > b.1 / b.2 then 1 else 0
theorem cmpR_lt {a b : Int × Int} (ha : 0 < a.2) (hb : 0 < b.2) : cmpR a b < 0 ↔ a.1 * b.2 < b.1 * a.2 := by
  rw [lt_floor ha hb]
  unfold cmpR
  split
  · rename_i h
    split
    · rename_i h1; exact ⟨fun _ => .inr ⟨h, h1⟩, fun _ => by omega⟩
    · rename_i h1
      split
      · exact ⟨fun h2 => by omega, fun h2 => by omega⟩
      · exact ⟨fun h2 => by omega, fun h2 => by omega⟩
  · rename_i h
    split
    · rename_i h1; exact ⟨fun _ => .inl h1, fun _ => by omega⟩
    · rename_i h1
      split
      · exact ⟨fun h2 => by omega, fun h2 => by omega⟩
      · exact ⟨fun h2 => by omega, fun h2 => by omega⟩
theorem cmpR_neg (a b : Int × Int) : cmpR b a = -cmpR a b := by
  unfold cmpR
  by_cases h : a.1 / a.2 = b.1 / b.2
  · rw [if_pos h, if_pos h.symm]
    generalize (a.1 % a.2) * b.2 = x
    generalize (b.1 % b.2) * a.2 = y
    split <;> split <;> (try split) <;> omega
  · rw [if_neg h, if_neg (fun h' => h h'.symm)]
    split <;> split <;> (try split) <;> omega
theorem cmpR_le {a b : Int × Int} (ha : 0 < a.2) (hb : 0 < b.2) : cmpR a b ≤ 0 ↔ a.1 * b.2 ≤ b.1 * a.2 := by
  have h := cmpR_lt hb ha
  have h1 := cmpR_neg a b
  constructor
  · intro h2
    have : ¬ cmpR b a < 0 := by omega
    rw [h] at this; omega
  · intro h2
    have : ¬ cmpR b a < 0 := by rw [h]; omega
    omega
/-- The time of a place. -/
def atR (place num den : Int) : Int × Int := if place % 2 = 0 then (place / 2, 1) else (place / 2 * den + num, den)
def placeR (a : Int × Int) : Int := if a.2 = 1 then 2 * a.1 else 2 * (a.1 / a.2) + 1
def partR (a : Int × Int) : Int × Int := (a.1 - a.1 / a.2 * a.2, a.2)
/-- The number of a pair's region; below 0: it is no such pair. -/
def numR (t u : Int × Int) (long : Int) : Int :=
  if 0 ≤ cmpR t u ∨ t.1 < 0 ∨ 0 < cmpR u (long, 1) then -1
  else 3 * (placeR t * (2 * long + 1) + placeR u) + (if t.2 ≠ 1 ∧ u.2 ≠ 1 then 1 + cmpR (partR t) (partR u) else 1)
/-- The pair of a number. -/
def pairR (n long : Int) : (Int × Int) × (Int × Int) :=
  let t := n / 3 / (2 * long + 1)
  let u := n / 3 % (2 * long + 1)
  if n % 3 = 0 then (atR t 1 3, atR u 2 3) else if n % 3 = 2 then (atR t 2 3, atR u 1 3) else (atR t 1 2, atR u 1 2)
def isR (n long : Int) : Bool := numR (pairR n long).1 (pairR n long).2 long == n
theorem at_den (place num den : Int) (h : den = 2 ∨ den = 3) : (atR place num den).2 = 1 ∨ (atR place num den).2 = 2 ∨ (atR place num den).2 = 3 := by
  unfold atR
  split
  · exact .inl rfl
  · rcases h with rfl | rfl
    · exact .inr (.inl rfl)
    · exact .inr (.inr rfl)
theorem pair_den (n long : Int) : ((pairR n long).1.2 = 1 ∨ (pairR n long).1.2 = 2 ∨ (pairR n long).1.2 = 3) ∧ ((pairR n long).2.2 = 1 ∨ (pairR n long).2.2 = 2 ∨ (pairR n long).2.2 = 3) := by
  unfold pairR
  dsimp only
  split
  · exact ⟨at_den _ _ _ (.inr rfl), at_den _ _ _ (.inr rfl)⟩
  split
  · exact ⟨at_den _ _ _ (.inr rfl), at_den _ _ _ (.inr rfl)⟩
  · exact ⟨at_den _ _ _ (.inl rfl), at_den _ _ _ (.inl rfl)⟩
theorem pair_is {n long : Int} (h0 : 0 ≤ n) (h : isR n long = true) : (pairR n long).1.1 * (pairR n long).2.2 < (pairR n long).2.1 * (pairR n long).1.2 ∧ (pairR n long).2.1 ≤ long * (pairR n long).2.2 := by
  obtain ⟨d1, d2⟩ := pair_den n long
  have p1 : 0 < (pairR n long).1.2 := by omega
  have p2 : 0 < (pairR n long).2.2 := by omega
  unfold isR at h
  have h' : numR (pairR n long).1 (pairR n long).2 long = n := by simpa using h
  unfold numR at h'
  split at h'
  · omega
  · rename_i g
    have g1 : cmpR (pairR n long).1 (pairR n long).2 < 0 := by omega
    have g2 : cmpR (pairR n long).2 (long, 1) ≤ 0 := by omega
    rw [cmpR_lt p1 p2] at g1
    rw [cmpR_le p2 (by show (0 : Int) < 1; omega)] at g2
    dsimp only at g2
    rw [Int.mul_one] at g2
    exact ⟨g1, g2⟩
/-- The regions that the document tells of what has held since a moment. -/
def matchesR (from_ at_ to_ : Int) (count : Nat) : List Nat := (List.range count).filter fun n => isR n to_ && decide (from_ * (pairR n to_).1.2 ≤ (pairR n to_).1.1) && decide (at_ * (pairR n to_).2.2 < (pairR n to_).2.1)
/-- The regions of a zone. -/
def listR (z : List Int) (long : Int) (count : Nat) : List Nat := (List.range count).filter fun n => isR n long && keepsD 3 z [(0, 1), (pairR n long).1, (pairR n long).2]
theorem atom_list {f a e : Int} (hf : 0 ≤ f) (ha : f ≤ a) (he : a < e) (hm : e ≤ 288230376151711744) (count : Nat) :
    listR [1, 2 * (-f) + 1, 2 * (-a), 2 * e, 1, 0, 2 * e + 1, 2 * (e - f) + 1, 1] e count = matchesR f a e count := by
  unfold listR matchesR
  refine keep_same _ _ _ fun n _ => ?_
  cases h : isR n e with
  | false => simp
  | true =>
    obtain ⟨h1, h2⟩ := pair_is (by omega) h
    obtain ⟨d1, d2⟩ := pair_den n e
    rw [Bool.true_and, Bool.true_and]
    exact atom_region hf ha he hm d1 d2 h1 h2
end Go.Proofs.YtockinpjfhhkoaaGreatDoor
