/- The book of layer 15: numbers, kinds, names, how long a token is. -/
import Derived.Test.YtabpfbgcdmejbaaDoorLexB
namespace Go.Proofs.YtabpfbgcdmejbaaDoor
open Go.RowKit Go.Shelf

theorem digVal_snoc (l : List UInt8) (c : UInt8) : ∀ a, digVal a (l ++ [c]) = 10 * digVal a l + (c.toNat - 48) := by
  induction l with
  | nil => intro a; rfl
  | cons b r ih => intro a; rw [List.cons_append, digVal_cons, digVal_cons, ih]
theorem digVal_lt (l : List UInt8) (h : l.all isDig = true) : ∀ a, digVal a l < (a + 1) * 10 ^ l.length := by
  induction l with
  | nil => intro a; simp [digVal]
  | cons b r ih =>
    intro a
    simp only [List.all_cons, Bool.and_eq_true] at h
    have h1 := h.1
    simp only [isDig, Bool.and_eq_true, decide_eq_true_eq] at h1
    have := ih h.2 (10 * a + (b.toNat - 48))
    rw [digVal_cons, List.length_cons, Nat.pow_succ]
    refine Nat.lt_of_lt_of_le this ?_
    calc (10 * a + (b.toNat - 48) + 1) * 10 ^ r.length ≤ ((a + 1) * 10) * 10 ^ r.length := Nat.mul_le_mul_right _ (by omega)
      _ = (a + 1) * (10 ^ r.length * 10) := by rw [Nat.mul_assoc, Nat.mul_comm 10]
theorem digVal_take_lt (l : List UInt8) (k : Nat) (hk : k ≤ 17) (h : (l.take k).all isDig = true) : digVal 0 (l.take k) < 100000000000000000 := by
  have := digVal_lt _ h 0
  have h2 : (l.take k).length ≤ 17 := by rw [List.length_take]; omega
  have h3 : 10 ^ (l.take k).length ≤ 10 ^ 17 := Nat.pow_le_pow_right (by decide) h2
  omega

/-- What the book takes for a number. -/
def numB (l : List UInt8) : Bool := decide (1 ≤ l.length) && numOk l

end Go.Proofs.YtabpfbgcdmejbaaDoor
