/- Bounds and matrices in plain Lean: what layers 2 and 4 compute, and that an atom's matrix is closed. No program. -/
import Derived.WalkKit
namespace Go.Proofs.YtockinpjfhhkoaaGreatDoor
open Go.RowKit

def noneB : Int := 9223372036854775807
def numOkB (c : Int) : Bool := decide (-2305843009213693952 ≤ c) && decide (c ≤ 2305843009213693952)
/-- May it be a bound? -/
def checkB (b : Int) : Bool := b == noneB || numOkB (b / 2)
/-- A number's bound, strict or not. -/
def toldB (c : Int) (strict : Bool) : Int := 2 * c + if strict then 0 else 1
/-- Added; of what may not be, 0. -/
def addB (a b : Int) : Int :=
  if !checkB a || !checkB b then 0 else if a == noneB || b == noneB then noneB
  else if numOkB (a / 2 + b / 2) then toldB (a / 2 + b / 2) (a % 2 == 0 || b % 2 == 0) else 0
/-- May it be in a matrix? -/
def mayB (b : Int) : Bool := b == noneB || (numOkB (b / 2) && decide (-288230376151711744 ≤ b / 2) && decide (b / 2 ≤ 288230376151711744))
def relaxB (b a c : Int) : Int := if addB a c < b then addB a c else b
/-- One place of a matrix, by a clock. -/
def stepD (n k : Nat) (L : List Int) (p : Nat) : List Int := L.set p (relaxB (L.getD p 0) (L.getD (p / n * n + k) 0) (L.getD (k * n + p % n) 0))
def throughD (n k : Nat) (L : List Int) : List Int := (List.range (n * n)).foldl (stepD n k) L
def diagD (n : Nat) (L : List Int) : Bool := (List.range n).all fun i => decide (1 ≤ L.getD (i * n + i) 0)
def onesD (n : Nat) (L : List Int) : List Int := (List.range n).foldl (fun L i => L.set (i * n + i) 1) L
def goD (n : Nat) : List Nat → List Int → Option (List Int)
  | [], L => some L
  | k :: r, L => if diagD n (throughD n k L) then goD n r (throughD n k L) else none
/-- Closed; none: nothing keeps it. -/
def closeD (n : Nat) (L : List Int) : Option (List Int) := if diagD n L then goD n (List.range n) (onesD n L) else none

theorem addB_val {a b : Int} (ha : -1000000000000000000 ≤ a ∧ a ≤ 1000000000000000000) (hb : -1000000000000000000 ≤ b ∧ b ≤ 1000000000000000000) :
    addB a b = 2 * (a / 2 + b / 2) + if a % 2 = 0 ∨ b % 2 = 0 then 0 else 1 := by
  have h1 : checkB a = true := by unfold checkB numOkB; simp; omega
  have h2 : checkB b = true := by unfold checkB numOkB; simp; omega
  have h3 : (a == noneB) = false := by unfold noneB; simp; omega
  have h4 : (b == noneB) = false := by unfold noneB; simp; omega
  have h5 : numOkB (a / 2 + b / 2) = true := by unfold numOkB; simp; omega
  unfold addB toldB
  rw [h1, h2, h3, h4, h5]
  by_cases h6 : a % 2 = 0 <;> by_cases h7 : b % 2 = 0 <;> simp [h6, h7]
theorem addB_none {a b : Int} (ha : checkB a = true) (hb : checkB b = true) (h : a = noneB ∨ b = noneB) : addB a b = noneB := by
  unfold addB
  rw [ha, hb]
  rcases h with h | h <;> simp [h]
theorem relax_keep {b a c : Int} (ha : -1000000000000000000 ≤ a ∧ a ≤ 1000000000000000000) (hc : -1000000000000000000 ≤ c ∧ c ≤ 1000000000000000000) (h : b ≤ 2 * (a / 2 + c / 2) + if a % 2 = 0 ∨ c % 2 = 0 then 0 else 1) : relaxB b a c = b := by
  unfold relaxB
  rw [addB_val ha hc, if_neg (by omega)]
theorem relax_none {b a c : Int} (ha : checkB a = true) (hc : checkB c = true) (h : a = noneB ∨ c = noneB) (hb : b ≤ noneB) : relaxB b a c = b := by
  unfold relaxB
  rw [addB_none ha hc h, if_neg (by omega)]
/-- Three clocks: what a clock turns nothing of. -/
theorem through3 {k : Nat} {b0 b1 b2 b3 b4 b5 b6 b7 b8 : Int} (h : ∀ p, p < 9 → relaxB ([b0, b1, b2, b3, b4, b5, b6, b7, b8].getD p 0) ([b0, b1, b2, b3, b4, b5, b6, b7, b8].getD (p / 3 * 3 + k) 0) ([b0, b1, b2, b3, b4, b5, b6, b7, b8].getD (k * 3 + p % 3) 0) = [b0, b1, b2, b3, b4, b5, b6, b7, b8].getD p 0) :
    throughD 3 k [b0, b1, b2, b3, b4, b5, b6, b7, b8] = [b0, b1, b2, b3, b4, b5, b6, b7, b8] := by
  have key : ∀ l : List Nat, (∀ p ∈ l, p < 9) → l.foldl (stepD 3 k) [b0, b1, b2, b3, b4, b5, b6, b7, b8] = [b0, b1, b2, b3, b4, b5, b6, b7, b8] := by
    intro l
    induction l with
    | nil => intro _; rfl
    | cons p r ih =>
      intro hp
      have h9 := hp p (by simp)
      have h1 : stepD 3 k [b0, b1, b2, b3, b4, b5, b6, b7, b8] p = [b0, b1, b2, b3, b4, b5, b6, b7, b8] := by
        unfold stepD
        rw [h p h9]
        match p, h9 with
        | 0, _ => rfl
        | 1, _ => rfl
        | 2, _ => rfl
        | 3, _ => rfl
        | 4, _ => rfl
        | 5, _ => rfl
        | 6, _ => rfl
        | 7, _ => rfl
        | 8, _ => rfl
      rw [List.foldl_cons, h1]
      exact ih fun q hq => hp q (by simp [hq])
  exact key _ fun p hp => by simpa using hp
theorem atom_step {f a e : Int} (hf : 0 ≤ f) (ha : f ≤ a) (he : a < e) (hm : e ≤ 288230376151711744) (k : Nat) (hk : k < 3) :
    throughD 3 k [1, 2 * (-f) + 1, 2 * (-a), 2 * e, 1, 0, 2 * e + 1, 2 * (e - f) + 1, 1] = [1, 2 * (-f) + 1, 2 * (-a), 2 * e, 1, 0, 2 * e + 1, 2 * (e - f) + 1, 1] := by
  refine through3 fun p hp => ?_
  match k, hk, p, hp with
  | 0, _, 0, _ | 0, _, 1, _ | 0, _, 2, _ | 0, _, 3, _ | 0, _, 4, _ | 0, _, 5, _ | 0, _, 6, _ | 0, _, 7, _ | 0, _, 8, _
  | 1, _, 0, _ | 1, _, 1, _ | 1, _, 2, _ | 1, _, 3, _ | 1, _, 4, _ | 1, _, 5, _ | 1, _, 6, _ | 1, _, 7, _ | 1, _, 8, _
  | 2, _, 0, _ | 2, _, 1, _ | 2, _, 2, _ | 2, _, 3, _ | 2, _, 4, _ | 2, _, 5, _ | 2, _, 6, _ | 2, _, 7, _ | 2, _, 8, _ =>
    refine relax_keep ?_ ?_ ?_ <;> simp only [List.getD_cons_zero, List.getD_cons_succ, Nat.reduceDiv, Nat.reduceMul, Nat.reduceAdd, Nat.reduceMod] <;> (try split) <;> omega
/-- An atom's matrix is closed: begun from f on, ended behind a, up to e. -/
theorem atom_closed {f a e : Int} (hf : 0 ≤ f) (ha : f ≤ a) (he : a < e) (hm : e ≤ 288230376151711744) :
    closeD 3 [1, 2 * (-f) + 1, 2 * (-a), 2 * e, 1, 0, 2 * e + 1, 2 * (e - f) + 1, 1] = some [1, 2 * (-f) + 1, 2 * (-a), 2 * e, 1, 0, 2 * e + 1, 2 * (e - f) + 1, 1] := by
  have hd : diagD 3 [1, 2 * (-f) + 1, 2 * (-a), 2 * e, 1, 0, 2 * e + 1, 2 * (e - f) + 1, 1] = true := rfl
  have ho : onesD 3 [1, 2 * (-f) + 1, 2 * (-a), 2 * e, 1, 0, 2 * e + 1, 2 * (e - f) + 1, 1] = [1, 2 * (-f) + 1, 2 * (-a), 2 * e, 1, 0, 2 * e + 1, 2 * (e - f) + 1, 1] := rfl
  have h := fun k hk => atom_step hf ha he hm k hk
  unfold closeD
  rw [if_pos hd, ho]
  show goD 3 [0, 1, 2] _ = _
  rw [goD, h 0 (by omega), if_pos hd, goD, h 1 (by omega), if_pos hd, goD, h 2 (by omega), if_pos hd, goD]
/-- A clock of its own within a span that is not empty. -/
theorem side_closed {x y : Int} (hx : -1000000000000000000 ≤ x ∧ x ≤ 1000000000000000000) (hy : -1000000000000000000 ≤ y ∧ y ≤ 1000000000000000000) (h : 1 ≤ 2 * (y / 2 + x / 2) + if y % 2 = 0 ∨ x % 2 = 0 then 0 else 1) :
    closeD 2 [1, x, y, 1] = some [1, x, y, 1] := by
  have hd : diagD 2 [1, x, y, 1] = true := rfl
  have ho : onesD 2 [1, x, y, 1] = [1, x, y, 1] := rfl
  have ha : ∀ {a b : Int}, addB a b = addB b a := by
    intro a b
    unfold addB
    rw [Bool.or_comm, Bool.or_comm (a == noneB), Int.add_comm, Bool.or_comm (a % 2 == 0)]
  have r : ∀ z : Int, (-1000000000000000000 ≤ z ∧ z ≤ 1000000000000000000) → relaxB z 1 z = z ∧ relaxB z z 1 = z := by
    intro z hz
    refine ⟨relax_keep (by omega) hz ?_, relax_keep hz (by omega) ?_⟩ <;> split <;> omega
  have r1 := r 1 (by omega)
  have rx := r x hx
  have ry := r y hy
  have q1 : relaxB 1 y x = 1 := relax_keep hy hx h
  have q2 : relaxB 1 x y = 1 := by unfold relaxB at q1 ⊢; rw [ha]; exact q1
  have h0 : throughD 2 0 [1, x, y, 1] = [1, x, y, 1] := by
    show ([0, 1, 2, 3] : List Nat).foldl (stepD 2 0) [1, x, y, 1] = _
    simp [stepD, r1.1, rx.1, ry.2, q1]
  have h1 : throughD 2 1 [1, x, y, 1] = [1, x, y, 1] := by
    show ([0, 1, 2, 3] : List Nat).foldl (stepD 2 1) [1, x, y, 1] = _
    simp [stepD, r1.1, rx.2, ry.1, q2]
  unfold closeD
  rw [if_pos hd, ho]
  show goD 2 [0, 1] _ = _
  rw [goD, h0, if_pos hd, goD, h1, if_pos hd, goD]
/-- Does a difference of fractions keep a bound? (numerator, denominator of each) -/
def keepsQ (a p b q x : Int) : Bool :=
  if x = noneB then true
  else
    let d := a / p - b / q
    let c := x / 2
    let u := (a % p) * q
    let v := (b % q) * p
    decide (d < c) || (d == c && (decide (u < v) || (u == v && x % 2 == 1)))
def halfN (t : Int) : Int := if t % 2 = 0 then t / 2 else t
def halfD (t : Int) : Int := if t % 2 = 0 then 1 else 2
/-- Of halves. -/
theorem keeps_half (t u x : Int) (hx : x ≠ noneB) : keepsQ (halfN t) (halfD t) (halfN u) (halfD u) x = decide (t - u < x / 2 * 2 + x % 2) := by
  unfold keepsQ halfN halfD
  rw [if_neg hx]
  rcases Int.emod_two_eq t with ht | ht <;> rcases Int.emod_two_eq u with hu | hu <;> rcases Int.emod_two_eq x with hx2 | hx2 <;> simp only [ht, hu, hx2] <;> apply Bool.eq_iff_iff.2 <;> simp <;> omega
theorem keeps_half' (t u x : Int) (hx : x ≠ noneB) : keepsQ (halfN t) (halfD t) (halfN u) (halfD u) x = decide (t - u < x) := by
  rw [keeps_half t u x hx]
  congr 1
  apply propext
  omega
/-- A row of times keeps a matrix of n clocks. -/
def keepsD (n : Nat) (L : List Int) (q : List (Int × Int)) : Bool := (List.range (n * n)).all fun p => keepsQ (q.getD (p / n) (0, 1)).1 (q.getD (p / n) (0, 1)).2 (q.getD (p % n) (0, 1)).1 (q.getD (p % n) (0, 1)).2 (L.getD p 0)
theorem keeps_row (n : Nat) (L : List Int) (h : List Int) (hl : h.length = n) (hL : L.length = n * n) (hb : ∀ x ∈ L, x ≠ noneB) :
    keepsD n L (h.map fun t => (halfN t, halfD t)) = (List.range (n * n)).all fun p => decide (h.getD (p / n) 0 - h.getD (p % n) 0 < L.getD p 0) := by
  unfold keepsD
  rw [Bool.eq_iff_iff, List.all_eq_true, List.all_eq_true]
  refine forall_congr' fun p => forall_congr' fun hp => ?_
  have hp' : p < n * n := by simpa using hp
  have hn : 0 < n := by rcases Nat.eq_zero_or_pos n with rfl | h; · simp at hp'
                        · exact h
  have h1 : p / n < h.length := by rw [hl]; exact (Nat.div_lt_iff_lt_mul hn).2 hp'
  have h2 : p % n < h.length := by rw [hl]; exact Nat.mod_lt _ hn
  have g : ∀ i, i < h.length → (h.map fun t => (halfN t, halfD t)).getD i (0, 1) = (halfN (h.getD i 0), halfD (h.getD i 0)) := by
    intro i hi
    simp [List.getD_eq_getElem?_getD, List.getElem?_eq_getElem hi]
  have hx : L.getD p 0 ≠ noneB := by
    have : p < L.length := by omega
    rw [List.getD_eq_getElem?_getD, List.getElem?_eq_getElem this]
    exact hb _ (List.getElem_mem _)
  rw [g _ h1, g _ h2]
  dsimp only
  rw [keeps_half' _ _ _ hx]
/-- A pair in halves is a match of an atom. -/
theorem atom_has {f a e t u : Int} (hf : 0 ≤ f) (_ : f ≤ a) (_ : a < e) (hm : e ≤ 288230376151711744) :
    keepsD 3 [1, 2 * (-f) + 1, 2 * (-a), 2 * e, 1, 0, 2 * e + 1, 2 * (e - f) + 1, 1] [(0, 1), (halfN t, halfD t), (halfN u, halfD u)] = (decide (2 * f ≤ t) && decide (t < u) && decide (2 * a < u) && decide (u ≤ 2 * e)) := by
  have h := keeps_row 3 [1, 2 * (-f) + 1, 2 * (-a), 2 * e, 1, 0, 2 * e + 1, 2 * (e - f) + 1, 1] [0, t, u] rfl rfl (by
    intro x hx
    simp only [List.mem_cons, List.not_mem_nil, or_false] at hx
    unfold noneB
    rcases hx with rfl | rfl | rfl | rfl | rfl | rfl | rfl | rfl | rfl <;> omega)
  have h0 : ([0, t, u].map fun t => (halfN t, halfD t)) = [(0, 1), (halfN t, halfD t), (halfN u, halfD u)] := rfl
  rw [h0] at h
  rw [h]
  show (([0, 1, 2, 3, 4, 5, 6, 7, 8] : List Nat).all _) = _
  apply Bool.eq_iff_iff.2
  simp
  omega
end Go.Proofs.YtockinpjfhhkoaaGreatDoor

/- Fractions in plain Lean: what layer 3 compares, in two words and by whole parts. No program. -/
namespace Go.Proofs.YtockinpjfhhkoaaGreatDoor
open Go.RowKit

/-- May it be a fraction? -/
def mayQ (a p : Int) : Bool := decide (1 ≤ p) && decide (p ≤ 1048576) && decide (-2305843009213693952 ≤ a / p) && (decide (a / p < 2305843009213693952) || (a / p == 2305843009213693952 && a % p == 0)) && (Nat.gcd a.natAbs p.natAbs == 1)
/-- Is one below another one? -/
def ltQ (a p b q : Int) : Bool := decide (a * q < b * p)
def hiQ (x : Int) : Int := x / 18446744073709551616
def loQ (x : Int) : Int := x % 18446744073709551616
theorem hilo_lt (x y : Int) : (hiQ x < hiQ y ∨ (hiQ x = hiQ y ∧ loQ x < loQ y)) ↔ x < y := by
  unfold hiQ loQ; omega
theorem hilo_eq (x y : Int) : (hiQ x = hiQ y ∧ loQ x = loQ y) ↔ x = y := by
  unfold hiQ loQ; omega
/-- What two words less than 0 are. -/
theorem hilo_neg {x : Int} (h0 : 0 ≤ x) (h1 : x < 170141183460469231731687303715884105728) :
    loQ (-x) = (0 - loQ x) % 18446744073709551616 ∧ hiQ (-x) = (let h := (0 - hiQ x - (if loQ x = 0 then 0 else 1)) % 18446744073709551616; if h < 9223372036854775808 then h else h - 18446744073709551616) := by
  unfold hiQ loQ
  dsimp only
  constructor
  · omega
  · split <;> split <;> omega
/-- Whole parts first, then what is left over: how layer 3 and the document compare. -/
theorem lt_floor {a b p q : Int} (hp : 0 < p) (hq : 0 < q) : a * q < b * p ↔ (a / p < b / q ∨ (a / p = b / q ∧ (a % p) * q < (b % q) * p)) := by
  have ea : a = p * (a / p) + a % p := (Int.mul_ediv_add_emod a p).symm
  have eb : b = q * (b / q) + b % q := (Int.mul_ediv_add_emod b q).symm
  have r0 := Int.emod_nonneg a (by omega : p ≠ 0)
  have r1 := Int.emod_lt_of_pos a hp
  have s0 := Int.emod_nonneg b (by omega : q ≠ 0)
  have s1 := Int.emod_lt_of_pos b hq
  generalize hn : a / p = n at *
  generalize hm : b / q = m at *
  generalize hr : a % p = r at *
  generalize hs : b % q = s at *
  have e1 : a * q = p * q * n + r * q := by rw [ea, Int.add_mul, Int.mul_right_comm]
  have e2 : b * p = p * q * m + s * p := by rw [eb, Int.add_mul, Int.mul_right_comm, Int.mul_comm q p]
  have b1 : r * q < p * q := Int.mul_lt_mul_of_pos_right r1 hq
  have b2 : s * p < p * q := by rw [Int.mul_comm p q]; exact Int.mul_lt_mul_of_pos_right s1 hp
  have b3 : 0 ≤ r * q := Int.mul_nonneg r0 (by omega)
  have b4 : 0 ≤ s * p := Int.mul_nonneg s0 (by omega)
  have hpq : 0 < p * q := Int.mul_pos hp hq
  rw [e1, e2]
  rcases Int.lt_trichotomy n m with h | h | h
  · have k : p * q * n + p * q ≤ p * q * m := by
      have := Int.mul_le_mul_of_nonneg_left (show n + 1 ≤ m by omega) (Int.le_of_lt hpq)
      rw [Int.mul_add, Int.mul_one] at this
      exact this
    omega
  · subst h; omega
  · have k : p * q * m + p * q ≤ p * q * n := by
      have := Int.mul_le_mul_of_nonneg_left (show m + 1 ≤ n by omega) (Int.le_of_lt hpq)
      rw [Int.mul_add, Int.mul_one] at this
      exact this
    omega
theorem gcd_part (a p : Int) : Nat.gcd (a % p).natAbs p.natAbs = Nat.gcd a.natAbs p.natAbs := by
  refine Int.gcd_left_eq_iff.2 fun c hc => ?_
  have e := Int.mul_ediv_add_emod a p
  have h0 : c ∣ p * (a / p) := Int.dvd_trans hc (Int.dvd_mul_right _ _)
  constructor
  · intro h
    have h1 := Int.dvd_add h0 h
    rw [e] at h1
    exact h1
  · intro h
    have h1 := Int.dvd_sub h h0
    have h2 : a - p * (a / p) = a % p := by omega
    rw [h2] at h1
    exact h1
/-- Euclid's loop. -/
def gcdR : Nat → Nat → Nat → Nat
  | 0, a, _ => a
  | f + 1, a, b => if b = 0 then a else gcdR f b (a % b)
theorem gcdR_eq : ∀ (f a b : Nat), b < f ∨ b = 0 → gcdR f a b = Nat.gcd a b
  | 0, a, b, h => by
    have : b = 0 := by omega
    subst this
    simp [gcdR]
  | f + 1, a, b, h => by
    rw [gcdR]
    split
    · rename_i h0; subst h0; simp
    · rename_i h0
      have hb : 0 < b := by omega
      have hl := Nat.mod_lt a hb
      rw [gcdR_eq f b (a % b) (by omega), Nat.gcd_comm b, ← Nat.gcd_rec b a, Nat.gcd_comm]
end Go.Proofs.YtockinpjfhhkoaaGreatDoor

/- Closing matrices: plain facts. No program. -/
namespace Go.Proofs.YtockinpjfhhkoaaGreatDoor
open Go.RowKit

theorem stepD_len (n k : Nat) (L : List Int) (p : Nat) : (stepD n k L p).length = L.length := by unfold stepD; rw [List.length_set]
/-- The first rounds of a clock's. -/
def thrTo (n k : Nat) (L : List Int) (q : Nat) : List Int := (List.range q).foldl (stepD n k) L
theorem thrTo_zero (n k : Nat) (L : List Int) : thrTo n k L 0 = L := rfl
theorem thrTo_succ (n k : Nat) (L : List Int) (q : Nat) : thrTo n k L (q + 1) = stepD n k (thrTo n k L q) q := by
  unfold thrTo
  rw [List.range_succ, List.foldl_append]
  rfl
theorem thrTo_len (n k : Nat) (L : List Int) : ∀ q, (thrTo n k L q).length = L.length
  | 0 => rfl
  | q + 1 => by rw [thrTo_succ, stepD_len, thrTo_len n k L q]
theorem through_len (n k : Nat) (L : List Int) : (throughD n k L).length = L.length := thrTo_len n k L (n * n)
/-- The first ones of the diagonal. -/
def onesTo (n : Nat) (L : List Int) (q : Nat) : List Int := (List.range q).foldl (fun L i => L.set (i * n + i) 1) L
theorem onesTo_succ (n : Nat) (L : List Int) (q : Nat) : onesTo n L (q + 1) = (onesTo n L q).set (q * n + q) 1 := by
  unfold onesTo
  rw [List.range_succ, List.foldl_append]
  rfl
theorem onesTo_len (n : Nat) (L : List Int) : ∀ q, (onesTo n L q).length = L.length
  | 0 => rfl
  | q + 1 => by rw [onesTo_succ, List.length_set, onesTo_len n L q]
theorem onesTo_get (n : Nat) (L : List Int) (j : Nat) : ∀ q, q ≤ j → (onesTo n L q).getD (j * n + j) 0 = L.getD (j * n + j) 0
  | 0, _ => rfl
  | q + 1, h => by
    have h1 : q * n + q ≠ j * n + j := by
      have : q * n ≤ j * n := Nat.mul_le_mul_right n (by omega)
      omega
    rw [onesTo_succ, List.getD_eq_getElem?_getD, List.getElem?_set_ne h1, ← List.getD_eq_getElem?_getD, onesTo_get n L j q (by omega)]
theorem diagD_no {n : Nat} {L : List Int} {i : Nat} (hi : i < n) (h : L.getD (i * n + i) 0 < 1) : diagD n L = false := by
  unfold diagD
  rw [List.all_eq_false]
  refine ⟨i, List.mem_range.2 hi, ?_⟩
  rw [decide_eq_true_eq]
  omega
theorem diagD_yes {n : Nat} {L : List Int} (h : ∀ i, i < n → 1 ≤ L.getD (i * n + i) 0) : diagD n L = true := by
  unfold diagD
  rw [List.all_eq_true]
  intro i hi
  simpa using h i (List.mem_range.1 hi)
theorem drop_range {n k : Nat} (h : k < n) : (List.range n).drop k = k :: (List.range n).drop (k + 1) := by
  rw [List.drop_eq_getElem_cons (by simpa using h)]
  simp
theorem goD_step {n k : Nat} {L : List Int} (h : k < n) : goD n ((List.range n).drop k) L = if diagD n (throughD n k L) = true then goD n ((List.range n).drop (k + 1)) (throughD n k L) else none := by
  rw [drop_range h, goD]
theorem goD_end {n : Nat} {L : List Int} : goD n ((List.range n).drop n) L = some L := by
  rw [List.drop_of_length_le (by simp), goD]
theorem closeD_yes {n : Nat} {L : List Int} (h : diagD n L = true) : closeD n L = goD n ((List.range n).drop 0) (onesTo n L n) := by
  unfold closeD
  rw [if_pos h]
  rfl
theorem closeD_no {n : Nat} {L : List Int} (h : diagD n L = false) : closeD n L = none := by
  unfold closeD
  rw [h]
  rfl
theorem pair_lt {n k : Nat} (h : k < n * n) : k / n < n ∧ k % n < n ∧ k / n * n + k % n = k := by
  have hn : 0 < n := by
    rcases Nat.eq_zero_or_pos n with h1 | h1
    · subst h1; simp at h
    · exact h1
  refine ⟨(Nat.div_lt_iff_lt_mul hn).2 h, Nat.mod_lt _ hn, ?_⟩
  rw [Nat.mul_comm]
  exact Nat.div_add_mod k n
theorem place_lt {n i j : Nat} (hi : i < n) (hj : j < n) : i * n + j < n * n := by
  have : i * n + n ≤ n * n := by rw [← Nat.succ_mul]; exact Nat.mul_le_mul_right _ hi
  omega
/-- Bounds more, at places. -/
def withD (L : List Int) : List (Nat × Int) → List Int
  | [] => L
  | (p, x) :: r => withD (L.set p (min (L.getD p 0) x)) r
theorem withD_len : ∀ (l : List (Nat × Int)) (L : List Int), (withD L l).length = L.length
  | [], _ => rfl
  | (p, x) :: r, L => by rw [withD, withD_len r, List.length_set]
theorem withD_snoc (p : Nat) (x : Int) : ∀ (l : List (Nat × Int)) (L : List Int), withD L (l ++ [(p, x)]) = (withD L l).set p (min ((withD L l).getD p 0) x)
  | [], _ => rfl
  | (q, y) :: r, L => by rw [List.cons_append, withD, withD, withD_snoc p x r]
/-- All that all times keep. -/
def topD (n : Nat) : List Int := (List.range (n * n)).map fun p => if p / n = p % n then 1 else noneB
theorem topD_len (n : Nat) : (topD n).length = n * n := by simp [topD]
theorem topD2 : topD 2 = [1, noneB, noneB, 1] := by decide
theorem topD3 : topD 3 = [1, noneB, noneB, noneB, 1, noneB, noneB, noneB, 1] := by decide
end Go.Proofs.YtockinpjfhhkoaaGreatDoor
