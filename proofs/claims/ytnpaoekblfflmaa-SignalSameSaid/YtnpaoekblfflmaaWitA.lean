/- Proofs (the struct witness.Proof) as trees in Lean: what Many and Same compute. No program. -/
import Derived.WalkKit
namespace Go.Proofs.Ytnpaoekblfflmaa
open Go.RowKit

/-- A proof of depth at most n: kind, side, times, parts. -/
def PT : Nat → Type
  | 0 => Unit
  | n + 1 => Int × Int × List (Int × Int) × List (PT n)

def manyT : (n : Nat) → PT n → Int
  | 0, _ => 1
  | n + 1, t => t.2.2.2.foldl (fun acc x => wrap64 (acc + manyT n x)) 1

/-- Counting goes on from k parts that are done. -/
def manyTo (n : Nat) (of : List (PT n)) (k : Nat) : Int := (of.take k).foldl (fun acc x => wrap64 (acc + manyT n x)) 1

theorem manyTo_succ (n : Nat) (of : List (PT n)) (k : Nat) (h : k < of.length) : manyTo n of (k + 1) = wrap64 (manyTo n of k + manyT n of[k]) := by
  unfold manyTo
  rw [List.take_succ_eq_append_getElem h, List.foldl_append]
  rfl

theorem manyTo_all (n : Nat) (k s : Int) (ats : List (Int × Int)) (of : List (PT n)) : manyTo n of of.length = manyT (n + 1) (k, s, ats, of) := by
  unfold manyTo
  rw [List.take_length]
  rfl

def min64 (a b : Int) : Int := if b < a then b else a

def roomL {α : Type} (f : α → Int → Int) : List α → Int → Int
  | [], l => l
  | x :: r, l => if 0 ≤ l then roomL f r (f x l) else l

def roomT : (n : Nat) → PT n → Int → Int
  | 0, _, l => l
  | n + 1, t, l => roomL (roomT n) t.2.2.2 (wrap64 (wrap64 (l - 1) - min64 t.2.2.1.length 10000))

theorem roomL_drop {α : Type} (f : α → Int → Int) (l : List α) (k : Nat) (m : Int) (h : k < l.length) (hm : 0 ≤ m) : roomL f (l.drop k) m = roomL f (l.drop (k + 1)) (f l[k] m) := by
  rw [List.drop_eq_getElem_cons h, roomL, if_pos hm]

theorem roomL_stop {α : Type} (f : α → Int → Int) (l : List α) (m : Int) (hm : ¬ 0 ≤ m) : roomL f l m = m := by
  cases l with
  | nil => rfl
  | cons x r => rw [roomL, if_neg hm]

/-- Two lists go alike, element by element. -/
def sameL {α : Type} (f : α → α → Bool) : List α → List α → Bool
  | [], [] => true
  | x :: r, y :: s => f x y && sameL f r s
  | _, _ => false

def sameT : (n : Nat) → PT n → PT n → Bool
  | 0, _, _ => true
  | n + 1, a, b => a.1 == b.1 && a.2.1 == b.2.1 && decide (a.2.2.1 = b.2.2.1) && sameL (sameT n) a.2.2.2 b.2.2.2

theorem sameL_len {α : Type} (f : α → α → Bool) : ∀ (l r : List α), l.length ≠ r.length → sameL f l r = false
  | [], [], h => absurd rfl h
  | [], _ :: _, _ => rfl
  | _ :: _, [], _ => rfl
  | x :: l, y :: r, h => by rw [sameL, sameL_len f l r (by simpa using h)]; simp

theorem sameL_drop {α : Type} (f : α → α → Bool) (l r : List α) (k : Nat) (h : k < l.length) (h' : k < r.length) : sameL f (l.drop k) (r.drop k) = (f l[k] r[k] && sameL f (l.drop (k + 1)) (r.drop (k + 1))) := by
  rw [List.drop_eq_getElem_cons h, List.drop_eq_getElem_cons h', sameL]

theorem sameL_end {α : Type} (f : α → α → Bool) (l r : List α) (h : l.length = r.length) : sameL f (l.drop l.length) (r.drop l.length) = true := by
  rw [List.drop_length, h, List.drop_length]
  rfl

theorem sameL_eq (l r : List (Int × Int)) : sameL (fun a b => decide (a = b)) l r = decide (l = r) := by
  induction l generalizing r with
  | nil => cases r <;> simp [sameL]
  | cons x l ih => cases r with
    | nil => simp [sameL]
    | cons y r => simp [sameL, ih]

theorem sameT_refl : ∀ (n : Nat) (t : PT n), sameT n t t = true
  | 0, _ => rfl
  | n + 1, t => by
    have : ∀ l : List (PT n), sameL (sameT n) l l = true := fun l => by
      induction l with
      | nil => rfl
      | cons x l ih => rw [sameL, sameT_refl n x, ih]; rfl
    simp [sameT, this]

/-- Fractions in memory: a slice value, below block B. -/
def RatsRep (w : World) (B : Nat) (v : Value) (l : List (Int × Int)) : Prop :=
  ∃ a cap, v = .slice a l.length cap ∧ l.length ≤ 9223372036854775807 ∧ (l = [] ∨ ∃ b off, a = some ⟨b, off, none⟩ ∧ b < B ∧
    ∀ i (h : i < l.length), w.cell? ⟨b, off + i * 2, none⟩ = some (.int .i64 l[i].1) ∧ w.cell? ⟨b, off + i * 2 + 1, none⟩ = some (.int .i64 l[i].2))

def PRep (w : World) (B : Nat) : (n : Nat) → PT n → Value → Prop
  | 0, _, _ => False
  | n + 1, t, v => ∃ va a cap, v = .agg #[.int .u8 t.1, .int .u8 t.2.1, va, .slice a t.2.2.2.length cap] ∧ t.2.2.2.length ≤ 9223372036854775807 ∧ RatsRep w B va t.2.2.1 ∧
      (t.2.2.2 = [] ∨ ∃ b off, a = some ⟨b, off, none⟩ ∧ b < B ∧
        ∀ i (h : i < t.2.2.2.length), ∃ v0 v1 v2 v3, w.cell? ⟨b, off + i * 4, none⟩ = some v0 ∧ w.cell? ⟨b, off + i * 4 + 1, none⟩ = some v1 ∧
          w.cell? ⟨b, off + i * 4 + 2, none⟩ = some v2 ∧ w.cell? ⟨b, off + i * 4 + 3, none⟩ = some v3 ∧ PRep w B n t.2.2.2[i] (.agg #[v0, v1, v2, v3]))

theorem RatsRep.below {w w' : World} {B : Nat} (hb : Below B w w') {v : Value} {l : List (Int × Int)} (h : RatsRep w B v l) : RatsRep w' B v l := by
  obtain ⟨a, cap, hv, hm, h⟩ := h
  refine ⟨a, cap, hv, hm, ?_⟩
  rcases h with h | ⟨b, off, ha, hlt, hc⟩
  · exact .inl h
  · exact .inr ⟨b, off, ha, hlt, fun i hi => ⟨(hb.cell (p := ⟨b, _, none⟩) hlt).trans (hc i hi).1, (hb.cell (p := ⟨b, _, none⟩) hlt).trans (hc i hi).2⟩⟩

theorem PRep.below {w w' : World} {B : Nat} (hb : Below B w w') : ∀ (n : Nat) {t : PT n} {v : Value}, PRep w B n t v → PRep w' B n t v
  | 0, _, _, h => h.elim
  | n + 1, t, v, h => by
    obtain ⟨va, a, cap, hv, hm, hr, h⟩ := h
    refine ⟨va, a, cap, hv, hm, hr.below hb, ?_⟩
    rcases h with h | ⟨b, off, ha, hlt, hc⟩
    · exact .inl h
    · refine .inr ⟨b, off, ha, hlt, fun i hi => ?_⟩
      obtain ⟨v0, v1, v2, v3, c0, c1, c2, c3, hp⟩ := hc i hi
      exact ⟨v0, v1, v2, v3, (hb.cell (p := ⟨b, _, none⟩) hlt).trans c0, (hb.cell (p := ⟨b, _, none⟩) hlt).trans c1, (hb.cell (p := ⟨b, _, none⟩) hlt).trans c2, (hb.cell (p := ⟨b, _, none⟩) hlt).trans c3, PRep.below hb n hp⟩

theorem PRep.shape {w : World} {B n : Nat} {t : PT n} {v : Value} (h : PRep w B n t v) :
    ∃ k s a1 l1 c1 a2 l2 c2, v = .agg #[.int .u8 k, .int .u8 s, .slice a1 l1 c1, .slice a2 l2 c2] := by
  cases n with
  | zero => exact h.elim
  | succ n =>
    obtain ⟨va, a, cap, hv, _, ⟨a', cap', hr, _⟩, _⟩ := h
    exact ⟨_, _, a', _, cap', a, _, cap, by rw [hv, hr]⟩

/-- The four cells of part i, in whatever later world. -/
theorem part_cells {w wr : World} {B n b off : Nat} {of : List (PT n)} (hB : B ≤ w.heap.size) (hbw : Below w.heap.size w wr) (hbl : b < B)
    (hc : ∀ i (h : i < of.length), ∃ v0 v1 v2 v3, w.cell? ⟨b, off + i * 4, none⟩ = some v0 ∧ w.cell? ⟨b, off + i * 4 + 1, none⟩ = some v1 ∧
          w.cell? ⟨b, off + i * 4 + 2, none⟩ = some v2 ∧ w.cell? ⟨b, off + i * 4 + 3, none⟩ = some v3 ∧ PRep w B n of[i] (.agg #[v0, v1, v2, v3])) (j : Nat) (hlt : j < of.length) :
    ∃ k s a1 l1 c1 a2 l2 c2, wr.cell? ⟨b, off + j * 4, none⟩ = some (.int .u8 k) ∧ wr.cell? ⟨b, off + j * 4 + 1, none⟩ = some (.int .u8 s) ∧
          wr.cell? ⟨b, off + j * 4 + 2, none⟩ = some (.slice a1 l1 c1) ∧ wr.cell? ⟨b, off + j * 4 + 3, none⟩ = some (.slice a2 l2 c2) ∧
          PRep wr B n of[j] (.agg #[.int .u8 k, .int .u8 s, .slice a1 l1 c1, .slice a2 l2 c2]) := by
  obtain ⟨v0, v1, v2, v3, c0, c1, c2, c3, hp⟩ := hc j hlt
  obtain ⟨k, s, a1, l1, e1, a2, l2, e2, hv⟩ := hp.shape
  simp only [Value.agg.injEq, Array.mk.injEq, List.cons.injEq, and_true] at hv
  obtain ⟨rfl, rfl, rfl, rfl⟩ := hv
  exact ⟨k, s, a1, l1, e1, a2, l2, e2, (hbw.cell (p := ⟨b, _, none⟩) (by show b < _; omega)).trans c0, (hbw.cell (p := ⟨b, _, none⟩) (by show b < _; omega)).trans c1,
    (hbw.cell (p := ⟨b, _, none⟩) (by show b < _; omega)).trans c2, (hbw.cell (p := ⟨b, _, none⟩) (by show b < _; omega)).trans c3, PRep.below (hbw.mono hB) n hp⟩

end Go.Proofs.Ytnpaoekblfflmaa
