/- Formulas, expressions and names in memory. -/
import Derived.Test.YtabpfbgcdmejbaaDoorTreeA
namespace Go.Proofs.YtabpfbgcdmejbaaDoor
open Go.RowKit

/-- A row of structs in memory, of C cells each, below block B. -/
def RowR (w : World) (B C : Nat) {α : Type} (R : α → Value → Prop) (a : Option Addr) (l : List α) : Prop :=
  l.length ≤ 9223372036854775807 ∧ (l = [] ∨ ∃ b off, a = some ⟨b, off, none⟩ ∧ b < B ∧
    ∀ i (h : i < l.length), ∃ vs : List Value, vs.length = C ∧ (∀ j, j < C → w.cell? ⟨b, off + i * C + j, none⟩ = vs[j]?) ∧ R l[i] (.agg vs.toArray))
theorem RowR.up {w w' : World} {B B' C : Nat} {α : Type} {R R' : α → Value → Prop} {a : Option Addr} {l : List α} (hb : Below B w w') (hB : B ≤ B') (hR : ∀ x ∈ l, ∀ v, R x v → R' x v) (h : RowR w B C R a l) : RowR w' B' C R' a l := by
  obtain ⟨hm, h⟩ := h
  refine ⟨hm, ?_⟩
  rcases h with h | ⟨b, off, ha, hlt, hc⟩
  · exact .inl h
  · refine .inr ⟨b, off, ha, by omega, fun i hi => ?_⟩
    obtain ⟨vs, h1, h2, h3⟩ := hc i hi
    exact ⟨vs, h1, fun j hj => (hb.cell (p := ⟨b, _, none⟩) hlt).trans (h2 j hj), hR _ (List.getElem_mem _) _ h3⟩

def FRep (w : World) (B : Nat) : (n : Nat) → FT n → Value → Prop
  | 0, _, _ => False
  | n + 1, t, v => ∃ a cap, v = .agg #[.int .u8 t.1, .string t.2.1, .slice a t.2.2.length cap] ∧ RowR w B 3 (FRep w B n) a t.2.2
abbrev FRow (w : World) (B n : Nat) (a : Option Addr) (l : List (FT n)) : Prop := RowR w B 3 (FRep w B n) a l
theorem FRep.up {w w' : World} {B B' : Nat} (hb : Below B w w') (hB : B ≤ B') : ∀ {n : Nat} {t : FT n} {v : Value}, FRep w B n t v → FRep w' B' n t v
  | 0, _, _, h => h.elim
  | _ + 1, _, _, ⟨a, cap, hv, h⟩ => ⟨a, cap, hv, h.up hb hB fun _ _ _ hx => FRep.up hb hB hx⟩
theorem FRow.up {w w' : World} {B B' n : Nat} {a : Option Addr} {l : List (FT n)} (h : FRow w B n a l) (hb : Below B w w') (hB : B ≤ B') : FRow w' B' n a l :=
  RowR.up hb hB (fun _ _ _ hx => FRep.up hb hB hx) h
theorem FRep.shape {w : World} {B n : Nat} {t : FT n} {v : Value} (h : FRep w B n t v) : ∃ k s a l c, v = .agg #[.int .u8 k, .string s, .slice a l c] := by
  cases n with
  | zero => exact h.elim
  | succ n => obtain ⟨a, c, hv, _⟩ := h; exact ⟨_, _, a, _, c, hv⟩
/-- The three cells of a formula in a row. -/
theorem FRow.at {w : World} {B n : Nat} {a : Option Addr} {l : List (FT n)} (h : FRow w B n a l) (j : Nat) (hj : j < l.length) :
    ∃ b off k s sa sl sc, a = some ⟨b, off, none⟩ ∧ b < B ∧ w.cell? ⟨b, off + j * 3, none⟩ = some (.int .u8 k) ∧ w.cell? ⟨b, off + j * 3 + 1, none⟩ = some (.string s) ∧
      w.cell? ⟨b, off + j * 3 + 2, none⟩ = some (.slice sa sl sc) ∧ FRep w B n l[j] (.agg #[.int .u8 k, .string s, .slice sa sl sc]) := by
  obtain ⟨_, h | ⟨b, off, ha, hb, hc⟩⟩ := h
  · rw [h] at hj; exact absurd hj (by simp)
  · obtain ⟨vs, h1, h2, h3⟩ := hc j hj
    obtain ⟨k, s, sa, sl, sc, hv⟩ := h3.shape
    match vs, h1 with
    | [x, y, z], _ =>
      have hv' : x = .int .u8 k ∧ y = .string s ∧ z = .slice sa sl sc := by simpa using hv
      obtain ⟨rfl, rfl, rfl⟩ := hv'
      exact ⟨b, off, k, s, sa, sl, sc, ha, hb, by have := h2 0 (by omega); simpa using this, by have := h2 1 (by omega); simpa using this, by have := h2 2 (by omega); simpa using this, h3⟩

def Spn.cells (i : Spn) : List Value := [.int .i64 i.low, .bool i.ls, .int .i64 i.high, .bool i.hs, .bool i.op]
def XRep (w : World) (B m : Nat) : (n : Nat) → XT m n → Value → Prop
  | 0, _, _ => False
  | n + 1, t, v => ∃ a1 c1 a2 c2, v = .agg #[.int .u8 t.1, .slice a1 t.2.1.length c1, .slice a2 t.2.2.1.length c2, .int .i64 t.2.2.2.low, .bool t.2.2.2.ls, .int .i64 t.2.2.2.high, .bool t.2.2.2.hs, .bool t.2.2.2.op] ∧
      FRow w B m a1 t.2.1 ∧ RowR w B 8 (XRep w B m n) a2 t.2.2.1
abbrev XRow (w : World) (B m n : Nat) (a : Option Addr) (l : List (XT m n)) : Prop := RowR w B 8 (XRep w B m n) a l
theorem XRep.up {w w' : World} {B B' m : Nat} (hb : Below B w w') (hB : B ≤ B') : ∀ {n : Nat} {t : XT m n} {v : Value}, XRep w B m n t v → XRep w' B' m n t v
  | 0, _, _, h => h.elim
  | _ + 1, _, _, ⟨a1, c1, a2, c2, hv, h1, h2⟩ => ⟨a1, c1, a2, c2, hv, h1.up hb hB, h2.up hb hB fun _ _ _ hx => XRep.up hb hB hx⟩
theorem XRow.up {w w' : World} {B B' m n : Nat} {a : Option Addr} {l : List (XT m n)} (h : XRow w B m n a l) (hb : Below B w w') (hB : B ≤ B') : XRow w' B' m n a l :=
  RowR.up hb hB (fun _ _ _ hx => XRep.up hb hB hx) h
theorem XRep.shape {w : World} {B m n : Nat} {t : XT m n} {v : Value} (h : XRep w B m n t v) :
    ∃ k a1 l1 c1 a2 l2 c2 lo ls hi hs op, v = .agg #[.int .u8 k, .slice a1 l1 c1, .slice a2 l2 c2, .int .i64 lo, .bool ls, .int .i64 hi, .bool hs, .bool op] := by
  cases n with
  | zero => exact h.elim
  | succ n => obtain ⟨a1, c1, a2, c2, hv, _⟩ := h; exact ⟨_, a1, _, c1, a2, _, c2, _, _, _, _, _, hv⟩
/-- The eight cells of an expression in a row. -/
theorem XRow.at {w : World} {B m n : Nat} {a : Option Addr} {l : List (XT m n)} (h : XRow w B m n a l) (j : Nat) (hj : j < l.length) :
    ∃ b off k a1 l1 c1 a2 l2 c2 lo ls hi hs op, a = some ⟨b, off, none⟩ ∧ b < B ∧ w.cell? ⟨b, off + j * 8, none⟩ = some (.int .u8 k) ∧ w.cell? ⟨b, off + j * 8 + 1, none⟩ = some (.slice a1 l1 c1) ∧
      w.cell? ⟨b, off + j * 8 + 2, none⟩ = some (.slice a2 l2 c2) ∧ w.cell? ⟨b, off + j * 8 + 3, none⟩ = some (.int .i64 lo) ∧ w.cell? ⟨b, off + j * 8 + 4, none⟩ = some (.bool ls) ∧
      w.cell? ⟨b, off + j * 8 + 5, none⟩ = some (.int .i64 hi) ∧ w.cell? ⟨b, off + j * 8 + 6, none⟩ = some (.bool hs) ∧ w.cell? ⟨b, off + j * 8 + 7, none⟩ = some (.bool op) ∧
      XRep w B m n l[j] (.agg #[.int .u8 k, .slice a1 l1 c1, .slice a2 l2 c2, .int .i64 lo, .bool ls, .int .i64 hi, .bool hs, .bool op]) := by
  obtain ⟨_, h | ⟨b, off, ha, hb, hc⟩⟩ := h
  · rw [h] at hj; exact absurd hj (by simp)
  · obtain ⟨vs, h1, h2, h3⟩ := hc j hj
    obtain ⟨k, a1, l1, c1, a2, l2, c2, lo, ls, hi, hs, op, hv⟩ := h3.shape
    match vs, h1 with
    | [v0, v1, v2, v3, v4, v5, v6, v7], _ =>
      have hv' : v0 = .int .u8 k ∧ v1 = .slice a1 l1 c1 ∧ v2 = .slice a2 l2 c2 ∧ v3 = .int .i64 lo ∧ v4 = .bool ls ∧ v5 = .int .i64 hi ∧ v6 = .bool hs ∧ v7 = .bool op := by simpa using hv
      obtain ⟨rfl, rfl, rfl, rfl, rfl, rfl, rfl, rfl⟩ := hv'
      refine ⟨b, off, k, a1, l1, c1, a2, l2, c2, lo, ls, hi, hs, op, ha, hb, ?_, ?_, ?_, ?_, ?_, ?_, ?_, ?_, h3⟩
      · have := h2 0 (by omega); simpa using this
      · have := h2 1 (by omega); simpa using this
      · have := h2 2 (by omega); simpa using this
      · have := h2 3 (by omega); simpa using this
      · have := h2 4 (by omega); simpa using this
      · have := h2 5 (by omega); simpa using this
      · have := h2 6 (by omega); simpa using this
      · have := h2 7 (by omega); simpa using this

/-- Names in memory: a slice value, below block B. -/
def NRep (w : World) (B : Nat) (v : Value) (l : List ByteArray) : Prop :=
  ∃ a cap, v = .slice a l.length cap ∧ l.length ≤ 9223372036854775807 ∧ (l = [] ∨ ∃ b off, a = some ⟨b, off, none⟩ ∧ b < B ∧ ∀ i (h : i < l.length), w.cell? ⟨b, off + i, none⟩ = some (.string l[i]))
theorem NRep.up {w w' : World} {B B' : Nat} {v : Value} {l : List ByteArray} (h : NRep w B v l) (hb : Below B w w') (hB : B ≤ B') : NRep w' B' v l := by
  obtain ⟨a, cap, hv, hm, h⟩ := h
  refine ⟨a, cap, hv, hm, ?_⟩
  rcases h with h | ⟨b, off, ha, hlt, hc⟩
  · exact .inl h
  · exact .inr ⟨b, off, ha, by omega, fun i hi => (hb.cell (p := ⟨b, _, none⟩) hlt).trans (hc i hi)⟩
end Go.Proofs.YtabpfbgcdmejbaaDoor
