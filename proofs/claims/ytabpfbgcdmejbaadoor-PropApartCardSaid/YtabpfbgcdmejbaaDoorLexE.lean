/- Tokens in memory: slices that came in, slices that a call owns; the book's Same and Great. -/
import Derived.StillTailTactics
import Derived.Deep.RegionHeld3
import Derived.Deep.DrawnRows
import Derived.Maps.AppendAt
import Derived.Deep.RegionLaw
import Derived.Deep.AppendLies
import Derived.WalkSmall
import Derived.Deep.QuietTactic
import Derived.BigQuiet
import Derived.LoopTactic
import Derived.Test.YtabpfbgcdmejbaaDoorLexA
namespace Go.Proofs.YtabpfbgcdmejbaaDoor
open Go.RowKit Go.Shelf
attribute [local go_sem ↓] Go.wp_at_zero Go.wp_at_succ

def Tok.cells (t : Tok) : List Value := [.int .u8 t.kind, .string t.text, .int .i64 t.place]
def Tok.val (t : Tok) : Value := .agg #[.int .u8 t.kind, .string t.text, .int .i64 t.place]
instance : Inhabited Tok := ⟨⟨0, .empty, 0⟩⟩
def noTok : Tok := ⟨0, .empty, 0⟩

/-- Tokens' cells: from off on, in block b. -/
def TokC (w : World) (b off : Nat) (l : List Tok) : Prop :=
  ∀ i, (h : i < l.length) → w.cell? ⟨b, off + i * 3, none⟩ = some (.int .u8 l[i].kind) ∧ w.cell? ⟨b, off + i * 3 + 1, none⟩ = some (.string l[i].text) ∧ w.cell? ⟨b, off + i * 3 + 2, none⟩ = some (.int .i64 l[i].place)

theorem TokC.below {w w' : World} {B b off : Nat} {l : List Tok} (hb : Below B w w') (hlt : b < B) (h : TokC w b off l) : TokC w' b off l :=
  fun i hi => ⟨(hb.cell (p := ⟨b, _, none⟩) hlt).trans (h i hi).1, (hb.cell (p := ⟨b, _, none⟩) hlt).trans (h i hi).2.1, (hb.cell (p := ⟨b, _, none⟩) hlt).trans (h i hi).2.2⟩

/-- Tokens in memory: a slice value, below block B. -/
def Toks (w : World) (B : Nat) (v : Value) (l : List Tok) : Prop :=
  ∃ a cap, v = .slice a l.length cap ∧ l.length ≤ 9223372036854775807 ∧ (l = [] ∨ ∃ b off, a = some ⟨b, off, none⟩ ∧ b < B ∧ TokC w b off l)

theorem Toks.below {w w' : World} {B : Nat} {v : Value} {l : List Tok} (hb : Below B w w') (h : Toks w B v l) : Toks w' B v l := by
  obtain ⟨a, cap, hv, hm, h⟩ := h
  refine ⟨a, cap, hv, hm, ?_⟩
  rcases h with h | ⟨b, off, ha, hlt, hc⟩
  · exact .inl h
  · exact .inr ⟨b, off, ha, hlt, hc.below hb hlt⟩
theorem Toks.mono {w : World} {B B' : Nat} {v : Value} {l : List Tok} (hB : B ≤ B') (h : Toks w B v l) : Toks w B' v l := by
  obtain ⟨a, cap, hv, hm, h⟩ := h
  refine ⟨a, cap, hv, hm, ?_⟩
  rcases h with h | ⟨b, off, ha, hlt, hc⟩
  · exact .inl h
  · exact .inr ⟨b, off, ha, by omega, hc⟩

def flatT (l : List Tok) : List Value := l.flatMap Tok.cells
theorem flatT_append (a b : List Tok) : flatT (a ++ b) = flatT a ++ flatT b := by simp [flatT]
theorem flatT_one (s : Tok) : flatT [s] = s.cells := by simp [flatT]
theorem flatT_length : ∀ l : List Tok, (flatT l).length = l.length * 3
  | [] => rfl
  | s :: l => by
    have := flatT_length l
    show (flatT ([s] ++ l)).length = _
    rw [flatT_append, List.length_append, this]
    simp [flatT_one, Tok.cells]; omega
theorem flatT_getI : ∀ (l : List Tok) (i : Nat), (h : i < l.length) → (flatT l)[i * 3]? = some (.int .u8 l[i].kind) ∧ (flatT l)[i * 3 + 1]? = some (.string l[i].text) ∧ (flatT l)[i * 3 + 2]? = some (.int .i64 l[i].place)
  | [], i, h => by simp at h
  | s :: l, 0, _ => by simp [flatT, Tok.cells]
  | s :: l, i + 1, h => by
    have := flatT_getI l i (by simpa using h)
    have h2 : flatT (s :: l) = s.cells ++ flatT l := by simp [flatT]
    have h3 : s.cells.length = 3 := rfl
    rw [h2, List.getElem?_append_right (by rw [h3]; omega), List.getElem?_append_right (by rw [h3]; omega), List.getElem?_append_right (by rw [h3]; omega), h3]
    rw [show (i + 1) * 3 - 3 = i * 3 by omega, show (i + 1) * 3 + 1 - 3 = i * 3 + 1 by omega, show (i + 1) * 3 + 2 - 3 = i * 3 + 2 by omega]
    simpa using this

/-- Tokens that the call made: it owns their row, from block B on. -/
def OwnT (w : World) (B : Nat) (v : Value) (l : List Tok) : Prop := w.ownsRow B 80 3 v l.length (flatT l)

theorem OwnT.shape {w : World} {B : Nat} {v : Value} {l : List Tok} (h : OwnT w B v l) : ∃ a c, v = .slice a l.length c := by
  rcases h.2 with ⟨rfl, h0⟩ | ⟨g, cap, cur, hv, _⟩
  · exact ⟨none, 0, by rw [h0]⟩
  · exact ⟨_, _, hv⟩
theorem OwnT.below {w w' : World} {B : Nat} {v : Value} {l : List Tok} (h : OwnT w B v l) (hb : Below w.heap.size w w') : OwnT w' B v l :=
  World.ownsRow.kept h (row := none) ⟨hb.os, hb.tape, hb.output, hb.size, fun j hj _ => hb.block j hj⟩ (by cases hv : v.ownBlock <;> simp)
theorem OwnT.mono {w : World} {B B' : Nat} {v : Value} {l : List Tok} (h : OwnT w B v l) (hb : B' ≤ B) : OwnT w B' v l := by
  obtain ⟨h1, hh⟩ := h
  refine ⟨h1, ?_⟩
  rcases hh with h2 | ⟨g, cap, cur, h2, hg, hr⟩
  · exact .inl h2
  · exact .inr ⟨g, cap, cur, h2, by omega, hr⟩
theorem OwnT.toks {w : World} {B : Nat} {v : Value} {l : List Tok} (h : OwnT w B v l) (hm : l.length ≤ 9223372036854775807) : Toks w w.heap.size v l := by
  have h' := h
  obtain ⟨_, hh⟩ := h
  rcases hh with ⟨rfl, h0⟩ | ⟨g, cap, cur, rfl, hg, hb, _, _, _, _⟩
  · exact ⟨none, 0, by rw [h0], hm, .inl (List.eq_nil_of_length_eq_zero h0)⟩
  · refine ⟨_, cap, rfl, hm, .inr ⟨g, 0, rfl, (Array.getElem?_eq_some_iff.1 hb).1, fun i hi => ?_⟩⟩
    have h3 := flatT_getI l i hi
    refine ⟨?_, ?_, ?_⟩
    · rw [Nat.zero_add, h'.cellAt _ (by omega)]; exact h3.1
    · rw [Nat.zero_add, h'.cellAt _ (by omega)]; exact h3.2.1
    · rw [Nat.zero_add, h'.cellAt _ (by omega)]; exact h3.2.2
/-- The tokens that are owned, where they lie. -/
theorem OwnT.at {w : World} {B : Nat} {v : Value} {l : List Tok} (h : OwnT w B v l) (h0 : l ≠ []) :
    ∃ g cap, v = .slice (some ⟨g, 0, none⟩) l.length cap ∧ B ≤ g ∧ g < w.heap.size ∧ TokC w g 0 l ∧ (∀ j, w.frozen? ⟨g, j, none⟩ = false) ∧
      ∀ j x, w.ownsRow B 80 3 v l.length (flatT l) → (w.setCell ⟨g, j, none⟩ x).ownsRow B 80 3 v l.length ((flatT l).set j x) := by
  have h' := h
  obtain ⟨_, hh⟩ := h
  rcases hh with ⟨_, h0'⟩ | ⟨g, cap, cur, hv, hg, hb, hn, hm, hs, ht⟩
  · exact absurd (List.eq_nil_of_length_eq_zero h0') h0
  · subst hv
    refine ⟨g, cap, rfl, hg, (Array.getElem?_eq_some_iff.1 hb).1, ?_, fun j => h'.frozenAt _, fun j x ho => (ho.stored j x).1⟩
    intro i hi
    have h3 := flatT_getI l i hi
    refine ⟨?_, ?_, ?_⟩
    · rw [Nat.zero_add, World.ownsRow.cellAt h' _ (by omega)]; exact h3.1
    · rw [Nat.zero_add, World.ownsRow.cellAt h' _ (by omega)]; exact h3.2.1
    · rw [Nat.zero_add, World.ownsRow.cellAt h' _ (by omega)]; exact h3.2.2

theorem cells_three_new (w : World) (x y z : Value) (t : TypeId) : ∀ j u, [x, y, z][j]? = some u → (w.alloc (.cells #[x, y, z] t)).cell? ((⟨w.heap.size, 0, none⟩ : Addr).add j) = some u := by
  intro j u hj
  match j, hj with
  | 0, hj => simp at hj; subst hj; simp [Addr.add]
  | 1, hj => simp at hj; subst hj; simp [Addr.add]
  | 2, hj => simp at hj; subst hj; simp [Addr.add]
theorem Tryd.info80 : (Tryd.prog.info? 80).map (fun i => (i.zero, i.size, i.bytes)) = some (some (.agg #[.int .u8 0, .string .empty, .int .i64 0]), 3, 32) := by kernel_rfl

@[local go_sem] theorem eq27 (a d : Int) (b e : ByteArray) (c f : Int) (w : World) : (Op.equalIn 10000 80 (.agg #[.int .u8 a, .string b, .int .i64 c]) (.agg #[.int .u8 d, .string e, .int .i64 f])).run Tryd.prog w = .ok (a == d && (b.toList == e.toList) && c == f) w := by
  have u3 := Tryd.underlying3
  have a3 := Tryd.isAgg3
  have z3 := Tryd.sizeOf3
  have u5 := Tryd.underlying5
  have a5 := Tryd.isAgg5
  have z5 := Tryd.sizeOf5
  have u9 := Tryd.underlying9
  have a9 := Tryd.isAgg9
  have z9 := Tryd.sizeOf9
  have hS : Tryd.prog.underlying 80 = some (.struct (Tryd.prog.fieldsOf 80)) := by kernel_rfl
  have hp : Tryd.prog.stoodInHeld 80 = false := by kernel_rfl
  rw [show (10000 : Nat) = 9999 + 1 from rfl, run_equalIn_agg w 9999 80 _ _ hS hp]
  simp only [Program.fieldsOf, Tryd.underlying80]
  go_simp
  by_cases h1 : a = d <;> by_cases h2 : b.toList = e.toList <;> by_cases h3 : c = f <;> simp [h1, h2, h3]

theorem take_succ_eq {l r : List Tok} {k : Nat} (h1 : k < l.length) (h2 : k < r.length) (ht : l.take k = r.take k) (he : l[k] = r[k]) : l.take (k + 1) = r.take (k + 1) := by
  rw [List.take_succ_eq_append_getElem h1, List.take_succ_eq_append_getElem h2, ht, he]
theorem toList_inj {a b : ByteArray} (h : a.toList = b.toList) : a = b := by
  rw [ByteArray.toList_eq, ByteArray.toList_eq] at h
  cases a; cases b; simp_all
theorem belowDrewN {B : Nat} {a w : World} (h : Below B a w) (n : Nat) : Below B a (w.drewN n) := h.trans ⟨rfl, rfl, rfl, Nat.le_refl _, fun _ _ => rfl⟩
theorem ret_bool' {a b : Bool} (h : a = b) : Ending.returned (.bool a) = .returned (.bool b) := by rw [h]

end Go.Proofs.YtabpfbgcdmejbaaDoor
