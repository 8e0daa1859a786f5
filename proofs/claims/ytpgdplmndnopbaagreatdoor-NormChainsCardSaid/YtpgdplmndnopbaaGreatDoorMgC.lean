/- The book of layer 15: numbers, kinds, names, how long a token is. -/
import Derived.Test.YtpgdplmndnopbaaGreatDoorMgA
import Derived.StillTailTactics
import Derived.Deep.RegionHeld3
import Derived.Deep.DrawnRows
import Derived.Maps.AppendAt
import Derived.Deep.RegionLaw
import Derived.Deep.AppendLies
import Derived.WalkSmall
import Derived.Deep.QuietTactic
import Derived.BigQuiet
import Derived.LoopTactic
namespace Go.Proofs.YtpgdplmndnopbaaGreatDoor
open Go.RowKit Go.Shelf
def numB (l : List UInt8) : Bool := decide (1 ≤ l.length) && numOk l
end Go.Proofs.YtpgdplmndnopbaaGreatDoor

/- Tokens in memory: slices that came in, slices that a call owns; the book's Same and Great. -/
namespace Go.Proofs.YtpgdplmndnopbaaGreatDoor
open Go.RowKit Go.Shelf
attribute [local go_sem ↓] Go.wp_at_zero Go.wp_at_succ
def Tok.cells (t : Tok) : List Value := [.int .u8 t.kind, .string t.text, .int .i64 t.place]
def Tok.val (t : Tok) : Value := .agg #[.int .u8 t.kind, .string t.text, .int .i64 t.place]
def noTok : Tok := ⟨0, .empty, 0⟩
def TokC (w : World) (b off : Nat) (l : List Tok) : Prop :=
 ∀ i, (h : i < l.length) → w.cell? ⟨b, off + i * 3, none⟩ = some (.int .u8 l[i].kind) ∧ w.cell? ⟨b, off + i * 3 + 1, none⟩ = some (.string l[i].text) ∧ w.cell? ⟨b, off + i * 3 + 2, none⟩ = some (.int .i64 l[i].place)
def Toks (w : World) (B : Nat) (v : Value) (l : List Tok) : Prop :=
 ∃ a cap, v = .slice a l.length cap ∧ l.length ≤ 9223372036854775807 ∧ (l = [] ∨ ∃ b off, a = some ⟨b, off, none⟩ ∧ b < B ∧ TokC w b off l)
def flatT (l : List Tok) : List Value := l.flatMap Tok.cells
theorem flatT_append (a b : List Tok) : flatT (a ++ b) = flatT a ++ flatT b := by simp [flatT]
theorem flatT_one (s : Tok) : flatT [s] = s.cells := by simp [flatT]
theorem flatT_length : ∀ l : List Tok, (flatT l).length = l.length * 3
 | [] => rfl
 | s :: l => by
  have := flatT_length l
  show (flatT ([s] ++ l)).length = _
  rw [flatT_append, List.length_append, this]
  simp [flatT_one, Tok.cells]; omega
theorem flatT_getI : ∀ (l : List Tok) (i : Nat), (h : i < l.length) → (flatT l)[i * 3]? = some (.int .u8 l[i].kind) ∧ (flatT l)[i * 3 + 1]? = some (.string l[i].text) ∧ (flatT l)[i * 3 + 2]? = some (.int .i64 l[i].place)
 | [], i, h => by simp at h
 | s :: l, 0, _ => by simp [flatT, Tok.cells]
 | s :: l, i + 1, h => by
  have := flatT_getI l i (by simpa using h)
  have h2 : flatT (s :: l) = s.cells ++ flatT l := by simp [flatT]
  have h3 : s.cells.length = 3 := rfl
  rw [h2, List.getElem?_append_right (by rw [h3]; omega), List.getElem?_append_right (by rw [h3]; omega), List.getElem?_append_right (by rw [h3]; omega), h3]
  rw [show (i + 1) * 3 - 3 = i * 3 by omega, show (i + 1) * 3 + 1 - 3 = i * 3 + 1 by omega, show (i + 1) * 3 + 2 - 3 = i * 3 + 2 by omega]
  simpa using this
def OwnT (w : World) (B : Nat) (v : Value) (l : List Tok) : Prop := w.ownsRow B 51 3 v l.length (flatT l)
theorem OwnT.shape {w : World} {B : Nat} {v : Value} {l : List Tok} (h : OwnT w B v l) : ∃ a c, v = .slice a l.length c := by
 rcases h.2 with ⟨rfl, h0⟩ | ⟨g, cap, cur, hv, _⟩
 ·exact ⟨none, 0, by rw [h0]⟩
 ·exact ⟨_, _, hv⟩
theorem OwnT.below {w w' : World} {B : Nat} {v : Value} {l : List Tok} (h : OwnT w B v l) (hb : Below w.heap.size w w') : OwnT w' B v l :=
 World.ownsRow.kept h (row := none) ⟨hb.os, hb.tape, hb.output, hb.size, fun j hj _ => hb.block j hj⟩ (by cases hv : v.ownBlock <;> simp)
theorem OwnT.toks {w : World} {B : Nat} {v : Value} {l : List Tok} (h : OwnT w B v l) (hm : l.length ≤ 9223372036854775807) : Toks w w.heap.size v l := by
 have h' := h
 obtain ⟨_, hh⟩ := h
 rcases hh with ⟨rfl, h0⟩ | ⟨g, cap, cur, rfl, hg, hb, _, _, _, _⟩
 ·exact ⟨none, 0, by rw [h0], hm, .inl (List.eq_nil_of_length_eq_zero h0)⟩
 ·refine ⟨_, cap, rfl, hm, .inr ⟨g, 0, rfl, (Array.getElem?_eq_some_iff.1 hb).1, fun i hi => ?_⟩⟩
  have h3 := flatT_getI l i hi
  refine ⟨?_, ?_, ?_⟩
  ·rw [Nat.zero_add, h'.cellAt _ (by omega)]; exact h3.1
  ·rw [Nat.zero_add, h'.cellAt _ (by omega)]; exact h3.2.1
  ·rw [Nat.zero_add, h'.cellAt _ (by omega)]; exact h3.2.2
theorem OwnT.at {w : World} {B : Nat} {v : Value} {l : List Tok} (h : OwnT w B v l) (h0 : l ≠ []) :
 ∃ g cap, v = .slice (some ⟨g, 0, none⟩) l.length cap ∧ B ≤ g ∧ g < w.heap.size ∧ TokC w g 0 l ∧ (∀ j, w.frozen? ⟨g, j, none⟩ = false) ∧
  ∀ j x, w.ownsRow B 51 3 v l.length (flatT l) → (w.setCell ⟨g, j, none⟩ x).ownsRow B 51 3 v l.length ((flatT l).set j x) := by
 have h' := h
 obtain ⟨_, hh⟩ := h
 rcases hh with ⟨_, h0'⟩ | ⟨g, cap, cur, hv, hg, hb, hn, hm, hs, ht⟩
 ·exact absurd (List.eq_nil_of_length_eq_zero h0') h0
 ·subst hv
  refine ⟨g, cap, rfl, hg, (Array.getElem?_eq_some_iff.1 hb).1, ?_, fun j => h'.frozenAt _, fun j x ho => (ho.stored j x).1⟩
  intro i hi
  have h3 := flatT_getI l i hi
  refine ⟨?_, ?_, ?_⟩
  ·rw [Nat.zero_add, World.ownsRow.cellAt h' _ (by omega)]; exact h3.1
  ·rw [Nat.zero_add, World.ownsRow.cellAt h' _ (by omega)]; exact h3.2.1
  ·rw [Nat.zero_add, World.ownsRow.cellAt h' _ (by omega)]; exact h3.2.2
theorem cells_three_new (w : World) (x y z : Value) (t : TypeId) : ∀ j u, [x, y, z][j]? = some u → (w.alloc (.cells #[x, y, z] t)).cell? ((⟨w.heap.size, 0, none⟩ : Addr).add j) = some u := by
 intro j u hj
 match j, hj with
 | 0, hj => simp at hj; subst hj; simp [Addr.add]
 | 1, hj => simp at hj; subst hj; simp [Addr.add]
 | 2, hj => simp at hj; subst hj; simp [Addr.add]
theorem Tryz.info51 : (Tryz.prog.info? 51).map (fun i => (i.zero, i.size, i.bytes)) = some (some (.agg #[.int .u8 0, .string .empty, .int .i64 0]), 3, 32) := by kernel_rfl
@[local go_sem] theorem eq27 (a d : Int) (b e : ByteArray) (c f : Int) (w : World) : (Op.equalIn 10000 51 (.agg #[.int .u8 a, .string b, .int .i64 c]) (.agg #[.int .u8 d, .string e, .int .i64 f])).run Tryz.prog w = .ok (a == d && (b.toList == e.toList) && c == f) w := by
 have u3 := Tryz.underlying3
 have a3 := Tryz.isAgg3
 have z3 := Tryz.sizeOf3
 have u5 := Tryz.underlying5
 have a5 := Tryz.isAgg5
 have z5 := Tryz.sizeOf5
 have u9 := Tryz.underlying9
 have a9 := Tryz.isAgg9
 have z9 := Tryz.sizeOf9
 have hS : Tryz.prog.underlying 51 = some (.struct (Tryz.prog.fieldsOf 51)) := by kernel_rfl
 have hp : Tryz.prog.stoodInHeld 51 = false := by kernel_rfl
 rw [show (10000 : Nat) = 9999 + 1 from rfl, run_equalIn_agg w 9999 51 _ _ hS hp]
 simp only [Program.fieldsOf, Tryz.underlying51]
 go_simp
 by_cases h1 : a = d <;> by_cases h2 : b.toList = e.toList <;> by_cases h3 : c = f <;> simp [h1, h2, h3]
theorem toList_inj {a b : ByteArray} (h : a.toList = b.toList) : a = b := by
 rw [ByteArray.toList_eq, ByteArray.toList_eq] at h
 cases a; cases b; simp_all
theorem belowDrewN {B : Nat} {a w : World} (h : Below B a w) (n : Nat) : Below B a (w.drewN n) := h.trans ⟨rfl, rfl, rfl, Nat.le_refl _, fun _ _ => rfl⟩
theorem ret_bool' {a b : Bool} (h : a = b) : Ending.returned (.bool a) = .returned (.bool b) := by rw [h]
end Go.Proofs.YtpgdplmndnopbaaGreatDoor

/- The book of layer 15: kinds, names, how long a token is, what may stand beside what. -/
namespace Go.Proofs.YtpgdplmndnopbaaGreatDoor
open Go.RowKit Go.Shelf
def kindB (l : List UInt8) : Int := if wordB l then 1 else if numB l then 2 else if signB l then 3 else 0
end Go.Proofs.YtpgdplmndnopbaaGreatDoor

/- The book's words, numbers, signs, neighbours are those of the plain cut: no program in sight. -/
namespace Go.Proofs.YtpgdplmndnopbaaGreatDoor
open Go.RowKit Go.Shelf
theorem sign_row_fin : ∀ i : Fin 256, (isSign (UInt8.ofNat i.val) = true → isRow (UInt8.ofNat i.val) = false) ∧ signB [UInt8.ofNat i.val] = isSign (UInt8.ofNat i.val) ∧ (twin (UInt8.ofNat i.val) = (UInt8.ofNat i.val == 124 || UInt8.ofNat i.val == 38)) ∧ (twin (UInt8.ofNat i.val) = true → isSign (UInt8.ofNat i.val) = true) ∧ (isSign (UInt8.ofNat i.val) = true → isBlank (UInt8.ofNat i.val) = false) ∧ (isRow (UInt8.ofNat i.val) = true → isBlank (UInt8.ofNat i.val) = false) := by decide +kernel
theorem sign_row (b : UInt8) : (isSign b = true → isRow b = false) ∧ signB [b] = isSign b ∧ (twin b = (b == 124 || b == 38)) ∧ (twin b = true → isSign b = true) ∧ (isSign b = true → isBlank b = false) ∧ (isRow b = true → isBlank b = false) := by
 have := sign_row_fin ⟨b.toNat, b.toNat_lt⟩
 simpa using this
theorem signB_two (b c : UInt8) : signB [b, c] = (twin b && c == b) := by
 rw [(sign_row b).2.2.1, Bool.eq_iff_iff]
 simp [signB]
 constructor
 ·rintro (⟨rfl, rfl⟩ | ⟨rfl, rfl⟩) <;> simp
 ·rintro ⟨rfl | rfl, rfl⟩ <;> simp
theorem signB_long (b c d : UInt8) (r : List UInt8) : signB (b :: c :: d :: r) = false := by simp [signB]
theorem signB_cons (b : UInt8) (r : List UInt8) : signB (b :: r) = (isSign b && (r == [] || (twin b && r == [b]))) := by
 cases r with
 | nil => rw [(sign_row b).2.1]; simp
 | cons c r => cases r with
  | nil =>
   rw [signB_two]
   cases ht : twin b with
   | false => simp
   | true => rw [(sign_row b).2.2.2.1 ht]; simp
  | cons d r =>
   rw [signB_long]
   simp
theorem kindB_eq (l : List UInt8) : kindB l = kindOf l := by
 cases l with
 | nil => rfl
 | cons b r =>
  simp only [kindB, kindOf]
  by_cases hb : isRow b = true
  ·have hs : signB (b :: r) = false := by
    rw [signB_cons]
    cases h : isSign b with
    | false => rfl
    | true => rw [(sign_row b).1 h] at hb; cases hb
   rw [hs, if_pos hb]
   by_cases hl : isLow b = true
   ·have hn : numB (b :: r) = false := by
     have : isDig b = false := by
      simp only [isLow, isDig, Bool.and_eq_true, decide_eq_true_eq] at hl ⊢
      rw [Bool.and_eq_false_iff]
      right; simp; omega
     simp [numB, numOk, this]
    have hw : wordB (b :: r) = (decide (r.length + 1 ≤ 8) && r.all isRow) := by simp [wordB, hl]
    rw [hw, hn]
    simp only [rowKind, hl, if_true]
    by_cases h8 : r.length + 1 ≤ 8
    ·simp [h8]
    ·simp [h8]
   ·have hl' : isLow b = false := by simpa using hl
    have hw : wordB (b :: r) = false := by simp [wordB, hl']
    rw [hw]
    simp only [rowKind, hl', Bool.false_eq_true, if_false]
    have hnB : numB (b :: r) = numOk (b :: r) := by simp [numB]
    rw [hnB]
    cases hn : numOk (b :: r) with
    | false => simp
    | true =>
     have hall : r.all isRow = true := by
      simp only [numOk, Bool.and_eq_true, List.all_cons] at hn
      have h1 := hn.1.1.1.2
      rw [List.all_eq_true] at h1 ⊢
      intro x hx
      simp [isRow, h1 x hx]
     simp [hall]
  ·have hb' : isRow b = false := by simpa using hb
   have hl' : isLow b = false := by simp only [isRow, Bool.or_eq_false_iff] at hb'; exact hb'.1
   have hd' : isDig b = false := by simp only [isRow, Bool.or_eq_false_iff] at hb'; exact hb'.2
   have hw : wordB (b :: r) = false := by simp [wordB, hl']
   have hn : numB (b :: r) = false := by simp [numB, numOk, hd']
   rw [hw, hn, signB_cons, hb']
   rfl
end Go.Proofs.YtpgdplmndnopbaaGreatDoor

/- The book's Great, Near and Glue. -/
namespace Go.Proofs.YtpgdplmndnopbaaGreatDoor
open Go.RowKit Go.Shelf
attribute [local go_sem ↓] Go.wp_at_zero Go.wp_at_succ
end Go.Proofs.YtpgdplmndnopbaaGreatDoor

/- The book's Cut. -/
namespace Go.Proofs.YtpgdplmndnopbaaGreatDoor
open Go.RowKit Go.Shelf
attribute [local go_sem ↓] Go.wp_at_zero Go.wp_at_succ
def cutR (s : ByteArray) : List Tok × Int × Int :=
 if 4096 < s.size then ([], 0, 3) else match cut 0 s.data.toList with
  | .ok l => (l, 0, 0)
  | .bad a e => ([], a, e)
end Go.Proofs.YtpgdplmndnopbaaGreatDoor
