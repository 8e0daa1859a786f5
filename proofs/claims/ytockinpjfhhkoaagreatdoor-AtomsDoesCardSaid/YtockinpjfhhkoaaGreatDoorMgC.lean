/- The book of layer 15: numbers, kinds, names, how long a token is. -/
import Derived.Test.YtockinpjfhhkoaaGreatDoorMgA
import Derived.StillTailTactics
import Derived.Deep.RegionHeld3
import Derived.Deep.DrawnRows
import Derived.Maps.AppendAt
import Derived.Deep.RegionLaw
import Derived.Deep.AppendLies
import Derived.WalkSmall
import Derived.Deep.QuietTactic
import Derived.BigQuiet
import Derived.LoopTactic
namespace Go.Proofs.YtockinpjfhhkoaaGreatDoor
open Go.RowKit Go.Shelf

theorem digVal_snoc (l : List UInt8) (c : UInt8) : ∀ a, digVal a (l ++ [c]) = 10 * digVal a l + (c.toNat - 48) := by
  induction l with
  | nil => intro a; rfl
  | cons b r ih => intro a; rw [List.cons_append, digVal_cons, digVal_cons, ih]
theorem digVal_lt (l : List UInt8) (h : l.all isDig = true) : ∀ a, digVal a l < (a + 1) * 10 ^ l.length := by
  induction l with
  | nil => intro a; simp [digVal]
  | cons b r ih =>
    intro a
    simp only [List.all_cons, Bool.and_eq_true] at h
    have h1 := h.1
    simp only [isDig, Bool.and_eq_true, decide_eq_true_eq] at h1
    have := ih h.2 (10 * a + (b.toNat - 48))
    rw [digVal_cons, List.length_cons, Nat.pow_succ]
    refine Nat.lt_of_lt_of_le this ?_
    calc (10 * a + (b.toNat - 48) + 1) * 10 ^ r.length ≤ ((a + 1) * 10) * 10 ^ r.length := Nat.mul_le_mul_right _ (by omega)
      _ = (a + 1) * (10 ^ r.length * 10) := by rw [Nat.mul_assoc, Nat.mul_comm 10]
theorem digVal_take_lt (l : List UInt8) (k : Nat) (hk : k ≤ 17) (h : (l.take k).all isDig = true) : digVal 0 (l.take k) < 100000000000000000 := by
  have := digVal_lt _ h 0
  have h2 : (l.take k).length ≤ 17 := by rw [List.length_take]; omega
  have h3 : 10 ^ (l.take k).length ≤ 10 ^ 17 := Nat.pow_le_pow_right (by decide) h2
  omega

/-- What the book takes for a number. -/
def numB (l : List UInt8) : Bool := decide (1 ≤ l.length) && numOk l

end Go.Proofs.YtockinpjfhhkoaaGreatDoor

/- Tokens in memory: slices that came in, slices that a call owns; the book's Same and Great. -/
namespace Go.Proofs.YtockinpjfhhkoaaGreatDoor
open Go.RowKit Go.Shelf
attribute [local go_sem ↓] Go.wp_at_zero Go.wp_at_succ

def Tok.cells (t : Tok) : List Value := [.int .u8 t.kind, .string t.text, .int .i64 t.place]
def Tok.val (t : Tok) : Value := .agg #[.int .u8 t.kind, .string t.text, .int .i64 t.place]
instance : Inhabited Tok := ⟨⟨0, .empty, 0⟩⟩
def noTok : Tok := ⟨0, .empty, 0⟩

/-- Tokens' cells: from off on, in block b. -/
def TokC (w : World) (b off : Nat) (l : List Tok) : Prop :=
  ∀ i, (h : i < l.length) → w.cell? ⟨b, off + i * 3, none⟩ = some (.int .u8 l[i].kind) ∧ w.cell? ⟨b, off + i * 3 + 1, none⟩ = some (.string l[i].text) ∧ w.cell? ⟨b, off + i * 3 + 2, none⟩ = some (.int .i64 l[i].place)

theorem TokC.below {w w' : World} {B b off : Nat} {l : List Tok} (hb : Below B w w') (hlt : b < B) (h : TokC w b off l) : TokC w' b off l :=
  fun i hi => ⟨(hb.cell (p := ⟨b, _, none⟩) hlt).trans (h i hi).1, (hb.cell (p := ⟨b, _, none⟩) hlt).trans (h i hi).2.1, (hb.cell (p := ⟨b, _, none⟩) hlt).trans (h i hi).2.2⟩

/-- Tokens in memory: a slice value, below block B. -/
def Toks (w : World) (B : Nat) (v : Value) (l : List Tok) : Prop :=
  ∃ a cap, v = .slice a l.length cap ∧ l.length ≤ 9223372036854775807 ∧ (l = [] ∨ ∃ b off, a = some ⟨b, off, none⟩ ∧ b < B ∧ TokC w b off l)

theorem Toks.below {w w' : World} {B : Nat} {v : Value} {l : List Tok} (hb : Below B w w') (h : Toks w B v l) : Toks w' B v l := by
  obtain ⟨a, cap, hv, hm, h⟩ := h
  refine ⟨a, cap, hv, hm, ?_⟩
  rcases h with h | ⟨b, off, ha, hlt, hc⟩
  · exact .inl h
  · exact .inr ⟨b, off, ha, hlt, hc.below hb hlt⟩
theorem Toks.mono {w : World} {B B' : Nat} {v : Value} {l : List Tok} (hB : B ≤ B') (h : Toks w B v l) : Toks w B' v l := by
  obtain ⟨a, cap, hv, hm, h⟩ := h
  refine ⟨a, cap, hv, hm, ?_⟩
  rcases h with h | ⟨b, off, ha, hlt, hc⟩
  · exact .inl h
  · exact .inr ⟨b, off, ha, by omega, hc⟩

def flatT (l : List Tok) : List Value := l.flatMap Tok.cells
theorem flatT_append (a b : List Tok) : flatT (a ++ b) = flatT a ++ flatT b := by simp [flatT]
theorem flatT_one (s : Tok) : flatT [s] = s.cells := by simp [flatT]
theorem flatT_length : ∀ l : List Tok, (flatT l).length = l.length * 3
  | [] => rfl
  | s :: l => by
    have := flatT_length l
    show (flatT ([s] ++ l)).length = _
    rw [flatT_append, List.length_append, this]
    simp [flatT_one, Tok.cells]; omega
theorem flatT_getI : ∀ (l : List Tok) (i : Nat), (h : i < l.length) → (flatT l)[i * 3]? = some (.int .u8 l[i].kind) ∧ (flatT l)[i * 3 + 1]? = some (.string l[i].text) ∧ (flatT l)[i * 3 + 2]? = some (.int .i64 l[i].place)
  | [], i, h => by simp at h
  | s :: l, 0, _ => by simp [flatT, Tok.cells]
  | s :: l, i + 1, h => by
    have := flatT_getI l i (by simpa using h)
    have h2 : flatT (s :: l) = s.cells ++ flatT l := by simp [flatT]
    have h3 : s.cells.length = 3 := rfl
    rw [h2, List.getElem?_append_right (by rw [h3]; omega), List.getElem?_append_right (by rw [h3]; omega), List.getElem?_append_right (by rw [h3]; omega), h3]
    rw [show (i + 1) * 3 - 3 = i * 3 by omega, show (i + 1) * 3 + 1 - 3 = i * 3 + 1 by omega, show (i + 1) * 3 + 2 - 3 = i * 3 + 2 by omega]
    simpa using this

/-- Tokens that the call made: it owns their row, from block B on. -/
def OwnT (w : World) (B : Nat) (v : Value) (l : List Tok) : Prop := w.ownsRow B 194 3 v l.length (flatT l)

theorem OwnT.shape {w : World} {B : Nat} {v : Value} {l : List Tok} (h : OwnT w B v l) : ∃ a c, v = .slice a l.length c := by
  rcases h.2 with ⟨rfl, h0⟩ | ⟨g, cap, cur, hv, _⟩
  · exact ⟨none, 0, by rw [h0]⟩
  · exact ⟨_, _, hv⟩
theorem OwnT.below {w w' : World} {B : Nat} {v : Value} {l : List Tok} (h : OwnT w B v l) (hb : Below w.heap.size w w') : OwnT w' B v l :=
  World.ownsRow.kept h (row := none) ⟨hb.os, hb.tape, hb.output, hb.size, fun j hj _ => hb.block j hj⟩ (by cases hv : v.ownBlock <;> simp)
theorem OwnT.mono {w : World} {B B' : Nat} {v : Value} {l : List Tok} (h : OwnT w B v l) (hb : B' ≤ B) : OwnT w B' v l := by
  obtain ⟨h1, hh⟩ := h
  refine ⟨h1, ?_⟩
  rcases hh with h2 | ⟨g, cap, cur, h2, hg, hr⟩
  · exact .inl h2
  · exact .inr ⟨g, cap, cur, h2, by omega, hr⟩
theorem OwnT.toks {w : World} {B : Nat} {v : Value} {l : List Tok} (h : OwnT w B v l) (hm : l.length ≤ 9223372036854775807) : Toks w w.heap.size v l := by
  have h' := h
  obtain ⟨_, hh⟩ := h
  rcases hh with ⟨rfl, h0⟩ | ⟨g, cap, cur, rfl, hg, hb, _, _, _, _⟩
  · exact ⟨none, 0, by rw [h0], hm, .inl (List.eq_nil_of_length_eq_zero h0)⟩
  · refine ⟨_, cap, rfl, hm, .inr ⟨g, 0, rfl, (Array.getElem?_eq_some_iff.1 hb).1, fun i hi => ?_⟩⟩
    have h3 := flatT_getI l i hi
    refine ⟨?_, ?_, ?_⟩
    · rw [Nat.zero_add, h'.cellAt _ (by omega)]; exact h3.1
    · rw [Nat.zero_add, h'.cellAt _ (by omega)]; exact h3.2.1
    · rw [Nat.zero_add, h'.cellAt _ (by omega)]; exact h3.2.2
/-- The tokens that are owned, where they lie. -/
theorem OwnT.at {w : World} {B : Nat} {v : Value} {l : List Tok} (h : OwnT w B v l) (h0 : l ≠ []) :
    ∃ g cap, v = .slice (some ⟨g, 0, none⟩) l.length cap ∧ B ≤ g ∧ g < w.heap.size ∧ TokC w g 0 l ∧ (∀ j, w.frozen? ⟨g, j, none⟩ = false) ∧
      ∀ j x, w.ownsRow B 194 3 v l.length (flatT l) → (w.setCell ⟨g, j, none⟩ x).ownsRow B 194 3 v l.length ((flatT l).set j x) := by
  have h' := h
  obtain ⟨_, hh⟩ := h
  rcases hh with ⟨_, h0'⟩ | ⟨g, cap, cur, hv, hg, hb, hn, hm, hs, ht⟩
  · exact absurd (List.eq_nil_of_length_eq_zero h0') h0
  · subst hv
    refine ⟨g, cap, rfl, hg, (Array.getElem?_eq_some_iff.1 hb).1, ?_, fun j => h'.frozenAt _, fun j x ho => (ho.stored j x).1⟩
    intro i hi
    have h3 := flatT_getI l i hi
    refine ⟨?_, ?_, ?_⟩
    · rw [Nat.zero_add, World.ownsRow.cellAt h' _ (by omega)]; exact h3.1
    · rw [Nat.zero_add, World.ownsRow.cellAt h' _ (by omega)]; exact h3.2.1
    · rw [Nat.zero_add, World.ownsRow.cellAt h' _ (by omega)]; exact h3.2.2

theorem cells_three_new (w : World) (x y z : Value) (t : TypeId) : ∀ j u, [x, y, z][j]? = some u → (w.alloc (.cells #[x, y, z] t)).cell? ((⟨w.heap.size, 0, none⟩ : Addr).add j) = some u := by
  intro j u hj
  match j, hj with
  | 0, hj => simp at hj; subst hj; simp [Addr.add]
  | 1, hj => simp at hj; subst hj; simp [Addr.add]
  | 2, hj => simp at hj; subst hj; simp [Addr.add]
theorem Tryz.info194 : (Tryz.prog.info? 194).map (fun i => (i.zero, i.size, i.bytes)) = some (some (.agg #[.int .u8 0, .string .empty, .int .i64 0]), 3, 32) := by kernel_rfl

@[local go_sem] theorem eq27 (a d : Int) (b e : ByteArray) (c f : Int) (w : World) : (Op.equalIn 10000 194 (.agg #[.int .u8 a, .string b, .int .i64 c]) (.agg #[.int .u8 d, .string e, .int .i64 f])).run Tryz.prog w = .ok (a == d && (b.toList == e.toList) && c == f) w := by
  have u3 := Tryz.underlying3
  have a3 := Tryz.isAgg3
  have z3 := Tryz.sizeOf3
  have u5 := Tryz.underlying5
  have a5 := Tryz.isAgg5
  have z5 := Tryz.sizeOf5
  have u9 := Tryz.underlying9
  have a9 := Tryz.isAgg9
  have z9 := Tryz.sizeOf9
  have hS : Tryz.prog.underlying 194 = some (.struct (Tryz.prog.fieldsOf 194)) := by kernel_rfl
  have hp : Tryz.prog.stoodInHeld 194 = false := by kernel_rfl
  rw [show (10000 : Nat) = 9999 + 1 from rfl, run_equalIn_agg w 9999 194 _ _ hS hp]
  simp only [Program.fieldsOf, Tryz.underlying194]
  go_simp
  by_cases h1 : a = d <;> by_cases h2 : b.toList = e.toList <;> by_cases h3 : c = f <;> simp [h1, h2, h3]

theorem take_succ_eq {l r : List Tok} {k : Nat} (h1 : k < l.length) (h2 : k < r.length) (ht : l.take k = r.take k) (he : l[k] = r[k]) : l.take (k + 1) = r.take (k + 1) := by
  rw [List.take_succ_eq_append_getElem h1, List.take_succ_eq_append_getElem h2, ht, he]
theorem toList_inj {a b : ByteArray} (h : a.toList = b.toList) : a = b := by
  rw [ByteArray.toList_eq, ByteArray.toList_eq] at h
  cases a; cases b; simp_all
theorem belowDrewN {B : Nat} {a w : World} (h : Below B a w) (n : Nat) : Below B a (w.drewN n) := h.trans ⟨rfl, rfl, rfl, Nat.le_refl _, fun _ _ => rfl⟩
theorem ret_bool' {a b : Bool} (h : a = b) : Ending.returned (.bool a) = .returned (.bool b) := by rw [h]

end Go.Proofs.YtockinpjfhhkoaaGreatDoor

/- The book of layer 15: kinds, names, how long a token is, what may stand beside what. -/
namespace Go.Proofs.YtockinpjfhhkoaaGreatDoor
open Go.RowKit Go.Shelf

def kindB (l : List UInt8) : Int := if wordB l then 1 else if numB l then 2 else if signB l then 3 else 0


/-- How long what stands at a place is, that is to be a token. -/
def longN (l : List UInt8) : Nat := if rowN l = 0 ∧ 2 ≤ l.length ∧ signB (l.take 2) = true then 2 else max 1 (rowN l)

/-- May a token be? -/
def mayTk (k : Int) (t : List UInt8) (p : Int) : Bool := (k != 0) && (k == kindB t) && decide (0 ≤ p)

/-- May one stand right behind another one? -/
def besideB (a b : List UInt8) : Bool :=
  if (a.head?.map isRow == some true) || (b.head?.map isRow == some true) then !((a.head?.map isRow == some true) && (b.head?.map isRow == some true)) else !signB (a ++ b.take 1)

theorem head_list (s : ByteArray) (h : 0 < s.size) : s.data.toList.head? = some (s[0]'h) := by
  rw [get_list s 0 h, List.head?_eq_getElem?, List.getElem?_eq_getElem]

end Go.Proofs.YtockinpjfhhkoaaGreatDoor

/- The book's words, numbers, signs, neighbours are those of the plain cut: no program in sight. -/
namespace Go.Proofs.YtockinpjfhhkoaaGreatDoor
open Go.RowKit Go.Shelf

theorem byte_eq (b : UInt8) : b = UInt8.ofNat b.toNat := by simp
theorem sign_row_fin : ∀ i : Fin 256, (isSign (UInt8.ofNat i.val) = true → isRow (UInt8.ofNat i.val) = false) ∧ signB [UInt8.ofNat i.val] = isSign (UInt8.ofNat i.val) ∧ (twin (UInt8.ofNat i.val) = (UInt8.ofNat i.val == 124 || UInt8.ofNat i.val == 38)) ∧ (twin (UInt8.ofNat i.val) = true → isSign (UInt8.ofNat i.val) = true) ∧ (isSign (UInt8.ofNat i.val) = true → isBlank (UInt8.ofNat i.val) = false) ∧ (isRow (UInt8.ofNat i.val) = true → isBlank (UInt8.ofNat i.val) = false) := by decide +kernel
theorem sign_row (b : UInt8) : (isSign b = true → isRow b = false) ∧ signB [b] = isSign b ∧ (twin b = (b == 124 || b == 38)) ∧ (twin b = true → isSign b = true) ∧ (isSign b = true → isBlank b = false) ∧ (isRow b = true → isBlank b = false) := by
  have := sign_row_fin ⟨b.toNat, b.toNat_lt⟩
  simpa using this
theorem signB_two (b c : UInt8) : signB [b, c] = (twin b && c == b) := by
  rw [(sign_row b).2.2.1, Bool.eq_iff_iff]
  simp [signB]
  constructor
  · rintro (⟨rfl, rfl⟩ | ⟨rfl, rfl⟩) <;> simp
  · rintro ⟨rfl | rfl, rfl⟩ <;> simp
theorem signB_long (b c d : UInt8) (r : List UInt8) : signB (b :: c :: d :: r) = false := by simp [signB]
theorem signB_cons (b : UInt8) (r : List UInt8) : signB (b :: r) = (isSign b && (r == [] || (twin b && r == [b]))) := by
  cases r with
  | nil => rw [(sign_row b).2.1]; simp
  | cons c r => cases r with
    | nil =>
      rw [signB_two]
      cases ht : twin b with
      | false => simp
      | true => rw [(sign_row b).2.2.2.1 ht]; simp
    | cons d r =>
      rw [signB_long]
      simp

theorem kindB_eq (l : List UInt8) : kindB l = kindOf l := by
  cases l with
  | nil => rfl
  | cons b r =>
    simp only [kindB, kindOf]
    by_cases hb : isRow b = true
    · have hs : signB (b :: r) = false := by
        rw [signB_cons]
        cases h : isSign b with
        | false => rfl
        | true => rw [(sign_row b).1 h] at hb; cases hb
      rw [hs, if_pos hb]
      by_cases hl : isLow b = true
      · have hn : numB (b :: r) = false := by
          have : isDig b = false := by
            simp only [isLow, isDig, Bool.and_eq_true, decide_eq_true_eq] at hl ⊢
            rw [Bool.and_eq_false_iff]
            right; simp; omega
          simp [numB, numOk, this]
        have hw : wordB (b :: r) = (decide (r.length + 1 ≤ 8) && r.all isRow) := by simp [wordB, hl]
        rw [hw, hn]
        simp only [rowKind, hl, if_true]
        by_cases h8 : r.length + 1 ≤ 8
        · simp [h8]
        · simp [h8]
      · have hl' : isLow b = false := by simpa using hl
        have hw : wordB (b :: r) = false := by simp [wordB, hl']
        rw [hw]
        simp only [rowKind, hl', Bool.false_eq_true, if_false]
        have hnB : numB (b :: r) = numOk (b :: r) := by simp [numB]
        rw [hnB]
        cases hn : numOk (b :: r) with
        | false => simp
        | true =>
          have hall : r.all isRow = true := by
            simp only [numOk, Bool.and_eq_true, List.all_cons] at hn
            have h1 := hn.1.1.1.2
            rw [List.all_eq_true] at h1 ⊢
            intro x hx
            simp [isRow, h1 x hx]
          simp [hall]
    · have hb' : isRow b = false := by simpa using hb
      have hl' : isLow b = false := by simp only [isRow, Bool.or_eq_false_iff] at hb'; exact hb'.1
      have hd' : isDig b = false := by simp only [isRow, Bool.or_eq_false_iff] at hb'; exact hb'.2
      have hw : wordB (b :: r) = false := by simp [wordB, hl']
      have hn : numB (b :: r) = false := by simp [numB, numOk, hd']
      rw [hw, hn, signB_cons, hb']
      rfl

theorem besideB_eq (t u : List UInt8) (ht : kindOf t ≠ 0) (hu : kindOf u ≠ 0) : besideB t u = apart t u := by
  cases t with
  | nil => exact absurd rfl ht
  | cons b r => cases u with
    | nil => exact absurd rfl hu
    | cons c s =>
      have e0 : besideB (b :: r) (c :: s) = (if isRow b || isRow c then !(isRow b && isRow c) else !signB (b :: r ++ [c])) := by simp [besideB]
      rw [e0]
      simp only [apart]
      cases hb : isRow b with
      | true => simp
      | false =>
        cases hc : isRow c with
        | true =>
          simp only [Bool.false_or, if_true, Bool.false_and, Bool.not_false, Bool.false_eq_true, if_false]
          by_cases h : c = b
          · subst h; rw [hb] at hc; cases hc
          · simp [h]
        | false =>
          simp only [Bool.or_self, Bool.false_eq_true, if_false]
          cases r with
          | nil =>
            rw [List.singleton_append, signB_two]
            simp
          | cons d r =>
            rw [List.cons_append, List.cons_append, show r ++ [c] = (r ++ [c]) from rfl]
            have : ∃ x y, r ++ [c] = x :: y := by cases r <;> exact ⟨_, _, rfl⟩
            obtain ⟨x, y, hxy⟩ := this
            rw [hxy, signB_long]
            simp

/-- The text that stands last. -/
def lastOf (p : List UInt8) : List (List UInt8) → List UInt8
  | [] => p
  | t :: r => lastOf t r
theorem lastOf_snoc (ts : List (List UInt8)) (t : List UInt8) : ∀ p, lastOf p (ts ++ [t]) = t := by
  induction ts with
  | nil => intro p; rfl
  | cons u r ih => intro p; exact ih u
theorem glueFrom_snoc (ts : List (List UInt8)) (t : List UInt8) : ∀ p, glueFrom p (ts ++ [t]) = glueFrom p ts ++ (if apart (lastOf p ts) t then t else 32 :: t) := by
  induction ts with
  | nil => intro p; simp only [List.nil_append, glueFrom, lastOf, List.append_nil]; rfl
  | cons u r ih => intro p; rw [List.cons_append, glueFrom, ih u, glueFrom, lastOf, List.append_assoc]
theorem glue_eq_from (ts : List (List UInt8)) : glue ts = glueFrom [] ts := by
  cases ts with
  | nil => rfl
  | cons t r => cases t <;> simp [glue, glueFrom, apart]
theorem glue_snoc (ts : List (List UInt8)) (t : List UInt8) : glue (ts ++ [t]) = glue ts ++ (if apart (lastOf [] ts) t then t else 32 :: t) := by
  rw [glue_eq_from, glue_eq_from, glueFrom_snoc]
theorem glueFrom_len (ts : List (List UInt8)) : ∀ p, (glueFrom p ts).length ≤ (ts.map List.length).sum + ts.length := by
  induction ts with
  | nil => intro p; simp [glueFrom]
  | cons u r ih =>
    intro p
    have := ih u
    simp only [glueFrom, List.length_append, List.map_cons, List.sum_cons, List.length_cons]
    split <;> (try simp only [List.length_cons]) <;> omega
theorem glue_len (ts : List (List UInt8)) : (glue ts).length ≤ (ts.map List.length).sum + ts.length := by
  rw [glue_eq_from]; exact glueFrom_len ts []
end Go.Proofs.YtockinpjfhhkoaaGreatDoor

/- The book's Great, Near and Glue. -/
namespace Go.Proofs.YtockinpjfhhkoaaGreatDoor
open Go.RowKit Go.Shelf
attribute [local go_sem ↓] Go.wp_at_zero Go.wp_at_succ

def sumT (l : List Tok) (k : Nat) : Nat := l.length + ((l.take k).map (·.text.size)).sum
theorem sumT_succ (l : List Tok) (k : Nat) (h : k < l.length) : sumT l (k + 1) = sumT l k + (l[k]).text.size := by
  simp only [sumT, List.take_succ_eq_append_getElem h, List.map_append, List.sum_append]
  simp; omega
theorem sumT_mono (l : List Tok) (k : Nat) : ∀ d, sumT l k ≤ sumT l (k + d)
  | 0 => Nat.le_refl _
  | d + 1 => by
    refine Nat.le_trans (sumT_mono l k d) ?_
    by_cases h : k + d < l.length
    · rw [← Nat.add_assoc, sumT_succ l _ h]; omega
    · simp only [sumT, List.take_of_length_le (show l.length ≤ k + d by omega), List.take_of_length_le (show l.length ≤ k + (d + 1) by omega)]
      exact Nat.le_refl _
def greatB (l : List Tok) : Bool := decide (20000 < sumT l l.length)
theorem greatB_over (l : List Tok) (k : Nat) (hk : k ≤ l.length) (h : 20000 < sumT l k) : greatB l = true := by
  have := sumT_mono l k (l.length - k)
  rw [show k + (l.length - k) = l.length by omega] at this
  exact decide_eq_true (by omega)

theorem kindB_ne (l : List UInt8) (h : kindB l ≠ 0) : l ≠ [] := by rintro rfl; exact h rfl
theorem mayTk_ne {k p : Int} {t : List UInt8} (h : mayTk k t p = true) : kindOf t ≠ 0 ∧ k = kindOf t ∧ 0 ≤ p := by
  simp only [mayTk, Bool.and_eq_true, bne_iff_ne, ne_eq, beq_iff_eq, decide_eq_true_eq, kindB_eq] at h
  exact ⟨fun h0 => h.1.1 (h.1.2.trans h0), h.1.2, h.2⟩
theorem pos_of_kind {s : ByteArray} (h : kindOf s.data.toList ≠ 0) : 0 < s.size := by
  rw [← size_list]
  exact List.length_pos_iff.2 (kindOf_ne _ h)

def nearB (a b : Tok) : Bool × Int := if mayTk a.kind a.text.data.toList a.place && mayTk b.kind b.text.data.toList b.place then (apart a.text.data.toList b.text.data.toList, 0) else (false, 8)
theorem pair_ret {a b : Bool} {c d : Int} {k : IntKind} (h : a = b) (h2 : c = d) : Ending.returned (.tuple #[.bool a, .int k c]) = .returned (.tuple #[.bool b, .int k d]) := by rw [h, h2]

def mayT (t : Tok) : Bool := mayTk t.kind t.text.data.toList t.place
/-- What the book's Glue answers. -/
def glueP (l : List Tok) : List UInt8 × Int := if l.all mayT then (if (glue (textsOf l)).length ≤ 4096 then (glue (textsOf l), 0) else ([], 3)) else ([], 8)
theorem textsOf_snoc (l : List Tok) (t : Tok) : textsOf (l ++ [t]) = textsOf l ++ [t.text.data.toList] := by simp [textsOf]
theorem bsOf_append (a b : List UInt8) : bsOf a ++ bsOf b = bsOf (a ++ b) := by
  apply ByteArray.ext
  simp [bsOf, ByteArray.data_append]
theorem bsOf_size (a : List UInt8) : (bsOf a).size = a.length := by rw [← size_list, bsOf_list]
theorem sumT_take (l : List Tok) (k : Nat) (_hk : k ≤ l.length) : ((textsOf (l.take k)).map List.length).sum + l.length = sumT l k := by
  have : (textsOf (l.take k)).map List.length = (l.take k).map (·.text.size) := by
    simp only [textsOf, List.map_map]
    exact List.map_congr_left (fun t _ => size_list t.text)
  rw [this, sumT]; omega
theorem glue_take_len (l : List Tok) (k : Nat) (hk : k ≤ l.length) (hg : sumT l l.length ≤ 20000) : (glue (textsOf (l.take k))).length ≤ 20000 := by
  have h1 := glue_len (textsOf (l.take k))
  have h2 := sumT_take l k hk
  have h3 := sumT_mono l k (l.length - k)
  rw [show k + (l.length - k) = l.length by omega] at h3
  have h4 : (textsOf (l.take k)).length = k := by simp [textsOf]; omega
  omega
theorem text_len (l : List Tok) (k : Nat) (hk : k < l.length) (hg : sumT l l.length ≤ 20000) : (l[k]).text.size ≤ 20000 := by
  have h1 := sumT_succ l k hk
  have h3 := sumT_mono l (k + 1) (l.length - (k + 1))
  rw [show (k + 1) + (l.length - (k + 1)) = l.length by omega] at h3
  omega
theorem lastOf_take (l : List Tok) (k : Nat) (hk : k < l.length) : lastOf [] (textsOf (l.take (k + 1))) = (l[k]).text.data.toList := by
  rw [List.take_succ_eq_append_getElem hk, textsOf_snoc, lastOf_snoc]
theorem glue_take (l : List Tok) (k : Nat) (hk : k < l.length) : glue (textsOf (l.take (k + 1))) = glue (textsOf (l.take k)) ++ (if apart (lastOf [] (textsOf (l.take k))) (l[k]).text.data.toList then (l[k]).text.data.toList else 32 :: (l[k]).text.data.toList) := by
  rw [List.take_succ_eq_append_getElem hk, textsOf_snoc, glue_snoc]

end Go.Proofs.YtockinpjfhhkoaaGreatDoor

/- The book's Cut. -/
namespace Go.Proofs.YtockinpjfhhkoaaGreatDoor
open Go.RowKit Go.Shelf
attribute [local go_sem ↓] Go.wp_at_zero Go.wp_at_succ

theorem rowKind_err {b : UInt8} {r : List UInt8} {e : Int} (hb : isRow b = true) (h : rowKind (b :: r) = .error e) : e = if isLow b then 152 else if isDig b then 151 else 150 := by
  simp only [rowKind] at h
  cases hl : isLow b with
  | true =>
    simp only [hl, if_true] at h ⊢
    split at h <;> simp at h
    exact h.symm
  | false =>
    have hd : isDig b = true := by simp only [isRow, hl, Bool.false_or] at hb; exact hb
    simp only [hl, Bool.false_eq_true, if_false, hd, if_true] at h ⊢
    split at h <;> simp at h
    exact h.symm

/-- The book cuts as the plain cut does. -/
theorem cut_book (b : UInt8) (r : List UInt8) (hbl : isBlank b = false) :
    1 ≤ longN (b :: r) ∧ longN (b :: r) ≤ (b :: r).length ∧
    ((kindOf ((b :: r).take (longN (b :: r))) = 0 ∧ ∀ a, cut a (b :: r) = .bad a (if isLow b then 152 else if isDig b then 151 else 150)) ∨
     (kindOf ((b :: r).take (longN (b :: r))) ≠ 0 ∧ ∀ a, cut a (b :: r) = Res.cons ⟨kindOf ((b :: r).take (longN (b :: r))), bsOf ((b :: r).take (longN (b :: r))), a⟩ (cut (a + longN (b :: r)) ((b :: r).drop (longN (b :: r)))))) := by
  by_cases hb : isRow b = true
  · have h1 : rowN (b :: r) = (rowOf r).length + 1 := by rw [rowN, rowOf_pos b r hb]; rfl
    have hn : longN (b :: r) = rowN (b :: r) := by
      rw [longN, if_neg (fun h => by rw [h1] at h; omega)]; omega
    have ht : (b :: r).take (rowN (b :: r)) = rowOf (b :: r) := by
      have : ∀ A B L : List UInt8, L = A ++ B → L.take A.length = A := by rintro A B L rfl; simp
      exact this _ _ _ (rowOf_drop _)
    have hl : rowN (b :: r) ≤ (b :: r).length := rowOf_len _
    rw [hn, ht]
    refine ⟨by omega, hl, ?_⟩
    cases hk : rowKind (rowOf (b :: r)) with
    | error e =>
      left
      have h0 : kindOf (rowOf (b :: r)) = 0 := by
        have hall : (rowOf r).all isRow = true := List.all_takeWhile
        rw [rowOf_pos b r hb] at hk ⊢
        simp [kindOf, hb, hall, hk]
      refine ⟨h0, fun a => ?_⟩
      rw [cut_row a b r hb, hk]
      rw [rowOf_pos b r hb] at hk
      rw [rowKind_err hb hk]
    | ok k =>
      right
      have h0 := kindOf_row hb hk
      rw [h0]
      refine ⟨by rcases rowKind_ne0 hk with h | h <;> simp [h], fun a => ?_⟩
      rw [cut_row a b r hb, hk]
      rfl
  · have hb' : isRow b = false := by simpa using hb
    have h1 : rowN (b :: r) = 0 := by simp [rowN, rowOf, hb']
    by_cases h2 : 2 ≤ (b :: r).length ∧ signB ((b :: r).take 2) = true
    · have hn : longN (b :: r) = 2 := by rw [longN, if_pos ⟨h1, h2⟩]
      cases r with
      | nil => simp at h2
      | cons c r =>
        have h3 := h2.2
        rw [List.take_succ_cons, List.take_succ_cons, List.take_zero, signB_two] at h3
        simp only [Bool.and_eq_true, beq_iff_eq] at h3
        obtain ⟨ht, rfl⟩ := h3
        have hk : kindOf [c, c] = 3 := by
          simp [kindOf, hb', ht, (sign_row c).2.2.2.1 ht]
        rw [hn]
        refine ⟨by omega, by simp, .inr ⟨by simp [hk], fun a => ?_⟩⟩
        rw [cut_two a c r ht]
        simp [hk]
    · have hn : longN (b :: r) = 1 := by
        rw [longN, if_neg (fun h => h2 h.2), h1]; rfl
      rw [hn]
      have hl : isLow b = false := by simp only [isRow, Bool.or_eq_false_iff] at hb'; exact hb'.1
      have hd : isDig b = false := by simp only [isRow, Bool.or_eq_false_iff] at hb'; exact hb'.2
      refine ⟨by omega, by simp, ?_⟩
      cases hs : isSign b with
      | true =>
        right
        have hk : kindOf [b] = 3 := by simp [kindOf, hb', hs]
        refine ⟨by simp [hk], fun a => ?_⟩
        rw [cut_one a b r hb' hbl hs ?_]
        · simp [hk]
        · cases r with
          | nil => simp
          | cons c r =>
            rw [Bool.eq_false_iff]
            intro h3
            simp only [List.head?_cons, Bool.and_eq_true, beq_iff_eq, Option.some.injEq] at h3
            refine h2 ⟨by simp, ?_⟩
            rw [List.take_succ_cons, List.take_succ_cons, List.take_zero, signB_two, h3.1, h3.2]
            simp
      | false =>
        left
        refine ⟨by simp [kindOf, hb', hs], fun a => ?_⟩
        rw [cut_wrong a b r hb' hbl hs, hl, hd]
        rfl

/-- What Cut answers: tokens, a place, an error. -/
def cutR (s : ByteArray) : List Tok × Int × Int :=
  if 4096 < s.size then ([], 0, 3) else match cut 0 s.data.toList with
    | .ok l => (l, 0, 0)
    | .bad a e => ([], a, e)
theorem triple_ret {a c d : Int} {v : Value} {b : Int} (k : IntKind) (h : a = b) (h2 : c = d) : Ending.returned (.tuple #[v, .int .i64 a, .int k c]) = .returned (.tuple #[v, .int .i64 b, .int k d]) := by rw [h, h2]

end Go.Proofs.YtockinpjfhhkoaaGreatDoor
