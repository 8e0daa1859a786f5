/- Texts of formulas and expressions in Lean: what layer 18 computes. No program. -/
import Derived.Test.YtpgdplmndnopbaaGreatDoorMgA
import Derived.Test.YtpgdplmndnopbaaGreatDoorMgC
import Derived.Lib.ItoaMem
import Derived.Test.YtpgdplmndnopbaaGreatDoorMgE
namespace Go.Proofs.YtpgdplmndnopbaaGreatDoor
open Go.RowKit

/-- How low a formula's sign stands. -/
def lowF (k : Int) : Nat := if k = 6 then 1 else if k = 5 then 2 else 3
def heightX (k : Int) : Nat := if k = 2 then 1 else if k = 3 then 2 else if k = 4 then 3 else if k = 5 then 4 else 5
def wrapP (is : Bool) (o c : UInt8) (b : List UInt8) : List UInt8 := if is then o :: (b ++ [c]) else b
/-- The text of a formula, in braces if it stands lower than told. -/
def prF : (n : Nat) → FT n → Nat → List UInt8
  | 0, _, _ => []
  | n + 1, t, least => wrapP (decide (lowF t.1 < least)) 123 125
    (if t.1 = 1 then [116, 114, 117, 101]
     else if t.1 = 2 then [102, 97, 108, 115, 101]
     else if t.1 = 3 then t.2.1.data.toList
     else if t.1 = 4 then 33 :: (t.2.2.map fun x => prF n x 3).getD 0 []
     else if t.1 = 5 then (t.2.2.map fun x => prF n x 2).getD 0 [] ++ [38, 38] ++ (t.2.2.map fun x => prF n x 3).getD 1 []
     else (t.2.2.map fun x => prF n x 1).getD 0 [] ++ [124, 124] ++ (t.2.2.map fun x => prF n x 2).getD 1 [])
/-- The text of an interval; `it` writes a number. -/
def prI (it : Int → List UInt8) (i : Spn) : List UInt8 :=
  (if i.ls then [40] else [91]) ++ it i.low ++ [44] ++ (if i.op then [111, 111, 41] else it i.high ++ (if i.hs then [41] else [93]))
/-- The text of an expression, in brackets if it stands lower than told. -/
def prX (it : Int → List UInt8) {m : Nat} : (n : Nat) → XT m n → Nat → List UInt8
  | 0, _, _ => []
  | n + 1, t, least => wrapP (decide (heightX t.1 < least)) 40 41
    (if t.1 = 1 then (t.2.1.map fun f => prF m f 0).getD 0 []
     else if t.1 = 5 then (t.2.2.1.map fun x => prX it n x 4).getD 0 [] ++ [43]
     else if t.1 = 6 then 60 :: (t.2.2.1.map fun x => prX it n x 0).getD 0 [] ++ [62, 95] ++ prI it t.2.2.2
     else (t.2.2.1.map fun x => prX it n x (heightX t.1)).getD 0 [] ++ [if t.1 = 2 then 124 else if t.1 = 3 then 38 else 59] ++ (t.2.2.1.map fun x => prX it n x (heightX t.1 + 1)).getD 1 [])

/-- At the outmost nothing is put in brackets: none stands lower than 1. -/
theorem prF_zero : ∀ (n : Nat) (t : FT n), prF n t 0 = prF n t 1
  | 0, _ => rfl
  | n + 1, t => by
    have h : 1 ≤ lowF t.1 := by unfold lowF; split <;> (try split) <;> omega
    unfold prF
    have h0 : decide (lowF t.1 < 0) = false := by simp
    have h1 : decide (lowF t.1 < 1) = false := by simp; omega
    rw [h0, h1]
theorem prX_zero (it : Int → List UInt8) {m : Nat} : ∀ (n : Nat) (t : XT m n), prX it n t 0 = prX it n t 1
  | 0, _ => rfl
  | n + 1, t => by
    have h : 1 ≤ heightX t.1 := by unfold heightX; split <;> (try split) <;> (try split) <;> (try split) <;> omega
    unfold prX
    have h0 : decide (heightX t.1 < 0) = false := by simp
    have h1 : decide (heightX t.1 < 1) = false := by simp; omega
    rw [h0, h1]
end Go.Proofs.YtpgdplmndnopbaaGreatDoor

/- The tokens of a printed expression: its text is theirs, one behind the other. No program. -/
namespace Go.Proofs.YtpgdplmndnopbaaGreatDoor
open Go.RowKit

/-- A token without its place: kind and text. -/
abbrev Tk := Int × List UInt8
def wrapT (is : Bool) (o c : UInt8) (b : List Tk) : List Tk := if is then (3, [o]) :: (b ++ [(3, [c])]) else b
def tkF : (n : Nat) → FT n → Nat → List Tk
  | 0, _, _ => []
  | n + 1, t, least => wrapT (decide (lowF t.1 < least)) 123 125
    (if t.1 = 1 then [(1, [116, 114, 117, 101])]
     else if t.1 = 2 then [(1, [102, 97, 108, 115, 101])]
     else if t.1 = 3 then [(1, t.2.1.data.toList)]
     else if t.1 = 4 then (3, [33]) :: (t.2.2.map fun x => tkF n x 3).getD 0 []
     else if t.1 = 5 then (t.2.2.map fun x => tkF n x 2).getD 0 [] ++ [(3, [38, 38])] ++ (t.2.2.map fun x => tkF n x 3).getD 1 []
     else (t.2.2.map fun x => tkF n x 1).getD 0 [] ++ [(3, [124, 124])] ++ (t.2.2.map fun x => tkF n x 2).getD 1 [])
def tkI (it : Int → List UInt8) (i : Spn) : List Tk :=
  [(3, if i.ls then [40] else [91]), (2, it i.low), (3, [44])] ++ (if i.op then [(1, [111, 111]), (3, [41])] else [(2, it i.high), (3, if i.hs then [41] else [93])])
def tkX (it : Int → List UInt8) {m : Nat} : (n : Nat) → XT m n → Nat → List Tk
  | 0, _, _ => []
  | n + 1, t, least => wrapT (decide (heightX t.1 < least)) 40 41
    (if t.1 = 1 then (t.2.1.map fun f => tkF m f 0).getD 0 []
     else if t.1 = 5 then (t.2.2.1.map fun x => tkX it n x 4).getD 0 [] ++ [(3, [43])]
     else if t.1 = 6 then (3, [60]) :: (t.2.2.1.map fun x => tkX it n x 0).getD 0 [] ++ [(3, [62]), (3, [95])] ++ tkI it t.2.2.2
     else (t.2.2.1.map fun x => tkX it n x (heightX t.1)).getD 0 [] ++ [(3, [if t.1 = 2 then 124 else if t.1 = 3 then 38 else 59])] ++ (t.2.2.1.map fun x => tkX it n x (heightX t.1 + 1)).getD 1 [])
def textT (l : List Tk) : List UInt8 := l.flatMap (·.2)
theorem textT_append (a b : List Tk) : textT (a ++ b) = textT a ++ textT b := by simp [textT]
theorem textT_cons (a : Tk) (b : List Tk) : textT (a :: b) = a.2 ++ textT b := by simp [textT]
theorem textT_nil : textT [] = [] := rfl
theorem wrap_text (is : Bool) (o c : UInt8) (b : List Tk) : textT (wrapT is o c b) = wrapP is o c (textT b) := by
  unfold wrapT wrapP
  split
  · rw [textT_cons, textT_append, textT_cons, textT_nil]; simp
  · rfl
theorem getD_text {α : Type} (p : α → List UInt8) (q : α → List Tk) (i : Nat) (l : List α) (h : ∀ x ∈ l, p x = textT (q x)) : (l.map p).getD i [] = textT ((l.map q).getD i []) := by
  simp only [List.getD_eq_getElem?_getD, List.getElem?_map]
  cases e : l[i]? with
  | none => rfl
  | some x => simpa using h x (List.mem_of_getElem? e)
theorem prF_text : ∀ (n : Nat) (t : FT n) (least : Nat), prF n t least = textT (tkF n t least)
  | 0, t, _ => nomatch t
  | n + 1, t, least => by
    have H : ∀ k i : Nat, (t.2.2.map fun x => prF n x k).getD i [] = textT ((t.2.2.map fun x => tkF n x k).getD i []) := fun k i => getD_text _ _ i t.2.2 fun x _ => prF_text n x k
    rw [prF, tkF, wrap_text]
    congr 1
    split
    · rfl
    · split
      · rfl
      · split
        · simp [textT]
        · split
          · rw [textT_cons, H]; rfl
          · split
            · rw [textT_append, textT_append, H, H]; rfl
            · rw [textT_append, textT_append, H, H]; rfl
theorem prI_text (it : Int → List UInt8) (i : Spn) : prI it i = textT (tkI it i) := by
  unfold prI tkI
  cases i.ls <;> cases i.op <;> cases i.hs <;> simp [textT]
theorem prX_text (it : Int → List UInt8) {m : Nat} : ∀ (n : Nat) (t : XT m n) (least : Nat), prX it n t least = textT (tkX it n t least)
  | 0, t, _ => nomatch t
  | n + 1, t, least => by
    have H : ∀ k i : Nat, (t.2.2.1.map fun x => prX it n x k).getD i [] = textT ((t.2.2.1.map fun x => tkX it n x k).getD i []) := fun k i => getD_text _ _ i t.2.2.1 fun x _ => prX_text it n x k
    have H2 : (t.2.1.map fun f => prF m f 0).getD 0 [] = textT ((t.2.1.map fun f => tkF m f 0).getD 0 []) := getD_text _ _ 0 t.2.1 fun x _ => prF_text m x 0
    rw [prX, tkX, wrap_text]
    congr 1
    split
    · exact H2
    · split
      · rw [textT_append, H]; rfl
      · split
        · rw [textT_append, textT_append, textT_cons, H, prI_text]
          simp [textT]
        · rw [textT_append, textT_append, H, H]; simp [textT]
end Go.Proofs.YtpgdplmndnopbaaGreatDoor

/- Plain laws of layer 16: what is not great is counted without a turn of the machine's numbers; each part of what may be may be. No program. -/
namespace Go.Proofs.YtpgdplmndnopbaaGreatDoor
open Go.RowKit

def nF : (n : Nat) → FT n → Nat
  | 0, _ => 1
  | n + 1, t => 1 + (t.2.2.map (nF n)).sum
def tF : (n : Nat) → FT n → Nat
  | 0, _ => 1
  | n + 1, t => 1 + t.2.1.size + (t.2.2.map (tF n)).sum
def nX {m : Nat} : (n : Nat) → XT m n → Nat
  | 0, _ => 1
  | n + 1, t => (if t.1 = 1 then (t.2.1.map (nF m)).sum else 1) + (t.2.2.1.map (nX n)).sum
def tX {m : Nat} : (n : Nat) → XT m n → Nat
  | 0, _ => 1
  | n + 1, t => 1 + (t.2.1.map (tF m)).sum + (t.2.2.1.map (tX n)).sum

theorem sum_le {α : Type} (f g : α → Nat) : ∀ l : List α, (∀ x ∈ l, f x ≤ g x) → (l.map f).sum ≤ (l.map g).sum
  | [], _ => by simp
  | x :: r, h => by
    have h1 := h x (by simp)
    have h2 := sum_le f g r (fun y hy => h y (by simp [hy]))
    simp only [List.map_cons, List.sum_cons]; omega
theorem le_sum {α : Type} (f : α → Nat) : ∀ (l : List α) (x : α), x ∈ l → f x ≤ (l.map f).sum
  | y :: r, x, h => by
    simp only [List.map_cons, List.sum_cons]
    rcases List.mem_cons.1 h with rfl | h
    · omega
    · have := le_sum f r x h; omega

theorem szL_le {α : Type} (f : α → Int → Int) (g : α → Nat) (most : Int) (hm : 0 ≤ most ∧ most ≤ 2000) : ∀ (l : List α) (n : Int),
    (∀ x ∈ l, ∀ k, 0 ≤ k → k ≤ 2000 → f x k ≤ k + 281474976710657 ∧ 1 ≤ f x k ∧ (f x k ≤ k → f x k = g x)) → 0 ≤ n → n ≤ most + 281474976710657 →
    szL f most l n ≤ most + 281474976710657 ∧ n ≤ szL f most l n ∧ (szL f most l n ≤ most → szL f most l n = n + (l.map g).sum)
  | [], n, _, h0, h1 => ⟨h1, by simp [szL], by simp [szL]⟩
  | x :: r, n, H, h0, h1 => by
    rw [szL]
    split
    · rename_i hn
      have hw : wrap64 (most - n) = most - n := by unfold wrap64; omega
      obtain ⟨a1, a2, a3⟩ := H x (by simp) (most - n) (by omega) (by omega)
      rw [hw]
      have hw2 : wrap64 (n + f x (most - n)) = n + f x (most - n) := by unfold wrap64; omega
      rw [hw2]
      obtain ⟨b1, b2, b3⟩ := szL_le f g most hm r (n + f x (most - n)) (fun y hy => H y (by simp [hy])) (by omega) (by omega)
      refine ⟨b1, by omega, fun h => ?_⟩
      rw [b3 h, a3 (by omega)]
      simp only [List.map_cons, List.sum_cons]; push_cast; omega
    · exact ⟨h1, by omega, fun h => absurd h (by omega)⟩

theorem sizeF_le : ∀ (n : Nat) (t : FT n), bndF n t → ∀ k : Int, 0 ≤ k → k ≤ 2000 → sizeF n t k ≤ k + 281474976710657 ∧ 1 ≤ sizeF n t k ∧ (sizeF n t k ≤ k → sizeF n t k = tF n t)
  | 0, t, _ => nomatch t
  | n + 1, t, h => fun k h0 h1 => by
    have hs := h.1
    rw [sizeF]
    have hw : wrap64 (1 + (t.2.1.size : Int)) = 1 + t.2.1.size := by unfold wrap64; omega
    rw [hw]
    obtain ⟨a, b, c⟩ := szL_le (sizeF n) (tF n) k ⟨h0, h1⟩ t.2.2 (1 + t.2.1.size) (fun x hx => sizeF_le n x (h.2 x hx)) (by omega) (by omega)
    refine ⟨a, by omega, fun hh => ?_⟩
    rw [c hh, tF]; push_cast; omega
theorem sizeX_le {m : Nat} : ∀ (n : Nat) (t : XT m n), bndX n t → ∀ k : Int, 0 ≤ k → k ≤ 2000 → sizeX n t k ≤ k + 281474976710657 ∧ 1 ≤ sizeX n t k ∧ (sizeX n t k ≤ k → sizeX n t k = tX n t)
  | 0, t, _ => nomatch t
  | n + 1, t, h => fun k h0 h1 => by
    rw [sizeX]
    obtain ⟨a, b, c⟩ := szL_le (sizeF m) (tF m) k ⟨h0, h1⟩ t.2.1 1 (fun x hx => sizeF_le m x (h.1 x hx)) (by omega) (by omega)
    obtain ⟨a', b', c'⟩ := szL_le (sizeX n) (tX n) k ⟨h0, h1⟩ t.2.2.1 (szL (sizeF m) k t.2.1 1) (fun x hx => sizeX_le n x (h.2 x hx)) (by omega) (by omega)
    refine ⟨a', by omega, fun hh => ?_⟩
    have := c (by omega)
    rw [c' hh, tX]; push_cast; omega

theorem nF_le : ∀ (n : Nat) (t : FT n), nF n t ≤ tF n t
  | 0, t => nomatch t
  | n + 1, t => by
    have := sum_le (nF n) (tF n) t.2.2 (fun x _ => nF_le n x)
    rw [nF, tF]; omega
theorem nX_le {m : Nat} : ∀ (n : Nat) (t : XT m n), nX n t ≤ tX n t
  | 0, t => nomatch t
  | n + 1, t => by
    have h1 := sum_le (nX n) (tX n) t.2.2.1 (fun x _ => nX_le n x)
    have h2 := sum_le (nF m) (tF m) t.2.1 (fun x _ => nF_le m x)
    rw [nX, tX]; split <;> omega

theorem foldC_sum {α : Type} (f : α → Int) (g : α → Nat) : ∀ (l : List α) (a : Nat), (∀ x ∈ l, f x = g x) → a + (l.map g).sum ≤ 1000000 → foldC f a l = ((a + (l.map g).sum : Nat) : Int)
  | [], a, _, _ => by simp [foldC]
  | x :: r, a, H, h => by
    simp only [List.map_cons, List.sum_cons] at h ⊢
    have h1 := H x (by simp)
    have hw : wrap64 ((a : Int) + f x) = ((a + g x : Nat) : Int) := by rw [h1]; unfold wrap64; omega
    show foldC f (wrap64 ((a : Int) + f x)) r = _
    rw [hw, foldC_sum f g r (a + g x) (fun y hy => H y (by simp [hy])) (by omega)]
    congr 1; omega
theorem cntF_n : ∀ (n : Nat) (t : FT n), nF n t ≤ 1000000 → cntF n t = nF n t
  | 0, t, _ => nomatch t
  | n + 1, t, h => by
    rw [nF] at h
    have := foldC_sum (cntF n) (nF n) t.2.2 1 (fun x hx => cntF_n n x (by have := le_sum (nF n) t.2.2 x hx; omega)) h
    rw [cntF, nF]; exact this
theorem fmsC_n {n : Nat} (l : List (FT n)) (h : (l.map (nF n)).sum ≤ 1000000) : fmsC n l = ((l.map (nF n)).sum : Nat) := by
  have := foldC_sum (cntF n) (nF n) l 0 (fun x hx => cntF_n n x (by have := le_sum (nF n) l x hx; omega)) (by omega)
  rw [Nat.zero_add] at this
  exact this
theorem manyX_n {m : Nat} : ∀ (n : Nat) (t : XT m n), nX n t ≤ 1000000 → manyX n t = nX n t
  | 0, t, _ => nomatch t
  | n + 1, t, h => by
    rw [nX] at h
    have key : (oneX t.1 t.2.1 : Int) = ((if t.1 = 1 then (t.2.1.map (nF m)).sum else 1 : Nat) : Int) := by
      unfold oneX
      split
      · rename_i h1
        rw [if_pos h1] at h
        exact fmsC_n _ (by omega)
      · rfl
    have := foldC_sum (cntX oneX n) (nX n) t.2.2.1 _ (fun x hx => manyX_n n x (by have := le_sum (nX n) t.2.2.1 x hx; omega)) h
    rw [nX]
    show foldC (cntX oneX n) (oneX t.1 t.2.1) t.2.2.1 = _
    rw [key]; exact this

theorem max_fold_le {α : Type} (f : α → Int) : ∀ (l : List α) (a : Int), a ≤ l.foldl (fun a y => max a (f y)) a ∧ ∀ x ∈ l, f x ≤ l.foldl (fun a y => max a (f y)) a
  | [], a => ⟨by simp, by simp⟩
  | y :: r, a => by
    obtain ⟨h1, h2⟩ := max_fold_le f r (max a (f y))
    rw [List.foldl_cons]
    refine ⟨by omega, fun x hx => ?_⟩
    rcases List.mem_cons.1 hx with rfl | hx
    · omega
    · exact h2 x hx

theorem checkR_zero {m : Nat} {names : List ByteArray} {n : Nat} {x : XT m n} : checkR names n x = 0 ↔ namesR names = 0 ∧ allX rightX n x = true ∧ manyX n x ≤ 64 ∧ allX (namesX names) n x = true ∧ allX openX n x = true := by
  unfold checkR
  by_cases h1 : namesR names = 0
  · cases h2 : allX rightX n x
    · simp [h1]
    · by_cases h3 : 64 < manyX n x
      · have : ¬ manyX n x ≤ 64 := by omega
        simp [h1, h3, this]
      · cases h4 : allX (namesX names) n x
        · simp [h1, h3]
        · cases h5 : allX openX n x
          · simp [h1, h3]
          · simp [h1, h3]; omega
  · simp [h1]
theorem fmlR_zero {names : List ByteArray} {n : Nat} {f : FT n} : fmlR names n f = 0 ↔ namesR names = 0 ∧ allF rightB n f = true ∧ fmsC n [f] ≤ 64 ∧ allF (declB names) n f = true := by
  unfold fmlR
  by_cases h1 : namesR names = 0
  · cases h2 : allF rightB n f
    · simp [h1]
    · by_cases h3 : 64 < fmsC n [f]
      · have : ¬ fmsC n [f] ≤ 64 := by omega
        simp [h1, h3, this]
      · cases h4 : allF (declB names) n f
        · simp [h1, h3]
        · simp [h1, h3]; omega
  · simp [h1]

theorem declF_more (more : ByteArray) (names : List ByteArray) : ∀ (n : Nat) (t : FT n), allF (declB names) n t = true → allF (declB (more :: names)) n t = true
  | 0, t, _ => nomatch t
  | n + 1, t, h => by
    rw [allF, Bool.and_eq_true, List.all_eq_true] at h ⊢
    refine ⟨?_, fun x hx => declF_more more names n x (h.2 x hx)⟩
    have h1 := h.1
    unfold declB at h1 ⊢
    rw [Bool.or_eq_true] at h1 ⊢
    rcases h1 with h1 | h1
    · exact .inl h1
    · exact .inr (by unfold inN at h1 ⊢; rw [List.any_cons, h1]; simp)
theorem namesX_more {m : Nat} (more : ByteArray) (names : List ByteArray) : ∀ (n : Nat) (t : XT m n), allX (namesX names) n t = true → allX (namesX (more :: names)) n t = true
  | 0, t, _ => nomatch t
  | n + 1, t, h => by
    rw [allX, Bool.and_eq_true, List.all_eq_true] at h ⊢
    refine ⟨?_, fun x hx => namesX_more more names n x (h.2 x hx)⟩
    have h1 := h.1
    unfold namesX at h1 ⊢
    rw [List.all_eq_true] at h1 ⊢
    exact fun f hf => declF_more more names m f (h1 f hf)

/-- The stage's theorem, of what is not great. -/
theorem parts_plain {m n : Nat} (names : List ByteArray) (x : XT m (n + 1)) (hb : bndX (n + 1) x) (hg : sizeX (n + 1) x 2000 ≤ 2000) (hc : checkR names (n + 1) x = 0) :
    (1 ≤ manyX (n + 1) x ∧ manyX (n + 1) x ≤ 64) ∧ (∀ y ∈ x.2.2.1, checkR names n y = 0 ∧ constX n y ≤ constX (n + 1) x) ∧
      (x.2.2.1 ≠ [] → manyX (n + 1) x = wrap64 (foldC (manyX n) 0 x.2.2.1 + 1)) ∧ (∀ f ∈ x.2.1, fmlR names m f = 0) ∧
      ∀ more, namesR (more :: names) = 0 → checkR (more :: names) (n + 1) x = 0 := by
  obtain ⟨c1, c2, c3, c4, c5⟩ := checkR_zero.1 hc
  obtain ⟨_, _, hz⟩ := sizeX_le (n + 1) x hb 2000 (by omega) (by omega)
  have hz := hz hg
  have hn := nX_le (n + 1) x
  have ht : nX (n + 1) x ≤ 2000 := by omega
  have hmn := manyX_n (n + 1) x (by omega)
  have h64 : nX (n + 1) x ≤ 64 := by omega
  have e := h64
  rw [nX] at e
  have hch : ∀ y ∈ x.2.2.1, manyX n y = nX n y ∧ nX n y ≤ 64 := fun y hy => by
    have := le_sum (nX n) x.2.2.1 y hy
    exact ⟨manyX_n n y (by omega), by omega⟩
  rw [allX, Bool.and_eq_true, List.all_eq_true] at c2 c4 c5
  have hr := c2.1
  unfold rightX at hr
  simp only [Bool.and_eq_true, decide_eq_true_eq, beq_iff_eq] at hr
  obtain ⟨⟨⟨⟨⟨r1, r2⟩, r3⟩, r4⟩, r5⟩, r6⟩ := hr
  have hpos : 1 ≤ nX (n + 1) x := by
    rw [nX]
    split
    · rename_i h1
      rw [if_pos h1, Bool.and_eq_true, beq_iff_eq] at r6
      obtain ⟨f, hf⟩ := List.length_eq_one_iff.1 r6.1
      have : 1 ≤ nF m f := by
        cases m with
        | zero => exact nomatch f
        | succ m => rw [nF]; omega
      rw [hf]; simp; omega
    · omega
  refine ⟨⟨by omega, by omega⟩, fun y hy => ⟨checkR_zero.2 ⟨c1, c2.2 y hy, by have := hch y hy; omega, c4.2 y hy, c5.2 y hy⟩, (max_fold_le (constX n) x.2.2.1 _).2 y hy⟩, fun hne => ?_, fun f hf => ?_, fun more hm => ?_⟩
  · have hk : x.1 ≠ 1 := fun h1 => by
      rw [h1] at r3
      exact hne (List.eq_nil_of_length_eq_zero r3)
    rw [if_neg hk] at e
    have hs := foldC_sum (manyX n) (nX n) x.2.2.1 0 (fun y hy => (hch y hy).1) (by omega)
    have hs' : foldC (manyX n) 0 x.2.2.1 = ((x.2.2.1.map (nX n)).sum : Nat) := by rw [Nat.zero_add] at hs; exact hs
    rw [hs', hmn, nX, if_neg hk]
    unfold wrap64; omega
  · have hk : x.1 = 1 := by
      by_cases h1 : x.1 = 1
      · exact h1
      · rw [if_neg h1, beq_iff_eq] at r6
        rw [List.eq_nil_of_length_eq_zero r6] at hf
        exact absurd hf (by simp)
    rw [if_pos hk, Bool.and_eq_true, List.all_eq_true] at r6
    rw [if_pos hk] at e
    have h1 := le_sum (nF m) x.2.1 f hf
    have h2 : fmsC m [f] = ((([f] : List (FT m)).map (nF m)).sum : Nat) := fmsC_n [f] (by simp; omega)
    have h4 := c4.1
    unfold namesX at h4
    rw [List.all_eq_true] at h4
    exact fmlR_zero.2 ⟨c1, r6.2 f hf, by rw [h2]; simp; omega, h4 f hf⟩
  · refine checkR_zero.2 ⟨hm, ?_, c3, ?_, ?_⟩
    · rw [allX, Bool.and_eq_true, List.all_eq_true]; exact c2
    · exact namesX_more more names (n + 1) x (by rw [allX, Bool.and_eq_true, List.all_eq_true]; exact c4)
    · rw [allX, Bool.and_eq_true, List.all_eq_true]; exact c5

/-- A longer interval is no emptier. -/
theorem wider_plain (i : Spn) (by_ : Int) (h : ivR i = 0) (ho : i.op = false) (h0 : 0 ≤ by_) (h1 : by_ < 288230376151711744) :
    ivR ⟨i.low, false, i.high, false, i.op⟩ = 0 ∧ (288230376151711744 ≤ wrap64 (i.high + by_) ∨ ivR ⟨i.low, i.ls, wrap64 (i.high + by_), i.hs, i.op⟩ = 0) ∧ ivR ⟨i.low, i.ls, 0, false, true⟩ = 0 := by
  obtain ⟨lo, ls, hi, hs, op⟩ := i
  dsimp only at ho h ⊢
  subst ho
  have key : belowC lo = true ∧ belowC hi = true ∧ (hi < lo) = False ∧ ((lo = hi) → ls = false ∧ hs = false) := by
    have e1 : belowC lo = true := by
      cases e : belowC lo with
      | true => rfl
      | false => simp [ivR, e] at h
    have e2 : belowC hi = true := by
      cases e : belowC hi with
      | true => rfl
      | false => simp [ivR, e, e1] at h
    have e3 : ¬ hi < lo := fun hlt => by simp [ivR, e1, e2, hlt] at h
    refine ⟨e1, e2, by simp [e3], fun e => ?_⟩
    subst e
    cases ls <;> cases hs <;> simp [ivR, e1] at h ⊢
  obtain ⟨k1, k2, k3, k4⟩ := key
  have b1 := k1
  have b2 := k2
  unfold belowC at b1 b2
  simp only [Bool.and_eq_true, decide_eq_true_eq] at b1 b2
  have hlt : ¬ hi < lo := by rw [k3]; exact id
  have hw : wrap64 (hi + by_) = hi + by_ := by unfold wrap64; omega
  rw [hw]
  refine ⟨?_, ?_, ?_⟩
  · unfold ivR
    simp [k1, k2]; omega
  · by_cases hc : 288230376151711744 ≤ hi + by_
    · exact .inl hc
    · right
      have k5 : belowC (hi + by_) = true := by unfold belowC; simp; omega
      unfold ivR
      simp only [k1, k5]
      by_cases e : lo = hi + by_
      · have hb : by_ = 0 := by omega
        subst hb
        obtain ⟨s1, s2⟩ := k4 (by omega)
        subst s1 s2
        simp; omega
      · have : (lo == hi + by_) = false := by simpa using e
        simp [this]; omega
  · unfold ivR
    have k6 : belowC 0 = true := by decide
    simp [k1, k6]
end Go.Proofs.YtpgdplmndnopbaaGreatDoor

/- Plain: names that are not great are short ones. No program. -/
namespace Go.Proofs.YtpgdplmndnopbaaGreatDoor
open Go.RowKit

/-- How much names are, up to a bound. -/
def gnGo : List ByteArray → Int → Int
  | [], n => n
  | s :: r, n => if n < 10000 then gnGo r (wrap64 (wrap64 (n + 1) + s.size)) else n
def greatN (l : List ByteArray) : Bool := decide (5000 < gnGo l 0)
theorem gnGo_drop (l : List ByteArray) (k : Nat) (n : Int) (h : k < l.length) (hn : n < 10000) : gnGo (l.drop k) n = gnGo (l.drop (k + 1)) (wrap64 (wrap64 (n + 1) + l[k].size)) := by
  rw [List.drop_eq_getElem_cons h, gnGo, if_pos hn]
theorem gnGo_stop (l : List ByteArray) (n : Int) (hn : ¬ n < 10000) : gnGo l n = n := by
  cases l with
  | nil => rfl
  | cons x r => rw [gnGo, if_neg hn]
theorem gnGo_end (l : List ByteArray) (n : Int) : gnGo (l.drop l.length) n = n := by rw [List.drop_length]; rfl
theorem gnGo_le : ∀ (l : List ByteArray) (n : Int), (∀ s ∈ l, s.size ≤ 281474976710656) → 0 ≤ n → n ≤ 300000000000000 → n ≤ gnGo l n ∧ (gnGo l n ≤ 5000 → ∀ s ∈ l, s.size ≤ 5000)
  | [], n, _, _, _ => ⟨by simp [gnGo], fun _ s hs => absurd hs (by simp)⟩
  | x :: r, n, H, h0, h1 => by
    rw [gnGo]
    split
    · rename_i hn
      have hx := H x (by simp)
      have hw : wrap64 (wrap64 (n + 1) + x.size) = n + 1 + x.size := by unfold wrap64; omega
      rw [hw]
      obtain ⟨a, b⟩ := gnGo_le r (n + 1 + x.size) (fun s hs => H s (by simp [hs])) (by omega) (by omega)
      refine ⟨by omega, fun h s hs => ?_⟩
      rcases List.mem_cons.1 hs with rfl | hs
      · omega
      · exact b h s hs
    · rename_i hn
      exact ⟨Int.le_refl _, fun h => absurd h (by omega)⟩
theorem greatN_not {l : List ByteArray} (h : greatN l = false) (H : ∀ s ∈ l, s.size ≤ 281474976710656) : ∀ s ∈ l, s.size ≤ 1048576 := by
  intro s hs
  have h1 : gnGo l 0 ≤ 5000 := by unfold greatN at h; simpa using h
  have := (gnGo_le l 0 H (by omega) (by omega)).2 h1 s hs
  omega
end Go.Proofs.YtpgdplmndnopbaaGreatDoor

/- What is printed is parsed: formulas. No program. -/
namespace Go.Proofs.YtpgdplmndnopbaaGreatDoor
open Go.RowKit

/-- Tokens without their places. -/
def plainT (l : List Tok) : List Tk := l.map fun t => (t.kind, t.text.data.toList)
theorem plain_cons {l : List Tok} {k : Int} {s : List UInt8} {T : List Tk} (h : plainT l = (k, s) :: T) : ∃ t l', l = t :: l' ∧ t.kind = k ∧ t.text.data.toList = s ∧ plainT l' = T := by
  cases l with
  | nil => simp [plainT] at h
  | cons t l' =>
    simp only [plainT, List.map_cons, List.cons.injEq, Prod.mk.injEq] at h
    exact ⟨t, l', rfl, h.1.1, h.1.2, h.2⟩
theorem plain_append {l : List Tok} {A B : List Tk} (h : plainT l = A ++ B) : ∃ l1 l2, l = l1 ++ l2 ∧ plainT l1 = A ∧ plainT l2 = B := by
  obtain ⟨l1, l2, rfl, h1, h2⟩ := List.map_eq_append_iff.1 h
  exact ⟨l1, l2, rfl, h1, h2⟩
theorem plain_nil {l : List Tok} (h : plainT l = []) : l = [] := by simpa [plainT] using h
theorem isT_of {s : List UInt8} {t : Tok} {l : List Tok} (hk : t.kind ≠ 2) : isT s (t :: l) = (t.text.data.toList == s) := by
  have : (t.kind != 2) = true := by simpa using hk
  show (t.kind != 2 && t.text.data.toList == s) = _
  rw [this, Bool.true_and]
theorem isT_yes {s : List UInt8} {t : Tok} {l : List Tok} (hk : t.kind ≠ 2) (h : t.text.data.toList = s) : isT s (t :: l) = true := by rw [isT_of hk, h]; simp
theorem isT_no {s s' : List UInt8} {t : Tok} {l : List Tok} (h : t.text.data.toList = s') (hne : s' ≠ s) : isT s (t :: l) = false := by
  have : (t.text.data.toList == s) = false := by rw [h]; simpa using hne
  show (t.kind != 2 && t.text.data.toList == s) = _
  rw [this, Bool.and_false]
theorem chain_stop {α : Type} {sign : List UInt8} {one : List Tok → PRes α} {join : α → α → α} {l : List Tok} (h : isT sign l = false) : ∀ (k : Nat) (x : α), chainR sign one join k x l = .ok (x, l)
  | 0, _ => rfl
  | k + 1, x => by rw [chainR, h]; rfl
theorem chain_go {α : Type} {sign : List UInt8} {one : List Tok → PRes α} {join : α → α → α} {t : Tok} {l r : List Tok} {k : Nat} {x y : α} (hs : isT sign (t :: l) = true) (h : one l = .ok (y, r)) (hk : (t :: l).length ≤ k) :
    ∃ k', chainR sign one join k x (t :: l) = chainR sign one join k' (join x y) r ∧ l.length ≤ k' := by
  cases k with
  | zero => simp at hk
  | succ k =>
    refine ⟨k, ?_, by simp at hk; omega⟩
    rw [chainR, hs, if_pos rfl]
    simp only [List.tail_cons, h]
theorem name_ne {s : List UInt8} (h : nameB s = true) : s ≠ [123] ∧ s ≠ [33] ∧ s ≠ [116, 114, 117, 101] ∧ s ≠ [102, 97, 108, 115, 101] ∧ s ≠ [40] ∧ s ≠ [60] := by
  refine ⟨?_, ?_, ?_, ?_, ?_, ?_⟩ <;> (rintro rfl; exact absurd h (by decide))

/-- A formula's propositions have names that may be. -/
def nmB (k : Int) (s : ByteArray) (_ : Nat) : Bool := k != 3 || nameB s.data.toList
abbrev oneD (d deep : Nat) (l : List Tok) : PRes F := oneR (formR d) deep (l.length + 1) l
abbrev andD (d deep : Nat) : List Tok → PRes F := chainP [38, 38] (oneD d deep) fun a b => .mk 5 ⟨#[]⟩ [a, b]
theorem formR_succ (d deep : Nat) (l : List Tok) : formR (d + 1) deep l = chainP [124, 124] (andD d deep) (fun a b => .mk 6 ⟨#[]⟩ [a, b]) l := rfl

def OneOk {n : Nat} (t : FT n) : Prop := ∀ (d deep : Nat), nF n t ≤ d → deep + nF n t ≤ 64 → ∀ (k : Nat) (lt r : List Tok), lt.length < k → plainT lt = tkF n t 3 → oneR (formR d) deep k (lt ++ r) = .ok (toF n t, r)
def AllOk {n : Nat} (t : FT n) : Prop := ∀ (d deep : Nat), nF n t ≤ d → deep + nF n t ≤ 64 → ∀ lt r : List Tok, plainT lt = tkF n t 2 → ∃ k, r.length ≤ k ∧ andD d deep (lt ++ r) = chainR [38, 38] (oneD d deep) (fun a b => .mk 5 ⟨#[]⟩ [a, b]) k (toF n t) r
def FormOk {n : Nat} (t : FT n) : Prop := ∀ (d deep : Nat), nF n t ≤ d → deep + nF n t ≤ 64 → ∀ lt r : List Tok, plainT lt = tkF n t 1 → isT [38, 38] r = false → ∃ k, r.length ≤ k ∧ chainP [124, 124] (andD d deep) (fun a b => .mk 6 ⟨#[]⟩ [a, b]) (lt ++ r) = chainR [124, 124] (andD d deep) (fun a b => .mk 6 ⟨#[]⟩ [a, b]) k (toF n t) r

theorem andD_one {d deep : Nat} {l r : List Tok} {x : F} (h : oneD d deep l = .ok (x, r)) : andD d deep l = chainR [38, 38] (oneD d deep) (fun a b => .mk 5 ⟨#[]⟩ [a, b]) r.length x r := by
  unfold andD chainP
  rw [h]

/-- Two with && between, the parts being parsed. -/
theorem and_core {n : Nat} {a b : FT n} (ha : AllOk a) (hb : OneOk b) {d deep : Nat} (h1 : nF n a ≤ d ∧ deep + nF n a ≤ 64) (h2 : nF n b ≤ d ∧ deep + nF n b ≤ 64) {lt r : List Tok} (hp : plainT lt = tkF n a 2 ++ [(3, [38, 38])] ++ tkF n b 3) :
    ∃ k, r.length ≤ k ∧ andD d deep (lt ++ r) = chainR [38, 38] (oneD d deep) (fun a b => .mk 5 ⟨#[]⟩ [a, b]) k (.mk 5 ⟨#[]⟩ [toF n a, toF n b]) r := by
  rw [List.append_assoc] at hp
  obtain ⟨la, l2, rfl, p1, p2⟩ := plain_append hp
  obtain ⟨ts, lb, rfl, q1, q2, q3⟩ := plain_cons p2
  obtain ⟨k, hk, e⟩ := ha d deep h1.1 h1.2 la (ts :: lb ++ r) p1
  have hs : isT [38, 38] (ts :: (lb ++ r)) = true := isT_yes (by rw [q1]; decide) q2
  have ho := hb d deep h2.1 h2.2 ((lb ++ r).length + 1) lb r (by simp; omega) q3
  obtain ⟨k', e', hk'⟩ := chain_go (one := oneD d deep) (join := fun a b => F.mk 5 ⟨#[]⟩ [a, b]) (k := k) (x := toF n a) hs ho hk
  refine ⟨k', by simp at hk'; omega, ?_⟩
  rw [List.append_assoc, e]
  exact e'
theorem or_core {n : Nat} {a b : FT n} (ha : FormOk a) (hb : AllOk b) {d deep : Nat} (h1 : nF n a ≤ d ∧ deep + nF n a ≤ 64) (h2 : nF n b ≤ d ∧ deep + nF n b ≤ 64) {lt r : List Tok} (hp : plainT lt = tkF n a 1 ++ [(3, [124, 124])] ++ tkF n b 2) (hr : isT [38, 38] r = false) :
    ∃ k, r.length ≤ k ∧ chainP [124, 124] (andD d deep) (fun a b => .mk 6 ⟨#[]⟩ [a, b]) (lt ++ r) = chainR [124, 124] (andD d deep) (fun a b => .mk 6 ⟨#[]⟩ [a, b]) k (.mk 6 ⟨#[]⟩ [toF n a, toF n b]) r := by
  rw [List.append_assoc] at hp
  obtain ⟨la, l2, rfl, p1, p2⟩ := plain_append hp
  obtain ⟨ts, lb, rfl, q1, q2, q3⟩ := plain_cons p2
  obtain ⟨k, hk, e⟩ := ha d deep h1.1 h1.2 la (ts :: lb ++ r) p1 (isT_no q2 (by decide))
  have hs : isT [124, 124] (ts :: (lb ++ r)) = true := isT_yes (by rw [q1]; decide) q2
  obtain ⟨kb, _, eb⟩ := hb d deep h2.1 h2.2 lb r q3
  have ho : andD d deep (lb ++ r) = .ok (toF n b, r) := by rw [eb, chain_stop hr]
  obtain ⟨k', e', hk'⟩ := chain_go (one := andD d deep) (join := fun a b => F.mk 6 ⟨#[]⟩ [a, b]) (k := k) (x := toF n a) hs ho hk
  refine ⟨k', by simp at hk'; omega, ?_⟩
  rw [List.append_assoc, e]
  exact e'

/-- In braces. -/
theorem brace_core {n : Nat} {t : FT n} {d deep k : Nat} {lt r : List Tok} (hd : deep < 64) (hf : ∀ (lb : List Tok) (rb : Tok), plainT lb = tkF n t 1 → rb.kind = 3 → rb.text.data.toList = [125] → formR d (deep + 1) (lb ++ (rb :: r)) = .ok (toF n t, rb :: r))
    (hp : plainT lt = (3, [123]) :: (tkF n t 1 ++ [(3, [125])])) (hk : lt.length < k) : oneR (formR d) deep k (lt ++ r) = .ok (toF n t, r) := by
  obtain ⟨t1, l1, rfl, q1, q2, q3⟩ := plain_cons hp
  obtain ⟨lb, l2, rfl, p1, p2⟩ := plain_append q3
  obtain ⟨t2, l3, rfl, s1, s2, s3⟩ := plain_cons p2
  obtain rfl := plain_nil s3
  cases k with
  | zero => simp at hk
  | succ k =>
    have h1 : isT [123] (t1 :: (lb ++ (t2 :: r))) = true := isT_yes (by rw [q1]; decide) q2
    have h2 : isT [125] (t2 :: r) = true := isT_yes (by rw [s1]; decide) s2
    have e : t1 :: (lb ++ [t2]) ++ r = t1 :: (lb ++ (t2 :: r)) := by simp
    rw [e, oneR]
    have hw : withinR [123] [125] deep (formR d) (t1 :: (lb ++ (t2 :: r))) = some (.ok (toF n t, r)) := by
      unfold withinR
      rw [h1, if_pos rfl, if_neg (by omega)]
      simp only [List.tail_cons, hf lb t2 p1 s1 s2, takeT, h2, if_true]
    rw [hw]

theorem nF_pos : ∀ {n : Nat} (t : FT n), 1 ≤ nF n t
  | 0, t => nomatch t
  | _ + 1, t => by rw [nF]; omega
theorem bytes_nil {s : ByteArray} (h : s.size = 0) : s = ⟨#[]⟩ := by
  cases s with
  | mk a => congr 1; exact Array.eq_empty_of_size_eq_zero h
theorem form_of_all {n : Nat} {t : FT n} {d deep : Nat} {lt r : List Tok} (h : ∃ k, r.length ≤ k ∧ andD d deep (lt ++ r) = chainR [38, 38] (oneD d deep) (fun a b => .mk 5 ⟨#[]⟩ [a, b]) k (toF n t) r) (hr : isT [38, 38] r = false) :
    ∃ k, r.length ≤ k ∧ chainP [124, 124] (andD d deep) (fun a b => .mk 6 ⟨#[]⟩ [a, b]) (lt ++ r) = chainR [124, 124] (andD d deep) (fun a b => .mk 6 ⟨#[]⟩ [a, b]) k (toF n t) r := by
  obtain ⟨k, _, e⟩ := h
  refine ⟨r.length, Nat.le_refl _, ?_⟩
  unfold chainP
  rw [e, chain_stop hr]
theorem all_of_one {n : Nat} {t : FT n} {d deep : Nat} {lt r : List Tok} (h : oneR (formR d) deep ((lt ++ r).length + 1) (lt ++ r) = .ok (toF n t, r)) :
    ∃ k, r.length ≤ k ∧ andD d deep (lt ++ r) = chainR [38, 38] (oneD d deep) (fun a b => .mk 5 ⟨#[]⟩ [a, b]) k (toF n t) r := ⟨r.length, Nat.le_refl _, andD_one h⟩
/-- What a formula in braces comes to, its inside being parsed. -/
theorem inner_form {n : Nat} {t : FT n} {d deep : Nat} {lb r : List Tok} {rb : Tok} (h : ∃ k, (rb :: r).length ≤ k ∧ chainP [124, 124] (andD d deep) (fun a b => .mk 6 ⟨#[]⟩ [a, b]) (lb ++ (rb :: r)) = chainR [124, 124] (andD d deep) (fun a b => .mk 6 ⟨#[]⟩ [a, b]) k (toF n t) (rb :: r))
    (ht : rb.text.data.toList = [125]) : formR (d + 1) deep (lb ++ (rb :: r)) = .ok (toF n t, rb :: r) := by
  obtain ⟨k, _, e⟩ := h
  rw [formR_succ, e, chain_stop (isT_no ht (by decide))]

/-- A printed formula is parsed to itself. -/
theorem form_ok : ∀ (n : Nat) (t : FT n), allF rightB n t = true → allF nmB n t = true → OneOk t ∧ AllOk t ∧ FormOk t
  | 0, t, _, _ => nomatch t
  | n + 1, t, hr, hn => by
    obtain ⟨k, s, of⟩ := t
    have hr' : (rightB k s of.length && of.all (allF rightB n)) = true := hr
    have hn' : (nmB k s of.length && of.all (allF nmB n)) = true := hn
    rw [Bool.and_eq_true, List.all_eq_true] at hr' hn'
    have ih : ∀ x ∈ of, OneOk x ∧ AllOk x ∧ FormOk x := fun x hx => form_ok n x (hr'.2 x hx) (hn'.2 x hx)
    have kid : ∀ x ∈ of, nF n x + 1 ≤ nF (n + 1) ((k, s, of) : FT (n + 1)) := fun x hx => by
      have := le_sum (nF n) of x hx
      show nF n x + 1 ≤ 1 + (of.map (nF n)).sum
      omega
    have h1 := hr'.1
    unfold rightB at h1
    simp only [Bool.and_eq_true, decide_eq_true_eq, beq_iff_eq, Bool.or_eq_true] at h1
    obtain ⟨⟨⟨hk1, hk2⟩, hl⟩, hs⟩ := h1
    have low3 : ∀ (h : OneOk (n := n + 1) (k, s, of)), tkF (n + 1) ((k, s, of) : FT (n + 1)) 3 = tkF (n + 1) ((k, s, of) : FT (n + 1)) 2 → tkF (n + 1) ((k, s, of) : FT (n + 1)) 2 = tkF (n + 1) ((k, s, of) : FT (n + 1)) 1 →
        OneOk (n := n + 1) (k, s, of) ∧ AllOk (n := n + 1) (k, s, of) ∧ FormOk (n := n + 1) (k, s, of) := by
      intro h e1 e2
      have ha : AllOk (n := n + 1) (k, s, of) := fun d deep g1 g2 lt r hp => all_of_one (h d deep g1 g2 _ lt r (by simp; omega) (hp.trans e1.symm))
      exact ⟨h, ha, fun d deep g1 g2 lt r hp hr => form_of_all (ha d deep g1 g2 lt r (hp.trans e2.symm)) hr⟩
    have hc : k = 1 ∨ k = 2 ∨ k = 3 ∨ k = 4 ∨ k = 5 ∨ k = 6 := by omega
    rcases hc with rfl | rfl | rfl | rfl | rfl | rfl
    · obtain rfl : of = [] := List.eq_nil_of_length_eq_zero hl
      obtain rfl : s = ⟨#[]⟩ := bytes_nil (by rcases hs with h | h; exact h; exact absurd h (by decide))
      refine low3 (fun d deep g1 g2 k lt r hk hp => ?_) (by simp [tkF, lowF, wrapT]) (by simp [tkF, lowF, wrapT])
      have hp' : plainT lt = (1, [116, 114, 117, 101]) :: [] := by rw [hp]; simp [tkF, lowF, wrapT]
      obtain ⟨t0, l', rfl, q1, q2, q3⟩ := plain_cons hp'
      obtain rfl := plain_nil q3
      cases k with
      | zero => simp at hk
      | succ k =>
        have z1 : isT [123] (t0 :: r) = false := isT_no q2 (by decide)
        have z2 : isT [33] (t0 :: r) = false := isT_no q2 (by decide)
        have z3 : isT [116, 114, 117, 101] (t0 :: r) = true := isT_yes (by rw [q1]; decide) q2
        simp [oneR, withinR, z1, z2, z3, toF]
    · obtain rfl : of = [] := List.eq_nil_of_length_eq_zero hl
      obtain rfl : s = ⟨#[]⟩ := bytes_nil (by rcases hs with h | h; exact h; exact absurd h (by decide))
      refine low3 (fun d deep g1 g2 k lt r hk hp => ?_) (by simp [tkF, lowF, wrapT]) (by simp [tkF, lowF, wrapT])
      have hp' : plainT lt = (1, [102, 97, 108, 115, 101]) :: [] := by rw [hp]; simp [tkF, lowF, wrapT]
      obtain ⟨t0, l', rfl, q1, q2, q3⟩ := plain_cons hp'
      obtain rfl := plain_nil q3
      cases k with
      | zero => simp at hk
      | succ k =>
        have z1 : isT [123] (t0 :: r) = false := isT_no q2 (by decide)
        have z2 : isT [33] (t0 :: r) = false := isT_no q2 (by decide)
        have z3 : isT [116, 114, 117, 101] (t0 :: r) = false := isT_no q2 (by decide)
        have z4 : isT [102, 97, 108, 115, 101] (t0 :: r) = true := isT_yes (by rw [q1]; decide) q2
        simp [oneR, withinR, z1, z2, z3, z4, toF]
    · obtain rfl : of = [] := List.eq_nil_of_length_eq_zero hl
      have hname : nameB s.data.toList = true := by
        have := hn'.1
        unfold nmB at this
        simpa using this
      obtain ⟨n1, n2, n3, n4, _, _⟩ := name_ne hname
      refine low3 (fun d deep g1 g2 k lt r hk hp => ?_) (by simp [tkF, lowF, wrapT]) (by simp [tkF, lowF, wrapT])
      have hp' : plainT lt = (1, s.data.toList) :: [] := by rw [hp]; simp [tkF, lowF, wrapT]
      obtain ⟨t0, l', rfl, q1, q2, q3⟩ := plain_cons hp'
      obtain rfl := plain_nil q3
      cases k with
      | zero => simp at hk
      | succ k =>
        have z1 : isT [123] (t0 :: r) = false := isT_no q2 n1
        have z2 : isT [33] (t0 :: r) = false := isT_no q2 n2
        have z3 : isT [116, 114, 117, 101] (t0 :: r) = false := isT_no q2 n3
        have z4 : isT [102, 97, 108, 115, 101] (t0 :: r) = false := isT_no q2 n4
        have hts : t0.text = s := by
          have e : t0.text.data = s.data := Array.toList_inj.1 q2
          cases h0 : t0.text; cases s; rw [h0] at e; exact congrArg _ e
        have e : [t0] ++ r = t0 :: r := rfl
        rw [e, oneR]
        have hw : withinR [123] [125] deep (formR d) (t0 :: r) = none := by unfold withinR; rw [z1]; rfl
        rw [hw]
        simp [z2, z3, z4, q1, hname, hts, toF]
    · obtain ⟨x, rfl⟩ := List.length_eq_one_iff.1 (show of.length = 1 from hl)
      obtain rfl : s = ⟨#[]⟩ := bytes_nil (by rcases hs with h | h; exact h; exact absurd h (by decide))
      have kx := kid x (by simp)
      refine low3 (fun d deep g1 g2 k lt r hk hp => ?_) (by simp [tkF, lowF, wrapT]) (by simp [tkF, lowF, wrapT])
      have hp' : plainT lt = (3, [33]) :: tkF n x 3 := by rw [hp]; simp [tkF, lowF, wrapT]
      obtain ⟨t0, l', rfl, q1, q2, q3⟩ := plain_cons hp'
      cases k with
      | zero => simp at hk
      | succ k =>
        have z1 : isT [123] (t0 :: (l' ++ r)) = false := isT_no q2 (by decide)
        have z2 : isT [33] (t0 :: (l' ++ r)) = true := isT_yes (by rw [q1]; decide) q2
        have hx := (ih x (by simp)).1 d deep (by omega) (by omega) k l' r (by simp at hk; omega) q3
        have e : t0 :: l' ++ r = t0 :: (l' ++ r) := rfl
        rw [e, oneR]
        have hw : withinR [123] [125] deep (formR d) (t0 :: (l' ++ r)) = none := by unfold withinR; rw [z1]; rfl
        rw [hw]
        simp [z2, hx, toF, notI]
    · obtain ⟨a, b, rfl⟩ : ∃ a b, of = [a, b] := by
        have : of.length = 2 := hl
        match of, this with
        | [a, b], _ => exact ⟨a, b, rfl⟩
      obtain rfl : s = ⟨#[]⟩ := bytes_nil (by rcases hs with h | h; exact h; exact absurd h (by decide))
      have ka := kid a (by simp)
      have kb := kid b (by simp)
      have e2 : tkF (n + 1) ((5, ⟨#[]⟩, [a, b]) : FT (n + 1)) 2 = tkF n a 2 ++ [(3, [38, 38])] ++ tkF n b 3 := by simp [tkF, lowF, wrapT]
      have e1 : tkF (n + 1) ((5, ⟨#[]⟩, [a, b]) : FT (n + 1)) 1 = tkF n a 2 ++ [(3, [38, 38])] ++ tkF n b 3 := by simp [tkF, lowF, wrapT]
      have e3 : tkF (n + 1) ((5, ⟨#[]⟩, [a, b]) : FT (n + 1)) 3 = (3, [123]) :: (tkF (n + 1) ((5, ⟨#[]⟩, [a, b]) : FT (n + 1)) 1 ++ [(3, [125])]) := by rw [e1]; simp [tkF, lowF, wrapT]
      have ha : AllOk (n := n + 1) (5, ⟨#[]⟩, [a, b]) := fun d deep g1 g2 lt r hp => and_core (ih a (by simp)).2.1 (ih b (by simp)).1 ⟨by omega, by omega⟩ ⟨by omega, by omega⟩ (hp.trans e2)
      refine ⟨fun d deep g1 g2 k lt r hk hp => ?_, ha, fun d deep g1 g2 lt r hp hr => form_of_all (ha d deep g1 g2 lt r (hp.trans (e1.trans e2.symm))) hr⟩
      have hpos := nF_pos (n := n + 1) (5, ⟨#[]⟩, [a, b])
      cases d with
      | zero => omega
      | succ d =>
        refine brace_core (by omega) (fun lb rb p1 p2 p3 => inner_form (form_of_all ?_ (isT_no p3 (by decide))) p3) (hp.trans e3) hk
        exact and_core (ih a (by simp)).2.1 (ih b (by simp)).1 ⟨by omega, by omega⟩ ⟨by omega, by omega⟩ (p1.trans e1)
    · obtain ⟨a, b, rfl⟩ : ∃ a b, of = [a, b] := by
        have : of.length = 2 := hl
        match of, this with
        | [a, b], _ => exact ⟨a, b, rfl⟩
      obtain rfl : s = ⟨#[]⟩ := bytes_nil (by rcases hs with h | h; exact h; exact absurd h (by decide))
      have ka := kid a (by simp)
      have kb := kid b (by simp)
      have e1 : tkF (n + 1) ((6, ⟨#[]⟩, [a, b]) : FT (n + 1)) 1 = tkF n a 1 ++ [(3, [124, 124])] ++ tkF n b 2 := by simp [tkF, lowF, wrapT]
      have e2 : tkF (n + 1) ((6, ⟨#[]⟩, [a, b]) : FT (n + 1)) 2 = tkF (n + 1) ((6, ⟨#[]⟩, [a, b]) : FT (n + 1)) 3 := by simp [tkF, lowF, wrapT]
      have e3 : tkF (n + 1) ((6, ⟨#[]⟩, [a, b]) : FT (n + 1)) 3 = (3, [123]) :: (tkF (n + 1) ((6, ⟨#[]⟩, [a, b]) : FT (n + 1)) 1 ++ [(3, [125])]) := by rw [e1]; simp [tkF, lowF, wrapT]
      have hone : OneOk (n := n + 1) (6, ⟨#[]⟩, [a, b]) := by
        intro d deep g1 g2 k lt r hk hp
        have hpos := nF_pos (n := n + 1) (6, ⟨#[]⟩, [a, b])
        cases d with
        | zero => omega
        | succ d =>
          refine brace_core (by omega) (fun lb rb p1 p2 p3 => inner_form ?_ p3) (hp.trans e3) hk
          exact or_core (ih a (by simp)).2.2 (ih b (by simp)).2.1 ⟨by omega, by omega⟩ ⟨by omega, by omega⟩ (p1.trans e1) (isT_no p3 (by decide))
      refine ⟨hone, fun d deep g1 g2 lt r hp => all_of_one (hone d deep g1 g2 _ lt r (by simp; omega) (hp.trans e2)), fun d deep g1 g2 lt r hp hr => or_core (ih a (by simp)).2.2 (ih b (by simp)).2.1 ⟨by omega, by omega⟩ ⟨by omega, by omega⟩ (hp.trans e1) hr⟩
end Go.Proofs.YtpgdplmndnopbaaGreatDoor

/- What is printed is parsed: expressions. No program. -/
namespace Go.Proofs.YtpgdplmndnopbaaGreatDoor
open Go.RowKit

/-- Tokens that begin with one that is no bracket of expressions. -/
def Fst (T : List Tk) : Prop := ∃ k s T', T = (k, s) :: T' ∧ s ≠ [40] ∧ s ≠ [60]
theorem Fst.append {A B : List Tk} (h : Fst A) : Fst (A ++ B) := by
  obtain ⟨k, s, T', rfl, h1, h2⟩ := h
  exact ⟨k, s, T' ++ B, rfl, h1, h2⟩
theorem tkF_succ (n : Nat) (k : Int) (s : ByteArray) (of : List (FT n)) (least : Nat) : tkF (n + 1) (k, s, of) least = wrapT (decide (lowF k < least)) 123 125
    (if k = 1 then [(1, [116, 114, 117, 101])]
     else if k = 2 then [(1, [102, 97, 108, 115, 101])]
     else if k = 3 then [(1, s.data.toList)]
     else if k = 4 then (3, [33]) :: (of.map fun x => tkF n x 3).getD 0 []
     else if k = 5 then (of.map fun x => tkF n x 2).getD 0 [] ++ [(3, [38, 38])] ++ (of.map fun x => tkF n x 3).getD 1 []
     else (of.map fun x => tkF n x 1).getD 0 [] ++ [(3, [124, 124])] ++ (of.map fun x => tkF n x 2).getD 1 []) := rfl
theorem numR_ok {t : Tok} {r : List Tok} (h : t.kind = 2) : numR (t :: r) = .ok (digitsV t.text.data.toList, r) := by
  show (if t.kind = 2 then Except.ok (digitsV t.text.data.toList, r) else failR 170 (t :: r)) = _
  rw [if_pos h]
theorem first_ok : ∀ (n : Nat) (t : FT n) (least : Nat), allF rightB n t = true → allF nmB n t = true → Fst (tkF n t least)
  | 0, t, _, _, _ => nomatch t
  | n + 1, t, least, hr, hn => by
    obtain ⟨k, s, of⟩ := t
    have hr' : (rightB k s of.length && of.all (allF rightB n)) = true := hr
    have hn' : (nmB k s of.length && of.all (allF nmB n)) = true := hn
    rw [Bool.and_eq_true, List.all_eq_true] at hr' hn'
    have ih : ∀ x ∈ of, ∀ l, Fst (tkF n x l) := fun x hx l => first_ok n x l (hr'.2 x hx) (hn'.2 x hx)
    have h1 := hr'.1
    unfold rightB at h1
    simp only [Bool.and_eq_true, decide_eq_true_eq, beq_iff_eq, Bool.or_eq_true] at h1
    obtain ⟨⟨⟨hk1, hk2⟩, hl⟩, hs⟩ := h1
    by_cases hw : lowF k < least
    · rw [tkF_succ, wrapT, if_pos (by simpa using hw)]
      exact ⟨3, [123], _, rfl, by decide, by decide⟩
    · have e : ∀ b : List Tk, wrapT (decide (lowF k < least)) 123 125 b = b := fun b => by rw [wrapT, if_neg (by simpa using hw)]
      rw [tkF_succ, e]
      have hc : k = 1 ∨ k = 2 ∨ k = 3 ∨ k = 4 ∨ k = 5 ∨ k = 6 := by omega
      rcases hc with rfl | rfl | rfl | rfl | rfl | rfl
      · exact ⟨1, _, [], rfl, by decide, by decide⟩
      · exact ⟨1, _, [], rfl, by decide, by decide⟩
      · have hname : nameB s.data.toList = true := by
          have := hn'.1
          unfold nmB at this
          simpa using this
        obtain ⟨_, _, _, _, n5, n6⟩ := name_ne hname
        exact ⟨1, _, [], rfl, n5, n6⟩
      · exact ⟨3, _, _, rfl, by decide, by decide⟩
      · obtain ⟨a, b, rfl⟩ : ∃ a b, of = [a, b] := by
          have : of.length = 2 := hl
          match of, this with
          | [a, b], _ => exact ⟨a, b, rfl⟩
        have := (ih a (by simp) 2).append (B := [(3, [38, 38])] ++ tkF n b 3)
        simpa using this
      · obtain ⟨a, b, rfl⟩ : ∃ a b, of = [a, b] := by
          have : of.length = 2 := hl
          match of, this with
          | [a, b], _ => exact ⟨a, b, rfl⟩
        have := (ih a (by simp) 1).append (B := [(3, [124, 124])] ++ tkF n b 2)
        simpa using this

/-- A printed formula, all of it, is parsed to itself. -/
theorem formula_ok {n : Nat} {t : FT n} (hr : allF rightB n t = true) (hn : allF nmB n t = true) {deep : Nat} (hd : deep + nF n t ≤ 64) {lt r : List Tok} (hp : plainT lt = tkF n t 0) (h1 : isT [38, 38] r = false) (h2 : isT [124, 124] r = false) : formR 66 deep (lt ++ r) = .ok (toF n t, r) := by
  have e : tkF n t 0 = tkF n t 1 := by
    cases n with
    | zero => exact nomatch t
    | succ n =>
      have h : 1 ≤ lowF t.1 := by unfold lowF; split <;> (try split) <;> omega
      have h0 : decide (lowF t.1 < 0) = false := by simp
      have h1 : decide (lowF t.1 < 1) = false := by simp; omega
      rw [tkF, tkF, h0, h1]
  obtain ⟨k, _, e1⟩ := (form_ok n t hr hn).2.2 65 deep (by omega) hd lt r (hp.trans e) h1
  rw [formR_succ, e1, chain_stop h2]

/-- A printed interval is parsed to itself. -/
theorem interval_ok (it : Int → List UInt8) (hit : ∀ n, 0 ≤ n → n < 288230376151711744 → digitsV (it n) = n) {i : Spn} (h : ivR i ≠ 8) {lt r : List Tok} (hp : plainT lt = tkI it i) : intervalR (lt ++ r) = .ok (i, r) := by
  obtain ⟨low, ls, high, hs, op⟩ := i
  have hb : belowC low = true ∧ belowC high = true ∧ (op = true → high = 0 ∧ hs = false) := by
    unfold ivR at h
    cases e1 : belowC low <;> cases e2 : belowC high <;> simp_all
    all_goals (try (intro hop; subst hop; by_cases e3 : high = 0 <;> cases hs <;> simp_all))
  obtain ⟨b1, b2, b3⟩ := hb
  unfold belowC at b1 b2
  simp only [Bool.and_eq_true, decide_eq_true_eq] at b1 b2
  have v1 := hit low b1.1 b1.2
  have v2 := hit high b2.1 b2.2
  unfold tkI at hp
  dsimp only at hp
  simp only [List.cons_append, List.nil_append] at hp
  obtain ⟨t1, l1, rfl, p1, p2, hp⟩ := plain_cons hp
  obtain ⟨t2, l2, rfl, q1, q2, hp⟩ := plain_cons hp
  obtain ⟨t3, l3, rfl, r1, r2, hp⟩ := plain_cons hp
  have k1 : t1.kind ≠ 2 := by rw [p1]; decide
  have k3 : isT [44] (t3 :: (l3 ++ r)) = true := isT_yes (by rw [r1]; decide) r2
  have hls : isT [40] (t1 :: (t2 :: (t3 :: (l3 ++ r)))) = ls := by
    rw [isT_of k1, p2]; cases ls <;> simp
  have hls2 : ls = false → isT [91] (t1 :: (t2 :: (t3 :: (l3 ++ r)))) = true := fun e => by
    subst e; exact isT_yes k1 p2
  have e0 : (t1 :: t2 :: t3 :: l3) ++ r = t1 :: (t2 :: (t3 :: (l3 ++ r))) := rfl
  rw [e0]
  have hnum : numR (t2 :: (t3 :: (l3 ++ r))) = .ok (low, t3 :: (l3 ++ r)) := by
    rw [numR_ok q1, q2, v1]
  have hopen : (if ls = true then Except.ok (t2 :: (t3 :: (l3 ++ r))) else takeT [91] (t1 :: (t2 :: (t3 :: (l3 ++ r))))) = (Except.ok (t2 :: (t3 :: (l3 ++ r))) : Except (Int × Int) (List Tok)) := by
    cases ls
    · rw [if_neg (by simp), takeT, hls2 rfl, if_pos rfl]; rfl
    · rw [if_pos rfl]
  cases op with
  | true =>
    obtain ⟨rfl, rfl⟩ := b3 rfl
    simp only [if_true] at hp
    obtain ⟨t4, l4, rfl, s1, s2, hp⟩ := plain_cons hp
    obtain ⟨t5, l5, rfl, u1, u2, hp⟩ := plain_cons hp
    obtain rfl := plain_nil hp
    have k4 : isT [111, 111] (t4 :: (t5 :: r)) = true := isT_yes (by rw [s1]; decide) s2
    have k5 : isT [41] (t5 :: r) = true := isT_yes (by rw [u1]; decide) u2
    simp only [List.cons_append, List.nil_append] at hls hopen hnum k3 ⊢
    unfold intervalR
    simp only [hls, List.tail_cons, hopen, hnum]
    simp only [takeT, k3, if_true, List.tail_cons, k4, k5]
  | false =>
    simp only [Bool.false_eq_true, if_false] at hp
    obtain ⟨t4, l4, rfl, s1, s2, hp⟩ := plain_cons hp
    obtain ⟨t5, l5, rfl, u1, u2, hp⟩ := plain_cons hp
    obtain rfl := plain_nil hp
    have k4 : isT [111, 111] (t4 :: (t5 :: r)) = false := by show (t4.kind != 2 && _) = false; rw [s1]; rfl
    have k5 : t5.kind ≠ 2 := by rw [u1]; decide
    have hhs : isT [41] (t5 :: r) = hs := by rw [isT_of k5, u2]; cases hs <;> simp
    have hhs2 : hs = false → isT [93] (t5 :: r) = true := fun e => by subst e; exact isT_yes k5 u2
    have hnum2 : numR (t4 :: (t5 :: r)) = .ok (high, t5 :: r) := by
      rw [numR_ok s1, s2, v2]
    have hshut : (if hs = true then Except.ok r else takeT [93] (t5 :: r)) = (Except.ok r : Except (Int × Int) (List Tok)) := by
      cases hs
      · rw [if_neg (by simp), takeT, hhs2 rfl, if_pos rfl]; rfl
      · rw [if_pos rfl]
    simp only [List.cons_append, List.nil_append] at hls hopen hnum k3 ⊢
    unfold intervalR
    simp only [hls, List.tail_cons, hopen, hnum]
    have ht : takeT [44] (t3 :: t4 :: t5 :: r) = .ok (t4 :: t5 :: r) := by unfold takeT; rw [k3]; rfl
    simp only [ht, k4, Bool.false_eq_true, if_false, hnum2, hhs, List.tail_cons, hshut]
end Go.Proofs.YtpgdplmndnopbaaGreatDoor

/- What is printed is parsed: expressions, from the inside to the outside. No program. -/
namespace Go.Proofs.YtpgdplmndnopbaaGreatDoor
open Go.RowKit

/-- No sign of formulas comes next. -/
def NoF (r : List Tok) : Prop := isT [38, 38] r = false ∧ isT [124, 124] r = false
abbrev catD (d deep : Nat) : List Tok → PRes X := chainP [59] (moreR (treR d) deep) (joinX 4)
abbrev bothD (d deep : Nat) : List Tok → PRes X := chainP [38] (catD d deep) (joinX 3)
theorem treR_succ (d deep : Nat) (l : List Tok) : treR (d + 1) deep l = chainP [124] (bothD d deep) (joinX 2) l := rfl

section
variable (it : Int → List UInt8) {m n : Nat} (P : Nat → Nat → Prop) (t : XT m n)
def BaseP : Prop := ∀ d deep, P d deep → ∀ lt r : List Tok, NoF r → plainT lt = tkX it n t 5 → baseR (treR d) deep (lt ++ r) = .ok (toX n t, r)
def MoreP : Prop := ∀ d deep, P d deep → ∀ lt r : List Tok, NoF r → plainT lt = tkX it n t 4 → ∃ k, r.length ≤ k ∧ moreR (treR d) deep (lt ++ r) = .ok (plusR k (toX n t) r)
def CatP : Prop := ∀ d deep, P d deep → ∀ lt r : List Tok, NoF r → isT [43] r = false → plainT lt = tkX it n t 3 → ∃ k, r.length ≤ k ∧ catD d deep (lt ++ r) = chainR [59] (moreR (treR d) deep) (joinX 4) k (toX n t) r
def BothP : Prop := ∀ d deep, P d deep → ∀ lt r : List Tok, NoF r → isT [43] r = false → isT [59] r = false → plainT lt = tkX it n t 2 → ∃ k, r.length ≤ k ∧ bothD d deep (lt ++ r) = chainR [38] (catD d deep) (joinX 3) k (toX n t) r
def TreP : Prop := ∀ d deep, P d deep → ∀ lt r : List Tok, NoF r → isT [43] r = false → isT [59] r = false → isT [38] r = false → plainT lt = tkX it n t 1 → ∃ k, r.length ≤ k ∧ chainP [124] (bothD d deep) (joinX 2) (lt ++ r) = chainR [124] (bothD d deep) (joinX 2) k (toX n t) r
variable {it P t}
theorem plus_stop {l : List Tok} (h : isT [43] l = false) : ∀ (k : Nat) (x : X), plusR k x l = (x, l)
  | 0, _ => rfl
  | k + 1, x => by rw [plusR, h]; rfl
theorem from_base (h : BaseP it P t) (e : tkX it n t 4 = tkX it n t 5) : MoreP it P t := fun d deep g lt r hr hp => by
  refine ⟨r.length, Nat.le_refl _, ?_⟩
  unfold moreR
  rw [h d deep g lt r hr (hp.trans e)]
theorem from_more (h : MoreP it P t) (e : tkX it n t 3 = tkX it n t 4) : CatP it P t := fun d deep g lt r hr h1 hp => by
  obtain ⟨k, _, e1⟩ := h d deep g lt r hr (hp.trans e)
  refine ⟨r.length, Nat.le_refl _, ?_⟩
  unfold catD chainP
  rw [e1, plus_stop h1]
theorem from_cat (h : CatP it P t) (e : tkX it n t 2 = tkX it n t 3) : BothP it P t := fun d deep g lt r hr h1 h2 hp => by
  obtain ⟨k, _, e1⟩ := h d deep g lt r hr h1 (hp.trans e)
  refine ⟨r.length, Nat.le_refl _, ?_⟩
  show chainP [38] (catD d deep) (joinX 3) (lt ++ r) = _
  unfold chainP
  rw [e1, chain_stop h2]
theorem from_both (h : BothP it P t) (e : tkX it n t 1 = tkX it n t 2) : TreP it P t := fun d deep g lt r hr h1 h2 h3 hp => by
  obtain ⟨k, _, e1⟩ := h d deep g lt r hr h1 h2 (hp.trans e)
  refine ⟨r.length, Nat.le_refl _, ?_⟩
  unfold chainP
  rw [e1, chain_stop h3]
theorem tre_done (h : TreP it P t) {d deep : Nat} (g : P d deep) {lt r : List Tok} (hr : NoF r) (h1 : isT [43] r = false) (h2 : isT [59] r = false) (h3 : isT [38] r = false) (h4 : isT [124] r = false) (hp : plainT lt = tkX it n t 1) : treR (d + 1) deep (lt ++ r) = .ok (toX n t, r) := by
  obtain ⟨k, _, e1⟩ := h d deep g lt r hr h1 h2 h3 hp
  rw [treR_succ, e1, chain_stop h4]
end

/-- The condition: nodes within the bounds. -/
def In {m n : Nat} (t : XT m n) (d deep : Nat) : Prop := nX n t ≤ d ∧ deep + nX n t ≤ 64
/-- The same, of the parts. -/
def Kids {m n : Nat} (t : XT m (n + 1)) (d deep : Nat) : Prop := ∀ a ∈ t.2.2.1, nX n a ≤ d ∧ deep + nX n a ≤ 64
theorem NoF.of {t : Tok} {l : List Tok} {s : List UInt8} (h : t.text.data.toList = s) (h1 : s ≠ [38, 38]) (h2 : s ≠ [124, 124]) : NoF (t :: l) := ⟨isT_no h h1, isT_no h h2⟩

/-- In brackets. -/
theorem bracket {it : Int → List UInt8} {m n : Nat} {t : XT m (n + 1)} (h : TreP it (Kids t) t) (hk : ∀ a ∈ t.2.2.1, nX n a + 1 ≤ nX (n + 1) t) (hp : 1 ≤ nX (n + 1) t) (e : tkX it (n + 1) t 5 = (3, [40]) :: (tkX it (n + 1) t 1 ++ [(3, [41])])) : BaseP it (In t) t := by
  intro d deep g lt r hr hpl
  rw [e] at hpl
  obtain ⟨t1, l1, rfl, q1, q2, q3⟩ := plain_cons hpl
  obtain ⟨lb, l2, rfl, p1, p2⟩ := plain_append q3
  obtain ⟨t2, l3, rfl, s1, s2, s3⟩ := plain_cons p2
  obtain rfl := plain_nil s3
  have h1 : isT [40] (t1 :: (lb ++ (t2 :: r))) = true := isT_yes (by rw [q1]; decide) q2
  have h2 : isT [41] (t2 :: r) = true := isT_yes (by rw [s1]; decide) s2
  have e0 : t1 :: (lb ++ [t2]) ++ r = t1 :: (lb ++ (t2 :: r)) := by simp
  obtain ⟨g1, g2⟩ := g
  cases d with
  | zero => omega
  | succ d =>
    have ht := tre_done h (d := d) (deep := deep + 1) (fun a ha => by have := hk a ha; exact ⟨by omega, by omega⟩) (NoF.of (l := r) s2 (by decide) (by decide)) (isT_no s2 (by decide)) (isT_no s2 (by decide)) (isT_no s2 (by decide)) (isT_no s2 (by decide)) p1
    rw [e0]
    unfold baseR
    have hw : withinR [40] [41] deep (treR (d + 1)) (t1 :: (lb ++ (t2 :: r))) = some (.ok (toX (n + 1) t, r)) := by
      unfold withinR
      rw [h1, if_pos rfl, if_neg (by omega)]
      simp only [List.tail_cons, ht, takeT, h2, if_true]
    rw [hw]

/-- Two with a sign between, made one. -/
theorem pair_core {one : List Tok → PRes X} {sign : List UInt8} {k0 : Int} {all : List Tok → PRes X} {la lb r : List Tok} {ts : Tok} {x y : X} {k : Nat} (hs : isT sign (ts :: (lb ++ r)) = true) (hk : (ts :: (lb ++ r)).length ≤ k)
    (ha : all (la ++ (ts :: (lb ++ r))) = chainR sign one (joinX k0) k x (ts :: (lb ++ r))) (ho : one (lb ++ r) = .ok (y, r)) : ∃ k', r.length ≤ k' ∧ all (la ++ ts :: lb ++ r) = chainR sign one (joinX k0) k' (joinX k0 x y) r := by
  obtain ⟨k', e', hk'⟩ := chain_go (join := joinX k0) (x := x) hs ho hk
  refine ⟨k', by simp at hk'; omega, ?_⟩
  have e0 : la ++ ts :: lb ++ r = la ++ (ts :: (lb ++ r)) := by simp
  rw [e0, ha]
  exact e'
end Go.Proofs.YtpgdplmndnopbaaGreatDoor

/- What is printed is parsed: every expression that is made right and whose names may be. No program. -/
namespace Go.Proofs.YtpgdplmndnopbaaGreatDoor
open Go.RowKit

abbrev mkX (m n : Nat) (t : Int × List (FT m) × List (XT m n) × Spn) : XT m (n + 1) := t
def nmX {m : Nat} (_ : Int) (is : List (FT m)) (_ : Nat) (_ : Spn) : Bool := is.all (allF nmB m)
theorem in_kids {m n : Nat} {t : XT m (n + 1)} {d deep : Nat} (hk : ∀ a ∈ t.2.2.1, nX n a + 1 ≤ nX (n + 1) t) (g : In t d deep) : Kids t d deep := fun a ha => by
  have := hk a ha
  exact ⟨by have := g.1; omega, by have := g.2; omega⟩
def AllP (it : Int → List UInt8) {m n : Nat} (t : XT m n) : Prop := BaseP it (In t) t ∧ MoreP it (In t) t ∧ CatP it (In t) t ∧ BothP it (In t) t ∧ TreP it (In t) t

set_option maxHeartbeats 1000000 in
theorem tre_ok (it : Int → List UInt8) (hit : ∀ n, 0 ≤ n → n < 288230376151711744 → digitsV (it n) = n) {m : Nat} : ∀ (n : Nat) (t : XT m n), allX rightX n t = true → allX nmX n t = true → AllP it t
  | 0, t, _, _ => nomatch t
  | n + 1, t, hr, hn => by
    obtain ⟨k, is, of, i⟩ := t
    have hr' : (rightX k is of.length i && of.all (allX rightX n)) = true := hr
    have hn' : (nmX k is of.length i && of.all (allX nmX n)) = true := hn
    rw [Bool.and_eq_true, List.all_eq_true] at hr' hn'
    have ih : ∀ x ∈ of, AllP it x := fun x hx => tre_ok it hit n x (hr'.2 x hx) (hn'.2 x hx)
    have h1 := hr'.1
    unfold rightX at h1
    simp only [Bool.and_eq_true, decide_eq_true_eq, beq_iff_eq] at h1
    obtain ⟨⟨⟨⟨⟨r1, r2⟩, r3⟩, r4⟩, r5⟩, r6⟩ := h1
    have hnm : ∀ f ∈ is, allF nmB m f = true := by
      have := hn'.1
      unfold nmX at this
      rwa [List.all_eq_true] at this
    have hc : k = 1 ∨ k = 2 ∨ k = 3 ∨ k = 4 ∨ k = 5 ∨ k = 6 := by omega
    rcases hc with rfl | rfl | rfl | rfl | rfl | rfl
    · -- an atom
      obtain rfl : of = [] := List.eq_nil_of_length_eq_zero r3
      rw [if_pos rfl, Bool.and_eq_true, beq_iff_eq, List.all_eq_true] at r6
      obtain ⟨f, rfl⟩ := List.length_eq_one_iff.1 r6.1
      obtain rfl : i = noSpan := by simpa using r5
      have hf := r6.2 f (by simp)
      have hfn := hnm f (by simp)
      have hb : BaseP it (In (mkX m n (1, [f], [], noSpan))) (mkX m n (1, [f], [], noSpan)) := by
        intro d deep g lt r hnf hp
        have hp' : plainT lt = tkF m f 0 := by rw [hp]; simp [tkX, heightX, wrapT]
        have hg : deep + nF m f ≤ 64 := by have := g.2; rw [nX] at this; simpa using this
        obtain ⟨kk, ss, T', e, n1, n2⟩ := first_ok m f 0 hf hfn
        obtain ⟨t0, l', rfl, q1, q2, q3⟩ := plain_cons (hp'.trans e)
        have z1 : isT [40] (t0 :: l' ++ r) = false := isT_no q2 n1
        have z2 : isT [60] (t0 :: l' ++ r) = false := isT_no q2 n2
        unfold baseR
        have w1 : withinR [40] [41] deep (treR d) (t0 :: l' ++ r) = none := by unfold withinR; rw [z1]; rfl
        have w2 : withinR [60] [62] deep (treR d) (t0 :: l' ++ r) = none := by unfold withinR; rw [z2]; rfl
        rw [w1, w2, formula_ok hf hfn hg hp' hnf.1 hnf.2]
        simp [toX]
      have hm := from_base hb (by simp [tkX, heightX, wrapT])
      have hca := from_more hm (by simp [tkX, heightX, wrapT])
      have hbo := from_cat hca (by simp [tkX, heightX, wrapT])
      exact ⟨hb, hm, hca, hbo, from_both hbo (by simp [tkX, heightX, wrapT])⟩
    · -- or
      rw [if_neg (by decide), beq_iff_eq] at r6
      obtain rfl : is = [] := List.eq_nil_of_length_eq_zero r6
      obtain ⟨a, b, rfl⟩ : ∃ a b, of = [a, b] := by
        have : of.length = 2 := r3
        match of, this with
        | [a, b], _ => exact ⟨a, b, rfl⟩
      obtain rfl : i = noSpan := by simpa using r5
      have kid : ∀ x ∈ [a, b], nX n x + 1 ≤ nX (n + 1) (mkX m n (2, [], [a, b], noSpan)) := fun x hx => by
        have := le_sum (nX n) [a, b] x hx
        show nX n x + 1 ≤ 1 + ([a, b].map (nX n)).sum
        omega
      obtain ⟨_, _, _, _, a5⟩ := ih a (by simp)
      obtain ⟨_, _, _, b4, _⟩ := ih b (by simp)
      have core : TreP it (Kids (mkX m n (2, [], [a, b], noSpan))) (mkX m n (2, [], [a, b], noSpan)) := by
        intro d deep g lt r hnf h1 h2 h3 hp
        have hp' : plainT lt = tkX it n a 1 ++ ((3, [124]) :: tkX it n b 2) := by rw [hp]; simp [tkX, heightX, wrapT]
        obtain ⟨la, l2, rfl, p1, p2⟩ := plain_append hp'
        obtain ⟨ts, lb, rfl, q1, q2, q3⟩ := plain_cons p2
        obtain ⟨ka, hka, ea⟩ := a5 d deep (g a (by simp)) la (ts :: (lb ++ r)) (NoF.of q2 (by decide) (by decide)) (isT_no q2 (by decide)) (isT_no q2 (by decide)) (isT_no q2 (by decide)) p1
        obtain ⟨kb, _, eb⟩ := b4 d deep (g b (by simp)) lb r hnf h1 h2 q3
        rw [chain_stop h3] at eb
        obtain ⟨k', hk', e⟩ := pair_core (all := chainP [124] (bothD d deep) (joinX 2)) (k0 := 2) (isT_yes (by rw [q1]; decide) q2) hka ea eb
        exact ⟨k', hk', e⟩
      have hb : BaseP it (In _) _ := bracket core kid (by have := kid a (by simp); omega) (by simp [tkX, heightX, wrapT])
      have hm := from_base hb (by simp [tkX, heightX, wrapT])
      have hca := from_more hm (by simp [tkX, heightX, wrapT])
      have hbo := from_cat hca (by simp [tkX, heightX, wrapT])
      exact ⟨hb, hm, hca, hbo, fun d deep g => core d deep (in_kids kid g)⟩
    · -- and
      rw [if_neg (by decide), beq_iff_eq] at r6
      obtain rfl : is = [] := List.eq_nil_of_length_eq_zero r6
      obtain ⟨a, b, rfl⟩ : ∃ a b, of = [a, b] := by
        have : of.length = 2 := r3
        match of, this with
        | [a, b], _ => exact ⟨a, b, rfl⟩
      obtain rfl : i = noSpan := by simpa using r5
      have kid : ∀ x ∈ [a, b], nX n x + 1 ≤ nX (n + 1) (mkX m n (3, [], [a, b], noSpan)) := fun x hx => by
        have := le_sum (nX n) [a, b] x hx
        show nX n x + 1 ≤ 1 + ([a, b].map (nX n)).sum
        omega
      obtain ⟨_, _, _, a4, _⟩ := ih a (by simp)
      obtain ⟨_, _, b3, _, _⟩ := ih b (by simp)
      have core : BothP it (Kids (mkX m n (3, [], [a, b], noSpan))) (mkX m n (3, [], [a, b], noSpan)) := by
        intro d deep g lt r hnf h1 h2 hp
        have hp' : plainT lt = tkX it n a 2 ++ ((3, [38]) :: tkX it n b 3) := by rw [hp]; simp [tkX, heightX, wrapT]
        obtain ⟨la, l2, rfl, p1, p2⟩ := plain_append hp'
        obtain ⟨ts, lb, rfl, q1, q2, q3⟩ := plain_cons p2
        obtain ⟨ka, hka, ea⟩ := a4 d deep (g a (by simp)) la (ts :: (lb ++ r)) (NoF.of q2 (by decide) (by decide)) (isT_no q2 (by decide)) (isT_no q2 (by decide)) p1
        obtain ⟨kb, _, eb⟩ := b3 d deep (g b (by simp)) lb r hnf h1 q3
        rw [chain_stop h2] at eb
        obtain ⟨k', hk', e⟩ := pair_core (all := bothD d deep) (k0 := 3) (isT_yes (by rw [q1]; decide) q2) hka ea eb
        exact ⟨k', hk', e⟩
      have hbot : BothP it (In _) (mkX m n (3, [], [a, b], noSpan)) := fun d deep g => core d deep (in_kids kid g)
      have hb : BaseP it (In _) _ := bracket (from_both core (by simp [tkX, heightX, wrapT])) kid (by have := kid a (by simp); omega) (by simp [tkX, heightX, wrapT])
      have hm := from_base hb (by simp [tkX, heightX, wrapT])
      exact ⟨hb, hm, from_more hm (by simp [tkX, heightX, wrapT]), hbot, from_both hbot (by simp [tkX, heightX, wrapT])⟩
    · -- one behind the other
      rw [if_neg (by decide), beq_iff_eq] at r6
      obtain rfl : is = [] := List.eq_nil_of_length_eq_zero r6
      obtain ⟨a, b, rfl⟩ : ∃ a b, of = [a, b] := by
        have : of.length = 2 := r3
        match of, this with
        | [a, b], _ => exact ⟨a, b, rfl⟩
      obtain rfl : i = noSpan := by simpa using r5
      have kid : ∀ x ∈ [a, b], nX n x + 1 ≤ nX (n + 1) (mkX m n (4, [], [a, b], noSpan)) := fun x hx => by
        have := le_sum (nX n) [a, b] x hx
        show nX n x + 1 ≤ 1 + ([a, b].map (nX n)).sum
        omega
      obtain ⟨_, _, a3, _, _⟩ := ih a (by simp)
      obtain ⟨_, b2, _, _, _⟩ := ih b (by simp)
      have core : CatP it (Kids (mkX m n (4, [], [a, b], noSpan))) (mkX m n (4, [], [a, b], noSpan)) := by
        intro d deep g lt r hnf h1 hp
        have hp' : plainT lt = tkX it n a 3 ++ ((3, [59]) :: tkX it n b 4) := by rw [hp]; simp [tkX, heightX, wrapT]
        obtain ⟨la, l2, rfl, p1, p2⟩ := plain_append hp'
        obtain ⟨ts, lb, rfl, q1, q2, q3⟩ := plain_cons p2
        obtain ⟨ka, hka, ea⟩ := a3 d deep (g a (by simp)) la (ts :: (lb ++ r)) (NoF.of q2 (by decide) (by decide)) (isT_no q2 (by decide)) p1
        obtain ⟨kb, _, eb⟩ := b2 d deep (g b (by simp)) lb r hnf q3
        rw [plus_stop h1] at eb
        obtain ⟨k', hk', e⟩ := pair_core (all := catD d deep) (k0 := 4) (isT_yes (by rw [q1]; decide) q2) hka ea eb
        exact ⟨k', hk', e⟩
      have hcat : CatP it (In _) (mkX m n (4, [], [a, b], noSpan)) := fun d deep g => core d deep (in_kids kid g)
      have hb : BaseP it (In _) _ := bracket (from_both (from_cat core (by simp [tkX, heightX, wrapT])) (by simp [tkX, heightX, wrapT])) kid (by have := kid a (by simp); omega) (by simp [tkX, heightX, wrapT])
      have hm := from_base hb (by simp [tkX, heightX, wrapT])
      have hbot := from_cat hcat (by simp [tkX, heightX, wrapT])
      exact ⟨hb, hm, hcat, hbot, from_both hbot (by simp [tkX, heightX, wrapT])⟩
    · -- repeated
      rw [if_neg (by decide), beq_iff_eq] at r6
      obtain rfl : is = [] := List.eq_nil_of_length_eq_zero r6
      obtain ⟨a, rfl⟩ := List.length_eq_one_iff.1 (show of.length = 1 from r3)
      obtain rfl : i = noSpan := by simpa using r5
      have kid : ∀ x ∈ [a], nX n x + 1 ≤ nX (n + 1) (mkX m n (5, [], [a], noSpan)) := fun x hx => by
        have := le_sum (nX n) [a] x hx
        show nX n x + 1 ≤ 1 + ([a].map (nX n)).sum
        omega
      obtain ⟨_, a2, _, _, _⟩ := ih a (by simp)
      have core : MoreP it (Kids (mkX m n (5, [], [a], noSpan))) (mkX m n (5, [], [a], noSpan)) := by
        intro d deep g lt r hnf hp
        have hp' : plainT lt = tkX it n a 4 ++ [(3, [43])] := by rw [hp]; simp [tkX, heightX, wrapT]
        obtain ⟨la, l2, rfl, p1, p2⟩ := plain_append hp'
        obtain ⟨ts, l3, rfl, q1, q2, q3⟩ := plain_cons p2
        obtain rfl := plain_nil q3
        obtain ⟨ka, hka, ea⟩ := a2 d deep (g a (by simp)) la (ts :: r) (NoF.of q2 (by decide) (by decide)) p1
        have hs : isT [43] (ts :: r) = true := isT_yes (by rw [q1]; decide) q2
        cases ka with
        | zero => simp at hka
        | succ ka =>
          refine ⟨ka, by simp at hka; omega, ?_⟩
          have e0 : la ++ [ts] ++ r = la ++ (ts :: r) := by simp
          rw [e0, ea, plusR, hs, if_pos rfl]
          simp [toX]
      have hmo : MoreP it (In _) (mkX m n (5, [], [a], noSpan)) := fun d deep g => core d deep (in_kids kid g)
      have hb : BaseP it (In _) _ := bracket (from_both (from_cat (from_more core (by simp [tkX, heightX, wrapT])) (by simp [tkX, heightX, wrapT])) (by simp [tkX, heightX, wrapT])) kid (by have := kid a (by simp); omega) (by simp [tkX, heightX, wrapT])
      have hcat := from_more hmo (by simp [tkX, heightX, wrapT])
      have hbot := from_cat hcat (by simp [tkX, heightX, wrapT])
      exact ⟨hb, hmo, hcat, hbot, from_both hbot (by simp [tkX, heightX, wrapT])⟩
    · -- timed
      rw [if_neg (by decide), beq_iff_eq] at r6
      obtain rfl : is = [] := List.eq_nil_of_length_eq_zero r6
      obtain ⟨a, rfl⟩ := List.length_eq_one_iff.1 (show of.length = 1 from r3)
      have hiv : ivR i ≠ 8 := by simpa using r4
      have kid : ∀ x ∈ [a], nX n x + 1 ≤ nX (n + 1) (mkX m n (6, [], [a], i)) := fun x hx => by
        have := le_sum (nX n) [a] x hx
        show nX n x + 1 ≤ 1 + ([a].map (nX n)).sum
        omega
      have ka := kid a (by simp)
      obtain ⟨_, _, _, _, a5⟩ := ih a (by simp)
      have e01 : tkX it n a 0 = tkX it n a 1 := by
        cases n with
        | zero => exact nomatch a
        | succ n =>
          have h : 1 ≤ heightX a.1 := by unfold heightX; split <;> (try split) <;> (try split) <;> (try split) <;> omega
          have h0 : decide (heightX a.1 < 0) = false := by simp
          have h1 : decide (heightX a.1 < 1) = false := by simp; omega
          rw [tkX, tkX, h0, h1]
      have hb : BaseP it (In (mkX m n (6, [], [a], i))) (mkX m n (6, [], [a], i)) := by
        intro d deep g lt r hnf hp
        have hp' : plainT lt = (3, [60]) :: (tkX it n a 1 ++ ((3, [62]) :: (3, [95]) :: tkI it i)) := by rw [hp]; simp [tkX, heightX, wrapT, e01]
        obtain ⟨t1, l1, rfl, q1, q2, q3⟩ := plain_cons hp'
        obtain ⟨la, l2, rfl, p1, p2⟩ := plain_append q3
        obtain ⟨t2, l3, rfl, s1, s2, s3⟩ := plain_cons p2
        obtain ⟨t3, li, rfl, v1, v2, v3⟩ := plain_cons s3
        obtain ⟨g1, g2⟩ := (show nX (n + 1) (mkX m n (6, [], [a], i)) ≤ d ∧ deep + nX (n + 1) (mkX m n (6, [], [a], i)) ≤ 64 from g)
        have e0 : t1 :: (la ++ t2 :: t3 :: li) ++ r = t1 :: (la ++ (t2 :: (t3 :: (li ++ r)))) := by simp
        rw [e0]
        have z1 : isT [40] (t1 :: (la ++ (t2 :: (t3 :: (li ++ r))))) = false := isT_no q2 (by decide)
        have z2 : isT [60] (t1 :: (la ++ (t2 :: (t3 :: (li ++ r))))) = true := isT_yes (by rw [q1]; decide) q2
        have z3 : isT [62] (t2 :: (t3 :: (li ++ r))) = true := isT_yes (by rw [s1]; decide) s2
        have z4 : isT [95] (t3 :: (li ++ r)) = true := isT_yes (by rw [v1]; decide) v2
        cases d with
        | zero => omega
        | succ d =>
          have ht := tre_done a5 (d := d) (deep := deep + 1) ⟨by omega, by omega⟩ (NoF.of (l := t3 :: (li ++ r)) s2 (by decide) (by decide)) (isT_no s2 (by decide)) (isT_no s2 (by decide)) (isT_no s2 (by decide)) (isT_no s2 (by decide)) p1
          have hi := interval_ok it hit hiv (r := r) v3
          unfold baseR
          have w1 : withinR [40] [41] deep (treR (d + 1)) (t1 :: (la ++ (t2 :: (t3 :: (li ++ r))))) = none := by unfold withinR; rw [z1]; rfl
          have w2 : withinR [60] [62] deep (treR (d + 1)) (t1 :: (la ++ (t2 :: (t3 :: (li ++ r))))) = some (.ok (toX n a, t3 :: (li ++ r))) := by
            unfold withinR
            rw [z2, if_pos rfl, if_neg (by omega)]
            simp only [List.tail_cons, ht, takeT, z3, if_true]
          rw [w1, w2]
          simp only [takeT, z4, if_true, List.tail_cons, hi]
          simp [toX]
      have hm := from_base hb (by simp [tkX, heightX, wrapT])
      have hca := from_more hm (by simp [tkX, heightX, wrapT])
      have hbo := from_cat hca (by simp [tkX, heightX, wrapT])
      exact ⟨hb, hm, hca, hbo, from_both hbo (by simp [tkX, heightX, wrapT])⟩

/-- All the tokens of a printed expression are parsed to it. -/
theorem print_parse (it : Int → List UInt8) (hit : ∀ n, 0 ≤ n → n < 288230376151711744 → digitsV (it n) = n) {m n : Nat} (t : XT m n) (hr : allX rightX n t = true) (hn : allX nmX n t = true) (h64 : nX n t ≤ 64) {l : List Tok} (hp : plainT l = tkX it n t 0) (stop : Int) : allR l stop = .ok (toX n t) := by
  have e01 : tkX it n t 0 = tkX it n t 1 := by
    cases n with
    | zero => exact nomatch t
    | succ n =>
      have h : 1 ≤ heightX t.1 := by unfold heightX; split <;> (try split) <;> (try split) <;> (try split) <;> omega
      have h0 : decide (heightX t.1 < 0) = false := by simp
      have h1 : decide (heightX t.1 < 1) = false := by simp; omega
      rw [tkX, tkX, h0, h1]
  have hend : ∀ s : List UInt8, s ≠ [] → isT s [⟨0, ⟨#[]⟩, stop⟩] = false := fun s hs => isT_no (s' := []) rfl (fun h => hs h.symm)
  have h := tre_done (tre_ok it hit n t hr hn).2.2.2.2 (d := 65) (deep := 0) ⟨by omega, by omega⟩ (r := [⟨0, ⟨#[]⟩, stop⟩]) ⟨hend _ (by decide), hend _ (by decide)⟩ (hend _ (by decide)) (hend _ (by decide)) (hend _ (by decide)) (hend _ (by decide)) (hp.trans e01)
  unfold allR
  rw [h]
  simp
end Go.Proofs.YtpgdplmndnopbaaGreatDoor

/- The text of a printed expression is cut into its tokens. No program. -/
namespace Go.Proofs.YtpgdplmndnopbaaGreatDoor
open Go.RowKit

/-- Tokens of which each may stand right ahead of what follows. -/
def NearR : List Tk → List UInt8 → Prop
  | [], _ => True
  | a :: T, rest => kindOf a.2 = a.1 ∧ a.1 ≠ 0 ∧ apart a.2 (textT T ++ rest) = true ∧ NearR T rest
theorem near_append : ∀ {A B : List Tk} {rest : List UInt8}, NearR A (textT B ++ rest) → NearR B rest → NearR (A ++ B) rest
  | [], _, _, _, h => h
  | a :: A, B, rest, ⟨h1, h2, h3, h4⟩, h => ⟨h1, h2, by show apart a.2 (textT (A ++ B) ++ rest) = true; rw [textT_append, List.append_assoc]; exact h3, near_append h4 h⟩
theorem cut_near : ∀ (T : List Tk), NearR T [] → ∀ a : Nat, ∃ l, cut a (textT T) = .ok l ∧ plainT l = T
  | [], _, a => ⟨[], rfl, rfl⟩
  | x :: T, ⟨h1, h2, h3, h4⟩, a => by
    obtain ⟨l, e, hp⟩ := cut_near T h4 (a + x.2.length)
    rw [List.append_nil] at h3
    refine ⟨⟨kindOf x.2, bsOf x.2, a⟩ :: l, ?_, ?_⟩
    · rw [textT_cons, cut_tok a x.2 (textT T) (by rw [h1]; exact h2) h3, e]; rfl
    · show (kindOf x.2, (bsOf x.2).data.toList) :: plainT l = _
      rw [hp, h1]
      simp [bsOf]
/-- No letter or digit follows. -/
def SR (rest : List UInt8) : Prop := ∀ b r, rest = b :: r → isRow b = false
theorem SR.nil : SR [] := fun _ _ h => by cases h
theorem SR.cons {b : UInt8} {r : List UInt8} (h : isRow b = false) : SR (b :: r) := fun _ _ e => by cases e; exact h
theorem apart_row {s rest : List UInt8} (h : kindOf s = 1 ∨ kindOf s = 2) (hr : SR rest) : apart s rest = true := by
  cases rest with
  | nil => cases s <;> rfl
  | cons b r =>
    have hb := hr b r rfl
    cases s with
    | nil => rfl
    | cons a s =>
      show (if isRow a then !isRow b else !(s == [] && twin a && b == a)) = true
      by_cases ha : isRow a = true
      · rw [if_pos ha, hb]; rfl
      · exfalso
        have e : kindOf (a :: s) = if isSign a && (s == [] || (twin a && s == [a])) then 3 else 0 := by
          show (if isRow a then _ else _) = _
          rw [if_neg ha]
        rw [e] at h
        split at h <;> omega
theorem apart_sign {a : UInt8} {rest : List UInt8} (h : isRow a = false) (ht : twin a = false) : apart [a] rest = true := by
  cases rest with
  | nil => rfl
  | cons b r =>
    show (if isRow a then !isRow b else !(([] : List UInt8) == [] && twin a && b == a)) = true
    rw [h, ht]; simp
theorem apart_two {a b : UInt8} {rest : List UInt8} (h : isRow a = false) : apart [a, b] rest = true := by
  cases rest with
  | nil => rfl
  | cons c r =>
    show (if isRow a then !isRow c else !([b] == [] && twin a && c == a)) = true
    rw [h]; simp
/-- What begins with another byte than a. -/
def HdNe (a : UInt8) (l : List UInt8) : Prop := ∃ b r, l = b :: r ∧ b ≠ a
theorem apart_hd {a : UInt8} {rest : List UInt8} (h : isRow a = false) (hd : HdNe a rest) : apart [a] rest = true := by
  obtain ⟨b, r, rfl, hb⟩ := hd
  show (if isRow a then !isRow b else !(([] : List UInt8) == [] && twin a && b == a)) = true
  have : (b == a) = false := by simpa using hb
  rw [h, this]; simp
theorem name_kind {s : List UInt8} (h : nameB s = true) : kindOf s = 1 := by
  unfold nameB at h
  simp only [Bool.and_eq_true] at h
  rw [← kindB_eq, kindB, if_pos h.1.1.1]
theorem near_one {a : UInt8} {T : List Tk} {rest : List UInt8} (hk : kindOf [a] = 3) (hr : isRow a = false) (ht : twin a = false) (h : NearR T rest) : NearR ((3, [a]) :: T) rest := ⟨hk, (by decide : (3 : Int) ≠ 0), apart_sign hr ht, h⟩
theorem near_wrap {is : Bool} {o c : UInt8} {b : List Tk} {rest : List UInt8} (ho : kindOf [o] = 3 ∧ isRow o = false ∧ twin o = false) (hc : kindOf [c] = 3 ∧ isRow c = false ∧ twin c = false) (hb : ∀ rest, SR rest → NearR b rest) (hr : SR rest) : NearR (wrapT is o c b) rest := by
  unfold wrapT
  split
  · refine near_one ho.1 ho.2.1 ho.2.2 (near_append (hb _ ?_) (near_one hc.1 hc.2.1 hc.2.2 trivial))
    rw [textT_cons, textT_nil]
    exact SR.cons hc.2.1
  · exact hb rest hr

theorem first_hd {T : List Tk} {a : UInt8} (h : ∃ k b s T', T = (k, b :: s) :: T' ∧ b ≠ a) (rest : List UInt8) : HdNe a (textT T ++ rest) := by
  obtain ⟨k, b, s, T', rfl, hb⟩ := h
  exact ⟨b, s ++ textT T' ++ rest, by rw [textT_cons]; simp, hb⟩
theorem nearF : ∀ (n : Nat) (t : FT n) (least : Nat), allF rightB n t = true → allF nmB n t = true → ∀ rest, SR rest → NearR (tkF n t least) rest
  | 0, t, _, _, _ => nomatch t
  | n + 1, t, least, hr, hn => by
    obtain ⟨k, s, of⟩ := t
    have hr' : (rightB k s of.length && of.all (allF rightB n)) = true := hr
    have hn' : (nmB k s of.length && of.all (allF nmB n)) = true := hn
    rw [Bool.and_eq_true, List.all_eq_true] at hr' hn'
    have ih : ∀ x ∈ of, ∀ l rest, SR rest → NearR (tkF n x l) rest := fun x hx l => nearF n x l (hr'.2 x hx) (hn'.2 x hx)
    have h1 := hr'.1
    unfold rightB at h1
    simp only [Bool.and_eq_true, decide_eq_true_eq, beq_iff_eq, Bool.or_eq_true] at h1
    obtain ⟨⟨⟨hk1, hk2⟩, hl⟩, hs⟩ := h1
    intro rest hrest
    rw [tkF_succ]
    refine near_wrap (by decide) (by decide) (fun rest hrest => ?_) hrest
    have hc : k = 1 ∨ k = 2 ∨ k = 3 ∨ k = 4 ∨ k = 5 ∨ k = 6 := by omega
    rcases hc with rfl | rfl | rfl | rfl | rfl | rfl
    · exact ⟨by decide, by decide, apart_row (.inl (by decide)) hrest, trivial⟩
    · exact ⟨by decide, by decide, apart_row (.inl (by decide)) hrest, trivial⟩
    · have hname : nameB s.data.toList = true := by
        have := hn'.1
        unfold nmB at this
        simpa using this
      exact ⟨name_kind hname, (by decide : (1 : Int) ≠ 0), apart_row (.inl (name_kind hname)) hrest, trivial⟩
    · obtain ⟨x, rfl⟩ := List.length_eq_one_iff.1 (show of.length = 1 from hl)
      exact near_one (by decide) (by decide) (by decide) (ih x (by simp) 3 rest hrest)
    · obtain ⟨a, b, rfl⟩ : ∃ a b, of = [a, b] := by
        have : of.length = 2 := hl
        match of, this with
        | [a, b], _ => exact ⟨a, b, rfl⟩
      have : NearR (tkF n a 2 ++ ((3, [38, 38]) :: tkF n b 3)) rest := near_append (ih a (by simp) 2 _ (by rw [textT_cons]; exact SR.cons (by decide))) ⟨by decide, by decide, apart_two (by decide), ih b (by simp) 3 rest hrest⟩
      simpa using this
    · obtain ⟨a, b, rfl⟩ : ∃ a b, of = [a, b] := by
        have : of.length = 2 := hl
        match of, this with
        | [a, b], _ => exact ⟨a, b, rfl⟩
      have : NearR (tkF n a 1 ++ ((3, [124, 124]) :: tkF n b 2)) rest := near_append (ih a (by simp) 1 _ (by rw [textT_cons]; exact SR.cons (by decide))) ⟨by decide, by decide, apart_two (by decide), ih b (by simp) 2 rest hrest⟩
      simpa using this
end Go.Proofs.YtpgdplmndnopbaaGreatDoor

/- The text of a printed expression is cut into its tokens: all of it. No program. -/
namespace Go.Proofs.YtpgdplmndnopbaaGreatDoor
open Go.RowKit

/-- Tokens that begin with neither sign of choice. -/
def Bg (T : List Tk) : Prop := ∃ k b s T', T = (k, b :: s) :: T' ∧ b ≠ 124 ∧ b ≠ 38
theorem Bg.append {A B : List Tk} (h : Bg A) : Bg (A ++ B) := by
  obtain ⟨k, b, s, T', rfl, h1, h2⟩ := h
  exact ⟨k, b, s, T' ++ B, rfl, h1, h2⟩
theorem Bg.hd {T : List Tk} (h : Bg T) (rest : List UInt8) : HdNe 124 (textT T ++ rest) ∧ HdNe 38 (textT T ++ rest) := by
  obtain ⟨k, b, s, T', e, h1, h2⟩ := h
  exact ⟨first_hd ⟨k, b, s, T', e, h1⟩ rest, first_hd ⟨k, b, s, T', e, h2⟩ rest⟩
theorem name_begin {s : List UInt8} (h : nameB s = true) : ∃ b r, s = b :: r ∧ b ≠ 124 ∧ b ≠ 38 := by
  unfold nameB wordB at h
  simp only [Bool.and_eq_true] at h
  cases s with
  | nil => simp at h
  | cons b r =>
    refine ⟨b, r, rfl, ?_, ?_⟩ <;> (rintro rfl; simp [isLow] at h)
theorem begF : ∀ (n : Nat) (t : FT n) (least : Nat), allF rightB n t = true → allF nmB n t = true → Bg (tkF n t least)
  | 0, t, _, _, _ => nomatch t
  | n + 1, t, least, hr, hn => by
    obtain ⟨k, s, of⟩ := t
    have hr' : (rightB k s of.length && of.all (allF rightB n)) = true := hr
    have hn' : (nmB k s of.length && of.all (allF nmB n)) = true := hn
    rw [Bool.and_eq_true, List.all_eq_true] at hr' hn'
    have ih : ∀ x ∈ of, ∀ l, Bg (tkF n x l) := fun x hx l => begF n x l (hr'.2 x hx) (hn'.2 x hx)
    have h1 := hr'.1
    unfold rightB at h1
    simp only [Bool.and_eq_true, decide_eq_true_eq, beq_iff_eq, Bool.or_eq_true] at h1
    obtain ⟨⟨⟨hk1, hk2⟩, hl⟩, hs⟩ := h1
    by_cases hw : lowF k < least
    · rw [tkF_succ, wrapT, if_pos (by simpa using hw)]
      exact ⟨3, 123, [], _, rfl, by decide, by decide⟩
    · have e : ∀ b : List Tk, wrapT (decide (lowF k < least)) 123 125 b = b := fun b => by rw [wrapT, if_neg (by simpa using hw)]
      rw [tkF_succ, e]
      have hc : k = 1 ∨ k = 2 ∨ k = 3 ∨ k = 4 ∨ k = 5 ∨ k = 6 := by omega
      rcases hc with rfl | rfl | rfl | rfl | rfl | rfl
      · exact ⟨1, 116, _, [], rfl, by decide, by decide⟩
      · exact ⟨1, 102, _, [], rfl, by decide, by decide⟩
      · have hname : nameB s.data.toList = true := by
          have := hn'.1
          unfold nmB at this
          simpa using this
        obtain ⟨b, r, e, h1, h2⟩ := name_begin hname
        refine ⟨1, b, r, [], ?_, h1, h2⟩
        show [((1 : Int), s.data.toList)] = _
        rw [e]
      · exact ⟨3, 33, [], _, rfl, by decide, by decide⟩
      · obtain ⟨a, b, rfl⟩ : ∃ a b, of = [a, b] := by
          have : of.length = 2 := hl
          match of, this with
          | [a, b], _ => exact ⟨a, b, rfl⟩
        have := (ih a (by simp) 2).append (B := [(3, [38, 38])] ++ tkF n b 3)
        simpa using this
      · obtain ⟨a, b, rfl⟩ : ∃ a b, of = [a, b] := by
          have : of.length = 2 := hl
          match of, this with
          | [a, b], _ => exact ⟨a, b, rfl⟩
        have := (ih a (by simp) 1).append (B := [(3, [124, 124])] ++ tkF n b 2)
        simpa using this

theorem tkX_succ (it : Int → List UInt8) {m : Nat} (n : Nat) (k : Int) (is : List (FT m)) (of : List (XT m n)) (i : Spn) (least : Nat) : tkX it (n + 1) (k, is, of, i) least = wrapT (decide (heightX k < least)) 40 41
    (if k = 1 then (is.map fun f => tkF m f 0).getD 0 []
     else if k = 5 then (of.map fun x => tkX it n x 4).getD 0 [] ++ [(3, [43])]
     else if k = 6 then (3, [60]) :: (of.map fun x => tkX it n x 0).getD 0 [] ++ [(3, [62]), (3, [95])] ++ tkI it i
     else (of.map fun x => tkX it n x (heightX k)).getD 0 [] ++ [(3, [if k = 2 then 124 else if k = 3 then 38 else 59])] ++ (of.map fun x => tkX it n x (heightX k + 1)).getD 1 []) := rfl

theorem nearI (it : Int → List UInt8) (hk : ∀ n, 0 ≤ n → n < 288230376151711744 → kindOf (it n) = 2) {i : Spn} (h : ivR i ≠ 8) (rest : List UInt8) : NearR (tkI it i) rest := by
  obtain ⟨low, ls, high, hs, op⟩ := i
  have hb : belowC low = true ∧ belowC high = true := by
    unfold ivR at h
    cases e1 : belowC low <;> cases e2 : belowC high <;> simp_all
  obtain ⟨b1, b2⟩ := hb
  unfold belowC at b1 b2
  simp only [Bool.and_eq_true, decide_eq_true_eq] at b1 b2
  have v1 := hk low b1.1 b1.2
  have v2 := hk high b2.1 b2.2
  have hc : ∀ (T : List Tk) (r : List UInt8), SR (textT ((3, [44]) :: T) ++ r) := fun T r => by rw [textT_cons]; exact SR.cons (by decide)
  have hend : NearR (if op = true then [((1 : Int), ([111, 111] : List UInt8)), (3, [41])] else [(2, it high), (3, if hs = true then [41] else [93])]) rest := by
    cases op with
    | true =>
      rw [if_pos rfl]
      exact ⟨by decide, (by decide : (1 : Int) ≠ 0), apart_row (.inl (by decide)) (by rw [textT_cons]; exact SR.cons (by decide)), near_one (by decide) (by decide) (by decide) trivial⟩
    | false =>
      rw [if_neg (by simp)]
      refine ⟨v2, (by decide : (2 : Int) ≠ 0), apart_row (.inr v2) ?_, ?_⟩
      · rw [textT_cons]
        cases hs
        · exact SR.cons (by decide)
        · exact SR.cons (by decide)
      · cases hs
        · exact near_one (by decide) (by decide) (by decide) trivial
        · exact near_one (by decide) (by decide) (by decide) trivial
  have h3 : ∀ T, NearR T rest → NearR ((3, [44]) :: T) rest := fun T hT => near_one (by decide) (by decide) (by decide) hT
  have h2 : ∀ T, NearR T rest → NearR ((2, it low) :: (3, [44]) :: T) rest := fun T hT => ⟨v1, (by decide : (2 : Int) ≠ 0), apart_row (.inr v1) (hc T rest), h3 T hT⟩
  unfold tkI
  dsimp only
  cases ls
  · exact near_one (by decide) (by decide) (by decide) (h2 _ hend)
  · exact near_one (by decide) (by decide) (by decide) (h2 _ hend)

theorem nearX (it : Int → List UInt8) (hk : ∀ n, 0 ≤ n → n < 288230376151711744 → kindOf (it n) = 2) {m : Nat} : ∀ (n : Nat) (t : XT m n) (least : Nat), allX rightX n t = true → allX nmX n t = true → Bg (tkX it n t least) ∧ ∀ rest, SR rest → NearR (tkX it n t least) rest
  | 0, t, _, _, _ => nomatch t
  | n + 1, t, least, hr, hn => by
    obtain ⟨k, is, of, i⟩ := t
    have hr' : (rightX k is of.length i && of.all (allX rightX n)) = true := hr
    have hn' : (nmX k is of.length i && of.all (allX nmX n)) = true := hn
    rw [Bool.and_eq_true, List.all_eq_true] at hr' hn'
    have ih : ∀ x ∈ of, ∀ l, Bg (tkX it n x l) ∧ ∀ rest, SR rest → NearR (tkX it n x l) rest := fun x hx l => nearX it hk n x l (hr'.2 x hx) (hn'.2 x hx)
    have h1 := hr'.1
    unfold rightX at h1
    simp only [Bool.and_eq_true, decide_eq_true_eq, beq_iff_eq] at h1
    obtain ⟨⟨⟨⟨⟨r1, r2⟩, r3⟩, r4⟩, r5⟩, r6⟩ := h1
    have hnm : ∀ f ∈ is, allF nmB m f = true := by
      have := hn'.1
      unfold nmX at this
      rwa [List.all_eq_true] at this
    have key : ∀ b : List Tk, Bg b → (∀ rest, SR rest → NearR b rest) → Bg (wrapT (decide (heightX k < least)) 40 41 b) ∧ ∀ rest, SR rest → NearR (wrapT (decide (heightX k < least)) 40 41 b) rest := by
      intro b hb hn
      refine ⟨?_, fun rest hrest => near_wrap (by decide) (by decide) hn hrest⟩
      unfold wrapT
      split
      · exact ⟨3, 40, [], _, rfl, by decide, by decide⟩
      · exact hb
    rw [tkX_succ]
    have pair : ∀ (s : UInt8) (a b : XT m n) (p q : Nat), a ∈ of → b ∈ of → kindOf [s] = 3 → isRow s = false → (s = 124 ∨ s = 38 ∨ twin s = false) → Bg (tkX it n a p ++ ((3, [s]) :: tkX it n b q)) ∧ ∀ rest, SR rest → NearR (tkX it n a p ++ ((3, [s]) :: tkX it n b q)) rest := by
      intro s a b p q ha hb h1 h2 h3
      refine ⟨(ih a ha p).1.append, fun rest hrest => near_append ((ih a ha p).2 _ (by rw [textT_cons]; exact SR.cons h2)) ⟨h1, (by decide : (3 : Int) ≠ 0), ?_, (ih b hb q).2 rest hrest⟩⟩
      rcases h3 with rfl | rfl | h3
      · exact apart_hd h2 ((ih b hb q).1.hd rest).1
      · exact apart_hd h2 ((ih b hb q).1.hd rest).2
      · exact apart_sign h2 h3
    have hc : k = 1 ∨ k = 2 ∨ k = 3 ∨ k = 4 ∨ k = 5 ∨ k = 6 := by omega
    rcases hc with rfl | rfl | rfl | rfl | rfl | rfl
    · rw [if_pos rfl, Bool.and_eq_true, beq_iff_eq, List.all_eq_true] at r6
      obtain ⟨f, rfl⟩ := List.length_eq_one_iff.1 r6.1
      exact key _ (begF m f 0 (r6.2 f (by simp)) (hnm f (by simp))) (nearF m f 0 (r6.2 f (by simp)) (hnm f (by simp)))
    · obtain ⟨a, b, rfl⟩ : ∃ a b, of = [a, b] := by
        have : of.length = 2 := r3
        match of, this with
        | [a, b], _ => exact ⟨a, b, rfl⟩
      obtain ⟨p1, p2⟩ := pair 124 a b 1 2 (by simp) (by simp) (by decide) (by decide) (by simp)
      exact key _ (by simpa [heightX] using p1) (by simpa [heightX] using p2)
    · obtain ⟨a, b, rfl⟩ : ∃ a b, of = [a, b] := by
        have : of.length = 2 := r3
        match of, this with
        | [a, b], _ => exact ⟨a, b, rfl⟩
      obtain ⟨p1, p2⟩ := pair 38 a b 2 3 (by simp) (by simp) (by decide) (by decide) (by simp)
      exact key _ (by simpa [heightX] using p1) (by simpa [heightX] using p2)
    · obtain ⟨a, b, rfl⟩ : ∃ a b, of = [a, b] := by
        have : of.length = 2 := r3
        match of, this with
        | [a, b], _ => exact ⟨a, b, rfl⟩
      obtain ⟨p1, p2⟩ := pair 59 a b 3 4 (by simp) (by simp) (by decide) (by decide) (.inr (.inr (by decide)))
      exact key _ (by simpa [heightX] using p1) (by simpa [heightX] using p2)
    · obtain ⟨a, rfl⟩ := List.length_eq_one_iff.1 (show of.length = 1 from r3)
      obtain ⟨a1, a2⟩ := ih a (by simp) 4
      have q1 : Bg (tkX it n a 4 ++ [(3, [43])]) := a1.append
      have q2 : ∀ rest, SR rest → NearR (tkX it n a 4 ++ [(3, [43])]) rest := fun rest hrest => near_append (a2 _ (by rw [textT_cons]; exact SR.cons (by decide))) (near_one (by decide) (by decide) (by decide) trivial)
      exact key _ (by simpa using q1) (by simpa using q2)
    · obtain ⟨a, rfl⟩ := List.length_eq_one_iff.1 (show of.length = 1 from r3)
      have hiv : ivR i ≠ 8 := by simpa using r4
      obtain ⟨a1, a2⟩ := ih a (by simp) 0
      have q1 : Bg ((3, [60]) :: (tkX it n a 0 ++ ((3, [62]) :: (3, [95]) :: tkI it i))) := ⟨3, 60, [], _, rfl, by decide, by decide⟩
      have q2 : ∀ rest, SR rest → NearR ((3, [60]) :: (tkX it n a 0 ++ ((3, [62]) :: (3, [95]) :: tkI it i))) rest := fun rest hrest =>
        near_one (by decide) (by decide) (by decide) (near_append (a2 _ (by rw [textT_cons]; exact SR.cons (by decide))) (near_one (by decide) (by decide) (by decide) (near_one (by decide) (by decide) (by decide) (nearI it hk hiv rest))))
      exact key _ (by simpa using q1) (by simpa using q2)

/-- PRINTED, CUT AND PARSED, an expression is itself. -/
theorem print_cut_parse (it : Int → List UInt8) (hit : ∀ n, 0 ≤ n → n < 288230376151711744 → digitsV (it n) = n) (hk : ∀ n, 0 ≤ n → n < 288230376151711744 → kindOf (it n) = 2) {m n : Nat} (t : XT m n) (hr : allX rightX n t = true) (hn : allX nmX n t = true) (h64 : nX n t ≤ 64) (stop : Int) :
    ∃ l, cut 0 (prX it n t 0) = .ok l ∧ allR l stop = .ok (toX n t) := by
  obtain ⟨l, h1, h2⟩ := cut_near (tkX it n t 0) ((nearX it hk n t 0 hr hn).2 [] SR.nil) 0
  exact ⟨l, by rw [prX_text]; exact h1, print_parse it hit t hr hn h64 h2 stop⟩
end Go.Proofs.YtpgdplmndnopbaaGreatDoor

/- Decimal numbers read back; what is printed hangs on the expression alone. No program. -/
namespace Go.Proofs.YtpgdplmndnopbaaGreatDoor
open Go.RowKit

theorem digit_byte (d : Nat) (h : d < 10) : isDig (UInt8.ofNat (48 + d)) = true ∧ (UInt8.ofNat (48 + d)).toNat - 48 = d := by
  match d, h with
  | 0, _ => decide
  | 1, _ => decide
  | 2, _ => decide
  | 3, _ => decide
  | 4, _ => decide
  | 5, _ => decide
  | 6, _ => decide
  | 7, _ => decide
  | 8, _ => decide
  | 9, _ => decide
theorem dec_step (n : Nat) : Lib.decDigits n = if n < 10 then [UInt8.ofNat (48 + n)] else Lib.decDigits (n / 10) ++ [UInt8.ofNat (48 + n % 10)] := by
  rw [Lib.decDigits]
  split <;> rfl
theorem dec_back : ∀ n : Nat, (Lib.decDigits n).all isDig = true ∧ digVal 0 (Lib.decDigits n) = n ∧ Lib.decDigits n ≠ [] := by
  intro n
  induction n using Nat.strongRecOn with
  | _ n ih =>
    rw [dec_step]
    split
    · rename_i h
      obtain ⟨h1, h2⟩ := digit_byte n h
      refine ⟨by simp only [List.all_cons, List.all_nil, h1, Bool.and_true], ?_, by simp⟩
      rw [digVal_cons, h2]; simp [digVal]
    · rename_i h
      obtain ⟨a, b, c⟩ := ih (n / 10) (by omega)
      obtain ⟨h1, h2⟩ := digit_byte (n % 10) (by omega)
      refine ⟨by simp only [List.all_append, a, List.all_cons, List.all_nil, h1, Bool.and_true], ?_, by simp⟩
      rw [digVal_snoc', b, h2]; omega
theorem digitsV_eq (l : List UInt8) (h : l.all isDig = true) : digitsV l = digVal 0 l := by
  have key : ∀ (l : List UInt8) (a : Nat), l.all isDig = true → l.foldl (fun n c => 10 * n + ((c.toNat : Int) - 48)) (a : Int) = (digVal a l : Nat) := by
    intro l
    induction l with
    | nil => intro a _; rfl
    | cons b r ih =>
      intro a h
      rw [List.all_cons, Bool.and_eq_true] at h
      have hb : 48 ≤ b.toNat := by
        have := h.1
        unfold isDig at this
        simp only [Bool.and_eq_true, decide_eq_true_eq] at this
        exact this.1
      rw [List.foldl_cons, digVal_cons, ← ih _ h.2]
      congr 1
      omega
  exact key l 0 h
theorem itoa_digits : ∀ n : Int, 0 ≤ n → n < 288230376151711744 → digitsV (Lib.itoa n) = n := by
  intro n h0 _
  obtain ⟨u, rfl⟩ := Int.eq_ofNat_of_zero_le h0
  rw [Lib.itoa_nonneg]
  obtain ⟨a, b, _⟩ := dec_back u
  rw [digitsV_eq _ a, b]
theorem itoa_kind : ∀ n : Int, 0 ≤ n → n < 288230376151711744 → kindOf (Lib.itoa n) = 2 := by
  intro n h0 hn
  obtain ⟨u, rfl⟩ := Int.eq_ofNat_of_zero_le h0
  rw [Lib.itoa_nonneg]
  obtain ⟨a, b, c⟩ := dec_back u
  have hok : numOk (Lib.decDigits u) = true := (numOk_iff _ c).2 ⟨u, by rw [parse_small _ 0 a (by omega), b], by omega, rfl⟩
  cases e : Lib.decDigits u with
  | nil => exact absurd e c
  | cons x r =>
    rw [e] at a hok
    have ha := a
    rw [List.all_cons, Bool.and_eq_true] at a
    have hrow : ∀ y, isDig y = true → isRow y = true := fun y h => by unfold isRow; rw [h, Bool.or_true]
    have hlow : isLow x = false := by
      have := a.1
      unfold isDig at this
      unfold isLow
      simp only [Bool.and_eq_true, decide_eq_true_eq] at this
      simp; omega
    have hr : r.all isRow = true := by
      rw [List.all_eq_true] at a ⊢
      exact fun y hy => hrow y (a.2 y hy)
    show (if isRow x then (if r.all isRow then (match rowKind (x :: r) with | .ok k => k | .error _ => 0) else 0) else _) = 2
    rw [if_pos (hrow x a.1), if_pos hr]
    have hk : rowKind (x :: r) = .ok 2 := by
      show (if isLow x then _ else (if numOk (x :: r) then Except.ok 2 else Except.error 151)) = _
      rw [if_neg (by simp [hlow]), if_pos hok]
    rw [hk]

/-! ### Printing hangs on the expression alone -/
theorem map_rel {α β γ : Type} {f : α → γ} {g : β → γ} {δ : Type} {p : α → δ} {q : β → δ} : ∀ {l : List α} {r : List β}, l.map f = r.map g → (∀ x ∈ l, ∀ y ∈ r, f x = g y → p x = q y) → l.map p = r.map q
  | [], [], _, _ => rfl
  | [], _ :: _, h, _ => by simp at h
  | _ :: _, [], h, _ => by simp at h
  | x :: l, y :: r, h, H => by
    simp only [List.map_cons, List.cons.injEq] at h ⊢
    exact ⟨H x (by simp) y (by simp) h.1, map_rel h.2 fun a ha b hb => H a (by simp [ha]) b (by simp [hb])⟩
theorem prF_succ (n : Nat) (k : Int) (s : ByteArray) (of : List (FT n)) (least : Nat) : prF (n + 1) (k, s, of) least = wrapP (decide (lowF k < least)) 123 125
    (if k = 1 then [116, 114, 117, 101]
     else if k = 2 then [102, 97, 108, 115, 101]
     else if k = 3 then s.data.toList
     else if k = 4 then 33 :: (of.map fun x => prF n x 3).getD 0 []
     else if k = 5 then (of.map fun x => prF n x 2).getD 0 [] ++ [38, 38] ++ (of.map fun x => prF n x 3).getD 1 []
     else (of.map fun x => prF n x 1).getD 0 [] ++ [124, 124] ++ (of.map fun x => prF n x 2).getD 1 []) := rfl
theorem prX_succ (it : Int → List UInt8) {m : Nat} (n : Nat) (k : Int) (is : List (FT m)) (of : List (XT m n)) (i : Spn) (least : Nat) : prX it (n + 1) (k, is, of, i) least = wrapP (decide (heightX k < least)) 40 41
    (if k = 1 then (is.map fun f => prF m f 0).getD 0 []
     else if k = 5 then (of.map fun x => prX it n x 4).getD 0 [] ++ [43]
     else if k = 6 then 60 :: (of.map fun x => prX it n x 0).getD 0 [] ++ [62, 95] ++ prI it i
     else (of.map fun x => prX it n x (heightX k)).getD 0 [] ++ [if k = 2 then 124 else if k = 3 then 38 else 59] ++ (of.map fun x => prX it n x (heightX k + 1)).getD 1 []) := rfl
theorem prF_same : ∀ (n n' : Nat) (t : FT n) (u : FT n') (l : Nat), toF n t = toF n' u → prF n t l = prF n' u l
  | 0, _, t, _, _, _ => nomatch t
  | _ + 1, 0, _, u, _, _ => nomatch u
  | n + 1, n' + 1, t, u, l, h => by
    obtain ⟨k, s, of⟩ := t
    obtain ⟨k', s', of'⟩ := u
    have h' : F.mk k s (of.map (toF n)) = F.mk k' s' (of'.map (toF n')) := h
    injection h' with h1 h2 h3
    subst h1 h2
    have H : ∀ c, (of.map fun x => prF n x c) = (of'.map fun x => prF n' x c) := fun c => map_rel h3 fun x _ y _ e => prF_same n n' x y c e
    rw [prF_succ, prF_succ, H 1, H 2, H 3]
theorem prX_same (it : Int → List UInt8) {m m' : Nat} : ∀ (n n' : Nat) (t : XT m n) (u : XT m' n') (l : Nat), toX n t = toX n' u → prX it n t l = prX it n' u l
  | 0, _, t, _, _, _ => nomatch t
  | _ + 1, 0, _, u, _, _ => nomatch u
  | n + 1, n' + 1, t, u, l, h => by
    obtain ⟨k, is, of, i⟩ := t
    obtain ⟨k', is', of', i'⟩ := u
    have h' : X.mk k (is.map (toF m)) (of.map (toX n)) i = X.mk k' (is'.map (toF m')) (of'.map (toX n')) i' := h
    injection h' with h1 h2 h3 h4
    subst h1 h4
    have H : ∀ c, (of.map fun x => prX it n x c) = (of'.map fun x => prX it n' x c) := fun c => map_rel h3 fun x _ y _ e => prX_same it n n' x y c e
    have H2 : (is.map fun f => prF m f 0) = (is'.map fun f => prF m' f 0) := map_rel h2 fun x _ y _ e => prF_same m m' x y 0 e
    rw [prX_succ, prX_succ, H 4, H 0, H (heightX k), H (heightX k + 1), H2]
/-- Two that may be have one text just if they are the same. -/
theorem print_apart {m m' n n' : Nat} (t : XT m n) (u : XT m' n') (hr : allX rightX n t = true) (hn : allX nmX n t = true) (h64 : nX n t ≤ 64) (hr' : allX rightX n' u = true) (hn' : allX nmX n' u = true) (h64' : nX n' u ≤ 64) :
    prX Lib.itoa n t 0 = prX Lib.itoa n' u 0 ↔ toX n t = toX n' u := by
  constructor
  · intro h
    obtain ⟨l, h1, h2⟩ := print_cut_parse Lib.itoa itoa_digits itoa_kind t hr hn h64 0
    obtain ⟨l', h1', h2'⟩ := print_cut_parse Lib.itoa itoa_digits itoa_kind u hr' hn' h64' 0
    rw [h, h1'] at h1
    injection h1 with h1
    subst h1
    rw [h2] at h2'
    injection h2'
  · exact prX_same Lib.itoa n n' t u 0
end Go.Proofs.YtpgdplmndnopbaaGreatDoor

/- Whether an expression may be hangs on the expression alone, of whatever depth it is written. No program. -/
namespace Go.Proofs.YtpgdplmndnopbaaGreatDoor
open Go.RowKit

theorem all_map' {α : Type} (p : α → Bool) (l : List α) : l.all p = (l.map p).all id := by rw [List.all_map]; rfl
theorem foldC_map {α : Type} (f : α → Int) (a : Int) (l : List α) : foldC f a l = (l.map f).foldl (fun acc y => wrap64 (acc + y)) a := by unfold foldC; rw [List.foldl_map]
theorem allF_same (so : Int → ByteArray → Nat → Bool) : ∀ (n n' : Nat) (t : FT n) (u : FT n'), toF n t = toF n' u → allF so n t = allF so n' u
  | 0, _, t, _, _ => nomatch t
  | _ + 1, 0, _, u, _ => nomatch u
  | n + 1, n' + 1, t, u, h => by
    obtain ⟨k, s, of⟩ := t
    obtain ⟨k', s', of'⟩ := u
    have h' : F.mk k s (of.map (toF n)) = F.mk k' s' (of'.map (toF n')) := h
    injection h' with h1 h2 h3
    subst h1 h2
    have H : of.map (allF so n) = of'.map (allF so n') := map_rel h3 fun x _ y _ e => allF_same so n n' x y e
    have L : of.length = of'.length := by simpa using congrArg List.length h3
    show (so k s of.length && of.all (allF so n)) = (so k s of'.length && of'.all (allF so n'))
    rw [all_map', all_map' (allF so n'), H, L]
theorem cntF_same : ∀ (n n' : Nat) (t : FT n) (u : FT n'), toF n t = toF n' u → cntF n t = cntF n' u
  | 0, _, t, _, _ => nomatch t
  | _ + 1, 0, _, u, _ => nomatch u
  | n + 1, n' + 1, t, u, h => by
    obtain ⟨k, s, of⟩ := t
    obtain ⟨k', s', of'⟩ := u
    have h' : F.mk k s (of.map (toF n)) = F.mk k' s' (of'.map (toF n')) := h
    injection h' with h1 h2 h3
    have H : of.map (cntF n) = of'.map (cntF n') := map_rel h3 fun x _ y _ e => cntF_same n n' x y e
    show foldC (cntF n) 1 of = foldC (cntF n') 1 of'
    rw [foldC_map, foldC_map, H]
theorem fmsC_same {n n' : Nat} {l : List (FT n)} {l' : List (FT n')} (h : l.map (toF n) = l'.map (toF n')) : fmsC n l = fmsC n' l' := by
  unfold fmsC
  rw [foldC_map, foldC_map, map_rel h fun x _ y _ e => cntF_same n n' x y e]
theorem allX_same {m m' : Nat} {so : Int → List (FT m) → Nat → Spn → Bool} {so' : Int → List (FT m') → Nat → Spn → Bool} (hso : ∀ k is is' l i, is.map (toF m) = is'.map (toF m') → so k is l i = so' k is' l i) :
    ∀ (n n' : Nat) (t : XT m n) (u : XT m' n'), toX n t = toX n' u → allX so n t = allX so' n' u
  | 0, _, t, _, _ => nomatch t
  | _ + 1, 0, _, u, _ => nomatch u
  | n + 1, n' + 1, t, u, h => by
    obtain ⟨k, is, of, i⟩ := t
    obtain ⟨k', is', of', i'⟩ := u
    have h' : X.mk k (is.map (toF m)) (of.map (toX n)) i = X.mk k' (is'.map (toF m')) (of'.map (toX n')) i' := h
    injection h' with h1 h2 h3 h4
    subst h1 h4
    have H : of.map (allX so n) = of'.map (allX so' n') := map_rel h3 fun x _ y _ e => allX_same hso n n' x y e
    have L : of.length = of'.length := by simpa using congrArg List.length h3
    show (so k is of.length i && of.all (allX so n)) = (so' k is' of'.length i && of'.all (allX so' n'))
    rw [all_map', all_map' (allX so' n'), H, L, hso k is is' _ i h2]
theorem cntX_same {m m' : Nat} {one : Int → List (FT m) → Int} {one' : Int → List (FT m') → Int} (ho : ∀ k is is', is.map (toF m) = is'.map (toF m') → one k is = one' k is') :
    ∀ (n n' : Nat) (t : XT m n) (u : XT m' n'), toX n t = toX n' u → cntX one n t = cntX one' n' u
  | 0, _, t, _, _ => nomatch t
  | _ + 1, 0, _, u, _ => nomatch u
  | n + 1, n' + 1, t, u, h => by
    obtain ⟨k, is, of, i⟩ := t
    obtain ⟨k', is', of', i'⟩ := u
    have h' : X.mk k (is.map (toF m)) (of.map (toX n)) i = X.mk k' (is'.map (toF m')) (of'.map (toX n')) i' := h
    injection h' with h1 h2 h3 h4
    subst h1 h4
    have H : of.map (cntX one n) = of'.map (cntX one' n') := map_rel h3 fun x _ y _ e => cntX_same ho n n' x y e
    show foldC (cntX one n) (one k is) of = foldC (cntX one' n') (one' k is') of'
    rw [foldC_map, foldC_map, H, ho k is is' h2]
theorem rightX_same {m m' : Nat} (k : Int) (is : List (FT m)) (is' : List (FT m')) (l : Nat) (i : Spn) (h : is.map (toF m) = is'.map (toF m')) : rightX k is l i = rightX k is' l i := by
  have L : is.length = is'.length := by simpa using congrArg List.length h
  have H : is.map (allF rightB m) = is'.map (allF rightB m') := map_rel h fun x _ y _ e => allF_same rightB m m' x y e
  unfold rightX
  rw [all_map' (allF rightB m), all_map' (allF rightB m'), H, L]
theorem checkR_same {m n m' n' : Nat} (names : List ByteArray) {t : XT m n} {u : XT m' n'} (h : toX n t = toX n' u) : checkR names n t = checkR names n' u := by
  unfold checkR
  have h1 : allX rightX n t = allX rightX n' u := allX_same (fun k is is' l i e => rightX_same k is is' l i e) n n' t u h
  have h2 : manyX n t = manyX n' u := cntX_same (fun k is is' e => by unfold oneX; rw [fmsC_same e]) n n' t u h
  have h3 : allX (namesX names) n t = allX (namesX names) n' u := allX_same (fun k is is' l i e => by
    unfold namesX
    rw [all_map' (allF (declB names) m), all_map' (allF (declB names) m'), map_rel e fun x _ y _ e => allF_same _ m m' x y e]) n n' t u h
  have h4 : allX openX n t = allX openX n' u := allX_same (so := openX) (so' := openX) (fun k is is' l i _ => rfl) n n' t u h
  rw [h1, h2, h3, h4]
end Go.Proofs.YtpgdplmndnopbaaGreatDoor
