/- Texts of formulas and expressions in Lean: what layer 18 computes. No program. -/
import Derived.Test.YtpgdplmndnopbaaGreatDoorMgA
import Derived.Test.YtpgdplmndnopbaaGreatDoorMgC
import Derived.Lib.ItoaMem
import Derived.Test.YtpgdplmndnopbaaGreatDoorMgE
namespace Go.Proofs.YtpgdplmndnopbaaGreatDoor
open Go.RowKit
def lowF (k : Int) : Nat := if k = 6 then 1 else if k = 5 then 2 else 3
def heightX (k : Int) : Nat := if k = 2 then 1 else if k = 3 then 2 else if k = 4 then 3 else if k = 5 then 4 else 5
def wrapP (is : Bool) (o c : UInt8) (b : List UInt8) : List UInt8 := if is then o :: (b ++ [c]) else b
def prF : (n : Nat) → FT n → Nat → List UInt8
 | 0, _, _ => []
 | n + 1, t, least => wrapP (decide (lowF t.1 < least)) 123 125
  (if t.1 = 1 then [116, 114, 117, 101]
   else if t.1 = 2 then [102, 97, 108, 115, 101]
   else if t.1 = 3 then t.2.1.data.toList
   else if t.1 = 4 then 33 :: (t.2.2.map fun x => prF n x 3).getD 0 []
   else if t.1 = 5 then (t.2.2.map fun x => prF n x 2).getD 0 [] ++ [38, 38] ++ (t.2.2.map fun x => prF n x 3).getD 1 []
   else (t.2.2.map fun x => prF n x 1).getD 0 [] ++ [124, 124] ++ (t.2.2.map fun x => prF n x 2).getD 1 [])
def prI (it : Int → List UInt8) (i : Spn) : List UInt8 :=
 (if i.ls then [40] else [91]) ++ it i.low ++ [44] ++ (if i.op then [111, 111, 41] else it i.high ++ (if i.hs then [41] else [93]))
def prX (it : Int → List UInt8) {m : Nat} : (n : Nat) → XT m n → Nat → List UInt8
 | 0, _, _ => []
 | n + 1, t, least => wrapP (decide (heightX t.1 < least)) 40 41
  (if t.1 = 1 then (t.2.1.map fun f => prF m f 0).getD 0 []
   else if t.1 = 5 then (t.2.2.1.map fun x => prX it n x 4).getD 0 [] ++ [43]
   else if t.1 = 6 then 60 :: (t.2.2.1.map fun x => prX it n x 0).getD 0 [] ++ [62, 95] ++ prI it t.2.2.2
   else (t.2.2.1.map fun x => prX it n x (heightX t.1)).getD 0 [] ++ [if t.1 = 2 then 124 else if t.1 = 3 then 38 else 59] ++ (t.2.2.1.map fun x => prX it n x (heightX t.1 + 1)).getD 1 [])
end Go.Proofs.YtpgdplmndnopbaaGreatDoor

/- The tokens of a printed expression: its text is theirs, one behind the other. No program. -/
namespace Go.Proofs.YtpgdplmndnopbaaGreatDoor
open Go.RowKit
end Go.Proofs.YtpgdplmndnopbaaGreatDoor

/- Plain laws of layer 16: what is not great is counted without a turn of the machine's numbers; each part of what may be may be. No program. -/
namespace Go.Proofs.YtpgdplmndnopbaaGreatDoor
open Go.RowKit
def nF : (n : Nat) → FT n → Nat
 | 0, _ => 1
 | n + 1, t => 1 + (t.2.2.map (nF n)).sum
def tF : (n : Nat) → FT n → Nat
 | 0, _ => 1
 | n + 1, t => 1 + t.2.1.size + (t.2.2.map (tF n)).sum
def nX {m : Nat} : (n : Nat) → XT m n → Nat
 | 0, _ => 1
 | n + 1, t => (if t.1 = 1 then (t.2.1.map (nF m)).sum else 1) + (t.2.2.1.map (nX n)).sum
def tX {m : Nat} : (n : Nat) → XT m n → Nat
 | 0, _ => 1
 | n + 1, t => 1 + (t.2.1.map (tF m)).sum + (t.2.2.1.map (tX n)).sum
theorem sum_le {α : Type} (f g : α → Nat) : ∀ l : List α, (∀ x ∈ l, f x ≤ g x) → (l.map f).sum ≤ (l.map g).sum
 | [], _ => by simp
 | x :: r, h => by
  have h1 := h x (by simp)
  have h2 := sum_le f g r (fun y hy => h y (by simp [hy]))
  simp only [List.map_cons, List.sum_cons]; omega
theorem le_sum {α : Type} (f : α → Nat) : ∀ (l : List α) (x : α), x ∈ l → f x ≤ (l.map f).sum
 | y :: r, x, h => by
  simp only [List.map_cons, List.sum_cons]
  rcases List.mem_cons.1 h with rfl | h
  ·omega
  ·have := le_sum f r x h; omega
theorem szL_le {α : Type} (f : α → Int → Int) (g : α → Nat) (most : Int) (hm : 0 ≤ most ∧ most ≤ 2000) : ∀ (l : List α) (n : Int),
 (∀ x ∈ l, ∀ k, 0 ≤ k → k ≤ 2000 → f x k ≤ k + 281474976710657 ∧ 1 ≤ f x k ∧ (f x k ≤ k → f x k = g x)) → 0 ≤ n → n ≤ most + 281474976710657 →
 szL f most l n ≤ most + 281474976710657 ∧ n ≤ szL f most l n ∧ (szL f most l n ≤ most → szL f most l n = n + (l.map g).sum)
 | [], n, _, h0, h1 => ⟨h1, by simp [szL], by simp [szL]⟩
 | x :: r, n, H, h0, h1 => by
  rw [szL]
  split
  ·rename_i hn
   have hw : wrap64 (most - n) = most - n := by unfold wrap64; omega
   obtain ⟨a1, a2, a3⟩ := H x (by simp) (most - n) (by omega) (by omega)
   rw [hw]
   have hw2 : wrap64 (n + f x (most - n)) = n + f x (most - n) := by unfold wrap64; omega
   rw [hw2]
   obtain ⟨b1, b2, b3⟩ := szL_le f g most hm r (n + f x (most - n)) (fun y hy => H y (by simp [hy])) (by omega) (by omega)
   refine ⟨b1, by omega, fun h => ?_⟩
   rw [b3 h, a3 (by omega)]
   simp only [List.map_cons, List.sum_cons]; push_cast; omega
  ·exact ⟨h1, by omega, fun h => absurd h (by omega)⟩
theorem sizeF_le : ∀ (n : Nat) (t : FT n), bndF n t → ∀ k : Int, 0 ≤ k → k ≤ 2000 → sizeF n t k ≤ k + 281474976710657 ∧ 1 ≤ sizeF n t k ∧ (sizeF n t k ≤ k → sizeF n t k = tF n t)
 | 0, t, _ => nomatch t
 | n + 1, t, h => fun k h0 h1 => by
  have hs := h.1
  rw [sizeF]
  have hw : wrap64 (1 + (t.2.1.size : Int)) = 1 + t.2.1.size := by unfold wrap64; omega
  rw [hw]
  obtain ⟨a, b, c⟩ := szL_le (sizeF n) (tF n) k ⟨h0, h1⟩ t.2.2 (1 + t.2.1.size) (fun x hx => sizeF_le n x (h.2 x hx)) (by omega) (by omega)
  refine ⟨a, by omega, fun hh => ?_⟩
  rw [c hh, tF]; push_cast; omega
theorem sizeX_le {m : Nat} : ∀ (n : Nat) (t : XT m n), bndX n t → ∀ k : Int, 0 ≤ k → k ≤ 2000 → sizeX n t k ≤ k + 281474976710657 ∧ 1 ≤ sizeX n t k ∧ (sizeX n t k ≤ k → sizeX n t k = tX n t)
 | 0, t, _ => nomatch t
 | n + 1, t, h => fun k h0 h1 => by
  rw [sizeX]
  obtain ⟨a, b, c⟩ := szL_le (sizeF m) (tF m) k ⟨h0, h1⟩ t.2.1 1 (fun x hx => sizeF_le m x (h.1 x hx)) (by omega) (by omega)
  obtain ⟨a', b', c'⟩ := szL_le (sizeX n) (tX n) k ⟨h0, h1⟩ t.2.2.1 (szL (sizeF m) k t.2.1 1) (fun x hx => sizeX_le n x (h.2 x hx)) (by omega) (by omega)
  refine ⟨a', by omega, fun hh => ?_⟩
  have := c (by omega)
  rw [c' hh, tX]; push_cast; omega
theorem nF_le : ∀ (n : Nat) (t : FT n), nF n t ≤ tF n t
 | 0, t => nomatch t
 | n + 1, t => by
  have := sum_le (nF n) (tF n) t.2.2 (fun x _ => nF_le n x)
  rw [nF, tF]; omega
theorem nX_le {m : Nat} : ∀ (n : Nat) (t : XT m n), nX n t ≤ tX n t
 | 0, t => nomatch t
 | n + 1, t => by
  have h1 := sum_le (nX n) (tX n) t.2.2.1 (fun x _ => nX_le n x)
  have h2 := sum_le (nF m) (tF m) t.2.1 (fun x _ => nF_le m x)
  rw [nX, tX]; split <;> omega
theorem foldC_sum {α : Type} (f : α → Int) (g : α → Nat) : ∀ (l : List α) (a : Nat), (∀ x ∈ l, f x = g x) → a + (l.map g).sum ≤ 1000000 → foldC f a l = ((a + (l.map g).sum : Nat) : Int)
 | [], a, _, _ => by simp [foldC]
 | x :: r, a, H, h => by
  simp only [List.map_cons, List.sum_cons] at h ⊢
  have h1 := H x (by simp)
  have hw : wrap64 ((a : Int) + f x) = ((a + g x : Nat) : Int) := by rw [h1]; unfold wrap64; omega
  show foldC f (wrap64 ((a : Int) + f x)) r = _
  rw [hw, foldC_sum f g r (a + g x) (fun y hy => H y (by simp [hy])) (by omega)]
  congr 1; omega
theorem cntF_n : ∀ (n : Nat) (t : FT n), nF n t ≤ 1000000 → cntF n t = nF n t
 | 0, t, _ => nomatch t
 | n + 1, t, h => by
  rw [nF] at h
  have := foldC_sum (cntF n) (nF n) t.2.2 1 (fun x hx => cntF_n n x (by have := le_sum (nF n) t.2.2 x hx; omega)) h
  rw [cntF, nF]; exact this
theorem fmsC_n {n : Nat} (l : List (FT n)) (h : (l.map (nF n)).sum ≤ 1000000) : fmsC n l = ((l.map (nF n)).sum : Nat) := by
 have := foldC_sum (cntF n) (nF n) l 0 (fun x hx => cntF_n n x (by have := le_sum (nF n) l x hx; omega)) (by omega)
 rw [Nat.zero_add] at this
 exact this
theorem manyX_n {m : Nat} : ∀ (n : Nat) (t : XT m n), nX n t ≤ 1000000 → manyX n t = nX n t
 | 0, t, _ => nomatch t
 | n + 1, t, h => by
  rw [nX] at h
  have key : (oneX t.1 t.2.1 : Int) = ((if t.1 = 1 then (t.2.1.map (nF m)).sum else 1 : Nat) : Int) := by
   unfold oneX
   split
   ·rename_i h1
    rw [if_pos h1] at h
    exact fmsC_n _ (by omega)
   ·rfl
  have := foldC_sum (cntX oneX n) (nX n) t.2.2.1 _ (fun x hx => manyX_n n x (by have := le_sum (nX n) t.2.2.1 x hx; omega)) h
  rw [nX]
  show foldC (cntX oneX n) (oneX t.1 t.2.1) t.2.2.1 = _
  rw [key]; exact this
theorem checkR_zero {m : Nat} {names : List ByteArray} {n : Nat} {x : XT m n} : checkR names n x = 0 ↔ namesR names = 0 ∧ allX rightX n x = true ∧ manyX n x ≤ 64 ∧ allX (namesX names) n x = true ∧ allX openX n x = true := by
 unfold checkR
 by_cases h1 : namesR names = 0
 ·cases h2 : allX rightX n x
  ·simp [h1]
  ·by_cases h3 : 64 < manyX n x
   ·have : ¬ manyX n x ≤ 64 := by omega
    simp [h1, h3, this]
   ·cases h4 : allX (namesX names) n x
    ·simp [h1, h3]
    ·cases h5 : allX openX n x
     ·simp [h1, h3]
     ·simp [h1, h3]; omega
 ·simp [h1]
end Go.Proofs.YtpgdplmndnopbaaGreatDoor
/- Plain: names that are not great are short ones. No program. -/
namespace Go.Proofs.YtpgdplmndnopbaaGreatDoor
open Go.RowKit
def gnGo : List ByteArray → Int → Int
 | [], n => n
 | s :: r, n => if n < 10000 then gnGo r (wrap64 (wrap64 (n + 1) + s.size)) else n
def greatN (l : List ByteArray) : Bool := decide (5000 < gnGo l 0)
theorem gnGo_drop (l : List ByteArray) (k : Nat) (n : Int) (h : k < l.length) (hn : n < 10000) : gnGo (l.drop k) n = gnGo (l.drop (k + 1)) (wrap64 (wrap64 (n + 1) + l[k].size)) := by
 rw [List.drop_eq_getElem_cons h, gnGo, if_pos hn]
theorem gnGo_stop (l : List ByteArray) (n : Int) (hn : ¬ n < 10000) : gnGo l n = n := by
 cases l with
 | nil => rfl
 | cons x r => rw [gnGo, if_neg hn]
theorem gnGo_end (l : List ByteArray) (n : Int) : gnGo (l.drop l.length) n = n := by rw [List.drop_length]; rfl
theorem gnGo_le : ∀ (l : List ByteArray) (n : Int), (∀ s ∈ l, s.size ≤ 281474976710656) → 0 ≤ n → n ≤ 300000000000000 → n ≤ gnGo l n ∧ (gnGo l n ≤ 5000 → ∀ s ∈ l, s.size ≤ 5000)
 | [], n, _, _, _ => ⟨by simp [gnGo], fun _ s hs => absurd hs (by simp)⟩
 | x :: r, n, H, h0, h1 => by
  rw [gnGo]
  split
  ·rename_i hn
   have hx := H x (by simp)
   have hw : wrap64 (wrap64 (n + 1) + x.size) = n + 1 + x.size := by unfold wrap64; omega
   rw [hw]
   obtain ⟨a, b⟩ := gnGo_le r (n + 1 + x.size) (fun s hs => H s (by simp [hs])) (by omega) (by omega)
   refine ⟨by omega, fun h s hs => ?_⟩
   rcases List.mem_cons.1 hs with rfl | hs
   ·omega
   ·exact b h s hs
  ·rename_i hn
   exact ⟨Int.le_refl _, fun h => absurd h (by omega)⟩
theorem greatN_not {l : List ByteArray} (h : greatN l = false) (H : ∀ s ∈ l, s.size ≤ 281474976710656) : ∀ s ∈ l, s.size ≤ 1048576 := by
 intro s hs
 have h1 : gnGo l 0 ≤ 5000 := by unfold greatN at h; simpa using h
 have := (gnGo_le l 0 H (by omega) (by omega)).2 h1 s hs
 omega
end Go.Proofs.YtpgdplmndnopbaaGreatDoor

/- What is printed is parsed: formulas. No program. -/
namespace Go.Proofs.YtpgdplmndnopbaaGreatDoor
open Go.RowKit
def nmB (k : Int) (s : ByteArray) (_ : Nat) : Bool := k != 3 || nameB s.data.toList
abbrev oneD (d deep : Nat) (l : List Tok) : PRes F := oneR (formR d) deep (l.length + 1) l
abbrev andD (d deep : Nat) : List Tok → PRes F := chainP [38, 38] (oneD d deep) fun a b => .mk 5 ⟨#[]⟩ [a, b]
theorem formR_succ (d deep : Nat) (l : List Tok) : formR (d + 1) deep l = chainP [124, 124] (andD d deep) (fun a b => .mk 6 ⟨#[]⟩ [a, b]) l := rfl
end Go.Proofs.YtpgdplmndnopbaaGreatDoor

/- What is printed is parsed: expressions. No program. -/
namespace Go.Proofs.YtpgdplmndnopbaaGreatDoor
open Go.RowKit
end Go.Proofs.YtpgdplmndnopbaaGreatDoor

/- What is printed is parsed: expressions, from the inside to the outside. No program. -/
namespace Go.Proofs.YtpgdplmndnopbaaGreatDoor
open Go.RowKit
abbrev catD (d deep : Nat) : List Tok → PRes X := chainP [59] (moreR (treR d) deep) (joinX 4)
abbrev bothD (d deep : Nat) : List Tok → PRes X := chainP [38] (catD d deep) (joinX 3)
theorem treR_succ (d deep : Nat) (l : List Tok) : treR (d + 1) deep l = chainP [124] (bothD d deep) (joinX 2) l := rfl
section
variable (it : Int → List UInt8) {m n : Nat} (P : Nat → Nat → Prop) (t : XT m n)
variable {it P t}
end
end Go.Proofs.YtpgdplmndnopbaaGreatDoor

/- What is printed is parsed: every expression that is made right and whose names may be. No program. -/
namespace Go.Proofs.YtpgdplmndnopbaaGreatDoor
open Go.RowKit
def nmX {m : Nat} (_ : Int) (is : List (FT m)) (_ : Nat) (_ : Spn) : Bool := is.all (allF nmB m)
end Go.Proofs.YtpgdplmndnopbaaGreatDoor

/- The text of a printed expression is cut into its tokens. No program. -/
namespace Go.Proofs.YtpgdplmndnopbaaGreatDoor
open Go.RowKit
end Go.Proofs.YtpgdplmndnopbaaGreatDoor

/- The text of a printed expression is cut into its tokens: all of it. No program. -/
namespace Go.Proofs.YtpgdplmndnopbaaGreatDoor
open Go.RowKit
end Go.Proofs.YtpgdplmndnopbaaGreatDoor

/- Decimal numbers read back; what is printed hangs on the expression alone. No program. -/
namespace Go.Proofs.YtpgdplmndnopbaaGreatDoor
open Go.RowKit
/-! ### Printing hangs on the expression alone -/
theorem map_rel {α β γ : Type} {f : α → γ} {g : β → γ} {δ : Type} {p : α → δ} {q : β → δ} : ∀ {l : List α} {r : List β}, l.map f = r.map g → (∀ x ∈ l, ∀ y ∈ r, f x = g y → p x = q y) → l.map p = r.map q
 | [], [], _, _ => rfl
 | [], _ :: _, h, _ => by simp at h
 | _ :: _, [], h, _ => by simp at h
 | x :: l, y :: r, h, H => by
  simp only [List.map_cons, List.cons.injEq] at h ⊢
  exact ⟨H x (by simp) y (by simp) h.1, map_rel h.2 fun a ha b hb => H a (by simp [ha]) b (by simp [hb])⟩
theorem prF_succ (n : Nat) (k : Int) (s : ByteArray) (of : List (FT n)) (least : Nat) : prF (n + 1) (k, s, of) least = wrapP (decide (lowF k < least)) 123 125
 (if k = 1 then [116, 114, 117, 101]
  else if k = 2 then [102, 97, 108, 115, 101]
  else if k = 3 then s.data.toList
  else if k = 4 then 33 :: (of.map fun x => prF n x 3).getD 0 []
  else if k = 5 then (of.map fun x => prF n x 2).getD 0 [] ++ [38, 38] ++ (of.map fun x => prF n x 3).getD 1 []
  else (of.map fun x => prF n x 1).getD 0 [] ++ [124, 124] ++ (of.map fun x => prF n x 2).getD 1 []) := rfl
theorem prX_succ (it : Int → List UInt8) {m : Nat} (n : Nat) (k : Int) (is : List (FT m)) (of : List (XT m n)) (i : Spn) (least : Nat) : prX it (n + 1) (k, is, of, i) least = wrapP (decide (heightX k < least)) 40 41
 (if k = 1 then (is.map fun f => prF m f 0).getD 0 []
  else if k = 5 then (of.map fun x => prX it n x 4).getD 0 [] ++ [43]
  else if k = 6 then 60 :: (of.map fun x => prX it n x 0).getD 0 [] ++ [62, 95] ++ prI it i
  else (of.map fun x => prX it n x (heightX k)).getD 0 [] ++ [if k = 2 then 124 else if k = 3 then 38 else 59] ++ (of.map fun x => prX it n x (heightX k + 1)).getD 1 []) := rfl
theorem prF_same : ∀ (n n' : Nat) (t : FT n) (u : FT n') (l : Nat), toF n t = toF n' u → prF n t l = prF n' u l
 | 0, _, t, _, _, _ => nomatch t
 | _ + 1, 0, _, u, _, _ => nomatch u
 | n + 1, n' + 1, t, u, l, h => by
  obtain ⟨k, s, of⟩ := t
  obtain ⟨k', s', of'⟩ := u
  have h' : F.mk k s (of.map (toF n)) = F.mk k' s' (of'.map (toF n')) := h
  injection h' with h1 h2 h3
  subst h1 h2
  have H : ∀ c, (of.map fun x => prF n x c) = (of'.map fun x => prF n' x c) := fun c => map_rel h3 fun x _ y _ e => prF_same n n' x y c e
  rw [prF_succ, prF_succ, H 1, H 2, H 3]
theorem prX_same (it : Int → List UInt8) {m m' : Nat} : ∀ (n n' : Nat) (t : XT m n) (u : XT m' n') (l : Nat), toX n t = toX n' u → prX it n t l = prX it n' u l
 | 0, _, t, _, _, _ => nomatch t
 | _ + 1, 0, _, u, _, _ => nomatch u
 | n + 1, n' + 1, t, u, l, h => by
  obtain ⟨k, is, of, i⟩ := t
  obtain ⟨k', is', of', i'⟩ := u
  have h' : X.mk k (is.map (toF m)) (of.map (toX n)) i = X.mk k' (is'.map (toF m')) (of'.map (toX n')) i' := h
  injection h' with h1 h2 h3 h4
  subst h1 h4
  have H : ∀ c, (of.map fun x => prX it n x c) = (of'.map fun x => prX it n' x c) := fun c => map_rel h3 fun x _ y _ e => prX_same it n n' x y c e
  have H2 : (is.map fun f => prF m f 0) = (is'.map fun f => prF m' f 0) := map_rel h2 fun x _ y _ e => prF_same m m' x y 0 e
  rw [prX_succ, prX_succ, H 4, H 0, H (heightX k), H (heightX k + 1), H2]
end Go.Proofs.YtpgdplmndnopbaaGreatDoor

/- Whether an expression may be hangs on the expression alone, of whatever depth it is written. No program. -/
namespace Go.Proofs.YtpgdplmndnopbaaGreatDoor
open Go.RowKit
theorem all_map' {α : Type} (p : α → Bool) (l : List α) : l.all p = (l.map p).all id := by rw [List.all_map]; rfl
theorem foldC_map {α : Type} (f : α → Int) (a : Int) (l : List α) : foldC f a l = (l.map f).foldl (fun acc y => wrap64 (acc + y)) a := by unfold foldC; rw [List.foldl_map]
theorem allF_same (so : Int → ByteArray → Nat → Bool) : ∀ (n n' : Nat) (t : FT n) (u : FT n'), toF n t = toF n' u → allF so n t = allF so n' u
 | 0, _, t, _, _ => nomatch t
 | _ + 1, 0, _, u, _ => nomatch u
 | n + 1, n' + 1, t, u, h => by
  obtain ⟨k, s, of⟩ := t
  obtain ⟨k', s', of'⟩ := u
  have h' : F.mk k s (of.map (toF n)) = F.mk k' s' (of'.map (toF n')) := h
  injection h' with h1 h2 h3
  subst h1 h2
  have H : of.map (allF so n) = of'.map (allF so n') := map_rel h3 fun x _ y _ e => allF_same so n n' x y e
  have L : of.length = of'.length := by simpa using congrArg List.length h3
  show (so k s of.length && of.all (allF so n)) = (so k s of'.length && of'.all (allF so n'))
  rw [all_map', all_map' (allF so n'), H, L]
theorem cntF_same : ∀ (n n' : Nat) (t : FT n) (u : FT n'), toF n t = toF n' u → cntF n t = cntF n' u
 | 0, _, t, _, _ => nomatch t
 | _ + 1, 0, _, u, _ => nomatch u
 | n + 1, n' + 1, t, u, h => by
  obtain ⟨k, s, of⟩ := t
  obtain ⟨k', s', of'⟩ := u
  have h' : F.mk k s (of.map (toF n)) = F.mk k' s' (of'.map (toF n')) := h
  injection h' with h1 h2 h3
  have H : of.map (cntF n) = of'.map (cntF n') := map_rel h3 fun x _ y _ e => cntF_same n n' x y e
  show foldC (cntF n) 1 of = foldC (cntF n') 1 of'
  rw [foldC_map, foldC_map, H]
theorem fmsC_same {n n' : Nat} {l : List (FT n)} {l' : List (FT n')} (h : l.map (toF n) = l'.map (toF n')) : fmsC n l = fmsC n' l' := by
 unfold fmsC
 rw [foldC_map, foldC_map, map_rel h fun x _ y _ e => cntF_same n n' x y e]
theorem allX_same {m m' : Nat} {so : Int → List (FT m) → Nat → Spn → Bool} {so' : Int → List (FT m') → Nat → Spn → Bool} (hso : ∀ k is is' l i, is.map (toF m) = is'.map (toF m') → so k is l i = so' k is' l i) :
 ∀ (n n' : Nat) (t : XT m n) (u : XT m' n'), toX n t = toX n' u → allX so n t = allX so' n' u
 | 0, _, t, _, _ => nomatch t
 | _ + 1, 0, _, u, _ => nomatch u
 | n + 1, n' + 1, t, u, h => by
  obtain ⟨k, is, of, i⟩ := t
  obtain ⟨k', is', of', i'⟩ := u
  have h' : X.mk k (is.map (toF m)) (of.map (toX n)) i = X.mk k' (is'.map (toF m')) (of'.map (toX n')) i' := h
  injection h' with h1 h2 h3 h4
  subst h1 h4
  have H : of.map (allX so n) = of'.map (allX so' n') := map_rel h3 fun x _ y _ e => allX_same hso n n' x y e
  have L : of.length = of'.length := by simpa using congrArg List.length h3
  show (so k is of.length i && of.all (allX so n)) = (so' k is' of'.length i && of'.all (allX so' n'))
  rw [all_map', all_map' (allX so' n'), H, L, hso k is is' _ i h2]
theorem cntX_same {m m' : Nat} {one : Int → List (FT m) → Int} {one' : Int → List (FT m') → Int} (ho : ∀ k is is', is.map (toF m) = is'.map (toF m') → one k is = one' k is') :
 ∀ (n n' : Nat) (t : XT m n) (u : XT m' n'), toX n t = toX n' u → cntX one n t = cntX one' n' u
 | 0, _, t, _, _ => nomatch t
 | _ + 1, 0, _, u, _ => nomatch u
 | n + 1, n' + 1, t, u, h => by
  obtain ⟨k, is, of, i⟩ := t
  obtain ⟨k', is', of', i'⟩ := u
  have h' : X.mk k (is.map (toF m)) (of.map (toX n)) i = X.mk k' (is'.map (toF m')) (of'.map (toX n')) i' := h
  injection h' with h1 h2 h3 h4
  subst h1 h4
  have H : of.map (cntX one n) = of'.map (cntX one' n') := map_rel h3 fun x _ y _ e => cntX_same ho n n' x y e
  show foldC (cntX one n) (one k is) of = foldC (cntX one' n') (one' k is') of'
  rw [foldC_map, foldC_map, H, ho k is is' h2]
theorem rightX_same {m m' : Nat} (k : Int) (is : List (FT m)) (is' : List (FT m')) (l : Nat) (i : Spn) (h : is.map (toF m) = is'.map (toF m')) : rightX k is l i = rightX k is' l i := by
 have L : is.length = is'.length := by simpa using congrArg List.length h
 have H : is.map (allF rightB m) = is'.map (allF rightB m') := map_rel h fun x _ y _ e => allF_same rightB m m' x y e
 unfold rightX
 rw [all_map' (allF rightB m), all_map' (allF rightB m'), H, L]
theorem checkR_same {m n m' n' : Nat} (names : List ByteArray) {t : XT m n} {u : XT m' n'} (h : toX n t = toX n' u) : checkR names n t = checkR names n' u := by
 unfold checkR
 have h1 : allX rightX n t = allX rightX n' u := allX_same (fun k is is' l i e => rightX_same k is is' l i e) n n' t u h
 have h2 : manyX n t = manyX n' u := cntX_same (fun k is is' e => by unfold oneX; rw [fmsC_same e]) n n' t u h
 have h3 : allX (namesX names) n t = allX (namesX names) n' u := allX_same (fun k is is' l i e => by
  unfold namesX
  rw [all_map' (allF (declB names) m), all_map' (allF (declB names) m'), map_rel e fun x _ y _ e => allF_same _ m m' x y e]) n n' t u h
 have h4 : allX openX n t = allX openX n' u := allX_same (so := openX) (so' := openX) (fun k is is' l i _ => rfl) n n' t u h
 rw [h1, h2, h3, h4]
end Go.Proofs.YtpgdplmndnopbaaGreatDoor
