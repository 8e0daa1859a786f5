/- Formulas and expressions as trees in Lean: what layer 16 computes of them. No program. -/
import Derived.WalkKit
import Derived.Test.YtabpfbgcdmejbaaDoorLexB
namespace Go.Proofs.YtabpfbgcdmejbaaDoor
open Go.RowKit

/-- A formula of depth at most n: kind, name, parts. -/
def FT : Nat → Type
  | 0 => Empty
  | n + 1 => Int × ByteArray × List (FT n)
structure Spn where
  low : Int
  ls : Bool
  high : Int
  hs : Bool
  op : Bool
  deriving DecidableEq
/-- An expression of depth at most n, its formulas of depth at most m: kind, formulas, parts, interval. -/
def XT (m : Nat) : Nat → Type
  | 0 => Empty
  | n + 1 => Int × List (FT m) × List (XT m n) × Spn

def allF (so : Int → ByteArray → Nat → Bool) : (n : Nat) → FT n → Bool
  | 0, _ => true
  | n + 1, t => so t.1 t.2.1 t.2.2.length && t.2.2.all (allF so n)
def manyOf (k : Int) : Nat := if k = 4 then 1 else if k = 5 ∨ k = 6 then 2 else 0
def rightB (k : Int) (s : ByteArray) (l : Nat) : Bool := decide (1 ≤ k) && decide (k ≤ 6) && (l == manyOf k) && (decide (s.size = 0) || k == 3)
def inN (s : ByteArray) (names : List ByteArray) : Bool := names.any fun x => s.toList == x.toList
def declB (names : List ByteArray) (k : Int) (s : ByteArray) (_ : Nat) : Bool := k != 3 || inN s names

/-- One behind the other: what each adds, as a machine adds. -/
def foldC {α : Type} (f : α → Int) (a : Int) (l : List α) : Int := l.foldl (fun acc x => wrap64 (acc + f x)) a
theorem foldC_succ {α : Type} (f : α → Int) (a : Int) (l : List α) (k : Nat) (h : k < l.length) : foldC f a (l.take (k + 1)) = wrap64 (foldC f a (l.take k) + f l[k]) := by
  unfold foldC
  rw [List.take_succ_eq_append_getElem h, List.foldl_append]
  rfl
theorem foldC_all {α : Type} (f : α → Int) (a : Int) (l : List α) : foldC f a (l.take l.length) = foldC f a l := by rw [List.take_length]

def cntF : (n : Nat) → FT n → Int
  | 0, _ => 1
  | n + 1, t => foldC (cntF n) 1 t.2.2
def fmsC (n : Nat) (l : List (FT n)) : Int := foldC (cntF n) 0 l

def namesGo (seen : List ByteArray) : List ByteArray → Bool
  | [] => true
  | x :: r => !inN x seen && nameB x.data.toList && namesGo (x :: seen) r
def namesR (l : List ByteArray) : Int := if decide (8 < l.length) || !namesGo [] l then 2 else 0

def fmlR (names : List ByteArray) (n : Nat) (f : FT n) : Int :=
  if namesR names ≠ 0 then 2 else if allF rightB n f = false then 8 else if 64 < fmsC n [f] then 160 else if allF (declB names) n f = false then 161 else 0

def belowC (n : Int) : Bool := decide (0 ≤ n) && decide (n < 288230376151711744)
def ivR (i : Spn) : Int :=
  if !belowC i.low || !belowC i.high || (i.op && (i.high != 0 || i.hs)) then 8
  else if !i.op && (decide (i.high < i.low) || (i.low == i.high && (i.ls || i.hs))) then 162 else 0

def allX {m : Nat} (so : Int → List (FT m) → Nat → Spn → Bool) : (n : Nat) → XT m n → Bool
  | 0, _ => true
  | n + 1, t => so t.1 t.2.1 t.2.2.1.length t.2.2.2 && t.2.2.1.all (allX so n)
def noSpan : Spn := ⟨0, false, 0, false, false⟩
def manyOfX (k : Int) : Nat := if k = 5 ∨ k = 6 then 1 else if k = 2 ∨ k = 3 ∨ k = 4 then 2 else 0
def rightX {m : Nat} (k : Int) (is : List (FT m)) (l : Nat) (i : Spn) : Bool :=
  decide (1 ≤ k) && decide (k ≤ 6) && (l == manyOfX k) && !(k == 6 && ivR i == 8) && !(k != 6 && i != noSpan) && (if k = 1 then (is.length == 1) && is.all (allF rightB m) else is.length == 0)
def cntX {m : Nat} (one : Int → List (FT m) → Int) : (n : Nat) → XT m n → Int
  | 0, _ => 1
  | n + 1, t => foldC (cntX one n) (one t.1 t.2.1) t.2.2.1
def oneX {m : Nat} (k : Int) (is : List (FT m)) : Int := if k = 1 then fmsC m is else 1
def manyX {m : Nat} (n : Nat) (x : XT m n) : Int := cntX oneX n x
def namesX {m : Nat} (names : List ByteArray) (_ : Int) (is : List (FT m)) (_ : Nat) (_ : Spn) : Bool := is.all (allF (declB names) m)
def openX {m : Nat} (k : Int) (_ : List (FT m)) (_ : Nat) (i : Spn) : Bool := k != 6 || ivR i == 0
def checkR {m : Nat} (names : List ByteArray) (n : Nat) (x : XT m n) : Int :=
  if namesR names ≠ 0 then 2 else if allX rightX n x = false then 8 else if 64 < manyX n x then 160 else if allX (namesX names) n x = false then 161 else if allX openX n x = false then 162 else 0
def constX {m : Nat} : (n : Nat) → XT m n → Int
  | 0, _ => 0
  | n + 1, t => t.2.2.1.foldl (fun a y => max a (constX n y)) (max (max 0 t.2.2.2.low) t.2.2.2.high)

def szL {α : Type} (f : α → Int → Int) (most : Int) : List α → Int → Int
  | [], n => n
  | x :: r, n => if n ≤ most then szL f most r (wrap64 (n + f x (wrap64 (most - n)))) else n
theorem szL_drop {α : Type} (f : α → Int → Int) (most : Int) (l : List α) (k : Nat) (n : Int) (h : k < l.length) (hn : n ≤ most) : szL f most (l.drop k) n = szL f most (l.drop (k + 1)) (wrap64 (n + f l[k] (wrap64 (most - n)))) := by
  rw [List.drop_eq_getElem_cons h, szL, if_pos hn]
theorem szL_stop {α : Type} (f : α → Int → Int) (most : Int) (l : List α) (n : Int) (hn : ¬ n ≤ most) : szL f most l n = n := by
  cases l with
  | nil => rfl
  | cons x r => rw [szL, if_neg hn]
def sizeF : (n : Nat) → FT n → Int → Int
  | 0, _, _ => 1
  | n + 1, t, most => szL (sizeF n) most t.2.2 (wrap64 (1 + t.2.1.size))
def sizeX {m : Nat} : (n : Nat) → XT m n → Int → Int
  | 0, _, _ => 1
  | n + 1, t, most => szL (sizeX n) most t.2.2.1 (szL (sizeF m) most t.2.1 1)

/-- Names are no longer than memory is. -/
def bndF : (n : Nat) → FT n → Prop
  | 0, _ => True
  | n + 1, t => t.2.1.size ≤ 281474976710656 ∧ ∀ x ∈ t.2.2, bndF n x
def bndX {m : Nat} : (n : Nat) → XT m n → Prop
  | 0, _ => True
  | n + 1, t => (∀ x ∈ t.2.1, bndF m x) ∧ ∀ x ∈ t.2.2.1, bndX n x
end Go.Proofs.YtabpfbgcdmejbaaDoor
