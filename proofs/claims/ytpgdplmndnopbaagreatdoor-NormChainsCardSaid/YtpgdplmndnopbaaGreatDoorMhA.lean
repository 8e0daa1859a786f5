/- Normal forms of expressions, in plain Lean: what layer 19 computes. No program. -/
import Derived.Test.YtpgdplmndnopbaaGreatDoorMgA
import Derived.Deep.QuietTactic
import Derived.BigQuiet
import Derived.RegionTactic
import Derived.Deep.Cut
import Derived.Test.YtpgdplmndnopbaaGreatDoorMgB
namespace Go.Proofs.YtpgdplmndnopbaaGreatDoor.Nm
inductive Y (α β : Type) where
 | at (f : α)
 | bin (k : Int) (a b : Y α β)
 | pl (a : Y α β)
 | tm (a : Y α β) (i : β)
variable {α β : Type}
def kind : Y α β → Int
 | .at _ => 1
 | .bin k _ _ => k
 | .pl _ => 5
 | .tm _ _ => 6
def put (k : Int) (y : Y α β) : Option (Y α β) → Y α β
 | none => y
 | some z => .bin k y z
def plus (y : Y α β) : Y α β := match y with
 | .pl a => .pl a
 | y => .pl y
def nf : Y α β → Int → Option (Y α β) → Y α β
 | .at f, k, acc => put k (.at f) acc
 | .bin k' a b, k, acc => if k' = k then nf a k (some (nf b k acc)) else put k (nf a k' (some (nf b k' none))) acc
 | .pl a, k, acc => put k (plus (nf a 0 none)) acc
 | .tm a i, k, acc => put k (.tm (nf a 0 none) i) acc
def norm (x : Y α β) : Y α β := nf x 0 none
def parts (k : Int) : Y α β → List (Y α β)
 | .bin k' a b => if k' = k then parts k a ++ parts k b else [.bin k' a b]
 | x => [x]
def Ok : Y α β → Prop
 | .at _ => True
 | .bin k a b => (k = 2 ∨ k = 3 ∨ k = 4) ∧ Ok a ∧ Ok b
 | .pl a => Ok a
 | .tm a _ => Ok a
def is : Y α β → Bool
 | .at _ => true
 | .bin k a b => kind a != k && is a && is b
 | .pl a => kind a != 5 && is a
 | .tm a _ => is a
theorem kind_some : ∀ (x : Y α β) (k : Int) (z : Y α β), kind (nf x k (some z)) = k
 | .at _, _, _ => rfl
 | .bin k' a b, k, z => by
  rw [nf]
  split
  ·exact kind_some a k _
  ·rfl
 | .pl _, _, _ => rfl
 | .tm _ _, _, _ => rfl
theorem kind_plus (y : Y α β) : kind (plus y) = 5 := by
 unfold plus
 split <;> rfl
theorem ok_put {k : Int} {y : Y α β} {acc : Option (Y α β)} (hk : acc ≠ none → k = 2 ∨ k = 3 ∨ k = 4) (hy : Ok y) (hz : ∀ z, acc = some z → Ok z) : Ok (put k y acc) := by
 cases acc with
 | none => exact hy
 | some z => exact ⟨hk (by simp), hy, hz z rfl⟩
theorem ok_plus {y : Y α β} (h : Ok y) : Ok (plus y) := by
 unfold plus
 split
 ·exact h
 ·exact h
theorem ok_nf : ∀ (x : Y α β) (k : Int) (acc : Option (Y α β)), Ok x → (acc ≠ none → k = 2 ∨ k = 3 ∨ k = 4) → (∀ z, acc = some z → Ok z) → Ok (nf x k acc)
 | .at _, _, _, _, hk, hz => ok_put hk trivial hz
 | .bin k' a b, k, acc, ⟨h1, ha, hb⟩, hk, hz => by
  rw [nf]
  split
  ·rename_i e
   subst e
   refine ok_nf a _ _ ha (fun _ => h1) fun z e => ?_
   injection e with e
   subst e
   exact ok_nf b _ _ hb hk hz
  ·refine ok_put hk (ok_nf a _ _ ha (fun _ => h1) fun z e => ?_) hz
   injection e with e
   subst e
   exact ok_nf b _ _ hb (fun h => absurd rfl h) (fun z e => by cases e)
 | .pl a, k, acc, ha, hk, hz => ok_put hk (ok_plus (ok_nf a 0 none ha (fun h => absurd rfl h) fun z e => by cases e)) hz
 | .tm a i, k, acc, ha, hk, hz => ok_put hk (ok_nf a 0 none ha (fun h => absurd rfl h) fun z e => by cases e) hz
theorem ok_norm {x : Y α β} (h : Ok x) : Ok (norm x) := ok_nf x 0 none h (fun h => absurd rfl h) fun z e => by cases e
theorem is_plus {y : Y α β} (ho : Ok y) (h : is y = true) : is (plus y) = true := by
 unfold plus
 split
 ·exact h
 ·rename_i hn
  cases y with
  | pl a => exact absurd rfl (hn a)
  | «at» f => rfl
  | bin k a b =>
   have h5 : k ≠ 5 := by have := ho.1; omega
   show (k != 5 && is (.bin k a b)) = true
   rw [h]; simpa using h5
  | tm a i =>
   show ((6 : Int) != 5 && is (.tm a i)) = true
   rw [h]; rfl
theorem is_put {k : Int} {y : Y α β} {acc : Option (Y α β)} (hy : is y = true) (hk : acc ≠ none → kind y ≠ k) (hz : ∀ z, acc = some z → is z = true) : is (put k y acc) = true := by
 cases acc with
 | none => exact hy
 | some z =>
  show (kind y != k && is y && is z) = true
  rw [hy, hz z rfl]
  simpa using hk (by simp)
theorem is_nf : ∀ (x : Y α β) (k : Int) (acc : Option (Y α β)), Ok x → (acc ≠ none → k = 2 ∨ k = 3 ∨ k = 4) → (∀ z, acc = some z → is z = true) → is (nf x k acc) = true
 | .at _, k, acc, _, hk, hz => is_put rfl (fun h => by have := hk h; show (1 : Int) ≠ k; omega) hz
 | .bin k' a b, k, acc, ⟨h1, ha, hb⟩, hk, hz => by
  rw [nf]
  split
  ·rename_i e
   subst e
   refine is_nf a _ _ ha (fun _ => h1) fun z e => ?_
   injection e with e
   subst e
   exact is_nf b _ _ hb hk hz
  ·rename_i hne
   refine is_put (is_nf a _ _ ha (fun _ => h1) fun z e => ?_) (fun _ => by rw [kind_some]; exact hne) hz
   injection e with e
   subst e
   exact is_nf b _ _ hb (fun h => absurd rfl h) (fun z e => by cases e)
 | .pl a, k, acc, ha, hk, hz => is_put (is_plus (ok_norm ha) (is_nf a 0 none ha (fun h => absurd rfl h) fun z e => by cases e)) (fun h => by have := hk h; rw [kind_plus]; omega) hz
 | .tm a i, k, acc, ha, hk, hz => is_put (show is (nf a 0 none) = true from is_nf a 0 none ha (fun h => absurd rfl h) fun z e => by cases e) (fun h => by have := hk h; show (6 : Int) ≠ k; omega) hz
theorem is_norm {x : Y α β} (h : Ok x) : is (norm x) = true := is_nf x 0 none h (fun h => absurd rfl h) fun z e => by cases e
theorem plus_kind {y : Y α β} (h : kind y ≠ 5) : plus y = .pl y := by
 unfold plus
 split
 ·exact absurd rfl h
 ·rfl
mutual
theorem nf_own : ∀ (x : Y α β) (k : Int), Ok x → is x = true → nf x k none = x
 | .at _, _, _, _ => rfl
 | .bin k' a b, k, ⟨h1, ha, hb⟩, h => by
  have h' : (kind a != k' && is a && is b) = true := h
  simp only [Bool.and_eq_true, bne_iff_ne, ne_eq] at h'
  rw [nf]
  have e1 := nf_own b k' hb h'.2
  have e2 := nf_put a k' (some b) ha h'.1.2 h'.1.1
  split
  ·rename_i e
   subst e
   rw [e1, e2]; rfl
  ·rw [e1, e2]; rfl
 | .pl a, k, ha, h => by
  have h' : (kind a != 5 && is a) = true := h
  simp only [Bool.and_eq_true, bne_iff_ne, ne_eq] at h'
  rw [nf, nf_own a 0 ha h'.2, plus_kind h'.1]; rfl
 | .tm a i, k, ha, h => by
  rw [nf, nf_own a 0 ha h]; rfl
theorem nf_put : ∀ (x : Y α β) (k : Int) (acc : Option (Y α β)), Ok x → is x = true → kind x ≠ k → nf x k acc = put k x acc
 | .at _, _, _, _, _, _ => rfl
 | .bin k' a b, k, acc, ⟨h1, ha, hb⟩, h, hne => by
  have h' : (kind a != k' && is a && is b) = true := h
  simp only [Bool.and_eq_true, bne_iff_ne, ne_eq] at h'
  rw [nf, if_neg (show ¬ k' = k from hne), nf_own b k' hb h'.2, nf_put a k' (some b) ha h'.1.2 h'.1.1]; rfl
 | .pl a, k, acc, ha, h, hne => by
  have h' : (kind a != 5 && is a) = true := h
  simp only [Bool.and_eq_true, bne_iff_ne, ne_eq] at h'
  rw [nf, nf_own a 0 ha h'.2, plus_kind h'.1]
 | .tm a i, k, acc, ha, h, hne => by
  rw [nf, nf_own a 0 ha h]
end
theorem norm_own {x : Y α β} (ho : Ok x) (h : is x = true) : norm x = x := nf_own x 0 ho h
theorem norm_norm {x : Y α β} (ho : Ok x) : norm (norm x) = norm x := norm_own (ok_norm ho) (is_norm ho)
theorem is_iff {x : Y α β} (ho : Ok x) : is x = true ↔ norm x = x := ⟨norm_own ho, fun h => by rw [← h]; exact is_norm ho⟩
theorem norm_chain {k : Int} (hk : k = 2 ∨ k = 3 ∨ k = 4) (a b c : Y α β) : norm (.bin k (.bin k a b) c) = norm (.bin k a (.bin k b c)) := by
 have h0 : k ≠ 0 := by omega
 simp [norm, nf, h0, put]
theorem plus_plus (y : Y α β) : plus (plus y) = plus y := by
 unfold plus
 cases y <;> rfl
theorem norm_plus (a : Y α β) : norm (.pl (.pl a)) = norm (.pl a) := by
 show plus (plus (nf a 0 none)) = plus (nf a 0 none)
 exact plus_plus _
def fold (k : Int) : List (Y α β) → Option (Y α β) → Option (Y α β)
 | [], acc => acc
 | y :: r, acc => some (put k (norm y) (fold k r acc))
theorem fold_app (k : Int) : ∀ (l r : List (Y α β)) (acc : Option (Y α β)), fold k (l ++ r) acc = fold k l (fold k r acc)
 | [], _, _ => rfl
 | y :: l, r, acc => by rw [List.cons_append, fold, fold, fold_app k l r acc]
theorem nf_fold : ∀ (x : Y α β) (k : Int) (acc : Option (Y α β)), some (nf x k acc) = fold k (parts k x) acc
 | .at _, _, acc => by cases acc <;> rfl
 | .bin k' a b, k, acc => by
  rw [parts]
  split
  ·rename_i e
   subst e
   rw [nf, if_pos rfl, fold_app, ← nf_fold b k' acc, nf_fold a k' _]
  ·rename_i hne
   rw [nf, if_neg hne]
   show _ = some (put k (norm (.bin k' a b)) acc)
   have : norm (.bin k' a b) = nf a k' (some (nf b k' none)) := by
    unfold norm
    rw [nf]
    split
    ·rename_i e; subst e; rfl
    ·rfl
   rw [this]
 | .pl a, k, acc => by cases acc <;> rfl
 | .tm a i, k, acc => by cases acc <;> rfl
def size (f : α → Nat) : Y α β → Nat
 | .at x => f x
 | .bin _ a b => 1 + size f a + size f b
 | .pl a => 1 + size f a
 | .tm a _ => 1 + size f a
theorem size_plus (f : α → Nat) (y : Y α β) : size f (plus y) ≤ 1 + size f y := by
 unfold plus
 split
 ·omega
 ·show 1 + size f y ≤ _; omega
def sizeO (f : α → Nat) : Option (Y α β) → Nat
 | none => 0
 | some z => 1 + size f z
theorem size_put (f : α → Nat) (k : Int) (y : Y α β) (acc : Option (Y α β)) : size f (put k y acc) = size f y + sizeO f acc := by
 cases acc with
 | none => rfl
 | some z => show 1 + size f y + size f z = size f y + (1 + size f z); omega
theorem size_nf (f : α → Nat) : ∀ (x : Y α β) (k : Int) (acc : Option (Y α β)), size f (nf x k acc) ≤ size f x + sizeO f acc
 | .at _, k, acc => by rw [nf, size_put]; exact Nat.le_refl _
 | .bin k' a b, k, acc => by
  rw [nf]
  have e : size f (.bin k' a b : Y α β) = 1 + size f a + size f b := rfl
  split
  ·have h1 := size_nf f a k (some (nf b k acc))
   have h2 := size_nf f b k acc
   simp only [sizeO] at h1
   omega
  ·rw [size_put]
   have h1 := size_nf f a k' (some (nf b k' none))
   have h2 := size_nf f b k' none
   simp only [sizeO] at h1 h2
   omega
 | .pl a, k, acc => by
  rw [nf, size_put]
  have h1 := size_plus f (nf a 0 none)
  have h2 := size_nf f a 0 none
  have e : size f (.pl a : Y α β) = 1 + size f a := rfl
  simp only [sizeO] at h2
  omega
 | .tm a i, k, acc => by
  rw [nf, size_put]
  have h2 := size_nf f a 0 none
  have e : size f (.tm a i : Y α β) = 1 + size f a := rfl
  have e2 : size f (.tm (nf a 0 none) i : Y α β) = 1 + size f (nf a 0 none) := rfl
  simp only [sizeO] at h2
  omega
theorem size_norm (f : α → Nat) (x : Y α β) : size f (norm x) ≤ size f x := by
 show size f (nf x 0 none) ≤ _
 simpa [sizeO] using size_nf f x 0 none
def all (p : α → Bool) (q : β → Bool) : Y α β → Bool
 | .at f => p f
 | .bin _ a b => all p q a && all p q b
 | .pl a => all p q a
 | .tm a i => q i && all p q a
theorem all_plus (p : α → Bool) (q : β → Bool) (y : Y α β) : all p q (plus y) = all p q y := by
 unfold plus
 split <;> rfl
def allO (p : α → Bool) (q : β → Bool) : Option (Y α β) → Bool
 | none => true
 | some z => all p q z
theorem all_put (p : α → Bool) (q : β → Bool) (k : Int) (y : Y α β) (acc : Option (Y α β)) : all p q (put k y acc) = (all p q y && allO p q acc) := by
 cases acc with
 | none => show all p q y = (all p q y && true); rw [Bool.and_true]
 | some z => rfl
theorem all_nf (p : α → Bool) (q : β → Bool) : ∀ (x : Y α β) (k : Int) (acc : Option (Y α β)), all p q (nf x k acc) = (all p q x && allO p q acc)
 | .at _, k, acc => by rw [nf, all_put]
 | .bin k' a b, k, acc => by
  rw [nf]
  have e : all p q (.bin k' a b : Y α β) = (all p q a && all p q b) := rfl
  split
  ·rw [all_nf p q a]
   show (all p q a && all p q (nf b k acc)) = _
   rw [all_nf p q b, e, Bool.and_assoc]
  ·rw [all_put, all_nf p q a]
   show ((all p q a && all p q (nf b k' none)) && allO p q acc) = _
   rw [all_nf p q b, e]
   simp [allO]
 | .pl a, k, acc => by
  rw [nf, all_put, all_plus, all_nf p q a]
  simp [allO, all]
 | .tm a i, k, acc => by
  rw [nf, all_put]
  show ((q i && all p q (nf a 0 none)) && allO p q acc) = _
  rw [all_nf p q a]
  simp [allO, all]
theorem all_norm (p : α → Bool) (q : β → Bool) (x : Y α β) : all p q (norm x) = all p q x := by
 unfold norm
 rw [all_nf]
 simp [allO]
end Go.Proofs.YtpgdplmndnopbaaGreatDoor.Nm

/- The normal forms walked: whether one is its own (norm.Is). -/
namespace Go.Proofs.YtpgdplmndnopbaaGreatDoor
open Go.RowKit
def chainB (k : Int) : Bool := decide (2 ≤ k) && decide (k ≤ 4)
def kindX {m : Nat} : (n : Nat) → XT m n → Int
 | 0, t => nomatch t
 | _ + 1, t => t.1
def againX {m : Nat} (n : Nat) (k : Int) (of : List (XT m n)) : Bool := match of with
 | [] => false
 | y :: _ => decide (kindX n y = k) && (chainB k || decide (k = 5))
def isNX {m : Nat} : (n : Nat) → XT m n → Bool
 | 0, t => nomatch t
 | n + 1, t => !againX n t.1 t.2.2.1 && t.2.2.1.all (isNX n)
set_option maxRecDepth 100000 in
theorem chain67_any (k : Int) (w : World) : Calls Tryz.prog 67 #[.int .u8 k] w fun e w' => e = .returned (.bool (chainB k)) ∧ w' = w := by
 unfold chainB
 go_enter Tryz.func67, Tryz.ntmps67
 go_wp2_with fail
 all_goals go_ret
 all_goals exact ⟨ret_bool' (by simp_all <;> omega), rfl⟩
theorem XRep.kind {w : World} {B m n : Nat} {t : XT m n} {k : Int} {cs : List Value} (h : XRep w B m n t (.agg (#[.int .u8 k] ++ cs.toArray))) : kindX n t = k := by
 cases n with
 | zero => exact h.elim
 | succ n =>
  obtain ⟨k', is, of, i⟩ := t
  obtain ⟨a1, c1, a2, c2, hv, _⟩ := h
  simp at hv
  exact hv.1.symm
def IsX31 (m n : Nat) : Prop := ∀ (t : XT m n) (v : Value) (w : World), XRep w w.heap.size m n t v → Calls Tryz.prog 31 #[v] w fun e w' => e = .returned (.bool (isNX n t)) ∧ Below w.heap.size w w'
set_option maxRecDepth 100000 in
set_option maxHeartbeats 4000000 in
theorem clo69_any (m n : Nat) (ih : IsX31 m n) (t : XT m n) (v : Value) (w : World) (h : XRep w w.heap.size m n t v) :
 Calls Tryz.prog 69 #[v] w fun e w' => e = .returned (.bool (!isNX n t)) ∧ Below w.heap.size w w' := by
 obtain ⟨k, a1, l1, c1, a, l, c, lo, ls, hi, hs, op, rfl⟩ := h.shape
 have hb : Below w.heap.size w (w.alloc (.cells #[.int .u8 k, .slice a1 l1 c1, .slice a l c, .int .i64 lo, .bool ls, .int .i64 hi, .bool hs, .bool op] 28)) := (Below.refl _ w).alloc (Nat.le_refl _) _
 have HI := Lib.hid (ih t _ (w.alloc (.cells #[.int .u8 k, .slice a1 l1 c1, .slice a l c, .int .i64 lo, .bool ls, .int .i64 hi, .bool hs, .bool op] 28)) (h.up hb (by simp)))
 have HB := Lib.hid hb
 clear h ih hb
 go_enter Tryz.func69, Tryz.ntmps69
 go_wp2_with fail
 refine HI.out.mono ?_
 rintro e w1 ⟨rfl, hb1⟩
 have HB1 := Lib.hid (HB.out.trans (hb1.mono (by simp)))
 clear hb1
 go_wp2_with fail
 all_goals go_ret
 all_goals exact ⟨rfl, HB1.out⟩
set_option maxRecDepth 100000 in
set_option maxHeartbeats 8000000 in
theorem is31_any (m : Nat) : ∀ n : Nat, IsX31 m n := by
 intro n
 induction n with
 | zero => intro t v w h; exact h.elim
 | succ n ih =>
  intro t v w h
  obtain ⟨k, is, of, lo, ls, hi, hs, op⟩ := t
  obtain ⟨a1, c1, a, c, rfl, hR1, hR⟩ := h
  dsimp only at hR ⊢
  clear hR1
  have hb1 : Below w.heap.size w (w.alloc (.cells #[.int .u8 k, .slice a1 is.length c1, .slice a of.length c, .int .i64 lo, .bool ls, .int .i64 hi, .bool hs, .bool op] 28)) := (Below.refl _ w).alloc (Nat.le_refl _) _
  obtain ⟨W1, hW1⟩ : ∃ W1, W1 = w.alloc (.cells #[.int .u8 k, .slice a1 is.length c1, .slice a of.length c, .int .i64 lo, .bool ls, .int .i64 hi, .bool hs, .bool op] 28) := ⟨_, rfl⟩
  have hk1 : W1.heap[w.heap.size]? = some (.cells #[.int .u8 k, .slice a1 is.length c1, .slice a of.length c, .int .i64 lo, .bool ls, .int .i64 hi, .bool hs, .bool op] 28 (0, 0)) := by rw [hW1]; exact Array.getElem?_push_size
  rw [← hW1] at hb1
  have hRow : XRow W1 W1.heap.size m n a of := XRow.up hR hb1 hb1.size
  have HB1 := Lib.hid hb1
  have HCF : Hid (∀ q : Nat, Calls Tryz.prog 68 #[.slice a of.length c, .func (.func 69) #[] #[]] (W1.drewN q) fun e w' => e = .returned (.bool (of.any fun t => !isNX n t)) ∧ Below W1.heap.size (W1.drewN q) w') := fun q => by
   refine contains54_any n of a c 69 #[] (fun t => !isNX n t) (W1.drewN q) (XRow.up hRow ⟨rfl, rfl, rfl, Nat.le_refl _, fun _ _ => rfl⟩ (Nat.le_refl _)) ⟨ent_of Tryz.func69 (by kernel_rfl) (by kernel_rfl), fun t v w' hb hx => ?_⟩
   have := clo69_any m n ih t v w' hx
   simpa using this
  have HALL : Hid (of.any (fun t => !isNX n t) = !of.all (isNX n)) := by
   rw [Hid, List.any_eq_not_all_not]; simp
  have x0 := Lib.cell_of_heap hk1 0
  have x2 := Lib.cell_of_heap hk1 2
  simp only [List.getElem?_toArray, List.getElem?_cons_zero, List.getElem?_cons_succ] at x0 x2
  have hlt := (Array.getElem?_eq_some_iff.1 hk1).1
  have HW1 := Lib.hid hW1.symm
  have HB1N : Hid (∀ q : Nat, Below w.heap.size w (W1.drewN q)) := fun q => hb1.trans ⟨rfl, rfl, rfl, Nat.le_refl _, fun _ _ => rfl⟩
  have HREST : Hid (∀ b : Bool, b = isNX (n + 1) ((k, is, of, ⟨lo, ls, hi, hs, op⟩) : XT m (n + 1)) → Ending.returned (Value.bool b) = .returned (.bool (isNX (n + 1) ((k, is, of, ⟨lo, ls, hi, hs, op⟩) : XT m (n + 1))))) := fun b h => by rw [h]
  have HEQ : Hid (isNX (n + 1) ((k, is, of, ⟨lo, ls, hi, hs, op⟩) : XT m (n + 1)) = (!againX n k of && of.all (isNX n))) := rfl
  by_cases hl : of.length = 0
  ·have HAG : Hid (againX n k of = false) := by
    have : of = [] := List.length_eq_zero_iff.1 hl
    rw [Hid, this]; rfl
   have hlI : ¬ (0 : Int) < ((of.length : Nat) : Int) := by omega
   have hlN : ¬ 0 < of.length := by omega
   clear hb1 hRow hR hk1 hW1 ih hl
   go_enter Tryz.func31, Tryz.ntmps31
   go_upto_region 1 with fail
   rw [HW1.out]
   clear HW1
   go_wp2_with fail
   go_quiet (fail)
   go_wp2_with fail
   refine (HCF.out _).mono ?_
   rintro e w2 ⟨rfl, hb2⟩
   have HB2 := Lib.hid ((HB1N.out _).trans (hb2.mono HB1.out.size))
   clear hb2
   go_wp2_with fail
   all_goals go_ret
   all_goals exact ⟨HREST.out _ (by rw [HEQ.out, HAG.out, HALL.out]; simp), HB2.out⟩
  ·have hl0 : 0 < of.length := by omega
   obtain ⟨b, off, k', a1', l1', c1', a2', l2', c2', lo', ls', hi', hs', op', rfl, hbl, c0, d1, c2, c3, c4, c5, c6, c7, hr⟩ := hRow.at 0 hl0
   have hkind := XRep.kind (cs := [_, _, _, _, _, _, _]) hr
   have HAG : Hid (againX n k of = (decide (k' = k) && (chainB k || decide (k = 5)))) := by
    obtain ⟨y, r, hyr⟩ : ∃ y r, of = y :: r := by cases of with | nil => exact absurd rfl hl | cons y r => exact ⟨y, r, rfl⟩
    subst hyr
    rw [Hid, ← hkind]; rfl
   rw [Nat.zero_mul, Nat.add_zero] at c0
   have hlI : (0 : Int) < ((of.length : Nat) : Int) := by omega
   have HCH := Lib.hid (chain67_any k)
   clear hb1 hR hk1 hW1 ih hl hr hkind hRow d1 c2 c3 c4 c5 c6 c7
   cases qk : (k' == k) with
   | false =>
    have HAG2 : Hid (againX n k of = false) := by rw [Hid, HAG.out]; simp at qk; simp [qk]
    go_enter Tryz.func31, Tryz.ntmps31
    go_upto_region 1 with fail
    rw [HW1.out]
    clear HW1
    go_wp2_with fail
    go_quiet (fail)
    go_wp2_with fail
    refine (HCF.out _).mono ?_
    rintro e w2 ⟨rfl, hb2⟩
    have HB2 := Lib.hid ((HB1N.out _).trans (hb2.mono HB1.out.size))
    clear hb2
    go_wp2_with fail
    all_goals go_ret
    all_goals exact ⟨HREST.out _ (by rw [HEQ.out, HAG2.out, HALL.out]; simp), HB2.out⟩
   | true =>
    cases qc : chainB k with
    | true =>
     have HAG2 : Hid (againX n k of = true) := by rw [Hid, HAG.out, qc]; simp at qk; simp [qk]
     rw [qc] at HCH
     go_enter Tryz.func31, Tryz.ntmps31
     go_upto_region 1 with fail
     rw [HW1.out]
     clear HW1
     go_wp2_with fail
     go_quiet (first | (go_at_call 67; refine Calls.quiet_of_same (HCH.out _)))
     go_wp2_with fail
     all_goals go_ret
     all_goals exact ⟨HREST.out _ (by rw [HEQ.out, HAG2.out]; rfl), HB1N.out _⟩
    | false =>
     rw [qc] at HCH
     cases q5 : (k == 5) with
     | true =>
      have HAG2 : Hid (againX n k of = true) := by rw [Hid, HAG.out, qc]; simp at qk q5; simp [qk, q5]
      go_enter Tryz.func31, Tryz.ntmps31
      go_upto_region 1 with fail
      rw [HW1.out]
      clear HW1
      go_wp2_with fail
      go_quiet (first | (go_at_call 67; refine Calls.quiet_of_same (HCH.out _)))
      go_wp2_with fail
      all_goals go_ret
      all_goals exact ⟨HREST.out _ (by rw [HEQ.out, HAG2.out]; rfl), HB1N.out _⟩
     | false =>
      have HAG2 : Hid (againX n k of = false) := by rw [Hid, HAG.out, qc]; simp at q5; simp [q5]
      go_enter Tryz.func31, Tryz.ntmps31
      go_upto_region 1 with fail
      rw [HW1.out]
      clear HW1
      go_wp2_with fail
      go_quiet (first | (go_at_call 67; refine Calls.quiet_of_same (HCH.out _)))
      go_wp2_with fail
      refine (HCF.out _).mono ?_
      rintro e w2 ⟨rfl, hb2⟩
      have HB2 := Lib.hid ((HB1N.out _).trans (hb2.mono HB1.out.size))
      clear hb2
      go_wp2_with fail
      all_goals go_ret
      all_goals exact ⟨HREST.out _ (by rw [HEQ.out, HAG2.out, HALL.out]; simp), HB2.out⟩
end Go.Proofs.YtpgdplmndnopbaaGreatDoor

/- Expressions of a right shape, and their normal forms, told apart from the depth. No program. -/
namespace Go.Proofs.YtpgdplmndnopbaaGreatDoor
open Go.RowKit
abbrev YX := Nm.Y F Spn
def xY : YX → X
 | .at f => .mk 1 [f] [] noSpan
 | .bin k a b => .mk k [] [xY a, xY b] noSpan
 | .pl a => .mk 5 [] [xY a] noSpan
 | .tm a i => .mk 6 [] [xY a] i
theorem xY_inj : ∀ (y z : YX), Nm.Ok y → Nm.Ok z → xY y = xY z → y = z
 | .at f, .at g, _, _, h => by injection h with _ h _ _; injection h with h; rw [h]
 | .at f, .bin k a b, _, hz, h => by injection h with h _ _ _; have := hz.1; omega
 | .at f, .pl a, _, _, h => by injection h with h; cases h
 | .at f, .tm a i, _, _, h => by injection h with h; cases h
 | .bin k a b, .at g, hy, _, h => by injection h with h _ _ _; have := hy.1; omega
 | .bin k a b, .bin l c d, hy, hz, h => by
  injection h with h1 _ h2 _
  injection h2 with h2 h3
  injection h3 with h3 _
  rw [h1, xY_inj a c hy.2.1 hz.2.1 h2, xY_inj b d hy.2.2 hz.2.2 h3]
 | .bin k a b, .pl c, hy, _, h => by injection h with h _ _ _; have := hy.1; omega
 | .bin k a b, .tm c i, hy, _, h => by injection h with h _ _ _; have := hy.1; omega
 | .pl a, .at g, _, _, h => by injection h with h; cases h
 | .pl a, .bin k c d, _, hz, h => by injection h with h _ _ _; have := hz.1; omega
 | .pl a, .pl c, hy, hz, h => by
  injection h with _ _ h _
  injection h with h _
  rw [xY_inj a c hy hz h]
 | .pl a, .tm c i, _, _, h => by injection h with h; cases h
 | .tm a i, .at g, _, _, h => by injection h with h; cases h
 | .tm a i, .bin k c d, _, hz, h => by injection h with h _ _ _; have := hz.1; omega
 | .tm a i, .pl c, _, _, h => by injection h with h; cases h
 | .tm a i, .tm c j, hy, hz, h => by
  injection h with _ _ h1 h2
  injection h1 with h1 _
  rw [h2, xY_inj a c hy hz h1]
theorem right_Y {m : Nat} : ∀ (n : Nat) (t : XT m n), allX rightX n t = true → ∃ y : YX, toX n t = xY y ∧ Nm.Ok y
 | 0, t, _ => nomatch t
 | n + 1, t, h => by
  obtain ⟨k, is, of, i⟩ := t
  have h' : (rightX k is of.length i && of.all (allX rightX n)) = true := h
  rw [Bool.and_eq_true] at h'
  obtain ⟨h1, h2⟩ := h'
  have hof : ∀ x ∈ of, ∃ y : YX, toX n x = xY y ∧ Nm.Ok y := fun x hx => right_Y n x (List.all_eq_true.1 h2 x hx)
  unfold rightX at h1
  simp only [Bool.and_eq_true, decide_eq_true_eq, beq_iff_eq, Bool.not_eq_true', Bool.and_eq_false_iff] at h1
  obtain ⟨⟨⟨⟨⟨k1, k2⟩, k3⟩, _⟩, k5⟩, k6⟩ := h1
  have key : k = 1 ∨ (k = 2 ∨ k = 3 ∨ k = 4) ∨ k = 5 ∨ k = 6 := by omega
  rcases key with rfl | hk | rfl | rfl
  ·have hi : i = noSpan := by simpa using k5
   have : of = [] := List.length_eq_zero_iff.1 (by simpa [manyOfX] using k3)
   subst this hi
   rw [if_pos rfl, Bool.and_eq_true, beq_iff_eq] at k6
   match is, k6.1 with
   | [f], _ => exact ⟨.at (toF m f), rfl, trivial⟩
  ·have hi : i = noSpan := by
    have : (k != 6) = true := by rw [bne_iff_ne]; omega
    simpa [this] using k5
   have hm : manyOfX k = 2 := by unfold manyOfX; rw [if_neg (by omega), if_pos hk]
   rw [hm] at k3
   rw [if_neg (by omega), beq_iff_eq] at k6
   have : is = [] := List.length_eq_zero_iff.1 k6
   subst this hi
   match of, k3, hof with
   | [a, b], _, hof =>
    obtain ⟨y, e1, o1⟩ := hof a (by simp)
    obtain ⟨z, e2, o2⟩ := hof b (by simp)
    exact ⟨.bin k y z, by rw [xY, ← e1, ← e2]; rfl, hk, o1, o2⟩
  ·have hi : i = noSpan := by simpa using k5
   rw [show manyOfX 5 = 1 from rfl] at k3
   rw [if_neg (by omega), beq_iff_eq] at k6
   have : is = [] := List.length_eq_zero_iff.1 k6
   subst this hi
   match of, k3, hof with
   | [a], _, hof =>
    obtain ⟨y, e1, o1⟩ := hof a (by simp)
    exact ⟨.pl y, by rw [xY, ← e1]; rfl, o1⟩
  ·rw [show manyOfX 6 = 1 from rfl] at k3
   rw [if_neg (by omega), beq_iff_eq] at k6
   have : is = [] := List.length_eq_zero_iff.1 k6
   subst this
   match of, k3, hof with
   | [a], _, hof =>
    obtain ⟨y, e1, o1⟩ := hof a (by simp)
    exact ⟨.tm y i, by rw [xY, ← e1]; rfl, o1⟩
theorem kind_Y {m : Nat} : ∀ (n : Nat) (t : XT m n) (y : YX), toX n t = xY y → kindX n t = Nm.kind y
 | 0, t, _, _ => nomatch t
 | n + 1, t, y, h => by
  obtain ⟨k, is, of, i⟩ := t
  have h' : X.mk k (is.map (toF m)) (of.map (toX n)) i = xY y := h
  cases y <;> (rw [xY] at h'; injection h')
theorem isNX_Y {m : Nat} : ∀ (n : Nat) (t : XT m n) (y : YX), Nm.Ok y → toX n t = xY y → isNX n t = Nm.is y
 | 0, t, _, _, _ => nomatch t
 | n + 1, t, y, ho, h => by
  obtain ⟨k, is, of, i⟩ := t
  have h' : X.mk k (is.map (toF m)) (of.map (toX n)) i = xY y := h
  have e : isNX (n + 1) ((k, is, of, i) : XT m (n + 1)) = (!againX n k of && of.all (isNX n)) := rfl
  rw [e]
  cases y with
  | «at» f =>
   rw [xY] at h'
   injection h' with _ _ h3 _
   have : of = [] := List.map_eq_nil_iff.1 h3
   subst this; rfl
  | bin k' a b =>
   rw [xY] at h'
   injection h' with h1 _ h3 _
   have hl : of.length = 2 := by have := congrArg List.length h3; simpa using this
   match of, hl, h3 with
   | [x, z], _, h3 =>
    simp only [List.map_cons, List.map_nil, List.cons.injEq, and_true] at h3
    have hk := ho.1
    have e1 := isNX_Y n x a ho.2.1 h3.1
    have e2 := isNX_Y n z b ho.2.2 h3.2
    have e3 := kind_Y n x a h3.1
    show (!(decide (kindX n x = k) && (chainB k || decide (k = 5))) && (isNX n x && (isNX n z && true))) = (Nm.kind a != k' && Nm.is a && Nm.is b)
    have hc : chainB k = true := by unfold chainB; rw [h1]; simp; omega
    rw [e1, e2, e3, hc, h1]
    simp [bne, Bool.and_assoc]
    rfl
  | pl a =>
   rw [xY] at h'
   injection h' with h1 _ h3 _
   have hl : of.length = 1 := by have := congrArg List.length h3; simpa using this
   match of, hl, h3 with
   | [x], _, h3 =>
    simp only [List.map_cons, List.map_nil, List.cons.injEq, and_true] at h3
    have e1 := isNX_Y n x a ho h3
    have e3 := kind_Y n x a h3
    show (!(decide (kindX n x = k) && (chainB k || decide (k = 5))) && (isNX n x && true)) = (Nm.kind a != 5 && Nm.is a)
    rw [e1, e3, h1]
    simp [bne, chainB]
    rfl
  | tm a j =>
   rw [xY] at h'
   injection h' with h1 _ h3 _
   have hl : of.length = 1 := by have := congrArg List.length h3; simpa using this
   match of, hl, h3 with
   | [x], _, h3 =>
    simp only [List.map_cons, List.map_nil, List.cons.injEq, and_true] at h3
    have e1 := isNX_Y n x a ho h3
    show (!(decide (kindX n x = k) && (chainB k || decide (k = 5))) && (isNX n x && true)) = Nm.is a
    rw [e1, h1]
    simp [chainB]
end Go.Proofs.YtpgdplmndnopbaaGreatDoor
