/- Plain laws of layer 16: what is not great is counted without a turn of the machine's numbers; each part of what may be may be. No program. -/
import Derived.Test.YtockinpjfhhkoaaGreatDoorMgA
namespace Go.Proofs.YtockinpjfhhkoaaGreatDoor
open Go.RowKit

def nF : (n : Nat) → FT n → Nat
  | 0, _ => 1
  | n + 1, t => 1 + (t.2.2.map (nF n)).sum
def tF : (n : Nat) → FT n → Nat
  | 0, _ => 1
  | n + 1, t => 1 + t.2.1.size + (t.2.2.map (tF n)).sum
def nX {m : Nat} : (n : Nat) → XT m n → Nat
  | 0, _ => 1
  | n + 1, t => (if t.1 = 1 then (t.2.1.map (nF m)).sum else 1) + (t.2.2.1.map (nX n)).sum
def tX {m : Nat} : (n : Nat) → XT m n → Nat
  | 0, _ => 1
  | n + 1, t => 1 + (t.2.1.map (tF m)).sum + (t.2.2.1.map (tX n)).sum

theorem sum_le {α : Type} (f g : α → Nat) : ∀ l : List α, (∀ x ∈ l, f x ≤ g x) → (l.map f).sum ≤ (l.map g).sum
  | [], _ => by simp
  | x :: r, h => by
    have h1 := h x (by simp)
    have h2 := sum_le f g r (fun y hy => h y (by simp [hy]))
    simp only [List.map_cons, List.sum_cons]; omega
theorem le_sum {α : Type} (f : α → Nat) : ∀ (l : List α) (x : α), x ∈ l → f x ≤ (l.map f).sum
  | y :: r, x, h => by
    simp only [List.map_cons, List.sum_cons]
    rcases List.mem_cons.1 h with rfl | h
    · omega
    · have := le_sum f r x h; omega

theorem szL_le {α : Type} (f : α → Int → Int) (g : α → Nat) (most : Int) (hm : 0 ≤ most ∧ most ≤ 2000) : ∀ (l : List α) (n : Int),
    (∀ x ∈ l, ∀ k, 0 ≤ k → k ≤ 2000 → f x k ≤ k + 281474976710657 ∧ 1 ≤ f x k ∧ (f x k ≤ k → f x k = g x)) → 0 ≤ n → n ≤ most + 281474976710657 →
    szL f most l n ≤ most + 281474976710657 ∧ n ≤ szL f most l n ∧ (szL f most l n ≤ most → szL f most l n = n + (l.map g).sum)
  | [], n, _, h0, h1 => ⟨h1, by simp [szL], by simp [szL]⟩
  | x :: r, n, H, h0, h1 => by
    rw [szL]
    split
    · rename_i hn
      have hw : wrap64 (most - n) = most - n := by unfold wrap64; omega
      obtain ⟨a1, a2, a3⟩ := H x (by simp) (most - n) (by omega) (by omega)
      rw [hw]
      have hw2 : wrap64 (n + f x (most - n)) = n + f x (most - n) := by unfold wrap64; omega
      rw [hw2]
      obtain ⟨b1, b2, b3⟩ := szL_le f g most hm r (n + f x (most - n)) (fun y hy => H y (by simp [hy])) (by omega) (by omega)
      refine ⟨b1, by omega, fun h => ?_⟩
      rw [b3 h, a3 (by omega)]
      simp only [List.map_cons, List.sum_cons]; push_cast; omega
    · exact ⟨h1, by omega, fun h => absurd h (by omega)⟩

theorem sizeF_le : ∀ (n : Nat) (t : FT n), bndF n t → ∀ k : Int, 0 ≤ k → k ≤ 2000 → sizeF n t k ≤ k + 281474976710657 ∧ 1 ≤ sizeF n t k ∧ (sizeF n t k ≤ k → sizeF n t k = tF n t)
  | 0, t, _ => nomatch t
  | n + 1, t, h => fun k h0 h1 => by
    have hs := h.1
    rw [sizeF]
    have hw : wrap64 (1 + (t.2.1.size : Int)) = 1 + t.2.1.size := by unfold wrap64; omega
    rw [hw]
    obtain ⟨a, b, c⟩ := szL_le (sizeF n) (tF n) k ⟨h0, h1⟩ t.2.2 (1 + t.2.1.size) (fun x hx => sizeF_le n x (h.2 x hx)) (by omega) (by omega)
    refine ⟨a, by omega, fun hh => ?_⟩
    rw [c hh, tF]; push_cast; omega
theorem sizeX_le {m : Nat} : ∀ (n : Nat) (t : XT m n), bndX n t → ∀ k : Int, 0 ≤ k → k ≤ 2000 → sizeX n t k ≤ k + 281474976710657 ∧ 1 ≤ sizeX n t k ∧ (sizeX n t k ≤ k → sizeX n t k = tX n t)
  | 0, t, _ => nomatch t
  | n + 1, t, h => fun k h0 h1 => by
    rw [sizeX]
    obtain ⟨a, b, c⟩ := szL_le (sizeF m) (tF m) k ⟨h0, h1⟩ t.2.1 1 (fun x hx => sizeF_le m x (h.1 x hx)) (by omega) (by omega)
    obtain ⟨a', b', c'⟩ := szL_le (sizeX n) (tX n) k ⟨h0, h1⟩ t.2.2.1 (szL (sizeF m) k t.2.1 1) (fun x hx => sizeX_le n x (h.2 x hx)) (by omega) (by omega)
    refine ⟨a', by omega, fun hh => ?_⟩
    have := c (by omega)
    rw [c' hh, tX]; push_cast; omega

theorem nF_le : ∀ (n : Nat) (t : FT n), nF n t ≤ tF n t
  | 0, t => nomatch t
  | n + 1, t => by
    have := sum_le (nF n) (tF n) t.2.2 (fun x _ => nF_le n x)
    rw [nF, tF]; omega
theorem nX_le {m : Nat} : ∀ (n : Nat) (t : XT m n), nX n t ≤ tX n t
  | 0, t => nomatch t
  | n + 1, t => by
    have h1 := sum_le (nX n) (tX n) t.2.2.1 (fun x _ => nX_le n x)
    have h2 := sum_le (nF m) (tF m) t.2.1 (fun x _ => nF_le m x)
    rw [nX, tX]; split <;> omega

theorem foldC_sum {α : Type} (f : α → Int) (g : α → Nat) : ∀ (l : List α) (a : Nat), (∀ x ∈ l, f x = g x) → a + (l.map g).sum ≤ 1000000 → foldC f a l = ((a + (l.map g).sum : Nat) : Int)
  | [], a, _, _ => by simp [foldC]
  | x :: r, a, H, h => by
    simp only [List.map_cons, List.sum_cons] at h ⊢
    have h1 := H x (by simp)
    have hw : wrap64 ((a : Int) + f x) = ((a + g x : Nat) : Int) := by rw [h1]; unfold wrap64; omega
    show foldC f (wrap64 ((a : Int) + f x)) r = _
    rw [hw, foldC_sum f g r (a + g x) (fun y hy => H y (by simp [hy])) (by omega)]
    congr 1; omega
theorem cntF_n : ∀ (n : Nat) (t : FT n), nF n t ≤ 1000000 → cntF n t = nF n t
  | 0, t, _ => nomatch t
  | n + 1, t, h => by
    rw [nF] at h
    have := foldC_sum (cntF n) (nF n) t.2.2 1 (fun x hx => cntF_n n x (by have := le_sum (nF n) t.2.2 x hx; omega)) h
    rw [cntF, nF]; exact this
theorem fmsC_n {n : Nat} (l : List (FT n)) (h : (l.map (nF n)).sum ≤ 1000000) : fmsC n l = ((l.map (nF n)).sum : Nat) := by
  have := foldC_sum (cntF n) (nF n) l 0 (fun x hx => cntF_n n x (by have := le_sum (nF n) l x hx; omega)) (by omega)
  rw [Nat.zero_add] at this
  exact this
theorem manyX_n {m : Nat} : ∀ (n : Nat) (t : XT m n), nX n t ≤ 1000000 → manyX n t = nX n t
  | 0, t, _ => nomatch t
  | n + 1, t, h => by
    rw [nX] at h
    have key : (oneX t.1 t.2.1 : Int) = ((if t.1 = 1 then (t.2.1.map (nF m)).sum else 1 : Nat) : Int) := by
      unfold oneX
      split
      · rename_i h1
        rw [if_pos h1] at h
        exact fmsC_n _ (by omega)
      · rfl
    have := foldC_sum (cntX oneX n) (nX n) t.2.2.1 _ (fun x hx => manyX_n n x (by have := le_sum (nX n) t.2.2.1 x hx; omega)) h
    rw [nX]
    show foldC (cntX oneX n) (oneX t.1 t.2.1) t.2.2.1 = _
    rw [key]; exact this

theorem max_fold_le {α : Type} (f : α → Int) : ∀ (l : List α) (a : Int), a ≤ l.foldl (fun a y => max a (f y)) a ∧ ∀ x ∈ l, f x ≤ l.foldl (fun a y => max a (f y)) a
  | [], a => ⟨by simp, by simp⟩
  | y :: r, a => by
    obtain ⟨h1, h2⟩ := max_fold_le f r (max a (f y))
    rw [List.foldl_cons]
    refine ⟨by omega, fun x hx => ?_⟩
    rcases List.mem_cons.1 hx with rfl | hx
    · omega
    · exact h2 x hx

theorem checkR_zero {m : Nat} {names : List ByteArray} {n : Nat} {x : XT m n} : checkR names n x = 0 ↔ namesR names = 0 ∧ allX rightX n x = true ∧ manyX n x ≤ 64 ∧ allX (namesX names) n x = true ∧ allX openX n x = true := by
  unfold checkR
  by_cases h1 : namesR names = 0
  · cases h2 : allX rightX n x
    · simp [h1]
    · by_cases h3 : 64 < manyX n x
      · have : ¬ manyX n x ≤ 64 := by omega
        simp [h1, h3, this]
      · cases h4 : allX (namesX names) n x
        · simp [h1, h3]
        · cases h5 : allX openX n x
          · simp [h1, h3]
          · simp [h1, h3]; omega
  · simp [h1]
theorem fmlR_zero {names : List ByteArray} {n : Nat} {f : FT n} : fmlR names n f = 0 ↔ namesR names = 0 ∧ allF rightB n f = true ∧ fmsC n [f] ≤ 64 ∧ allF (declB names) n f = true := by
  unfold fmlR
  by_cases h1 : namesR names = 0
  · cases h2 : allF rightB n f
    · simp [h1]
    · by_cases h3 : 64 < fmsC n [f]
      · have : ¬ fmsC n [f] ≤ 64 := by omega
        simp [h1, h3, this]
      · cases h4 : allF (declB names) n f
        · simp [h1, h3]
        · simp [h1, h3]; omega
  · simp [h1]

theorem declF_more (more : ByteArray) (names : List ByteArray) : ∀ (n : Nat) (t : FT n), allF (declB names) n t = true → allF (declB (more :: names)) n t = true
  | 0, t, _ => nomatch t
  | n + 1, t, h => by
    rw [allF, Bool.and_eq_true, List.all_eq_true] at h ⊢
    refine ⟨?_, fun x hx => declF_more more names n x (h.2 x hx)⟩
    have h1 := h.1
    unfold declB at h1 ⊢
    rw [Bool.or_eq_true] at h1 ⊢
    rcases h1 with h1 | h1
    · exact .inl h1
    · exact .inr (by unfold inN at h1 ⊢; rw [List.any_cons, h1]; simp)
theorem namesX_more {m : Nat} (more : ByteArray) (names : List ByteArray) : ∀ (n : Nat) (t : XT m n), allX (namesX names) n t = true → allX (namesX (more :: names)) n t = true
  | 0, t, _ => nomatch t
  | n + 1, t, h => by
    rw [allX, Bool.and_eq_true, List.all_eq_true] at h ⊢
    refine ⟨?_, fun x hx => namesX_more more names n x (h.2 x hx)⟩
    have h1 := h.1
    unfold namesX at h1 ⊢
    rw [List.all_eq_true] at h1 ⊢
    exact fun f hf => declF_more more names m f (h1 f hf)

/-- The stage's theorem, of what is not great. -/
theorem parts_plain {m n : Nat} (names : List ByteArray) (x : XT m (n + 1)) (hb : bndX (n + 1) x) (hg : sizeX (n + 1) x 2000 ≤ 2000) (hc : checkR names (n + 1) x = 0) :
    (1 ≤ manyX (n + 1) x ∧ manyX (n + 1) x ≤ 64) ∧ (∀ y ∈ x.2.2.1, checkR names n y = 0 ∧ constX n y ≤ constX (n + 1) x) ∧
      (x.2.2.1 ≠ [] → manyX (n + 1) x = wrap64 (foldC (manyX n) 0 x.2.2.1 + 1)) ∧ (∀ f ∈ x.2.1, fmlR names m f = 0) ∧
      ∀ more, namesR (more :: names) = 0 → checkR (more :: names) (n + 1) x = 0 := by
  obtain ⟨c1, c2, c3, c4, c5⟩ := checkR_zero.1 hc
  obtain ⟨_, _, hz⟩ := sizeX_le (n + 1) x hb 2000 (by omega) (by omega)
  have hz := hz hg
  have hn := nX_le (n + 1) x
  have ht : nX (n + 1) x ≤ 2000 := by omega
  have hmn := manyX_n (n + 1) x (by omega)
  have h64 : nX (n + 1) x ≤ 64 := by omega
  have e := h64
  rw [nX] at e
  have hch : ∀ y ∈ x.2.2.1, manyX n y = nX n y ∧ nX n y ≤ 64 := fun y hy => by
    have := le_sum (nX n) x.2.2.1 y hy
    exact ⟨manyX_n n y (by omega), by omega⟩
  rw [allX, Bool.and_eq_true, List.all_eq_true] at c2 c4 c5
  have hr := c2.1
  unfold rightX at hr
  simp only [Bool.and_eq_true, decide_eq_true_eq, beq_iff_eq] at hr
  obtain ⟨⟨⟨⟨⟨r1, r2⟩, r3⟩, r4⟩, r5⟩, r6⟩ := hr
  have hpos : 1 ≤ nX (n + 1) x := by
    rw [nX]
    split
    · rename_i h1
      rw [if_pos h1, Bool.and_eq_true, beq_iff_eq] at r6
      obtain ⟨f, hf⟩ := List.length_eq_one_iff.1 r6.1
      have : 1 ≤ nF m f := by
        cases m with
        | zero => exact nomatch f
        | succ m => rw [nF]; omega
      rw [hf]; simp; omega
    · omega
  refine ⟨⟨by omega, by omega⟩, fun y hy => ⟨checkR_zero.2 ⟨c1, c2.2 y hy, by have := hch y hy; omega, c4.2 y hy, c5.2 y hy⟩, (max_fold_le (constX n) x.2.2.1 _).2 y hy⟩, fun hne => ?_, fun f hf => ?_, fun more hm => ?_⟩
  · have hk : x.1 ≠ 1 := fun h1 => by
      rw [h1] at r3
      exact hne (List.eq_nil_of_length_eq_zero r3)
    rw [if_neg hk] at e
    have hs := foldC_sum (manyX n) (nX n) x.2.2.1 0 (fun y hy => (hch y hy).1) (by omega)
    have hs' : foldC (manyX n) 0 x.2.2.1 = ((x.2.2.1.map (nX n)).sum : Nat) := by rw [Nat.zero_add] at hs; exact hs
    rw [hs', hmn, nX, if_neg hk]
    unfold wrap64; omega
  · have hk : x.1 = 1 := by
      by_cases h1 : x.1 = 1
      · exact h1
      · rw [if_neg h1, beq_iff_eq] at r6
        rw [List.eq_nil_of_length_eq_zero r6] at hf
        exact absurd hf (by simp)
    rw [if_pos hk, Bool.and_eq_true, List.all_eq_true] at r6
    rw [if_pos hk] at e
    have h1 := le_sum (nF m) x.2.1 f hf
    have h2 : fmsC m [f] = ((([f] : List (FT m)).map (nF m)).sum : Nat) := fmsC_n [f] (by simp; omega)
    have h4 := c4.1
    unfold namesX at h4
    rw [List.all_eq_true] at h4
    exact fmlR_zero.2 ⟨c1, r6.2 f hf, by rw [h2]; simp; omega, h4 f hf⟩
  · refine checkR_zero.2 ⟨hm, ?_, c3, ?_, ?_⟩
    · rw [allX, Bool.and_eq_true, List.all_eq_true]; exact c2
    · exact namesX_more more names (n + 1) x (by rw [allX, Bool.and_eq_true, List.all_eq_true]; exact c4)
    · rw [allX, Bool.and_eq_true, List.all_eq_true]; exact c5

/-- A longer interval is no emptier. -/
theorem wider_plain (i : Spn) (by_ : Int) (h : ivR i = 0) (ho : i.op = false) (h0 : 0 ≤ by_) (h1 : by_ < 288230376151711744) :
    ivR ⟨i.low, false, i.high, false, i.op⟩ = 0 ∧ (288230376151711744 ≤ wrap64 (i.high + by_) ∨ ivR ⟨i.low, i.ls, wrap64 (i.high + by_), i.hs, i.op⟩ = 0) ∧ ivR ⟨i.low, i.ls, 0, false, true⟩ = 0 := by
  obtain ⟨lo, ls, hi, hs, op⟩ := i
  dsimp only at ho h ⊢
  subst ho
  have key : belowC lo = true ∧ belowC hi = true ∧ (hi < lo) = False ∧ ((lo = hi) → ls = false ∧ hs = false) := by
    have e1 : belowC lo = true := by
      cases e : belowC lo with
      | true => rfl
      | false => simp [ivR, e] at h
    have e2 : belowC hi = true := by
      cases e : belowC hi with
      | true => rfl
      | false => simp [ivR, e, e1] at h
    have e3 : ¬ hi < lo := fun hlt => by simp [ivR, e1, e2, hlt] at h
    refine ⟨e1, e2, by simp [e3], fun e => ?_⟩
    subst e
    cases ls <;> cases hs <;> simp [ivR, e1] at h ⊢
  obtain ⟨k1, k2, k3, k4⟩ := key
  have b1 := k1
  have b2 := k2
  unfold belowC at b1 b2
  simp only [Bool.and_eq_true, decide_eq_true_eq] at b1 b2
  have hlt : ¬ hi < lo := by rw [k3]; exact id
  have hw : wrap64 (hi + by_) = hi + by_ := by unfold wrap64; omega
  rw [hw]
  refine ⟨?_, ?_, ?_⟩
  · unfold ivR
    simp [k1, k2]; omega
  · by_cases hc : 288230376151711744 ≤ hi + by_
    · exact .inl hc
    · right
      have k5 : belowC (hi + by_) = true := by unfold belowC; simp; omega
      unfold ivR
      simp only [k1, k5]
      by_cases e : lo = hi + by_
      · have hb : by_ = 0 := by omega
        subst hb
        obtain ⟨s1, s2⟩ := k4 (by omega)
        subst s1 s2
        simp; omega
      · have : (lo == hi + by_) = false := by simpa using e
        simp [this]; omega
  · unfold ivR
    have k6 : belowC 0 = true := by decide
    simp [k1, k6]
end Go.Proofs.YtockinpjfhhkoaaGreatDoor

/- Plain: names that are not great are short ones. No program. -/
namespace Go.Proofs.YtockinpjfhhkoaaGreatDoor
open Go.RowKit

/-- How much names are, up to a bound. -/
def gnGo : List ByteArray → Int → Int
  | [], n => n
  | s :: r, n => if n < 10000 then gnGo r (wrap64 (wrap64 (n + 1) + s.size)) else n
def greatN (l : List ByteArray) : Bool := decide (5000 < gnGo l 0)
theorem gnGo_drop (l : List ByteArray) (k : Nat) (n : Int) (h : k < l.length) (hn : n < 10000) : gnGo (l.drop k) n = gnGo (l.drop (k + 1)) (wrap64 (wrap64 (n + 1) + l[k].size)) := by
  rw [List.drop_eq_getElem_cons h, gnGo, if_pos hn]
theorem gnGo_stop (l : List ByteArray) (n : Int) (hn : ¬ n < 10000) : gnGo l n = n := by
  cases l with
  | nil => rfl
  | cons x r => rw [gnGo, if_neg hn]
theorem gnGo_end (l : List ByteArray) (n : Int) : gnGo (l.drop l.length) n = n := by rw [List.drop_length]; rfl
theorem gnGo_le : ∀ (l : List ByteArray) (n : Int), (∀ s ∈ l, s.size ≤ 281474976710656) → 0 ≤ n → n ≤ 300000000000000 → n ≤ gnGo l n ∧ (gnGo l n ≤ 5000 → ∀ s ∈ l, s.size ≤ 5000)
  | [], n, _, _, _ => ⟨by simp [gnGo], fun _ s hs => absurd hs (by simp)⟩
  | x :: r, n, H, h0, h1 => by
    rw [gnGo]
    split
    · rename_i hn
      have hx := H x (by simp)
      have hw : wrap64 (wrap64 (n + 1) + x.size) = n + 1 + x.size := by unfold wrap64; omega
      rw [hw]
      obtain ⟨a, b⟩ := gnGo_le r (n + 1 + x.size) (fun s hs => H s (by simp [hs])) (by omega) (by omega)
      refine ⟨by omega, fun h s hs => ?_⟩
      rcases List.mem_cons.1 hs with rfl | hs
      · omega
      · exact b h s hs
    · rename_i hn
      exact ⟨Int.le_refl _, fun h => absurd h (by omega)⟩
theorem greatN_not {l : List ByteArray} (h : greatN l = false) (H : ∀ s ∈ l, s.size ≤ 281474976710656) : ∀ s ∈ l, s.size ≤ 1048576 := by
  intro s hs
  have h1 : gnGo l 0 ≤ 5000 := by unfold greatN at h; simpa using h
  have := (gnGo_le l 0 H (by omega) (by omega)).2 h1 s hs
  omega
end Go.Proofs.YtockinpjfhhkoaaGreatDoor
