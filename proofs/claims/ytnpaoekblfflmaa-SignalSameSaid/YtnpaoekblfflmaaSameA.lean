/- The plain law of SignalSame: what is merged, and cut, may be, and is merged to the same. -/
import Derived.Test.YtnpaoekblfflmaaSigU
namespace Go.Proofs.Ytnpaoekblfflmaa
open Go.RowKit Go.Shelf

/-- No two neighbours say the same. -/
def Sep (L : List (Int × Int)) : Prop := ∀ pre a b post, L = pre ++ a :: b :: post → a.2 ≠ b.2
theorem sep_nil : Sep [] := fun pre a b post h => by simp at h
theorem sep_one (s : Int × Int) : Sep [s] := fun pre a b post h => by
  have := congrArg List.length h
  simp at this; omega
theorem sep_snoc {pre : List (Int × Int)} {t s : Int × Int} (h : Sep (pre ++ [t])) (hne : t.2 ≠ s.2) : Sep (pre ++ [t] ++ [s]) := fun p a b post e => by
  rcases List.eq_nil_or_concat post with rfl | ⟨q, u, rfl⟩
  · have e2 : (pre ++ [t]) ++ [s] = (p ++ [a]) ++ [b] := by rw [e]; simp
    obtain ⟨e3, e4⟩ := List.append_inj' e2 rfl
    obtain ⟨_, e5⟩ := List.append_inj' e3 rfl
    injection e4 with e4
    injection e5 with e5
    rw [← e4, ← e5]; exact hne
  · have e2 : (pre ++ [t]) ++ [s] = (p ++ a :: b :: q) ++ [u] := by rw [e]; simp
    obtain ⟨e3, _⟩ := List.append_inj' e2 rfl
    exact h p a b q e3
theorem sep_last {pre : List (Int × Int)} {t : Int × Int} (x : Int) (h : Sep (pre ++ [t])) : Sep (pre ++ [(x, t.2)]) := fun p a b post e => by
  rcases List.eq_nil_or_concat post with rfl | ⟨q, u, rfl⟩
  · have e2 : pre ++ [(x, t.2)] = (p ++ [a]) ++ [b] := by rw [e]; simp
    obtain ⟨e3, e4⟩ := List.append_inj' e2 rfl
    injection e4 with e4
    have := h p a t [] (by rw [e3]; simp)
    rw [← e4]; exact this
  · have e2 : pre ++ [(x, t.2)] = (p ++ a :: b :: q) ++ [u] := by rw [e]; simp
    obtain ⟨e3, _⟩ := List.append_inj' e2 rfl
    exact h p a b (q ++ [t]) (by rw [e3]; simp)
theorem mstep_sep (out : List (Int × Int)) (s : Int × Int) (h : Sep out) : Sep (mstep out s) := by
  rcases List.eq_nil_or_concat out with rfl | ⟨pre, t, rfl⟩
  · rw [mstep_nil]; exact sep_one s
  · rw [List.concat_eq_append] at h ⊢
    by_cases hs : t.2 = s.2
    · rw [mstep_same _ _ _ hs]; exact sep_last _ h
    · rw [mstep_other _ _ _ hs]; exact sep_snoc h hs
theorem foldl_sep : ∀ (l out : List (Int × Int)), Sep out → Sep (l.foldl mstep out)
  | [], _, h => h
  | s :: r, out, h => foldl_sep r _ (mstep_sep out s h)
theorem mergedL_sep (l : List (Int × Int)) : Sep (mergedL l) := foldl_sep l [] sep_nil
theorem sep_fold : ∀ (L out : List (Int × Int)), Sep (out ++ L) → L.foldl mstep out = out ++ L
  | [], out, _ => by simp
  | s :: r, out, h => by
    have e : mstep out s = out ++ [s] := by
      rcases List.eq_nil_or_concat out with rfl | ⟨pre, t, rfl⟩
      · rfl
      · rw [List.concat_eq_append] at h ⊢
        exact mstep_other _ _ _ (h pre t s r (by simp))
    rw [List.foldl_cons, e, sep_fold r (out ++ [s]) (by simpa using h)]
    simp
theorem merged_twice (l : List (Int × Int)) : mergedL (mergedL l) = mergedL l := by
  have := sep_fold (mergedL l) [] (by simpa using mergedL_sep l)
  simpa [mergedL] using this
theorem sep_get {L : List (Int × Int)} (h : Sep L) (j : Nat) (hj : j + 1 < L.length) : L[j].2 ≠ L[j + 1].2 := by
  refine h (L.take j) L[j] L[j + 1] (L.drop (j + 2)) ?_
  conv => lhs; rw [← List.take_append_drop j L, List.drop_eq_getElem_cons (by omega), List.drop_eq_getElem_cons hj]

def OnP (p : Int) (l : List (Int × Int)) : Prop := ∀ s ∈ l, s.2 < 2 ^ p.toNat
theorem mstep_on {p : Int} {out : List (Int × Int)} {s : Int × Int} (ho : OnP p out) (hs : s.2 < 2 ^ p.toNat) : OnP p (mstep out s) := by
  rcases List.eq_nil_or_concat out with rfl | ⟨pre, t, rfl⟩
  · rw [mstep_nil]; intro x hx; rw [List.mem_singleton] at hx; rw [hx]; exact hs
  · rw [List.concat_eq_append] at ho ⊢
    by_cases h : t.2 = s.2
    · rw [mstep_same _ _ _ h]
      intro x hx
      rw [List.mem_append, List.mem_singleton] at hx
      rcases hx with hx | rfl
      · exact ho x (by simp [hx])
      · exact ho t (by simp)
    · rw [mstep_other _ _ _ h]
      intro x hx
      rw [List.mem_append, List.mem_singleton] at hx
      rcases hx with hx | rfl
      · exact ho x hx
      · exact hs
theorem foldl_on {p : Int} : ∀ (l out : List (Int × Int)), OnP p out → OnP p l → OnP p (l.foldl mstep out)
  | [], _, h, _ => h
  | s :: r, out, h, hl => foldl_on r _ (mstep_on h (hl s (by simp))) (fun x hx => hl x (by simp [hx]))

theorem check_ok {p : Int} {L : List (Int × Int)} (hp : ¬(p < 0 ∨ 8 < p)) (h2 : L.length ≤ 1024) (hl : Long1 L) (ho : OnP p L) (hs : sumL L < 288230376151711744) : checkP p L = 0 := by
  have hb : L.any (badB p) = false := by
    rw [List.any_eq_false]
    intro s hs
    have := hl s hs
    have := ho s hs
    simp [badB]; omega
  rw [checkP_far hp (by omega) hb, farE, itemsTo_from, anyFar L 0 (by omega) (by omega) hl, Int.zero_add, decide_eq_false (by omega)]
  rfl
theorem check_inv {p : Int} {l : List (Int × Int)} (hc : checkP p l = 0) : ¬(p < 0 ∨ 8 < p) ∧ l.length ≤ 1024 ∧ OnP p l := by
  refine ⟨fun h => by rw [checkP_arg h] at hc; simp at hc, checkP_short hc, fun s hs => ?_⟩
  have h1 : ¬(p < 0 ∨ 8 < p) := fun h => by rw [checkP_arg h] at hc; simp at hc
  cases hb : l.any (badB p)
  · have := List.any_eq_false.1 hb s hs
    simp [badB] at this
    omega
  · rw [checkP_bad h1 (by have := checkP_short hc; omega) hb] at hc; simp at hc

theorem check_merged {p : Int} {l : List (Int × Int)} (hr : ∀ s ∈ l, InR s) (hc : checkP p l = 0) : checkP p (mergedL l) = 0 := by
  obtain ⟨hp, hn, ho⟩ := check_inv hc
  obtain ⟨hl, hs, _⟩ := good_of hr hc
  obtain ⟨h1, h2, _⟩ := merged_val hl hs
  exact check_ok hp (by have := mergedL_length l; omega) h2 (foldl_on l [] (fun x hx => by cases hx) ho) (by omega)

theorem wrap_split (U y : Int) (h : -9223372036854775808 ≤ y ∧ y ≤ 9223372036854775807) : wrap64 (U + wrap64 (y - U)) = y := by unfold wrap64; omega
theorem wrap_add (a b c : Int) : wrap64 (wrap64 (a + b) + wrap64 (c - b)) = wrap64 (a + c) := by unfold wrap64; omega
theorem mstep_split (O : List (Int × Int)) (U y z : Int) (h : -9223372036854775808 ≤ y ∧ y ≤ 9223372036854775807) : mstep (mstep O (U, z)) (wrap64 (y - U), z) = mstep O (y, z) := by
  rcases List.eq_nil_or_concat O with rfl | ⟨pre, t, rfl⟩
  · rw [mstep_nil, mstep_nil]
    have := mstep_same [] (U, z) (wrap64 (y - U), z) rfl
    simp only [List.nil_append] at this
    rw [this, wrap_split U y h]
  · rw [List.concat_eq_append]
    by_cases hz : t.2 = z
    · rw [mstep_same pre t (U, z) hz, mstep_same pre (wrap64 (t.1 + U), t.2) (wrap64 (y - U), z) hz, mstep_same pre t (y, z) hz]
      simp only [wrap_add]
    · rw [mstep_other pre t (U, z) hz, mstep_other pre t (y, z) hz, mstep_same (pre ++ [t]) (U, z) (wrap64 (y - U), z) rfl]
      simp only [wrap_split U y h]
theorem itemOf_get {l : List (Int × Int)} {k : Nat} (h : k < l.length) : itemOf l k = (atOf l k, l[k].1, l[k].2) := by rw [itemOf, List.getElem?_eq_getElem h, Option.getD_some]
theorem merged_cut {l : List (Int × Int)} (hr : ∀ s ∈ l, InR s) (m : Int) : ∀ k, k ≤ l.length → mergedL (cutTo m l k) = mTo l k
  | 0, _ => by simp [cutTo, itemsTo, mergedL, mTo]
  | k + 1, h => by
    have ih := merged_cut hr m k (by omega)
    have hk := hr l[k] (List.getElem_mem (by omega))
    rw [mTo_succ l k (by omega), ← ih, cutTo_succ, itemOf_get (by omega), cutStep]
    unfold mergedL
    split
    · rw [List.foldl_append, List.foldl_append]
      exact mstep_split _ _ _ _ ⟨hk.1, hk.2.1⟩
    · rw [List.foldl_append]; rfl

theorem cut_good {p m : Int} {l : List (Int × Int)} (hl : Long1 l) (hs : sumL l < 288230376151711744) (ho : OnP p l) (hm1 : m ≤ sumL l) : ∀ k, k ≤ l.length → Long1 (cutTo m l k) ∧ sumL (cutTo m l k) = atOf l k ∧ OnP p (cutTo m l k)
  | 0, _ => by simp [cutTo, itemsTo, sumL, atOf, Long1, OnP]
  | k + 1, h => by
    obtain ⟨h1, h2, h3⟩ := cut_good (p := p) hl hs ho hm1 k (by omega)
    obtain ⟨e1, a0, a1⟩ := atOf_take hl hs k (by omega)
    obtain ⟨e2, b0, b1⟩ := atOf_take hl hs (k + 1) h
    have hk := hl l[k] (List.getElem_mem (by omega))
    have hok := ho l[k] (List.getElem_mem (by omega))
    have hat : atOf l (k + 1) = wrap64 (atOf l k + l[k].1) := by rw [atOf, List.getElem?_eq_getElem (by omega), Option.getD_some]
    have hwr : atOf l (k + 1) = atOf l k + l[k].1 := by
      rw [e2, e1, List.take_succ_eq_append_getElem (by omega), sumL_append]
      simp [sumL]
    rw [cutTo_succ, itemOf_get (by omega), cutStep]
    simp only
    rw [← hat]
    by_cases hc : atOf l k < m ∧ m < atOf l (k + 1)
    · rw [if_pos hc, IntWalk.wrap64_in (m - atOf l k) (by omega), IntWalk.wrap64_in (l[k].1 - (m - atOf l k)) (by omega)]
      refine ⟨?_, ?_, ?_⟩
      · intro s hs
        simp only [List.mem_append, List.mem_singleton] at hs
        rcases hs with (hs | rfl) | rfl
        · exact h1 s hs
        · simp only; omega
        · simp only; omega
      · simp only [sumL_append, sumL]; omega
      · intro s hs
        simp only [List.mem_append, List.mem_singleton] at hs
        rcases hs with (hs | rfl) | rfl
        · exact h3 s hs
        · exact hok
        · exact hok
    · rw [if_neg hc]
      refine ⟨?_, ?_, ?_⟩
      · intro s hs
        simp only [List.mem_append, List.mem_singleton] at hs
        rcases hs with hs | rfl
        · exact h1 s hs
        · exact hk
      · simp only [sumL_append, sumL]; omega
      · intro s hs
        simp only [List.mem_append, List.mem_singleton] at hs
        rcases hs with hs | rfl
        · exact h3 s hs
        · exact hok

/-- A signal that is cut may be, and is merged to the same. -/
theorem check_cut {p m : Int} {l : List (Int × Int)} (hr : ∀ s ∈ l, InR s) (hc : checkP p l = 0) (hd : (cutA 0 l m).2 = 0) : checkP p (cutA 0 l m).1 = 0 ∧ mergedL (cutA 0 l m).1 = mergedL l := by
  rw [cutA, if_pos rfl] at hd ⊢
  unfold cutP at hd ⊢
  split
  · rename_i h; rw [if_pos h] at hd; simp at hd
  rename_i hm
  rw [if_neg hm] at hd
  split
  · rename_i h; rw [if_pos h] at hd; simp at hd
  rename_i hn
  obtain ⟨hp, _, ho⟩ := check_inv hc
  obtain ⟨hl, hs, hf⟩ := good_of hr hc
  have ht : total22 l = sumL l := by rw [total22_sum hl hf, if_pos hs]
  obtain ⟨h1, h2, h3⟩ := cut_good (p := p) (m := m) hl hs ho (by omega) l.length (Nat.le_refl _)
  obtain ⟨e1, _, e3⟩ := atOf_take hl hs l.length (Nat.le_refl _)
  refine ⟨check_ok hp (by simp only; omega) h1 h3 (by simp only; omega), ?_⟩
  rw [merged_cut hr m l.length (Nat.le_refl _), mTo_all]
end Go.Proofs.Ytnpaoekblfflmaa
