/- The plain law: what is merged is the same function. -/
import Derived.Test.YtnpaoekblfflmaaSigK
namespace Go.Proofs.Ytnpaoekblfflmaa
open Go.RowKit Go.Shelf

/-- What holds from a moment on, as numbers. -/
def valF : List (Int × Int) → Int → Int
  | [], _ => 0
  | x :: r, m => if m < x.1 then x.2 else valF r (m - x.1)
theorem ofF_val : ∀ (l : List (Int × Int)) (m : Int), 0 ≤ m → m ≤ 9223372036854775807 → Long1 l → ofF l m = valF l m
  | [], _, _, _, _ => rfl
  | x :: r, m, h0, h1, hl => by
    have hx := hl x (by simp)
    simp only [ofF, valF]
    split
    · rfl
    · rw [IntWalk.wrap64_in _ (by omega), ofF_val r _ (by omega) (by omega) hl.tail]

theorem sumL_append : ∀ (a b : List (Int × Int)), sumL (a ++ b) = sumL a + sumL b
  | [], b => by simp [sumL]
  | x :: a, b => by simp only [List.cons_append, sumL, sumL_append a b]; omega
theorem Long1.append {a b : List (Int × Int)} (ha : Long1 a) (hb : Long1 b) : Long1 (a ++ b) := fun s hs => by
  rw [List.mem_append] at hs
  exact hs.elim (ha s) (hb s)
theorem Long1.left {a b : List (Int × Int)} (h : Long1 (a ++ b)) : Long1 a := fun s hs => h s (by simp [hs])
theorem Long1.right {a b : List (Int × Int)} (h : Long1 (a ++ b)) : Long1 b := fun s hs => h s (by simp [hs])

theorem valF_congr {q q' : List (Int × Int)} (h : ∀ m, 0 ≤ m → valF q m = valF q' m) : ∀ (pre : List (Int × Int)), Long1 pre → ∀ m, 0 ≤ m → valF (pre ++ q) m = valF (pre ++ q') m
  | [], _, m, hm => h m hm
  | x :: pre, hl, m, hm => by
    have hx := hl x (by simp)
    simp only [List.cons_append, valF]
    split
    · rfl
    · exact valF_congr h pre hl.tail _ (by omega)

theorem mstep_val (out : List (Int × Int)) (s : Int × Int) (r : List (Int × Int)) (hl : Long1 (out ++ s :: r)) (hs : sumL (out ++ s :: r) < 288230376151711744) :
    sumL (mstep out s ++ r) = sumL (out ++ s :: r) ∧ Long1 (mstep out s ++ r) ∧ ∀ m, 0 ≤ m → valF (mstep out s ++ r) m = valF (out ++ s :: r) m := by
  rcases List.eq_nil_or_concat out with rfl | ⟨pre, t, rfl⟩
  · rw [mstep_nil]
    exact ⟨rfl, hl, fun _ _ => rfl⟩
  · rw [List.concat_eq_append] at hl hs ⊢
    have ht := hl t (by simp)
    have hx := hl s (by simp)
    have hp : Long1 pre := hl.left.left
    have hr : Long1 r := (hl.right).tail
    have h1 := sumL_nonneg hp
    have h2 := sumL_nonneg hr
    simp only [sumL_append, sumL] at hs
    by_cases h : t.2 = s.2
    · rw [mstep_same _ _ _ h, IntWalk.wrap64_in _ (by omega)]
      refine ⟨?_, ?_, ?_⟩
      · simp only [sumL_append, sumL]; omega
      · refine Long1.append (Long1.append hp ?_) hr
        intro x hx'
        rw [List.mem_singleton] at hx'
        subst hx'
        show 1 ≤ t.1 + s.1 ∧ t.1 + s.1 ≤ _
        omega
      · intro m hm
        rw [List.append_assoc, List.append_assoc]
        refine valF_congr (fun m hm => ?_) pre hp m hm
        simp only [List.cons_append, List.nil_append, valF]
        by_cases h3 : m < t.1
        · rw [if_pos (by omega), if_pos h3]
        · rw [if_neg h3]
          by_cases h4 : m - t.1 < s.1
          · rw [if_pos (by omega), if_pos h4, h]
          · rw [if_neg (by omega), if_neg h4]
            congr 1
            omega
    · rw [mstep_other _ _ _ h]
      have e : pre ++ [t] ++ [s] ++ r = pre ++ [t] ++ s :: r := by simp
      rw [e]
      exact ⟨rfl, hl, fun _ _ => rfl⟩

theorem foldl_val : ∀ (l out : List (Int × Int)), Long1 (out ++ l) → sumL (out ++ l) < 288230376151711744 →
    sumL (l.foldl mstep out) = sumL (out ++ l) ∧ Long1 (l.foldl mstep out) ∧ ∀ m, 0 ≤ m → valF (l.foldl mstep out) m = valF (out ++ l) m
  | [], out, hl, _ => by
    rw [List.append_nil] at hl ⊢
    exact ⟨rfl, hl, fun _ _ => rfl⟩
  | s :: r, out, hl, hs => by
    obtain ⟨h1, h2, h3⟩ := mstep_val out s r hl hs
    obtain ⟨g1, g2, g3⟩ := foldl_val r (mstep out s) h2 (by rw [h1]; exact hs)
    exact ⟨g1.trans h1, g2, fun m hm => (g3 m hm).trans (h3 m hm)⟩

theorem merged_val {l : List (Int × Int)} (hl : Long1 l) (hs : sumL l < 288230376151711744) : sumL (mergedL l) = sumL l ∧ Long1 (mergedL l) ∧ ∀ m, 0 ≤ m → valF (mergedL l) m = valF l m :=
  foldl_val l [] hl hs

theorem on22_val {l : List (Int × Int)} (hl : Long1 l) (hs : sumL l < 288230376151711744) (hf : l.any farB = false) {m : Int} (hm : m ≤ 9223372036854775807) :
    on22 0 l m = if m < 0 ∨ sumL l ≤ m then (0, 2) else (valF l m, 0) := by
  rw [on22, if_pos rfl, total22_sum hl hf, if_pos hs]
  by_cases h : m < 0 ∨ sumL l ≤ m
  · rw [if_pos h, if_pos h]
  · rw [if_neg h, if_neg h, ofF_val l m (by omega) hm hl]

/-- Two that are merged to the same are as long, and the same from each moment on. -/
theorem same_long {p : Int} {l r : List (Int × Int)} (hl : ∀ s ∈ l, InR s) (hr : ∀ s ∈ r, InR s) (hc : checkP p l = 0) (hd : checkP p r = 0) (h : mergedL l = mergedL r) : total22 l = total22 r := by
  obtain ⟨l1, ls, lf⟩ := good_of hl hc
  obtain ⟨r1, rs, rf⟩ := good_of hr hd
  have a := (merged_val l1 ls).1
  have b := (merged_val r1 rs).1
  rw [h] at a
  rw [total22_sum l1 lf, total22_sum r1 rf, ← a, ← b]
theorem same_on {p m : Int} {l r : List (Int × Int)} (hl : ∀ s ∈ l, InR s) (hr : ∀ s ∈ r, InR s) (hc : checkP p l = 0) (hd : checkP p r = 0) (h : mergedL l = mergedL r) (hm : m ≤ 9223372036854775807) : on22 0 l m = on22 0 r m := by
  obtain ⟨l1, ls, lf⟩ := good_of hl hc
  obtain ⟨r1, rs, rf⟩ := good_of hr hd
  obtain ⟨a, _, a3⟩ := merged_val l1 ls
  obtain ⟨b, _, b3⟩ := merged_val r1 rs
  rw [h] at a a3
  rw [on22_val l1 ls lf hm, on22_val r1 rs rf hm, ← a, ← b]
  by_cases h0 : m < 0 ∨ sumL (mergedL r) ≤ m
  · rw [if_pos h0, if_pos h0]
  · rw [if_neg h0, if_neg h0, ← a3 m (by omega), ← b3 m (by omega)]
end Go.Proofs.Ytnpaoekblfflmaa
