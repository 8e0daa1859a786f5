/- The book's Great, Near and Glue. -/
import Derived.Test.YtabpfbgcdmejbaaDoorCutB
namespace Go.Proofs.YtabpfbgcdmejbaaDoor
open Go.RowKit Go.Shelf
attribute [local go_sem ↓] Go.wp_at_zero Go.wp_at_succ

def sumT (l : List Tok) (k : Nat) : Nat := l.length + ((l.take k).map (·.text.size)).sum
theorem sumT_succ (l : List Tok) (k : Nat) (h : k < l.length) : sumT l (k + 1) = sumT l k + (l[k]).text.size := by
  simp only [sumT, List.take_succ_eq_append_getElem h, List.map_append, List.sum_append]
  simp; omega
theorem sumT_mono (l : List Tok) (k : Nat) : ∀ d, sumT l k ≤ sumT l (k + d)
  | 0 => Nat.le_refl _
  | d + 1 => by
    refine Nat.le_trans (sumT_mono l k d) ?_
    by_cases h : k + d < l.length
    · rw [← Nat.add_assoc, sumT_succ l _ h]; omega
    · simp only [sumT, List.take_of_length_le (show l.length ≤ k + d by omega), List.take_of_length_le (show l.length ≤ k + (d + 1) by omega)]
      exact Nat.le_refl _
def greatB (l : List Tok) : Bool := decide (20000 < sumT l l.length)
theorem greatB_over (l : List Tok) (k : Nat) (hk : k ≤ l.length) (h : 20000 < sumT l k) : greatB l = true := by
  have := sumT_mono l k (l.length - k)
  rw [show k + (l.length - k) = l.length by omega] at this
  exact decide_eq_true (by omega)

theorem kindB_ne (l : List UInt8) (h : kindB l ≠ 0) : l ≠ [] := by rintro rfl; exact h rfl
theorem mayB_ne {k p : Int} {t : List UInt8} (h : mayB k t p = true) : kindOf t ≠ 0 ∧ k = kindOf t ∧ 0 ≤ p := by
  simp only [mayB, Bool.and_eq_true, bne_iff_ne, ne_eq, beq_iff_eq, decide_eq_true_eq, kindB_eq] at h
  exact ⟨fun h0 => h.1.1 (h.1.2.trans h0), h.1.2, h.2⟩
theorem pos_of_kind {s : ByteArray} (h : kindOf s.data.toList ≠ 0) : 0 < s.size := by
  rw [← size_list]
  exact List.length_pos_iff.2 (kindOf_ne _ h)

def nearB (a b : Tok) : Bool × Int := if mayB a.kind a.text.data.toList a.place && mayB b.kind b.text.data.toList b.place then (apart a.text.data.toList b.text.data.toList, 0) else (false, 8)
theorem pair_ret {a b : Bool} {c d : Int} {k : IntKind} (h : a = b) (h2 : c = d) : Ending.returned (.tuple #[.bool a, .int k c]) = .returned (.tuple #[.bool b, .int k d]) := by rw [h, h2]

def mayT (t : Tok) : Bool := mayB t.kind t.text.data.toList t.place
/-- What the book's Glue answers. -/
def glueP (l : List Tok) : List UInt8 × Int := if l.all mayT then (if (glue (textsOf l)).length ≤ 4096 then (glue (textsOf l), 0) else ([], 3)) else ([], 8)
theorem textsOf_snoc (l : List Tok) (t : Tok) : textsOf (l ++ [t]) = textsOf l ++ [t.text.data.toList] := by simp [textsOf]
theorem bsOf_append (a b : List UInt8) : bsOf a ++ bsOf b = bsOf (a ++ b) := by
  apply ByteArray.ext
  simp [bsOf, ByteArray.data_append]
theorem bsOf_size (a : List UInt8) : (bsOf a).size = a.length := by rw [← size_list, bsOf_list]
theorem sumT_take (l : List Tok) (k : Nat) (hk : k ≤ l.length) : ((textsOf (l.take k)).map List.length).sum + l.length = sumT l k := by
  have : (textsOf (l.take k)).map List.length = (l.take k).map (·.text.size) := by
    simp only [textsOf, List.map_map]
    exact List.map_congr_left (fun t _ => size_list t.text)
  rw [this, sumT]; omega
theorem glue_take_len (l : List Tok) (k : Nat) (hk : k ≤ l.length) (hg : sumT l l.length ≤ 20000) : (glue (textsOf (l.take k))).length ≤ 20000 := by
  have h1 := glue_len (textsOf (l.take k))
  have h2 := sumT_take l k hk
  have h3 := sumT_mono l k (l.length - k)
  rw [show k + (l.length - k) = l.length by omega] at h3
  have h4 : (textsOf (l.take k)).length = k := by simp [textsOf]; omega
  omega
theorem text_len (l : List Tok) (k : Nat) (hk : k < l.length) (hg : sumT l l.length ≤ 20000) : (l[k]).text.size ≤ 20000 := by
  have h1 := sumT_succ l k hk
  have h3 := sumT_mono l (k + 1) (l.length - (k + 1))
  rw [show (k + 1) + (l.length - (k + 1)) = l.length by omega] at h3
  omega
theorem lastOf_take (l : List Tok) (k : Nat) (hk : k < l.length) : lastOf [] (textsOf (l.take (k + 1))) = (l[k]).text.data.toList := by
  rw [List.take_succ_eq_append_getElem hk, textsOf_snoc, lastOf_snoc]
theorem glue_take (l : List Tok) (k : Nat) (hk : k < l.length) : glue (textsOf (l.take (k + 1))) = glue (textsOf (l.take k)) ++ (if apart (lastOf [] (textsOf (l.take k))) (l[k]).text.data.toList then (l[k]).text.data.toList else 32 :: (l[k]).text.data.toList) := by
  rw [List.take_succ_eq_append_getElem hk, textsOf_snoc, glue_snoc]

end Go.Proofs.YtabpfbgcdmejbaaDoor
