/- The examples' expressions; alive. -/
import Derived.Test.YtabpfbgcdmejbaaDoorTreeO
namespace Go.Proofs.YtabpfbgcdmejbaaDoor
open Go.RowKit

def propT (s : ByteArray) : FT 1 := (3, s, [])
theorem prop_rep (w : World) (B : Nat) (s : ByteArray) : FRep w B 1 (propT s) (.agg #[.int .u8 3, .string s, .slice none 0 0]) := ⟨none, 0, rfl, by simp [propT], .inl rfl⟩
/-- A row of formulas at a block's beginning. -/
theorem frow_of {w : World} {n g : Nat} {l : List (FT n)} {cs : List (List Value)} {t : TypeId} {fz : Nat × Nat} (hl : l.length ≤ 1000) (hg : w.heap[g]? = some (.cells cs.flatten.toArray t fz)) (hcl : cs.length = l.length)
    (h3 : ∀ i (h : i < cs.length), cs[i].length = 3) (hr : ∀ i (h : i < l.length), FRep w w.heap.size n l[i] (.agg (cs[i]'(by omega)).toArray)) (hf : ∀ i (h : i < cs.length) j, j < 3 → cs.flatten[i * 3 + j]? = (cs[i])[j]?) :
    FRow w w.heap.size n (some ⟨g, 0, none⟩) l := by
  refine ⟨by omega, .inr ⟨g, 0, rfl, (Array.getElem?_eq_some_iff.1 hg).1, fun i hi => ⟨cs[i]'(by omega), h3 i (by omega), fun j hj => ?_, hr i hi⟩⟩⟩
  have h1 := Lib.cell_of_heap hg (i * 3 + j)
  rw [Nat.zero_add, h1, List.getElem?_toArray]
  exact hf i (by omega) j hj

def atomT (s : ByteArray) : XT 1 1 := (1, [propT s], [], noSpan)
set_option maxRecDepth 100000 in
set_option maxHeartbeats 4000000 in
theorem atom29_any (s : ByteArray) (w : World) :
    Calls Tryd.prog 29 #[.string s] w fun e w' => (∃ v, e = .returned v ∧ XRep w' w'.heap.size 1 1 (atomT s) v) ∧ Below w.heap.size w w' := by
  have HB : Hid (∀ o o', Below w.heap.size w ((w.alloc o).alloc o')) := fun o o' => ((Below.refl _ w).alloc (Nat.le_refl _) o).alloc (by simp) o'
  go_enter Tryd.func29, Tryd.ntmps29
  go_wp2_with fail
  have d1 : ((w.alloc (.cells #[.int .u8 1, .slice (some ⟨w.heap.size + 1, 0, none⟩) 1 1, .slice none 0 0, .int .i64 0, .bool false, .int .i64 0, .bool false, .bool false] 32)).alloc (.cells #[.int .u8 3, .string s, .slice none 0 0] 39)).heap[w.heap.size]? =
      some (.cells #[.int .u8 1, .slice (some ⟨w.heap.size + 1, 0, none⟩) 1 1, .slice none 0 0, .int .i64 0, .bool false, .int .i64 0, .bool false, .bool false] 32) := by
    show ((w.heap.push _).push _)[w.heap.size]? = _
    rw [Array.getElem?_push, if_neg (by simp), Array.getElem?_push_size]
  refine bodyPost_ret (results_cell_row rfl _ _ w.heap.size 32 _ (0, 0) _ rfl d1 Tryd.underlying32 rfl (by kernel_rfl)) rfl ⟨⟨_, rfl, ?_⟩, HB.out _ _⟩
  · refine ⟨some ⟨w.heap.size + 1, 0, none⟩, 1, none, 0, rfl, ?_, by simp [atomT], .inl rfl⟩
    refine frow_of (cs := [[.int .u8 3, .string s, .slice none 0 0]]) (by simp [atomT]) (heap_alloc2_new _ _ _) rfl ?_ ?_ ?_
    · intro i hi; obtain rfl : i = 0 := by simpa using hi
      rfl
    · intro i hi; obtain rfl : i = 0 := by simpa [atomT] using hi
      exact prop_rep _ _ s
    · intro i hi j hj; obtain rfl : i = 0 := by simpa using hi
      simp

def andT (s r : ByteArray) : FT 2 := (5, ⟨#[]⟩, [propT s, propT r])
def bothT : XT 2 1 := (1, [andT ⟨#[112]⟩ ⟨#[113]⟩], [], noSpan)
set_option maxRecDepth 100000 in
set_option maxHeartbeats 4000000 in
theorem both28_any (w : World) :
    Calls Tryd.prog 28 #[] w fun e w' => (∃ v, e = .returned v ∧ XRep w' w'.heap.size 2 1 bothT v) ∧ Below w.heap.size w w' := by
  have HB : Hid (∀ o o' o'', Below w.heap.size w (((w.alloc o).alloc o').alloc o'')) := fun o o' o'' => (((Below.refl _ w).alloc (Nat.le_refl _) o).alloc (by simp) o').alloc (by simp; omega) o''
  go_enter Tryd.func28, Tryd.ntmps28
  go_wp2_with fail
  obtain ⟨d1, d2, d3, _, hz⟩ := blocks3 (w := w) (Below.refl _ (((w.alloc (.cells #[.int .u8 1, .slice (some ⟨w.heap.size + 1 + 1, 0, none⟩) 1 1, .slice none 0 0, .int .i64 0, .bool false, .int .i64 0, .bool false, .bool false] 32)).alloc
    (.cells #[.int .u8 3, .string ⟨#[112]⟩, .slice none 0 0, .int .u8 3, .string ⟨#[113]⟩, .slice none 0 0] 39)).alloc (.cells #[.int .u8 5, .string ⟨#[]⟩, .slice (some ⟨w.heap.size + 1, 0, none⟩) 2 2] 39)))
  refine bodyPost_ret (results_cell_row rfl _ _ w.heap.size 32 _ (0, 0) _ rfl d1 Tryd.underlying32 rfl (by kernel_rfl)) rfl ⟨⟨_, rfl, ?_⟩, HB.out _ _ _⟩
  refine ⟨some ⟨w.heap.size + 2, 0, none⟩, 1, none, 0, rfl, ?_, by simp [bothT], .inl rfl⟩
  refine frow_of (cs := [[.int .u8 5, .string ⟨#[]⟩, .slice (some ⟨w.heap.size + 1, 0, none⟩) 2 2]]) (by simp [bothT]) d3 rfl ?_ ?_ ?_
  · intro i hi; obtain rfl : i = 0 := by simpa using hi
    rfl
  · intro i hi; obtain rfl : i = 0 := by simpa [bothT] using hi
    refine ⟨some ⟨w.heap.size + 1, 0, none⟩, 2, rfl, ?_⟩
    refine frow_of (n := 1) (l := [propT ⟨#[112]⟩, propT ⟨#[113]⟩]) (cs := [[.int .u8 3, .string ⟨#[112]⟩, .slice none 0 0], [.int .u8 3, .string ⟨#[113]⟩, .slice none 0 0]]) (by simp) d2 rfl ?_ ?_ ?_
    · intro i hi
      match i, hi with
      | 0, _ => rfl
      | 1, _ => rfl
    · intro i hi
      match i, hi with
      | 0, _ => exact prop_rep _ _ _
      | 1, _ => exact prop_rep _ _ _
    · intro i hi j hj
      match i, hi with
      | 0, _ => match j, hj with
        | 0, _ => rfl
        | 1, _ => rfl
        | 2, _ => rfl
      | 1, _ => match j, hj with
        | 0, _ => rfl
        | 1, _ => rfl
        | 2, _ => rfl
  · intro i hi j hj; obtain rfl : i = 0 := by simpa using hi
    simp

def pq : List ByteArray := [⟨#[112]⟩, ⟨#[113]⟩]
theorem both_ok : checkR pq 1 bothT = 0 := by kernel_rfl
theorem both_many : manyX 1 bothT = 3 := by kernel_rfl
theorem atom_no : checkR pq 1 (atomT ⟨#[114]⟩) = 161 := by kernel_rfl
theorem pq_rep {w : World} {g : Nat} {t : TypeId} {fz : Nat × Nat} (hg : w.heap[g]? = some (.cells #[.string ⟨#[112]⟩, .string ⟨#[113]⟩] t fz)) : NRep w w.heap.size (.slice (some ⟨g, 0, none⟩) 2 2) pq := by
  refine ⟨_, 2, rfl, by simp [pq], .inr ⟨g, 0, rfl, (Array.getElem?_eq_some_iff.1 hg).1, fun i hi => ?_⟩⟩
  have hi' : i < 2 := hi
  match i, hi' with
  | 0, _ => exact Lib.cell_of_heap hg 0
  | 1, _ => exact Lib.cell_of_heap hg 1

set_option maxRecDepth 100000 in
set_option maxHeartbeats 4000000 in
theorem alive10_any (w : World) (hr : Rdy w) : Calls Tryd.prog 10 #[] w fun e w' => e = .returned (.bool true) ∧ Below w.heap.size w w' := by
  have hb1 : Below w.heap.size w (w.alloc (.cells #[.string ⟨#[112]⟩, .string ⟨#[113]⟩] 9)) := (Below.refl _ _).alloc (Nat.le_refl _) _
  have hr1 := hr.below hb1
  have hn1 : NRep (w.alloc (.cells #[.string ⟨#[112]⟩, .string ⟨#[113]⟩] 9)) (w.alloc (.cells #[.string ⟨#[112]⟩, .string ⟨#[113]⟩] 9)).heap.size (.slice (some ⟨w.heap.size, 0, none⟩) 2 2) pq := pq_rep (heap_alloc_new _ _)
  have hsz : ∀ s ∈ pq, s.size ≤ 1048576 := by
    intro s hs
    simp only [pq, List.mem_cons, List.not_mem_nil, or_false] at hs
    rcases hs with rfl | rfl <;> decide
  have HCH : Hid (∀ {m n : Nat} (t : XT m n) (v : Value) (w1 : World), Below w.heap.size w w1 → NRep w1 w1.heap.size (.slice (some ⟨w.heap.size, 0, none⟩) 2 2) pq → XRep w1 w1.heap.size m n t v →
      Calls Tryd.prog 13 #[.slice (some ⟨w.heap.size, 0, none⟩) 2 2, v] w1 fun e w' => e = .returned (.int .i64 (checkR pq n t)) ∧ Below w1.heap.size w1 w') :=
    fun t v w1 hb hn hx => check13_any pq _ hsz _ _ t v w1 (hr.below hb) hn hx
  have HB1 := Lib.hid hb1
  have HN1 := Lib.hid hn1
  clear hr hb1 hr1 hn1 hsz
  go_enter Tryd.func10, Tryd.ntmps10
  go_wp2_with fail
  refine (both28_any _).mono ?_
  rintro e w1 ⟨⟨v1, rfl, hx1⟩, hb1⟩
  have HB2 := Lib.hid (HB1.out.trans (hb1.mono HB1.out.size))
  have HN2 := Lib.hid (HN1.out.up hb1 hb1.size)
  have HX1 := Lib.hid hx1
  clear hb1 hx1
  go_wp2_with fail
  refine (HCH.out _ _ _ HB2.out HN2.out HX1.out).mono ?_
  rintro e w2 ⟨rfl, hb2⟩
  rw [both_ok]
  have HB3 := Lib.hid (HB2.out.trans (hb2.mono HB2.out.size))
  have HN3 := Lib.hid (HN2.out.up hb2 hb2.size)
  clear hb2
  go_wp2_with fail
  refine (both28_any _).mono ?_
  rintro e w3 ⟨⟨v3, rfl, hx3⟩, hb3⟩
  have HB4 := Lib.hid (HB3.out.trans (hb3.mono HB3.out.size))
  have HN4 := Lib.hid (HN3.out.up hb3 hb3.size)
  have HX3 := Lib.hid hx3
  clear hb3 hx3
  go_wp2_with fail
  refine (many14_any 2 1 bothT v3 w3 HX3.out).mono ?_
  rintro e w4 ⟨rfl, hb4⟩
  rw [both_many]
  have HB5 := Lib.hid (HB4.out.trans (hb4.mono HB4.out.size))
  have HN5 := Lib.hid (HN4.out.up hb4 hb4.size)
  clear hb4
  go_wp2_with fail
  refine (atom29_any _ _).mono ?_
  rintro e w5 ⟨⟨v5, rfl, hx5⟩, hb5⟩
  have HB6 := Lib.hid (HB5.out.trans (hb5.mono HB5.out.size))
  have HN6 := Lib.hid (HN5.out.up hb5 hb5.size)
  have HX5 := Lib.hid hx5
  clear hb5 hx5
  go_wp2_with fail
  refine (HCH.out _ _ _ HB6.out HN6.out HX5.out).mono ?_
  rintro e w6 ⟨rfl, hb6⟩
  rw [atom_no]
  have HB7 := Lib.hid (HB6.out.trans (hb6.mono HB6.out.size))
  clear hb6
  go_wp2_with fail
  all_goals go_ret
  all_goals exact ⟨rfl, HB7.out⟩
end Go.Proofs.YtabpfbgcdmejbaaDoor
