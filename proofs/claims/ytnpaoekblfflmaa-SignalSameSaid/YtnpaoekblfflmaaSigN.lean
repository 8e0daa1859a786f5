/- rallentandolaw22: three, alive. -/
import Derived.Test.YtnpaoekblfflmaaSigL
namespace Go.Proofs.Ytnpaoekblfflmaa
open Go.RowKit Go.Shelf
attribute [local go_sem ↓] Go.wp_at_zero Go.wp_at_succ
attribute [local go_sem] eq39

/-- The chapter's signal. -/
def thr : List (Int × Int) := [(2, 1), (3, 1), (1, 0)]
theorem thr_flat : flatS thr = [.int .i64 2, .int .u8 1, .int .i64 3, .int .u8 1, .int .i64 1, .int .u8 0] := rfl
theorem thr_check : checkP 1 thr = 0 := by decide +kernel
theorem thr_merged : mergedL thr = [(5, 1), (1, 0)] := by decide +kernel
theorem thr_total : total22 thr = 6 := by decide +kernel

theorem OwnS.alloc_new (w : World) (l : List (Int × Int)) (h0 : l ≠ []) (hl : l.length ≤ maxLen) : OwnS (w.alloc (.cells (flatS l).toArray 39)) w.heap.size (.slice (some ⟨w.heap.size, 0, none⟩) l.length l.length) l := by
  refine ⟨flatS_length l, .inr ⟨w.heap.size, l.length, (flatS l).toArray, rfl, Nat.le_refl _, ?_, Nat.le_refl _, hl, ?_, ?_⟩⟩
  · exact heap_alloc_new w _
  · simp [flatS_length]
  · simp [← flatS_length]

theorem three_any (w : World) : Calls Try.prog 28 #[] w fun e w' => (∃ v', e = .returned v' ∧ OwnS w' w.heap.size v' thr) ∧ Below w.heap.size w w' := by
  have h := OwnS.alloc_new w thr (by simp [thr]) (by simp [thr, maxLen])
  have HO := Lib.hid h
  clear h
  go_enter Try.func28, Try.ntmps28
  go_wp2_with fail
  go_ret
  exact ⟨⟨_, rfl, HO.out⟩, (Below.refl _ _).alloc (Nat.le_refl _) _⟩

theorem OwnS.two {w : World} {B : Nat} {v : Value} {a b c d : Int} (h : OwnS w B v [(a, b), (c, d)]) :
    ∃ g cap, v = .slice (some ⟨g, 0, none⟩) 2 cap ∧ w.cell? ⟨g, 0, none⟩ = some (.int .i64 a) ∧ w.cell? ⟨g, 1, none⟩ = some (.int .u8 b) ∧ w.cell? ⟨g, 2, none⟩ = some (.int .i64 c) ∧ w.cell? ⟨g, 3, none⟩ = some (.int .u8 d) ∧ B ≤ g ∧ g < w.heap.size := by
  have h' := h
  obtain ⟨_, hh⟩ := h
  rcases hh with ⟨_, h0⟩ | ⟨g, cap, cur, rfl, hg, hb, _⟩
  · simp at h0
  · refine ⟨g, cap, rfl, ?_, ?_, ?_, ?_, hg, (Array.getElem?_eq_some_iff.1 hb).1⟩ <;> rw [World.ownsRow.cellAt h' _ (by simp)] <;> rfl

set_option maxHeartbeats 1000000 in
theorem alive_any (w : World) : Calls Try.prog 27 #[] w fun e w' => e = .returned (.bool true) ∧ Below w.heap.size w w' := by
  have hR : Hid (∀ s ∈ thr, InR s) := by
    intro s hs
    simp [thr] at hs
    rcases hs with rfl | rfl | rfl <;> simp [InR]
  have H3 := three_any w
  go_enter Try.func27, Try.ntmps27
  go_wp2_with fail
  refine H3.mono ?_
  rintro e w1 ⟨⟨v1, rfl, ho1⟩, b1⟩
  clear H3
  have HM := merge_any 1 v1 thr w1 (ho1.segs (by simp [thr]) hR.out)
  rw [thr_check] at HM
  go_wp2_with fail
  refine HM.mono ?_
  rintro e w2 ⟨⟨v2, rfl, ho2⟩, hb⟩
  clear HM
  have b2 : Below w.heap.size w w2 := b1.trans (hb.mono b1.size)
  have H3 := three_any w2
  have ho2' : OwnS w2 w1.heap.size v2 [(5, 1), (1, 0)] := by rw [mergeL, if_pos rfl, thr_merged] at ho2; exact ho2
  have HO2 := Lib.hid ho2'
  clear ho2 ho2' hb ho1 b1
  go_wp2_with fail
  refine H3.mono ?_
  rintro e w3 ⟨⟨v3, rfl, ho3⟩, hb3⟩
  clear H3
  have b3 : Below w.heap.size w w3 := b2.trans (hb3.mono b2.size)
  have HM := long_any 1 v3 thr w3 (ho3.segs (by simp [thr]) hR.out)
  rw [thr_check, long22, if_pos rfl, thr_total] at HM
  go_wp2_with fail
  refine HM.mono ?_
  rintro e w4 ⟨rfl, hb4⟩
  clear HM
  have b4 : Below w.heap.size w w4 := b3.trans (hb4.mono b3.size)
  obtain ⟨g, cap, rfl, c0, c1, c2, c3, hg, hgs⟩ := ((HO2.out.below hb3).below hb4).two
  clear b2 hb3 b3 hb4 ho3
  go_wp2_with fail
  go_ret
  exact ⟨rfl, b4⟩
end Go.Proofs.Ytnpaoekblfflmaa
