/- The law SignalNames, walked. -/
import Derived.Test.YtnpaoekblfflmaaSigN
import Derived.Test.YtnpaoekblfflmaaSigS
namespace Go.Proofs.Ytnpaoekblfflmaa
open Go.RowKit Go.Shelf
attribute [local go_sem ↓] Go.wp_at_zero Go.wp_at_succ

theorem thr_on4 : on22 0 thr 4 = (1, 0) := by decide +kernel
theorem thr_on5 : on22 0 thr 5 = (0, 0) := by decide +kernel
theorem thr_cut : cutA 0 thr 1 = ([(1, 1), (1, 1), (3, 1), (1, 0)], 0) := by decide +kernel

theorem OwnS.four {w : World} {B : Nat} {v : Value} {s0 s1 s2 s3 : Int × Int} (h : OwnS w B v [s0, s1, s2, s3]) :
    ∃ g cap, v = .slice (some ⟨g, 0, none⟩) 4 cap ∧ w.cell? ⟨g, 0, none⟩ = some (.int .i64 s0.1) ∧ w.cell? ⟨g, 2, none⟩ = some (.int .i64 s1.1) ∧ g < w.heap.size := by
  have h' := h
  obtain ⟨_, hh⟩ := h
  rcases hh with ⟨_, h0⟩ | ⟨g, cap, cur, rfl, hg, hb, _⟩
  · simp at h0
  · refine ⟨g, cap, rfl, ?_, ?_, (Array.getElem?_eq_some_iff.1 hb).1⟩ <;> rw [World.ownsRow.cellAt h' _ (by simp)] <;> rfl

set_option maxHeartbeats 2000000 in
theorem names_any (w : World) : Calls Try.prog 7 #[] w fun e w' => e = .returned (.bool true) ∧ Below w.heap.size w w' := by
  have hR : Hid (∀ s ∈ thr, InR s) := by
    intro s hs
    simp [thr] at hs
    rcases hs with rfl | rfl | rfl <;> simp [InR]
  have H3 := three_any w
  go_enter Try.func7, Try.ntmps7
  go_wp2_with fail
  refine H3.mono ?_
  rintro e w1 ⟨⟨v1, rfl, ho1⟩, b1⟩
  clear H3
  have HM := on_any 1 4 v1 thr w1 (ho1.segs (by simp [thr]) hR.out) (by omega)
  rw [thr_check, thr_on4] at HM
  clear ho1
  go_wp2_with fail
  refine HM.mono ?_
  rintro e w2 ⟨rfl, hb⟩
  clear HM
  have b2 : Below w.heap.size w w2 := b1.trans (hb.mono b1.size)
  have H3 := three_any w2
  clear hb b1
  go_wp2_with fail
  refine H3.mono ?_
  rintro e w3 ⟨⟨v3, rfl, ho3⟩, hb⟩
  clear H3
  have b3 : Below w.heap.size w w3 := b2.trans (hb.mono b2.size)
  have HM := on_any 1 5 v3 thr w3 (ho3.segs (by simp [thr]) hR.out) (by omega)
  rw [thr_check, thr_on5] at HM
  clear ho3 hb b2
  go_wp2_with fail
  refine HM.mono ?_
  rintro e w4 ⟨rfl, hb⟩
  clear HM
  have b4 : Below w.heap.size w w4 := b3.trans (hb.mono b3.size)
  have H3 := three_any w4
  clear hb b3
  go_wp2_with fail
  refine H3.mono ?_
  rintro e w5 ⟨⟨v5, rfl, ho5⟩, hb⟩
  clear H3
  have b5 : Below w.heap.size w w5 := b4.trans (hb.mono b4.size)
  have HM := cut_any 1 1 v5 thr w5 (ho5.segs (by simp [thr]) hR.out)
  rw [thr_check, thr_cut] at HM
  clear ho5 hb b4
  go_wp2_with fail
  refine HM.mono ?_
  rintro e w6 ⟨⟨v6, rfl, ho6⟩, hb⟩
  clear HM
  have b6 : Below w.heap.size w w6 := b5.trans (hb.mono b5.size)
  have HA := alive_any w6
  have HO := Lib.hid ho6
  clear ho6 hb b5
  go_wp2_with fail
  refine HA.mono ?_
  rintro e w7 ⟨rfl, hb⟩
  clear HA
  have b7 : Below w.heap.size w w7 := b6.trans (hb.mono b6.size)
  obtain ⟨g, cap, rfl, c0, c1, hg⟩ := (HO.out.below hb).four
  clear hb b6
  go_wp2_with fail
  go_ret
  exact ⟨rfl, b7⟩
end Go.Proofs.Ytnpaoekblfflmaa
