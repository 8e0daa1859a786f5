/- The law TreeNames, walked. -/
import Derived.Test.YtabpfbgcdmejbaaDoorTreeQ
namespace Go.Proofs.YtabpfbgcdmejbaaDoor
open Go.RowKit

theorem iv_a : ivR ⟨2, false, 2, false, false⟩ = 0 := by decide
theorem iv_b : ivR ⟨2, false, 2, true, false⟩ = 162 := by decide
theorem iv_c : ivR ⟨3, false, 2, false, false⟩ = 162 := by decide

set_option maxRecDepth 100000 in
set_option maxHeartbeats 4000000 in
theorem treeNames3 (w : World) (hr : Rdy w) : Calls Tryd.prog 3 #[] w fun e w' => e = .returned (.bool true) ∧ Below w.heap.size w w' := by
  have HR := Lib.hid hr
  have HA := Lib.hid (interval9_any ⟨2, false, 2, false, false⟩)
  have HB := Lib.hid (interval9_any ⟨2, false, 2, true, false⟩)
  have HC := Lib.hid (interval9_any ⟨3, false, 2, false, false⟩)
  unfold Spn.val at HA HB HC
  rw [iv_a] at HA
  rw [iv_b] at HB
  rw [iv_c] at HC
  clear hr
  go_enter Tryd.func3, Tryd.ntmps3
  go_wp2_with fail
  refine (HA.out w).mono ?_
  rintro e w1 ⟨rfl, hb1⟩
  have HB1 := Lib.hid hb1
  clear hb1
  go_wp2_with fail
  refine (HB.out w1).mono ?_
  rintro e w2 ⟨rfl, hb2⟩
  have HB2 := Lib.hid (HB1.out.trans (hb2.mono HB1.out.size))
  clear hb2
  go_wp2_with fail
  refine (HC.out w2).mono ?_
  rintro e w3 ⟨rfl, hb3⟩
  have HB3 := Lib.hid (HB2.out.trans (hb3.mono HB2.out.size))
  clear hb3
  go_wp2_with fail
  refine (alive10_any w3 (HR.out.below HB3.out)).mono ?_
  rintro e w4 ⟨rfl, hb4⟩
  have HB4 := Lib.hid (HB3.out.trans (hb4.mono HB3.out.size))
  clear hb4
  go_wp2_with fail
  all_goals go_ret
  all_goals exact ⟨rfl, HB4.out⟩
end Go.Proofs.YtabpfbgcdmejbaaDoor
