/- AtomsDoes: the document's Inside walked. (Printed by gen_doj.py.) -/
import Derived.Deep.RegionHeld
import Derived.Deep.Cut
import Derived.Test.YtockinpjfhhkoaaGreatDoorDoD
import Derived.Test.YtockinpjfhhkoaaGreatDoorMiG
import Derived.Test.YtockinpjfhhkoaaGreatDoorAtV
namespace Go.Proofs.YtockinpjfhhkoaaGreatDoor
open Go.RowKit

set_option maxRecDepth 100000 in
set_option maxHeartbeats 16000000 in
theorem inside47_any {z0 z1 z2 z3 z4 z5 a p b q : Int} (w : World) (hbd : badD (matD z0 z1 z2 z3 z4 z5) = false) (ha : in64 a) (hap : mayQ a p = true) (hb : in64 b) (hbq : mayQ b q = true) :
    Calls Tryz.prog 47 #[.agg #[.int .i64 z0, .int .i64 z1, .int .i64 z2, .int .i64 z3, .int .i64 z4, .int .i64 z5], .agg #[.int .i64 a, .int .i64 p, .int .i64 b, .int .i64 q]] w fun e w' => e = .returned (.bool (keepsD 3 (matD z0 z1 z2 z3 z4 z5) [(0, 1), (a, p), (b, q)])) ∧ Below w.heap.size w w' := by
  obtain ⟨W2, hW2⟩ : ∃ W2, W2 = (w.alloc (.cells #[.int .i64 z0, .int .i64 z1, .int .i64 z2, .int .i64 z3, .int .i64 z4, .int .i64 z5] 69)).alloc (.cells #[.int .i64 a, .int .i64 p, .int .i64 b, .int .i64 q] 52) := ⟨_, rfl⟩
  have hb2 : Below w.heap.size w W2 := by rw [hW2]; exact (belowA _ _).alloc (by simp) _
  have hx0 : W2.heap[w.heap.size]? = some (.cells #[.int .i64 z0, .int .i64 z1, .int .i64 z2, .int .i64 z3, .int .i64 z4, .int .i64 z5] 69 (0, 0)) := by rw [hW2]; exact (Below.heap_alloc _ _ _ (by simp)).trans (hp_topA rfl)
  have hx1 : W2.heap[w.heap.size + 1]? = some (.cells #[.int .i64 a, .int .i64 p, .int .i64 b, .int .i64 q] 52 (0, 0)) := by rw [hW2]; exact hp_topA (by simp)
  have HF : Hid (∀ W, Below W2.heap.size W2 W → W.cell? ⟨w.heap.size, 0, none⟩ = some (.int .i64 z0) ∧ W.cell? ⟨w.heap.size, 1, none⟩ = some (.int .i64 z1) ∧ W.cell? ⟨w.heap.size, 2, none⟩ = some (.int .i64 z2) ∧ W.cell? ⟨w.heap.size, 3, none⟩ = some (.int .i64 z3) ∧ W.cell? ⟨w.heap.size, 4, none⟩ = some (.int .i64 z4) ∧ W.cell? ⟨w.heap.size, 5, none⟩ = some (.int .i64 z5) ∧ W.cell? ⟨w.heap.size + 1, 0, none⟩ = some (.int .i64 a) ∧ W.cell? ⟨w.heap.size + 1, 1, none⟩ = some (.int .i64 p) ∧ W.cell? ⟨w.heap.size + 1, 2, none⟩ = some (.int .i64 b) ∧ W.cell? ⟨w.heap.size + 1, 3, none⟩ = some (.int .i64 q) ∧ w.heap.size < W.heap.size ∧ w.heap.size + 1 < W.heap.size) := by
    intro W hW
    have k0 := (hW.block _ (Array.getElem?_eq_some_iff.1 hx0).1).trans hx0
    have k1 := (hW.block _ (Array.getElem?_eq_some_iff.1 hx1).1).trans hx1
    exact ⟨Lib.cell_of_heap k0 0, Lib.cell_of_heap k0 1, Lib.cell_of_heap k0 2, Lib.cell_of_heap k0 3, Lib.cell_of_heap k0 4, Lib.cell_of_heap k0 5, Lib.cell_of_heap k1 0, Lib.cell_of_heap k1 1, Lib.cell_of_heap k1 2, Lib.cell_of_heap k1 3, (Array.getElem?_eq_some_iff.1 k0).1, (Array.getElem?_eq_some_iff.1 k1).1⟩
  have HMX := fun W => Lib.hid (full96_any z0 z1 z2 z3 z4 z5 W)
  obtain ⟨M, hM⟩ : ∃ M, (matD z0 z1 z2 z3 z4 z5) = M := ⟨_, rfl⟩
  rw [hM] at hbd HMX ⊢
  have hl : M.length = 9 := by rw [← hM]; rfl
  have HKP : Hid (∀ W g c u, RowB W g M → W.heap[u]? = some (.cells #[.int .i64 a, .int .i64 p, .int .i64 b, .int .i64 q] 50 (0, 0)) → Calls Tryz.prog 95 #[.agg #[.int .i64 3, .slice (some ⟨g, 0, none⟩) 9 c], .slice (some ⟨u, 0, none⟩) 2 2] W fun e w' => e = .returned (.bool (keepsD 3 M [(0, 1), (a, p), (b, q)])) ∧ Below W.heap.size W w') := by
    intro W g c u h hu
    have hr : RatR W u [(a, p), (b, q)] := by
      refine ⟨(Array.getElem?_eq_some_iff.1 hu).1, fun k hk => ?_⟩
      match k, hk with
      | 0, _ => exact ⟨by rw [Lib.cell_of_heap hu]; rfl, by rw [Lib.cell_of_heap hu]; rfl⟩
      | 1, _ => exact ⟨by rw [Lib.cell_of_heap hu]; rfl, by rw [Lib.cell_of_heap hu]; rfl⟩
    have := kept95_any (c := c) (tc := 2) h hl hbd hr rfl (by
      intro x hx
      simp only [List.mem_cons, List.not_mem_nil, or_false] at hx
      rcases hx with rfl | rfl
      · exact ⟨ha, hap⟩
      · exact ⟨hb, hbq⟩)
    exact this
  have HW2 := Lib.hid hW2.symm
  have HB2 := Lib.hid hb2
  clear hbd ha hap hb hbq hM hl hb2 hx0 hx1 hW2
  go_enter Tryz.func47, Tryz.ntmps47
  go_upto_region 1 with fail
  rw [HW2.out]
  clear HW2
  have HS0 := Lib.hid (HF.out W2.drew (Below.refl W2.heap.size W2).drew)
  refine wp_region_held_drew (S := fun W => W.cell? ⟨w.heap.size, 0, none⟩ = some (.int .i64 z0) ∧ W.cell? ⟨w.heap.size, 1, none⟩ = some (.int .i64 z1) ∧ W.cell? ⟨w.heap.size, 2, none⟩ = some (.int .i64 z2) ∧ W.cell? ⟨w.heap.size, 3, none⟩ = some (.int .i64 z3) ∧ W.cell? ⟨w.heap.size, 4, none⟩ = some (.int .i64 z4) ∧ W.cell? ⟨w.heap.size, 5, none⟩ = some (.int .i64 z5) ∧ W.cell? ⟨w.heap.size + 1, 0, none⟩ = some (.int .i64 a) ∧ W.cell? ⟨w.heap.size + 1, 1, none⟩ = some (.int .i64 p) ∧ W.cell? ⟨w.heap.size + 1, 2, none⟩ = some (.int .i64 b) ∧ W.cell? ⟨w.heap.size + 1, 3, none⟩ = some (.int .i64 q) ∧ w.heap.size < W.heap.size ∧ w.heap.size + 1 < W.heap.size) (by kernel_rfl) HS0.out (fun hHeld => ?_)
  refine wpAnyH_take (i := 0) (v := ?_) rfl (by kernel_rfl) (by kernel_rfl) (by kernel_rfl) (fun _ _ _ h => h) (Or.inl ⟨by kernel_rfl, ?_⟩) (by assumption) ?_
  rotate_left
  · (intro w hSw; (try dsimp only at hSw); go_simp)
    try with_reducible rfl
  try simp only [Act.put, List.setIfInBounds_toArray, List.set_cons_zero, List.set_cons_succ, List.getElem_toArray, List.getElem_cons_zero]
  refine wpAnyH_take (i := 2) (v := ?_) rfl (by kernel_rfl) (by kernel_rfl) (by kernel_rfl) (fun _ _ _ h => h) (Or.inl ⟨by kernel_rfl, ?_⟩) (by assumption) ?_
  rotate_left
  · (intro w hSw; (try dsimp only at hSw); go_simp)
    try with_reducible rfl
  try simp only [Act.put, List.setIfInBounds_toArray, List.set_cons_zero, List.set_cons_succ, List.getElem_toArray, List.getElem_cons_zero, List.getElem_cons_succ]
  refine wpAnyH_take (i := 3) (v := ?_) rfl (by kernel_rfl) (by kernel_rfl) (by kernel_rfl) (fun _ _ _ h => h) (Or.inl ⟨by kernel_rfl, ?_⟩) (by assumption) ?_
  rotate_left
  · (intro w hSw; (try dsimp only at hSw); go_simp)
    try with_reducible rfl
  try simp only [Act.put, List.setIfInBounds_toArray, List.set_cons_zero, List.set_cons_succ, List.getElem_toArray, List.getElem_cons_zero, List.getElem_cons_succ]
  refine wpAnyH_take (i := 4) (v := ?_) rfl (by kernel_rfl) (by kernel_rfl) (by kernel_rfl) (fun _ _ _ h => h) (Or.inl ⟨by kernel_rfl, ?_⟩) (by assumption) ?_
  rotate_left
  · (intro w hSw; (try dsimp only at hSw); go_simp)
    try with_reducible rfl
  try simp only [Act.put, List.setIfInBounds_toArray, List.set_cons_zero, List.set_cons_succ, List.getElem_toArray, List.getElem_cons_zero, List.getElem_cons_succ]
  refine wpAnyH_take (i := 5) (v := ?_) rfl (by kernel_rfl) (by kernel_rfl) (by kernel_rfl) (fun _ _ _ h => h) (Or.inl ⟨by kernel_rfl, ?_⟩) (by assumption) ?_
  rotate_left
  · (intro w hSw; (try dsimp only at hSw); go_simp)
    try with_reducible rfl
  try simp only [Act.put, List.setIfInBounds_toArray, List.set_cons_zero, List.set_cons_succ, List.getElem_toArray, List.getElem_cons_zero, List.getElem_cons_succ]
  refine wpAnyH_ready (rs := [1, 6]) (by kernel_rfl) (by simp) ?_
  refine AllReadyH.cons rfl (fun K hK => ?_) (AllReadyH.cons rfl (fun K hK => ?_) AllReadyH.nil)
  · go_simp
    go_at_call 96
    refine (HMX _).out.mono ?_
    rintro e w6 ⟨⟨g, c, rfl, hg, hrow⟩, hb6⟩
    have HB6 : Hid (Below W2.heap.size W2 w6) := belS (Below.refl W2.heap.size W2).drew hb6
    have HR6 := Lib.hid hrow
    clear hg hrow hb6
    try dsimp only
    refine hK.out _ _ (HF.out _ HB6.out) (fun hHeld => ?_)
    clear hK K
    try simp only [Act.put, List.setIfInBounds_toArray, List.set_cons_zero, List.set_cons_succ, List.getElem_toArray, List.getElem_cons_zero, List.getElem_cons_succ]
    refine wpAnyH_ready (rs := [6]) (by kernel_rfl) (by simp) ?_
    refine AllReadyH.cons rfl (fun K hK => ?_) AllReadyH.nil
    go_simp
    have HB7 : Hid (Below W2.heap.size W2 (w6.alloc (.cells #[.int .i64 a, .int .i64 p, .int .i64 b, .int .i64 q] 50))) := belA' HB6.out _
    refine hK.out _ _ (HF.out _ HB7.out) (fun hHeld => ?_)
    clear hK K
    try simp only [Act.put, List.setIfInBounds_toArray, List.set_cons_zero, List.set_cons_succ, List.getElem_toArray, List.getElem_cons_zero, List.getElem_cons_succ]
    refine wpAnyH_ready (rs := [7]) (by kernel_rfl) (by simp) ?_
    refine AllReadyH.cons rfl (fun K hK => ?_) AllReadyH.nil
    go_simp
    go_at_call 95
    refine (HKP.out _ _ _ _ (HR6.out.alloc _) (hp_topA rfl)).mono ?_
    rintro e w8 ⟨rfl, hb8⟩
    have HB8 : Hid (Below W2.heap.size W2 w8) := belS HB7.out hb8
    clear hb8
    try dsimp only
    refine hK.out _ _ (HF.out _ HB8.out) (fun hHeld => ?_)
    clear hK K
    try simp only [Act.put, List.setIfInBounds_toArray, List.set_cons_zero, List.set_cons_succ, List.getElem_toArray, List.getElem_cons_zero, List.getElem_cons_succ]
    refine wpAnyH_take (i := 8) (v := ?_) rfl (by kernel_rfl) (by kernel_rfl) (by kernel_rfl) (fun _ _ _ h => h) (Or.inl ⟨by kernel_rfl, ?_⟩) (by assumption) ?_
    rotate_left
    · (intro w hSw; (try dsimp only at hSw); go_simp)
      try with_reducible rfl
    try simp only [Act.put, List.setIfInBounds_toArray, List.set_cons_zero, List.set_cons_succ, List.getElem_toArray, List.getElem_cons_zero, List.getElem_cons_succ]
    refine wpAnyH_done (by kernel_rfl) ?_ _
    clear hHeld
    go_wp2_with fail
    all_goals go_ret
    all_goals exact ⟨rfl, HB2.out.trans (HB8.out.mono HB2.out.size)⟩
  · go_simp
    have HB6 : Hid (Below W2.heap.size W2 (W2.drew.alloc (.cells #[.int .i64 a, .int .i64 p, .int .i64 b, .int .i64 q] 50))) := belA' (Below.refl W2.heap.size W2).drew _
    have hu : (W2.drew.alloc (.cells #[.int .i64 a, .int .i64 p, .int .i64 b, .int .i64 q] 50)).heap[W2.drew.heap.size]? = some (.cells #[.int .i64 a, .int .i64 p, .int .i64 b, .int .i64 q] 50 (0, 0)) := hp_topA rfl
    have HU := Lib.hid hu
    clear hu
    refine hK.out _ _ (HF.out _ HB6.out) (fun hHeld => ?_)
    clear hK K
    try simp only [Act.put, List.setIfInBounds_toArray, List.set_cons_zero, List.set_cons_succ, List.getElem_toArray, List.getElem_cons_zero, List.getElem_cons_succ]
    refine wpAnyH_ready (rs := [1]) (by kernel_rfl) (by simp) ?_
    refine AllReadyH.cons rfl (fun K hK => ?_) AllReadyH.nil
    go_simp
    go_at_call 96
    refine (HMX _).out.mono ?_
    rintro e w6 ⟨⟨g, c, rfl, hg, hrow⟩, hb6⟩
    have HB7 : Hid (Below W2.heap.size W2 w6) := belS HB6.out hb6
    have HR6 := Lib.hid hrow
    have HU6 : Hid (w6.heap[W2.drew.heap.size]? = some (.cells #[.int .i64 a, .int .i64 p, .int .i64 b, .int .i64 q] 50 (0, 0))) := (hb6.block _ (by simp)).trans HU.out
    clear hg hrow hb6
    try dsimp only
    refine hK.out _ _ (HF.out _ HB7.out) (fun hHeld => ?_)
    clear hK K
    try simp only [Act.put, List.setIfInBounds_toArray, List.set_cons_zero, List.set_cons_succ, List.getElem_toArray, List.getElem_cons_zero, List.getElem_cons_succ]
    refine wpAnyH_ready (rs := [7]) (by kernel_rfl) (by simp) ?_
    refine AllReadyH.cons rfl (fun K hK => ?_) AllReadyH.nil
    go_simp
    go_at_call 95
    refine (HKP.out _ _ _ _ HR6.out HU6.out).mono ?_
    rintro e w8 ⟨rfl, hb8⟩
    have HB8 : Hid (Below W2.heap.size W2 w8) := belS HB7.out hb8
    clear hb8
    try dsimp only
    refine hK.out _ _ (HF.out _ HB8.out) (fun hHeld => ?_)
    clear hK K
    try simp only [Act.put, List.setIfInBounds_toArray, List.set_cons_zero, List.set_cons_succ, List.getElem_toArray, List.getElem_cons_zero, List.getElem_cons_succ]
    refine wpAnyH_take (i := 8) (v := ?_) rfl (by kernel_rfl) (by kernel_rfl) (by kernel_rfl) (fun _ _ _ h => h) (Or.inl ⟨by kernel_rfl, ?_⟩) (by assumption) ?_
    rotate_left
    · (intro w hSw; (try dsimp only at hSw); go_simp)
      try with_reducible rfl
    try simp only [Act.put, List.setIfInBounds_toArray, List.set_cons_zero, List.set_cons_succ, List.getElem_toArray, List.getElem_cons_zero, List.getElem_cons_succ]
    refine wpAnyH_done (by kernel_rfl) ?_ _
    clear hHeld
    go_wp2_with fail
    all_goals go_ret
    all_goals exact ⟨rfl, HB2.out.trans (HB8.out.mono HB2.out.size)⟩
end Go.Proofs.YtockinpjfhhkoaaGreatDoor
