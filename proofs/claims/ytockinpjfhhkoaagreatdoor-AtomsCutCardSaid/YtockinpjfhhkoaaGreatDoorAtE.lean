/- dbm.Twin, slices.Equal, Same. -/
import Derived.Deep.RegionHeld3
import Derived.Deep.RegionLaw
import Derived.Test.YtockinpjfhhkoaaGreatDoorAtB
namespace Go.Proofs.YtockinpjfhhkoaaGreatDoor
open Go.RowKit

set_option maxRecDepth 100000 in
set_option maxHeartbeats 4000000 in
theorem twin122_any {n g c : Nat} {L : List Int} {w : World} (h : RowB w g L) (hn : 0 < L.length) (hn2 : L.length ≤ 100) :
    Calls Tryz.prog 122 #[.agg #[.int .i64 n, .slice (some ⟨g, 0, none⟩) L.length c]] w fun e w' => (∃ g' c', e = .returned (.agg #[.int .i64 n, .slice (some ⟨g', 0, none⟩) L.length c']) ∧ w.heap.size ≤ g' ∧ RowB w' g' L) ∧ Below w.heap.size w w' := by
  obtain ⟨W2, hW2⟩ : ∃ W2, W2 = (w.alloc (.cells #[.int .i64 n, .slice (some ⟨g, 0, none⟩) L.length c] 116)).alloc (.cells #[.int .i64 0, .slice none 0 0] 116) := ⟨_, rfl⟩
  have hb2 : Below w.heap.size w W2 := by rw [hW2]; exact (belowA _ _).alloc (by simp) _
  have hz2 : W2.heap.size = w.heap.size + 2 := by rw [hW2]; simp
  have hx2 : W2.heap[w.heap.size]? = some (.cells #[.int .i64 n, .slice (some ⟨g, 0, none⟩) L.length c] 116 (0, 0)) := by
    rw [hW2]; exact (Below.heap_alloc _ _ _ (by simp)).trans (hp_topA rfl)
  have hr2 : W2.heap[w.heap.size + 1]? = some (.cells #[.int .i64 0, .slice none 0 0] 116 (0, 0)) := by
    rw [hW2]; exact hp_topA (by simp)
  have HC : Hid (∀ W, Below W2.heap.size W2 W → Calls Tryz.prog 191 #[.slice (some ⟨g, 0, none⟩) L.length c] W fun e w' => (∃ g' c', e = .returned (.slice (some ⟨g', 0, none⟩) L.length c') ∧ W2.heap.size ≤ g' ∧ RowB w' g' L) ∧ Below W2.heap.size W2 w') := by
    intro W hW
    refine (clone191_any g c L W hn hn2 ((h.below hb2).below hW)).mono ?_
    rintro e w' ⟨⟨g', c', rfl, h1, h2⟩, h3⟩
    exact ⟨⟨g', c', rfl, Nat.le_trans hW.size h1, h2⟩, hW.trans (h3.mono hW.size)⟩
  have HX : Hid (∀ W, Below W2.heap.size W2 W → W.cell? ⟨w.heap.size, 0, none⟩ = some (.int .i64 n) ∧ W.cell? ⟨w.heap.size, 1, none⟩ = some (.slice (some ⟨g, 0, none⟩) L.length c) ∧ w.heap.size < W.heap.size) := by
    intro W hW
    have h1 : W.heap[w.heap.size]? = _ := (hW.block _ (by omega)).trans hx2
    exact ⟨Lib.cell_of_heap h1 0, Lib.cell_of_heap h1 1, (Array.getElem?_eq_some_iff.1 h1).1⟩
  have HR : Hid (∀ W, Below W2.heap.size W2 W → W.heap[w.heap.size + 1]? = some (.cells #[.int .i64 0, .slice none 0 0] 116 (0, 0))) := fun W hW => (hW.block _ (by omega)).trans hr2
  have HW2 := Lib.hid hW2.symm
  have HB2 := Lib.hid hb2
  have HZ2 := Lib.hid hz2
  have HX2 := Lib.hid hx2
  have hself : Below W2.heap.size W2 W2 := Below.refl _ _
  obtain ⟨x0, x1, x2⟩ := HX.out W2 hself
  clear h hn hn2 hb2 hz2 hx2 hr2 hW2
  go_enter Tryz.func122, Tryz.ntmps122
  go_upto_region 1 with fail
  rw [HW2.out]
  have HS2 : Hid (∀ (W : World) (vv : Value × Value), Below W2.heap.size W2 W → (((W.setCell ⟨w.heap.size + 1, 0, none⟩ vv.1).setCell ⟨w.heap.size + 1, 1, none⟩ vv.2).cell? ⟨w.heap.size, 0, none⟩ = some (.int .i64 n) ∧ ((W.setCell ⟨w.heap.size + 1, 0, none⟩ vv.1).setCell ⟨w.heap.size + 1, 1, none⟩ vv.2).cell? ⟨w.heap.size, 1, none⟩ = some (.slice (some ⟨g, 0, none⟩) L.length c) ∧ w.heap.size < ((W.setCell ⟨w.heap.size + 1, 0, none⟩ vv.1).setCell ⟨w.heap.size + 1, 1, none⟩ vv.2).heap.size)) := by
    intro W vv hW
    have h1 : W.heap[w.heap.size]? = _ := (hW.block _ (by have := HZ2.out; omega)).trans HX2.out
    have h2 := (setCell_other' (W.setCell ⟨w.heap.size + 1, 0, none⟩ vv.1) (w.heap.size + 1) 1 vv.2 w.heap.size (by omega)).trans ((setCell_other' W (w.heap.size + 1) 0 vv.1 w.heap.size (by omega)).trans h1)
    exact ⟨Lib.cell_of_heap h2 0, Lib.cell_of_heap h2 1, (Array.getElem?_eq_some_iff.1 h2).1⟩
  have HQ : Hid (∀ (W : World) (x y : Value), W.heap[w.heap.size + 1]? = some (.cells #[.int .i64 0, .slice none 0 0] 116 (0, 0)) → ((W.setCell ⟨w.heap.size + 1, 0, none⟩ x).setCell ⟨w.heap.size + 1, 1, none⟩ y).heap[w.heap.size + 1]? = some (.cells #[x, y] 116 (0, 0))) := fun W x y h => setCell_at (setCell_at h 0 x) 1 y
  refine wp_region_held_drew (S := fun W => W.cell? ⟨w.heap.size, 0, none⟩ = some (.int .i64 n) ∧ W.cell? ⟨w.heap.size, 1, none⟩ = some (.slice (some ⟨g, 0, none⟩) L.length c) ∧ w.heap.size < W.heap.size) (by kernel_rfl) (HX.out W2.drew hself.drew) (fun hHeld => ?_)
  refine wpAnyH_take (i := 0) (v := ?_) rfl (by kernel_rfl) (by kernel_rfl) (by kernel_rfl) (fun _ _ _ h => h) (Or.inl ⟨by kernel_rfl, ?_⟩) (by assumption) ?_
  rotate_left
  · (intro w hSw; (try dsimp only at hSw); go_simp)
    try with_reducible rfl
  try simp only [Act.put, List.setIfInBounds_toArray, List.set_cons_zero, List.set_cons_succ, List.getElem_toArray, List.getElem_cons_zero]
  refine wpAnyH_take (i := 1) (v := ?_) rfl (by kernel_rfl) (by kernel_rfl) (by kernel_rfl) (fun _ _ _ h => h) (Or.inl ⟨by kernel_rfl, ?_⟩) (by assumption) ?_
  rotate_left
  · (intro w hSw; (try dsimp only at hSw); go_simp)
    try with_reducible rfl
  try simp only [Act.put, List.setIfInBounds_toArray, List.getElem_toArray]
  refine wpAnyH_take (i := 2) (v := ?_) rfl (by kernel_rfl) (by kernel_rfl) (by kernel_rfl) (fun _ _ _ h => h) (Or.inl ⟨by kernel_rfl, ?_⟩) (by assumption) ?_
  rotate_left
  · (intro w hSw; (try dsimp only at hSw); go_simp)
    try with_reducible rfl
  try simp only [Act.put, List.getElem_toArray]
  refine wpAnyH_take (i := 3) (v := ?_) rfl (by kernel_rfl) (by kernel_rfl) (by kernel_rfl) (fun _ _ _ h => h) (Or.inl ⟨by kernel_rfl, ?_⟩) (by assumption) ?_
  rotate_left
  · (intro w hSw; (try dsimp only at hSw); go_simp)
    try with_reducible rfl
  try simp only [Act.put, List.getElem_toArray]
  refine wpAnyH_ready (rs := [4]) (by kernel_rfl) (by simp) ?_
  refine AllReadyH.cons rfl (fun K hK => ?_) AllReadyH.nil
  go_simp
  go_at_call 191
  refine (HC.out W2.drew hself.drew).mono ?_
  rintro e wz ⟨⟨g', c', rfl, hg', hrow⟩, hbz⟩
  have hrb := HR.out wz hbz
  have r0 := Lib.cell_of_heap hrb 0
  have r1 := Lib.cell_of_heap hrb 1
  simp only [List.getElem?_toArray, List.getElem?_cons_zero, List.getElem?_cons_succ] at r0 r1
  have f0 := Lib.frozen_of_heap hrb 0
  have f1 := Lib.frozen_of_heap hrb 1
  have rl := (Array.getElem?_eq_some_iff.1 hrb).1
  have HROW := Lib.hid hrow
  have HBZ := Lib.hid hbz
  have HG := Lib.hid hg'
  have HRB := Lib.hid hrb
  clear hrow hbz hg' hrb
  try dsimp only
  refine hK.out _ _ (HX.out wz HBZ.out) (fun hHeld => ?_)
  clear hK K
  try simp only [Act.put, List.setIfInBounds_toArray, List.set_cons_zero, List.set_cons_succ, List.getElem_toArray, List.getElem_cons_zero]
  refine wpAnyH_take (i := 5) (v := ?_) rfl (by kernel_rfl) (by kernel_rfl) (by kernel_rfl) (fun _ _ _ h => h) (Or.inl ⟨by kernel_rfl, ?_⟩) (by assumption) ?_
  rotate_left
  · (intro w hSw; (try dsimp only at hSw); go_simp)
    try with_reducible rfl
  try simp only [Act.put, List.setIfInBounds_toArray, List.getElem_toArray]
  refine wpAnyH_ready (rs := [6]) (by kernel_rfl) (by simp) ?_
  refine AllReadyH.cons rfl (fun K hK => ?_) AllReadyH.nil
  go_simp
  refine hK.out _ _ (HS2.out wz (_, _) HBZ.out) (fun hHeld => ?_)
  clear hK K
  try simp only [Act.put, List.setIfInBounds_toArray, List.set_cons_zero, List.set_cons_succ]
  refine wpAnyH_done (by kernel_rfl) ?_ _
  go_wp2_with fail
  refine bodyPost_ret (results_cell_row rfl _ _ _ _ _ _ _ rfl (HQ.out wz _ _ HRB.out) Tryz.underlying116 rfl (by kernel_rfl)) rfl ?_
  exact ⟨⟨_, _, rfl, by have := HG.out; have := HZ2.out; omega, (HROW.out.setOther _ _ _ (by have := HG.out; have := HZ2.out; omega)).setOther _ _ _ (by have := HG.out; have := HZ2.out; omega)⟩, ((HB2.out.trans (HBZ.out.mono HB2.out.size)).setCell (p := ⟨w.heap.size + 1, 0, none⟩) (by simp) _).setCell (p := ⟨w.heap.size + 1, 1, none⟩) (by simp) _⟩
end Go.Proofs.YtockinpjfhhkoaaGreatDoor
