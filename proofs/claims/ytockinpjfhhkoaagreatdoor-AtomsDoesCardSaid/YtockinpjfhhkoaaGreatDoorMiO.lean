/- zone.Check, zone.Has walked. (Printed by gen_aty.py.) -/
import Derived.Deep.RegionHeld
import Derived.Deep.Cut
import Derived.Test.YtockinpjfhhkoaaGreatDoorAtX
import Derived.Test.YtockinpjfhhkoaaGreatDoorAtV
import Derived.Test.YtockinpjfhhkoaaGreatDoorMiL
import Derived.Test.YtockinpjfhhkoaaGreatDoorMiC
namespace Go.Proofs.YtockinpjfhhkoaaGreatDoor
open Go.RowKit

set_option maxRecDepth 100000 in
set_option maxHeartbeats 8000000 in
theorem check27_any (z0 z1 z2 z3 z4 z5 : Int) (w : World) (hbd : badD (matD z0 z1 z2 z3 z4 z5) = false) (hcl : closeD 3 (matD z0 z1 z2 z3 z4 z5) = some (matD z0 z1 z2 z3 z4 z5)) :
    Calls Tryz.prog 27 #[.agg #[.int .i64 z0, .int .i64 z1, .int .i64 z2, .int .i64 z3, .int .i64 z4, .int .i64 z5]] w fun e w' => e = .returned (.int .i64 0) ∧ Below w.heap.size w w' := by
  have HB1 : Hid (Below w.heap.size w (w.alloc (.cells #[.int .i64 z0, .int .i64 z1, .int .i64 z2, .int .i64 z3, .int .i64 z4, .int .i64 z5] 69))) := belowA _ _
  have HMX := fun W => Lib.hid (matrix60_any z0 z1 z2 z3 z4 z5 W)
  obtain ⟨M, hM⟩ : ∃ M, (matD z0 z1 z2 z3 z4 z5) = M := ⟨_, rfl⟩
  rw [hM] at hbd hcl HMX
  have hl : M.length = 9 := by rw [← hM]; rfl
  have HCL : Hid (∀ W g c, RowB W g M → Calls Tryz.prog 62 #[.agg #[.int .i64 3, .slice (some ⟨g, 0, none⟩) 9 c]] W fun e w' => (∃ g' c', e = .returned (.tuple #[.agg #[.int .i64 3, .slice (some ⟨g', 0, none⟩) 9 c'], .int .i64 0]) ∧ W.heap.size ≤ g' ∧ RowB w' g' M) ∧ Below W.heap.size W w') := by
    intro W g c h
    have := close62_any (n := 3) (c := c) h hl (by decide) (by decide) hbd
    rw [hcl, hl] at this
    refine this.mono ?_
    rintro e w' ⟨⟨g', c', h1, h2, h3⟩, h4⟩
    exact ⟨⟨g', c', by rw [h1, hl]; rfl, h2, h3⟩, h4⟩
  have HSM : Hid (∀ W g c g' c', RowB W g M → RowB W g' M → Calls Tryz.prog 63 #[.agg #[.int .i64 3, .slice (some ⟨g, 0, none⟩) 9 c], .agg #[.int .i64 3, .slice (some ⟨g', 0, none⟩) 9 c']] W fun e w' => e = .returned (.bool true) ∧ Below W.heap.size W w') := by
    intro W g c g' c' h h'
    have := same63_any (n := 3) (m := 3) (c := c) (c' := c') h h' (by omega) (by omega)
    rw [hl] at this
    refine this.mono ?_
    rintro e w' ⟨h1, h2⟩
    exact ⟨by rw [h1]; simp, h2⟩
  clear hM hbd hcl hl
  go_enter Tryz.func27, Tryz.ntmps27
  go_wp2_with fail
  refine (HMX _).out.mono ?_
  rintro e w2 ⟨⟨g, c, rfl, hg, hrow⟩, hb2⟩
  have HB2 : Hid (Below w.heap.size w w2) := HB1.out.trans (hb2.mono HB1.out.size)
  have HR2 := Lib.hid hrow
  clear hg hrow hb2
  go_wp2_with fail
  refine (HCL.out _ _ _ (HR2.out.alloc _)).mono ?_
  rintro e w3 ⟨⟨g', c', rfl, hg', hrow'⟩, hb3⟩
  have hba : Below w2.heap.size w2 w3 := ((belowA _ _).trans (hb3.mono (by simp)))
  have HB3 : Hid (Below w.heap.size w w3) := HB2.out.trans (hba.mono HB2.out.size)
  have HR3 : Hid (RowB w3 g M) := HR2.out.below hba
  have HR3' := Lib.hid hrow'
  have hm3 : w3.heap[w2.heap.size]? = some (.cells #[.int .i64 3, .slice (some ⟨g, 0, none⟩) 9 c] 116 (0, 0)) := (hb3.block _ (by simp)).trans (hp_topA rfl)
  have x0 := Lib.cell_of_heap hm3 0
  have x1 := Lib.cell_of_heap hm3 1
  simp only [List.getElem?_toArray, List.getElem?_cons_zero, List.getElem?_cons_succ] at x0 x1
  have xl := (Array.getElem?_eq_some_iff.1 hm3).1
  clear hg' hrow' hb3 hba hm3
  go_wp2_with fail
  refine (HSM.out _ _ _ _ _ (HR3'.out.alloc _) (HR3.out.alloc _)).mono ?_
  rintro e w4 ⟨rfl, hb4⟩
  have HB4 : Hid (Below w.heap.size w w4) := by
    have h1 : Below w.heap.size w (w3.alloc (.cells #[.int .i64 3, .slice (some ⟨g', 0, none⟩) 9 c'] 116)) := HB3.out.alloc HB3.out.size _
    exact h1.trans (hb4.mono h1.size)
  clear hb4 x0 x1 xl
  go_wp2_with fail
  all_goals go_ret
  all_goals exact ⟨rfl, HB4.out⟩

set_option maxRecDepth 100000 in
set_option maxHeartbeats 16000000 in
theorem has25_any {z0 z1 z2 z3 z4 z5 a p b q : Int} (w : World) (hbd : badD (matD z0 z1 z2 z3 z4 z5) = false) (hcl : closeD 3 (matD z0 z1 z2 z3 z4 z5) = some (matD z0 z1 z2 z3 z4 z5)) (ha : in64 a) (hap : mayQ a p = true) (hb : in64 b) (hbq : mayQ b q = true) :
    Calls Tryz.prog 25 #[.agg #[.int .i64 z0, .int .i64 z1, .int .i64 z2, .int .i64 z3, .int .i64 z4, .int .i64 z5], .agg #[.int .i64 a, .int .i64 p, .int .i64 b, .int .i64 q]] w fun e w' => e = .returned (.tuple #[.bool (keepsD 3 (matD z0 z1 z2 z3 z4 z5) [(0, 1), (a, p), (b, q)]), .int .i64 0]) ∧ Below w.heap.size w w' := by
  obtain ⟨W2, hW2⟩ : ∃ W2, W2 = (w.alloc (.cells #[.int .i64 z0, .int .i64 z1, .int .i64 z2, .int .i64 z3, .int .i64 z4, .int .i64 z5] 69)).alloc (.cells #[.int .i64 a, .int .i64 p, .int .i64 b, .int .i64 q] 52) := ⟨_, rfl⟩
  have hb2 : Below w.heap.size w W2 := by rw [hW2]; exact (belowA _ _).alloc (by simp) _
  have hx0 : W2.heap[w.heap.size]? = some (.cells #[.int .i64 z0, .int .i64 z1, .int .i64 z2, .int .i64 z3, .int .i64 z4, .int .i64 z5] 69 (0, 0)) := by rw [hW2]; exact (Below.heap_alloc _ _ _ (by simp)).trans (hp_topA rfl)
  have hx1 : W2.heap[w.heap.size + 1]? = some (.cells #[.int .i64 a, .int .i64 p, .int .i64 b, .int .i64 q] 52 (0, 0)) := by rw [hW2]; exact hp_topA (by simp)
  have HF : Hid (∀ W, Below W2.heap.size W2 W → W.cell? ⟨w.heap.size, 0, none⟩ = some (.int .i64 z0) ∧ W.cell? ⟨w.heap.size, 1, none⟩ = some (.int .i64 z1) ∧ W.cell? ⟨w.heap.size, 2, none⟩ = some (.int .i64 z2) ∧ W.cell? ⟨w.heap.size, 3, none⟩ = some (.int .i64 z3) ∧ W.cell? ⟨w.heap.size, 4, none⟩ = some (.int .i64 z4) ∧ W.cell? ⟨w.heap.size, 5, none⟩ = some (.int .i64 z5) ∧ W.cell? ⟨w.heap.size + 1, 0, none⟩ = some (.int .i64 a) ∧ W.cell? ⟨w.heap.size + 1, 1, none⟩ = some (.int .i64 p) ∧ W.cell? ⟨w.heap.size + 1, 2, none⟩ = some (.int .i64 b) ∧ W.cell? ⟨w.heap.size + 1, 3, none⟩ = some (.int .i64 q) ∧ w.heap.size < W.heap.size ∧ w.heap.size + 1 < W.heap.size) := by
    intro W hW
    have k0 := (hW.block _ (Array.getElem?_eq_some_iff.1 hx0).1).trans hx0
    have k1 := (hW.block _ (Array.getElem?_eq_some_iff.1 hx1).1).trans hx1
    exact ⟨Lib.cell_of_heap k0 0, Lib.cell_of_heap k0 1, Lib.cell_of_heap k0 2, Lib.cell_of_heap k0 3, Lib.cell_of_heap k0 4, Lib.cell_of_heap k0 5, Lib.cell_of_heap k1 0, Lib.cell_of_heap k1 1, Lib.cell_of_heap k1 2, Lib.cell_of_heap k1 3, (Array.getElem?_eq_some_iff.1 k0).1, (Array.getElem?_eq_some_iff.1 k1).1⟩
  have HCK := fun W => Lib.hid (check27_any z0 z1 z2 z3 z4 z5 W hbd hcl)
  have HQA : Hid (∀ W, Calls Tryz.prog 52 #[.agg #[.int .i64 a, .int .i64 p]] W fun e w' => e = .returned (.int .i64 0) ∧ Below W.heap.size W w') := fun W => by
    have := check52_any a p W ha
    rw [ratE_ok hap] at this; exact this
  have HQB : Hid (∀ W, Calls Tryz.prog 52 #[.agg #[.int .i64 b, .int .i64 q]] W fun e w' => e = .returned (.int .i64 0) ∧ Below W.heap.size W w') := fun W => by
    have := check52_any b q W hb
    rw [ratE_ok hbq] at this; exact this
  have HMX := fun W => Lib.hid (matrix60_any z0 z1 z2 z3 z4 z5 W)
  obtain ⟨M, hM⟩ : ∃ M, (matD z0 z1 z2 z3 z4 z5) = M := ⟨_, rfl⟩
  rw [hM] at hbd hcl HMX ⊢
  have hl : M.length = 9 := by rw [← hM]; rfl
  have HKP : Hid (∀ W g c u, RowB W g M → W.heap[u]? = some (.cells #[.int .i64 a, .int .i64 p, .int .i64 b, .int .i64 q] 50 (0, 0)) → Calls Tryz.prog 59 #[.agg #[.int .i64 3, .slice (some ⟨g, 0, none⟩) 9 c], .slice (some ⟨u, 0, none⟩) 2 2] W fun e w' => e = .returned (.tuple #[.bool (keepsD 3 M [(0, 1), (a, p), (b, q)]), .int .i64 0]) ∧ Below W.heap.size W w') := by
    intro W g c u h hu
    have hr : RatR W u [(a, p), (b, q)] := by
      refine ⟨(Array.getElem?_eq_some_iff.1 hu).1, fun k hk => ?_⟩
      match k, hk with
      | 0, _ => exact ⟨by rw [Lib.cell_of_heap hu]; rfl, by rw [Lib.cell_of_heap hu]; rfl⟩
      | 1, _ => exact ⟨by rw [Lib.cell_of_heap hu]; rfl, by rw [Lib.cell_of_heap hu]; rfl⟩
    have := keeps59_any (n := 3) (c := c) (tc := 2) h hl (by decide) (by decide) hbd hr rfl (by
      intro x hx
      simp only [List.mem_cons, List.not_mem_nil, or_false] at hx
      rcases hx with rfl | rfl
      · exact ⟨ha, hap⟩
      · exact ⟨hb, hbq⟩)
    rw [hl] at this
    exact this
  have HW2 := Lib.hid hW2.symm
  have HB2 := Lib.hid hb2
  obtain ⟨x0, x1, x2, x3, x4, x5, x6, x7, x8, x9, x10, x11⟩ := HF.out W2 (Below.refl _ _)
  clear hbd hcl ha hap hb hbq hM hl hb2 hx0 hx1 hW2
  go_enter Tryz.func25, Tryz.ntmps25
  go_upto_region 1 with fail
  rw [HW2.out]
  clear HW2
  go_wp2_with fail
  refine (HCK _).out.mono ?_
  rintro e w3 ⟨rfl, hb3⟩
  have HB3 : Hid (Below W2.heap.size W2 w3) := hb3
  clear hb3 x0 x1 x2 x3 x4 x5 x6 x7 x8 x9 x10 x11
  obtain ⟨y0, y1, y2, y3, y4, y5, y6, y7, y8, y9, y10, y11⟩ := HF.out w3 HB3.out
  go_wp2_with fail
  refine (HQA.out _).mono ?_
  rintro e w4 ⟨rfl, hb4⟩
  have HB4 : Hid (Below W2.heap.size W2 w4) := belS HB3.out hb4
  clear hb4 y0 y1 y2 y3 y4 y5 y6 y7 y8 y9 y10 y11
  obtain ⟨z0, z1, z2, z3, z4, z5, z6, z7, z8, z9, z10, z11⟩ := HF.out w4 HB4.out
  go_wp2_with fail
  refine (HQB.out _).mono ?_
  rintro e w5 ⟨rfl, hb5⟩
  have HB5 : Hid (Below W2.heap.size W2 w5) := belS HB4.out hb5
  clear hb5 z0 z1 z2 z3 z4 z5 z6 z7 z8 z9 z10 z11
  go_upto_region 3 with fail
  have HS0 := Lib.hid (HF.out w5.drew HB5.out.drew)
  refine wp_region_held_drew (S := fun W => W.cell? ⟨w.heap.size, 0, none⟩ = some (.int .i64 z0) ∧ W.cell? ⟨w.heap.size, 1, none⟩ = some (.int .i64 z1) ∧ W.cell? ⟨w.heap.size, 2, none⟩ = some (.int .i64 z2) ∧ W.cell? ⟨w.heap.size, 3, none⟩ = some (.int .i64 z3) ∧ W.cell? ⟨w.heap.size, 4, none⟩ = some (.int .i64 z4) ∧ W.cell? ⟨w.heap.size, 5, none⟩ = some (.int .i64 z5) ∧ W.cell? ⟨w.heap.size + 1, 0, none⟩ = some (.int .i64 a) ∧ W.cell? ⟨w.heap.size + 1, 1, none⟩ = some (.int .i64 p) ∧ W.cell? ⟨w.heap.size + 1, 2, none⟩ = some (.int .i64 b) ∧ W.cell? ⟨w.heap.size + 1, 3, none⟩ = some (.int .i64 q) ∧ w.heap.size < W.heap.size ∧ w.heap.size + 1 < W.heap.size) (by kernel_rfl) HS0.out (fun hHeld => ?_)
  refine wpAnyH_take (i := 0) (v := ?_) rfl (by kernel_rfl) (by kernel_rfl) (by kernel_rfl) (fun _ _ _ h => h) (Or.inl ⟨by kernel_rfl, ?_⟩) (by assumption) ?_
  rotate_left
  · (intro w hSw; (try dsimp only at hSw); go_simp)
    try with_reducible rfl
  try simp only [Act.put, List.setIfInBounds_toArray, List.set_cons_zero, List.set_cons_succ, List.getElem_toArray, List.getElem_cons_zero]
  refine wpAnyH_take (i := 2) (v := ?_) rfl (by kernel_rfl) (by kernel_rfl) (by kernel_rfl) (fun _ _ _ h => h) (Or.inl ⟨by kernel_rfl, ?_⟩) (by assumption) ?_
  rotate_left
  · (intro w hSw; (try dsimp only at hSw); go_simp)
    try with_reducible rfl
  try simp only [Act.put, List.setIfInBounds_toArray, List.set_cons_zero, List.set_cons_succ, List.getElem_toArray, List.getElem_cons_zero, List.getElem_cons_succ]
  refine wpAnyH_take (i := 3) (v := ?_) rfl (by kernel_rfl) (by kernel_rfl) (by kernel_rfl) (fun _ _ _ h => h) (Or.inl ⟨by kernel_rfl, ?_⟩) (by assumption) ?_
  rotate_left
  · (intro w hSw; (try dsimp only at hSw); go_simp)
    try with_reducible rfl
  try simp only [Act.put, List.setIfInBounds_toArray, List.set_cons_zero, List.set_cons_succ, List.getElem_toArray, List.getElem_cons_zero, List.getElem_cons_succ]
  refine wpAnyH_take (i := 4) (v := ?_) rfl (by kernel_rfl) (by kernel_rfl) (by kernel_rfl) (fun _ _ _ h => h) (Or.inl ⟨by kernel_rfl, ?_⟩) (by assumption) ?_
  rotate_left
  · (intro w hSw; (try dsimp only at hSw); go_simp)
    try with_reducible rfl
  try simp only [Act.put, List.setIfInBounds_toArray, List.set_cons_zero, List.set_cons_succ, List.getElem_toArray, List.getElem_cons_zero, List.getElem_cons_succ]
  refine wpAnyH_take (i := 5) (v := ?_) rfl (by kernel_rfl) (by kernel_rfl) (by kernel_rfl) (fun _ _ _ h => h) (Or.inl ⟨by kernel_rfl, ?_⟩) (by assumption) ?_
  rotate_left
  · (intro w hSw; (try dsimp only at hSw); go_simp)
    try with_reducible rfl
  try simp only [Act.put, List.setIfInBounds_toArray, List.set_cons_zero, List.set_cons_succ, List.getElem_toArray, List.getElem_cons_zero, List.getElem_cons_succ]
  refine wpAnyH_ready (rs := [1, 6]) (by kernel_rfl) (by simp) ?_
  refine AllReadyH.cons rfl (fun K hK => ?_) (AllReadyH.cons rfl (fun K hK => ?_) AllReadyH.nil)
  · go_simp
    go_at_call 60
    refine (HMX _).out.mono ?_
    rintro e w6 ⟨⟨g, c, rfl, hg, hrow⟩, hb6⟩
    have HB6 : Hid (Below W2.heap.size W2 w6) := belS HB5.out.drew hb6
    have HR6 := Lib.hid hrow
    clear hg hrow hb6
    try dsimp only
    refine hK.out _ _ (HF.out _ HB6.out) (fun hHeld => ?_)
    clear hK K
    try simp only [Act.put, List.setIfInBounds_toArray, List.set_cons_zero, List.set_cons_succ, List.getElem_toArray, List.getElem_cons_zero, List.getElem_cons_succ]
    refine wpAnyH_ready (rs := [6]) (by kernel_rfl) (by simp) ?_
    refine AllReadyH.cons rfl (fun K hK => ?_) AllReadyH.nil
    go_simp
    have HB7 : Hid (Below W2.heap.size W2 (w6.alloc (.cells #[.int .i64 a, .int .i64 p, .int .i64 b, .int .i64 q] 50))) := belA' HB6.out _
    refine hK.out _ _ (HF.out _ HB7.out) (fun hHeld => ?_)
    clear hK K
    try simp only [Act.put, List.setIfInBounds_toArray, List.set_cons_zero, List.set_cons_succ, List.getElem_toArray, List.getElem_cons_zero, List.getElem_cons_succ]
    refine wpAnyH_ready (rs := [7]) (by kernel_rfl) (by simp) ?_
    refine AllReadyH.cons rfl (fun K hK => ?_) AllReadyH.nil
    go_simp
    go_at_call 59
    refine (HKP.out _ _ _ _ (HR6.out.alloc _) (hp_topA rfl)).mono ?_
    rintro e w8 ⟨rfl, hb8⟩
    have HB8 : Hid (Below W2.heap.size W2 w8) := belS HB7.out hb8
    clear hb8
    try dsimp only
    refine hK.out _ _ (HF.out _ HB8.out) (fun hHeld => ?_)
    clear hK K
    try simp only [Act.put, List.setIfInBounds_toArray, List.set_cons_zero, List.set_cons_succ, List.getElem_toArray, List.getElem_cons_zero, List.getElem_cons_succ]
    refine wpAnyH_take (i := 8) (v := ?_) rfl (by kernel_rfl) (by kernel_rfl) (by kernel_rfl) (fun _ _ _ h => h) (Or.inl ⟨by kernel_rfl, ?_⟩) (by assumption) ?_
    rotate_left
    · (intro w hSw; (try dsimp only at hSw); go_simp)
      try with_reducible rfl
    try simp only [Act.put, List.setIfInBounds_toArray, List.set_cons_zero, List.set_cons_succ, List.getElem_toArray, List.getElem_cons_zero, List.getElem_cons_succ]
    refine wpAnyH_take (i := 9) (v := ?_) rfl (by kernel_rfl) (by kernel_rfl) (by kernel_rfl) (fun _ _ _ h => h) (Or.inl ⟨by kernel_rfl, ?_⟩) (by assumption) ?_
    rotate_left
    · (intro w hSw; (try dsimp only at hSw); go_simp)
      try with_reducible rfl
    try simp only [Act.put, List.setIfInBounds_toArray, List.set_cons_zero, List.set_cons_succ, List.getElem_toArray, List.getElem_cons_zero, List.getElem_cons_succ]
    refine wpAnyH_take (i := 10) (v := ?_) rfl (by kernel_rfl) (by kernel_rfl) (by kernel_rfl) (fun _ _ _ h => h) (Or.inl ⟨by kernel_rfl, ?_⟩) (by assumption) ?_
    rotate_left
    · (intro w hSw; (try dsimp only at hSw); go_simp)
      try with_reducible rfl
    try simp only [Act.put, List.setIfInBounds_toArray, List.set_cons_zero, List.set_cons_succ, List.getElem_toArray, List.getElem_cons_zero, List.getElem_cons_succ]
    refine wpAnyH_take (i := 11) (v := ?_) rfl (by kernel_rfl) (by kernel_rfl) (by kernel_rfl) (fun _ _ _ h => h) (Or.inl ⟨by kernel_rfl, ?_⟩) (by assumption) ?_
    rotate_left
    · (intro w hSw; (try dsimp only at hSw); go_simp)
      try with_reducible rfl
    try simp only [Act.put, List.setIfInBounds_toArray, List.set_cons_zero, List.set_cons_succ, List.getElem_toArray, List.getElem_cons_zero, List.getElem_cons_succ]
    refine wpAnyH_done (by kernel_rfl) ?_ _
    clear hHeld
    go_wp2_with fail
    all_goals go_ret2
    all_goals exact ⟨rfl, HB2.out.trans (HB8.out.mono HB2.out.size)⟩
  · go_simp
    have HB6 : Hid (Below W2.heap.size W2 (w5.drew.alloc (.cells #[.int .i64 a, .int .i64 p, .int .i64 b, .int .i64 q] 50))) := belA' HB5.out.drew _
    have hu : (w5.drew.alloc (.cells #[.int .i64 a, .int .i64 p, .int .i64 b, .int .i64 q] 50)).heap[w5.drew.heap.size]? = some (.cells #[.int .i64 a, .int .i64 p, .int .i64 b, .int .i64 q] 50 (0, 0)) := hp_topA rfl
    have HU := Lib.hid hu
    clear hu
    refine hK.out _ _ (HF.out _ HB6.out) (fun hHeld => ?_)
    clear hK K
    try simp only [Act.put, List.setIfInBounds_toArray, List.set_cons_zero, List.set_cons_succ, List.getElem_toArray, List.getElem_cons_zero, List.getElem_cons_succ]
    refine wpAnyH_ready (rs := [1]) (by kernel_rfl) (by simp) ?_
    refine AllReadyH.cons rfl (fun K hK => ?_) AllReadyH.nil
    go_simp
    go_at_call 60
    refine (HMX _).out.mono ?_
    rintro e w6 ⟨⟨g, c, rfl, hg, hrow⟩, hb6⟩
    have HB7 : Hid (Below W2.heap.size W2 w6) := belS HB6.out hb6
    have HR6 := Lib.hid hrow
    have HU6 : Hid (w6.heap[w5.drew.heap.size]? = some (.cells #[.int .i64 a, .int .i64 p, .int .i64 b, .int .i64 q] 50 (0, 0))) := (hb6.block _ (by simp)).trans HU.out
    clear hg hrow hb6
    try dsimp only
    refine hK.out _ _ (HF.out _ HB7.out) (fun hHeld => ?_)
    clear hK K
    try simp only [Act.put, List.setIfInBounds_toArray, List.set_cons_zero, List.set_cons_succ, List.getElem_toArray, List.getElem_cons_zero, List.getElem_cons_succ]
    refine wpAnyH_ready (rs := [7]) (by kernel_rfl) (by simp) ?_
    refine AllReadyH.cons rfl (fun K hK => ?_) AllReadyH.nil
    go_simp
    go_at_call 59
    refine (HKP.out _ _ _ _ HR6.out HU6.out).mono ?_
    rintro e w8 ⟨rfl, hb8⟩
    have HB8 : Hid (Below W2.heap.size W2 w8) := belS HB7.out hb8
    clear hb8
    try dsimp only
    refine hK.out _ _ (HF.out _ HB8.out) (fun hHeld => ?_)
    clear hK K
    try simp only [Act.put, List.setIfInBounds_toArray, List.set_cons_zero, List.set_cons_succ, List.getElem_toArray, List.getElem_cons_zero, List.getElem_cons_succ]
    refine wpAnyH_take (i := 8) (v := ?_) rfl (by kernel_rfl) (by kernel_rfl) (by kernel_rfl) (fun _ _ _ h => h) (Or.inl ⟨by kernel_rfl, ?_⟩) (by assumption) ?_
    rotate_left
    · (intro w hSw; (try dsimp only at hSw); go_simp)
      try with_reducible rfl
    try simp only [Act.put, List.setIfInBounds_toArray, List.set_cons_zero, List.set_cons_succ, List.getElem_toArray, List.getElem_cons_zero, List.getElem_cons_succ]
    refine wpAnyH_take (i := 9) (v := ?_) rfl (by kernel_rfl) (by kernel_rfl) (by kernel_rfl) (fun _ _ _ h => h) (Or.inl ⟨by kernel_rfl, ?_⟩) (by assumption) ?_
    rotate_left
    · (intro w hSw; (try dsimp only at hSw); go_simp)
      try with_reducible rfl
    try simp only [Act.put, List.setIfInBounds_toArray, List.set_cons_zero, List.set_cons_succ, List.getElem_toArray, List.getElem_cons_zero, List.getElem_cons_succ]
    refine wpAnyH_take (i := 10) (v := ?_) rfl (by kernel_rfl) (by kernel_rfl) (by kernel_rfl) (fun _ _ _ h => h) (Or.inl ⟨by kernel_rfl, ?_⟩) (by assumption) ?_
    rotate_left
    · (intro w hSw; (try dsimp only at hSw); go_simp)
      try with_reducible rfl
    try simp only [Act.put, List.setIfInBounds_toArray, List.set_cons_zero, List.set_cons_succ, List.getElem_toArray, List.getElem_cons_zero, List.getElem_cons_succ]
    refine wpAnyH_take (i := 11) (v := ?_) rfl (by kernel_rfl) (by kernel_rfl) (by kernel_rfl) (fun _ _ _ h => h) (Or.inl ⟨by kernel_rfl, ?_⟩) (by assumption) ?_
    rotate_left
    · (intro w hSw; (try dsimp only at hSw); go_simp)
      try with_reducible rfl
    try simp only [Act.put, List.setIfInBounds_toArray, List.set_cons_zero, List.set_cons_succ, List.getElem_toArray, List.getElem_cons_zero, List.getElem_cons_succ]
    refine wpAnyH_done (by kernel_rfl) ?_ _
    clear hHeld
    go_wp2_with fail
    all_goals go_ret2
    all_goals exact ⟨rfl, HB2.out.trans (HB8.out.mono HB2.out.size)⟩
end Go.Proofs.YtockinpjfhhkoaaGreatDoor

/- atoms.may walked; what atoms.Next answers. -/
namespace Go.Proofs.YtockinpjfhhkoaaGreatDoor
open Go.RowKit

theorem results_cell_row_tmp2 {P : Program} {fn : Func} {p u u2 : Tmp} {ty : TypeId} (h : fn.results = #[.cell p ty, .tmp u, .tmp u2]) (tmps : Array Value) (w : World) (g : Nat) (t : TypeId) (cs : Array Value) (fr : Nat × Nat) (d : TypeDesc) (v v2 : Value)
    (hp : tmps.getD p undef = .pointer (some ⟨g, 0, none⟩)) (hv : tmps.getD u undef = v) (hv2 : tmps.getD u2 undef = v2) (hg : w.heap[g]? = some (.cells cs t fr))
    (hu : P.underlying ty = some d) (hd : (match d with | .struct _ | .array _ _ => true | _ => false) = true) (hi : (P.info? ty).map (·.size) = some cs.size) :
    (results fn tmps).run P w = .ok (.tuple #[.agg cs, v, v2]) w := by
  have k : (results fn tmps).run P w = ((asAddr (tmps.getD p undef)).run P w).andThen fun a w₁ => ((loadVar ty a).run P w₁).andThen fun v w₂ => .ok (.tuple #[v, tmps.getD u undef, tmps.getD u2 undef]) w₂ := by
    simp only [results, h]
    simp [Sem.run_bind, Result.andThen]
  rw [k, hp, hv, hv2]
  simp [asAddr, run_loadVar_row w g t ty cs fr d hg hu hd hi]
/-- May a run go on now? -/
def mayN (on : Bool) (since at_ : Int) : Bool := if on then decide (0 ≤ since) && decide (since < at_) else since == 0
set_option maxRecDepth 100000 in
theorem may41_any (on : Bool) (since at_ : Int) (w : World) : Calls Tryz.prog 41 #[.agg #[.bool on, .int .i64 since], .int .i64 at_] w fun e w' => e = .returned (.bool (mayN on since at_)) ∧ Below w.heap.size w w' := by
  have HB1 : Hid (Below w.heap.size w (w.alloc (.cells #[.bool on, .int .i64 since] 27))) := belowA _ _
  cases on with
  | true =>
    have HM : Hid (mayN true since at_ = (decide (0 ≤ since) && decide (since < at_))) := rfl
    cases h0 : decide (0 ≤ since) with
    | false =>
      rw [h0] at HM
      go_enter Tryz.func41, Tryz.ntmps41
      go_wp2_with fail
      all_goals go_ret
      all_goals exact ⟨by rw [HM.out]; rfl, HB1.out⟩
    | true =>
      rw [h0] at HM
      go_enter Tryz.func41, Tryz.ntmps41
      go_wp2_with fail
      all_goals go_ret
      all_goals exact ⟨by rw [HM.out]; rfl, HB1.out⟩
  | false =>
    by_cases h0 : since = 0
    · subst h0
      have HM : Hid (mayN false 0 at_ = true) := rfl
      go_enter Tryz.func41, Tryz.ntmps41
      go_wp2_with fail
      all_goals go_ret
      all_goals exact ⟨by rw [HM.out]; rfl, HB1.out⟩
    · have HM : Hid (mayN false since at_ = false) := by simpa [mayN, Hid] using h0
      go_enter Tryz.func41, Tryz.ntmps41
      go_wp2_with fail
      all_goals go_ret
      all_goals exact ⟨by rw [HM.out]; rfl, HB1.out⟩
/-- An atom's matrix. -/
def atomM (f a e : Int) : List Int := [1, 2 * (-f) + 1, 2 * (-a), 2 * e, 1, 0, 2 * e + 1, 2 * (e - f) + 1, 1]
theorem may_num {c : Int} (h1 : -288230376151711744 ≤ c) (h2 : c ≤ 288230376151711744) (z : Int) (hz : z = 0 ∨ z = 1) : mayB (2 * c + z) = true := by
  have hd : (2 * c + z) / 2 = c := by omega
  unfold mayB
  rw [hd]
  simp only [Bool.or_eq_true, Bool.and_eq_true, decide_eq_true_eq, numOkB]
  right
  omega
theorem badD_all {L : List Int} (h : ∀ x ∈ L, mayB x = true) : badD L = false := by
  unfold badD
  rw [List.any_eq_false]
  intro x hx
  simp [h x hx]
theorem atom_bad {f a e : Int} (hf : 0 ≤ f) (ha : f ≤ a) (he : a < e) (hm : e ≤ 288230376151711744) : badD (atomM f a e) = false := by
  refine badD_all fun x hx => ?_
  unfold atomM at hx
  simp only [List.mem_cons, List.not_mem_nil, or_false] at hx
  rcases hx with rfl | rfl | rfl | rfl | rfl | rfl | rfl | rfl | rfl
  · exact may_num (c := 0) (by omega) (by omega) 1 (.inr rfl)
  · exact may_num (by omega) (by omega) 1 (.inr rfl)
  · have := may_num (c := -a) (by omega) (by omega) 0 (.inl rfl); simpa using this
  · have := may_num (c := e) (by omega) (by omega) 0 (.inl rfl); simpa using this
  · exact may_num (c := 0) (by omega) (by omega) 1 (.inr rfl)
  · exact may_num (c := 0) (by omega) (by omega) 0 (.inl rfl)
  · exact may_num (by omega) (by omega) 1 (.inr rfl)
  · exact may_num (by omega) (by omega) 1 (.inr rfl)
  · exact may_num (c := 0) (by omega) (by omega) 1 (.inr rfl)
theorem made_ok {c : Int} {s : Bool} (h1 : -288230376151711744 ≤ c) (h2 : c ≤ 288230376151711744) : (madeR c s).1 = 2 * c + if s then 0 else 1 := by
  have : numOkB c = true := by simp only [numOkB, Bool.and_eq_true, decide_eq_true_eq]; omega
  unfold madeR
  rw [if_pos this]
  rfl
/-- A span of two bounds that stand by themselves. -/
theorem side_ok {lo hi : Int} {ls hs : Bool} (h1 : 0 ≤ lo) (h2 : lo < hi) (h3 : hi ≤ 288230376151711744) : SideOk ⟨lo, ls, hi, hs, false⟩ (2 * (-lo) + if ls then 0 else 1) (2 * hi + if hs then 0 else 1) := by
  have e1 : lowB ⟨lo, ls, hi, hs, false⟩ = 2 * (-lo) + if ls then 0 else 1 := made_ok (c := -lo) (by omega) (by omega)
  have e2 : highB ⟨lo, ls, hi, hs, false⟩ = 2 * hi + if hs then 0 else 1 := made_ok (c := hi) (by omega) (by omega)
  obtain ⟨z, hz, hz2⟩ : ∃ z : Int, (if ls then (0 : Int) else 1) = z ∧ (z = 0 ∨ z = 1) := ⟨_, rfl, by split <;> simp⟩
  obtain ⟨y, hy, hy2⟩ : ∃ y : Int, (if hs then (0 : Int) else 1) = y ∧ (y = 0 ∨ y = 1) := ⟨_, rfl, by split <;> simp⟩
  rw [hz] at e1 ⊢
  rw [hy] at e2 ⊢
  have n1 : nearS ⟨lo, ls, hi, hs, false⟩ := by
    refine ⟨?_, ?_, ?_, ?_⟩
    · show -288230376151711744 ≤ lo; omega
    · show lo ≤ 288230376151711744; omega
    · show hi ≤ 288230376151711744; omega
    · show -9223372036854775808 ≤ hi; omega
  have n2 : spanB ⟨lo, ls, hi, hs, false⟩ = true := by show decide (lo ≤ hi) = true; simp; omega
  refine ⟨n1, n2, e1, e2, by unfold noneB; omega, by unfold noneB; omega, badD_all fun x hx => ?_, ?_⟩
  · simp only [List.mem_cons, List.not_mem_nil, or_false] at hx
    rcases hx with rfl | rfl | rfl | rfl
    · exact may_num (c := 0) (by omega) (by omega) 1 (.inr rfl)
    · exact may_num (by omega) (by omega) z hz2
    · exact may_num (by omega) (by omega) y hy2
    · exact may_num (c := 0) (by omega) (by omega) 1 (.inr rfl)
  · refine side_closed (by omega) (by omega) ?_
    split <;> omega
end Go.Proofs.YtockinpjfhhkoaaGreatDoor
