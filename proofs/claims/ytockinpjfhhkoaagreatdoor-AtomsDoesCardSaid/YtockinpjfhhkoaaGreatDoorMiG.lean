/- AtomsDoes: the document's Kept walked. (Printed by gen_dob.py.) -/
import Derived.Deep.RegionHeld
import Derived.Deep.Cut
import Derived.Test.YtockinpjfhhkoaaGreatDoorMiF
import Derived.Test.YtockinpjfhhkoaaGreatDoorMiM
import Derived.Test.YtockinpjfhhkoaaGreatDoorAtV
import Derived.Test.YtockinpjfhhkoaaGreatDoorMiC
namespace Go.Proofs.YtockinpjfhhkoaaGreatDoor
open Go.RowKit

set_option maxRecDepth 100000 in
set_option maxHeartbeats 8000000 in
theorem kept169_any {a p b q x : Int} (w : World) (ha : mayQ a p = true) (hb : mayQ b q = true) (hx : checkB x = true) (ia : in64 a) (ib : in64 b) :
    Calls Tryz.prog 169 #[.agg #[.int .i64 a, .int .i64 p], .agg #[.int .i64 b, .int .i64 q], .int .i64 x] w fun e w' => e = .returned (.bool (keepsQ a p b q x)) ∧ Below w.heap.size w w' := by
  obtain ⟨a1, a2, a3, a4⟩ := mayQ_parts ha
  obtain ⟨b1, b2, b3, b4⟩ := mayQ_parts hb
  obtain ⟨W2, hW2⟩ : ∃ W2, W2 = (w.alloc (.cells #[.int .i64 a, .int .i64 p] 50)).alloc (.cells #[.int .i64 b, .int .i64 q] 50) := ⟨_, rfl⟩
  have hb2 : Below w.heap.size w W2 := by rw [hW2]; exact (belowA _ _).alloc (by simp) _
  have k0 : W2.heap[w.heap.size]? = some (.cells #[.int .i64 a, .int .i64 p] 50 (0, 0)) := by rw [hW2]; exact (Below.heap_alloc _ _ _ (by simp)).trans (hp_topA rfl)
  have k1 : W2.heap[w.heap.size + 1]? = some (.cells #[.int .i64 b, .int .i64 q] 50 (0, 0)) := by rw [hW2]; exact hp_topA (by simp)
  have HS : Hid (∀ W, Below W2.heap.size W2 W → W.cell? ⟨w.heap.size, 0, none⟩ = some (.int .i64 a) ∧ W.cell? ⟨w.heap.size, 1, none⟩ = some (.int .i64 p) ∧ W.cell? ⟨w.heap.size + 1, 0, none⟩ = some (.int .i64 b) ∧ W.cell? ⟨w.heap.size + 1, 1, none⟩ = some (.int .i64 q) ∧ w.heap.size < W.heap.size ∧ w.heap.size + 1 < W.heap.size) := by
    intro W hW
    have m0 := (hW.block _ (Array.getElem?_eq_some_iff.1 k0).1).trans k0
    have m1 := (hW.block _ (Array.getElem?_eq_some_iff.1 k1).1).trans k1
    exact ⟨Lib.cell_of_heap m0 0, Lib.cell_of_heap m0 1, Lib.cell_of_heap m1 0, Lib.cell_of_heap m1 1, (Array.getElem?_eq_some_iff.1 m0).1, (Array.getElem?_eq_some_iff.1 m1).1⟩
  have HB := Lib.hid hb2
  have HW2 := Lib.hid hW2.symm
  clear hW2 hb2 k0 k1
  by_cases hn : x = noneB
  · have HK : Hid (keepsQ a p b q x = true) := by rw [Hid, keepsQ, if_pos hn]
    have hd : (x == 9223372036854775807) = true := by rw [hn]; rfl
    clear ha hb hx ia ib hn a1 a2 a3 a4 b1 b2 b3 b4
    go_enter Tryz.func169, Tryz.ntmps169
    go_upto_region 1 with fail
    rw [HW2.out]
    go_wp2_with fail
    all_goals go_ret
    all_goals exact ⟨by rw [HK.out]; rfl, HB.out⟩
  · have hd : (x == 9223372036854775807) = false := by simpa [noneB] using hn
    have hxb : -4611686018427387904 ≤ x ∧ x ≤ 4611686018427387907 := by
      unfold checkB at hx
      have h2 : (x == noneB) = false := by simpa using hn
      rw [h2] at hx
      simp only [Bool.false_or, numOkB, Bool.and_eq_true, decide_eq_true_eq] at hx
      omega
    have H1 := fun W => Lib.hid ((low110_any a p W a1 a2 ia.1 ia.2).mono fun e w' h => (⟨h.1, h.2 ▸ Below.refl _ _⟩ : _ ∧ Below W.heap.size W w'))
    have H2 := fun W => Lib.hid ((low110_any b q W b1 b2 ib.1 ib.2).mono fun e w' h => (⟨h.1, h.2 ▸ Below.refl _ _⟩ : _ ∧ Below W.heap.size W w'))
    have H3 := fun W => Lib.hid ((part111_any a p W a1 a2).mono fun e w' h => (⟨h.1, h.2 ▸ Below.refl _ _⟩ : _ ∧ Below W.heap.size W w'))
    have H4 := fun W => Lib.hid ((part111_any b q W b1 b2).mono fun e w' h => (⟨h.1, h.2 ▸ Below.refl _ _⟩ : _ ∧ Below W.heap.size W w'))
    have H5 := fun W => Lib.hid ((number213_any x W (by omega) (by omega)).mono fun e w' h => (⟨h.1, h.2 ▸ Below.refl _ _⟩ : _ ∧ Below W.heap.size W w'))
    have H6 := fun W => Lib.hid ((strict214_any x W).mono fun e w' h => (⟨h.1, h.2 ▸ Below.refl _ _⟩ : _ ∧ Below W.heap.size W w'))
    have hw1 := part_small (a := a) a1 a2 b1 b2
    have hw2 := part_small (a := b) b1 b2 a1 a2
    have HKQ : Hid (keepsQ a p b q x = (decide (a / p - b / q < x / 2) || (a / p - b / q == x / 2 && (decide ((a % p) * q < (b % q) * p) || ((a % p) * q == (b % q) * p && x % 2 == 1))))) := by
      rw [Hid, keepsQ, if_neg hn]
    have hx2 : x % 2 = 0 ∨ x % 2 = 1 := by omega
    obtain ⟨s, hs⟩ : ∃ s, a / p = s := ⟨_, rfl⟩
    obtain ⟨t, ht⟩ : ∃ t, b / q = t := ⟨_, rfl⟩
    obtain ⟨m, hm⟩ : ∃ m, a % p = m := ⟨_, rfl⟩
    obtain ⟨k, hk⟩ : ∃ k, b % q = k := ⟨_, rfl⟩
    obtain ⟨c, hc⟩ : ∃ c, x / 2 = c := ⟨_, rfl⟩
    obtain ⟨y, hy⟩ : ∃ y, x % 2 = y := ⟨_, rfl⟩
    rw [hs] at H1 a3 a4 HKQ
    rw [ht] at H2 b3 b4 HKQ
    rw [hm] at H3 hw1 HKQ
    rw [hk] at H4 hw2 HKQ
    rw [hc] at H5 HKQ
    rw [hy] at H6 HKQ hx2
    have hws : IntKind.i64.wrap (s - t) = s - t := IntWalk.i64_in _ (by omega)
    have hws' : wrap64 (s - t) = s - t := IntWalk.wrap64_in _ (by omega)
    obtain ⟨u, hu⟩ : ∃ u, m * q = u := ⟨_, rfl⟩
    obtain ⟨v, hv⟩ : ∃ v, k * p = v := ⟨_, rfl⟩
    rw [hu] at hw1 HKQ
    rw [hv] at hw2 HKQ
    have hw1' : wrap64 (m * q) = u := by rw [hu]; exact (IntWalk.i64_left u).symm.trans hw1
    have hw2' : wrap64 (k * p) = v := by rw [hv]; exact (IntWalk.i64_left v).symm.trans hw2
    have HU := Lib.hid hu
    have HV := Lib.hid hv
    have hv1 : IntKind.i64.wrap (m * q) = u := by rw [hu]; exact hw1
    have hv2 : IntKind.i64.wrap (k * p) = v := by rw [hv]; exact hw2
    have HX2 := Lib.hid hx2
    clear ha hb hx ia ib hn a1 a2 a3 a4 b1 b2 b3 b4 hxb hs ht hm hk hc hu hv hy hx2
    go_enter Tryz.func169, Tryz.ntmps169
    go_upto_region 1 with fail
    rw [HW2.out]
    clear HW2
    go_wp2_with fail
    refine (H5 _).out.mono ?_
    rintro e w1 ⟨rfl, hb1⟩
    have HB1 : Hid (Below W2.heap.size W2 w1) := hb1
    clear hb1
    go_upto_region 4 with fail
    refine wp_region_held_drew (S := fun W => W.cell? ⟨w.heap.size, 0, none⟩ = some (.int .i64 a) ∧ W.cell? ⟨w.heap.size, 1, none⟩ = some (.int .i64 p) ∧ W.cell? ⟨w.heap.size + 1, 0, none⟩ = some (.int .i64 b) ∧ W.cell? ⟨w.heap.size + 1, 1, none⟩ = some (.int .i64 q) ∧ w.heap.size < W.heap.size ∧ w.heap.size + 1 < W.heap.size) (by kernel_rfl) (HS.out _ HB1.out.drew) (fun hHeld => ?_)
    refine wpAnyH_take (i := 0) (v := ?_) rfl (by kernel_rfl) (by kernel_rfl) (by kernel_rfl) (fun _ _ _ h => h) (Or.inl ⟨by kernel_rfl, ?_⟩) (by assumption) ?_
    rotate_left
    · (intro w hSw; (try dsimp only at hSw); go_simp)
      try with_reducible rfl
    try simp only [Act.put, List.setIfInBounds_toArray, List.set_cons_zero, List.set_cons_succ, List.getElem_toArray, List.getElem_cons_zero]
    refine wpAnyH_take (i := 1) (v := ?_) rfl (by kernel_rfl) (by kernel_rfl) (by kernel_rfl) (fun _ _ _ h => h) (Or.inl ⟨by kernel_rfl, ?_⟩) (by assumption) ?_
    rotate_left
    · (intro w hSw; (try dsimp only at hSw); go_simp)
      try with_reducible rfl
    try simp only [Act.put, List.setIfInBounds_toArray, List.set_cons_zero, List.set_cons_succ, List.getElem_toArray, List.getElem_cons_zero, List.getElem_cons_succ]
    refine wpAnyH_take (i := 2) (v := ?_) rfl (by kernel_rfl) (by kernel_rfl) (by kernel_rfl) (fun _ _ _ h => h) (Or.inl ⟨by kernel_rfl, ?_⟩) (by assumption) ?_
    rotate_left
    · (intro w hSw; (try dsimp only at hSw); go_simp)
      try with_reducible rfl
    try simp only [Act.put, List.setIfInBounds_toArray, List.set_cons_zero, List.set_cons_succ, List.getElem_toArray, List.getElem_cons_zero, List.getElem_cons_succ]
    refine wpAnyH_take (i := 3) (v := ?_) rfl (by kernel_rfl) (by kernel_rfl) (by kernel_rfl) (fun _ _ _ h => h) (Or.inl ⟨by kernel_rfl, ?_⟩) (by assumption) ?_
    rotate_left
    · (intro w hSw; (try dsimp only at hSw); go_simp)
      try with_reducible rfl
    try simp only [Act.put, List.setIfInBounds_toArray, List.set_cons_zero, List.set_cons_succ, List.getElem_toArray, List.getElem_cons_zero, List.getElem_cons_succ]
    refine wpAnyH_take (i := 5) (v := ?_) rfl (by kernel_rfl) (by kernel_rfl) (by kernel_rfl) (fun _ _ _ h => h) (Or.inl ⟨by kernel_rfl, ?_⟩) (by assumption) ?_
    rotate_left
    · (intro w hSw; (try dsimp only at hSw); go_simp)
      try with_reducible rfl
    try simp only [Act.put, List.setIfInBounds_toArray, List.set_cons_zero, List.set_cons_succ, List.getElem_toArray, List.getElem_cons_zero, List.getElem_cons_succ]
    refine wpAnyH_take (i := 6) (v := ?_) rfl (by kernel_rfl) (by kernel_rfl) (by kernel_rfl) (fun _ _ _ h => h) (Or.inl ⟨by kernel_rfl, ?_⟩) (by assumption) ?_
    rotate_left
    · (intro w hSw; (try dsimp only at hSw); go_simp)
      try with_reducible rfl
    try simp only [Act.put, List.setIfInBounds_toArray, List.set_cons_zero, List.set_cons_succ, List.getElem_toArray, List.getElem_cons_zero, List.getElem_cons_succ]
    refine wpAnyH_take (i := 7) (v := ?_) rfl (by kernel_rfl) (by kernel_rfl) (by kernel_rfl) (fun _ _ _ h => h) (Or.inl ⟨by kernel_rfl, ?_⟩) (by assumption) ?_
    rotate_left
    · (intro w hSw; (try dsimp only at hSw); go_simp)
      try with_reducible rfl
    try simp only [Act.put, List.setIfInBounds_toArray, List.set_cons_zero, List.set_cons_succ, List.getElem_toArray, List.getElem_cons_zero, List.getElem_cons_succ]
    refine wpAnyH_take (i := 8) (v := ?_) rfl (by kernel_rfl) (by kernel_rfl) (by kernel_rfl) (fun _ _ _ h => h) (Or.inl ⟨by kernel_rfl, ?_⟩) (by assumption) ?_
    rotate_left
    · (intro w hSw; (try dsimp only at hSw); go_simp)
      try with_reducible rfl
    try simp only [Act.put, List.setIfInBounds_toArray, List.set_cons_zero, List.set_cons_succ, List.getElem_toArray, List.getElem_cons_zero, List.getElem_cons_succ]
    refine wpAnyH_ready (rs := [4]) (by kernel_rfl) (by simp) ?_
    refine AllReadyH.cons rfl (fun K hK => ?_) AllReadyH.nil
    go_simp
    go_at_call 110
    refine (H1 _).out.mono ?_
    rintro e wa ⟨rfl, hba⟩
    have HBa : Hid (Below W2.heap.size W2 wa) := belS HB1.out.drew hba
    clear hba
    try dsimp only
    refine hK.out _ _ (HS.out _ HBa.out) (fun hHeld => ?_)
    clear hK K
    try simp only [Act.put, List.setIfInBounds_toArray, List.set_cons_zero, List.set_cons_succ, List.getElem_toArray, List.getElem_cons_zero, List.getElem_cons_succ]
    refine wpAnyH_ready (rs := [9]) (by kernel_rfl) (by simp) ?_
    refine AllReadyH.cons rfl (fun K hK => ?_) AllReadyH.nil
    go_simp
    go_at_call 110
    refine (H2 _).out.mono ?_
    rintro e wb ⟨rfl, hbb⟩
    have HBb : Hid (Below W2.heap.size W2 wb) := belS HBa.out hbb
    clear hbb
    try dsimp only
    refine hK.out _ _ (HS.out _ HBb.out) (fun hHeld => ?_)
    clear hK K
    try simp only [Act.put, List.setIfInBounds_toArray, List.set_cons_zero, List.set_cons_succ, List.getElem_toArray, List.getElem_cons_zero, List.getElem_cons_succ]
    refine wpAnyH_take (i := 10) (v := ?_) rfl (by kernel_rfl) (by kernel_rfl) (by kernel_rfl) (fun _ _ _ h => h) (Or.inl ⟨by kernel_rfl, ?_⟩) (by assumption) ?_
    rotate_left
    · (intro w hSw; (try dsimp only at hSw); go_simp)
      try with_reducible rfl
    try simp only [Act.put, List.setIfInBounds_toArray, List.set_cons_zero, List.set_cons_succ, List.getElem_toArray, List.getElem_cons_zero, List.getElem_cons_succ]
    refine wpAnyH_take (i := 11) (v := ?_) rfl (by kernel_rfl) (by kernel_rfl) (by kernel_rfl) (fun _ _ _ h => h) (Or.inl ⟨by kernel_rfl, ?_⟩) (by assumption) ?_
    rotate_left
    · (intro w hSw; (try dsimp only at hSw); go_simp)
      try with_reducible rfl
    try simp only [Act.put, List.setIfInBounds_toArray, List.set_cons_zero, List.set_cons_succ, List.getElem_toArray, List.getElem_cons_zero, List.getElem_cons_succ]
    refine wpAnyH_done (by kernel_rfl) ?_ _
    clear hHeld
    have HB2 := Lib.hid HBb.out
    by_cases hdc : s - t = c
    · have hne : (s - t != c) = false := by simpa using hdc
      have HD := Lib.hid hdc
      clear hdc
      go_upto_region 7 with fail
      refine wp_region_held_drew (S := fun W => W.cell? ⟨w.heap.size, 0, none⟩ = some (.int .i64 a) ∧ W.cell? ⟨w.heap.size, 1, none⟩ = some (.int .i64 p) ∧ W.cell? ⟨w.heap.size + 1, 0, none⟩ = some (.int .i64 b) ∧ W.cell? ⟨w.heap.size + 1, 1, none⟩ = some (.int .i64 q) ∧ w.heap.size < W.heap.size ∧ w.heap.size + 1 < W.heap.size) (by kernel_rfl) (HS.out _ HB2.out.drew) (fun hHeld => ?_)
      refine wpAnyH_take (i := 0) (v := ?_) rfl (by kernel_rfl) (by kernel_rfl) (by kernel_rfl) (fun _ _ _ h => h) (Or.inl ⟨by kernel_rfl, ?_⟩) (by assumption) ?_
      rotate_left
      · (intro w hSw; (try dsimp only at hSw); go_simp)
        try with_reducible rfl
      try simp only [Act.put, List.setIfInBounds_toArray, List.set_cons_zero, List.set_cons_succ, List.getElem_toArray, List.getElem_cons_zero]
      refine wpAnyH_take (i := 1) (v := ?_) rfl (by kernel_rfl) (by kernel_rfl) (by kernel_rfl) (fun _ _ _ h => h) (Or.inl ⟨by kernel_rfl, ?_⟩) (by assumption) ?_
      rotate_left
      · (intro w hSw; (try dsimp only at hSw); go_simp)
        try with_reducible rfl
      try simp only [Act.put, List.setIfInBounds_toArray, List.set_cons_zero, List.set_cons_succ, List.getElem_toArray, List.getElem_cons_zero, List.getElem_cons_succ]
      refine wpAnyH_take (i := 2) (v := ?_) rfl (by kernel_rfl) (by kernel_rfl) (by kernel_rfl) (fun _ _ _ h => h) (Or.inl ⟨by kernel_rfl, ?_⟩) (by assumption) ?_
      rotate_left
      · (intro w hSw; (try dsimp only at hSw); go_simp)
        try with_reducible rfl
      try simp only [Act.put, List.setIfInBounds_toArray, List.set_cons_zero, List.set_cons_succ, List.getElem_toArray, List.getElem_cons_zero, List.getElem_cons_succ]
      refine wpAnyH_take (i := 3) (v := ?_) rfl (by kernel_rfl) (by kernel_rfl) (by kernel_rfl) (fun _ _ _ h => h) (Or.inl ⟨by kernel_rfl, ?_⟩) (by assumption) ?_
      rotate_left
      · (intro w hSw; (try dsimp only at hSw); go_simp)
        try with_reducible rfl
      try simp only [Act.put, List.setIfInBounds_toArray, List.set_cons_zero, List.set_cons_succ, List.getElem_toArray, List.getElem_cons_zero, List.getElem_cons_succ]
      refine wpAnyH_take (i := 5) (v := ?_) rfl (by kernel_rfl) (by kernel_rfl) (by kernel_rfl) (fun _ _ _ h => h) (Or.inl ⟨by kernel_rfl, ?_⟩) (by assumption) ?_
      rotate_left
      · (intro w hSw; (try dsimp only at hSw); go_simp)
        try with_reducible rfl
      try simp only [Act.put, List.setIfInBounds_toArray, List.set_cons_zero, List.set_cons_succ, List.getElem_toArray, List.getElem_cons_zero, List.getElem_cons_succ]
      refine wpAnyH_take (i := 6) (v := ?_) rfl (by kernel_rfl) (by kernel_rfl) (by kernel_rfl) (fun _ _ _ h => h) (Or.inl ⟨by kernel_rfl, ?_⟩) (by assumption) ?_
      rotate_left
      · (intro w hSw; (try dsimp only at hSw); go_simp)
        try with_reducible rfl
      try simp only [Act.put, List.setIfInBounds_toArray, List.set_cons_zero, List.set_cons_succ, List.getElem_toArray, List.getElem_cons_zero, List.getElem_cons_succ]
      refine wpAnyH_ready (rs := [4]) (by kernel_rfl) (by simp) ?_
      refine AllReadyH.cons rfl (fun K hK => ?_) AllReadyH.nil
      go_simp
      go_at_call 111
      refine (H3 _).out.mono ?_
      rintro e wc ⟨rfl, hbc⟩
      have HBc : Hid (Below W2.heap.size W2 wc) := belS HB2.out.drew hbc
      clear hbc
      try dsimp only
      refine hK.out _ _ (HS.out _ HBc.out) (fun hHeld => ?_)
      clear hK K
      try simp only [Act.put, List.setIfInBounds_toArray, List.set_cons_zero, List.set_cons_succ, List.getElem_toArray, List.getElem_cons_zero, List.getElem_cons_succ]
      refine wpAnyH_take (i := 7) (v := ?_) rfl (by kernel_rfl) (by kernel_rfl) (by kernel_rfl) (fun _ _ _ h => h) (Or.inl ⟨by kernel_rfl, ?_⟩) (by assumption) ?_
      rotate_left
      · (intro w hSw; (try dsimp only at hSw); go_simp)
        try with_reducible rfl
      try simp only [Act.put, List.setIfInBounds_toArray, List.set_cons_zero, List.set_cons_succ, List.getElem_toArray, List.getElem_cons_zero, List.getElem_cons_succ]
      refine wpAnyH_take (i := 8) (v := ?_) rfl (by kernel_rfl) (by kernel_rfl) (by kernel_rfl) (fun _ _ _ h => h) (Or.inl ⟨by kernel_rfl, ?_⟩) (by assumption) ?_
      rotate_left
      · (intro w hSw; (try dsimp only at hSw); go_simp)
        try with_reducible rfl
      try simp only [Act.put, List.setIfInBounds_toArray, List.set_cons_zero, List.set_cons_succ, List.getElem_toArray, List.getElem_cons_zero, List.getElem_cons_succ]
      refine wpAnyH_done (by kernel_rfl) ?_ _
      clear hHeld
      go_upto_region 8 with fail
      refine wp_region_held_drew (S := fun W => W.cell? ⟨w.heap.size, 0, none⟩ = some (.int .i64 a) ∧ W.cell? ⟨w.heap.size, 1, none⟩ = some (.int .i64 p) ∧ W.cell? ⟨w.heap.size + 1, 0, none⟩ = some (.int .i64 b) ∧ W.cell? ⟨w.heap.size + 1, 1, none⟩ = some (.int .i64 q) ∧ w.heap.size < W.heap.size ∧ w.heap.size + 1 < W.heap.size) (by kernel_rfl) (HS.out _ HBc.out.drew) (fun hHeld => ?_)
      refine wpAnyH_take (i := 0) (v := ?_) rfl (by kernel_rfl) (by kernel_rfl) (by kernel_rfl) (fun _ _ _ h => h) (Or.inl ⟨by kernel_rfl, ?_⟩) (by assumption) ?_
      rotate_left
      · (intro w hSw; (try dsimp only at hSw); go_simp)
        try with_reducible rfl
      try simp only [Act.put, List.setIfInBounds_toArray, List.set_cons_zero, List.set_cons_succ, List.getElem_toArray, List.getElem_cons_zero]
      refine wpAnyH_take (i := 1) (v := ?_) rfl (by kernel_rfl) (by kernel_rfl) (by kernel_rfl) (fun _ _ _ h => h) (Or.inl ⟨by kernel_rfl, ?_⟩) (by assumption) ?_
      rotate_left
      · (intro w hSw; (try dsimp only at hSw); go_simp)
        try with_reducible rfl
      try simp only [Act.put, List.setIfInBounds_toArray, List.set_cons_zero, List.set_cons_succ, List.getElem_toArray, List.getElem_cons_zero, List.getElem_cons_succ]
      refine wpAnyH_take (i := 2) (v := ?_) rfl (by kernel_rfl) (by kernel_rfl) (by kernel_rfl) (fun _ _ _ h => h) (Or.inl ⟨by kernel_rfl, ?_⟩) (by assumption) ?_
      rotate_left
      · (intro w hSw; (try dsimp only at hSw); go_simp)
        try with_reducible rfl
      try simp only [Act.put, List.setIfInBounds_toArray, List.set_cons_zero, List.set_cons_succ, List.getElem_toArray, List.getElem_cons_zero, List.getElem_cons_succ]
      refine wpAnyH_take (i := 3) (v := ?_) rfl (by kernel_rfl) (by kernel_rfl) (by kernel_rfl) (fun _ _ _ h => h) (Or.inl ⟨by kernel_rfl, ?_⟩) (by assumption) ?_
      rotate_left
      · (intro w hSw; (try dsimp only at hSw); go_simp)
        try with_reducible rfl
      try simp only [Act.put, List.setIfInBounds_toArray, List.set_cons_zero, List.set_cons_succ, List.getElem_toArray, List.getElem_cons_zero, List.getElem_cons_succ]
      refine wpAnyH_take (i := 5) (v := ?_) rfl (by kernel_rfl) (by kernel_rfl) (by kernel_rfl) (fun _ _ _ h => h) (Or.inl ⟨by kernel_rfl, ?_⟩) (by assumption) ?_
      rotate_left
      · (intro w hSw; (try dsimp only at hSw); go_simp)
        try with_reducible rfl
      try simp only [Act.put, List.setIfInBounds_toArray, List.set_cons_zero, List.set_cons_succ, List.getElem_toArray, List.getElem_cons_zero, List.getElem_cons_succ]
      refine wpAnyH_take (i := 6) (v := ?_) rfl (by kernel_rfl) (by kernel_rfl) (by kernel_rfl) (fun _ _ _ h => h) (Or.inl ⟨by kernel_rfl, ?_⟩) (by assumption) ?_
      rotate_left
      · (intro w hSw; (try dsimp only at hSw); go_simp)
        try with_reducible rfl
      try simp only [Act.put, List.setIfInBounds_toArray, List.set_cons_zero, List.set_cons_succ, List.getElem_toArray, List.getElem_cons_zero, List.getElem_cons_succ]
      refine wpAnyH_ready (rs := [4]) (by kernel_rfl) (by simp) ?_
      refine AllReadyH.cons rfl (fun K hK => ?_) AllReadyH.nil
      go_simp
      go_at_call 111
      refine (H4 _).out.mono ?_
      rintro e wd ⟨rfl, hbd⟩
      have HBd : Hid (Below W2.heap.size W2 wd) := belS HBc.out.drew hbd
      clear hbd
      try dsimp only
      refine hK.out _ _ (HS.out _ HBd.out) (fun hHeld => ?_)
      clear hK K
      try simp only [Act.put, List.setIfInBounds_toArray, List.set_cons_zero, List.set_cons_succ, List.getElem_toArray, List.getElem_cons_zero, List.getElem_cons_succ]
      refine wpAnyH_take (i := 7) (v := ?_) rfl (by kernel_rfl) (by kernel_rfl) (by kernel_rfl) (fun _ _ _ h => h) (Or.inl ⟨by kernel_rfl, ?_⟩) (by assumption) ?_
      rotate_left
      · (intro w hSw; (try dsimp only at hSw); go_simp)
        try with_reducible rfl
      try simp only [Act.put, List.setIfInBounds_toArray, List.set_cons_zero, List.set_cons_succ, List.getElem_toArray, List.getElem_cons_zero, List.getElem_cons_succ]
      refine wpAnyH_take (i := 8) (v := ?_) rfl (by kernel_rfl) (by kernel_rfl) (by kernel_rfl) (fun _ _ _ h => h) (Or.inl ⟨by kernel_rfl, ?_⟩) (by assumption) ?_
      rotate_left
      · (intro w hSw; (try dsimp only at hSw); go_simp)
        try with_reducible rfl
      try simp only [Act.put, List.setIfInBounds_toArray, List.set_cons_zero, List.set_cons_succ, List.getElem_toArray, List.getElem_cons_zero, List.getElem_cons_succ]
      refine wpAnyH_done (by kernel_rfl) ?_ _
      clear hHeld
      have HB3 := Lib.hid HBd.out
      clear hne
      by_cases huv : u < v
      · have h1 : decide (u < v) = true := by simpa using huv
        have HR : Hid (keepsQ a p b q x = true) := by
          rw [Hid, HKQ.out, HD.out, h1]; simp
        clear huv
        go_wp2_with fail
        all_goals go_ret
        all_goals exact ⟨by rw [HR.out]; rfl, HB.out.trans (HB3.out.mono HB.out.size)⟩
      · have h1 : decide (u < v) = false := by simpa using huv
        clear huv
        by_cases heq : u = v
        · have h2 : (u == v) = true := by simpa using heq
          have HR : Hid (keepsQ a p b q x = (y == 1)) := by
            rw [Hid, HKQ.out, HD.out, h1, h2]; simp
          have HY : Hid ((y == 1) = !(y == 0)) := by
            rw [Hid]; rcases HX2.out with h | h <;> rw [h] <;> rfl
          clear heq
          go_wp2_with fail
          refine (H6 _).out.mono ?_
          rintro e w9 ⟨rfl, hb9⟩
          have HB4 := Lib.hid (belS HB3.out hb9)
          clear hb9
          go_wp2_with fail
          all_goals go_ret
          all_goals exact ⟨by rw [HR.out, HY.out]; rfl, HB.out.trans (HB4.out.mono HB.out.size)⟩
        · have h2 : (u == v) = false := by simpa using heq
          have HR : Hid (keepsQ a p b q x = false) := by
            rw [Hid, HKQ.out, HD.out, h1, h2]; simp
          clear heq
          go_wp2_with fail
          all_goals go_ret
          all_goals exact ⟨by rw [HR.out]; rfl, HB.out.trans (HB3.out.mono HB.out.size)⟩
    · have hne : (s - t != c) = true := by simpa using hdc
      have HR : Hid (keepsQ a p b q x = decide (s - t < c)) := by
        have : (s - t == c) = false := by simpa using hdc
        rw [Hid, HKQ.out, this]; simp
      clear hdc
      go_wp2_with fail
      all_goals go_ret
      all_goals exact ⟨by rw [HR.out]; rfl, HB.out.trans (HB2.out.mono HB.out.size)⟩
end Go.Proofs.YtockinpjfhhkoaaGreatDoor

/- AtomsDoes: the document's Full (a zone's matrix) walked; At, Count. -/
namespace Go.Proofs.YtockinpjfhhkoaaGreatDoor
open Go.RowKit

theorem row_nine {w : World} {g : Nat} {b0 b1 b2 b3 b4 b5 b6 b7 b8 : Int} (h : w.heap[g]? = some (.cells #[.int .i64 b0, .int .i64 b1, .int .i64 b2, .int .i64 b3, .int .i64 b4, .int .i64 b5, .int .i64 b6, .int .i64 b7, .int .i64 b8] 67 (0, 0))) : RowB w g [b0, b1, b2, b3, b4, b5, b6, b7, b8] := by
  refine ⟨_, h, fun i hi => ?_⟩
  have hi' : i < 9 := hi
  match i, hi' with
  | 0, _ | 1, _ | 2, _ | 3, _ | 4, _ | 5, _ | 6, _ | 7, _ | 8, _ => rfl
set_option maxRecDepth 100000 in
set_option maxHeartbeats 4000000 in
theorem full96_any (z0 z1 z2 z3 z4 z5 : Int) (w : World) :
    Calls Tryz.prog 96 #[.agg #[.int .i64 z0, .int .i64 z1, .int .i64 z2, .int .i64 z3, .int .i64 z4, .int .i64 z5]] w fun e w' =>
      (∃ g c, e = .returned (.agg #[.int .i64 3, .slice (some ⟨g, 0, none⟩) 9 c]) ∧ w.heap.size ≤ g ∧ RowB w' g (matD z0 z1 z2 z3 z4 z5)) ∧ Below w.heap.size w w' := by
  go_enter Tryz.func96, Tryz.ntmps96
  go_wp2_with fail
  refine bodyPost_ret (results_cell_row rfl _ _ _ _ _ _ _ rfl ((Below.heap_alloc _ _ _ (by simp)).trans (hp_topA (by simp))) Tryz.underlying116 rfl (by kernel_rfl)) rfl ?_
  exact ⟨⟨_, _, rfl, by omega, row_nine (hp_topA (by simp))⟩, ((belowA _ _).alloc (by simp) _).alloc (by simp; omega) _⟩
theorem count_in {t : Int} (h0 : 0 ≤ t) (h1 : t ≤ 6) : 3 * (2 * t + 1) * (2 * t + 1) ≤ 507 ∧ 3 ≤ 3 * (2 * t + 1) * (2 * t + 1) := by
  have : t = 0 ∨ t = 1 ∨ t = 2 ∨ t = 3 ∨ t = 4 ∨ t = 5 ∨ t = 6 := by omega
  rcases this with rfl | rfl | rfl | rfl | rfl | rfl | rfl <;> decide
set_option maxRecDepth 100000 in
theorem count45_any (t : Int) (w : World) (h0 : 0 ≤ t) (h1 : t ≤ 6) : Calls Tryz.prog 45 #[.int .i64 t] w fun e w' => e = .returned (.int .i64 (3 * (2 * t + 1) * (2 * t + 1))) ∧ w' = w := by
  have hc := count_in h0 h1
  obtain ⟨k, hk⟩ : ∃ k, 2 * t + 1 = k := ⟨_, rfl⟩
  obtain ⟨m, hm⟩ : ∃ m, 3 * k * k = m := ⟨_, rfl⟩
  rw [hk, hm] at hc
  rw [hk, hm]
  have w1 : IntKind.i64.wrap (2 * t) = 2 * t := IntWalk.i64_in _ (by omega)
  have w1' : wrap64 (2 * t) = 2 * t := IntWalk.wrap64_in _ (by omega)
  have w2 : IntKind.i64.wrap (2 * t + 1) = k := by rw [hk]; exact IntWalk.i64_in _ (by omega)
  have w2' : wrap64 (2 * t + 1) = k := by rw [hk]; exact IntWalk.wrap64_in _ (by omega)
  have w3 : IntKind.i64.wrap (3 * k) = 3 * k := IntWalk.i64_in _ (by omega)
  have w3' : wrap64 (3 * k) = 3 * k := IntWalk.wrap64_in _ (by omega)
  have w4 : IntKind.i64.wrap (3 * k * k) = m := by rw [hm]; exact IntWalk.i64_in _ (by omega)
  have w4' : wrap64 (3 * k * k) = m := by rw [hm]; exact IntWalk.wrap64_in _ (by omega)
  clear hc hk hm h0 h1
  go_enter Tryz.func45, Tryz.ntmps45
  go_wp2_with fail
  all_goals go_ret
  all_goals exact ⟨rfl, rfl⟩
set_option maxRecDepth 100000 in
set_option maxHeartbeats 4000000 in
theorem at93_any (place num den : Int) (w : World) (h0 : 0 ≤ place) (h1 : place ≤ 1000) (hn : 0 ≤ num) (hn2 : num ≤ 3) (hd : 0 ≤ den) (hd2 : den ≤ 3) :
    Calls Tryz.prog 93 #[.int .i64 place, .int .i64 num, .int .i64 den] w fun e w' => e = .returned (.agg #[.int .i64 (atR place num den).1, .int .i64 (atR place num den).2]) ∧ Below w.heap.size w w' := by
  have hm : place.tmod 2 = place % 2 := Int.tmod_eq_emod_of_nonneg h0
  have hq : place.tdiv 2 = place / 2 := Int.tdiv_eq_ediv_of_nonneg h0
  obtain ⟨r, hr⟩ : ∃ r, place % 2 = r := ⟨_, rfl⟩
  obtain ⟨k, hk⟩ : ∃ k, place / 2 = k := ⟨_, rfl⟩
  have hkb : 0 ≤ k ∧ k ≤ 500 := by omega
  have hrb : 0 ≤ r ∧ r ≤ 1 := by omega
  have hA : Hid (atR place num den = if r = 0 then (k, 1) else (k * den + num, den)) := by rw [Hid, atR, hr, hk]
  have hkd : 0 ≤ k * den ∧ k * den ≤ 1500 := by
    refine ⟨Int.mul_nonneg hkb.1 hd, ?_⟩
    have := Int.mul_le_mul hkb.2 hd2 hd (by decide : (0 : Int) ≤ 500)
    omega
  obtain ⟨x, hx⟩ : ∃ x, k * den = x := ⟨_, rfl⟩
  rw [hr] at hm
  rw [hk] at hq
  rw [hx] at hkd hA
  have w1 : IntKind.i64.wrap r = r := IntWalk.i64_in _ (by omega)
  have w1' : wrap64 r = r := IntWalk.wrap64_in _ (by omega)
  have w2 : IntKind.i64.wrap k = k := IntWalk.i64_in _ (by omega)
  have w2' : wrap64 k = k := IntWalk.wrap64_in _ (by omega)
  have w3 : IntKind.i64.wrap (k * den) = x := by rw [hx]; exact IntWalk.i64_in _ (by omega)
  have w3' : wrap64 (k * den) = x := by rw [hx]; exact IntWalk.wrap64_in _ (by omega)
  have w4 : IntKind.i64.wrap (x + num) = x + num := IntWalk.i64_in _ (by omega)
  have w4' : wrap64 (x + num) = x + num := IntWalk.wrap64_in _ (by omega)
  by_cases hr0 : r = 0
  · rw [if_pos hr0] at hA
    have hd0 : (r == 0) = true := by simpa using hr0
    clear h0 h1 hn hn2 hd hd2 hr hk hkb hrb hkd hx hr0
    go_enter Tryz.func93, Tryz.ntmps93
    go_wp2_with fail
    refine bodyPost_ret (results_cell_row rfl _ _ _ _ _ _ _ rfl (hp_topA rfl) Tryz.underlying50 rfl (by kernel_rfl)) rfl ?_
    exact ⟨by rw [hA.out], belowA _ _⟩
  · rw [if_neg hr0] at hA
    have hd0 : (r == 0) = false := by simpa using hr0
    clear h0 h1 hn hn2 hd hd2 hr hk hkb hrb hkd hx hr0
    go_enter Tryz.func93, Tryz.ntmps93
    go_wp2_with fail
    refine bodyPost_ret (results_cell_row rfl _ _ _ _ _ _ _ rfl (hp_topA rfl) Tryz.underlying50 rfl (by kernel_rfl)) rfl ?_
    exact ⟨by rw [hA.out], belowA _ _⟩
end Go.Proofs.YtockinpjfhhkoaaGreatDoor
