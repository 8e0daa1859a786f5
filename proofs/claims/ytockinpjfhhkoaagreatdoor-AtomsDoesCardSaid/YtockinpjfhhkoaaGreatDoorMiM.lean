/- Fractions walked: Check, checked. (Printed by gen_atk.py.) -/
import Derived.Test.YtockinpjfhhkoaaGreatDoorMhB
import Derived.Deep.Cut
import Derived.LoopTactic
namespace Go.Proofs.YtockinpjfhhkoaaGreatDoor
open Go.RowKit

set_option maxRecDepth 100000 in
set_option maxHeartbeats 8000000 in
theorem check52_any (a p : Int) (w : World) (ha : in64 a) : Calls Tryz.prog 52 #[.agg #[.int .i64 a, .int .i64 p]] w fun e w' => e = .returned (.int .i64 (ratE a p)) ∧ Below w.heap.size w w' := by
  obtain ⟨W1, hW1⟩ : ∃ W1, W1 = w.alloc (.cells #[.int .i64 a, .int .i64 p] 50) := ⟨_, rfl⟩
  have hb1 : Below w.heap.size w W1 := by rw [hW1]; exact belowA _ _
  have hz1 : W1.heap.size = w.heap.size + 1 := by rw [hW1]; simp
  have hx1 : W1.heap[w.heap.size]? = some (.cells #[.int .i64 a, .int .i64 p] 50 (0, 0)) := by rw [hW1]; exact hp_topA rfl
  have HX : Hid (∀ W, Below W1.heap.size W1 W → W.cell? ⟨w.heap.size, 0, none⟩ = some (.int .i64 a) ∧ W.cell? ⟨w.heap.size, 1, none⟩ = some (.int .i64 p) ∧ w.heap.size < W.heap.size) := by
    intro W hW
    have h1 : W.heap[w.heap.size]? = _ := (hW.block _ (by omega)).trans hx1
    exact ⟨Lib.cell_of_heap h1 0, Lib.cell_of_heap h1 1, (Array.getElem?_eq_some_iff.1 h1).1⟩
  have HB1 := Lib.hid hb1
  have HW1 := Lib.hid hW1.symm
  have HA := Lib.hid ha
  have hself : Below W1.heap.size W1 W1.drew := (Below.refl _ _).drew
  have HS0 : Hid (W1.drew.cell? ⟨w.heap.size, 0, none⟩ = some (.int .i64 a) ∧ W1.drew.cell? ⟨w.heap.size, 1, none⟩ = some (.int .i64 p) ∧ w.heap.size < W1.drew.heap.size) := HX.out _ hself
  obtain ⟨x0, x1, xl⟩ := HX.out W1 (Below.refl _ _)
  clear hb1 hz1 hx1 hW1 ha
  by_cases hp : p < 1
  · have d1 : decide (p < 1) = true := by simpa using hp
    have HE : Hid (ratE a p = 8) := ratE_no (by rw [mayQ_eq, decide_eq_false (by omega)]; rfl)
    rw [HE.out]
    clear hp
    go_enter Tryz.func52, Tryz.ntmps52
    go_upto_region 1 with fail
    rw [HW1.out]
    go_quiet (fail)
    go_wp2_with fail
    all_goals go_ret
    all_goals exact ⟨rfl, below_drewN HB1.out _⟩
  · have d1 : decide (p < 1) = false := by simpa using hp
    by_cases hp2 : 1048576 < p
    · have d2 : decide (1048576 < p) = true := by simpa using hp2
      have HE : Hid (ratE a p = 8) := ratE_no (by rw [mayQ_eq, decide_eq_false (show ¬ p ≤ 1048576 by omega)]; simp)
      rw [HE.out]
      clear hp hp2
      go_enter Tryz.func52, Tryz.ntmps52
      go_upto_region 1 with fail
      rw [HW1.out]
      go_quiet (fail)
      go_wp2_with fail
      all_goals go_ret
      all_goals exact ⟨rfl, below_drewN HB1.out _⟩
    · have d2 : decide (1048576 < p) = false := by simpa using hp2
      have HWI := Lib.hid (within99_any a p W1.drew (by omega) (by omega) HA.out)
      have HP : Hid (1 ≤ p ∧ p ≤ 1048576) := ⟨by omega, by omega⟩
      cases hwi : withinQ a p with
      | false =>
        have HE : Hid (ratE a p = 8) := ratE_no (by rw [mayQ_eq, hwi]; simp)
        rw [HE.out]
        rw [hwi] at HWI
        clear hwi hp hp2
        go_enter Tryz.func52, Tryz.ntmps52
        go_upto_region 1 with fail
        rw [HW1.out]
        refine wp_region_held_drew (S := fun W => W.cell? ⟨w.heap.size, 0, none⟩ = some (.int .i64 a) ∧ W.cell? ⟨w.heap.size, 1, none⟩ = some (.int .i64 p) ∧ w.heap.size < W.heap.size) (by kernel_rfl) HS0.out (fun hHeld => ?_)
        refine wpAnyH_take (i := 0) (v := ?_) rfl (by kernel_rfl) (by kernel_rfl) (by kernel_rfl) (fun _ _ _ h => h) (Or.inl ⟨by kernel_rfl, ?_⟩) (by assumption) ?_
        rotate_left
        · (intro w hSw; (try dsimp only at hSw); go_simp)
          try with_reducible rfl
        try simp only [Act.put, List.setIfInBounds_toArray, List.set_cons_zero, List.set_cons_succ, List.getElem_toArray, List.getElem_cons_zero]
        refine wpAnyH_take (i := 1) (v := ?_) rfl (by kernel_rfl) (by kernel_rfl) (by kernel_rfl) (fun _ _ _ h => h) (Or.inl ⟨by kernel_rfl, ?_⟩) (by assumption) ?_
        rotate_left
        · (intro w hSw; (try dsimp only at hSw); go_simp)
          try with_reducible rfl
        try simp only [Act.put, List.setIfInBounds_toArray, List.set_cons_zero, List.set_cons_succ, List.getElem_toArray, List.getElem_cons_zero, List.getElem_cons_succ]
        refine wpAnyH_take (i := 2) (v := ?_) rfl (by kernel_rfl) (by kernel_rfl) (by kernel_rfl) (fun _ _ _ h => h) (Or.inl ⟨by kernel_rfl, ?_⟩) (by assumption) ?_
        rotate_left
        · (intro w hSw; (try dsimp only at hSw); go_simp)
          try with_reducible rfl
        try simp only [Act.put, List.setIfInBounds_toArray, List.set_cons_zero, List.set_cons_succ, List.getElem_toArray, List.getElem_cons_zero, List.getElem_cons_succ]
        refine wpAnyH_take (i := 3) (v := ?_) rfl (by kernel_rfl) (by kernel_rfl) (by kernel_rfl) (fun _ _ _ h => h) (Or.inl ⟨by kernel_rfl, ?_⟩) (by assumption) ?_
        rotate_left
        · (intro w hSw; (try dsimp only at hSw); go_simp)
          try with_reducible rfl
        try simp only [Act.put, List.setIfInBounds_toArray, List.set_cons_zero, List.set_cons_succ, List.getElem_toArray, List.getElem_cons_zero, List.getElem_cons_succ]
        refine wpAnyH_take (i := 4) (v := ?_) rfl (by kernel_rfl) (by kernel_rfl) (by kernel_rfl) (fun _ _ _ h => h) (Or.inl ⟨by kernel_rfl, ?_⟩) (by assumption) ?_
        rotate_left
        · (intro w hSw; (try dsimp only at hSw); go_simp)
          try with_reducible rfl
        try simp only [Act.put, List.setIfInBounds_toArray, List.set_cons_zero, List.set_cons_succ, List.getElem_toArray, List.getElem_cons_zero, List.getElem_cons_succ]
        refine wpAnyH_take (i := 5) (v := ?_) rfl (by kernel_rfl) (by kernel_rfl) (by kernel_rfl) (fun _ _ _ h => h) (Or.inl ⟨by kernel_rfl, ?_⟩) (by assumption) ?_
        rotate_left
        · (intro w hSw; (try dsimp only at hSw); go_simp)
          try with_reducible rfl
        try simp only [Act.put, List.setIfInBounds_toArray, List.set_cons_zero, List.set_cons_succ, List.getElem_toArray, List.getElem_cons_zero, List.getElem_cons_succ]
        refine wpAnyH_take (i := 6) (v := ?_) rfl (by kernel_rfl) (by kernel_rfl) (by kernel_rfl) (fun _ _ _ h => h) (Or.inl ⟨by kernel_rfl, ?_⟩) (by assumption) ?_
        rotate_left
        · (intro w hSw; (try dsimp only at hSw); go_simp)
          try with_reducible rfl
        try simp only [Act.put, List.setIfInBounds_toArray, List.set_cons_zero, List.set_cons_succ, List.getElem_toArray, List.getElem_cons_zero, List.getElem_cons_succ]
        refine wpAnyH_take (i := 7) (v := ?_) rfl (by kernel_rfl) (by kernel_rfl) (by kernel_rfl) (fun _ _ _ h => h) (Or.inl ⟨by kernel_rfl, ?_⟩) (by assumption) ?_
        rotate_left
        · (intro w hSw; (try dsimp only at hSw); go_simp)
          try with_reducible rfl
        try simp only [Act.put, List.setIfInBounds_toArray, List.set_cons_zero, List.set_cons_succ, List.getElem_toArray, List.getElem_cons_zero, List.getElem_cons_succ]
        refine wpAnyH_take (i := 8) (v := ?_) rfl (by kernel_rfl) (by kernel_rfl) (by kernel_rfl) (fun _ _ _ h => h) (Or.inl ⟨by kernel_rfl, ?_⟩) (by assumption) ?_
        rotate_left
        · (intro w hSw; (try dsimp only at hSw); go_simp)
          try with_reducible rfl
        try simp only [Act.put, List.setIfInBounds_toArray, List.set_cons_zero, List.set_cons_succ, List.getElem_toArray, List.getElem_cons_zero, List.getElem_cons_succ]
        refine wpAnyH_take (i := 9) (v := ?_) rfl (by kernel_rfl) (by kernel_rfl) (by kernel_rfl) (fun _ _ _ h => h) (Or.inl ⟨by kernel_rfl, ?_⟩) (by assumption) ?_
        rotate_left
        · (intro w hSw; (try dsimp only at hSw); go_simp)
          try with_reducible rfl
        try simp only [Act.put, List.setIfInBounds_toArray, List.set_cons_zero, List.set_cons_succ, List.getElem_toArray, List.getElem_cons_zero, List.getElem_cons_succ]
        refine wpAnyH_ready (rs := [10]) (by kernel_rfl) (by simp) ?_
        refine AllReadyH.cons rfl (fun K hK => ?_) AllReadyH.nil
        go_simp
        go_at_call 99
        refine HWI.out.mono ?_
        rintro e wz ⟨rfl, hbz⟩
        have HBY : Hid (Below W1.heap.size W1 wz) := Below.trans (b := W1.drew) hself hbz
        have HBZ : Hid (Below w.heap.size w wz) := HB1.out.trans (HBY.out.mono HB1.out.size)
        clear hbz
        try dsimp only
        refine hK.out _ _ (HX.out wz HBY.out) (fun hHeld => ?_)
        clear hK K
        try simp only [Act.put, List.setIfInBounds_toArray, List.set_cons_zero, List.set_cons_succ, List.getElem_toArray, List.getElem_cons_zero, List.getElem_cons_succ]
        refine wpAnyH_take (i := 11) (v := ?_) rfl (by kernel_rfl) (by kernel_rfl) (by kernel_rfl) (fun _ _ _ h => h) (Or.inl ⟨by kernel_rfl, ?_⟩) (by assumption) ?_
        rotate_left
        · (intro w hSw; (try dsimp only at hSw); go_simp)
          try with_reducible rfl
        try simp only [Act.put, List.setIfInBounds_toArray, List.set_cons_zero, List.set_cons_succ, List.getElem_toArray, List.getElem_cons_zero, List.getElem_cons_succ]
        refine wpAnyH_take (i := 12) (v := ?_) rfl (by kernel_rfl) (by kernel_rfl) (by kernel_rfl) (fun _ _ _ h => h) (Or.inl ⟨by kernel_rfl, ?_⟩) (by assumption) ?_
        rotate_left
        · (intro w hSw; (try dsimp only at hSw); go_simp)
          try with_reducible rfl
        try simp only [Act.put, List.setIfInBounds_toArray, List.set_cons_zero, List.set_cons_succ, List.getElem_toArray, List.getElem_cons_zero, List.getElem_cons_succ]
        refine wpAnyH_take (i := 13) (v := ?_) rfl (by kernel_rfl) (by kernel_rfl) (by kernel_rfl) (fun _ _ _ h => h) (Or.inl ⟨by kernel_rfl, ?_⟩) (by assumption) ?_
        rotate_left
        · (intro w hSw; (try dsimp only at hSw); go_simp)
          try with_reducible rfl
        try simp only [Act.put, List.setIfInBounds_toArray, List.set_cons_zero, List.set_cons_succ, List.getElem_toArray, List.getElem_cons_zero, List.getElem_cons_succ]
        refine wpAnyH_take (i := 14) (v := undef) rfl (by kernel_rfl) (by kernel_rfl) (by kernel_rfl) (fun _ _ _ h => h) (Or.inr ⟨by kernel_rfl, rfl⟩) (by assumption) ?_
        try simp only [Act.put, List.setIfInBounds_toArray, List.set_cons_zero, List.set_cons_succ, List.getElem_toArray, List.getElem_cons_zero, List.getElem_cons_succ]
        refine wpAnyH_take (i := 15) (v := undef) rfl (by kernel_rfl) (by kernel_rfl) (by kernel_rfl) (fun _ _ _ h => h) (Or.inr ⟨by kernel_rfl, rfl⟩) (by assumption) ?_
        try simp only [Act.put, List.setIfInBounds_toArray, List.set_cons_zero, List.set_cons_succ, List.getElem_toArray, List.getElem_cons_zero, List.getElem_cons_succ]
        refine wpAnyH_take (i := 16) (v := undef) rfl (by kernel_rfl) (by kernel_rfl) (by kernel_rfl) (fun _ _ _ h => h) (Or.inr ⟨by kernel_rfl, rfl⟩) (by assumption) ?_
        try simp only [Act.put, List.setIfInBounds_toArray, List.set_cons_zero, List.set_cons_succ, List.getElem_toArray, List.getElem_cons_zero, List.getElem_cons_succ]
        refine wpAnyH_take (i := 17) (v := undef) rfl (by kernel_rfl) (by kernel_rfl) (by kernel_rfl) (fun _ _ _ h => h) (Or.inr ⟨by kernel_rfl, rfl⟩) (by assumption) ?_
        try simp only [Act.put, List.setIfInBounds_toArray, List.set_cons_zero, List.set_cons_succ, List.getElem_toArray, List.getElem_cons_zero, List.getElem_cons_succ]
        refine wpAnyH_take (i := 18) (v := undef) rfl (by kernel_rfl) (by kernel_rfl) (by kernel_rfl) (fun _ _ _ h => h) (Or.inr ⟨by kernel_rfl, rfl⟩) (by assumption) ?_
        try simp only [Act.put, List.setIfInBounds_toArray, List.set_cons_zero, List.set_cons_succ, List.getElem_toArray, List.getElem_cons_zero, List.getElem_cons_succ]
        refine wpAnyH_take (i := 19) (v := undef) rfl (by kernel_rfl) (by kernel_rfl) (by kernel_rfl) (fun _ _ _ h => h) (Or.inr ⟨by kernel_rfl, rfl⟩) (by assumption) ?_
        try simp only [Act.put, List.setIfInBounds_toArray, List.set_cons_zero, List.set_cons_succ, List.getElem_toArray, List.getElem_cons_zero, List.getElem_cons_succ]
        refine wpAnyH_take (i := 20) (v := undef) rfl (by kernel_rfl) (by kernel_rfl) (by kernel_rfl) (fun _ _ _ h => h) (Or.inr ⟨by kernel_rfl, rfl⟩) (by assumption) ?_
        try simp only [Act.put, List.setIfInBounds_toArray, List.set_cons_zero, List.set_cons_succ, List.getElem_toArray, List.getElem_cons_zero, List.getElem_cons_succ]
        refine wpAnyH_take (i := 21) (v := undef) rfl (by kernel_rfl) (by kernel_rfl) (by kernel_rfl) (fun _ _ _ h => h) (Or.inr ⟨by kernel_rfl, rfl⟩) (by assumption) ?_
        try simp only [Act.put, List.setIfInBounds_toArray, List.set_cons_zero, List.set_cons_succ, List.getElem_toArray, List.getElem_cons_zero, List.getElem_cons_succ]
        refine wpAnyH_take (i := 22) (v := ?_) rfl (by kernel_rfl) (by kernel_rfl) (by kernel_rfl) (fun _ _ _ h => h) (Or.inl ⟨by kernel_rfl, ?_⟩) (by assumption) ?_
        rotate_left
        · (intro w hSw; (try dsimp only at hSw); go_simp)
          try with_reducible rfl
        try simp only [Act.put, List.setIfInBounds_toArray, List.set_cons_zero, List.set_cons_succ, List.getElem_toArray, List.getElem_cons_zero, List.getElem_cons_succ]
        refine wpAnyH_done (by kernel_rfl) ?_ _
        go_wp2_with fail
        all_goals go_ret
        all_goals exact ⟨rfl, HBZ.out⟩
      | true =>
        have hpn : IntKind.u64.wrap p = ((p.natAbs : Nat) : Int) := by rw [IntKind.wrap_u64]; omega
        obtain ⟨G, hG⟩ : ∃ G, Nat.gcd a.natAbs p.natAbs = G := ⟨_, rfl⟩
        have HGC : Hid (∀ W, Calls Tryz.prog 100 #[.int .u64 (a.natAbs : Nat), .int .u64 (p.natAbs : Nat)] W fun e w' => e = .returned (.int .u64 (G : Nat)) ∧ Below W.heap.size W w') := by
          intro W
          have := gcd100_any a.natAbs p.natAbs W (by have := HA.out; unfold in64 at this; omega) (by omega)
          rw [hG] at this
          exact this
        obtain ⟨A, hA⟩ : ∃ A, a.natAbs = A := ⟨_, rfl⟩
        obtain ⟨Q, hQ⟩ : ∃ Q, p.natAbs = Q := ⟨_, rfl⟩
        have HSZ : Hid (∀ W, Calls Tryz.prog 101 #[.int .i64 a] W fun e w' => e = .returned (.int .u64 (A : Nat)) ∧ w' = W) := fun W => by rw [← hA]; exact size101_any a W HA.out.1 HA.out.2
        rw [hA, hQ] at HGC
        rw [hQ] at hpn
        have HE : Hid (ratE a p = if G = 1 then 0 else 8) := by
          have h1 : mayQ a p = decide (G = 1) := by
            rw [mayQ_eq, hwi, hG, decide_eq_true HP.out.1, decide_eq_true HP.out.2]
            exact Bool.eq_iff_iff.2 (by simp)
          rw [Hid, ratE, h1]
          by_cases h : G = 1 <;> simp [h]
        rw [HE.out]
        rw [hwi] at HWI
        clear hwi hp hp2 hA hQ hG
        by_cases hg : G = 1
        · have q1 : ((G : Nat) : Int) = 1 := by rw [hg]; rfl
          have q2 : (((G : Nat) : Int) != 1) = false := by rw [hg]; rfl
          have HE2 : Hid ((if G = 1 then (0 : Int) else 8) = 0) := if_pos hg
          rw [HE2.out]
          clear hg
          go_enter Tryz.func52, Tryz.ntmps52
          go_upto_region 1 with fail
          rw [HW1.out]
          refine wp_region_held_drew (S := fun W => W.cell? ⟨w.heap.size, 0, none⟩ = some (.int .i64 a) ∧ W.cell? ⟨w.heap.size, 1, none⟩ = some (.int .i64 p) ∧ w.heap.size < W.heap.size) (by kernel_rfl) HS0.out (fun hHeld => ?_)
          refine wpAnyH_take (i := 0) (v := ?_) rfl (by kernel_rfl) (by kernel_rfl) (by kernel_rfl) (fun _ _ _ h => h) (Or.inl ⟨by kernel_rfl, ?_⟩) (by assumption) ?_
          rotate_left
          · (intro w hSw; (try dsimp only at hSw); go_simp)
            try with_reducible rfl
          try simp only [Act.put, List.setIfInBounds_toArray, List.set_cons_zero, List.set_cons_succ, List.getElem_toArray, List.getElem_cons_zero]
          refine wpAnyH_take (i := 1) (v := ?_) rfl (by kernel_rfl) (by kernel_rfl) (by kernel_rfl) (fun _ _ _ h => h) (Or.inl ⟨by kernel_rfl, ?_⟩) (by assumption) ?_
          rotate_left
          · (intro w hSw; (try dsimp only at hSw); go_simp)
            try with_reducible rfl
          try simp only [Act.put, List.setIfInBounds_toArray, List.set_cons_zero, List.set_cons_succ, List.getElem_toArray, List.getElem_cons_zero, List.getElem_cons_succ]
          refine wpAnyH_take (i := 2) (v := ?_) rfl (by kernel_rfl) (by kernel_rfl) (by kernel_rfl) (fun _ _ _ h => h) (Or.inl ⟨by kernel_rfl, ?_⟩) (by assumption) ?_
          rotate_left
          · (intro w hSw; (try dsimp only at hSw); go_simp)
            try with_reducible rfl
          try simp only [Act.put, List.setIfInBounds_toArray, List.set_cons_zero, List.set_cons_succ, List.getElem_toArray, List.getElem_cons_zero, List.getElem_cons_succ]
          refine wpAnyH_take (i := 3) (v := ?_) rfl (by kernel_rfl) (by kernel_rfl) (by kernel_rfl) (fun _ _ _ h => h) (Or.inl ⟨by kernel_rfl, ?_⟩) (by assumption) ?_
          rotate_left
          · (intro w hSw; (try dsimp only at hSw); go_simp)
            try with_reducible rfl
          try simp only [Act.put, List.setIfInBounds_toArray, List.set_cons_zero, List.set_cons_succ, List.getElem_toArray, List.getElem_cons_zero, List.getElem_cons_succ]
          refine wpAnyH_take (i := 4) (v := ?_) rfl (by kernel_rfl) (by kernel_rfl) (by kernel_rfl) (fun _ _ _ h => h) (Or.inl ⟨by kernel_rfl, ?_⟩) (by assumption) ?_
          rotate_left
          · (intro w hSw; (try dsimp only at hSw); go_simp)
            try with_reducible rfl
          try simp only [Act.put, List.setIfInBounds_toArray, List.set_cons_zero, List.set_cons_succ, List.getElem_toArray, List.getElem_cons_zero, List.getElem_cons_succ]
          refine wpAnyH_take (i := 5) (v := ?_) rfl (by kernel_rfl) (by kernel_rfl) (by kernel_rfl) (fun _ _ _ h => h) (Or.inl ⟨by kernel_rfl, ?_⟩) (by assumption) ?_
          rotate_left
          · (intro w hSw; (try dsimp only at hSw); go_simp)
            try with_reducible rfl
          try simp only [Act.put, List.setIfInBounds_toArray, List.set_cons_zero, List.set_cons_succ, List.getElem_toArray, List.getElem_cons_zero, List.getElem_cons_succ]
          refine wpAnyH_take (i := 6) (v := ?_) rfl (by kernel_rfl) (by kernel_rfl) (by kernel_rfl) (fun _ _ _ h => h) (Or.inl ⟨by kernel_rfl, ?_⟩) (by assumption) ?_
          rotate_left
          · (intro w hSw; (try dsimp only at hSw); go_simp)
            try with_reducible rfl
          try simp only [Act.put, List.setIfInBounds_toArray, List.set_cons_zero, List.set_cons_succ, List.getElem_toArray, List.getElem_cons_zero, List.getElem_cons_succ]
          refine wpAnyH_take (i := 7) (v := ?_) rfl (by kernel_rfl) (by kernel_rfl) (by kernel_rfl) (fun _ _ _ h => h) (Or.inl ⟨by kernel_rfl, ?_⟩) (by assumption) ?_
          rotate_left
          · (intro w hSw; (try dsimp only at hSw); go_simp)
            try with_reducible rfl
          try simp only [Act.put, List.setIfInBounds_toArray, List.set_cons_zero, List.set_cons_succ, List.getElem_toArray, List.getElem_cons_zero, List.getElem_cons_succ]
          refine wpAnyH_take (i := 8) (v := ?_) rfl (by kernel_rfl) (by kernel_rfl) (by kernel_rfl) (fun _ _ _ h => h) (Or.inl ⟨by kernel_rfl, ?_⟩) (by assumption) ?_
          rotate_left
          · (intro w hSw; (try dsimp only at hSw); go_simp)
            try with_reducible rfl
          try simp only [Act.put, List.setIfInBounds_toArray, List.set_cons_zero, List.set_cons_succ, List.getElem_toArray, List.getElem_cons_zero, List.getElem_cons_succ]
          refine wpAnyH_take (i := 9) (v := ?_) rfl (by kernel_rfl) (by kernel_rfl) (by kernel_rfl) (fun _ _ _ h => h) (Or.inl ⟨by kernel_rfl, ?_⟩) (by assumption) ?_
          rotate_left
          · (intro w hSw; (try dsimp only at hSw); go_simp)
            try with_reducible rfl
          try simp only [Act.put, List.setIfInBounds_toArray, List.set_cons_zero, List.set_cons_succ, List.getElem_toArray, List.getElem_cons_zero, List.getElem_cons_succ]
          refine wpAnyH_ready (rs := [10]) (by kernel_rfl) (by simp) ?_
          refine AllReadyH.cons rfl (fun K hK => ?_) AllReadyH.nil
          go_simp
          go_at_call 99
          refine HWI.out.mono ?_
          rintro e wz ⟨rfl, hbz⟩
          have HBY : Hid (Below W1.heap.size W1 wz) := Below.trans (b := W1.drew) hself hbz
          have HBZ : Hid (Below w.heap.size w wz) := HB1.out.trans (HBY.out.mono HB1.out.size)
          clear hbz
          try dsimp only
          refine hK.out _ _ (HX.out wz HBY.out) (fun hHeld => ?_)
          clear hK K
          try simp only [Act.put, List.setIfInBounds_toArray, List.set_cons_zero, List.set_cons_succ, List.getElem_toArray, List.getElem_cons_zero, List.getElem_cons_succ]
          refine wpAnyH_take (i := 11) (v := ?_) rfl (by kernel_rfl) (by kernel_rfl) (by kernel_rfl) (fun _ _ _ h => h) (Or.inl ⟨by kernel_rfl, ?_⟩) (by assumption) ?_
          rotate_left
          · (intro w hSw; (try dsimp only at hSw); go_simp)
            try with_reducible rfl
          try simp only [Act.put, List.setIfInBounds_toArray, List.set_cons_zero, List.set_cons_succ, List.getElem_toArray, List.getElem_cons_zero, List.getElem_cons_succ]
          refine wpAnyH_take (i := 12) (v := ?_) rfl (by kernel_rfl) (by kernel_rfl) (by kernel_rfl) (fun _ _ _ h => h) (Or.inl ⟨by kernel_rfl, ?_⟩) (by assumption) ?_
          rotate_left
          · (intro w hSw; (try dsimp only at hSw); go_simp)
            try with_reducible rfl
          try simp only [Act.put, List.setIfInBounds_toArray, List.set_cons_zero, List.set_cons_succ, List.getElem_toArray, List.getElem_cons_zero, List.getElem_cons_succ]
          refine wpAnyH_take (i := 13) (v := ?_) rfl (by kernel_rfl) (by kernel_rfl) (by kernel_rfl) (fun _ _ _ h => h) (Or.inl ⟨by kernel_rfl, ?_⟩) (by assumption) ?_
          rotate_left
          · (intro w hSw; (try dsimp only at hSw); go_simp)
            try with_reducible rfl
          try simp only [Act.put, List.setIfInBounds_toArray, List.set_cons_zero, List.set_cons_succ, List.getElem_toArray, List.getElem_cons_zero, List.getElem_cons_succ]
          refine wpAnyH_take (i := 14) (v := ?_) rfl (by kernel_rfl) (by kernel_rfl) (by kernel_rfl) (fun _ _ _ h => h) (Or.inl ⟨by kernel_rfl, ?_⟩) (by assumption) ?_
          rotate_left
          · (intro w hSw; (try dsimp only at hSw); go_simp)
            try with_reducible rfl
          try simp only [Act.put, List.setIfInBounds_toArray, List.set_cons_zero, List.set_cons_succ, List.getElem_toArray, List.getElem_cons_zero, List.getElem_cons_succ]
          refine wpAnyH_take (i := 15) (v := ?_) rfl (by kernel_rfl) (by kernel_rfl) (by kernel_rfl) (fun _ _ _ h => h) (Or.inl ⟨by kernel_rfl, ?_⟩) (by assumption) ?_
          rotate_left
          · (intro w hSw; (try dsimp only at hSw); go_simp)
            try with_reducible rfl
          try simp only [Act.put, List.setIfInBounds_toArray, List.set_cons_zero, List.set_cons_succ, List.getElem_toArray, List.getElem_cons_zero, List.getElem_cons_succ]
          refine wpAnyH_take (i := 17) (v := ?_) rfl (by kernel_rfl) (by kernel_rfl) (by kernel_rfl) (fun _ _ _ h => h) (Or.inl ⟨by kernel_rfl, ?_⟩) (by assumption) ?_
          rotate_left
          · (intro w hSw; (try dsimp only at hSw); go_simp)
            try with_reducible rfl
          try simp only [Act.put, List.setIfInBounds_toArray, List.set_cons_zero, List.set_cons_succ, List.getElem_toArray, List.getElem_cons_zero, List.getElem_cons_succ]
          refine wpAnyH_take (i := 18) (v := ?_) rfl (by kernel_rfl) (by kernel_rfl) (by kernel_rfl) (fun _ _ _ h => h) (Or.inl ⟨by kernel_rfl, ?_⟩) (by assumption) ?_
          rotate_left
          · (intro w hSw; (try dsimp only at hSw); go_simp)
            try with_reducible rfl
          try simp only [Act.put, List.setIfInBounds_toArray, List.set_cons_zero, List.set_cons_succ, List.getElem_toArray, List.getElem_cons_zero, List.getElem_cons_succ]
          refine wpAnyH_take (i := 19) (v := ?_) rfl (by kernel_rfl) (by kernel_rfl) (by kernel_rfl) (fun _ _ _ h => h) (Or.inl ⟨by kernel_rfl, ?_⟩) (by assumption) ?_
          rotate_left
          · (intro w hSw; (try dsimp only at hSw); go_simp)
            try with_reducible rfl
          try simp only [Act.put, List.setIfInBounds_toArray, List.set_cons_zero, List.set_cons_succ, List.getElem_toArray, List.getElem_cons_zero, List.getElem_cons_succ]
          refine wpAnyH_ready (rs := [16]) (by kernel_rfl) (by simp) ?_
          refine AllReadyH.cons rfl (fun K hK => ?_) AllReadyH.nil
          go_simp
          go_at_call 101
          refine (HSZ.out wz).mono ?_
          rintro e wy ⟨rfl, rfl⟩
          try dsimp only
          refine hK.out _ _ (HX.out wy HBY.out) (fun hHeld => ?_)
          clear hK K
          try simp only [Act.put, List.setIfInBounds_toArray, List.set_cons_zero, List.set_cons_succ, List.getElem_toArray, List.getElem_cons_zero, List.getElem_cons_succ]
          refine wpAnyH_ready (rs := [20]) (by kernel_rfl) (by simp) ?_
          refine AllReadyH.cons rfl (fun K hK => ?_) AllReadyH.nil
          go_simp
          go_at_call 100
          refine (HGC.out _).mono ?_
          rintro e wg ⟨rfl, hbg⟩
          have HBX : Hid (Below W1.heap.size W1 wg) := HBY.out.trans (hbg.mono HBY.out.size)
          have HBG : Hid (Below w.heap.size w wg) := HB1.out.trans (HBX.out.mono HB1.out.size)
          clear hbg
          try dsimp only
          refine hK.out _ _ (HX.out wg HBX.out) (fun hHeld => ?_)
          clear hK K
          try simp only [Act.put, List.setIfInBounds_toArray, List.set_cons_zero, List.set_cons_succ, List.getElem_toArray, List.getElem_cons_zero, List.getElem_cons_succ]
          refine wpAnyH_take (i := 21) (v := ?_) rfl (by kernel_rfl) (by kernel_rfl) (by kernel_rfl) (fun _ _ _ h => h) (Or.inl ⟨by kernel_rfl, ?_⟩) (by assumption) ?_
          rotate_left
          · (intro w hSw; (try dsimp only at hSw); go_simp)
            try with_reducible rfl
          try simp only [Act.put, List.setIfInBounds_toArray, List.set_cons_zero, List.set_cons_succ, List.getElem_toArray, List.getElem_cons_zero, List.getElem_cons_succ]
          refine wpAnyH_take (i := 22) (v := ?_) rfl (by kernel_rfl) (by kernel_rfl) (by kernel_rfl) (fun _ _ _ h => h) (Or.inl ⟨by kernel_rfl, ?_⟩) (by assumption) ?_
          rotate_left
          · (intro w hSw; (try dsimp only at hSw); go_simp)
            try with_reducible rfl
          try simp only [Act.put, List.setIfInBounds_toArray, List.set_cons_zero, List.set_cons_succ, List.getElem_toArray, List.getElem_cons_zero, List.getElem_cons_succ]
          refine wpAnyH_done (by kernel_rfl) ?_ _
          go_wp2_with fail
          all_goals go_ret
          all_goals exact ⟨rfl, HBG.out⟩
        · have q2 : (((G : Nat) : Int) != 1) = true := by simp; omega
          have HE2 : Hid ((if G = 1 then (0 : Int) else 8) = 8) := if_neg hg
          rw [HE2.out]
          clear hg
          go_enter Tryz.func52, Tryz.ntmps52
          go_upto_region 1 with fail
          rw [HW1.out]
          refine wp_region_held_drew (S := fun W => W.cell? ⟨w.heap.size, 0, none⟩ = some (.int .i64 a) ∧ W.cell? ⟨w.heap.size, 1, none⟩ = some (.int .i64 p) ∧ w.heap.size < W.heap.size) (by kernel_rfl) HS0.out (fun hHeld => ?_)
          refine wpAnyH_take (i := 0) (v := ?_) rfl (by kernel_rfl) (by kernel_rfl) (by kernel_rfl) (fun _ _ _ h => h) (Or.inl ⟨by kernel_rfl, ?_⟩) (by assumption) ?_
          rotate_left
          · (intro w hSw; (try dsimp only at hSw); go_simp)
            try with_reducible rfl
          try simp only [Act.put, List.setIfInBounds_toArray, List.set_cons_zero, List.set_cons_succ, List.getElem_toArray, List.getElem_cons_zero]
          refine wpAnyH_take (i := 1) (v := ?_) rfl (by kernel_rfl) (by kernel_rfl) (by kernel_rfl) (fun _ _ _ h => h) (Or.inl ⟨by kernel_rfl, ?_⟩) (by assumption) ?_
          rotate_left
          · (intro w hSw; (try dsimp only at hSw); go_simp)
            try with_reducible rfl
          try simp only [Act.put, List.setIfInBounds_toArray, List.set_cons_zero, List.set_cons_succ, List.getElem_toArray, List.getElem_cons_zero, List.getElem_cons_succ]
          refine wpAnyH_take (i := 2) (v := ?_) rfl (by kernel_rfl) (by kernel_rfl) (by kernel_rfl) (fun _ _ _ h => h) (Or.inl ⟨by kernel_rfl, ?_⟩) (by assumption) ?_
          rotate_left
          · (intro w hSw; (try dsimp only at hSw); go_simp)
            try with_reducible rfl
          try simp only [Act.put, List.setIfInBounds_toArray, List.set_cons_zero, List.set_cons_succ, List.getElem_toArray, List.getElem_cons_zero, List.getElem_cons_succ]
          refine wpAnyH_take (i := 3) (v := ?_) rfl (by kernel_rfl) (by kernel_rfl) (by kernel_rfl) (fun _ _ _ h => h) (Or.inl ⟨by kernel_rfl, ?_⟩) (by assumption) ?_
          rotate_left
          · (intro w hSw; (try dsimp only at hSw); go_simp)
            try with_reducible rfl
          try simp only [Act.put, List.setIfInBounds_toArray, List.set_cons_zero, List.set_cons_succ, List.getElem_toArray, List.getElem_cons_zero, List.getElem_cons_succ]
          refine wpAnyH_take (i := 4) (v := ?_) rfl (by kernel_rfl) (by kernel_rfl) (by kernel_rfl) (fun _ _ _ h => h) (Or.inl ⟨by kernel_rfl, ?_⟩) (by assumption) ?_
          rotate_left
          · (intro w hSw; (try dsimp only at hSw); go_simp)
            try with_reducible rfl
          try simp only [Act.put, List.setIfInBounds_toArray, List.set_cons_zero, List.set_cons_succ, List.getElem_toArray, List.getElem_cons_zero, List.getElem_cons_succ]
          refine wpAnyH_take (i := 5) (v := ?_) rfl (by kernel_rfl) (by kernel_rfl) (by kernel_rfl) (fun _ _ _ h => h) (Or.inl ⟨by kernel_rfl, ?_⟩) (by assumption) ?_
          rotate_left
          · (intro w hSw; (try dsimp only at hSw); go_simp)
            try with_reducible rfl
          try simp only [Act.put, List.setIfInBounds_toArray, List.set_cons_zero, List.set_cons_succ, List.getElem_toArray, List.getElem_cons_zero, List.getElem_cons_succ]
          refine wpAnyH_take (i := 6) (v := ?_) rfl (by kernel_rfl) (by kernel_rfl) (by kernel_rfl) (fun _ _ _ h => h) (Or.inl ⟨by kernel_rfl, ?_⟩) (by assumption) ?_
          rotate_left
          · (intro w hSw; (try dsimp only at hSw); go_simp)
            try with_reducible rfl
          try simp only [Act.put, List.setIfInBounds_toArray, List.set_cons_zero, List.set_cons_succ, List.getElem_toArray, List.getElem_cons_zero, List.getElem_cons_succ]
          refine wpAnyH_take (i := 7) (v := ?_) rfl (by kernel_rfl) (by kernel_rfl) (by kernel_rfl) (fun _ _ _ h => h) (Or.inl ⟨by kernel_rfl, ?_⟩) (by assumption) ?_
          rotate_left
          · (intro w hSw; (try dsimp only at hSw); go_simp)
            try with_reducible rfl
          try simp only [Act.put, List.setIfInBounds_toArray, List.set_cons_zero, List.set_cons_succ, List.getElem_toArray, List.getElem_cons_zero, List.getElem_cons_succ]
          refine wpAnyH_take (i := 8) (v := ?_) rfl (by kernel_rfl) (by kernel_rfl) (by kernel_rfl) (fun _ _ _ h => h) (Or.inl ⟨by kernel_rfl, ?_⟩) (by assumption) ?_
          rotate_left
          · (intro w hSw; (try dsimp only at hSw); go_simp)
            try with_reducible rfl
          try simp only [Act.put, List.setIfInBounds_toArray, List.set_cons_zero, List.set_cons_succ, List.getElem_toArray, List.getElem_cons_zero, List.getElem_cons_succ]
          refine wpAnyH_take (i := 9) (v := ?_) rfl (by kernel_rfl) (by kernel_rfl) (by kernel_rfl) (fun _ _ _ h => h) (Or.inl ⟨by kernel_rfl, ?_⟩) (by assumption) ?_
          rotate_left
          · (intro w hSw; (try dsimp only at hSw); go_simp)
            try with_reducible rfl
          try simp only [Act.put, List.setIfInBounds_toArray, List.set_cons_zero, List.set_cons_succ, List.getElem_toArray, List.getElem_cons_zero, List.getElem_cons_succ]
          refine wpAnyH_ready (rs := [10]) (by kernel_rfl) (by simp) ?_
          refine AllReadyH.cons rfl (fun K hK => ?_) AllReadyH.nil
          go_simp
          go_at_call 99
          refine HWI.out.mono ?_
          rintro e wz ⟨rfl, hbz⟩
          have HBY : Hid (Below W1.heap.size W1 wz) := Below.trans (b := W1.drew) hself hbz
          have HBZ : Hid (Below w.heap.size w wz) := HB1.out.trans (HBY.out.mono HB1.out.size)
          clear hbz
          try dsimp only
          refine hK.out _ _ (HX.out wz HBY.out) (fun hHeld => ?_)
          clear hK K
          try simp only [Act.put, List.setIfInBounds_toArray, List.set_cons_zero, List.set_cons_succ, List.getElem_toArray, List.getElem_cons_zero, List.getElem_cons_succ]
          refine wpAnyH_take (i := 11) (v := ?_) rfl (by kernel_rfl) (by kernel_rfl) (by kernel_rfl) (fun _ _ _ h => h) (Or.inl ⟨by kernel_rfl, ?_⟩) (by assumption) ?_
          rotate_left
          · (intro w hSw; (try dsimp only at hSw); go_simp)
            try with_reducible rfl
          try simp only [Act.put, List.setIfInBounds_toArray, List.set_cons_zero, List.set_cons_succ, List.getElem_toArray, List.getElem_cons_zero, List.getElem_cons_succ]
          refine wpAnyH_take (i := 12) (v := ?_) rfl (by kernel_rfl) (by kernel_rfl) (by kernel_rfl) (fun _ _ _ h => h) (Or.inl ⟨by kernel_rfl, ?_⟩) (by assumption) ?_
          rotate_left
          · (intro w hSw; (try dsimp only at hSw); go_simp)
            try with_reducible rfl
          try simp only [Act.put, List.setIfInBounds_toArray, List.set_cons_zero, List.set_cons_succ, List.getElem_toArray, List.getElem_cons_zero, List.getElem_cons_succ]
          refine wpAnyH_take (i := 13) (v := ?_) rfl (by kernel_rfl) (by kernel_rfl) (by kernel_rfl) (fun _ _ _ h => h) (Or.inl ⟨by kernel_rfl, ?_⟩) (by assumption) ?_
          rotate_left
          · (intro w hSw; (try dsimp only at hSw); go_simp)
            try with_reducible rfl
          try simp only [Act.put, List.setIfInBounds_toArray, List.set_cons_zero, List.set_cons_succ, List.getElem_toArray, List.getElem_cons_zero, List.getElem_cons_succ]
          refine wpAnyH_take (i := 14) (v := ?_) rfl (by kernel_rfl) (by kernel_rfl) (by kernel_rfl) (fun _ _ _ h => h) (Or.inl ⟨by kernel_rfl, ?_⟩) (by assumption) ?_
          rotate_left
          · (intro w hSw; (try dsimp only at hSw); go_simp)
            try with_reducible rfl
          try simp only [Act.put, List.setIfInBounds_toArray, List.set_cons_zero, List.set_cons_succ, List.getElem_toArray, List.getElem_cons_zero, List.getElem_cons_succ]
          refine wpAnyH_take (i := 15) (v := ?_) rfl (by kernel_rfl) (by kernel_rfl) (by kernel_rfl) (fun _ _ _ h => h) (Or.inl ⟨by kernel_rfl, ?_⟩) (by assumption) ?_
          rotate_left
          · (intro w hSw; (try dsimp only at hSw); go_simp)
            try with_reducible rfl
          try simp only [Act.put, List.setIfInBounds_toArray, List.set_cons_zero, List.set_cons_succ, List.getElem_toArray, List.getElem_cons_zero, List.getElem_cons_succ]
          refine wpAnyH_take (i := 17) (v := ?_) rfl (by kernel_rfl) (by kernel_rfl) (by kernel_rfl) (fun _ _ _ h => h) (Or.inl ⟨by kernel_rfl, ?_⟩) (by assumption) ?_
          rotate_left
          · (intro w hSw; (try dsimp only at hSw); go_simp)
            try with_reducible rfl
          try simp only [Act.put, List.setIfInBounds_toArray, List.set_cons_zero, List.set_cons_succ, List.getElem_toArray, List.getElem_cons_zero, List.getElem_cons_succ]
          refine wpAnyH_take (i := 18) (v := ?_) rfl (by kernel_rfl) (by kernel_rfl) (by kernel_rfl) (fun _ _ _ h => h) (Or.inl ⟨by kernel_rfl, ?_⟩) (by assumption) ?_
          rotate_left
          · (intro w hSw; (try dsimp only at hSw); go_simp)
            try with_reducible rfl
          try simp only [Act.put, List.setIfInBounds_toArray, List.set_cons_zero, List.set_cons_succ, List.getElem_toArray, List.getElem_cons_zero, List.getElem_cons_succ]
          refine wpAnyH_take (i := 19) (v := ?_) rfl (by kernel_rfl) (by kernel_rfl) (by kernel_rfl) (fun _ _ _ h => h) (Or.inl ⟨by kernel_rfl, ?_⟩) (by assumption) ?_
          rotate_left
          · (intro w hSw; (try dsimp only at hSw); go_simp)
            try with_reducible rfl
          try simp only [Act.put, List.setIfInBounds_toArray, List.set_cons_zero, List.set_cons_succ, List.getElem_toArray, List.getElem_cons_zero, List.getElem_cons_succ]
          refine wpAnyH_ready (rs := [16]) (by kernel_rfl) (by simp) ?_
          refine AllReadyH.cons rfl (fun K hK => ?_) AllReadyH.nil
          go_simp
          go_at_call 101
          refine (HSZ.out wz).mono ?_
          rintro e wy ⟨rfl, rfl⟩
          try dsimp only
          refine hK.out _ _ (HX.out wy HBY.out) (fun hHeld => ?_)
          clear hK K
          try simp only [Act.put, List.setIfInBounds_toArray, List.set_cons_zero, List.set_cons_succ, List.getElem_toArray, List.getElem_cons_zero, List.getElem_cons_succ]
          refine wpAnyH_ready (rs := [20]) (by kernel_rfl) (by simp) ?_
          refine AllReadyH.cons rfl (fun K hK => ?_) AllReadyH.nil
          go_simp
          go_at_call 100
          refine (HGC.out _).mono ?_
          rintro e wg ⟨rfl, hbg⟩
          have HBX : Hid (Below W1.heap.size W1 wg) := HBY.out.trans (hbg.mono HBY.out.size)
          have HBG : Hid (Below w.heap.size w wg) := HB1.out.trans (HBX.out.mono HB1.out.size)
          clear hbg
          try dsimp only
          refine hK.out _ _ (HX.out wg HBX.out) (fun hHeld => ?_)
          clear hK K
          try simp only [Act.put, List.setIfInBounds_toArray, List.set_cons_zero, List.set_cons_succ, List.getElem_toArray, List.getElem_cons_zero, List.getElem_cons_succ]
          refine wpAnyH_take (i := 21) (v := ?_) rfl (by kernel_rfl) (by kernel_rfl) (by kernel_rfl) (fun _ _ _ h => h) (Or.inl ⟨by kernel_rfl, ?_⟩) (by assumption) ?_
          rotate_left
          · (intro w hSw; (try dsimp only at hSw); go_simp)
            try with_reducible rfl
          try simp only [Act.put, List.setIfInBounds_toArray, List.set_cons_zero, List.set_cons_succ, List.getElem_toArray, List.getElem_cons_zero, List.getElem_cons_succ]
          refine wpAnyH_take (i := 22) (v := ?_) rfl (by kernel_rfl) (by kernel_rfl) (by kernel_rfl) (fun _ _ _ h => h) (Or.inl ⟨by kernel_rfl, ?_⟩) (by assumption) ?_
          rotate_left
          · (intro w hSw; (try dsimp only at hSw); go_simp)
            try with_reducible rfl
          try simp only [Act.put, List.setIfInBounds_toArray, List.set_cons_zero, List.set_cons_succ, List.getElem_toArray, List.getElem_cons_zero, List.getElem_cons_succ]
          refine wpAnyH_done (by kernel_rfl) ?_ _
          go_wp2_with fail
          all_goals go_ret
          all_goals exact ⟨rfl, HBG.out⟩
end Go.Proofs.YtockinpjfhhkoaaGreatDoor

/- rat.checked, first, Keeps walked. -/
namespace Go.Proofs.YtockinpjfhhkoaaGreatDoor
open Go.RowKit

/-- Fractions in block b, one behind the other. -/
def RatR (w : World) (b : Nat) (l : List (Int × Int)) : Prop := b < w.heap.size ∧ ∀ k (h : k < l.length), w.cell? ⟨b, k * 2, none⟩ = some (.int .i64 (l[k]).1) ∧ w.cell? ⟨b, k * 2 + 1, none⟩ = some (.int .i64 (l[k]).2)
theorem RatR.below {w w' : World} {b : Nat} {l : List (Int × Int)} (h : RatR w b l) (hb : Below w.heap.size w w') : RatR w' b l :=
  ⟨Nat.lt_of_lt_of_le h.1 hb.size, fun k hk => ⟨(hb.cell (p := ⟨b, _, none⟩) h.1).trans (h.2 k hk).1, (hb.cell (p := ⟨b, _, none⟩) h.1).trans (h.2 k hk).2⟩⟩
def ratsE (l : List (Int × Int)) : Int := if l.all (fun a => mayQ a.1 a.2) = true then 0 else 8
theorem ratsE_at {l : List (Int × Int)} {k : Nat} (h : k < l.length) (hf : mayQ (l[k]).1 (l[k]).2 = false) : ratsE l = 8 := by
  unfold ratsE
  have : l.all (fun a => mayQ a.1 a.2) = false := by
    rw [List.all_eq_false]
    exact ⟨_, List.getElem_mem h, by simp [hf]⟩
  rw [this]
  rfl
theorem ratsE_all {l : List (Int × Int)} (h : ∀ k (hk : k < l.length), mayQ (l[k]).1 (l[k]).2 = true) : ratsE l = 0 := by
  unfold ratsE
  rw [if_pos]
  rw [List.all_eq_true]
  intro x hx
  obtain ⟨k, hk, rfl⟩ := List.mem_iff_getElem.1 hx
  exact h k hk
set_option maxRecDepth 100000 in
set_option maxHeartbeats 8000000 in
theorem checked80_any {b c : Nat} {l : List (Int × Int)} {w : World} (h : RatR w b l) (hl : l.length ≤ 100) (hr : ∀ x ∈ l, in64 x.1) :
    Calls Tryz.prog 80 #[.slice (some ⟨b, 0, none⟩) l.length c] w fun e w' => e = .returned (.int .i64 (ratsE l)) ∧ Below w.heap.size w w' := by
  have H := Lib.hid h
  have HR := Lib.hid hr
  have hbl := h.1
  clear h hr
  go_enter Tryz.func80, Tryz.ntmps80
  go_wp2_with fail
  go_loopw [8] (fun i wr => ∃ k : Nat, k ≤ l.length ∧ i = .int .i64 k ∧ Hid (∀ i (h : i < k) (h' : i < l.length), mayQ (l[i]).1 (l[i]).2 = true) ∧ Hid (Below w.heap.size w wr)) (fun i _ => l.length - (intOf i).toNat)
  case atStart => exact ⟨0, Nat.zero_le _, rfl, fun i h => absurd h (Nat.not_lt_zero i), Below.refl _ _⟩
  case round =>
    obtain ⟨k, hk, rfl, HP, HB⟩ := hrel
    have hz := HB.out.size
    by_cases hlt : k < l.length
    · obtain ⟨c1, c2⟩ := (H.out.below HB.out).2 k hlt
      obtain ⟨a, p, hap⟩ : ∃ a p, l[k] = (a, p) := ⟨_, _, rfl⟩
      have ha : in64 a := by have := HR.out _ (List.getElem_mem hlt); rw [hap] at this; exact this
      rw [hap] at c1 c2
      dsimp only at c1 c2
      have HAP := Lib.hid hap
      have HC := Lib.hid (check52_any a p (wr.alloc (.cells #[.int .i64 a, .int .i64 p] 50)) ha)
      have hbl2 : b < wr.heap.size := by omega
      have hlti : (k : Int) < (l.length : Int) := by omega
      clear hap ha
      cases hm : mayQ a p with
      | true =>
        have HM := Lib.hid hm
        have HE := Lib.hid (ratE_ok hm)
        rw [HE.out] at HC
        clear hm HE
        go_wp2_with fail
        refine HC.out.mono ?_
        rintro e w1 ⟨rfl, hb1⟩
        have HB1 := Lib.hid ((HB.out.alloc hz (.cells #[.int .i64 a, .int .i64 p] 50)).trans (hb1.mono (by simp; omega)))
        clear hb1 c1 c2
        go_wp2_with fail
        go_roundw
        case rel => exact ⟨k + 1, by omega, by go_num, fun i hi hi' => (by
          rcases Nat.lt_or_ge i k with h | h
          · exact HP.out i h hi'
          · obtain rfl : i = k := by omega
            rw [HAP.out]; exact HM.out), HB1⟩
        case measure => simp [intOf]; omega
      | false =>
        have HM : Hid (ratsE l = 8) := ratsE_at hlt (by rw [HAP.out]; exact hm)
        have HE := Lib.hid (ratE_no hm)
        rw [HE.out] at HC
        clear hm HE
        go_wp2_with fail
        refine HC.out.mono ?_
        rintro e w1 ⟨rfl, hb1⟩
        have HB1 := Lib.hid ((HB.out.alloc hz (.cells #[.int .i64 a, .int .i64 p] 50)).trans (hb1.mono (by simp; omega)))
        clear hb1 c1 c2
        go_wp2_with fail
        go_ret
        exact ⟨ret_i (by rw [HM.out]), HB1.out⟩
    · have HM : Hid (ratsE l = 0) := ratsE_all fun k' hk' => HP.out k' (by omega) hk'
      go_wp2_with fail
      go_ret
      exact ⟨ret_i (by rw [HM.out]), HB.out⟩
set_option maxRecDepth 100000 in
set_option maxHeartbeats 4000000 in
theorem first146_any (x y v : Int) (K : Nat) (caps : Array Value) (w : World) (hK : Ent K) (hC : Calls Tryz.prog K caps w fun e w' => e = .returned (.int .i64 v) ∧ Below w.heap.size w w') :
    Calls Tryz.prog 146 #[.int .i64 x, .int .i64 y, .func (.func K) #[] caps] w fun e w' => e = .returned (.int .i64 (if cmpI x y = 0 then v else cmpI x y)) ∧ Below w.heap.size w w' := by
  unfold Ent at hK
  have HC := Lib.hid hC
  clear hC
  have HP := Lib.hid (cmp190_any x y w)
  obtain ⟨c, hc⟩ : ∃ c, cmpI x y = c := ⟨_, rfl⟩
  rw [hc] at HP ⊢
  clear hc
  by_cases h0 : c = 0
  · have HE : Hid ((if c = 0 then v else c) = v) := if_pos h0
    rw [HE.out]
    have q : (c != 0) = false := by simpa using h0
    clear h0
    go_enter Tryz.func146, Tryz.ntmps146
    go_wp2_with fail
    refine HP.out.mono ?_
    rintro e w1 ⟨rfl, rfl⟩
    go_wp2_with fail
    refine HC.out.mono ?_
    rintro e w2 ⟨rfl, hb2⟩
    go_wp2_with fail
    all_goals go_ret
    all_goals exact ⟨rfl, hb2⟩
  · have HE : Hid ((if c = 0 then v else c) = c) := if_neg h0
    rw [HE.out]
    have q : (c != 0) = true := by simpa using h0
    clear h0
    go_enter Tryz.func146, Tryz.ntmps146
    go_wp2_with fail
    refine HP.out.mono ?_
    rintro e w1 ⟨rfl, rfl⟩
    go_wp2_with fail
    all_goals go_ret
    all_goals exact ⟨rfl, Below.refl _ _⟩
end Go.Proofs.YtockinpjfhhkoaaGreatDoor

/- rat.Keeps walked. -/
namespace Go.Proofs.YtockinpjfhhkoaaGreatDoor
open Go.RowKit

set_option maxRecDepth 100000 in
set_option maxHeartbeats 4000000 in
theorem clo189_any {br ba bs bb : Nat} {r p s q a b : Int} {w : World} (h0 : w.heap[br]? = some (.cells #[.int .i64 r] 3 (0, 0))) (h1 : w.heap[bb]? = some (.cells #[.int .i64 b, .int .i64 q] 50 (0, 0))) (h2 : w.heap[bs]? = some (.cells #[.int .i64 s] 3 (0, 0))) (h3 : w.heap[ba]? = some (.cells #[.int .i64 a, .int .i64 p] 50 (0, 0)))
    (hw1 : IntKind.i64.wrap (r * q) = r * q) (hw2 : IntKind.i64.wrap (s * p) = s * p) :
    Calls Tryz.prog 189 #[.pointer (some ⟨br, 0, none⟩), .pointer (some ⟨bb, 0, none⟩), .pointer (some ⟨bs, 0, none⟩), .pointer (some ⟨ba, 0, none⟩)] w fun e w' => e = .returned (.int .i64 (cmpI (r * q) (s * p))) ∧ Below w.heap.size w w' := by
  have c0 := Lib.cell_of_heap h0 0
  have c1 := Lib.cell_of_heap h1 1
  have c2 := Lib.cell_of_heap h2 0
  have c3 := Lib.cell_of_heap h3 1
  simp only [List.getElem?_toArray, List.getElem?_cons_zero, List.getElem?_cons_succ] at c0 c1 c2 c3
  have l0 := (Array.getElem?_eq_some_iff.1 h0).1
  have l1 := (Array.getElem?_eq_some_iff.1 h1).1
  have l2 := (Array.getElem?_eq_some_iff.1 h2).1
  have l3 := (Array.getElem?_eq_some_iff.1 h3).1
  clear h0 h1 h2 h3
  go_enter Tryz.func189, Tryz.ntmps189
  go_wp2_with fail
  refine (cmp190_any _ _ w).mono ?_
  rintro e w1 ⟨rfl, rfl⟩
  go_wp2_with fail
  all_goals go_ret
  all_goals exact ⟨rfl, Below.refl _ _⟩
theorem part_small {a p q : Int} (hp : 1 ≤ p) (hp2 : p ≤ 1048576) (hq : 1 ≤ q) (hq2 : q ≤ 1048576) : IntKind.i64.wrap ((a % p) * q) = (a % p) * q := by
  have r0 := Int.emod_nonneg a (by omega : p ≠ 0)
  have r1 := Int.emod_lt_of_pos a (by omega : 0 < p)
  generalize a % p = r at *
  have h0 : 0 ≤ r * q := Int.mul_nonneg r0 (by omega)
  have h1 : r * q ≤ 1048576 * 1048576 := Int.mul_le_mul (by omega) hq2 (by omega) (by omega)
  exact IntWalk.i64_in _ ⟨by omega, by omega⟩
theorem cmp_keeps {a p b q x d : Int} (hx : x ≠ noneB) (hd : a / p - b / q = d) :
    keepsQ a p b q x = (decide ((if cmpI d (x / 2) = 0 then cmpI ((a % p) * q) ((b % q) * p) else cmpI d (x / 2)) < 0) || ((if cmpI d (x / 2) = 0 then cmpI ((a % p) * q) ((b % q) * p) else cmpI d (x / 2)) == 0 && !(x % 2 == 0))) := by
  unfold keepsQ
  rw [if_neg hx]
  dsimp only
  rw [hd]
  generalize (a % p) * q = u
  generalize (b % q) * p = v
  generalize hc : x / 2 = c
  have hx2 : (x % 2 == 1) = !(x % 2 == 0) := by
    rcases Int.emod_two_eq x with h | h <;> rw [h] <;> rfl
  rw [hx2]
  unfold cmpI
  rcases Int.lt_trichotomy d c with h | h | h
  · rw [if_pos h]
    simp [h]
  · subst h
    rw [if_neg (Int.lt_irrefl _), if_neg (Int.lt_irrefl _), if_pos rfl]
    rcases Int.lt_trichotomy u v with h2 | h2 | h2
    · simp [h2]
    · subst h2; simp
    · have : ¬ u < v := by omega
      have : ¬ u = v := by omega
      simp [*]
  · have h1 : ¬ d < c := by omega
    have h2 : ¬ d = c := by omega
    simp [*]
theorem mayQ_parts {a p : Int} (h : mayQ a p = true) : 1 ≤ p ∧ p ≤ 1048576 ∧ -2305843009213693952 ≤ a / p ∧ a / p ≤ 2305843009213693952 := by
  unfold mayQ at h
  simp only [Bool.and_eq_true, Bool.or_eq_true, decide_eq_true_eq, beq_iff_eq] at h
  omega
set_option maxRecDepth 100000 in
set_option maxHeartbeats 16000000 in
theorem keeps119_any {a p b q x : Int} {w : World} (ha : mayQ a p = true) (hb : mayQ b q = true) (hx : checkB x = true) (ia : in64 a) (ib : in64 b) :
    Calls Tryz.prog 119 #[.agg #[.int .i64 a, .int .i64 p], .agg #[.int .i64 b, .int .i64 q], .int .i64 x] w fun e w' => e = .returned (.tuple #[.bool (keepsQ a p b q x), .int .i64 0]) ∧ Below w.heap.size w w' := by
  obtain ⟨a1, a2, a3, a4⟩ := mayQ_parts ha
  obtain ⟨b1, b2, b3, b4⟩ := mayQ_parts hb
  obtain ⟨W3, hW3⟩ : ∃ W3, W3 = ((w.alloc (.cells #[.int .i64 a, .int .i64 p] 50)).alloc (.cells #[.int .i64 b, .int .i64 q] 50)).alloc (.cells #[.int .i64 a, .int .i64 p, .int .i64 b, .int .i64 q] 50) := ⟨_, rfl⟩
  have hb3 : Below w.heap.size w W3 := by rw [hW3]; exact ((belowA _ _).alloc (by simp) _).alloc (by simp; omega) _
  have hz3 : W3.heap.size = w.heap.size + 3 := by rw [hW3]; simp
  have hx0 : W3.heap[w.heap.size]? = some (.cells #[.int .i64 a, .int .i64 p] 50 (0, 0)) := by
    rw [hW3]; exact (Below.heap_alloc _ _ _ (by simp; omega)).trans ((Below.heap_alloc _ _ _ (by simp)).trans (hp_topA rfl))
  have hx1 : W3.heap[w.heap.size + 1]? = some (.cells #[.int .i64 b, .int .i64 q] 50 (0, 0)) := by
    rw [hW3]; exact (Below.heap_alloc _ _ _ (by simp)).trans (hp_topA (by simp))
  have hx2 : W3.heap[w.heap.size + 2]? = some (.cells #[.int .i64 a, .int .i64 p, .int .i64 b, .int .i64 q] 50 (0, 0)) := by
    rw [hW3]; exact hp_topA (by simp)
  have hrow : RatR W3 (w.heap.size + 2) [(a, p), (b, q)] := by
    refine ⟨by omega, fun k hk => ?_⟩
    match k, hk with
    | 0, _ => exact ⟨by rw [Lib.cell_of_heap hx2]; rfl, by rw [Lib.cell_of_heap hx2]; rfl⟩
    | 1, _ => exact ⟨by rw [Lib.cell_of_heap hx2]; rfl, by rw [Lib.cell_of_heap hx2]; rfl⟩
  have HCK := Lib.hid (checked80_any (c := 2) hrow (by simp) (by intro y hy; simp at hy; rcases hy with rfl | rfl <;> assumption))
  have HE : Hid (ratsE [(a, p), (b, q)] = 0) := by rw [Hid, ratsE]; simp [ha, hb]
  have HA0 := Lib.hid (chkE_ok hx)
  have HX0 : Hid (∀ W, Below W3.heap.size W3 W → W.heap[w.heap.size]? = some (.cells #[.int .i64 a, .int .i64 p] 50 (0, 0)) ∧ W.heap[w.heap.size + 1]? = some (.cells #[.int .i64 b, .int .i64 q] 50 (0, 0))) := fun W hW => ⟨(hW.block _ (by omega)).trans hx0, (hW.block _ (by omega)).trans hx1⟩
  have HW3 := Lib.hid hW3.symm
  have HB3 := Lib.hid hb3
  have HZ3 := Lib.hid hz3
  have HV : Hid (valR x = if x = noneB then (0, false, 6) else (x / 2, x % 2 == 0, 0)) := by rw [Hid, valR, if_neg (by rw [hx]; decide)]
  have HI := Lib.hid (And.intro ia ib)
  have HP := Lib.hid (And.intro (And.intro a1 a2) (And.intro b1 b2))
  have HQ := Lib.hid (And.intro (And.intro a3 a4) (And.intro b3 b4))
  have HS1 := Lib.hid (part_small (a := a) a1 a2 b1 b2)
  have HS2 := Lib.hid (part_small (a := b) b1 b2 a1 a2)
  have hl2 : ([(a, p), (b, q)] : List (Int × Int)).length = 2 := rfl
  rw [hl2] at HCK
  clear ha hb hx ia ib a1 a2 a3 a4 b1 b2 b3 b4 hW3 hb3 hz3 hx0 hx1 hx2 hrow hl2
  go_enter Tryz.func119, Tryz.ntmps119
  go_wp2_with fail
  rw [HW3.out]
  refine HCK.out.mono ?_
  rintro e w4 ⟨rfl, hb4⟩
  rw [HE.out]
  have HB4 := Lib.hid hb4
  clear hb4 HW3
  go_wp2_with fail
  refine (check187_any x w4).mono ?_
  rintro e w5 ⟨rfl, hb5⟩
  rw [HA0.out]
  have HB5 := Lib.hid (HB4.out.trans (hb5.mono HB4.out.size))
  clear hb5
  go_wp2_with fail
  refine (value188_any x w5).mono ?_
  rintro e w6 ⟨rfl, hb6⟩
  have HB6 := Lib.hid (HB5.out.trans (hb6.mono HB5.out.size))
  clear hb6
  rw [HV.out]
  by_cases hxn : x = noneB
  · have HK : Hid (keepsQ a p b q x = true) := by rw [Hid, keepsQ, if_pos hxn]
    rw [if_pos hxn]
    clear hxn
    go_wp2_with fail
    all_goals go_ret2
    all_goals exact ⟨by rw [HK.out]; rfl, HB3.out.trans (HB6.out.mono HB3.out.size)⟩
  · rw [if_neg hxn]
    obtain ⟨n, hn⟩ : ∃ n, a / p = n := ⟨_, rfl⟩
    obtain ⟨m, hm⟩ : ∃ m, b / q = m := ⟨_, rfl⟩
    obtain ⟨r, hr⟩ : ∃ r, a % p = r := ⟨_, rfl⟩
    obtain ⟨s, hs⟩ : ∃ s, b % q = s := ⟨_, rfl⟩
    obtain ⟨c, hc⟩ : ∃ c, x / 2 = c := ⟨_, rfl⟩
    obtain ⟨st, hst⟩ : ∃ st, (x % 2 == 0) = st := ⟨_, rfl⟩
    have HKK := Lib.hid (cmp_keeps (a := a) (p := p) (b := b) (q := q) (d := n - m) hxn (by rw [hn, hm]))
    have HF1 : Hid (∀ W, Calls Tryz.prog 83 #[.int .i64 a, .int .i64 p] W fun e w' => e = .returned (.tuple #[.int .i64 n, .int .i64 r]) ∧ Below W.heap.size W w') := fun W => by
      have := floor83_any a p W HP.out.1.1 HP.out.1.2 HI.out.1.1 HI.out.1.2
      rw [hn, hr] at this; exact this
    have HF2 : Hid (∀ W, Calls Tryz.prog 83 #[.int .i64 b, .int .i64 q] W fun e w' => e = .returned (.tuple #[.int .i64 m, .int .i64 s]) ∧ Below W.heap.size W w') := fun W => by
      have := floor83_any b q W HP.out.2.1 HP.out.2.2 HI.out.2.1 HI.out.2.2
      rw [hm, hs] at this; exact this
    rw [hr, hs, hc, hst] at HKK
    rw [hr] at HS1
    rw [hs] at HS2
    rw [hc, hst]
    have hwn : wrap64 (n - m) = n - m := by
      obtain ⟨⟨q1, q2⟩, q3, q4⟩ := HQ.out
      rw [hn] at q1 q2
      rw [hm] at q3 q4
      exact IntWalk.wrap64_in _ ⟨by omega, by omega⟩
    clear hxn hn hm hr hs hc hst
    obtain ⟨y0, y1⟩ := HX0.out w6 HB6.out
    have z0 := Lib.cell_of_heap y0 0
    have z1 := Lib.cell_of_heap y0 1
    have z2 := Lib.cell_of_heap y1 0
    have z3 := Lib.cell_of_heap y1 1
    simp only [List.getElem?_toArray, List.getElem?_cons_zero, List.getElem?_cons_succ] at z0 z1 z2 z3
    have zl := (Array.getElem?_eq_some_iff.1 y0).1
    have zl1 := (Array.getElem?_eq_some_iff.1 y1).1
    clear y0 y1
    go_wp2_with fail
    refine (HF1.out w6).mono ?_
    rintro e w7 ⟨rfl, hb7⟩
    have HB7 := Lib.hid (HB6.out.trans (hb7.mono HB6.out.size))
    have v2 := (hb7.cell (p := ⟨_, 0, none⟩) zl1).trans z2
    have v3 := (hb7.cell (p := ⟨_, 1, none⟩) zl1).trans z3
    have vl := Nat.lt_of_lt_of_le zl1 hb7.size
    clear hb7 z0 z1 z2 z3 zl zl1
    go_wp2_with fail
    refine (HF2.out _).mono ?_
    rintro e w8 ⟨rfl, hb8⟩
    have HB8 := Lib.hid ((HB7.out.alloc HB7.out.size (.cells #[.int .i64 r] 3)).trans (hb8.mono (by have := HB7.out.size; simp; omega)))
    have hr8 : Hid (w8.heap[w7.heap.size]? = some (.cells #[.int .i64 r] 3 (0, 0))) := (hb8.block _ (by simp)).trans (hp_topA rfl)
    have hs8 : Hid (w7.heap.size < w8.heap.size) := (Array.getElem?_eq_some_iff.1 hr8.out).1
    have HB9 : Hid (Below W3.heap.size W3 (w8.alloc (.cells #[.int .i64 s] 3))) := HB8.out.alloc HB8.out.size _
    have HC0 := Lib.hid (clo189_any (w := w8.alloc (.cells #[.int .i64 s] 3)) (br := w7.heap.size) (bb := w.heap.size + 1) (bs := w8.heap.size) (ba := w.heap.size) ((Below.heap_alloc _ _ _ hs8.out).trans hr8.out) (HX0.out _ HB9.out).2 (hp_topA rfl) (HX0.out _ HB9.out).1 HS1.out HS2.out)
    have HFI := Lib.hid (first146_any (n - m) c (cmpI (r * q) (s * p)) 189 _ (w8.alloc (.cells #[.int .i64 s] 3)) (ent_of Tryz.func189 (by kernel_rfl) (by kernel_rfl)) HC0.out)
    have hmf : ∀ (fn : Fn) (first cap : Array Value) (w : World), (Instr.makeFunc fn first cap).run Tryz.prog w = .ok (.func fn first cap) w := fun _ _ _ _ => by simp [Instr.makeFunc, go_sem]
    clear hb8
    go_wp2_with fail
    refine HFI.out.mono ?_
    rintro e w10 ⟨rfl, hb10⟩
    have HBX : Hid (Below w.heap.size w w10) := HB3.out.trans ((HB9.out.trans (hb10.mono HB9.out.size)).mono HB3.out.size)
    obtain ⟨f, hf⟩ : ∃ f, (if cmpI (n - m) c = 0 then cmpI (r * q) (s * p) else cmpI (n - m) c) = f := ⟨_, rfl⟩
    rw [hf] at HKK ⊢
    clear hf hb10 v2 v3 vl hmf
    cases st with
    | true =>
      go_wp2_with fail
      all_goals go_ret2
      all_goals exact ⟨by rw [HKK.out]; simp_all, HBX.out⟩
    | false =>
      go_wp2_with fail
      all_goals go_ret2
      all_goals exact ⟨by rw [HKK.out]; simp_all, HBX.out⟩
end Go.Proofs.YtockinpjfhhkoaaGreatDoor
