/- The parser walked: what is thrown is caught (Parse's deferred closure). -/
import Derived.Test.YtpgdplmndnopbaaGreatDoorMgF
import Derived.Recover
import Derived.Deep.RegionHeld3
namespace Go.Proofs.YtpgdplmndnopbaaGreatDoor
open Go.RowKit
set_option maxRecDepth 100000 in
set_option maxHeartbeats 4000000 in
theorem clo43_idle (a b c : Value) (w : World) :
 CallsD Tryz.prog 43 #[a, b, c] .returning w fun e u' w' => e = .returned (.tuple #[]) ∧ u' = .returning ∧ w' = w := by
 refine callsD_of_wpS Tryz.func43 rfl fun c₀ cs hu => ?_
 simp only [Tryz.ntmps43, List.size_toArray, List.length_cons, List.length_nil, Nat.reduceAdd, Nat.reduceSub, Array.replicate_succ, Array.replicate_zero, List.push_toArray, List.append_toArray, List.nil_append, List.cons_append]
 apply wpS_seq
 apply wpS_region
 simp [wpOpsS, go_sem, recoverD, hu, Exit.thenS]
 refine wpS_of_wp ?_
 go_wp2_with fail
 cases c₀
 simp_all [bodyPostS, results, Tryz.results43]
theorem Below.set8 {B : Nat} {w w' : World} (h : Below B w w') {g : Nat} (hg : B ≤ g) (y0 y1 y2 y3 y4 y5 y6 y7 : Value) : Below B w (set8 w' g y0 y1 y2 y3 y4 y5 y6 y7) :=
 ((((((((h.setCell (p := ⟨g, 0, none⟩) hg y0).setCell (p := ⟨g, 1, none⟩) hg y1).setCell (p := ⟨g, 2, none⟩) hg y2).setCell (p := ⟨g, 3, none⟩) hg y3).setCell (p := ⟨g, 4, none⟩) hg y4).setCell (p := ⟨g, 5, none⟩) hg y5).setCell (p := ⟨g, 6, none⟩) hg y6).setCell (p := ⟨g, 7, none⟩) hg y7)
theorem drewh (w : World) : w.drew.heap = w.heap := rfl
theorem assert77 (v : Value) (W : World) : (Instr.typeAssert (.iface 77 v) 20 77 true).run Tryz.prog W = .ok (.tuple #[v, .bool true]) W := by kernel_rfl
def Caught (k4 k5 k6 : Nat) (c at_ : Int) (w w' : World) : Prop :=
 w'.heap[k4]? = some (.cells #[.int .u8 0, .slice none 0 0, .slice none 0 0, .int .i64 0, .bool false, .int .i64 0, .bool false, .bool false] 28 (0, 0)) ∧
  w'.heap[k5]? = some (.cells #[.int .i64 at_] 3 (0, 0)) ∧ w'.heap[k6]? = some (.cells #[.int .i64 c] 32 (0, 0)) ∧
  w'.os = w.os ∧ w'.tape = w.tape ∧ w'.output = w.output ∧ w.heap.size ≤ w'.heap.size ∧ ∀ k, k < w.heap.size → k ≠ k4 → k ≠ k5 → k ≠ k6 → w'.heap[k]? = w.heap[k]?
set_option maxRecDepth 100000 in
set_option maxHeartbeats 8000000 in
theorem clo43_caught (k4 k5 k6 : Nat) (x0 x1 x2 x3 x4 x5 x6 x7 y z : Value) (c at_ : Int) (w : World)
 (h4 : w.heap[k4]? = some (.cells #[x0, x1, x2, x3, x4, x5, x6, x7] 28 (0, 0))) (h5 : w.heap[k5]? = some (.cells #[y] 3 (0, 0))) (h6 : w.heap[k6]? = some (.cells #[z] 32 (0, 0))) (h45 : k4 ≠ k5) (h46 : k4 ≠ k6) (h56 : k5 ≠ k6) :
 CallsD Tryz.prog 43 #[.pointer (some ⟨k4, 0, none⟩), .pointer (some ⟨k5, 0, none⟩), .pointer (some ⟨k6, 0, none⟩)] (.panicking (thr c at_)) w fun e u' w' =>
  e = .returned (.tuple #[]) ∧ u' = .panicking [{ v := .iface 77 (.agg #[.int .i64 c, .int .i64 at_]), recovered := true }] ∧ Caught k4 k5 k6 c at_ w w' := by
 obtain ⟨WA, hWA⟩ : ∃ WA, WA = w.alloc (.cells #[.int .i64 c, .int .i64 at_] 77) := ⟨_, rfl⟩
 have l4 := (Array.getElem?_eq_some_iff.1 h4).1
 have l5 := (Array.getElem?_eq_some_iff.1 h5).1
 have l6 := (Array.getElem?_eq_some_iff.1 h6).1
 have g4 : WA.heap[k4]? = some (.cells #[x0, x1, x2, x3, x4, x5, x6, x7] 28 (0, 0)) := by rw [hWA]; exact hp_in h4
 have g5 : WA.heap[k5]? = some (.cells #[y] 3 (0, 0)) := by rw [hWA]; exact hp_in h5
 have g6 : WA.heap[k6]? = some (.cells #[z] 32 (0, 0)) := by rw [hWA]; exact hp_in h6
 have gb : WA.heap[w.heap.size]? = some (.cells #[.int .i64 c, .int .i64 at_] 77 (0, 0)) := by rw [hWA]; exact hp_top rfl
 have gz : WA.heap.size = w.heap.size + 1 := by rw [hWA]; simp
 obtain ⟨W1, hW1⟩ : ∃ W1, W1 = (set8 WA k4 (.int .u8 0) (.slice none 0 0) (.slice none 0 0) (.int .i64 0) (.bool false) (.int .i64 0) (.bool false) (.bool false)).drew := ⟨_, rfl⟩
 obtain ⟨W2, hW2⟩ : ∃ W2, W2 = W1.setCell ⟨k5, 0, none⟩ (.int .i64 at_) := ⟨_, rfl⟩
 obtain ⟨W3, hW3⟩ : ∃ W3, W3 = W2.setCell ⟨k6, 0, none⟩ (.int .i64 c) := ⟨_, rfl⟩
 have o1 : ∀ j, j ≠ k4 → W1.heap[j]? = WA.heap[j]? := fun j hj => by rw [hW1, drewh]; exact set8_other _ _ _ _ _ _ _ _ _ _ _ hj
 have o2 : ∀ j, j ≠ k5 → W2.heap[j]? = W1.heap[j]? := fun j hj => by rw [hW2]; exact setCell_other' _ _ _ _ _ hj
 have o3 : ∀ j, j ≠ k6 → W3.heap[j]? = W2.heap[j]? := fun j hj => by rw [hW3]; exact setCell_other' _ _ _ _ _ hj
 have a1 : W1.heap[k4]? = some (.cells #[.int .u8 0, .slice none 0 0, .slice none 0 0, .int .i64 0, .bool false, .int .i64 0, .bool false, .bool false] 28 (0, 0)) := by rw [hW1, drewh]; exact set8_at g4 _ _ _ _ _ _ _ _
 have a15 : W1.heap[k5]? = some (.cells #[y] 3 (0, 0)) := (o1 _ h45.symm).trans g5
 have a2 : W2.heap[k5]? = some (.cells #[.int .i64 at_] 3 (0, 0)) := by rw [hW2]; exact setCell_at a15 0 _
 have a26 : W2.heap[k6]? = some (.cells #[z] 32 (0, 0)) := (o2 _ h56.symm).trans ((o1 _ h46.symm).trans g6)
 have a3 : W3.heap[k6]? = some (.cells #[.int .i64 c] 32 (0, 0)) := by rw [hW3]; exact setCell_at a26 0 _
 have z3 : W3.heap.size = w.heap.size + 1 := by rw [hW3, hW2, hW1]; simp only [World.setCell, Array.size_modify, drewh, set8_size]; exact gz
 have hB3 : Below 0 w W3 := by
  rw [hW3, hW2, hW1, hWA]
  exact ((Below.set8 ((Below.refl 0 w).alloc (Nat.zero_le _) _) (Nat.zero_le _) _ _ _ _ _ _ _ _).drew.setCell (p := ⟨k5, 0, none⟩) (Nat.zero_le _) _).setCell (p := ⟨k6, 0, none⟩) (Nat.zero_le _) _
 have HEND : Hid (Caught k4 k5 k6 c at_ w W3) := by
  refine ⟨(o3 _ h46).trans ((o2 _ h45).trans a1), (o3 _ h56).trans a2, a3, hB3.os, hB3.tape, hB3.output, by omega, fun k hk n4 n5 n6 => ?_⟩
  ·rw [o3 _ n6, o2 _ n5, o1 _ n4, hWA]; exact Lib.alloc_old _ _ _ hk
 have HSA : Hid (WA.cell? ⟨w.heap.size, 0, none⟩ = some (.int .i64 c) ∧ WA.cell? ⟨w.heap.size, 1, none⟩ = some (.int .i64 at_)) := ⟨Lib.cell_of_heap gb 0, Lib.cell_of_heap gb 1⟩
 have b1 := (o1 w.heap.size (by omega)).trans gb
 have b2 := (o2 w.heap.size (by omega)).trans b1
 have b3 := (o3 w.heap.size (by omega)).trans b2
 have HS1 : Hid (W1.cell? ⟨w.heap.size, 0, none⟩ = some (.int .i64 c) ∧ W1.cell? ⟨w.heap.size, 1, none⟩ = some (.int .i64 at_)) := ⟨Lib.cell_of_heap b1 0, Lib.cell_of_heap b1 1⟩
 have HS2 : Hid (W2.cell? ⟨w.heap.size, 0, none⟩ = some (.int .i64 c) ∧ W2.cell? ⟨w.heap.size, 1, none⟩ = some (.int .i64 at_)) := ⟨Lib.cell_of_heap b2 0, Lib.cell_of_heap b2 1⟩
 have HS3 : Hid (W3.cell? ⟨w.heap.size, 0, none⟩ = some (.int .i64 c) ∧ W3.cell? ⟨w.heap.size, 1, none⟩ = some (.int .i64 at_)) := ⟨Lib.cell_of_heap b3 0, Lib.cell_of_heap b3 1⟩
 have H4 : Hid (WA.heap[k4]? = some (.cells #[x0, x1, x2, x3, x4, x5, x6, x7] 28 (0, 0))) := g4
 have H5 := Lib.hid a15
 have H6 := Lib.hid a26
 have HWA := Lib.hid hWA.symm
 have HW1 : Hid ((set8 WA k4 (.int .u8 0) (.slice none 0 0) (.slice none 0 0) (.int .i64 0) (.bool false) (.int .i64 0) (.bool false) (.bool false)).drew = W1) := hW1.symm
 have HW2 : Hid (W1.setCell ⟨k5, 0, none⟩ (.int .i64 at_) = W2) := hW2.symm
 have HW3 : Hid (W2.setCell ⟨k6, 0, none⟩ (.int .i64 c) = W3) := hW3.symm
 have hta := assert77 (.agg #[.int .i64 c, .int .i64 at_])
 clear hWA h4 h5 h6 h45 h46 h56 l4 l5 l6 g4 g5 g6 gb gz hW1 hW2 hW3 o1 o2 o3 a1 a15 a2 a26 a3 z3 hB3 b1 b2 b3
 refine callsD_of_wpS Tryz.func43 rfl fun c₀ cs hu => ?_
 simp only [Tryz.ntmps43, List.size_toArray, List.length_cons, List.length_nil, Nat.reduceAdd, Nat.reduceSub, Array.replicate_succ, Array.replicate_zero, List.push_toArray, List.append_toArray, List.nil_append, List.cons_append]
 apply wpS_seq
 apply wpS_region
 simp [wpOpsS, go_sem, recoverD, hu, thr, Exit.thenS]
 refine wpS_of_wp ?_
 go_wp2_with fail
 rw [HWA.out]
 clear HWA
 refine wp_region_held_drew (S := fun W => W.cell? ⟨w.heap.size, 0, none⟩ = some (.int .i64 c) ∧ W.cell? ⟨w.heap.size, 1, none⟩ = some (.int .i64 at_)) (by kernel_rfl) HSA.out (fun hHeld => ?_)
 refine wpAnyH_take (i := 0) (v := ?_) rfl (by kernel_rfl) (by kernel_rfl) (by kernel_rfl) (fun _ _ _ h => h) (Or.inl ⟨by kernel_rfl, ?_⟩) (by assumption) ?_
 rotate_left
 ·(intro w hSw; obtain ⟨s1, s2⟩ := hSw; go_simp)
  with_reducible rfl
 try simp only [Act.put, List.setIfInBounds_toArray]
 refine wpAnyH_take (i := 1) (v := ?_) rfl (by kernel_rfl) (by kernel_rfl) (by kernel_rfl) (fun _ _ _ h => h) (Or.inl ⟨by kernel_rfl, ?_⟩) (by assumption) ?_
 rotate_left
 ·(intro w hSw; obtain ⟨s1, s2⟩ := hSw; go_simp)
  with_reducible rfl
 try simp only [Act.put]
 refine wpAnyH_take (i := 2) (v := ?_) rfl (by kernel_rfl) (by kernel_rfl) (by kernel_rfl) (fun _ _ _ h => h) (Or.inl ⟨by kernel_rfl, ?_⟩) (by assumption) ?_
 rotate_left
 ·(intro w hSw; obtain ⟨s1, s2⟩ := hSw; go_simp)
  with_reducible rfl
 try simp only [Act.put]
 refine wpAnyH_take (i := 3) (v := ?_) rfl (by kernel_rfl) (by kernel_rfl) (by kernel_rfl) (fun _ _ _ h => h) (Or.inl ⟨by kernel_rfl, ?_⟩) (by assumption) ?_
 rotate_left
 ·(intro w hSw; obtain ⟨s1, s2⟩ := hSw; go_simp)
  with_reducible rfl
 try simp only [Act.put]
 refine wpAnyH_take (i := 4) (v := ?_) rfl (by kernel_rfl) (by kernel_rfl) (by kernel_rfl) (fun _ _ _ h => h) (Or.inl ⟨by kernel_rfl, ?_⟩) (by assumption) ?_
 rotate_left
 ·(intro w hSw; obtain ⟨s1, s2⟩ := hSw; go_simp)
  with_reducible rfl
 try simp only [Act.put]
 have hk4 := H4.out
 have e0 := Lib.cell_of_heap hk4 0
 have e1 := Lib.cell_of_heap hk4 1
 have e2 := Lib.cell_of_heap hk4 2
 have e3 := Lib.cell_of_heap hk4 3
 have e4 := Lib.cell_of_heap hk4 4
 have e5 := Lib.cell_of_heap hk4 5
 have e6 := Lib.cell_of_heap hk4 6
 have e7 := Lib.cell_of_heap hk4 7
 have f0 := Lib.frozen_of_heap hk4 0
 have f1 := Lib.frozen_of_heap hk4 1
 have f2 := Lib.frozen_of_heap hk4 2
 have f3 := Lib.frozen_of_heap hk4 3
 have f4 := Lib.frozen_of_heap hk4 4
 have f5 := Lib.frozen_of_heap hk4 5
 have f6 := Lib.frozen_of_heap hk4 6
 have f7 := Lib.frozen_of_heap hk4 7
 simp only [List.getElem?_toArray, List.getElem?_cons_zero, List.getElem?_cons_succ] at e0 e1 e2 e3 e4 e5 e6 e7
 clear hk4
 refine wpAnyH_ready (rs := [5]) (by kernel_rfl) (by simp) ?_
 refine AllReadyH.cons rfl (fun K0 hK => ?_) AllReadyH.nil
 go_simp
 have hw := HW1.out
 unfold set8 at hw
 rw [hw]
 clear hw e0 e1 e2 e3 e4 e5 e6 e7 f0 f1 f2 f3 f4 f5 f6 f7 HW1
 refine hK.out _ _ HS1.out (fun _ => ?_)
 clear hK K0
 try simp only [Act.put, List.setIfInBounds_toArray, List.set_cons_zero, List.set_cons_succ]
 have hk5 := H5.out
 have e0 := Lib.cell_of_heap hk5 0
 have f0 := Lib.frozen_of_heap hk5 0
 simp only [List.getElem?_toArray, List.getElem?_cons_zero] at e0
 clear hk5
 refine wpAnyH_ready (rs := [6]) (by kernel_rfl) (by simp) ?_
 refine AllReadyH.cons rfl (fun K0 hK => ?_) AllReadyH.nil
 go_simp
 rw [HW2.out]
 clear e0 f0 HW2
 refine hK.out _ _ HS2.out (fun _ => ?_)
 clear hK K0
 try simp only [Act.put, List.setIfInBounds_toArray, List.set_cons_zero, List.set_cons_succ]
 have hk6 := H6.out
 have e0 := Lib.cell_of_heap hk6 0
 have f0 := Lib.frozen_of_heap hk6 0
 simp only [List.getElem?_toArray, List.getElem?_cons_zero] at e0
 clear hk6
 refine wpAnyH_ready (rs := [7]) (by kernel_rfl) (by simp) ?_
 refine AllReadyH.cons rfl (fun K0 hK => ?_) AllReadyH.nil
 go_simp
 rw [HW3.out]
 clear e0 f0 HW3
 refine hK.out _ _ HS3.out (fun _ => ?_)
 clear hK K0
 try simp only [Act.put, List.setIfInBounds_toArray, List.set_cons_zero, List.set_cons_succ]
 refine wpAnyH_done (by kernel_rfl) ?_ _
 go_wp2_with fail
 have hend := HEND.out
 clear HEND HSA HS1 HS2 HS3 H4 H5 H6 hta
 cases c₀
 simp_all [bodyPostS, results, Tryz.results43]
end Go.Proofs.YtpgdplmndnopbaaGreatDoor