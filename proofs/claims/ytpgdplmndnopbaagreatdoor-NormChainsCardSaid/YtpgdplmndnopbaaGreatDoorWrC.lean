/- The writer's interval walked. -/
import Derived.Test.YtpgdplmndnopbaaGreatDoorWrD
import Derived.Test.YtpgdplmndnopbaaGreatDoorWrI
namespace Go.Proofs.YtpgdplmndnopbaaGreatDoor
open Go.RowKit
set_option maxRecDepth 100000 in
theorem pick126_any (is : Bool) (o s : ByteArray) (w : World) :
 Calls Tryz.prog 126 #[.bool is, .string o, .string s] w fun e w' => e = .returned (.string (if is then o else s)) ∧ w' = w := by
 cases is
 all_goals
  go_enter Tryz.func126, Tryz.ntmps126
  go_wp2_with fail
  all_goals go_ret
  all_goals exact ⟨rfl, rfl⟩
theorem Wrote.below {B b : Nat} {bs : List Value} {w w' w'' : World} (h : Wrote B b bs w w') (hb : Below w'.heap.size w' w'') : Wrote B b bs w w'' := by
 have hl := Wr.lt h.1
 refine ⟨?_, h.2.1.trans (hb.mono (by omega)), fun k o hk hkb ho => ?_⟩
 ·have key : ∀ p, Lib.BuilderAtF 69 5 B b p bs w' → Lib.BuilderAtF 69 5 B b p bs w'' := by
   rintro p ⟨hB, v, h1, h2, h3⟩
   refine ⟨hB, v, ?_, ?_, h3⟩
   ·rw [hb.block b (Array.getElem?_eq_some_iff.1 h1).1]; exact h1
   ·exact World.ownsRowF.kept h2 (row := none) ⟨hb.os, hb.tape, hb.output, hb.size, fun j hj _ => hb.block j hj⟩ (by cases hv : v.ownBlock <;> simp)
  exact h.1.elim (fun x => .inl (key _ x)) (fun x => .inr (key _ x))
 ·have := h.2.2 k o hk hkb ho
  rw [hb.block k (Array.getElem?_eq_some_iff.1 this).1]; exact this
theorem rowD (w : World) (A : Obj) : (w.alloc A).drew.heap[w.heap.size]? = some A := Array.getElem?_push_size
def ivA (i : Spn) : List UInt8 := (if i.ls then [40] else [91]) ++ Lib.itoa i.low ++ [44]
def ivB (i : Spn) : List UInt8 := if i.op then [111, 111, 41] else Lib.itoa i.high ++ (if i.hs then [41] else [93])
theorem ivAB (i : Spn) : prI Lib.itoa i = ivA i ++ ivB i := rfl
theorem ivA_cells (lo hi : Int) (ls hs op : Bool) : [(if ls then (⟨#[40]⟩ : ByteArray) else ⟨#[91]⟩), ⟨(Lib.itoa lo).toArray⟩, ⟨#[44]⟩].flatMap Lib.strCells = Lib.byteCells (ivA ⟨lo, ls, hi, hs, op⟩) := by
 cases ls <;> simp [ivA, Lib.strCells, Lib.byteCells]
theorem ivB_cells (lo hi : Int) (ls hs : Bool) : [⟨(Lib.itoa hi).toArray⟩, (if hs then (⟨#[41]⟩ : ByteArray) else ⟨#[93]⟩)].flatMap Lib.strCells = Lib.byteCells (ivB ⟨lo, ls, hi, hs, false⟩) := by
 cases hs <;> simp [ivB, Lib.strCells, Lib.byteCells]
set_option maxRecDepth 100000 in
set_option maxHeartbeats 8000000 in
theorem interval80_any (B b : Nat) (lo hi : Int) (ls hs op : Bool) (bs : List Value) (w : World) (h : Wr B b bs w) (hr : Rdy w) (hB : 4 ≤ B) (h1 : -9223372036854775808 ≤ lo) (h2 : lo ≤ 9223372036854775807) (h3 : -9223372036854775808 ≤ hi) (h4 : hi ≤ 9223372036854775807)
 (hlen : bs.length + (prI Lib.itoa ⟨lo, ls, hi, hs, op⟩).length ≤ 140737488355328) :
 Calls Tryz.prog 80 #[.pointer (some ⟨b, 0, none⟩), .agg #[.int .i64 lo, .bool ls, .int .i64 hi, .bool hs, .bool op]] w fun e w' => e = .returned (.tuple #[]) ∧ Wrote B b (bs ++ Lib.byteCells (prI Lib.itoa ⟨lo, ls, hi, hs, op⟩)) w w' := by
 rw [ivAB, bytes_app, ← List.append_assoc]
 have hll : (prI Lib.itoa ⟨lo, ls, hi, hs, op⟩).length = (ivA ⟨lo, ls, hi, hs, op⟩).length + (ivB ⟨lo, ls, hi, hs, op⟩).length := by rw [ivAB, List.length_append]
 rw [hll] at hlen
 obtain ⟨Z, hZ⟩ : ∃ Z, Z = w.heap.size := ⟨_, rfl⟩
 obtain ⟨P1, hP1⟩ : ∃ P1, P1 = if ls then (⟨#[40]⟩ : ByteArray) else ⟨#[91]⟩ := ⟨_, rfl⟩
 obtain ⟨P2, hP2⟩ : ∃ P2, P2 = if hs then (⟨#[41]⟩ : ByteArray) else ⟨#[93]⟩ := ⟨_, rfl⟩
 have HK1 : Hid (∀ W, Calls Tryz.prog 126 #[.bool ls, .string ⟨#[40]⟩, .string ⟨#[91]⟩] W fun e w' => e = .returned (.string P1) ∧ w' = W) := fun W => by rw [hP1]; exact pick126_any _ _ _ _
 have HK2 : Hid (∀ W, Calls Tryz.prog 126 #[.bool hs, .string ⟨#[41]⟩, .string ⟨#[93]⟩] W fun e w' => e = .returned (.string P2) ∧ w' = W) := fun W => by rw [hP2]; exact pick126_any _ _ _ _
 obtain ⟨W0, hW0⟩ : ∃ W0, W0 = w.alloc (.cells #[.int .i64 lo, .bool ls, .int .i64 hi, .bool hs, .bool op] 26) := ⟨_, rfl⟩
 have hw0 : Wrote B b bs w W0 := by rw [hW0]; exact h.wrote.alloc _
 have hx : W0.heap[Z]? = some (.cells #[.int .i64 lo, .bool ls, .int .i64 hi, .bool hs, .bool op] 26 (0, 0)) := by rw [hW0, hZ]; exact Array.getElem?_push_size
 have hne := hw0.1.ne hx (by decide)
 have HS : Hid (∀ W bs', Wrote B b bs' W0 W → W.cell? ⟨Z, 0, none⟩ = some (.int .i64 lo) ∧ W.cell? ⟨Z, 1, none⟩ = some (.bool ls) ∧ W.cell? ⟨Z, 2, none⟩ = some (.int .i64 hi) ∧ W.cell? ⟨Z, 3, none⟩ = some (.bool hs) ∧ W.cell? ⟨Z, 4, none⟩ = some (.bool op)) := by
  intro W bs' hW
  have e := hW.kept hx hne (by decide)
  exact ⟨Lib.cell_of_heap e 0, Lib.cell_of_heap e 1, Lib.cell_of_heap e 2, Lib.cell_of_heap e 3, Lib.cell_of_heap e 4⟩
 have HRD : Hid (∀ W bs', Wrote B b bs' W0 W → Rdy W) := fun W bs' hW => Rdy.belowB hB hr (hw0.trans hW).2.1
 have HT1 : Hid (∀ W, Rdy W → Calls Tryz.prog 127 #[.int .i64 lo] W fun e w' => e = .returned (.string ⟨(Lib.itoa lo).toArray⟩) ∧ Below W.heap.size W w') := fun W h => itoa127_any lo h1 h2 W h
 have HT2 : Hid (∀ W, Rdy W → Calls Tryz.prog 127 #[.int .i64 hi] W fun e w' => e = .returned (.string ⟨(Lib.itoa hi).toArray⟩) ∧ Below W.heap.size W w') := fun W h => itoa127_any hi h3 h4 W h
 have HP1 : Hid (∀ (W : World) (g : Nat), Wrote B b bs W0 W → W.heap[g]? = some (.cells #[.string P1, .string ⟨(Lib.itoa lo).toArray⟩, .string ⟨#[44]⟩] 9 (0, 0)) →
  Calls Tryz.prog 79 #[.pointer (some ⟨b, 0, none⟩), .slice (some ⟨g, 0, none⟩) 3 3] W fun e w' => e = .returned (.tuple #[]) ∧ Wrote B b (bs ++ Lib.byteCells (ivA ⟨lo, ls, hi, hs, op⟩)) W0 w') := by
  intro W g hW hg
  rw [hP1] at hg
  have hc := ivA_cells lo hi ls hs op
  refine (put79_any B b g [(if ls then (⟨#[40]⟩ : ByteArray) else ⟨#[91]⟩), ⟨(Lib.itoa lo).toArray⟩, ⟨#[44]⟩] bs W hW.1 hg (by rw [← flat_len, hc, Lib.byteCells_length]; omega) (by simp)).mono ?_
  rintro e w' ⟨rfl, hw⟩
  rw [hc] at hw
  exact ⟨rfl, hW.trans hw⟩
 have H0 := Lib.hid hw0
 have hself : Wrote B b bs W0 W0 := hw0.1.wrote
 have HL := Lib.hid hlen
 clear hr h hw0 hx hne h1 h2 h3 h4 hlen hll
 cases op
 ·have HP2 : Hid (∀ (W : World) (g : Nat), Wrote B b (bs ++ Lib.byteCells (ivA ⟨lo, ls, hi, hs, false⟩)) W0 W → W.heap[g]? = some (.cells #[.string ⟨(Lib.itoa hi).toArray⟩, .string P2] 9 (0, 0)) →
   Calls Tryz.prog 79 #[.pointer (some ⟨b, 0, none⟩), .slice (some ⟨g, 0, none⟩) 2 2] W fun e w' => e = .returned (.tuple #[]) ∧ Wrote B b (bs ++ Lib.byteCells (ivA ⟨lo, ls, hi, hs, false⟩) ++ Lib.byteCells (ivB ⟨lo, ls, hi, hs, false⟩)) W0 w') := by
   intro W g hW hg
   rw [hP2] at hg
   have hc := ivB_cells lo hi ls hs
   refine (put79_any B b g [⟨(Lib.itoa hi).toArray⟩, (if hs then (⟨#[41]⟩ : ByteArray) else ⟨#[93]⟩)] _ W hW.1 hg (by rw [← flat_len, hc, Lib.byteCells_length, List.length_append, Lib.byteCells_length]; have := HL.out; omega) (by simp)).mono ?_
   rintro e w' ⟨rfl, hw⟩
   rw [hc] at hw
   exact ⟨rfl, hW.trans hw⟩
  obtain ⟨z0, z1, z2, z3, z4⟩ := HS.out _ _ hself
  go_enter Tryz.func80, Tryz.ntmps80
  go_wp2_with fail
  rw [← hW0, ← hZ]
  clear hW0 hZ hP1 hP2
  refine wp_region_held_drew (S := fun w' => w'.cell? ⟨Z, 0, none⟩ = some (.int .i64 lo) ∧ w'.cell? ⟨Z, 1, none⟩ = some (.bool ls) ∧ w'.cell? ⟨Z, 2, none⟩ = some (.int .i64 hi) ∧ w'.cell? ⟨Z, 3, none⟩ = some (.bool hs) ∧ w'.cell? ⟨Z, 4, none⟩ = some (.bool false)) (by kernel_rfl) (HS.out _ _ hself.drew) (fun hHeld => ?_)
  refine wpAnyH_take (i := 0) (v := ?_) rfl (by kernel_rfl) (by kernel_rfl) (by kernel_rfl) (fun _ _ _ h => h) (Or.inl ⟨by kernel_rfl, ?_⟩) (by assumption) ?_
  rotate_left
  ·(intro w hSw; (try dsimp only at hSw); go_simp)
   with_reducible rfl
  try simp only [Act.put, List.setIfInBounds_toArray]
  refine wpAnyH_take (i := 1) (v := ?_) rfl (by kernel_rfl) (by kernel_rfl) (by kernel_rfl) (fun _ _ _ h => h) (Or.inl ⟨by kernel_rfl, ?_⟩) (by assumption) ?_
  rotate_left
  ·(intro w hSw; (try dsimp only at hSw); go_simp)
   with_reducible rfl
  try simp only [Act.put]
  refine wpAnyH_take (i := 2) (v := ?_) rfl (by kernel_rfl) (by kernel_rfl) (by kernel_rfl) (fun _ _ _ h => h) (Or.inl ⟨by kernel_rfl, ?_⟩) (by assumption) ?_
  rotate_left
  ·(intro w hSw; (try dsimp only at hSw); go_simp)
   with_reducible rfl
  try simp only [Act.put]
  refine wpAnyH_take (i := 4) (v := ?_) rfl (by kernel_rfl) (by kernel_rfl) (by kernel_rfl) (fun _ _ _ h => h) (Or.inl ⟨by kernel_rfl, ?_⟩) (by assumption) ?_
  rotate_left
  ·(intro w hSw; (try dsimp only at hSw); go_simp)
   with_reducible rfl
  try simp only [Act.put]
  refine wpAnyH_take (i := 5) (v := ?_) rfl (by kernel_rfl) (by kernel_rfl) (by kernel_rfl) (fun _ _ _ h => h) (Or.inl ⟨by kernel_rfl, ?_⟩) (by assumption) ?_
  rotate_left
  ·(intro w hSw; (try dsimp only at hSw); go_simp)
   with_reducible rfl
  try simp only [Act.put]
  refine wpAnyH_ready (rs := [3]) (by kernel_rfl) (by simp) ?_
  refine AllReadyH.cons rfl (fun K hK => ?_) AllReadyH.nil
  go_simp
  go_at_call 126
  refine (HK1.out _).mono ?_
  rintro e wy ⟨rfl, rfl⟩
  dsimp only
  refine hK.out _ _ (HS.out _ _ (show Wrote B b bs W0 _ by repeat (first | assumption | refine Wrote.drew ?_ | refine Wrote.alloc ?_ _))) (fun hHeld => ?_)
  clear hK K
  try simp only [Act.put, List.setIfInBounds_toArray, List.set_cons_zero, List.set_cons_succ]
  refine wpAnyH_ready (rs := [6]) (by kernel_rfl) (by simp) ?_
  refine AllReadyH.cons rfl (fun K hK => ?_) AllReadyH.nil
  go_simp
  go_at_call 127
  refine (HT1.out _ (HRD.out _ bs (by repeat (first | assumption | refine Wrote.drew ?_ | refine Wrote.alloc ?_ _)))).mono ?_
  rintro e wy ⟨rfl, hby⟩
  have hwy : Wrote B b bs W0 wy := Wrote.below (by repeat (first | assumption | refine Wrote.drew ?_ | refine Wrote.alloc ?_ _)) hby
  clear hby
  dsimp only
  refine hK.out _ _ (HS.out _ _ (show Wrote B b bs W0 _ by repeat (first | assumption | refine Wrote.drew ?_ | refine Wrote.alloc ?_ _))) (fun hHeld => ?_)
  clear hK K
  try simp only [Act.put, List.setIfInBounds_toArray, List.set_cons_zero, List.set_cons_succ]
  refine wpAnyH_ready (rs := [7]) (by kernel_rfl) (by simp) ?_
  refine AllReadyH.cons rfl (fun K hK => ?_) AllReadyH.nil
  go_simp
  refine hK.out _ _ (HS.out _ _ (show Wrote B b bs W0 _ by repeat (first | assumption | refine Wrote.drew ?_ | refine Wrote.alloc ?_ _))) (fun hHeld => ?_)
  clear hK K
  try simp only [Act.put, List.setIfInBounds_toArray, List.set_cons_zero, List.set_cons_succ]
  refine wpAnyH_ready (rs := [8]) (by kernel_rfl) (by simp) ?_
  refine AllReadyH.cons rfl (fun K hK => ?_) AllReadyH.nil
  go_simp
  go_at_call 79
  refine (HP1.out _ _ (by repeat (first | assumption | refine Wrote.drew ?_ | refine Wrote.alloc ?_ _)) (by first | exact Array.getElem?_push_size | exact rowD _ _)).mono ?_
  rintro e wz ⟨rfl, hwz⟩
  dsimp only
  refine hK.out _ _ (HS.out _ _ hwz) (fun hHeld => ?_)
  clear hK K
  try simp only [Act.put, List.setIfInBounds_toArray, List.set_cons_zero, List.set_cons_succ]
  refine wpAnyH_done (by kernel_rfl) ?_ _
  obtain ⟨z0, z1, z2, z3, z4⟩ := HS.out _ _ hwz
  have HZ := Lib.hid hwz
  have hself2 : Wrote B b (bs ++ Lib.byteCells (ivA ⟨lo, ls, hi, hs, false⟩)) W0 wz := hwz
  go_wp2_with fail
  refine wp_region_held_drew (S := fun w' => w'.cell? ⟨Z, 0, none⟩ = some (.int .i64 lo) ∧ w'.cell? ⟨Z, 1, none⟩ = some (.bool ls) ∧ w'.cell? ⟨Z, 2, none⟩ = some (.int .i64 hi) ∧ w'.cell? ⟨Z, 3, none⟩ = some (.bool hs) ∧ w'.cell? ⟨Z, 4, none⟩ = some (.bool false)) (by kernel_rfl) (HS.out _ _ hself2.drew) (fun hHeld => ?_)
  refine wpAnyH_take (i := 0) (v := ?_) rfl (by kernel_rfl) (by kernel_rfl) (by kernel_rfl) (fun _ _ _ h => h) (Or.inl ⟨by kernel_rfl, ?_⟩) (by assumption) ?_
  rotate_left
  ·(intro w hSw; (try dsimp only at hSw); go_simp)
   with_reducible rfl
  try simp only [Act.put, List.setIfInBounds_toArray]
  refine wpAnyH_take (i := 1) (v := ?_) rfl (by kernel_rfl) (by kernel_rfl) (by kernel_rfl) (fun _ _ _ h => h) (Or.inl ⟨by kernel_rfl, ?_⟩) (by assumption) ?_
  rotate_left
  ·(intro w hSw; (try dsimp only at hSw); go_simp)
   with_reducible rfl
  try simp only [Act.put]
  refine wpAnyH_take (i := 2) (v := ?_) rfl (by kernel_rfl) (by kernel_rfl) (by kernel_rfl) (fun _ _ _ h => h) (Or.inl ⟨by kernel_rfl, ?_⟩) (by assumption) ?_
  rotate_left
  ·(intro w hSw; (try dsimp only at hSw); go_simp)
   with_reducible rfl
  try simp only [Act.put]
  refine wpAnyH_take (i := 4) (v := ?_) rfl (by kernel_rfl) (by kernel_rfl) (by kernel_rfl) (fun _ _ _ h => h) (Or.inl ⟨by kernel_rfl, ?_⟩) (by assumption) ?_
  rotate_left
  ·(intro w hSw; (try dsimp only at hSw); go_simp)
   with_reducible rfl
  try simp only [Act.put]
  refine wpAnyH_take (i := 5) (v := ?_) rfl (by kernel_rfl) (by kernel_rfl) (by kernel_rfl) (fun _ _ _ h => h) (Or.inl ⟨by kernel_rfl, ?_⟩) (by assumption) ?_
  rotate_left
  ·(intro w hSw; (try dsimp only at hSw); go_simp)
   with_reducible rfl
  try simp only [Act.put]
  refine wpAnyH_ready (rs := [3]) (by kernel_rfl) (by simp) ?_
  refine AllReadyH.cons rfl (fun K hK => ?_) AllReadyH.nil
  go_simp
  go_at_call 127
  refine (HT2.out _ (HRD.out _ (bs ++ Lib.byteCells (ivA ⟨lo, ls, hi, hs, false⟩)) (by repeat (first | assumption | refine Wrote.drew ?_ | refine Wrote.alloc ?_ _)))).mono ?_
  rintro e wu ⟨rfl, hby⟩
  have hwu : Wrote B b (bs ++ Lib.byteCells (ivA ⟨lo, ls, hi, hs, false⟩)) W0 wu := Wrote.below (by repeat (first | assumption | refine Wrote.drew ?_ | refine Wrote.alloc ?_ _)) hby
  clear hby
  dsimp only
  refine hK.out _ _ (HS.out _ _ (show Wrote B b (bs ++ Lib.byteCells (ivA ⟨lo, ls, hi, hs, false⟩)) W0 _ by repeat (first | assumption | refine Wrote.drew ?_ | refine Wrote.alloc ?_ _))) (fun hHeld => ?_)
  clear hK K
  try simp only [Act.put, List.setIfInBounds_toArray, List.set_cons_zero, List.set_cons_succ]
  refine wpAnyH_ready (rs := [6]) (by kernel_rfl) (by simp) ?_
  refine AllReadyH.cons rfl (fun K hK => ?_) AllReadyH.nil
  go_simp
  go_at_call 126
  refine (HK2.out _).mono ?_
  rintro e wy ⟨rfl, rfl⟩
  dsimp only
  refine hK.out _ _ (HS.out _ _ (show Wrote B b (bs ++ Lib.byteCells (ivA ⟨lo, ls, hi, hs, false⟩)) W0 _ by repeat (first | assumption | refine Wrote.drew ?_ | refine Wrote.alloc ?_ _))) (fun hHeld => ?_)
  clear hK K
  try simp only [Act.put, List.setIfInBounds_toArray, List.set_cons_zero, List.set_cons_succ]
  refine wpAnyH_ready (rs := [7]) (by kernel_rfl) (by simp) ?_
  refine AllReadyH.cons rfl (fun K hK => ?_) AllReadyH.nil
  go_simp
  refine hK.out _ _ (HS.out _ _ (show Wrote B b (bs ++ Lib.byteCells (ivA ⟨lo, ls, hi, hs, false⟩)) W0 _ by repeat (first | assumption | refine Wrote.drew ?_ | refine Wrote.alloc ?_ _))) (fun hHeld => ?_)
  clear hK K
  try simp only [Act.put, List.setIfInBounds_toArray, List.set_cons_zero, List.set_cons_succ]
  refine wpAnyH_ready (rs := [8]) (by kernel_rfl) (by simp) ?_
  refine AllReadyH.cons rfl (fun K hK => ?_) AllReadyH.nil
  go_simp
  go_at_call 79
  refine (HP2.out _ _ (by repeat (first | assumption | refine Wrote.drew ?_ | refine Wrote.alloc ?_ _)) (by first | exact Array.getElem?_push_size | exact rowD _ _)).mono ?_
  rintro e wv ⟨rfl, hwz⟩
  dsimp only
  refine hK.out _ _ (HS.out _ _ hwz) (fun hHeld => ?_)
  clear hK K
  try simp only [Act.put, List.setIfInBounds_toArray, List.set_cons_zero, List.set_cons_succ]
  refine wpAnyH_done (by kernel_rfl) ?_ _
  have HV := Lib.hid hwz
  go_wp2_with fail
  all_goals first | go_end0 | refine bodyPost_ret (results_none rfl _ _ _) rfl ?_
  all_goals exact ⟨rfl, by have := H0.out.trans HV.out; simpa only [List.append_assoc] using this⟩
 ·have HP2 : Hid (∀ (W : World) (g : Nat), Wrote B b (bs ++ Lib.byteCells (ivA ⟨lo, ls, hi, hs, true⟩)) W0 W → W.heap[g]? = some (.cells #[.string ⟨#[111, 111, 41]⟩] 9 (0, 0)) →
   Calls Tryz.prog 79 #[.pointer (some ⟨b, 0, none⟩), .slice (some ⟨g, 0, none⟩) 1 1] W fun e w' => e = .returned (.tuple #[]) ∧ Wrote B b (bs ++ Lib.byteCells (ivA ⟨lo, ls, hi, hs, true⟩) ++ Lib.byteCells (ivB ⟨lo, ls, hi, hs, true⟩)) W0 w') :=
   fun W g hW hg => put1 B b _ _ W0 W hW g hg (by have := HL.out; simp only [List.length_append, Lib.byteCells_length]; simpa [ivB, ByteArray.size, Nat.add_assoc] using this)
  obtain ⟨z0, z1, z2, z3, z4⟩ := HS.out _ _ hself
  go_enter Tryz.func80, Tryz.ntmps80
  go_wp2_with fail
  rw [← hW0, ← hZ]
  clear hW0 hZ hP1 hP2
  refine wp_region_held_drew (S := fun w' => w'.cell? ⟨Z, 0, none⟩ = some (.int .i64 lo) ∧ w'.cell? ⟨Z, 1, none⟩ = some (.bool ls) ∧ w'.cell? ⟨Z, 2, none⟩ = some (.int .i64 hi) ∧ w'.cell? ⟨Z, 3, none⟩ = some (.bool hs) ∧ w'.cell? ⟨Z, 4, none⟩ = some (.bool true)) (by kernel_rfl) (HS.out _ _ hself.drew) (fun hHeld => ?_)
  refine wpAnyH_take (i := 0) (v := ?_) rfl (by kernel_rfl) (by kernel_rfl) (by kernel_rfl) (fun _ _ _ h => h) (Or.inl ⟨by kernel_rfl, ?_⟩) (by assumption) ?_
  rotate_left
  ·(intro w hSw; (try dsimp only at hSw); go_simp)
   with_reducible rfl
  try simp only [Act.put, List.setIfInBounds_toArray]
  refine wpAnyH_take (i := 1) (v := ?_) rfl (by kernel_rfl) (by kernel_rfl) (by kernel_rfl) (fun _ _ _ h => h) (Or.inl ⟨by kernel_rfl, ?_⟩) (by assumption) ?_
  rotate_left
  ·(intro w hSw; (try dsimp only at hSw); go_simp)
   with_reducible rfl
  try simp only [Act.put]
  refine wpAnyH_take (i := 2) (v := ?_) rfl (by kernel_rfl) (by kernel_rfl) (by kernel_rfl) (fun _ _ _ h => h) (Or.inl ⟨by kernel_rfl, ?_⟩) (by assumption) ?_
  rotate_left
  ·(intro w hSw; (try dsimp only at hSw); go_simp)
   with_reducible rfl
  try simp only [Act.put]
  refine wpAnyH_take (i := 4) (v := ?_) rfl (by kernel_rfl) (by kernel_rfl) (by kernel_rfl) (fun _ _ _ h => h) (Or.inl ⟨by kernel_rfl, ?_⟩) (by assumption) ?_
  rotate_left
  ·(intro w hSw; (try dsimp only at hSw); go_simp)
   with_reducible rfl
  try simp only [Act.put]
  refine wpAnyH_take (i := 5) (v := ?_) rfl (by kernel_rfl) (by kernel_rfl) (by kernel_rfl) (fun _ _ _ h => h) (Or.inl ⟨by kernel_rfl, ?_⟩) (by assumption) ?_
  rotate_left
  ·(intro w hSw; (try dsimp only at hSw); go_simp)
   with_reducible rfl
  try simp only [Act.put]
  refine wpAnyH_ready (rs := [3]) (by kernel_rfl) (by simp) ?_
  refine AllReadyH.cons rfl (fun K hK => ?_) AllReadyH.nil
  go_simp
  go_at_call 126
  refine (HK1.out _).mono ?_
  rintro e wy ⟨rfl, rfl⟩
  dsimp only
  refine hK.out _ _ (HS.out _ _ (show Wrote B b bs W0 _ by repeat (first | assumption | refine Wrote.drew ?_ | refine Wrote.alloc ?_ _))) (fun hHeld => ?_)
  clear hK K
  try simp only [Act.put, List.setIfInBounds_toArray, List.set_cons_zero, List.set_cons_succ]
  refine wpAnyH_ready (rs := [6]) (by kernel_rfl) (by simp) ?_
  refine AllReadyH.cons rfl (fun K hK => ?_) AllReadyH.nil
  go_simp
  go_at_call 127
  refine (HT1.out _ (HRD.out _ bs (by repeat (first | assumption | refine Wrote.drew ?_ | refine Wrote.alloc ?_ _)))).mono ?_
  rintro e wy ⟨rfl, hby⟩
  have hwy : Wrote B b bs W0 wy := Wrote.below (by repeat (first | assumption | refine Wrote.drew ?_ | refine Wrote.alloc ?_ _)) hby
  clear hby
  dsimp only
  refine hK.out _ _ (HS.out _ _ (show Wrote B b bs W0 _ by repeat (first | assumption | refine Wrote.drew ?_ | refine Wrote.alloc ?_ _))) (fun hHeld => ?_)
  clear hK K
  try simp only [Act.put, List.setIfInBounds_toArray, List.set_cons_zero, List.set_cons_succ]
  refine wpAnyH_ready (rs := [7]) (by kernel_rfl) (by simp) ?_
  refine AllReadyH.cons rfl (fun K hK => ?_) AllReadyH.nil
  go_simp
  refine hK.out _ _ (HS.out _ _ (show Wrote B b bs W0 _ by repeat (first | assumption | refine Wrote.drew ?_ | refine Wrote.alloc ?_ _))) (fun hHeld => ?_)
  clear hK K
  try simp only [Act.put, List.setIfInBounds_toArray, List.set_cons_zero, List.set_cons_succ]
  refine wpAnyH_ready (rs := [8]) (by kernel_rfl) (by simp) ?_
  refine AllReadyH.cons rfl (fun K hK => ?_) AllReadyH.nil
  go_simp
  go_at_call 79
  refine (HP1.out _ _ (by repeat (first | assumption | refine Wrote.drew ?_ | refine Wrote.alloc ?_ _)) (by first | exact Array.getElem?_push_size | exact rowD _ _)).mono ?_
  rintro e wz ⟨rfl, hwz⟩
  dsimp only
  refine hK.out _ _ (HS.out _ _ hwz) (fun hHeld => ?_)
  clear hK K
  try simp only [Act.put, List.setIfInBounds_toArray, List.set_cons_zero, List.set_cons_succ]
  refine wpAnyH_done (by kernel_rfl) ?_ _
  obtain ⟨z0, z1, z2, z3, z4⟩ := HS.out _ _ hwz
  have HZ := Lib.hid hwz
  have hself2 : Wrote B b (bs ++ Lib.byteCells (ivA ⟨lo, ls, hi, hs, true⟩)) W0 wz := hwz
  go_wp2_with fail
  refine (HP2.out _ _ (hself2.alloc _) Array.getElem?_push_size).mono ?_
  rintro e wv ⟨rfl, hwv⟩
  have HV := Lib.hid hwv
  clear hwv
  go_wp2_with fail
  all_goals first | go_end0 | refine bodyPost_ret (results_none rfl _ _ _) rfl ?_
  all_goals exact ⟨rfl, by have := H0.out.trans HV.out; simpa only [List.append_assoc] using this⟩
end Go.Proofs.YtpgdplmndnopbaaGreatDoor