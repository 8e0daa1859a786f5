/- The writer's formula walked. -/
import Derived.Test.YtpgdplmndnopbaaGreatDoorMgP
import Derived.Test.YtpgdplmndnopbaaGreatDoorMgG
import Derived.Deep.RegionHeld3
import Derived.StillTailTactics
namespace Go.Proofs.YtpgdplmndnopbaaGreatDoor
open Go.RowKit
theorem bytes_app (a b : List UInt8) : Lib.byteCells (a ++ b) = Lib.byteCells a ++ Lib.byteCells b := by simp [Lib.byteCells]
theorem right_parts {k : Int} {s : ByteArray} {l : Nat} (h : rightB k s l = true) : (k = 1 ∨ k = 2 ∨ k = 3 ∨ k = 4 ∨ k = 5 ∨ k = 6) ∧ l = manyOf k := by
 unfold rightB at h
 simp only [Bool.and_eq_true, decide_eq_true_eq, beq_iff_eq] at h
 obtain ⟨⟨⟨h1, h2⟩, h3⟩, _⟩ := h
 exact ⟨by omega, h3⟩
def inF (n : Nat) (t : FT (n + 1)) : List UInt8 :=
 if t.1 = 1 then [116, 114, 117, 101]
 else if t.1 = 2 then [102, 97, 108, 115, 101]
 else if t.1 = 3 then t.2.1.data.toList
 else if t.1 = 4 then 33 :: (t.2.2.map fun x => prF n x 3).getD 0 []
 else if t.1 = 5 then (t.2.2.map fun x => prF n x 2).getD 0 [] ++ [38, 38] ++ (t.2.2.map fun x => prF n x 3).getD 1 []
 else (t.2.2.map fun x => prF n x 1).getD 0 [] ++ [124, 124] ++ (t.2.2.map fun x => prF n x 2).getD 1 []
theorem prF_eqW (n : Nat) (t : FT (n + 1)) (least : Nat) : prF (n + 1) t least = wrapP (decide (lowF t.1 < least)) 123 125 (inF n t) := rfl
theorem wrap_cells (is : Bool) (o c : UInt8) (l : List UInt8) : Lib.byteCells (wrapP is o c l) = if is then Lib.strCells ⟨#[o]⟩ ++ Lib.byteCells l ++ Lib.strCells ⟨#[c]⟩ else Lib.byteCells l := by
 cases is <;> simp [wrapP, Lib.byteCells, Lib.strCells]
theorem put1 (B b : Nat) (s : ByteArray) (bs : List Value) (w W : World) (hW : Wrote B b bs w W) (g : Nat) (hg : W.heap[g]? = some (.cells #[.string s] 9 (0, 0))) (hlen : bs.length + s.size ≤ 140737488355328) :
 Calls Tryz.prog 79 #[.pointer (some ⟨b, 0, none⟩), .slice (some ⟨g, 0, none⟩) 1 1] W fun e w' => e = .returned (.tuple #[]) ∧ Wrote B b (bs ++ Lib.strCells s) w w' := by
 refine (put79_any B b g [s] bs W hW.1 hg (by simpa using hlen) (by simp)).mono ?_
 rintro e w' ⟨rfl, h⟩
 exact ⟨rfl, hW.trans (by simpa using h)⟩
theorem row2 (w : World) (A B : Obj) : ((w.alloc A).alloc B).drew.heap[w.heap.size + 1]? = some B := heap_alloc2_new w A B
def FmlC (n : Nat) : Prop := ∀ (t : FT n) (v : Value) (least : Nat) (li : Int) (B b : Nat) (bs : List Value) (w : World), li = (least : Int) → FRep w B n t v → allF rightB n t = true → Wr B b bs w →
 bs.length + (prF n t least).length ≤ 140737488355328 →
 Calls Tryz.prog 78 #[.pointer (some ⟨b, 0, none⟩), v, .int .i64 li] w fun e w' => e = .returned (.tuple #[]) ∧ Wrote B b (bs ++ Lib.byteCells (prF n t least)) w w'
set_option maxRecDepth 100000 in
set_option maxHeartbeats 8000000 in
theorem clo124_any (n : Nat) (hI : FmlC n) (k : Int) (s : ByteArray) (of : List (FT n)) (a : Option Addr) (c : Nat) (hrt : rightB k s of.length = true) (hall : ∀ x ∈ of, allF rightB n x = true)
 (B b kx kw kn : Nat) (bs : List Value) (w : World) (hR : FRow w B n a of) (h : Wr B b bs w)
 (hx : w.heap[kx]? = some (.cells #[.int .u8 k, .string s, .slice a of.length c] 61 (0, 0))) (hw : w.heap[kw]? = some (.cells #[.pointer (some ⟨b, 0, none⟩)] 63 (0, 0)))
 (hn : w.heap[kn]? = some (.cells #[.int .i64 (lowF k)] 3 (0, 0))) (hlen : bs.length + (inF n (k, s, of)).length ≤ 140737488355328) :
 Calls Tryz.prog 124 #[.pointer (some ⟨kx, 0, none⟩), .pointer (some ⟨kw, 0, none⟩), .pointer (some ⟨kn, 0, none⟩)] w fun e w' => e = .returned (.tuple #[]) ∧ Wrote B b (bs ++ Lib.byteCells (inF n (k, s, of))) w w' := by
 have HE : Hid (∀ bs' W, Wrote B b bs' w W → W.cell? ⟨kx, 0, none⟩ = some (.int .u8 k) ∧ W.cell? ⟨kx, 1, none⟩ = some (.string s) ∧ W.cell? ⟨kx, 2, none⟩ = some (.slice a of.length c) ∧
  W.cell? ⟨kw, 0, none⟩ = some (.pointer (some ⟨b, 0, none⟩)) ∧ W.cell? ⟨kn, 0, none⟩ = some (.int .i64 (lowF k))) := by
  intro bs' W hW
  have e1 := hW.kept hx (h.ne hx (by decide)) (by decide)
  have e2 := hW.kept hw (h.ne hw (by decide)) (by decide)
  have e3 := hW.kept hn (h.ne hn (by decide)) (by decide)
  exact ⟨Lib.cell_of_heap e1 0, Lib.cell_of_heap e1 1, Lib.cell_of_heap e1 2, Lib.cell_of_heap e2 0, Lib.cell_of_heap e3 0⟩
 have H0 := Lib.hid h.wrote
 have HR := Lib.hid hR
 have HI := Lib.hid hI
 have HA := Lib.hid hall
 have HL := Lib.hid hlen
 obtain ⟨hk, hl⟩ := right_parts hrt
 obtain ⟨x0, x1, x2, y0, z0⟩ := HE.out _ w h.wrote
 clear h hx hw hn hR hI hall hlen hrt
 rcases hk with rfl | rfl | rfl | rfl | rfl | rfl
 ·have HT : Hid (inF n ((1, s, of) : FT (n + 1)) = [116, 114, 117, 101]) := rfl
  rw [HT.out] at HL ⊢
  go_enter Tryz.func124, Tryz.ntmps124
  go_wp2_with fail
  refine (put1 B b _ bs w _ (H0.out.alloc _) _ Array.getElem?_push_size (by have := HL.out; first | exact this | simpa [ByteArray.size] using this)).mono ?_
  rintro e w1 ⟨rfl, hw1⟩
  go_wp2_with fail
  all_goals go_end0
  all_goals exact ⟨rfl, hw1⟩
 ·have HT : Hid (inF n ((2, s, of) : FT (n + 1)) = [102, 97, 108, 115, 101]) := rfl
  rw [HT.out] at HL ⊢
  go_enter Tryz.func124, Tryz.ntmps124
  go_wp2_with fail
  refine (put1 B b _ bs w _ (H0.out.alloc _) _ Array.getElem?_push_size (by have := HL.out; first | exact this | simpa [ByteArray.size] using this)).mono ?_
  rintro e w1 ⟨rfl, hw1⟩
  go_wp2_with fail
  all_goals go_end0
  all_goals exact ⟨rfl, hw1⟩
 ·have HT : Hid (inF n ((3, s, of) : FT (n + 1)) = s.data.toList) := rfl
  rw [HT.out] at HL ⊢
  go_enter Tryz.func124, Tryz.ntmps124
  go_wp2_with fail
  refine (put1 B b _ bs w _ (H0.out.alloc _) _ Array.getElem?_push_size (by have := HL.out; first | exact this | simpa [ByteArray.size] using this)).mono ?_
  rintro e w1 ⟨rfl, hw1⟩
  go_wp2_with fail
  all_goals go_end0
  all_goals exact ⟨rfl, hw1⟩
 ·have h1 : of.length = 1 := hl
  have h0 : 0 < of.length := by omega
  have HT : Hid (inF n ((4, s, of) : FT (n + 1)) = 33 :: prF n of[0] 3) := by
   rw [Hid]; show 33 :: (of.map fun x => prF n x 3).getD 0 [] = _; simp [h0]
  rw [HT.out] at HL ⊢
  have HL := HL
  clear hl h1
  go_enter Tryz.func124, Tryz.ntmps124
  go_wp2_with fail
  refine (put1 B b _ bs w _ (H0.out.alloc _) _ Array.getElem?_push_size (by have := HL.out; simp only [List.length_cons] at this; first | omega | (simp [ByteArray.size]; omega))).mono ?_
  rintro e w1 ⟨rfl, hw1⟩
  obtain ⟨x0, x1, x2, y0, z0⟩ := HE.out _ w1 hw1
  have hat := (FRow.up HR.out hw1.2.1 (Nat.le_refl _)).at 0 h0
  obtain ⟨rb, off, k', s', sa, sl, sc, rfl, hbl, c0, c1, c2, hr⟩ := hat
  simp only [Nat.zero_mul, Nat.add_zero] at c0 c1 c2
  have HC := Lib.hid (HI.out of[0] _ 3 3 B b _ w1.drew rfl (hr.up (Below.drew (Below.refl _ _)) (Nat.le_refl _)) (HA.out _ (List.getElem_mem _)) hw1.drew.1 (by have := HL.out; simp only [List.length_cons, List.length_append, Lib.strCells_length] at *; first | omega | (simp [ByteArray.size]; omega)))
  have HW1 := Lib.hid hw1.drew
  have hz := hw1.2.1.size
  have hlt : rb < w1.heap.size := by have := Wr.lt hw1.1; omega
  clear hr hw1
  go_wp2_with fail
  go_still_tail 6, (by kernel_rfl)
  change wpList _ _ _ _ _ w1.drew
  go_wp2_with fail
  refine HC.out.mono ?_
  rintro e w2 ⟨rfl, hw2⟩
  go_wp2_with fail
  all_goals go_end0
  all_goals exact ⟨rfl, by have := HW1.out.trans hw2; rw [List.append_assoc] at this; exact this⟩
 ·have h2 : of.length = 2 := hl
  have h0 : 0 < of.length := by omega
  have h1 : 1 < of.length := by omega
  have HT : Hid (inF n ((5, s, of) : FT (n + 1)) = prF n of[0] 2 ++ ([38, 38] : List UInt8) ++ prF n of[1] 3) := by
   rw [Hid]; show (of.map fun x => prF n x 2).getD 0 [] ++ [38, 38] ++ (of.map fun x => prF n x 3).getD 1 [] = _; simp [h0, h1]
  rw [HT.out] at HL ⊢
  have hlen := HL.out
  simp only [List.length_append, List.length_cons, List.length_nil] at hlen
  have HL := Lib.hid hlen
  clear hl h2 hlen
  have hat := HR.out.at 0 h0
  obtain ⟨rb, off, k', s', sa, sl, sc, rfl, hbl, c0, c1, c2, hr⟩ := hat
  simp only [Nat.zero_mul, Nat.add_zero] at c0 c1 c2
  have HC := Lib.hid (HI.out of[0] _ 2 2 B b _ w.drew rfl (hr.up (Below.drew (Below.refl _ _)) (Nat.le_refl _)) (HA.out _ (List.getElem_mem _)) H0.out.drew.1 (by have := HL.out; omega))
  have hlt : rb < w.heap.size := by have := Wr.lt H0.out.1; omega
  clear hr
  go_enter Tryz.func124, Tryz.ntmps124
  go_wp2_with fail
  go_still_tail 6, (by kernel_rfl)
  change wpList _ _ _ _ _ w.drew
  go_wp2_with fail
  refine HC.out.mono ?_
  rintro e w1 ⟨rfl, hw1⟩
  have HW1 := Lib.hid (H0.out.drew.trans hw1)
  obtain ⟨x0, x1, x2, y0, z0⟩ := HE.out _ w1 HW1.out
  have hself := hw1.1.wrote
  have HS1 : Hid (∀ W bs', Wrote B b bs' w1 W → W.cell? ⟨kw, 0, none⟩ = some (Value.pointer (some ⟨b, 0, none⟩)) ∧ W.cell? ⟨kn, 0, none⟩ = some (Value.int .i64 2)) := by
   intro W bs' hW
   have := HE.out _ W (HW1.out.trans hW)
   exact ⟨this.2.2.2.1, this.2.2.2.2⟩
  have HP : Hid (∀ (W : World) (g : Nat), Wrote B b (bs ++ Lib.byteCells (prF n of[0] 2)) w1 W → W.heap[g]? = some (.cells #[.string ⟨#[38, 38]⟩] 9 (0, 0)) →
   Calls Tryz.prog 79 #[.pointer (some ⟨b, 0, none⟩), .slice (some ⟨g, 0, none⟩) 1 1] W fun e w' => e = .returned (.tuple #[]) ∧ Wrote B b (bs ++ Lib.byteCells (prF n of[0] 2) ++ Lib.strCells ⟨#[38, 38]⟩) w1 w') :=
   fun W g h1 h2 => put1 B b _ _ w1 W h1 g h2 (by have := HL.out; simp [Lib.byteCells_length, ByteArray.size]; omega)
  clear hw1 x0 x1 x2 c0 c1 c2 hlt
  go_wp2_with fail
  refine wp_region_held_drew (S := fun w' => w'.cell? ⟨kw, 0, none⟩ = some (Value.pointer (some ⟨b, 0, none⟩)) ∧ w'.cell? ⟨kn, 0, none⟩ = some (Value.int .i64 2)) (by kernel_rfl) (HS1.out _ _ hself.drew) (fun hHeld => ?_)
  refine wpAnyH_take (i := 0) (v := ?_) rfl (by kernel_rfl) (by kernel_rfl) (by kernel_rfl) (fun _ _ _ h => h) (Or.inl ⟨by kernel_rfl, ?_⟩) (by assumption) ?_
  rotate_left
  ·(intro w hSw; (try dsimp only at hSw); go_simp)
   with_reducible rfl
  try simp only [Act.put, List.setIfInBounds_toArray]
  refine wpAnyH_take (i := 2) (v := ?_) rfl (by kernel_rfl) (by kernel_rfl) (by kernel_rfl) (fun _ _ _ h => h) (Or.inl ⟨by kernel_rfl, ?_⟩) (by assumption) ?_
  rotate_left
  ·(intro w hSw; (try dsimp only at hSw); go_simp)
   with_reducible rfl
  try simp only [Act.put]
  refine wpAnyH_take (i := 3) (v := ?_) rfl (by kernel_rfl) (by kernel_rfl) (by kernel_rfl) (fun _ _ _ h => h) (Or.inl ⟨by kernel_rfl, ?_⟩) (by assumption) ?_
  rotate_left
  ·(intro w hSw; (try dsimp only at hSw); go_simp)
   with_reducible rfl
  try simp only [Act.put]
  refine wpAnyH_ready (rs := [1]) (by kernel_rfl) (by simp) ?_
  refine AllReadyH.cons rfl (fun K hK => ?_) AllReadyH.nil
  go_simp
  refine hK.out _ _ (HS1.out _ _ (show Wrote B b (bs ++ Lib.byteCells (prF n of[0] 2)) w1 _ by repeat (first | assumption | refine Wrote.drew ?_ | refine Wrote.alloc ?_ _))) (fun hHeld => ?_)
  clear hK K
  try simp only [Act.put, List.setIfInBounds_toArray, List.set_cons_zero, List.set_cons_succ]
  refine wpAnyH_ready (rs := [4]) (by kernel_rfl) (by simp) ?_
  refine AllReadyH.cons rfl (fun K hK => ?_) AllReadyH.nil
  go_simp
  refine hK.out _ _ (HS1.out _ _ (show Wrote B b (bs ++ Lib.byteCells (prF n of[0] 2)) w1 _ by repeat (first | assumption | refine Wrote.drew ?_ | refine Wrote.alloc ?_ _))) (fun hHeld => ?_)
  clear hK K
  try simp only [Act.put, List.setIfInBounds_toArray, List.set_cons_zero, List.set_cons_succ]
  refine wpAnyH_ready (rs := [5]) (by kernel_rfl) (by simp) ?_
  refine AllReadyH.cons rfl (fun K hK => ?_) AllReadyH.nil
  go_simp
  refine hK.out _ _ (HS1.out _ _ (show Wrote B b (bs ++ Lib.byteCells (prF n of[0] 2)) w1 _ by repeat (first | assumption | refine Wrote.drew ?_ | refine Wrote.alloc ?_ _))) (fun hHeld => ?_)
  clear hK K
  try simp only [Act.put, List.setIfInBounds_toArray, List.set_cons_zero, List.set_cons_succ]
  refine wpAnyH_ready (rs := [6]) (by kernel_rfl) (by simp) ?_
  refine AllReadyH.cons rfl (fun K hK => ?_) AllReadyH.nil
  go_simp
  refine hK.out _ _ (HS1.out _ _ (show Wrote B b (bs ++ Lib.byteCells (prF n of[0] 2)) w1 _ by repeat (first | assumption | refine Wrote.drew ?_ | refine Wrote.alloc ?_ _))) (fun hHeld => ?_)
  clear hK K
  try simp only [Act.put, List.setIfInBounds_toArray, List.set_cons_zero, List.set_cons_succ]
  refine wpAnyH_ready (rs := [7]) (by kernel_rfl) (by simp) ?_
  refine AllReadyH.cons rfl (fun K hK => ?_) AllReadyH.nil
  go_simp
  go_at_call 79
  refine (HP.out _ _ (by repeat (first | assumption | refine Wrote.drew ?_ | refine Wrote.alloc ?_ _)) (by first | exact row2 _ _ _ | exact Array.getElem?_push_size)).mono ?_
  rintro e wz ⟨rfl, hwz⟩
  dsimp only
  refine hK.out _ _ (HS1.out _ _ hwz) (fun hHeld => ?_)
  clear hK K
  try simp only [Act.put, List.setIfInBounds_toArray, List.set_cons_zero, List.set_cons_succ]
  refine wpAnyH_done (by kernel_rfl) ?_ _
  have hwz : Wrote B b (bs ++ Lib.byteCells (prF n of[0] 2) ++ Lib.strCells ⟨#[38, 38]⟩) w1 wz := by assumption
  have HW2 := Lib.hid (HW1.out.trans hwz)
  obtain ⟨x0, x1, x2, y0, z0⟩ := HE.out _ wz HW2.out
  have hat := (FRow.up HR.out HW2.out.2.1 (Nat.le_refl _)).at 1 h1
  obtain ⟨rb', off', k1, s1, sa1, sl1, sc1, hea, hbl1, c0, c1, c2, hr⟩ := hat
  injection hea with hea
  injection hea with hea1 hea2
  subst hea1 hea2
  simp only [Nat.one_mul] at c0 c1 c2
  have c1' : wz.cell? ⟨rb, off + 4, none⟩ = some (.string s1) := c1
  have c2' : wz.cell? ⟨rb, off + 5, none⟩ = some (.slice sa1 sl1 sc1) := c2
  have h1i : (1 : Int) < (of.length : Int) := by omega
  have HC2 := Lib.hid (HI.out of[1] _ 3 3 B b _ wz.drew rfl (hr.up (Below.drew (Below.refl _ _)) (Nat.le_refl _)) (HA.out _ (List.getElem_mem _)) HW2.out.drew.1 (by have := HL.out; simp [Lib.byteCells_length, Lib.strCells_length, ByteArray.size]; omega))
  have hlt : rb < wz.heap.size := by have := Wr.lt HW2.out.1; omega
  clear hr hself hwz HS1 HP HC
  go_wp2_with fail
  go_still_tail 7, (by kernel_rfl)
  change wpList _ _ _ _ _ wz.drew
  go_wp2_with fail
  refine HC2.out.mono ?_
  rintro e w3 ⟨rfl, hw3⟩
  go_wp2_with fail
  all_goals go_end0
  all_goals exact ⟨rfl, by have := HW2.out.drew.trans hw3; rw [bytes_app, bytes_app]; simp only [List.append_assoc] at this ⊢; exact this⟩
 ·have h2 : of.length = 2 := hl
  have h0 : 0 < of.length := by omega
  have h1 : 1 < of.length := by omega
  have HT : Hid (inF n ((6, s, of) : FT (n + 1)) = prF n of[0] 1 ++ ([124, 124] : List UInt8) ++ prF n of[1] 2) := by
   rw [Hid]; show (of.map fun x => prF n x 1).getD 0 [] ++ [124, 124] ++ (of.map fun x => prF n x 2).getD 1 [] = _; simp [h0, h1]
  rw [HT.out] at HL ⊢
  have hlen := HL.out
  simp only [List.length_append, List.length_cons, List.length_nil] at hlen
  have HL := Lib.hid hlen
  clear hl h2 hlen
  have hat := HR.out.at 0 h0
  obtain ⟨rb, off, k', s', sa, sl, sc, rfl, hbl, c0, c1, c2, hr⟩ := hat
  simp only [Nat.zero_mul, Nat.add_zero] at c0 c1 c2
  have HC := Lib.hid (HI.out of[0] _ 1 1 B b _ w.drew rfl (hr.up (Below.drew (Below.refl _ _)) (Nat.le_refl _)) (HA.out _ (List.getElem_mem _)) H0.out.drew.1 (by have := HL.out; omega))
  have hlt : rb < w.heap.size := by have := Wr.lt H0.out.1; omega
  clear hr
  go_enter Tryz.func124, Tryz.ntmps124
  go_wp2_with fail
  go_still_tail 6, (by kernel_rfl)
  change wpList _ _ _ _ _ w.drew
  go_wp2_with fail
  refine HC.out.mono ?_
  rintro e w1 ⟨rfl, hw1⟩
  have HW1 := Lib.hid (H0.out.drew.trans hw1)
  obtain ⟨x0, x1, x2, y0, z0⟩ := HE.out _ w1 HW1.out
  have hself := hw1.1.wrote
  have HS1 : Hid (∀ W bs', Wrote B b bs' w1 W → W.cell? ⟨kw, 0, none⟩ = some (Value.pointer (some ⟨b, 0, none⟩)) ∧ W.cell? ⟨kn, 0, none⟩ = some (Value.int .i64 1)) := by
   intro W bs' hW
   have := HE.out _ W (HW1.out.trans hW)
   exact ⟨this.2.2.2.1, this.2.2.2.2⟩
  have HP : Hid (∀ (W : World) (g : Nat), Wrote B b (bs ++ Lib.byteCells (prF n of[0] 1)) w1 W → W.heap[g]? = some (.cells #[.string ⟨#[124, 124]⟩] 9 (0, 0)) →
   Calls Tryz.prog 79 #[.pointer (some ⟨b, 0, none⟩), .slice (some ⟨g, 0, none⟩) 1 1] W fun e w' => e = .returned (.tuple #[]) ∧ Wrote B b (bs ++ Lib.byteCells (prF n of[0] 1) ++ Lib.strCells ⟨#[124, 124]⟩) w1 w') :=
   fun W g h1 h2 => put1 B b _ _ w1 W h1 g h2 (by have := HL.out; simp [Lib.byteCells_length, ByteArray.size]; omega)
  clear hw1 x0 x1 x2 c0 c1 c2 hlt
  go_wp2_with fail
  refine wp_region_held_drew (S := fun w' => w'.cell? ⟨kw, 0, none⟩ = some (Value.pointer (some ⟨b, 0, none⟩)) ∧ w'.cell? ⟨kn, 0, none⟩ = some (Value.int .i64 1)) (by kernel_rfl) (HS1.out _ _ hself.drew) (fun hHeld => ?_)
  refine wpAnyH_take (i := 0) (v := ?_) rfl (by kernel_rfl) (by kernel_rfl) (by kernel_rfl) (fun _ _ _ h => h) (Or.inl ⟨by kernel_rfl, ?_⟩) (by assumption) ?_
  rotate_left
  ·(intro w hSw; (try dsimp only at hSw); go_simp)
   with_reducible rfl
  try simp only [Act.put, List.setIfInBounds_toArray]
  refine wpAnyH_take (i := 2) (v := ?_) rfl (by kernel_rfl) (by kernel_rfl) (by kernel_rfl) (fun _ _ _ h => h) (Or.inl ⟨by kernel_rfl, ?_⟩) (by assumption) ?_
  rotate_left
  ·(intro w hSw; (try dsimp only at hSw); go_simp)
   with_reducible rfl
  try simp only [Act.put]
  refine wpAnyH_take (i := 3) (v := ?_) rfl (by kernel_rfl) (by kernel_rfl) (by kernel_rfl) (fun _ _ _ h => h) (Or.inl ⟨by kernel_rfl, ?_⟩) (by assumption) ?_
  rotate_left
  ·(intro w hSw; (try dsimp only at hSw); go_simp)
   with_reducible rfl
  try simp only [Act.put]
  refine wpAnyH_ready (rs := [1]) (by kernel_rfl) (by simp) ?_
  refine AllReadyH.cons rfl (fun K hK => ?_) AllReadyH.nil
  go_simp
  refine hK.out _ _ (HS1.out _ _ (show Wrote B b (bs ++ Lib.byteCells (prF n of[0] 1)) w1 _ by repeat (first | assumption | refine Wrote.drew ?_ | refine Wrote.alloc ?_ _))) (fun hHeld => ?_)
  clear hK K
  try simp only [Act.put, List.setIfInBounds_toArray, List.set_cons_zero, List.set_cons_succ]
  refine wpAnyH_ready (rs := [4]) (by kernel_rfl) (by simp) ?_
  refine AllReadyH.cons rfl (fun K hK => ?_) AllReadyH.nil
  go_simp
  refine hK.out _ _ (HS1.out _ _ (show Wrote B b (bs ++ Lib.byteCells (prF n of[0] 1)) w1 _ by repeat (first | assumption | refine Wrote.drew ?_ | refine Wrote.alloc ?_ _))) (fun hHeld => ?_)
  clear hK K
  try simp only [Act.put, List.setIfInBounds_toArray, List.set_cons_zero, List.set_cons_succ]
  refine wpAnyH_ready (rs := [5]) (by kernel_rfl) (by simp) ?_
  refine AllReadyH.cons rfl (fun K hK => ?_) AllReadyH.nil
  go_simp
  refine hK.out _ _ (HS1.out _ _ (show Wrote B b (bs ++ Lib.byteCells (prF n of[0] 1)) w1 _ by repeat (first | assumption | refine Wrote.drew ?_ | refine Wrote.alloc ?_ _))) (fun hHeld => ?_)
  clear hK K
  try simp only [Act.put, List.setIfInBounds_toArray, List.set_cons_zero, List.set_cons_succ]
  refine wpAnyH_ready (rs := [6]) (by kernel_rfl) (by simp) ?_
  refine AllReadyH.cons rfl (fun K hK => ?_) AllReadyH.nil
  go_simp
  refine hK.out _ _ (HS1.out _ _ (show Wrote B b (bs ++ Lib.byteCells (prF n of[0] 1)) w1 _ by repeat (first | assumption | refine Wrote.drew ?_ | refine Wrote.alloc ?_ _))) (fun hHeld => ?_)
  clear hK K
  try simp only [Act.put, List.setIfInBounds_toArray, List.set_cons_zero, List.set_cons_succ]
  refine wpAnyH_ready (rs := [7]) (by kernel_rfl) (by simp) ?_
  refine AllReadyH.cons rfl (fun K hK => ?_) AllReadyH.nil
  go_simp
  go_at_call 79
  refine (HP.out _ _ (by repeat (first | assumption | refine Wrote.drew ?_ | refine Wrote.alloc ?_ _)) (by first | exact row2 _ _ _ | exact Array.getElem?_push_size)).mono ?_
  rintro e wz ⟨rfl, hwz⟩
  dsimp only
  refine hK.out _ _ (HS1.out _ _ hwz) (fun hHeld => ?_)
  clear hK K
  try simp only [Act.put, List.setIfInBounds_toArray, List.set_cons_zero, List.set_cons_succ]
  refine wpAnyH_done (by kernel_rfl) ?_ _
  have hwz : Wrote B b (bs ++ Lib.byteCells (prF n of[0] 1) ++ Lib.strCells ⟨#[124, 124]⟩) w1 wz := by assumption
  have HW2 := Lib.hid (HW1.out.trans hwz)
  obtain ⟨x0, x1, x2, y0, z0⟩ := HE.out _ wz HW2.out
  have hat := (FRow.up HR.out HW2.out.2.1 (Nat.le_refl _)).at 1 h1
  obtain ⟨rb', off', k1, s1, sa1, sl1, sc1, hea, hbl1, c0, c1, c2, hr⟩ := hat
  injection hea with hea
  injection hea with hea1 hea2
  subst hea1 hea2
  simp only [Nat.one_mul] at c0 c1 c2
  have c1' : wz.cell? ⟨rb, off + 4, none⟩ = some (.string s1) := c1
  have c2' : wz.cell? ⟨rb, off + 5, none⟩ = some (.slice sa1 sl1 sc1) := c2
  have h1i : (1 : Int) < (of.length : Int) := by omega
  have HC2 := Lib.hid (HI.out of[1] _ 2 2 B b _ wz.drew rfl (hr.up (Below.drew (Below.refl _ _)) (Nat.le_refl _)) (HA.out _ (List.getElem_mem _)) HW2.out.drew.1 (by have := HL.out; simp [Lib.byteCells_length, Lib.strCells_length, ByteArray.size]; omega))
  have hlt : rb < wz.heap.size := by have := Wr.lt HW2.out.1; omega
  clear hr hself hwz HS1 HP HC
  go_wp2_with fail
  go_still_tail 7, (by kernel_rfl)
  change wpList _ _ _ _ _ wz.drew
  go_wp2_with fail
  refine HC2.out.mono ?_
  rintro e w3 ⟨rfl, hw3⟩
  go_wp2_with fail
  all_goals go_end0
  all_goals exact ⟨rfl, by have := HW2.out.drew.trans hw3; rw [bytes_app, bytes_app]; simp only [List.append_assoc] at this ⊢; exact this⟩
end Go.Proofs.YtpgdplmndnopbaaGreatDoor