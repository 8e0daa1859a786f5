/- The writer's formula walked: the call itself. -/
import Derived.Test.YtpgdplmndnopbaaGreatDoorWrD
import Derived.Test.YtpgdplmndnopbaaGreatDoorWrC
import Derived.Test.YtpgdplmndnopbaaGreatDoorMgB
import Derived.Test.YtpgdplmndnopbaaGreatDoorMgI
import Derived.Test.YtpgdplmndnopbaaGreatDoorMgN
namespace Go.Proofs.YtpgdplmndnopbaaGreatDoor
open Go.RowKit
theorem heap_top {w : World} {o : Obj} {k : Nat} (h : k = w.heap.size) : (w.alloc o).heap[k]? = some o := by subst h; exact Array.getElem?_push_size
theorem heap_in {w : World} {o x : Obj} {k : Nat} (h : w.heap[k]? = some x) : (w.alloc o).heap[k]? = some x :=
 (Lib.alloc_old w o k (Array.getElem?_eq_some_iff.1 h).1).trans h
set_option maxRecDepth 100000 in
set_option maxHeartbeats 8000000 in
theorem formula78_any : ∀ n, FmlC n := by
 intro n
 induction n with
 | zero => intro t v least li B b bs w _ h; exact h.elim
 | succ n ih =>
  intro t v least li B b bs w hli hf hall h hlen
  obtain ⟨k, s, of⟩ := t
  obtain ⟨a, c, rfl, hR⟩ := hf
  rw [allF_succ, Bool.and_eq_true, List.all_eq_true] at hall
  obtain ⟨hr1, hr2⟩ := hall
  have hp := prF_eqW n (k, s, of) least
  rw [hp] at hlen ⊢
  clear hp
  dsimp only at hR hr1 hr2 hlen ⊢
  subst hli
  obtain ⟨W4, hW4⟩ : ∃ W4, W4 = (((w.alloc (.cells #[.pointer (some ⟨b, 0, none⟩)] 63)).alloc (.cells #[.int .u8 k, .string s, .slice a of.length c] 61)).alloc (.cells #[.int .i64 0, .int .i64 3, .int .i64 3, .int .i64 3, .int .i64 3, .int .i64 2, .int .i64 1] 109)).alloc (.cells #[.int .i64 (lowF k)] 3) := ⟨_, rfl⟩
  have hwr : Wrote B b bs w W4 := by rw [hW4]; exact ((((h.wrote).alloc _).alloc _).alloc _).alloc _
  have e0 : W4.heap[w.heap.size]? = some (.cells #[.pointer (some ⟨b, 0, none⟩)] 63 (0, 0)) := by
   rw [hW4]; exact heap_in (heap_in (heap_in (heap_top rfl)))
  have e1 : W4.heap[w.heap.size + 1]? = some (.cells #[.int .u8 k, .string s, .slice a of.length c] 61 (0, 0)) := by
   rw [hW4]; exact heap_in (heap_in (heap_top (by simp)))
  have e3 : W4.heap[w.heap.size + 3]? = some (.cells #[.int .i64 (lowF k)] 3 (0, 0)) := by
   rw [hW4]; exact heap_top (by simp)
  have HC : Hid (∀ is, is = decide (lowF k < least) → Calls Tryz.prog 76 #[.pointer (some ⟨b, 0, none⟩), .bool is, .string ⟨#[123]⟩, .string ⟨#[125]⟩, .func (.func 124) #[] #[.pointer (some ⟨w.heap.size + 1, 0, none⟩), .pointer (some ⟨w.heap.size, 0, none⟩), .pointer (some ⟨w.heap.size + 3, 0, none⟩)]] W4
   fun e w' => e = .returned (.tuple #[]) ∧ Wrote B b (bs ++ Lib.byteCells (wrapP (decide (lowF k < least)) 123 125 (inF n (k, s, of)))) w w') := by
   rintro is rfl
   refine (around76_any B b _ ⟨#[123]⟩ ⟨#[125]⟩ 124 _ bs (Lib.byteCells (inF n (k, s, of))) W4 (ent_of Tryz.func124 (by kernel_rfl) (by kernel_rfl)) hwr.1 (by rw [← wrap_cells, Lib.byteCells_length]; exact hlen) ?_).mono ?_
   ·intro bs' w' hw' hl'
    exact clo124_any n ih k s of a c hr1 hr2 B b _ _ _ bs' w' (FRow.up hR (hwr.trans hw').2.1 (Nat.le_refl _)) hw'.1 (hw'.kept e1 (hwr.1.ne e1 (by decide)) (by decide)) (hw'.kept e0 (hwr.1.ne e0 (by decide)) (by decide)) (hw'.kept e3 (hwr.1.ne e3 (by decide)) (by decide)) (by rwa [Lib.byteCells_length] at hl')
   ·rintro e w' ⟨rfl, hw⟩
    rw [← wrap_cells] at hw
    exact ⟨rfl, hwr.trans hw⟩
  have hmf : ∀ (fn : Fn) (first cap : Array Value) (w : World), (Instr.makeFunc fn first cap).run Tryz.prog w = .ok (.func fn first cap) w := fun _ _ _ _ => rfl
  rw [hW4] at HC
  have hk := (right_parts hr1).1
  clear e0 e1 e3 hwr h hR hr1 hr2 hlen ih hW4
  rcases hk with rfl | rfl | rfl | rfl | rfl | rfl
  all_goals
   go_enter Tryz.func78, Tryz.ntmps78
   go_wp2_with fail
   refine (HC.out _ (by unfold lowF; rw [Bool.eq_iff_iff, decide_eq_true_eq, decide_eq_true_eq]; simp <;> omega)).mono ?_
   rintro e w1 ⟨rfl, hw1⟩
   have HW := Lib.hid hw1
   clear hw1
   go_wp2_with fail
   all_goals go_end0
   all_goals exact ⟨rfl, HW.out⟩
end Go.Proofs.YtpgdplmndnopbaaGreatDoor

/- The writer's tre walked: what its closure writes. -/
namespace Go.Proofs.YtpgdplmndnopbaaGreatDoor
open Go.RowKit
theorem rightX_parts {m : Nat} {k : Int} {is : List (FT m)} {l : Nat} {i : Spn} (h : rightX k is l i = true) :
 (k = 1 ∨ k = 2 ∨ k = 3 ∨ k = 4 ∨ k = 5 ∨ k = 6) ∧ l = manyOfX k ∧ (k = 6 → ivR i ≠ 8) ∧ (k = 1 → is.length = 1 ∧ ∀ x ∈ is, allF rightB m x = true) := by
 unfold rightX at h
 simp only [Bool.and_eq_true, decide_eq_true_eq, beq_iff_eq] at h
 obtain ⟨⟨⟨⟨⟨h1, h2⟩, h3⟩, h4⟩, h5⟩, h6⟩ := h
 refine ⟨by omega, h3, fun hk => ?_, fun hk => ?_⟩
 ·subst hk
  intro hz
  simp [hz] at h4
 ·subst hk
  simp only [if_true, Bool.and_eq_true, beq_iff_eq, List.all_eq_true] at h6
  exact h6
theorem iv_range {i : Spn} (h : ivR i ≠ 8) : 0 ≤ i.low ∧ i.low < 288230376151711744 ∧ 0 ≤ i.high ∧ i.high < 288230376151711744 := by
 unfold ivR at h
 by_cases hc : (!belowC i.low || !belowC i.high || (i.op && (i.high != 0 || i.hs))) = true
 ·rw [if_pos hc] at h; exact absurd rfl h
 ·simp only [Bool.or_eq_true, Bool.not_eq_true', not_or, Bool.not_eq_false] at hc
  obtain ⟨⟨h1, h2⟩, _⟩ := hc
  unfold belowC at h1 h2
  simp at h1 h2
  exact ⟨h1.1, h1.2, h2.1, h2.2⟩
def inX {m : Nat} (n : Nat) (t : XT m (n + 1)) : List UInt8 :=
 if t.1 = 1 then (t.2.1.map fun f => prF m f 0).getD 0 []
 else if t.1 = 5 then (t.2.2.1.map fun x => prX Lib.itoa n x 4).getD 0 [] ++ [43]
 else if t.1 = 6 then 60 :: (t.2.2.1.map fun x => prX Lib.itoa n x 0).getD 0 [] ++ [62, 95] ++ prI Lib.itoa t.2.2.2
 else (t.2.2.1.map fun x => prX Lib.itoa n x (heightX t.1)).getD 0 [] ++ [if t.1 = 2 then 124 else if t.1 = 3 then 38 else 59] ++ (t.2.2.1.map fun x => prX Lib.itoa n x (heightX t.1 + 1)).getD 1 []
theorem prX_eqW {m : Nat} (n : Nat) (t : XT m (n + 1)) (least : Nat) : prX Lib.itoa (n + 1) t least = wrapP (decide (heightX t.1 < least)) 40 41 (inX n t) := rfl
def TreWC (m n : Nat) : Prop := ∀ (t : XT m n) (v : Value) (least : Nat) (li : Int) (B b : Nat) (bs : List Value) (w : World), li = (least : Int) → XRep w B m n t v → allX rightX n t = true → Wr B b bs w → Rdy w → 4 ≤ B →
 bs.length + (prX Lib.itoa n t least).length ≤ 140737488355328 →
 Calls Tryz.prog 37 #[.pointer (some ⟨b, 0, none⟩), v, .int .i64 li] w fun e w' => e = .returned (.tuple #[]) ∧ Wrote B b (bs ++ Lib.byteCells (prX Lib.itoa n t least)) w w'
set_option maxRecDepth 100000 in
set_option maxHeartbeats 16000000 in
theorem clo77_any (m n : Nat) (hI : TreWC m n) (k lo hi : Int) (ls hs op : Bool) (is : List (FT m)) (of : List (XT m n)) (a1 a : Option Addr) (c1 c : Nat) (hrt : rightX k is of.length ⟨lo, ls, hi, hs, op⟩ = true) (hall : ∀ x ∈ of, allX rightX n x = true)
 (B b kx kw kn : Nat) (bs : List Value) (w : World) (hF : FRow w B m a1 is) (hR : XRow w B m n a of) (h : Wr B b bs w) (hr : Rdy w) (hB : 4 ≤ B)
 (hx : w.heap[kx]? = some (.cells #[.int .u8 k, .slice a1 is.length c1, .slice a of.length c, .int .i64 lo, .bool ls, .int .i64 hi, .bool hs, .bool op] 28 (0, 0))) (hw : w.heap[kw]? = some (.cells #[.pointer (some ⟨b, 0, none⟩)] 63 (0, 0)))
 (hn : w.heap[kn]? = some (.cells #[.int .i64 (heightX k)] 3 (0, 0))) (hlen : bs.length + (inX n ((k, is, of, ⟨lo, ls, hi, hs, op⟩) : XT m (n + 1))).length ≤ 140737488355328) :
 Calls Tryz.prog 77 #[.pointer (some ⟨kx, 0, none⟩), .pointer (some ⟨kw, 0, none⟩), .pointer (some ⟨kn, 0, none⟩)] w fun e w' => e = .returned (.tuple #[]) ∧ Wrote B b (bs ++ Lib.byteCells (inX n ((k, is, of, ⟨lo, ls, hi, hs, op⟩) : XT m (n + 1)))) w w' := by
 have HE : Hid (∀ bs' W, Wrote B b bs' w W → W.cell? ⟨kx, 0, none⟩ = some (.int .u8 k) ∧ W.cell? ⟨kx, 1, none⟩ = some (.slice a1 is.length c1) ∧ W.cell? ⟨kx, 2, none⟩ = some (.slice a of.length c) ∧
  W.cell? ⟨kx, 3, none⟩ = some (.int .i64 lo) ∧ W.cell? ⟨kx, 4, none⟩ = some (.bool ls) ∧ W.cell? ⟨kx, 5, none⟩ = some (.int .i64 hi) ∧ W.cell? ⟨kx, 6, none⟩ = some (.bool hs) ∧ W.cell? ⟨kx, 7, none⟩ = some (.bool op) ∧
  W.cell? ⟨kw, 0, none⟩ = some (.pointer (some ⟨b, 0, none⟩)) ∧ W.cell? ⟨kn, 0, none⟩ = some (.int .i64 (heightX k))) := by
  intro bs' W hW
  have e1 := hW.kept hx (h.ne hx (by decide)) (by decide)
  have e2 := hW.kept hw (h.ne hw (by decide)) (by decide)
  have e3 := hW.kept hn (h.ne hn (by decide)) (by decide)
  exact ⟨Lib.cell_of_heap e1 0, Lib.cell_of_heap e1 1, Lib.cell_of_heap e1 2, Lib.cell_of_heap e1 3, Lib.cell_of_heap e1 4, Lib.cell_of_heap e1 5, Lib.cell_of_heap e1 6, Lib.cell_of_heap e1 7, Lib.cell_of_heap e2 0, Lib.cell_of_heap e3 0⟩
 have HRD : Hid (∀ bs' W, Wrote B b bs' w W → Rdy W) := fun bs' W hW => Rdy.belowB hB hr hW.2.1
 have HBB := Lib.hid hB
 have H0 := Lib.hid h.wrote
 have HF := Lib.hid hF
 have HR := Lib.hid hR
 have HI := Lib.hid hI
 have HA := Lib.hid hall
 have HL := Lib.hid hlen
 obtain ⟨hk, hl, h6, h1k⟩ := rightX_parts hrt
 obtain ⟨x0, x1, x2, x3, x4, x5, x6, x7, y0, z0⟩ := HE.out _ w h.wrote
 clear h hx hw hn hR hF hI hall hlen hrt hr hB
 rcases hk with rfl | rfl | rfl | rfl | rfl | rfl
 ·obtain ⟨h1, hfa⟩ := h1k rfl
  have h0 : 0 < is.length := by omega
  have HT : Hid (inX n ((1, is, of, ⟨lo, ls, hi, hs, op⟩) : XT m (n + 1)) = prF m is[0] 0) := by
   rw [Hid]; show (is.map fun f => prF m f 0).getD 0 [] = _; simp [h0]
  rw [HT.out] at HL ⊢
  have hat := HF.out.at 0 h0
  obtain ⟨rb, off, k', s', sa, sl, sc, rfl, hbl, c0, c1', c2, hr⟩ := hat
  simp only [Nat.zero_mul, Nat.add_zero] at c0 c1' c2
  have HC := Lib.hid (formula78_any m is[0] _ 0 0 B b _ w.drew rfl (hr.up (Below.drew (Below.refl _ _)) (Nat.le_refl _)) (hfa _ (List.getElem_mem _)) H0.out.drew.1 HL.out)
  have hlt : rb < w.heap.size := by have := Wr.lt H0.out.1; omega
  have h0i : (0 : Int) < (is.length : Int) := by omega
  clear hr hl h6 h1k h1 hfa
  go_enter Tryz.func77, Tryz.ntmps77
  go_wp2_with fail
  go_still_tail 5, (by kernel_rfl)
  change wpList _ _ _ _ _ w.drew
  go_wp2_with fail
  refine HC.out.mono ?_
  rintro e w1 ⟨rfl, hw1⟩
  go_wp2_with fail
  all_goals go_end0
  all_goals exact ⟨rfl, H0.out.drew.trans hw1⟩
 ·have h2 : of.length = 2 := hl
  have h0 : 0 < of.length := by omega
  have h1 : 1 < of.length := by omega
  have HT : Hid (inX n ((2, is, of, ⟨lo, ls, hi, hs, op⟩) : XT m (n + 1)) = prX Lib.itoa n of[0] 1 ++ ([124] : List UInt8) ++ prX Lib.itoa n of[1] 2) := by
   rw [Hid]; show (of.map fun x => prX Lib.itoa n x 1).getD 0 [] ++ [124] ++ (of.map fun x => prX Lib.itoa n x 2).getD 1 [] = _; simp [h0, h1]
  rw [HT.out] at HL ⊢
  have hlen := HL.out
  simp only [List.length_append, List.length_cons, List.length_nil] at hlen
  have HL := Lib.hid hlen
  clear hl h2 hlen h6 h1k
  have hat := HR.out.at 0 h0
  obtain ⟨rb, off, k', b1, l1, d1, b2, l2, d2, lo', ls', hi', hs', op', rfl, hbl, c0, c1', c2, c3, c4, c5, c6, c7, hr⟩ := hat
  simp only [Nat.zero_mul, Nat.add_zero] at c0 c1' c2 c3 c4 c5 c6 c7
  have HC := Lib.hid (HI.out of[0] _ 1 1 B b _ w.drew rfl (hr.up (Below.drew (Below.refl _ _)) (Nat.le_refl _)) (HA.out _ (List.getElem_mem _)) H0.out.drew.1 (HRD.out _ _ H0.out.drew) HBB.out (by have := HL.out; omega))
  have hlt : rb < w.heap.size := by have := Wr.lt H0.out.1; omega
  have h0i : (0 : Int) < (of.length : Int) := by omega
  clear hr
  go_enter Tryz.func77, Tryz.ntmps77
  go_wp2_with fail
  go_still_tail 6, (by kernel_rfl)
  change wpList _ _ _ _ _ w.drew
  go_wp2_with fail
  refine HC.out.mono ?_
  rintro e w1 ⟨rfl, hw1⟩
  have HW1 := Lib.hid (H0.out.drew.trans hw1)
  obtain ⟨x0, x1, x2, x3, x4, x5, x6, x7, y0, z0⟩ := HE.out _ w1 HW1.out
  have hself := hw1.1.wrote
  have HS1 : Hid (∀ W bs', Wrote B b bs' w1 W → W.cell? ⟨kw, 0, none⟩ = some (Value.pointer (some ⟨b, 0, none⟩)) ∧ W.cell? ⟨kn, 0, none⟩ = some (Value.int .i64 1)) := by
   intro W bs' hW
   have := HE.out _ W (HW1.out.trans hW)
   exact ⟨this.2.2.2.2.2.2.2.2.1, this.2.2.2.2.2.2.2.2.2⟩
  have HP : Hid (∀ (W : World) (g : Nat), Wrote B b (bs ++ Lib.byteCells (prX Lib.itoa n of[0] 1)) w1 W → W.heap[g]? = some (.cells #[.string ⟨#[124]⟩] 9 (0, 0)) →
   Calls Tryz.prog 79 #[.pointer (some ⟨b, 0, none⟩), .slice (some ⟨g, 0, none⟩) 1 1] W fun e w' => e = .returned (.tuple #[]) ∧ Wrote B b ((bs ++ Lib.byteCells (prX Lib.itoa n of[0] 1)) ++ Lib.strCells ⟨#[124]⟩) w1 w') :=
   fun W g h1 h2 => put1 B b _ _ w1 W h1 g h2 (by have := HL.out; simp [Lib.byteCells_length, ByteArray.size]; omega)
  clear hw1 x0 x1 x2 x3 x4 x5 x6 x7 c0 c1' c2 c3 c4 c5 c6 c7 hlt
  go_wp2_with fail
  refine wp_region_held_drew (S := fun w' => w'.cell? ⟨kw, 0, none⟩ = some (Value.pointer (some ⟨b, 0, none⟩)) ∧ w'.cell? ⟨kn, 0, none⟩ = some (Value.int .i64 1)) (by kernel_rfl) (HS1.out _ _ hself.drew) (fun hHeld => ?_)
  refine wpAnyH_take (i := 0) (v := ?_) rfl (by kernel_rfl) (by kernel_rfl) (by kernel_rfl) (fun _ _ _ h => h) (Or.inl ⟨by kernel_rfl, ?_⟩) (by assumption) ?_
  rotate_left
  ·(intro w hSw; (try dsimp only at hSw); go_simp)
   with_reducible rfl
  try simp only [Act.put, List.setIfInBounds_toArray]
  refine wpAnyH_take (i := 2) (v := ?_) rfl (by kernel_rfl) (by kernel_rfl) (by kernel_rfl) (fun _ _ _ h => h) (Or.inl ⟨by kernel_rfl, ?_⟩) (by assumption) ?_
  rotate_left
  ·(intro w hSw; (try dsimp only at hSw); go_simp)
   with_reducible rfl
  try simp only [Act.put]
  refine wpAnyH_take (i := 3) (v := ?_) rfl (by kernel_rfl) (by kernel_rfl) (by kernel_rfl) (fun _ _ _ h => h) (Or.inl ⟨by kernel_rfl, ?_⟩) (by assumption) ?_
  rotate_left
  ·(intro w hSw; (try dsimp only at hSw); go_simp)
   with_reducible rfl
  try simp only [Act.put]
  refine wpAnyH_ready (rs := [1]) (by kernel_rfl) (by simp) ?_
  refine AllReadyH.cons rfl (fun K hK => ?_) AllReadyH.nil
  go_simp
  refine hK.out _ _ (HS1.out _ _ (show Wrote B b (bs ++ Lib.byteCells (prX Lib.itoa n of[0] 1)) w1 _ by repeat (first | assumption | refine Wrote.drew ?_ | refine Wrote.alloc ?_ _))) (fun hHeld => ?_)
  clear hK K
  try simp only [Act.put, List.setIfInBounds_toArray, List.set_cons_zero, List.set_cons_succ]
  refine wpAnyH_ready (rs := [4]) (by kernel_rfl) (by simp) ?_
  refine AllReadyH.cons rfl (fun K hK => ?_) AllReadyH.nil
  go_simp
  refine hK.out _ _ (HS1.out _ _ (show Wrote B b (bs ++ Lib.byteCells (prX Lib.itoa n of[0] 1)) w1 _ by repeat (first | assumption | refine Wrote.drew ?_ | refine Wrote.alloc ?_ _))) (fun hHeld => ?_)
  clear hK K
  try simp only [Act.put, List.setIfInBounds_toArray, List.set_cons_zero, List.set_cons_succ]
  refine wpAnyH_ready (rs := [5]) (by kernel_rfl) (by simp) ?_
  refine AllReadyH.cons rfl (fun K hK => ?_) AllReadyH.nil
  go_simp
  refine hK.out _ _ (HS1.out _ _ (show Wrote B b (bs ++ Lib.byteCells (prX Lib.itoa n of[0] 1)) w1 _ by repeat (first | assumption | refine Wrote.drew ?_ | refine Wrote.alloc ?_ _))) (fun hHeld => ?_)
  clear hK K
  try simp only [Act.put, List.setIfInBounds_toArray, List.set_cons_zero, List.set_cons_succ]
  refine wpAnyH_ready (rs := [6]) (by kernel_rfl) (by simp) ?_
  refine AllReadyH.cons rfl (fun K hK => ?_) AllReadyH.nil
  go_simp
  refine hK.out _ _ (HS1.out _ _ (show Wrote B b (bs ++ Lib.byteCells (prX Lib.itoa n of[0] 1)) w1 _ by repeat (first | assumption | refine Wrote.drew ?_ | refine Wrote.alloc ?_ _))) (fun hHeld => ?_)
  clear hK K
  try simp only [Act.put, List.setIfInBounds_toArray, List.set_cons_zero, List.set_cons_succ]
  refine wpAnyH_ready (rs := [7]) (by kernel_rfl) (by simp) ?_
  refine AllReadyH.cons rfl (fun K hK => ?_) AllReadyH.nil
  go_simp
  go_at_call 79
  refine (HP.out _ _ (by repeat (first | assumption | refine Wrote.drew ?_ | refine Wrote.alloc ?_ _)) (by first | exact row2 _ _ _ | exact Array.getElem?_push_size)).mono ?_
  rintro e wz ⟨rfl, hwz⟩
  dsimp only
  refine hK.out _ _ (HS1.out _ _ hwz) (fun hHeld => ?_)
  clear hK K
  try simp only [Act.put, List.setIfInBounds_toArray, List.set_cons_zero, List.set_cons_succ]
  refine wpAnyH_done (by kernel_rfl) ?_ _
  have hwz : Wrote B b ((bs ++ Lib.byteCells (prX Lib.itoa n of[0] 1)) ++ Lib.strCells ⟨#[124]⟩) w1 wz := by assumption
  have HW2 := Lib.hid (HW1.out.trans hwz)
  obtain ⟨x0, x1, x2, x3, x4, x5, x6, x7, y0, z0⟩ := HE.out _ wz HW2.out
  have hat := (XRow.up HR.out HW2.out.2.1 (Nat.le_refl _)).at 1 h1
  obtain ⟨rb', off', k', b1, l1, d1, b2, l2, d2, lo', ls', hi', hs', op', hea, hbl', c0, c1', c2, c3, c4, c5, c6, c7, hr⟩ := hat
  injection hea with hea
  injection hea with hea1 hea2
  subst hea1 hea2
  simp only [Nat.one_mul] at c0 c1' c2 c3 c4 c5 c6 c7
  have q1 : wz.cell? ⟨rb, off + 9, none⟩ = some (.slice b1 l1 d1) := c1'
  have q2 : wz.cell? ⟨rb, off + 10, none⟩ = some (.slice b2 l2 d2) := c2
  have q3 : wz.cell? ⟨rb, off + 11, none⟩ = some (.int .i64 lo') := c3
  have q4 : wz.cell? ⟨rb, off + 12, none⟩ = some (.bool ls') := c4
  have q5 : wz.cell? ⟨rb, off + 13, none⟩ = some (.int .i64 hi') := c5
  have q6 : wz.cell? ⟨rb, off + 14, none⟩ = some (.bool hs') := c6
  have q7 : wz.cell? ⟨rb, off + 15, none⟩ = some (.bool op') := c7
  have h1i : (1 : Int) < (of.length : Int) := by omega
  have HC2 := Lib.hid (HI.out of[1] _ 2 2 B b _ wz.drew rfl (hr.up (Below.drew (Below.refl _ _)) (Nat.le_refl _)) (HA.out _ (List.getElem_mem _)) HW2.out.drew.1 (HRD.out _ _ HW2.out.drew) HBB.out (by have := HL.out; simp [Lib.byteCells_length, Lib.strCells_length, ByteArray.size]; omega))
  have hlt : rb < wz.heap.size := by have := Wr.lt HW2.out.1; omega
  clear hr hself hwz HS1 HP HC
  go_wp2_with fail
  go_still_tail 7, (by kernel_rfl)
  change wpList _ _ _ _ _ wz.drew
  go_wp2_with fail
  refine HC2.out.mono ?_
  rintro e w3 ⟨rfl, hw3⟩
  go_wp2_with fail
  all_goals go_end0
  all_goals exact ⟨rfl, by have := HW2.out.drew.trans hw3; rw [bytes_app, bytes_app]; simp only [List.append_assoc] at this ⊢; exact this⟩
 ·have h2 : of.length = 2 := hl
  have h0 : 0 < of.length := by omega
  have h1 : 1 < of.length := by omega
  have HT : Hid (inX n ((3, is, of, ⟨lo, ls, hi, hs, op⟩) : XT m (n + 1)) = prX Lib.itoa n of[0] 2 ++ ([38] : List UInt8) ++ prX Lib.itoa n of[1] 3) := by
   rw [Hid]; show (of.map fun x => prX Lib.itoa n x 2).getD 0 [] ++ [38] ++ (of.map fun x => prX Lib.itoa n x 3).getD 1 [] = _; simp [h0, h1]
  rw [HT.out] at HL ⊢
  have hlen := HL.out
  simp only [List.length_append, List.length_cons, List.length_nil] at hlen
  have HL := Lib.hid hlen
  clear hl h2 hlen h6 h1k
  have hat := HR.out.at 0 h0
  obtain ⟨rb, off, k', b1, l1, d1, b2, l2, d2, lo', ls', hi', hs', op', rfl, hbl, c0, c1', c2, c3, c4, c5, c6, c7, hr⟩ := hat
  simp only [Nat.zero_mul, Nat.add_zero] at c0 c1' c2 c3 c4 c5 c6 c7
  have HC := Lib.hid (HI.out of[0] _ 2 2 B b _ w.drew rfl (hr.up (Below.drew (Below.refl _ _)) (Nat.le_refl _)) (HA.out _ (List.getElem_mem _)) H0.out.drew.1 (HRD.out _ _ H0.out.drew) HBB.out (by have := HL.out; omega))
  have hlt : rb < w.heap.size := by have := Wr.lt H0.out.1; omega
  have h0i : (0 : Int) < (of.length : Int) := by omega
  clear hr
  go_enter Tryz.func77, Tryz.ntmps77
  go_wp2_with fail
  go_still_tail 6, (by kernel_rfl)
  change wpList _ _ _ _ _ w.drew
  go_wp2_with fail
  refine HC.out.mono ?_
  rintro e w1 ⟨rfl, hw1⟩
  have HW1 := Lib.hid (H0.out.drew.trans hw1)
  obtain ⟨x0, x1, x2, x3, x4, x5, x6, x7, y0, z0⟩ := HE.out _ w1 HW1.out
  have hself := hw1.1.wrote
  have HS1 : Hid (∀ W bs', Wrote B b bs' w1 W → W.cell? ⟨kw, 0, none⟩ = some (Value.pointer (some ⟨b, 0, none⟩)) ∧ W.cell? ⟨kn, 0, none⟩ = some (Value.int .i64 2)) := by
   intro W bs' hW
   have := HE.out _ W (HW1.out.trans hW)
   exact ⟨this.2.2.2.2.2.2.2.2.1, this.2.2.2.2.2.2.2.2.2⟩
  have HP : Hid (∀ (W : World) (g : Nat), Wrote B b (bs ++ Lib.byteCells (prX Lib.itoa n of[0] 2)) w1 W → W.heap[g]? = some (.cells #[.string ⟨#[38]⟩] 9 (0, 0)) →
   Calls Tryz.prog 79 #[.pointer (some ⟨b, 0, none⟩), .slice (some ⟨g, 0, none⟩) 1 1] W fun e w' => e = .returned (.tuple #[]) ∧ Wrote B b ((bs ++ Lib.byteCells (prX Lib.itoa n of[0] 2)) ++ Lib.strCells ⟨#[38]⟩) w1 w') :=
   fun W g h1 h2 => put1 B b _ _ w1 W h1 g h2 (by have := HL.out; simp [Lib.byteCells_length, ByteArray.size]; omega)
  clear hw1 x0 x1 x2 x3 x4 x5 x6 x7 c0 c1' c2 c3 c4 c5 c6 c7 hlt
  go_wp2_with fail
  refine wp_region_held_drew (S := fun w' => w'.cell? ⟨kw, 0, none⟩ = some (Value.pointer (some ⟨b, 0, none⟩)) ∧ w'.cell? ⟨kn, 0, none⟩ = some (Value.int .i64 2)) (by kernel_rfl) (HS1.out _ _ hself.drew) (fun hHeld => ?_)
  refine wpAnyH_take (i := 0) (v := ?_) rfl (by kernel_rfl) (by kernel_rfl) (by kernel_rfl) (fun _ _ _ h => h) (Or.inl ⟨by kernel_rfl, ?_⟩) (by assumption) ?_
  rotate_left
  ·(intro w hSw; (try dsimp only at hSw); go_simp)
   with_reducible rfl
  try simp only [Act.put, List.setIfInBounds_toArray]
  refine wpAnyH_take (i := 2) (v := ?_) rfl (by kernel_rfl) (by kernel_rfl) (by kernel_rfl) (fun _ _ _ h => h) (Or.inl ⟨by kernel_rfl, ?_⟩) (by assumption) ?_
  rotate_left
  ·(intro w hSw; (try dsimp only at hSw); go_simp)
   with_reducible rfl
  try simp only [Act.put]
  refine wpAnyH_take (i := 3) (v := ?_) rfl (by kernel_rfl) (by kernel_rfl) (by kernel_rfl) (fun _ _ _ h => h) (Or.inl ⟨by kernel_rfl, ?_⟩) (by assumption) ?_
  rotate_left
  ·(intro w hSw; (try dsimp only at hSw); go_simp)
   with_reducible rfl
  try simp only [Act.put]
  refine wpAnyH_ready (rs := [1]) (by kernel_rfl) (by simp) ?_
  refine AllReadyH.cons rfl (fun K hK => ?_) AllReadyH.nil
  go_simp
  refine hK.out _ _ (HS1.out _ _ (show Wrote B b (bs ++ Lib.byteCells (prX Lib.itoa n of[0] 2)) w1 _ by repeat (first | assumption | refine Wrote.drew ?_ | refine Wrote.alloc ?_ _))) (fun hHeld => ?_)
  clear hK K
  try simp only [Act.put, List.setIfInBounds_toArray, List.set_cons_zero, List.set_cons_succ]
  refine wpAnyH_ready (rs := [4]) (by kernel_rfl) (by simp) ?_
  refine AllReadyH.cons rfl (fun K hK => ?_) AllReadyH.nil
  go_simp
  refine hK.out _ _ (HS1.out _ _ (show Wrote B b (bs ++ Lib.byteCells (prX Lib.itoa n of[0] 2)) w1 _ by repeat (first | assumption | refine Wrote.drew ?_ | refine Wrote.alloc ?_ _))) (fun hHeld => ?_)
  clear hK K
  try simp only [Act.put, List.setIfInBounds_toArray, List.set_cons_zero, List.set_cons_succ]
  refine wpAnyH_ready (rs := [5]) (by kernel_rfl) (by simp) ?_
  refine AllReadyH.cons rfl (fun K hK => ?_) AllReadyH.nil
  go_simp
  refine hK.out _ _ (HS1.out _ _ (show Wrote B b (bs ++ Lib.byteCells (prX Lib.itoa n of[0] 2)) w1 _ by repeat (first | assumption | refine Wrote.drew ?_ | refine Wrote.alloc ?_ _))) (fun hHeld => ?_)
  clear hK K
  try simp only [Act.put, List.setIfInBounds_toArray, List.set_cons_zero, List.set_cons_succ]
  refine wpAnyH_ready (rs := [6]) (by kernel_rfl) (by simp) ?_
  refine AllReadyH.cons rfl (fun K hK => ?_) AllReadyH.nil
  go_simp
  refine hK.out _ _ (HS1.out _ _ (show Wrote B b (bs ++ Lib.byteCells (prX Lib.itoa n of[0] 2)) w1 _ by repeat (first | assumption | refine Wrote.drew ?_ | refine Wrote.alloc ?_ _))) (fun hHeld => ?_)
  clear hK K
  try simp only [Act.put, List.setIfInBounds_toArray, List.set_cons_zero, List.set_cons_succ]
  refine wpAnyH_ready (rs := [7]) (by kernel_rfl) (by simp) ?_
  refine AllReadyH.cons rfl (fun K hK => ?_) AllReadyH.nil
  go_simp
  go_at_call 79
  refine (HP.out _ _ (by repeat (first | assumption | refine Wrote.drew ?_ | refine Wrote.alloc ?_ _)) (by first | exact row2 _ _ _ | exact Array.getElem?_push_size)).mono ?_
  rintro e wz ⟨rfl, hwz⟩
  dsimp only
  refine hK.out _ _ (HS1.out _ _ hwz) (fun hHeld => ?_)
  clear hK K
  try simp only [Act.put, List.setIfInBounds_toArray, List.set_cons_zero, List.set_cons_succ]
  refine wpAnyH_done (by kernel_rfl) ?_ _
  have hwz : Wrote B b ((bs ++ Lib.byteCells (prX Lib.itoa n of[0] 2)) ++ Lib.strCells ⟨#[38]⟩) w1 wz := by assumption
  have HW2 := Lib.hid (HW1.out.trans hwz)
  obtain ⟨x0, x1, x2, x3, x4, x5, x6, x7, y0, z0⟩ := HE.out _ wz HW2.out
  have hat := (XRow.up HR.out HW2.out.2.1 (Nat.le_refl _)).at 1 h1
  obtain ⟨rb', off', k', b1, l1, d1, b2, l2, d2, lo', ls', hi', hs', op', hea, hbl', c0, c1', c2, c3, c4, c5, c6, c7, hr⟩ := hat
  injection hea with hea
  injection hea with hea1 hea2
  subst hea1 hea2
  simp only [Nat.one_mul] at c0 c1' c2 c3 c4 c5 c6 c7
  have q1 : wz.cell? ⟨rb, off + 9, none⟩ = some (.slice b1 l1 d1) := c1'
  have q2 : wz.cell? ⟨rb, off + 10, none⟩ = some (.slice b2 l2 d2) := c2
  have q3 : wz.cell? ⟨rb, off + 11, none⟩ = some (.int .i64 lo') := c3
  have q4 : wz.cell? ⟨rb, off + 12, none⟩ = some (.bool ls') := c4
  have q5 : wz.cell? ⟨rb, off + 13, none⟩ = some (.int .i64 hi') := c5
  have q6 : wz.cell? ⟨rb, off + 14, none⟩ = some (.bool hs') := c6
  have q7 : wz.cell? ⟨rb, off + 15, none⟩ = some (.bool op') := c7
  have h1i : (1 : Int) < (of.length : Int) := by omega
  have HC2 := Lib.hid (HI.out of[1] _ 3 3 B b _ wz.drew rfl (hr.up (Below.drew (Below.refl _ _)) (Nat.le_refl _)) (HA.out _ (List.getElem_mem _)) HW2.out.drew.1 (HRD.out _ _ HW2.out.drew) HBB.out (by have := HL.out; simp [Lib.byteCells_length, Lib.strCells_length, ByteArray.size]; omega))
  have hlt : rb < wz.heap.size := by have := Wr.lt HW2.out.1; omega
  clear hr hself hwz HS1 HP HC
  go_wp2_with fail
  go_still_tail 7, (by kernel_rfl)
  change wpList _ _ _ _ _ wz.drew
  go_wp2_with fail
  refine HC2.out.mono ?_
  rintro e w3 ⟨rfl, hw3⟩
  go_wp2_with fail
  all_goals go_end0
  all_goals exact ⟨rfl, by have := HW2.out.drew.trans hw3; rw [bytes_app, bytes_app]; simp only [List.append_assoc] at this ⊢; exact this⟩
 ·have h2 : of.length = 2 := hl
  have h0 : 0 < of.length := by omega
  have h1 : 1 < of.length := by omega
  have HT : Hid (inX n ((4, is, of, ⟨lo, ls, hi, hs, op⟩) : XT m (n + 1)) = prX Lib.itoa n of[0] 3 ++ ([59] : List UInt8) ++ prX Lib.itoa n of[1] 4) := by
   rw [Hid]; show (of.map fun x => prX Lib.itoa n x 3).getD 0 [] ++ [59] ++ (of.map fun x => prX Lib.itoa n x 4).getD 1 [] = _; simp [h0, h1]
  rw [HT.out] at HL ⊢
  have hlen := HL.out
  simp only [List.length_append, List.length_cons, List.length_nil] at hlen
  have HL := Lib.hid hlen
  clear hl h2 hlen h6 h1k
  have hat := HR.out.at 0 h0
  obtain ⟨rb, off, k', b1, l1, d1, b2, l2, d2, lo', ls', hi', hs', op', rfl, hbl, c0, c1', c2, c3, c4, c5, c6, c7, hr⟩ := hat
  simp only [Nat.zero_mul, Nat.add_zero] at c0 c1' c2 c3 c4 c5 c6 c7
  have HC := Lib.hid (HI.out of[0] _ 3 3 B b _ w.drew rfl (hr.up (Below.drew (Below.refl _ _)) (Nat.le_refl _)) (HA.out _ (List.getElem_mem _)) H0.out.drew.1 (HRD.out _ _ H0.out.drew) HBB.out (by have := HL.out; omega))
  have hlt : rb < w.heap.size := by have := Wr.lt H0.out.1; omega
  have h0i : (0 : Int) < (of.length : Int) := by omega
  clear hr
  go_enter Tryz.func77, Tryz.ntmps77
  go_wp2_with fail
  go_still_tail 6, (by kernel_rfl)
  change wpList _ _ _ _ _ w.drew
  go_wp2_with fail
  refine HC.out.mono ?_
  rintro e w1 ⟨rfl, hw1⟩
  have HW1 := Lib.hid (H0.out.drew.trans hw1)
  obtain ⟨x0, x1, x2, x3, x4, x5, x6, x7, y0, z0⟩ := HE.out _ w1 HW1.out
  have hself := hw1.1.wrote
  have HS1 : Hid (∀ W bs', Wrote B b bs' w1 W → W.cell? ⟨kw, 0, none⟩ = some (Value.pointer (some ⟨b, 0, none⟩)) ∧ W.cell? ⟨kn, 0, none⟩ = some (Value.int .i64 3)) := by
   intro W bs' hW
   have := HE.out _ W (HW1.out.trans hW)
   exact ⟨this.2.2.2.2.2.2.2.2.1, this.2.2.2.2.2.2.2.2.2⟩
  have HP : Hid (∀ (W : World) (g : Nat), Wrote B b (bs ++ Lib.byteCells (prX Lib.itoa n of[0] 3)) w1 W → W.heap[g]? = some (.cells #[.string ⟨#[59]⟩] 9 (0, 0)) →
   Calls Tryz.prog 79 #[.pointer (some ⟨b, 0, none⟩), .slice (some ⟨g, 0, none⟩) 1 1] W fun e w' => e = .returned (.tuple #[]) ∧ Wrote B b ((bs ++ Lib.byteCells (prX Lib.itoa n of[0] 3)) ++ Lib.strCells ⟨#[59]⟩) w1 w') :=
   fun W g h1 h2 => put1 B b _ _ w1 W h1 g h2 (by have := HL.out; simp [Lib.byteCells_length, ByteArray.size]; omega)
  clear hw1 x0 x1 x2 x3 x4 x5 x6 x7 c0 c1' c2 c3 c4 c5 c6 c7 hlt
  go_wp2_with fail
  refine wp_region_held_drew (S := fun w' => w'.cell? ⟨kw, 0, none⟩ = some (Value.pointer (some ⟨b, 0, none⟩)) ∧ w'.cell? ⟨kn, 0, none⟩ = some (Value.int .i64 3)) (by kernel_rfl) (HS1.out _ _ hself.drew) (fun hHeld => ?_)
  refine wpAnyH_take (i := 0) (v := ?_) rfl (by kernel_rfl) (by kernel_rfl) (by kernel_rfl) (fun _ _ _ h => h) (Or.inl ⟨by kernel_rfl, ?_⟩) (by assumption) ?_
  rotate_left
  ·(intro w hSw; (try dsimp only at hSw); go_simp)
   with_reducible rfl
  try simp only [Act.put, List.setIfInBounds_toArray]
  refine wpAnyH_take (i := 2) (v := ?_) rfl (by kernel_rfl) (by kernel_rfl) (by kernel_rfl) (fun _ _ _ h => h) (Or.inl ⟨by kernel_rfl, ?_⟩) (by assumption) ?_
  rotate_left
  ·(intro w hSw; (try dsimp only at hSw); go_simp)
   with_reducible rfl
  try simp only [Act.put]
  refine wpAnyH_take (i := 3) (v := ?_) rfl (by kernel_rfl) (by kernel_rfl) (by kernel_rfl) (fun _ _ _ h => h) (Or.inl ⟨by kernel_rfl, ?_⟩) (by assumption) ?_
  rotate_left
  ·(intro w hSw; (try dsimp only at hSw); go_simp)
   with_reducible rfl
  try simp only [Act.put]
  refine wpAnyH_ready (rs := [1]) (by kernel_rfl) (by simp) ?_
  refine AllReadyH.cons rfl (fun K hK => ?_) AllReadyH.nil
  go_simp
  refine hK.out _ _ (HS1.out _ _ (show Wrote B b (bs ++ Lib.byteCells (prX Lib.itoa n of[0] 3)) w1 _ by repeat (first | assumption | refine Wrote.drew ?_ | refine Wrote.alloc ?_ _))) (fun hHeld => ?_)
  clear hK K
  try simp only [Act.put, List.setIfInBounds_toArray, List.set_cons_zero, List.set_cons_succ]
  refine wpAnyH_ready (rs := [4]) (by kernel_rfl) (by simp) ?_
  refine AllReadyH.cons rfl (fun K hK => ?_) AllReadyH.nil
  go_simp
  refine hK.out _ _ (HS1.out _ _ (show Wrote B b (bs ++ Lib.byteCells (prX Lib.itoa n of[0] 3)) w1 _ by repeat (first | assumption | refine Wrote.drew ?_ | refine Wrote.alloc ?_ _))) (fun hHeld => ?_)
  clear hK K
  try simp only [Act.put, List.setIfInBounds_toArray, List.set_cons_zero, List.set_cons_succ]
  refine wpAnyH_ready (rs := [5]) (by kernel_rfl) (by simp) ?_
  refine AllReadyH.cons rfl (fun K hK => ?_) AllReadyH.nil
  go_simp
  refine hK.out _ _ (HS1.out _ _ (show Wrote B b (bs ++ Lib.byteCells (prX Lib.itoa n of[0] 3)) w1 _ by repeat (first | assumption | refine Wrote.drew ?_ | refine Wrote.alloc ?_ _))) (fun hHeld => ?_)
  clear hK K
  try simp only [Act.put, List.setIfInBounds_toArray, List.set_cons_zero, List.set_cons_succ]
  refine wpAnyH_ready (rs := [6]) (by kernel_rfl) (by simp) ?_
  refine AllReadyH.cons rfl (fun K hK => ?_) AllReadyH.nil
  go_simp
  refine hK.out _ _ (HS1.out _ _ (show Wrote B b (bs ++ Lib.byteCells (prX Lib.itoa n of[0] 3)) w1 _ by repeat (first | assumption | refine Wrote.drew ?_ | refine Wrote.alloc ?_ _))) (fun hHeld => ?_)
  clear hK K
  try simp only [Act.put, List.setIfInBounds_toArray, List.set_cons_zero, List.set_cons_succ]
  refine wpAnyH_ready (rs := [7]) (by kernel_rfl) (by simp) ?_
  refine AllReadyH.cons rfl (fun K hK => ?_) AllReadyH.nil
  go_simp
  go_at_call 79
  refine (HP.out _ _ (by repeat (first | assumption | refine Wrote.drew ?_ | refine Wrote.alloc ?_ _)) (by first | exact row2 _ _ _ | exact Array.getElem?_push_size)).mono ?_
  rintro e wz ⟨rfl, hwz⟩
  dsimp only
  refine hK.out _ _ (HS1.out _ _ hwz) (fun hHeld => ?_)
  clear hK K
  try simp only [Act.put, List.setIfInBounds_toArray, List.set_cons_zero, List.set_cons_succ]
  refine wpAnyH_done (by kernel_rfl) ?_ _
  have hwz : Wrote B b ((bs ++ Lib.byteCells (prX Lib.itoa n of[0] 3)) ++ Lib.strCells ⟨#[59]⟩) w1 wz := by assumption
  have HW2 := Lib.hid (HW1.out.trans hwz)
  obtain ⟨x0, x1, x2, x3, x4, x5, x6, x7, y0, z0⟩ := HE.out _ wz HW2.out
  have hat := (XRow.up HR.out HW2.out.2.1 (Nat.le_refl _)).at 1 h1
  obtain ⟨rb', off', k', b1, l1, d1, b2, l2, d2, lo', ls', hi', hs', op', hea, hbl', c0, c1', c2, c3, c4, c5, c6, c7, hr⟩ := hat
  injection hea with hea
  injection hea with hea1 hea2
  subst hea1 hea2
  simp only [Nat.one_mul] at c0 c1' c2 c3 c4 c5 c6 c7
  have q1 : wz.cell? ⟨rb, off + 9, none⟩ = some (.slice b1 l1 d1) := c1'
  have q2 : wz.cell? ⟨rb, off + 10, none⟩ = some (.slice b2 l2 d2) := c2
  have q3 : wz.cell? ⟨rb, off + 11, none⟩ = some (.int .i64 lo') := c3
  have q4 : wz.cell? ⟨rb, off + 12, none⟩ = some (.bool ls') := c4
  have q5 : wz.cell? ⟨rb, off + 13, none⟩ = some (.int .i64 hi') := c5
  have q6 : wz.cell? ⟨rb, off + 14, none⟩ = some (.bool hs') := c6
  have q7 : wz.cell? ⟨rb, off + 15, none⟩ = some (.bool op') := c7
  have h1i : (1 : Int) < (of.length : Int) := by omega
  have HC2 := Lib.hid (HI.out of[1] _ 4 4 B b _ wz.drew rfl (hr.up (Below.drew (Below.refl _ _)) (Nat.le_refl _)) (HA.out _ (List.getElem_mem _)) HW2.out.drew.1 (HRD.out _ _ HW2.out.drew) HBB.out (by have := HL.out; simp [Lib.byteCells_length, Lib.strCells_length, ByteArray.size]; omega))
  have hlt : rb < wz.heap.size := by have := Wr.lt HW2.out.1; omega
  clear hr hself hwz HS1 HP HC
  go_wp2_with fail
  go_still_tail 7, (by kernel_rfl)
  change wpList _ _ _ _ _ wz.drew
  go_wp2_with fail
  refine HC2.out.mono ?_
  rintro e w3 ⟨rfl, hw3⟩
  go_wp2_with fail
  all_goals go_end0
  all_goals exact ⟨rfl, by have := HW2.out.drew.trans hw3; rw [bytes_app, bytes_app]; simp only [List.append_assoc] at this ⊢; exact this⟩
 ·have h1 : of.length = 1 := hl
  have h0 : 0 < of.length := by omega
  have HT : Hid (inX n ((5, is, of, ⟨lo, ls, hi, hs, op⟩) : XT m (n + 1)) = prX Lib.itoa n of[0] 4 ++ ([43] : List UInt8)) := by
   rw [Hid]; show (of.map fun x => prX Lib.itoa n x 4).getD 0 [] ++ [43] = _; simp [h0]
  rw [HT.out] at HL ⊢
  have hlen := HL.out
  simp only [List.length_append, List.length_cons, List.length_nil] at hlen
  have HL := Lib.hid hlen
  clear hl h1 hlen h6 h1k
  have hat := HR.out.at 0 h0
  obtain ⟨rb, off, k', b1, l1, d1, b2, l2, d2, lo', ls', hi', hs', op', rfl, hbl, c0, c1', c2, c3, c4, c5, c6, c7, hr⟩ := hat
  simp only [Nat.zero_mul, Nat.add_zero] at c0 c1' c2 c3 c4 c5 c6 c7
  have HC := Lib.hid (HI.out of[0] _ 4 4 B b _ w.drew rfl (hr.up (Below.drew (Below.refl _ _)) (Nat.le_refl _)) (HA.out _ (List.getElem_mem _)) H0.out.drew.1 (HRD.out _ _ H0.out.drew) HBB.out (by have := HL.out; omega))
  have hlt : rb < w.heap.size := by have := Wr.lt H0.out.1; omega
  have h0i : (0 : Int) < (of.length : Int) := by omega
  clear hr
  go_enter Tryz.func77, Tryz.ntmps77
  go_wp2_with fail
  go_still_tail 6, (by kernel_rfl)
  change wpList _ _ _ _ _ w.drew
  go_wp2_with fail
  refine HC.out.mono ?_
  rintro e w1 ⟨rfl, hw1⟩
  have HW1 := Lib.hid (H0.out.drew.trans hw1)
  obtain ⟨x0, x1, x2, x3, x4, x5, x6, x7, y0, z0⟩ := HE.out _ w1 HW1.out
  clear hw1 x0 x1 x2 x3 x4 x5 x6 x7 z0 c0 c1' c2 c3 c4 c5 c6 c7 hlt
  go_wp2_with fail
  refine (put1 B b _ _ w _ (HW1.out.alloc _) _ Array.getElem?_push_size (by have := HL.out; simp [Lib.byteCells_length, ByteArray.size]; omega)).mono ?_
  rintro e w2 ⟨rfl, hw2⟩
  go_wp2_with fail
  all_goals go_end0
  all_goals exact ⟨rfl, by rw [bytes_app, ← List.append_assoc]; exact hw2⟩
 ·have h1 : of.length = 1 := hl
  have h0 : 0 < of.length := by omega
  obtain ⟨r1, r2, r3, r4⟩ := iv_range (h6 rfl)
  dsimp only at r1 r2 r3 r4
  have HT : Hid (inX n ((6, is, of, ⟨lo, ls, hi, hs, op⟩) : XT m (n + 1)) = 60 :: prX Lib.itoa n of[0] 0 ++ [62, 95] ++ prI Lib.itoa ⟨lo, ls, hi, hs, op⟩) := by
   rw [Hid]; show 60 :: (of.map fun x => prX Lib.itoa n x 0).getD 0 [] ++ [62, 95] ++ prI Lib.itoa ⟨lo, ls, hi, hs, op⟩ = _; simp [h0]
  rw [HT.out] at HL ⊢
  have hlen := HL.out
  simp only [List.length_append, List.length_cons, List.length_nil] at hlen
  have HL := Lib.hid hlen
  have HIV : Hid (∀ (bs' : List Value) (W : World), Wrote B b bs' w W → bs'.length + (prI Lib.itoa ⟨lo, ls, hi, hs, op⟩).length ≤ 140737488355328 → Calls Tryz.prog 80 #[.pointer (some ⟨b, 0, none⟩), .agg #[.int .i64 lo, .bool ls, .int .i64 hi, .bool hs, .bool op]] W fun e w' => e = .returned (.tuple #[]) ∧ Wrote B b (bs' ++ Lib.byteCells (prI Lib.itoa ⟨lo, ls, hi, hs, op⟩)) W w') :=
   fun bs' W hW hl => interval80_any B b lo hi ls hs op bs' W hW.1 (HRD.out _ _ hW) HBB.out (by omega) (by omega) (by omega) (by omega) hl
  clear hl h1 hlen h6 h1k r1 r2 r3 r4
  go_enter Tryz.func77, Tryz.ntmps77
  go_wp2_with fail
  refine (put1 B b _ bs w _ (H0.out.alloc _) _ Array.getElem?_push_size (by have := HL.out; simp [ByteArray.size]; omega)).mono ?_
  rintro e w1 ⟨rfl, hw1⟩
  have HW1 := Lib.hid hw1
  obtain ⟨x0, x1, x2, x3, x4, x5, x6, x7, y0, z0⟩ := HE.out _ w1 hw1
  have hat := (XRow.up HR.out hw1.2.1 (Nat.le_refl _)).at 0 h0
  obtain ⟨rb, off, k', b1, l1, d1, b2, l2, d2, lo', ls', hi', hs', op', rfl, hbl, c0, c1', c2, c3, c4, c5, c6, c7, hr⟩ := hat
  simp only [Nat.zero_mul, Nat.add_zero] at c0 c1' c2 c3 c4 c5 c6 c7
  have HC := Lib.hid (HI.out of[0] _ 0 0 B b _ w1.drew rfl (hr.up (Below.drew (Below.refl _ _)) (Nat.le_refl _)) (HA.out _ (List.getElem_mem _)) hw1.drew.1 (HRD.out _ _ hw1.drew) HBB.out (by have := HL.out; simp [Lib.strCells_length, ByteArray.size]; omega))
  have hz := hw1.2.1.size
  have hlt : rb < w1.heap.size := by have := Wr.lt hw1.1; omega
  have h0i : (0 : Int) < (of.length : Int) := by omega
  clear hr hw1
  go_wp2_with fail
  go_still_tail 5, (by kernel_rfl)
  change wpList _ _ _ _ _ w1.drew
  go_wp2_with fail
  refine HC.out.mono ?_
  rintro e w2 ⟨rfl, hw2⟩
  have HW2 := Lib.hid (HW1.out.drew.trans hw2)
  obtain ⟨x0, x1, x2, x3, x4, x5, x6, x7, y0, z0⟩ := HE.out _ w2 HW2.out
  clear hw2 c0 c1' c2 c3 c4 c5 c6 c7 hlt hz
  go_wp2_with fail
  refine (put1 B b _ _ w _ (HW2.out.alloc _) _ Array.getElem?_push_size (by have := HL.out; simp [Lib.byteCells_length, Lib.strCells_length, ByteArray.size]; omega)).mono ?_
  rintro e w3 ⟨rfl, hw3⟩
  have HW3 := Lib.hid hw3
  obtain ⟨x0, x1, x2, x3, x4, x5, x6, x7, y0, z0⟩ := HE.out _ w3 hw3
  clear hw3
  go_wp2_with fail
  refine (HIV.out _ _ HW3.out (by have := HL.out; simp [Lib.byteCells_length, Lib.strCells_length, ByteArray.size]; omega)).mono ?_
  rintro e w4 ⟨rfl, hw4⟩
  go_wp2_with fail
  all_goals go_end0
  have e : Lib.byteCells (60 :: (prX Lib.itoa n of[0] 0 ++ [62, 95] ++ prI Lib.itoa ⟨lo, ls, hi, hs, op⟩)) = Lib.strCells ⟨#[60]⟩ ++ Lib.byteCells (prX Lib.itoa n of[0] 0) ++ Lib.strCells ⟨#[62, 95]⟩ ++ Lib.byteCells (prI Lib.itoa ⟨lo, ls, hi, hs, op⟩) := by simp [Lib.byteCells, Lib.strCells]
  all_goals exact ⟨rfl, by have := HW3.out.trans hw4; rw [e]; simp only [List.append_assoc] at this ⊢; exact this⟩
end Go.Proofs.YtpgdplmndnopbaaGreatDoor

/- The writer's tre walked: the call itself. -/
namespace Go.Proofs.YtpgdplmndnopbaaGreatDoor
open Go.RowKit
theorem Rdy.wrote {B b : Nat} {bs : List Value} {w w' : World} (hr : Rdy w) (hB : 4 ≤ B) (h : Wrote B b bs w w') : Rdy w' := Rdy.belowB hB hr h.2.1
set_option maxRecDepth 100000 in
set_option maxHeartbeats 8000000 in
theorem tre37_any (m : Nat) : ∀ n, TreWC m n := by
 intro n
 induction n with
 | zero => intro t v least li B b bs w _ h; exact h.elim
 | succ n ih =>
  intro t v least li B b bs w hli hf hall h hrd hB hlen
  obtain ⟨k, is, of, lo, ls, hi, hs, op⟩ := t
  obtain ⟨a1, c1, a, c, rfl, hF, hR⟩ := hf
  rw [allX_succ, Bool.and_eq_true, List.all_eq_true] at hall
  obtain ⟨hr1, hr2⟩ := hall
  have hp := prX_eqW n ((k, is, of, ⟨lo, ls, hi, hs, op⟩) : XT m (n + 1)) least
  rw [hp] at hlen ⊢
  clear hp
  dsimp only at hF hR hr1 hr2 hlen ⊢
  subst hli
  obtain ⟨W4, hW4⟩ : ∃ W4, W4 = (((w.alloc (.cells #[.pointer (some ⟨b, 0, none⟩)] 63)).alloc (.cells #[.int .u8 k, .slice a1 is.length c1, .slice a of.length c, .int .i64 lo, .bool ls, .int .i64 hi, .bool hs, .bool op] 28)).alloc (.cells #[.int .i64 0, .int .i64 5, .int .i64 1, .int .i64 2, .int .i64 3, .int .i64 4, .int .i64 5] 109)).alloc (.cells #[.int .i64 (heightX k)] 3) := ⟨_, rfl⟩
  have hwr : Wrote B b bs w W4 := by rw [hW4]; exact ((((h.wrote).alloc _).alloc _).alloc _).alloc _
  have e0 : W4.heap[w.heap.size]? = some (.cells #[.pointer (some ⟨b, 0, none⟩)] 63 (0, 0)) := by
   rw [hW4]; exact heap_in (heap_in (heap_in (heap_top rfl)))
  have e1 : W4.heap[w.heap.size + 1]? = some (.cells #[.int .u8 k, .slice a1 is.length c1, .slice a of.length c, .int .i64 lo, .bool ls, .int .i64 hi, .bool hs, .bool op] 28 (0, 0)) := by
   rw [hW4]; exact heap_in (heap_in (heap_top (by simp)))
  have e3 : W4.heap[w.heap.size + 3]? = some (.cells #[.int .i64 (heightX k)] 3 (0, 0)) := by
   rw [hW4]; exact heap_top (by simp)
  have HC : Hid (∀ is', is' = decide (heightX k < least) → Calls Tryz.prog 76 #[.pointer (some ⟨b, 0, none⟩), .bool is', .string ⟨#[40]⟩, .string ⟨#[41]⟩, .func (.func 77) #[] #[.pointer (some ⟨w.heap.size + 1, 0, none⟩), .pointer (some ⟨w.heap.size, 0, none⟩), .pointer (some ⟨w.heap.size + 3, 0, none⟩)]] W4
   fun e w' => e = .returned (.tuple #[]) ∧ Wrote B b (bs ++ Lib.byteCells (wrapP (decide (heightX k < least)) 40 41 (inX n ((k, is, of, ⟨lo, ls, hi, hs, op⟩) : XT m (n + 1))))) w w') := by
   rintro is' rfl
   refine (around76_any B b _ ⟨#[40]⟩ ⟨#[41]⟩ 77 _ bs (Lib.byteCells (inX n ((k, is, of, ⟨lo, ls, hi, hs, op⟩) : XT m (n + 1)))) W4 (ent_of Tryz.func77 (by kernel_rfl) (by kernel_rfl)) hwr.1 (by rw [← wrap_cells, Lib.byteCells_length]; exact hlen) ?_).mono ?_
   ·intro bs' w' hw' hl'
    exact clo77_any m n ih k lo hi ls hs op is of a1 a c1 c hr1 hr2 B b _ _ _ bs' w' (FRow.up hF (hwr.trans hw').2.1 (Nat.le_refl _)) (XRow.up hR (hwr.trans hw').2.1 (Nat.le_refl _)) hw'.1 (hrd.wrote hB (hwr.trans hw')) hB (hw'.kept e1 (hwr.1.ne e1 (by decide)) (by decide)) (hw'.kept e0 (hwr.1.ne e0 (by decide)) (by decide)) (hw'.kept e3 (hwr.1.ne e3 (by decide)) (by decide)) (by rwa [Lib.byteCells_length] at hl')
   ·rintro e w' ⟨rfl, hw⟩
    rw [← wrap_cells] at hw
    exact ⟨rfl, hwr.trans hw⟩
  have hmf : ∀ (fn : Fn) (first cap : Array Value) (w : World), (Instr.makeFunc fn first cap).run Tryz.prog w = .ok (.func fn first cap) w := fun _ _ _ _ => rfl
  rw [hW4] at HC
  have hk := (rightX_parts hr1).1
  clear e0 e1 e3 hwr h hR hF hr1 hr2 hlen ih hW4 hrd hB
  rcases hk with rfl | rfl | rfl | rfl | rfl | rfl
  all_goals
   go_enter Tryz.func37, Tryz.ntmps37
   go_wp2_with fail
   refine (HC.out _ (by unfold heightX; rw [Bool.eq_iff_iff, decide_eq_true_eq, decide_eq_true_eq]; simp <;> omega)).mono ?_
   rintro e w1 ⟨rfl, hw1⟩
   have HW := Lib.hid hw1
   clear hw1
   go_wp2_with fail
   all_goals go_end0
   all_goals exact ⟨rfl, HW.out⟩
end Go.Proofs.YtpgdplmndnopbaaGreatDoor

/- print.Print walked. -/
namespace Go.Proofs.YtpgdplmndnopbaaGreatDoor
open Go.RowKit
def textR {m : Nat} (names : List ByteArray) (n : Nat) (t : XT m n) : List UInt8 := if checkR names n t = 0 then prX Lib.itoa n t 0 else []
set_option maxRecDepth 100000 in
set_option maxHeartbeats 8000000 in
theorem print18_any (names : List ByteArray) (nv : Value) (hs : ∀ s ∈ names, s.size ≤ 1048576) (m n : Nat) (t : XT m n) (v : Value) (w : World) (hr : Rdy w) (hn : NRep w w.heap.size nv names) (hf : XRep w w.heap.size m n t v) (htx : tX n t ≤ 100000) :
 Calls Tryz.prog 18 #[nv, v] w fun e w' => e = .returned (.tuple #[.string ⟨(textR names n t).toArray⟩, .int .i64 (checkR names n t)]) ∧ Below w.heap.size w w' := by
 obtain ⟨k, a1, l1, c1, a, l, c, lo, ls, hi, hs', op, rfl⟩ := hf.shape
 obtain ⟨na, nc, rfl, _⟩ := id hn
 obtain ⟨W0, hW0⟩ : ∃ W0, W0 = w.alloc (.cells #[.int .u8 k, .slice a1 l1 c1, .slice a l c, .int .i64 lo, .bool ls, .int .i64 hi, .bool hs', .bool op] 28) := ⟨_, rfl⟩
 have hb0 : Below w.heap.size w W0 := by rw [hW0]; exact (Below.refl _ _).alloc (Nat.le_refl _) _
 have hx : W0.heap[w.heap.size]? = some (.cells #[.int .u8 k, .slice a1 l1 c1, .slice a l c, .int .i64 lo, .bool ls, .int .i64 hi, .bool hs', .bool op] 28 (0, 0)) := by rw [hW0]; exact heap_top rfl
 have hr0 := hr.below hb0
 have HCK := Lib.hid (check13_any names _ hs m n t _ W0 hr0 (hn.up hb0 hb0.size) (hf.up hb0 hb0.size))
 rw [hW0] at HCK
 by_cases hc : checkR names n t = 0
 ·have HT : Hid (textR names n t = prX Lib.itoa n t 0) := by rw [Hid, textR, if_pos hc]
  have hck := checkR_zero.1 hc
  have hlen := prX_len_right t 0 hck.2.1
  have hne := prX_ne (it := Lib.itoa) t 0 hck.2.1 (check_nm hc)
  have HTR : Hid (∀ w1 : World, Below W0.heap.size W0 w1 → Calls Tryz.prog 37 #[.pointer (some ⟨w1.heap.size, 0, none⟩), .agg #[.int .u8 k, .slice a1 l1 c1, .slice a l c, .int .i64 lo, .bool ls, .int .i64 hi, .bool hs', .bool op], .int .i64 0] (w1.alloc (.cells #[.pointer none, .slice none 0 0] 69)) fun e w2 =>
   e = .returned (.tuple #[]) ∧ Wr w.heap.size w1.heap.size (Lib.byteCells (prX Lib.itoa n t 0)) w2 ∧ Below w.heap.size w w2 ∧ w2.heap[w.heap.size]? = W0.heap[w.heap.size]?) := by
   intro w1 hb1
   have hsz := hb0.size
   have hz0 : W0.heap.size = w.heap.size + 1 := by rw [hW0]; simp
   have hsz1 := hb1.size
   have hb01 : Below w.heap.size w w1 := hb0.trans (hb1.mono hsz)
   have hba := hb01.alloc (by omega) (.cells #[.pointer none, .slice none 0 0] 69)
   have hwr : Wr w.heap.size w1.heap.size [] (w1.alloc (.cells #[.pointer none, .slice none 0 0] 69)) :=
    Or.inl (Lib.BuilderAtF.of ⟨by omega, .slice none 0 0, heap_top rfl, World.ownsRow_nil _ _ _ _, by simp [Value.ownBlock]⟩)
   refine (tre37_any m n t _ 0 0 w.heap.size w1.heap.size [] _ rfl (hf.up hba (Nat.le_refl _)) hck.2.1 hwr (hr.below hba) hr.lt (by simp; omega)).mono ?_
   rintro e w2 ⟨rfl, hw⟩
   have e1 : (w1.alloc (.cells #[.pointer none, .slice none 0 0] 69)).heap[w.heap.size]? = some (.cells #[.int .u8 k, .slice a1 l1 c1, .slice a l c, .int .i64 lo, .bool ls, .int .i64 hi, .bool hs', .bool op] 28 (0, 0)) :=
    heap_in ((hb1.block _ (by omega)).trans hx)
   exact ⟨rfl, by simpa using hw.1, hba.trans hw.2.1, (hw.kept e1 (by omega) (by decide)).trans hx.symm⟩
  have HST : Hid (∀ (b : Nat) (w2 : World), Wr w.heap.size b (Lib.byteCells (prX Lib.itoa n t 0)) w2 → Calls Tryz.prog 38 #[.pointer (some ⟨b, 0, none⟩)] w2 fun e w' => e = .returned (.string ⟨(prX Lib.itoa n t 0).toArray⟩) ∧ Wrote w.heap.size b (Lib.byteCells (prX Lib.itoa n t 0)) w2 w') :=
   fun b w2 h => string38_any w.heap.size b _ w2 h hne
  have HX := Lib.hid hx
  have HB0 := Lib.hid hb0
  have HC0 := Lib.hid hc
  have HCL : Hid (∀ w1, Below W0.heap.size W0 w1 → w1.heap[w.heap.size]? = W0.heap[w.heap.size]?) := fun w1 h => h.block _ (by rw [hW0]; simp)
  rw [hc] at HCK ⊢
  clear hr hn hf hs htx hb0 hx hr0 hck hlen hne hc
  go_enter Tryz.func18, Tryz.ntmps18
  go_wp2_with fail
  refine HCK.out.mono ?_
  rintro e w1 ⟨rfl, hb1⟩
  rw [← hW0] at hb1
  have HB1 := Lib.hid hb1
  have hx1 := (HCL.out _ hb1).trans HX.out
  have x0 := Lib.cell_of_heap hx1 0
  have x1 := Lib.cell_of_heap hx1 1
  have x2 := Lib.cell_of_heap hx1 2
  have x3 := Lib.cell_of_heap hx1 3
  have x4 := Lib.cell_of_heap hx1 4
  have x5 := Lib.cell_of_heap hx1 5
  have x6 := Lib.cell_of_heap hx1 6
  have x7 := Lib.cell_of_heap hx1 7
  have hlt : w.heap.size < w1.heap.size := (Array.getElem?_eq_some_iff.1 hx1).1
  simp only [List.getElem?_toArray, List.getElem?_cons_zero, List.getElem?_cons_succ] at x0 x1 x2 x3 x4 x5 x6 x7
  clear hb1 hx1 hW0
  go_wp2_with fail
  refine (HTR.out w1 HB1.out).mono ?_
  rintro e w2 ⟨rfl, h1, h2, h3⟩
  have HW2 := Lib.hid h1
  have HB2 := Lib.hid h2
  clear h1 h2 h3 x0 x1 x2 x3 x4 x5 x6 x7 hlt
  go_wp2_with fail
  refine (HST.out _ w2 HW2.out).mono ?_
  rintro e w3 ⟨rfl, hw3⟩
  have HW3 := Lib.hid (HB2.out.trans hw3.2.1)
  clear hw3
  go_wp2_with fail
  go_ret2
  exact ⟨by rw [HT.out]; rfl, HW3.out⟩
 ·have HT : Hid (textR names n t = []) := by rw [Hid, textR, if_neg hc]
  have HB0 := Lib.hid hb0
  have q : (checkR names n t != 0) = true := by simpa using hc
  clear hr hn hf hs htx hb0 hx hr0 hc
  go_enter Tryz.func18, Tryz.ntmps18
  go_wp2_with fail
  refine HCK.out.mono ?_
  rintro e w1 ⟨rfl, hb1⟩
  rw [← hW0] at hb1
  have HB1 := Lib.hid (HB0.out.trans (hb1.mono HB0.out.size))
  clear hb1 hW0
  go_wp2_with fail
  go_ret2
  exact ⟨by rw [HT.out]; rfl, HB1.out⟩
end Go.Proofs.YtpgdplmndnopbaaGreatDoor
