/- norm.normed walked: what is no chain; and all. (Printed by gen_nmy.py.) -/
import Derived.Test.YtpgdplmndnopbaaGreatDoorMhF
import Derived.Test.YtpgdplmndnopbaaGreatDoorMgI
namespace Go.Proofs.YtpgdplmndnopbaaGreatDoor
open Go.RowKit
def
 AnsN (y : YX) (lo hi : Nat) (w : World) (e : Ending) (w' : World) : Prop := (∃ k b1 n1 d1 b2 n2 d2 lo' ls hi' hs op, e = .returned (.agg #[.int .u8 k, .slice b1 n1 d1, .slice b2 n2 d2, .int .i64 lo', .bool ls, .int .i64 hi', .bool hs, .bool op]) ∧
 XI (pJ lo hi w.heap.size) w' (xY (Nm.norm y)) (.agg #[.int .u8 k, .slice b1 n1 d1, .slice b2 n2 d2, .int .i64 lo', .bool ls, .int .i64 hi', .bool hs, .bool op])) ∧ Kp lo hi w w'
theorem plus_five {y : YX} (ho : Nm.Ok y) (h : Nm.kind y = 5) : Nm.plus y = y := by
 cases y with
 | «at» f => exact absurd h (show (1 : Int) ≠ 5 by decide)
 | bin k a b => have := ho.1; exact absurd h (show k ≠ 5 by omega)
 | pl a => rfl
 | tm a i => exact absurd h (show (6 : Int) ≠ 5 by decide)
theorem XI.kind {p : Nat → Bool} {w : World} {y : YX} {k : Int} {r : List Value} (h : XI p w (xY y) (.agg (.int .u8 k :: r).toArray)) : k = Nm.kind y := by
 obtain ⟨m, n, t, h1, h2⟩ := h
 rw [xY_mk] at h1
 obtain ⟨a1, l1, c1, a2, l2, c2, hv⟩ := h2.known h1
 injection hv with hv
 have := congrArg Array.toList hv
 simp at this
 exact this.1
set_option maxRecDepth 100000 in
set_option maxHeartbeats 16000000 in
theorem normed_at (f : F) : NormC (.at f) := by
 intro hok v lo hi w hO hhi hsz
 obtain ⟨a1, c1, a, c, rfl⟩ := hO.shape
 obtain ⟨W2, hW2⟩ : ∃ W2, W2 = (w.alloc (.cells #[.int .u8 1, .slice a1 1 c1, .slice a 0 c, .int .i64 0, .bool false, .int .i64 0, .bool false, .bool false] 28)).alloc (.cells #[.int .u8 0, .slice none 0 0, .slice none 0 0, .int .i64 0, .bool false, .int .i64 0, .bool false, .bool false] 28) := ⟨_, rfl⟩
 have hb2 : Below w.heap.size w W2 := by rw [hW2]; exact ((Below.refl _ _).alloc (Nat.le_refl _) _).alloc (by simp) _
 have hx2 : W2.heap[w.heap.size]? = some (.cells #[.int .u8 1, .slice a1 1 c1, .slice a 0 c, .int .i64 0, .bool false, .int .i64 0, .bool false, .bool false] 28 (0, 0)) := by rw [hW2]; exact hp_in (hp_top rfl)
 have hr2 : W2.heap[w.heap.size + 1]? = some (.cells #[.int .u8 0, .slice none 0 0, .slice none 0 0, .int .i64 0, .bool false, .int .i64 0, .bool false, .bool false] 28 (0, 0)) := by rw [hW2]; exact hp_top (by simp)
 have HC67 : Hid (Calls Tryz.prog 67 #[.int .u8 1] W2 fun e w' => e = .returned (.bool false) ∧ w' = W2) := chain67_any 1 W2
 have HXI : Hid (∀ W3, W3 = tw8 W2 (w.heap.size + 1) (.int .u8 1) (.slice a1 1 c1) (.slice a 0 c) (.int .i64 0) (.bool false) (.int .i64 0) (.bool false) (.bool false) → W3.heap[w.heap.size + 1]? = some (.cells #[.int .u8 1, .slice a1 1 c1, .slice a 0 c, .int .i64 0, .bool false, .int .i64 0, .bool false, .bool false] 28 (0, 0)) ∧
  XI (pJ lo hi w.heap.size) W3 (xY (Nm.norm (Nm.Y.at f : YX))) (.agg #[.int .u8 1, .slice a1 1 c1, .slice a 0 c, .int .i64 0, .bool false, .int .i64 0, .bool false, .bool false]) ∧ Kp lo hi w W3) := by
  intro W3 hW3
  have hsame : ∀ b, b < w.heap.size → W3.heap[b]? = w.heap[b]? := fun b hb => by rw [hW3, tw8_other _ _ _ _ _ _ _ _ _ _ _ (by omega)]; exact hb2.block b hb
  have hz3 : w.heap.size ≤ W3.heap.size := by rw [hW3, tw8_size]; exact hb2.size
  refine ⟨by rw [hW3]; exact tw8_at hr2 _ _ _ _ _ _ _ _, hO.xi.go ⟨hz3, fun b hb hp => ⟨?_, hsame b hb⟩⟩, ?_⟩
  ·have := pI_iff.1 hp
   exact pJ_iff.2 (.inl this)
  ·rw [hW3]
   exact (Kp.of_below hb2).tw8 (Nat.le_succ _) _ _ _ _ _ _ _ _
 have x0 := Lib.cell_of_heap hx2 0
 have x1 := Lib.cell_of_heap hx2 1
 have x2 := Lib.cell_of_heap hx2 2
 have x3 := Lib.cell_of_heap hx2 3
 have x4 := Lib.cell_of_heap hx2 4
 have x5 := Lib.cell_of_heap hx2 5
 have x6 := Lib.cell_of_heap hx2 6
 have x7 := Lib.cell_of_heap hx2 7
 simp only [List.getElem?_toArray, List.getElem?_cons_zero, List.getElem?_cons_succ] at x0 x1 x2 x3 x4 x5 x6 x7
 have r0 := Lib.cell_of_heap hr2 0
 have r1 := Lib.cell_of_heap hr2 1
 have r2 := Lib.cell_of_heap hr2 2
 have r3 := Lib.cell_of_heap hr2 3
 have r4 := Lib.cell_of_heap hr2 4
 have r5 := Lib.cell_of_heap hr2 5
 have r6 := Lib.cell_of_heap hr2 6
 have r7 := Lib.cell_of_heap hr2 7
 simp only [List.getElem?_toArray, List.getElem?_cons_zero, List.getElem?_cons_succ] at r0 r1 r2 r3 r4 r5 r6 r7
 have f0 := Lib.frozen_of_heap hr2 0
 have f1 := Lib.frozen_of_heap hr2 1
 have f2 := Lib.frozen_of_heap hr2 2
 have f3 := Lib.frozen_of_heap hr2 3
 have f4 := Lib.frozen_of_heap hr2 4
 have f5 := Lib.frozen_of_heap hr2 5
 have f6 := Lib.frozen_of_heap hr2 6
 have f7 := Lib.frozen_of_heap hr2 7
 have hxl := (Array.getElem?_eq_some_iff.1 hx2).1
 have HW2 := Lib.hid hW2.symm
 clear hO hb2 hx2 hr2 hW2 hok hsz hhi
 show Calls Tryz.prog 70 #[.agg #[.int .u8 1, .slice a1 1 c1, .slice a 0 c, .int .i64 0, .bool false, .int .i64 0, .bool false, .bool false]] w _
 go_enter Tryz.func70, Tryz.ntmps70
 go_upto_region 1 with fail
 rw [HW2.out]
 clear HW2
 go_wp2_with fail
 refine HC67.out.mono ?_
 rintro e w3 ⟨rfl, hw3⟩
 rw [hw3]
 clear hw3
 go_wp2_with fail
 go_loopw [43] (fun i wr => i = .int .i64 0 ∧ wr = W2) (fun _ _ => 0)
 case atStart => exact ⟨rfl, rfl⟩
 case round =>
  obtain ⟨rfl, rfl⟩ := hrel
  go_wp2_with fail
  obtain ⟨h1, h2⟩ := HXI.out _ rfl
  refine bodyPost_ret (results_cell_row rfl _ _ _ _ _ _ _ rfl h1 Tryz.underlying28 rfl (by kernel_rfl)) rfl ?_
  exact ⟨⟨_, _, _, _, _, _, _, _, _, _, _, _, rfl, h2.1⟩, h2.2⟩
theorem OY.one {w : World} {y a : YX} {lo hi : Nat} {v : Value} (h : OY w y lo hi v) (hk : kidsY y = [a]) (his : isY y = []) :
 ∃ (a1 : Option Addr) (c1 g c mid1 mid2 : Nat) (va : List Value) (cur : Array Value), v = .agg #[.int .u8 (Nm.kind y), .slice a1 0 c1, .slice (some ⟨g, 0, none⟩) 1 c, .int .i64 (spnY y).low, .bool (spnY y).ls, .int .i64 (spnY y).high, .bool (spnY y).hs, .bool (spnY y).op] ∧ lo ≤ g ∧ g < mid1 ∧ mid2 ≤ hi ∧ w.heap[g]? = some (.cells cur 28 (0, 0)) ∧ (∀ j, j < 8 → cur[j]? = va[j]?) ∧
  va.length = 8 ∧ OY w a mid1 mid2 (.agg va.toArray) := by
 cases h with
 | @mk _ _ mid _ c1 c a1 a' es vs hf hlm hm hes hend hrow hv hkid =>
  have l2 : (kidsY y).length = 1 := by rw [hk]; rfl
  have l1 : (isY y).length = 0 := by rw [his]; rfl
  rcases hrow with h | ⟨g, rfl, hg1, hg2, cur, hc, hcs⟩
  ·rw [h] at hk; cases hk
  ·have h01 := hes 0 (by omega)
   have e0 : (kidsY y)[0]'(by omega) = a := by simp [hk]
   refine ⟨a1, c1, g, c, es 0, es 1, vs 0, cur, by rw [l1, l2], by omega, hg2, by rw [l2] at hend; exact hend, hc, fun j hj => ?_, hv 0 (by omega), ?_⟩
   ·have := hcs 0 (by omega) j hj
    rw [Nat.zero_mul, Nat.zero_add] at this
    exact this
   ·have := hkid 0 (by omega)
    rw [e0] at this
    exact this
structure One (w : World) (lo hi : Nat) (a : YX) (xcs : Array Value) (g : Nat) (n : List Value) (W : World) : Prop where
 xk : W.heap[w.heap.size]? = some (.cells xcs 28 (0, 0))
 rr : W.heap[w.heap.size + 1]? = some (.cells #[.int .u8 0, .slice none 0 0, .slice none 0 0, .int .i64 0, .bool false, .int .i64 0, .bool false, .bool false] 28 (0, 0))
 gr : ∃ cur, W.heap[g]? = some (.cells cur 28 (0, 0)) ∧ ∀ j, j < 8 → cur[j]? = n[j]?
 xi : ∃ q : Nat → Bool, XI q W (xY (Nm.norm a)) (.agg n.toArray) ∧ ∀ b, q b = true → (lo ≤ b ∧ b < hi) ∨ w.heap.size + 2 ≤ b
 kp : Kp lo hi w W
theorem one_round {w W2 W3 w9 : World} {lo hi mid1 mid2 : Nat} {a : YX} {xcs : Array Value} {g : Nat} {n : List Value} {o : Obj} {cur : Array Value} (hW3 : W3 = W2.alloc o) (hb2 : Below w.heap.size w W2) (hz2 : W2.heap.size = w.heap.size + 2) (hx2 : W2.heap[w.heap.size]? = some (.cells xcs 28 (0, 0))) (hr2 : W2.heap[w.heap.size + 1]? = some (.cells #[.int .u8 0, .slice none 0 0, .slice none 0 0, .int .i64 0, .bool false, .int .i64 0, .bool false, .bool false] 28 (0, 0)))
 (hlg : lo ≤ g) (hg1 : g < mid1) (hmm : mid1 ≤ mid2) (hmh : mid2 ≤ hi) (hhi : hi ≤ w.heap.size) (hcur : w.heap[g]? = some (.cells cur 28 (0, 0))) (hsz : 8 ≤ cur.size) (hn : n.length = 8) (hx : XI (pJ mid1 mid2 W3.heap.size) w9 (xY (Nm.norm a)) (.agg n.toArray)) (hk : Kp mid1 mid2 W3.drew w9) :
 (∀ j, w9.frozen? ⟨g, j, none⟩ = false) ∧ (∀ j, j < 8 → w9.cell? ⟨g, j, none⟩ = cur[j]?) ∧ (∀ b, w.heap.size ≤ b → b < W3.heap.size → w9.heap[b]? = W3.heap[b]?) ∧ (∀ b, w.heap.size ≤ b → b < W3.heap.size → (w9.setCells g 0 n).heap[b]? = W3.heap[b]?) ∧ One w lo hi a xcs g n (w9.setCells g 0 n) := by
 have hz3 : W3.heap.size = w.heap.size + 3 := by rw [hW3]; simp [hz2]
 have hz9 : W3.heap.size ≤ w9.heap.size := hk.2.2.2.1
 have hold2 : ∀ b, b < W2.heap.size → W3.heap[b]? = W2.heap[b]? := fun b hb => by rw [hW3]; exact Lib.alloc_old _ _ _ hb
 have hold : ∀ b, b < W3.heap.size → ¬ (mid1 ≤ b ∧ b < mid2) → w9.heap[b]? = W3.heap[b]? := fun b hb hnb => hk.2.2.2.2 b hb hnb
 have hg9 : w9.heap[g]? = some (.cells cur 28 (0, 0)) := (hold g (by omega) (by omega)).trans ((hold2 g (by omega)).trans ((hb2.block g (by omega)).trans hcur))
 have hne : ∀ b, b ≠ g → (w9.setCells g 0 n).heap[b]? = w9.heap[b]? := fun b hb => setCells_other _ _ _ _ _ hb
 have hzc : (w9.setCells g 0 n).heap.size = w9.heap.size := setCells_size _ _ _ _
 refine ⟨fun j => Lib.frozen_of_heap hg9 j, fun j _ => Lib.cell_of_heap hg9 j, fun b h1 h2 => hold b h2 (by omega), fun b h1 h2 => (hne b (by omega)).trans (hold b h2 (by omega)), ?_⟩
 have hgr : (w9.setCells g 0 n).heap[g]? = some (.cells (putA cur 0 n) 28 (0, 0)) := setCells_at n 0 hg9
 refine ⟨?_, ?_, ⟨_, hgr, fun j hj => ?_⟩, ⟨fun b => pJ mid1 mid2 W3.heap.size b && decide (b ≠ g), hx.go ⟨by omega, fun b hb hp => ?_⟩, fun b hb => ?_⟩, ?_⟩
 ·exact (hne _ (by omega)).trans ((hold _ (by omega) (by omega)).trans ((hold2 _ (by omega)).trans hx2))
 ·exact (hne _ (by omega)).trans ((hold _ (by omega) (by omega)).trans ((hold2 _ (by omega)).trans hr2))
 ·have := putA_in n cur 0 j (by omega) (by omega)
  rw [Nat.zero_add] at this
  exact this
 ·have h1 := pJ_iff.1 hp
  have h2 : b ≠ g := by omega
  refine ⟨?_, hne b h2⟩
  show (pJ mid1 mid2 W3.heap.size b && decide (b ≠ g)) = true
  rw [hp]; simpa using h2
 ·simp only [Bool.and_eq_true, decide_eq_true_eq] at hb
  have := pJ_iff.1 hb.1
  omega
 ·have h1 : Kp lo hi w W3 := by rw [hW3]; exact (Kp.of_below hb2).alloc _
  have h2 : Kp lo hi w w9 := h1.trans (show Kp lo hi W3 w9 from hk.mono (by omega) (by omega))
  refine ⟨?_, ?_, ?_, by rw [hzc]; exact h2.2.2.2.1, fun b hb hnb => (hne b (by omega)).trans (h2.2.2.2.2 b hb hnb)⟩
  ·exact (World.os_setCells _ _ _ _).trans h2.1
  ·have h5 := (below_setCells' (Below.refl 0 w9) (Nat.zero_le g) n 0).tape
   exact h5.trans h2.2.1
  ·exact (World.output_setCells _ _ _ _).trans h2.2.2.1
theorem One.keep {w : World} {lo hi : Nat} {a : YX} {xcs : Array Value} {g : Nat} {n : List Value} {W : World} (h : One w lo hi a xcs g n W) (hhi : hi ≤ w.heap.size) (v0 v1 v2 v3 v4 v5 v6 v7 : Value) :
 (tw8 W (w.heap.size + 1) v0 v1 v2 v3 v4 v5 v6 v7).heap[w.heap.size + 1]? = some (.cells #[v0, v1, v2, v3, v4, v5, v6, v7] 28 (0, 0)) ∧ XI (pJ lo hi w.heap.size) (tw8 W (w.heap.size + 1) v0 v1 v2 v3 v4 v5 v6 v7) (xY (Nm.norm a)) (.agg n.toArray) ∧ Kp lo hi w (tw8 W (w.heap.size + 1) v0 v1 v2 v3 v4 v5 v6 v7) := by
 obtain ⟨q, h1, h2⟩ := h.xi
 refine ⟨tw8_at h.rr _ _ _ _ _ _ _ _, h1.go ⟨by rw [tw8_size]; exact Nat.le_refl _, fun b hb hp => ?_⟩, h.kp.tw8 (Nat.le_succ _) _ _ _ _ _ _ _ _⟩
 have := h2 b hp
 exact ⟨pJ_iff.2 (by omega), tw8_other _ _ _ _ _ _ _ _ _ _ _ (by omega)⟩
theorem One.node {w : World} {lo hi : Nat} {a : YX} {xcs : Array Value} {g : Nat} {n : List Value} {W : World} (h : One w lo hi a xcs g n W) (hhi : hi ≤ w.heap.size) (hn : n.length = 8) (hlg : lo ≤ g) (hgh : g < hi) (v0 v1 v2 v3 v4 v5 v6 v7 : Value) (k slo shi : Int) (sls shs sop : Bool) (a1 : Option Addr) (c1 c : Nat) :
 XI (pJ lo hi w.heap.size) (tw8 W (w.heap.size + 1) v0 v1 v2 v3 v4 v5 v6 v7) (.mk k [] [xY (Nm.norm a)] ⟨slo, sls, shi, shs, sop⟩) (.agg #[.int .u8 k, .slice a1 0 c1, .slice (some ⟨g, 0, none⟩) 1 c, .int .i64 slo, .bool sls, .int .i64 shi, .bool shs, .bool sop]) := by
 obtain ⟨cur, hcur, hcc⟩ := h.gr
 have h1 := (h.keep hhi v0 v1 v2 v3 v4 v5 v6 v7).2.1
 exact XI.row (is := []) (l := [xY (Nm.norm a)]) (vs := fun _ => n) (a1 := a1) (a := some ⟨g, 0, none⟩) ⟨0, [], rfl, by simp, .inl rfl⟩ k slo shi sls shs sop c1 c (by simp)
  (.inr ⟨g, cur, 28, (0, 0), rfl, pJ_iff.2 (.inl ⟨hlg, hgh⟩), (tw8_other _ _ _ _ _ _ _ _ _ _ _ (by omega)).trans hcur, fun i hi j hj => by
   obtain rfl : i = 0 := by simpa using hi
   rw [Nat.zero_mul, Nat.zero_add]; exact hcc j hj⟩)
  (fun _ _ => hn) fun i hi => by
   obtain rfl : i = 0 := by simpa using hi
   exact h1
set_option maxRecDepth 100000 in
set_option maxHeartbeats 16000000 in
theorem normed_one {y a : YX} (hk : kidsY y = [a]) (his : isY y = []) (hkk : Nm.kind y = 5 ∨ Nm.kind y = 6) (hoa : Nm.Ok y → Nm.Ok a) (h5 : Nm.kind y = 5 → Nm.norm y = Nm.plus (Nm.norm a) ∧ spnY y = noSpan) (h6 : Nm.kind y = 6 → Nm.norm y = .tm (Nm.norm a) (spnY y)) (hlt : Nm.size (fun _ => 1) a < Nm.size (fun _ => 1) y) (ih : NormC a) : NormC y := by
 intro hok v lo hi w hO hhi hsz
 obtain ⟨a1, c1, g, c, mid1, mid2, va, cur, rfl, hlg, hg1, hmh, hcur, hcc, hva, hOa⟩ := hO.one hk his
 obtain ⟨⟨slo, sls, shi, shs, sop⟩, hsp⟩ : ∃ s, spnY y = s := ⟨_, rfl⟩
 obtain ⟨k, hkd⟩ : ∃ k, Nm.kind y = k := ⟨_, rfl⟩
 rw [hsp] at h5 h6 ⊢
 rw [hkd] at h5 h6 hkk ⊢
 obtain ⟨ay1, ayc1, ay, ayc, hvl⟩ := shape_list hOa
 obtain ⟨ky, b1y, n1y, d1y, b2y, n2y, d2y, loy, lsy, hiy, hsy, opy, rfl⟩ : ∃ ky b1y n1y d1y b2y n2y d2y loy lsy hiy hsy opy, va = [.int .u8 ky, .slice b1y n1y d1y, .slice b2y n2y d2y, .int .i64 loy, .bool lsy, .int .i64 hiy, .bool hsy, .bool opy] := ⟨_, _, _, _, _, _, _, _, _, _, _, _, hvl⟩
 have hmm := hOa.le
 obtain ⟨W2, hW2⟩ : ∃ W2, W2 = (w.alloc (.cells #[.int .u8 k, .slice a1 0 c1, .slice (some ⟨g, 0, none⟩) 1 c, .int .i64 slo, .bool sls, .int .i64 shi, .bool shs, .bool sop] 28)).alloc (.cells #[.int .u8 0, .slice none 0 0, .slice none 0 0, .int .i64 0, .bool false, .int .i64 0, .bool false, .bool false] 28) := ⟨_, rfl⟩
 have hb2 : Below w.heap.size w W2 := by rw [hW2]; exact ((Below.refl _ _).alloc (Nat.le_refl _) _).alloc (by simp) _
 have hz2 : W2.heap.size = w.heap.size + 2 := by rw [hW2]; simp
 have hx2 : W2.heap[w.heap.size]? = some (.cells #[.int .u8 k, .slice a1 0 c1, .slice (some ⟨g, 0, none⟩) 1 c, .int .i64 slo, .bool sls, .int .i64 shi, .bool shs, .bool sop] 28 (0, 0)) := by rw [hW2]; exact hp_in (hp_top rfl)
 have hr2 : W2.heap[w.heap.size + 1]? = some (.cells #[.int .u8 0, .slice none 0 0, .slice none 0 0, .int .i64 0, .bool false, .int .i64 0, .bool false, .bool false] 28 (0, 0)) := by rw [hW2]; exact hp_top (by simp)
 have hg2 : W2.heap[g]? = some (.cells cur 28 (0, 0)) := (hb2.block g (by omega)).trans hcur
 obtain ⟨W3, hW3⟩ : ∃ W3, W3 = W2.alloc (.cells #[.int .u8 ky, .slice b1y n1y d1y, .slice b2y n2y d2y, .int .i64 loy, .bool lsy, .int .i64 hiy, .bool hsy, .bool opy] 28) := ⟨_, rfl⟩
 have hz3 : W3.heap.size = w.heap.size + 3 := by rw [hW3]; simp [hz2]
 have ht3 : W3.heap[w.heap.size + 2]? = some (.cells #[.int .u8 ky, .slice b1y n1y d1y, .slice b2y n2y d2y, .int .i64 loy, .bool lsy, .int .i64 hiy, .bool hsy, .bool opy] 28 (0, 0)) := by rw [hW3]; exact hp_top hz2.symm
 have hx3 : W3.heap[w.heap.size]? = some (.cells #[.int .u8 k, .slice a1 0 c1, .slice (some ⟨g, 0, none⟩) 1 c, .int .i64 slo, .bool sls, .int .i64 shi, .bool shs, .bool sop] 28 (0, 0)) := by rw [hW3]; exact hp_in hx2
 have hOa3 : OY W3.drew a mid1 mid2 (.agg #[.int .u8 ky, .slice b1y n1y d1y, .slice b2y n2y d2y, .int .i64 loy, .bool lsy, .int .i64 hiy, .bool hsy, .bool opy]) := hOa.go (w' := W3.drew) (show w.heap.size ≤ W3.heap.size by omega) fun b _ h2 => by
  show W3.heap[b]? = _
  rw [hW3, Lib.alloc_old _ _ _ (by omega)]
  exact hb2.block b (by omega)
 have HNY := Lib.hid (ih (hoa hok) _ mid1 mid2 W3.drew hOa3 (show mid2 ≤ W3.heap.size by omega) (by omega))
 have hcs : 8 ≤ cur.size := by
  have := hcc 7 (by decide)
  simp only [List.getElem?_cons_zero, List.getElem?_cons_succ] at this
  have := (Array.getElem?_eq_some_iff.1 this).1
  omega
 have HRN : Hid (∀ (w9 : World) (kz : Int) (b1z : Option Addr) (n1z d1z : Nat) (b2z : Option Addr) (n2z d2z : Nat) (loz : Int) (lsz : Bool) (hiz : Int) (hsz opz : Bool), XI (pJ mid1 mid2 W3.heap.size) w9 (xY (Nm.norm a)) (.agg #[.int .u8 kz, .slice b1z n1z d1z, .slice b2z n2z d2z, .int .i64 loz, .bool lsz, .int .i64 hiz, .bool hsz, .bool opz]) → Kp mid1 mid2 W3.drew w9 →
  (∀ j, w9.frozen? ⟨g, j, none⟩ = false) ∧ (∀ j, j < 8 → w9.cell? ⟨g, j, none⟩ = ([.int .u8 ky, .slice b1y n1y d1y, .slice b2y n2y d2y, .int .i64 loy, .bool lsy, .int .i64 hiy, .bool hsy, .bool opy] : List Value)[j]?) ∧ w9.heap[w.heap.size]? = some (.cells #[.int .u8 k, .slice a1 0 c1, .slice (some ⟨g, 0, none⟩) 1 c, .int .i64 slo, .bool sls, .int .i64 shi, .bool shs, .bool sop] 28 (0, 0)) ∧ w9.heap[w.heap.size + 2]? = some (.cells #[.int .u8 ky, .slice b1y n1y d1y, .slice b2y n2y d2y, .int .i64 loy, .bool lsy, .int .i64 hiy, .bool hsy, .bool opy] 28 (0, 0)) ∧ (w9.setCells g 0 [.int .u8 kz, .slice b1z n1z d1z, .slice b2z n2z d2z, .int .i64 loz, .bool lsz, .int .i64 hiz, .bool hsz, .bool opz]).heap[w.heap.size + 2]? = some (.cells #[.int .u8 ky, .slice b1y n1y d1y, .slice b2y n2y d2y, .int .i64 loy, .bool lsy, .int .i64 hiy, .bool hsy, .bool opy] 28 (0, 0)) ∧ One w lo hi a #[.int .u8 k, .slice a1 0 c1, .slice (some ⟨g, 0, none⟩) 1 c, .int .i64 slo, .bool sls, .int .i64 shi, .bool shs, .bool sop] g [.int .u8 kz, .slice b1z n1z d1z, .slice b2z n2z d2z, .int .i64 loz, .bool lsz, .int .i64 hiz, .bool hsz, .bool opz] (w9.setCells g 0 [.int .u8 kz, .slice b1z n1z d1z, .slice b2z n2z d2z, .int .i64 loz, .bool lsz, .int .i64 hiz, .bool hsz, .bool opz])) := by
  intro w9 kz b1z n1z d1z b2z n2z d2z loz lsz hiz hsz opz hx hkp
  obtain ⟨q1, q2, q3, q4, q5⟩ := one_round hW3 hb2 hz2 hx2 hr2 hlg hg1 hmm hmh hhi hcur hcs (n := [.int .u8 kz, .slice b1z n1z d1z, .slice b2z n2z d2z, .int .i64 loz, .bool lsz, .int .i64 hiz, .bool hsz, .bool opz]) rfl hx hkp
  exact ⟨q1, fun j hj => (q2 j hj).trans (hcc j hj), (q3 _ (Nat.le_refl _) (by omega)).trans hx3, (q3 _ (by omega) (by omega)).trans ht3, (q4 _ (by omega) (by omega)).trans ht3, q5⟩
 have HC67 : Hid (Calls Tryz.prog 67 #[.int .u8 k] W2 fun e w' => e = .returned (.bool false) ∧ w' = W2) := by
  have h := chain67_any k W2
  have e : chainB k = false := by unfold chainB; rcases hkk with rfl | rfl <;> decide
  rw [e] at h
  exact h
 have HS : Hid (∀ W : World, W.heap[w.heap.size]? = some (.cells #[.int .u8 k, .slice a1 0 c1, .slice (some ⟨g, 0, none⟩) 1 c, .int .i64 slo, .bool sls, .int .i64 shi, .bool shs, .bool sop] 28 (0, 0)) → W.heap[w.heap.size + 2]? = some (.cells #[.int .u8 ky, .slice b1y n1y d1y, .slice b2y n2y d2y, .int .i64 loy, .bool lsy, .int .i64 hiy, .bool hsy, .bool opy] 28 (0, 0)) → W.cell? ⟨w.heap.size, 2, none⟩ = some (.slice (some ⟨g, 0, none⟩) 1 c) ∧ W.cell? ⟨w.heap.size + 2, 0, none⟩ = some (.int .u8 ky) ∧ W.cell? ⟨w.heap.size + 2, 1, none⟩ = some (.slice b1y n1y d1y) ∧ W.cell? ⟨w.heap.size + 2, 2, none⟩ = some (.slice b2y n2y d2y) ∧ W.cell? ⟨w.heap.size + 2, 3, none⟩ = some (.int .i64 loy) ∧ W.cell? ⟨w.heap.size + 2, 4, none⟩ = some (.bool lsy) ∧ W.cell? ⟨w.heap.size + 2, 5, none⟩ = some (.int .i64 hiy) ∧ W.cell? ⟨w.heap.size + 2, 6, none⟩ = some (.bool hsy) ∧ W.cell? ⟨w.heap.size + 2, 7, none⟩ = some (.bool opy)) := fun W h h' => ⟨Lib.cell_of_heap h 2, Lib.cell_of_heap h' 0, Lib.cell_of_heap h' 1, Lib.cell_of_heap h' 2, Lib.cell_of_heap h' 3, Lib.cell_of_heap h' 4, Lib.cell_of_heap h' 5, Lib.cell_of_heap h' 6, Lib.cell_of_heap h' 7⟩
 have HS3 : Hid (W3.drew.cell? ⟨w.heap.size, 2, none⟩ = some (.slice (some ⟨g, 0, none⟩) 1 c) ∧ W3.drew.cell? ⟨w.heap.size + 2, 0, none⟩ = some (.int .u8 ky) ∧ W3.drew.cell? ⟨w.heap.size + 2, 1, none⟩ = some (.slice b1y n1y d1y) ∧ W3.drew.cell? ⟨w.heap.size + 2, 2, none⟩ = some (.slice b2y n2y d2y) ∧ W3.drew.cell? ⟨w.heap.size + 2, 3, none⟩ = some (.int .i64 loy) ∧ W3.drew.cell? ⟨w.heap.size + 2, 4, none⟩ = some (.bool lsy) ∧ W3.drew.cell? ⟨w.heap.size + 2, 5, none⟩ = some (.int .i64 hiy) ∧ W3.drew.cell? ⟨w.heap.size + 2, 6, none⟩ = some (.bool hsy) ∧ W3.drew.cell? ⟨w.heap.size + 2, 7, none⟩ = some (.bool opy)) := HS.out W3.drew hx3 ht3
 have x0 := Lib.cell_of_heap hx2 0
 have x2 := Lib.cell_of_heap hx2 2
 simp only [List.getElem?_toArray, List.getElem?_cons_zero, List.getElem?_cons_succ] at x0 x2
 have g0 : W2.cell? ⟨g, 0, none⟩ = _ := (Lib.cell_of_heap hg2 0).trans (hcc 0 (by decide))
 have g1 : W2.cell? ⟨g, 1, none⟩ = _ := (Lib.cell_of_heap hg2 1).trans (hcc 1 (by decide))
 have g2 : W2.cell? ⟨g, 2, none⟩ = _ := (Lib.cell_of_heap hg2 2).trans (hcc 2 (by decide))
 have g3 : W2.cell? ⟨g, 3, none⟩ = _ := (Lib.cell_of_heap hg2 3).trans (hcc 3 (by decide))
 have g4 : W2.cell? ⟨g, 4, none⟩ = _ := (Lib.cell_of_heap hg2 4).trans (hcc 4 (by decide))
 have g5 : W2.cell? ⟨g, 5, none⟩ = _ := (Lib.cell_of_heap hg2 5).trans (hcc 5 (by decide))
 have g6 : W2.cell? ⟨g, 6, none⟩ = _ := (Lib.cell_of_heap hg2 6).trans (hcc 6 (by decide))
 have g7 : W2.cell? ⟨g, 7, none⟩ = _ := (Lib.cell_of_heap hg2 7).trans (hcc 7 (by decide))
 simp only [List.getElem?_cons_zero, List.getElem?_cons_succ] at g0 g1 g2 g3 g4 g5 g6 g7
 have hgl := (Array.getElem?_eq_some_iff.1 hg2).1
 have hxl := (Array.getElem?_eq_some_iff.1 hx2).1
 have HW2 := Lib.hid hW2.symm
 have HW3 := Lib.hid hW3.symm
 have HZ2 := Lib.hid hz2
 have H5 := Lib.hid h5
 have H6 := Lib.hid h6
 have HHI := Lib.hid hhi
 have HOKN : Hid (Nm.Ok (Nm.norm a)) := Nm.ok_norm (hoa hok)
 have HGH := Lib.hid (And.intro hlg (show g < hi by omega))
 clear hO hb2 hx2 hr2 hg2 hx3 ht3 hz3 hW2 hW3 hok hsz hOa hOa3 hcc hva hvl hlt ih hoa hk his hsp hkd hcur hcs h5 h6 hz2
 refine Calls.mono (R := AnsN y lo hi w) ?_ fun _ _ h => h
 go_enter Tryz.func70, Tryz.ntmps70
 go_upto_region 1 with fail
 rw [HW2.out]
 clear HW2
 go_wp2_with fail
 refine HC67.out.mono ?_
 rintro e w3 ⟨rfl, hw3⟩
 rw [hw3]
 clear hw3 HC67
 go_wp2_with fail
 go_loopw [43] (fun i wr => (i = .int .i64 0 ∧ wr = W2) ∨ (i = .int .i64 1 ∧ ∃ kz b1z n1z d1z b2z n2z d2z loz lsz hiz hsz opz, Hid (One w lo hi a #[.int .u8 k, .slice a1 0 c1, .slice (some ⟨g, 0, none⟩) 1 c, .int .i64 slo, .bool sls, .int .i64 shi, .bool shs, .bool sop] g [.int .u8 kz, .slice b1z n1z d1z, .slice b2z n2z d2z, .int .i64 loz, .bool lsz, .int .i64 hiz, .bool hsz, .bool opz] wr))) (fun i _ => 1 - (intOf i).toNat)
 case atStart => exact .inl ⟨rfl, rfl⟩
 case round =>
  rcases hrel with ⟨rfl, hwr⟩ | ⟨rfl, kz, b1z, n1z, d1z, b2z, n2z, d2z, loz, lsz, hiz, hsz, opz, HO1⟩
  ·have hwr' := hwr.symm
   subst hwr'
   go_wp2_with fail
   rw [HZ2.out, HW3.out]
   refine wp_region_held_drew (S := fun W => W.cell? ⟨w.heap.size, 2, none⟩ = some (.slice (some ⟨g, 0, none⟩) 1 c) ∧ W.cell? ⟨w.heap.size + 2, 0, none⟩ = some (.int .u8 ky) ∧ W.cell? ⟨w.heap.size + 2, 1, none⟩ = some (.slice b1y n1y d1y) ∧ W.cell? ⟨w.heap.size + 2, 2, none⟩ = some (.slice b2y n2y d2y) ∧ W.cell? ⟨w.heap.size + 2, 3, none⟩ = some (.int .i64 loy) ∧ W.cell? ⟨w.heap.size + 2, 4, none⟩ = some (.bool lsy) ∧ W.cell? ⟨w.heap.size + 2, 5, none⟩ = some (.int .i64 hiy) ∧ W.cell? ⟨w.heap.size + 2, 6, none⟩ = some (.bool hsy) ∧ W.cell? ⟨w.heap.size + 2, 7, none⟩ = some (.bool opy)) (by kernel_rfl) HS3.out (fun hHeld => ?_)
   refine wpAnyH_take (i := 0) (v := ?_) rfl (by kernel_rfl) (by kernel_rfl) (by kernel_rfl) (fun _ _ _ h => h) (Or.inl ⟨by kernel_rfl, ?_⟩) (by assumption) ?_
   rotate_left
   ·(intro w hSw; (try dsimp only at hSw); go_simp)
    with_reducible rfl
   try simp only [Act.put, List.setIfInBounds_toArray]
   refine wpAnyH_take (i := 1) (v := ?_) rfl (by kernel_rfl) (by kernel_rfl) (by kernel_rfl) (fun _ _ _ h => h) (Or.inl ⟨by kernel_rfl, ?_⟩) (by assumption) ?_
   rotate_left
   ·(intro w hSw; (try dsimp only at hSw); go_simp)
    with_reducible rfl
   try simp only [Act.put]
   refine wpAnyH_take (i := 2) (v := ?_) rfl (by kernel_rfl) (by kernel_rfl) (by kernel_rfl) (fun _ _ _ h => h) (Or.inl ⟨by kernel_rfl, ?_⟩) (by assumption) ?_
   rotate_left
   ·(intro w hSw; (try dsimp only at hSw); go_simp)
    with_reducible rfl
   try simp only [Act.put]
   refine wpAnyH_take (i := 3) (v := ?_) rfl (by kernel_rfl) (by kernel_rfl) (by kernel_rfl) (fun _ _ _ h => h) (Or.inl ⟨by kernel_rfl, ?_⟩) (by assumption) ?_
   rotate_left
   ·(intro w hSw; (try dsimp only at hSw); go_simp)
    with_reducible rfl
   try simp only [Act.put]
   refine wpAnyH_ready (rs := [4]) (by kernel_rfl) (by simp) ?_
   refine AllReadyH.cons rfl (fun K hK => ?_) AllReadyH.nil
   go_simp
   go_at_call 70
   refine HNY.out.mono ?_
   rintro e w9 ⟨⟨kz, b1z, n1z, d1z, b2z, n2z, d2z, loz, lsz, hiz, hsz, opz, rfl, hx9⟩, hk9⟩
   obtain ⟨u1, u2, u3, u4, u5, u6⟩ := HRN.out w9 kz b1z n1z d1z b2z n2z d2z loz lsz hiz hsz opz hx9 hk9
   have HS9 : Hid (w9.cell? ⟨w.heap.size, 2, none⟩ = some (.slice (some ⟨g, 0, none⟩) 1 c) ∧ w9.cell? ⟨w.heap.size + 2, 0, none⟩ = some (.int .u8 ky) ∧ w9.cell? ⟨w.heap.size + 2, 1, none⟩ = some (.slice b1y n1y d1y) ∧ w9.cell? ⟨w.heap.size + 2, 2, none⟩ = some (.slice b2y n2y d2y) ∧ w9.cell? ⟨w.heap.size + 2, 3, none⟩ = some (.int .i64 loy) ∧ w9.cell? ⟨w.heap.size + 2, 4, none⟩ = some (.bool lsy) ∧ w9.cell? ⟨w.heap.size + 2, 5, none⟩ = some (.int .i64 hiy) ∧ w9.cell? ⟨w.heap.size + 2, 6, none⟩ = some (.bool hsy) ∧ w9.cell? ⟨w.heap.size + 2, 7, none⟩ = some (.bool opy)) := HS.out w9 u3 u4
   have HO6 := Lib.hid u6
   have v0 := u2 0 (by decide)
   have f0 := u1 0
   have v1 := u2 1 (by decide)
   have f1 := u1 1
   have v2 := u2 2 (by decide)
   have f2 := u1 2
   have v3 := u2 3 (by decide)
   have f3 := u1 3
   have v4 := u2 4 (by decide)
   have f4 := u1 4
   have v5 := u2 5 (by decide)
   have f5 := u1 5
   have v6 := u2 6 (by decide)
   have f6 := u1 6
   have v7 := u2 7 (by decide)
   have f7 := u1 7
   simp only [List.getElem?_cons_zero, List.getElem?_cons_succ] at v0 v1 v2 v3 v4 v5 v6 v7
   obtain ⟨W7, hW7⟩ : ∃ W7, W7 = w9.setCells g 0 [.int .u8 kz, .slice b1z n1z d1z, .slice b2z n2z d2z, .int .i64 loz, .bool lsz, .int .i64 hiz, .bool hsz, .bool opz] := ⟨_, rfl⟩
   have HN7 : Hid (((((((((w9.setCell ⟨g, 0, none⟩ (.int .u8 kz)).setCell ⟨g, 1, none⟩ (.slice b1z n1z d1z)).setCell ⟨g, 2, none⟩ (.slice b2z n2z d2z)).setCell ⟨g, 3, none⟩ (.int .i64 loz)).setCell ⟨g, 4, none⟩ (.bool lsz)).setCell ⟨g, 5, none⟩ (.int .i64 hiz)).setCell ⟨g, 6, none⟩ (.bool hsz)).setCell ⟨g, 7, none⟩ (.bool opz)) = W7) := hW7.symm
   rw [← hW7] at u5 HO6
   have HS7 : Hid (W7.cell? ⟨w.heap.size, 2, none⟩ = some (.slice (some ⟨g, 0, none⟩) 1 c) ∧ W7.cell? ⟨w.heap.size + 2, 0, none⟩ = some (.int .u8 ky) ∧ W7.cell? ⟨w.heap.size + 2, 1, none⟩ = some (.slice b1y n1y d1y) ∧ W7.cell? ⟨w.heap.size + 2, 2, none⟩ = some (.slice b2y n2y d2y) ∧ W7.cell? ⟨w.heap.size + 2, 3, none⟩ = some (.int .i64 loy) ∧ W7.cell? ⟨w.heap.size + 2, 4, none⟩ = some (.bool lsy) ∧ W7.cell? ⟨w.heap.size + 2, 5, none⟩ = some (.int .i64 hiy) ∧ W7.cell? ⟨w.heap.size + 2, 6, none⟩ = some (.bool hsy) ∧ W7.cell? ⟨w.heap.size + 2, 7, none⟩ = some (.bool opy)) := HS.out W7 HO6.out.xk u5
   clear hx9 hk9 u1 u2 u3 u4 u5 u6 hW7
   dsimp only
   refine hK.out _ _ (HS9.out) (fun hHeld => ?_)
   clear hK K
   try simp only [Act.put, List.setIfInBounds_toArray, List.set_cons_zero, List.set_cons_succ]
   refine wpAnyH_take (i := 5) (v := ?_) rfl (by kernel_rfl) (by kernel_rfl) (by kernel_rfl) (fun _ _ _ h => h) (Or.inl ⟨by kernel_rfl, ?_⟩) (by assumption) ?_
   rotate_left
   ·(intro w hSw; (try dsimp only at hSw); go_simp)
    with_reducible rfl
   try simp only [Act.put, List.setIfInBounds_toArray]
   refine wpAnyH_ready (rs := [6]) (by kernel_rfl) (by simp) ?_
   refine AllReadyH.cons rfl (fun K hK => ?_) AllReadyH.nil
   go_simp
   rw [HN7.out]
   refine hK.out _ _ (HS7.out) (fun hHeld => ?_)
   clear hK K
   try simp only [Act.put, List.setIfInBounds_toArray, List.set_cons_zero, List.set_cons_succ]
   refine wpAnyH_done (by kernel_rfl) ?_ _
   clear v0 v1 v2 v3 v4 v5 v6 v7 f0 f1 f2 f3 f4 f5 f6 f7 g0 g1 g2 g3 g4 g5 g6 g7 x0 x2 hgl hxl hHeld
   go_wp2_with fail
   go_roundw
   case rel => exact .inr ⟨rfl, kz, b1z, n1z, d1z, b2z, n2z, d2z, loz, lsz, hiz, hsz, opz, HO6⟩
   case measure => decide
  ·clear g0 g1 g2 g3 g4 g5 g6 g7 x0 x2 hgl hxl
   have hxk := HO1.out.xk
   have hrr := HO1.out.rr
   obtain ⟨cur9, hg9, hcc9⟩ := HO1.out.gr
   have hnk : Hid (kz = Nm.kind (Nm.norm a)) := by
    obtain ⟨q, hq, _⟩ := HO1.out.xi
    exact XI.kind hq
   have x0 := Lib.cell_of_heap hxk 0
   have r0 := Lib.cell_of_heap hrr 0
   have f0 := Lib.frozen_of_heap hrr 0
   have g0 : wr.cell? ⟨g, 0, none⟩ = _ := (Lib.cell_of_heap hg9 0).trans (hcc9 0 (by decide))
   have x1 := Lib.cell_of_heap hxk 1
   have r1 := Lib.cell_of_heap hrr 1
   have f1 := Lib.frozen_of_heap hrr 1
   have g1 : wr.cell? ⟨g, 1, none⟩ = _ := (Lib.cell_of_heap hg9 1).trans (hcc9 1 (by decide))
   have x2 := Lib.cell_of_heap hxk 2
   have r2 := Lib.cell_of_heap hrr 2
   have f2 := Lib.frozen_of_heap hrr 2
   have g2 : wr.cell? ⟨g, 2, none⟩ = _ := (Lib.cell_of_heap hg9 2).trans (hcc9 2 (by decide))
   have x3 := Lib.cell_of_heap hxk 3
   have r3 := Lib.cell_of_heap hrr 3
   have f3 := Lib.frozen_of_heap hrr 3
   have g3 : wr.cell? ⟨g, 3, none⟩ = _ := (Lib.cell_of_heap hg9 3).trans (hcc9 3 (by decide))
   have x4 := Lib.cell_of_heap hxk 4
   have r4 := Lib.cell_of_heap hrr 4
   have f4 := Lib.frozen_of_heap hrr 4
   have g4 : wr.cell? ⟨g, 4, none⟩ = _ := (Lib.cell_of_heap hg9 4).trans (hcc9 4 (by decide))
   have x5 := Lib.cell_of_heap hxk 5
   have r5 := Lib.cell_of_heap hrr 5
   have f5 := Lib.frozen_of_heap hrr 5
   have g5 : wr.cell? ⟨g, 5, none⟩ = _ := (Lib.cell_of_heap hg9 5).trans (hcc9 5 (by decide))
   have x6 := Lib.cell_of_heap hxk 6
   have r6 := Lib.cell_of_heap hrr 6
   have f6 := Lib.frozen_of_heap hrr 6
   have g6 : wr.cell? ⟨g, 6, none⟩ = _ := (Lib.cell_of_heap hg9 6).trans (hcc9 6 (by decide))
   have x7 := Lib.cell_of_heap hxk 7
   have r7 := Lib.cell_of_heap hrr 7
   have f7 := Lib.frozen_of_heap hrr 7
   have g7 : wr.cell? ⟨g, 7, none⟩ = _ := (Lib.cell_of_heap hg9 7).trans (hcc9 7 (by decide))
   simp only [List.getElem?_toArray, List.getElem?_cons_zero, List.getElem?_cons_succ] at x0 x1 x2 x3 x4 x5 x6 x7 r0 r1 r2 r3 r4 r5 r6 r7 g0 g1 g2 g3 g4 g5 g6 g7
   have hgl := (Array.getElem?_eq_some_iff.1 hg9).1
   have hxl := (Array.getElem?_eq_some_iff.1 hxk).1
   clear hxk hrr hg9 hcc9
   have HX : Hid (∀ W', W' = tw8 wr (w.heap.size + 1) (.int .u8 k) (.slice a1 0 c1) (.slice (some ⟨g, 0, none⟩) 1 c) (.int .i64 slo) (.bool sls) (.int .i64 shi) (.bool shs) (.bool sop) → W'.heap[w.heap.size + 1]? = some (.cells #[.int .u8 k, .slice a1 0 c1, .slice (some ⟨g, 0, none⟩) 1 c, .int .i64 slo, .bool sls, .int .i64 shi, .bool shs, .bool sop] 28 (0, 0)) ∧ XI (pJ lo hi w.heap.size) W' (.mk k [] [xY (Nm.norm a)] ⟨slo, sls, shi, shs, sop⟩) (.agg #[.int .u8 k, .slice a1 0 c1, .slice (some ⟨g, 0, none⟩) 1 c, .int .i64 slo, .bool sls, .int .i64 shi, .bool shs, .bool sop]) ∧ Kp lo hi w W') := fun W' hW' => by
    rw [hW']
    exact ⟨(HO1.out.keep HHI.out _ _ _ _ _ _ _ _).1, HO1.out.node HHI.out rfl HGH.out.1 HGH.out.2 _ _ _ _ _ _ _ _ k slo shi sls shs sop a1 c1 c, (HO1.out.keep HHI.out _ _ _ _ _ _ _ _).2.2⟩
   have HN : Hid (∀ W', W' = tw8 wr (w.heap.size + 1) (.int .u8 kz) (.slice b1z n1z d1z) (.slice b2z n2z d2z) (.int .i64 loz) (.bool lsz) (.int .i64 hiz) (.bool hsz) (.bool opz) → W'.heap[w.heap.size + 1]? = some (.cells #[.int .u8 kz, .slice b1z n1z d1z, .slice b2z n2z d2z, .int .i64 loz, .bool lsz, .int .i64 hiz, .bool hsz, .bool opz] 28 (0, 0)) ∧ XI (pJ lo hi w.heap.size) W' (xY (Nm.norm a)) (.agg #[.int .u8 kz, .slice b1z n1z d1z, .slice b2z n2z d2z, .int .i64 loz, .bool lsz, .int .i64 hiz, .bool hsz, .bool opz]) ∧ Kp lo hi w W') := fun W' hW' => by
    rw [hW']
    exact HO1.out.keep HHI.out _ _ _ _ _ _ _ _
   rcases hkk with rfl | rfl
   ·cases q5 : (kz == 5) with
    | true =>
     have hpl : Hid (Nm.norm y = Nm.norm a) := by
      have : kz = 5 := by simpa using q5
      rw [Hid, (H5.out rfl).1]
      exact plus_five HOKN.out (by rw [← hnk.out]; exact this)
     go_wp2_with fail
     obtain ⟨h1, h2⟩ := HN.out _ rfl
     unfold AnsN
     rw [hpl.out]
     refine bodyPost_ret (results_cell_row rfl _ _ _ _ _ _ _ rfl h1 Tryz.underlying28 rfl (by kernel_rfl)) rfl ?_
     exact ⟨⟨_, _, _, _, _, _, _, _, _, _, _, _, rfl, h2.1⟩, h2.2⟩
    | false =>
     have hpl : Hid (xY (Nm.norm y) = .mk 5 [] [xY (Nm.norm a)] ⟨slo, sls, shi, shs, sop⟩) := by
      have : kz ≠ 5 := by simpa using q5
      rw [Hid, (H5.out rfl).1, Nm.plus_kind (by rw [← hnk.out]; exact this), (H5.out rfl).2]
      rfl
     go_wp2_with fail
     obtain ⟨h1, h2⟩ := HX.out _ rfl
     unfold AnsN
     rw [hpl.out]
     refine bodyPost_ret (results_cell_row rfl _ _ _ _ _ _ _ rfl h1 Tryz.underlying28 rfl (by kernel_rfl)) rfl ?_
     exact ⟨⟨_, _, _, _, _, _, _, _, _, _, _, _, rfl, h2.1⟩, h2.2⟩
   ·have hpl : Hid (xY (Nm.norm y) = .mk 6 [] [xY (Nm.norm a)] ⟨slo, sls, shi, shs, sop⟩) := by
     rw [Hid, H6.out rfl]
     rfl
    go_wp2_with fail
    obtain ⟨h1, h2⟩ := HX.out _ rfl
    unfold AnsN
    rw [hpl.out]
    refine bodyPost_ret (results_cell_row rfl _ _ _ _ _ _ _ rfl h1 Tryz.underlying28 rfl (by kernel_rfl)) rfl ?_
    exact ⟨⟨_, _, _, _, _, _, _, _, _, _, _, _, rfl, h2.1⟩, h2.2⟩
theorem normed70_any : ∀ (n : Nat) (y : YX), Nm.size (fun _ => 1) y ≤ n → NormC y := by
 intro n
 induction n with
 | zero => intro y h; have := size_pos y; omega
 | succ n ih =>
  intro y h
  cases y with
  | «at» f => exact normed_at f
  | bin k a b => exact fun ho => normed_bin ho.1 (fun p hp => ih p (by omega)) ho
  | pl a =>
   have e : Nm.size (fun _ => 1) (Nm.Y.pl a : YX) = 1 + Nm.size (fun _ => 1) a := rfl
   exact normed_one rfl rfl (.inl rfl) (fun h => h) (fun _ => ⟨rfl, rfl⟩) (fun h => absurd h (show (5 : Int) ≠ 6 by decide)) (by omega) (ih a (by omega))
  | tm a i =>
   have e : Nm.size (fun _ => 1) (Nm.Y.tm a i : YX) = 1 + Nm.size (fun _ => 1) a := rfl
   exact normed_one rfl rfl (.inr rfl) (fun h => h) (fun h => absurd h (show (6 : Int) ≠ 5 by decide)) (fun _ => rfl) (by omega) (ih a (by omega))
end Go.Proofs.YtpgdplmndnopbaaGreatDoor