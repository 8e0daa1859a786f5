/- The book of layer 18: texts of expressions. (Printed by gen_bki.py.) -/
import Derived.Test.YtpgdplmndnopbaaGreatDoorMgS
import Derived.Test.YtpgdplmndnopbaaGreatDoorMgQ
namespace Go.Proofs.YtpgdplmndnopbaaGreatDoor
open Go.RowKit

set_option maxRecDepth 100000 in
set_option maxHeartbeats 4000000 in
theorem height133_any (k : Int) (x1 x2 : Value) (lo hi : Int) (ls hs op : Bool) (w : World) (hk : k = 1 ∨ k = 2 ∨ k = 3 ∨ k = 4 ∨ k = 5 ∨ k = 6) : Calls Tryz.prog 133 #[.agg #[.int .u8 k, x1, x2, .int .i64 lo, .bool ls, .int .i64 hi, .bool hs, .bool op]] w fun e w' => e = .returned (.int .i64 (heightX k)) ∧ Below w.heap.size w w' := by
  have hb : Below w.heap.size w (w.alloc (.cells #[.int .u8 k, x1, x2, .int .i64 lo, .bool ls, .int .i64 hi, .bool hs, .bool op] 28)) := (Below.refl _ _).alloc (Nat.le_refl _) _
  have HB := Lib.hid hb
  clear hb
  rcases hk with rfl | rfl | rfl | rfl | rfl | rfl
  all_goals
    go_enter Tryz.func133, Tryz.ntmps133
    go_wp2_with fail
    all_goals go_ret
    all_goals exact ⟨rfl, HB.out⟩
set_option maxRecDepth 100000 in
set_option maxHeartbeats 8000000 in
theorem interval135_any (i : Spn) (w : World) (hr : Rdy w) (h1 : -9223372036854775808 ≤ i.low) (h2 : i.low ≤ 9223372036854775807) (h3 : -9223372036854775808 ≤ i.high) (h4 : i.high ≤ 9223372036854775807) (hlen : (prI Lib.itoa i).length ≤ 1000000000000) :
    Calls Tryz.prog 135 #[i.val] w fun e w' => e = .returned (.string (byt (prI Lib.itoa i))) ∧ Below w.heap.size w w' := by
  obtain ⟨lo, ls, hi, hs, op⟩ := i
  unfold Spn.val
  dsimp only at *
  have hb0 : Below w.heap.size w (w.alloc (.cells #[.int .i64 lo, .bool ls, .int .i64 hi, .bool hs, .bool op] 26)) := (Below.refl _ w).alloc (Nat.le_refl _) _
  have HB0 := Lib.hid hb0
  have HCELLS : Hid (∀ W, Below (w.heap.size + 1) (w.alloc (.cells #[.int .i64 lo, .bool ls, .int .i64 hi, .bool hs, .bool op] 26)) W → W.heap[w.heap.size]? = some (.cells #[.int .i64 lo, .bool ls, .int .i64 hi, .bool hs, .bool op] 26 (0, 0))) := by
    intro W hW
    rw [hW.block _ (by omega)]
    exact heap_top rfl
  obtain ⟨r1, hr1⟩ : ∃ r, r = byt (Lib.itoa lo) := ⟨_, rfl⟩
  obtain ⟨r2, hr2⟩ : ∃ r, r = byt (Lib.itoa hi) := ⟨_, rfl⟩
  have HT1 : Hid (∀ W, Below w.heap.size w W → Calls Tryz.prog 127 #[.int .i64 lo] W fun e w' => e = .returned (.string r1) ∧ Below W.heap.size W w') := fun W hW => by rw [hr1]; exact itoa127_any lo h1 h2 W (hr.below hW)
  have HT2 : Hid (∀ W, Below w.heap.size w W → Calls Tryz.prog 127 #[.int .i64 hi] W fun e w' => e = .returned (.string r2) ∧ Below W.heap.size W w') := fun W hW => by rw [hr2]; exact itoa127_any hi h3 h4 W (hr.below hW)
  have hs1 : r1.size ≤ 1000000000000 := by
    rw [hr1, byt_size]; simp [prI] at hlen; omega
  have HT : Hid (byt (prI Lib.itoa ⟨lo, ls, hi, hs, op⟩) = (if ls then ⟨#[40]⟩ else ⟨#[91]⟩) ++ r1 ++ ⟨#[44]⟩ ++ (if op then ⟨#[111, 111, 41]⟩ else r2 ++ (if hs then ⟨#[41]⟩ else ⟨#[93]⟩))) := by
    rw [Hid, hr1, hr2, show (⟨#[40]⟩ : ByteArray) = byt [40] from rfl, show (⟨#[91]⟩ : ByteArray) = byt [91] from rfl, show (⟨#[44]⟩ : ByteArray) = byt [44] from rfl, show (⟨#[111, 111, 41]⟩ : ByteArray) = byt [111, 111, 41] from rfl, show (⟨#[41]⟩ : ByteArray) = byt [41] from rfl, show (⟨#[93]⟩ : ByteArray) = byt [93] from rfl]
    unfold prI
    cases ls <;> cases op <;> cases hs <;> simp [byt_app]
  cases op with
  | true =>
    clear HT2 hr1 hr2 hlen h1 h2 h3 h4 hr hb0
    cases ls <;> (
      go_enter Tryz.func135, Tryz.ntmps135
      go_wp2_with fail
      refine (HT1.out _ HB0.out).mono ?_
      rintro e w1 ⟨rfl, hb1⟩
      have HB1 := Lib.hid (HB0.out.trans (hb1.mono HB0.out.size))
      have hk1 := HCELLS.out _ (hb1.mono (by simp))
      have x2 := Lib.cell_of_heap hk1 2
      have x3 := Lib.cell_of_heap hk1 3
      have x4 := Lib.cell_of_heap hk1 4
      simp only [List.getElem?_toArray, List.getElem?_cons_zero, List.getElem?_cons_succ] at x2 x3 x4
      clear hk1 hb1
      go_wp2_with fail
      all_goals go_ret
      all_goals exact ⟨ret_s (by rw [HT.out]; simp [ByteArray.append_assoc]), HB1.out⟩)
  | false =>
    have hs2 : r2.size ≤ 1000000000000 := by
      rw [hr2, byt_size]; simp [prI] at hlen; omega
    clear hr1 hr2 hlen h1 h2 h3 h4 hr hb0
    cases ls <;> cases hs <;> (
      go_enter Tryz.func135, Tryz.ntmps135
      go_wp2_with fail
      refine (HT1.out _ HB0.out).mono ?_
      rintro e w1 ⟨rfl, hb1⟩
      have HB1 := Lib.hid (HB0.out.trans (hb1.mono HB0.out.size))
      have HQ1 : Hid (Below (w.heap.size + 1) _ w1) := hb1.mono (by simp)
      have hk1 := HCELLS.out _ HQ1.out
      have x2 := Lib.cell_of_heap hk1 2
      have x3 := Lib.cell_of_heap hk1 3
      have x4 := Lib.cell_of_heap hk1 4
      simp only [List.getElem?_toArray, List.getElem?_cons_zero, List.getElem?_cons_succ] at x2 x3 x4
      clear hk1 hb1
      go_wp2_with fail
      refine (HT2.out _ HB1.out).mono ?_
      rintro e w2 ⟨rfl, hb2⟩
      have HB2 := Lib.hid (HB1.out.trans (hb2.mono HB1.out.size))
      have hk2 := HCELLS.out _ (HQ1.out.trans (hb2.mono (by have := HQ1.out.size; simp at this; omega)))
      have y2 := Lib.cell_of_heap hk2 2
      have y3 := Lib.cell_of_heap hk2 3
      have y4 := Lib.cell_of_heap hk2 4
      simp only [List.getElem?_toArray, List.getElem?_cons_zero, List.getElem?_cons_succ] at y2 y3 y4
      clear hk2 hb2 x2 x3 x4
      go_wp2_with fail
      all_goals go_ret
      all_goals exact ⟨ret_s (by rw [HT.out]; simp [ByteArray.append_assoc]), HB2.out⟩)
theorem len_two {α : Type} (l : List α) (h : l.length = 2) : ∃ x y, l = [x, y] := by
  match l, h with
  | [x, y], _ => exact ⟨x, y, rfl⟩
theorem inX_bin {m : Nat} (n : Nat) (k : Int) (is : List (FT m)) (x y : XT m n) (i : Spn) (h : Nat) (ch : UInt8) (h1 : ¬ k = 1) (h5 : ¬ k = 5) (h6 : ¬ k = 6) (hh : heightX k = h) (hc : (if k = 2 then (124 : UInt8) else if k = 3 then 38 else 59) = ch) :
    inX n ((k, is, [x, y], i) : XT m (n + 1)) = prX Lib.itoa n x h ++ [ch] ++ prX Lib.itoa n y (h + 1) := by
  subst hh hc
  show (if k = 1 then _ else if k = 5 then _ else if k = 6 then _ else _) = _
  rw [if_neg h1, if_neg h5, if_neg h6]
  simp only [List.map_cons, List.map_nil, List.getD_cons_zero, List.getD_cons_succ]
def TextX (m n : Nat) : Prop := ∀ (t : XT m n) (v : Value) (least : Nat) (li : Int) (w : World), Rdy w → li = (least : Int) → XRep w w.heap.size m n t v → allX rightX n t = true → (prX Lib.itoa n t least).length ≤ 1000000000000 →
  Calls Tryz.prog 85 #[v, .int .i64 li] w fun e w' => e = .returned (.string (byt (prX Lib.itoa n t least))) ∧ Below w.heap.size w w'
set_option maxRecDepth 100000 in
set_option maxHeartbeats 8000000 in
theorem text85_k1 (m n : Nat) (ih : TextX m n) (is : List (FT m)) (of : List (XT m n)) (a1 a : Option Addr) (c1 c : Nat) (lo hi : Int) (ls hs op : Bool) (w : World) (hrd : Rdy w) (hF : FRow w w.heap.size m a1 is) (hR : XRow w w.heap.size m n a of)
    (hr1 : rightX 1 is of.length ⟨lo, ls, hi, hs, op⟩ = true) (hr2 : ∀ x ∈ of, allX rightX n x = true) (li : Int) (hli : li ≤ heightX 1) (hlen : (inX n ((1, is, of, ⟨lo, ls, hi, hs, op⟩) : XT m (n + 1))).length ≤ 1000000000000) :
    Calls Tryz.prog 85 #[.agg #[.int .u8 1, .slice a1 is.length c1, .slice a of.length c, .int .i64 lo, .bool ls, .int .i64 hi, .bool hs, .bool op], .int .i64 li] w fun e w' => e = .returned (.string (byt (inX n ((1, is, of, ⟨lo, ls, hi, hs, op⟩) : XT m (n + 1))))) ∧ Below w.heap.size w w' := by
  obtain ⟨hk, hm, h6, h1k⟩ := rightX_parts hr1
  have HLW := Lib.hid (height133_any 1 (.slice a1 is.length c1) (.slice a of.length c) lo hi ls hs op (w.alloc (.cells #[.int .u8 1, .slice a1 is.length c1, .slice a of.length c, .int .i64 lo, .bool ls, .int .i64 hi, .bool hs, .bool op] 28)) hk)
  have hb0 : Below w.heap.size w (w.alloc (.cells #[.int .u8 1, .slice a1 is.length c1, .slice a of.length c, .int .i64 lo, .bool ls, .int .i64 hi, .bool hs, .bool op] 28)) := (Below.refl _ w).alloc (Nat.le_refl _) _
  have HB0 := Lib.hid hb0
  have HCELLS : Hid (∀ W, Below (w.heap.size + 1) (w.alloc (.cells #[.int .u8 1, .slice a1 is.length c1, .slice a of.length c, .int .i64 lo, .bool ls, .int .i64 hi, .bool hs, .bool op] 28)) W → W.heap[w.heap.size]? = some (.cells #[.int .u8 1, .slice a1 is.length c1, .slice a of.length c, .int .i64 lo, .bool ls, .int .i64 hi, .bool hs, .bool op] 28 (0, 0))) := by
    intro W hW
    rw [hW.block _ (by omega)]
    exact heap_top rfl
  have HSZ : Hid ((w.alloc (.cells #[.int .u8 1, .slice a1 is.length c1, .slice a of.length c, .int .i64 lo, .bool ls, .int .i64 hi, .bool hs, .bool op] 28)).heap.size = w.heap.size + 1) := by simp [Hid]
  have HR := Lib.hid hR
  have HF := Lib.hid hF
  have HIH := Lib.hid ih
  have HA := Lib.hid hr2
  have HRD : Hid (∀ W, Below w.heap.size w W → Rdy W) := fun W hW => hrd.below hW
  generalize hW0 : w.alloc (.cells #[.int .u8 1, .slice a1 is.length c1, .slice a of.length c, .int .i64 lo, .bool ls, .int .i64 hi, .bool hs, .bool op] 28) = W0 at HLW HB0 HCELLS HSZ
  have HW0 := Lib.hid hW0
  clear hR hF ih hr1 hr2 hb0 hW0 hrd
  obtain ⟨h1, hfa⟩ := h1k rfl
  obtain ⟨x, rfl⟩ : ∃ x, is = [x] := List.length_eq_one_iff.1 h1
  have HT : Hid (inX n ((1, [x], of, ⟨lo, ls, hi, hs, op⟩) : XT m (n + 1)) = prF m x 1) := by rw [Hid, ← prF_zero]; rfl
  have HLX : Hid ((prF m x 1).length ≤ 1000000000000) := by rw [HT.out] at hlen; exact hlen
  have HFA := Lib.hid (hfa x (by simp))
  clear hlen hm h6 h1k h1 hfa
  simp only [List.length_cons, List.length_nil, Nat.zero_add] at *
  have hlow : ¬ (5 : Int) < li := by have : heightX 1 = 5 := rfl; omega
  have HLW' : Hid (Calls Tryz.prog 133 _ W0 fun e w' => e = .returned (.int .i64 5) ∧ Below W0.heap.size W0 w') := HLW.out
  clear hli HLW
  go_enter Tryz.func85, Tryz.ntmps85
  go_wp2_with fail
  rw [HW0.out]
  clear HW0
  refine HLW'.out.mono ?_
  rintro e w1 ⟨rfl, hb1⟩
  have HB1 := Lib.hid (HB0.out.trans (hb1.mono HB0.out.size))
  have HT1 : Hid (Below (w.heap.size + 1) W0 w1) := hb1.mono (by rw [HSZ.out]; exact Nat.le_refl _)
  have hk1 := HCELLS.out _ HT1.out
  have x0 := Lib.cell_of_heap hk1 0
  have x1 := Lib.cell_of_heap hk1 1
  have x2 := Lib.cell_of_heap hk1 2
  have x3 := Lib.cell_of_heap hk1 3
  have x4 := Lib.cell_of_heap hk1 4
  have x5 := Lib.cell_of_heap hk1 5
  have x6 := Lib.cell_of_heap hk1 6
  have x7 := Lib.cell_of_heap hk1 7
  simp only [List.getElem?_toArray, List.getElem?_cons_zero, List.getElem?_cons_succ] at x0 x1 x2 x3 x4 x5 x6 x7
  clear hk1
  have hrow := FRow.up HF.out HB1.out (Nat.le_refl _)
  obtain ⟨rb, off, k', s', sa, sl, sc, rfl, hbl, c0, c1', c2, hr⟩ := hrow.at 0 (by simp)
  simp only [Nat.zero_mul, Nat.add_zero, List.getElem_cons_zero] at c0 c1' c2 hr
  have hlt : rb < w1.heap.size := by have := HB1.out.size; omega
  have HC := Lib.hid (text134_any m x _ 1 1 w1 rfl (hr.up (Below.refl _ _) HB1.out.size) HFA.out HLX.out)
  clear hr hrow hb1
  go_wp2_with fail
  refine HC.out.mono ?_
  rintro e w2 ⟨rfl, hb2⟩
  have HB2 := Lib.hid (HB1.out.trans (hb2.mono HB1.out.size))
  clear hb2
  go_wp2_with fail
  all_goals go_ret
  all_goals exact ⟨ret_s (by rw [HT.out]), HB2.out⟩
set_option maxRecDepth 100000 in
set_option maxHeartbeats 8000000 in
theorem text85_k2 (m n : Nat) (ih : TextX m n) (is : List (FT m)) (of : List (XT m n)) (a1 a : Option Addr) (c1 c : Nat) (lo hi : Int) (ls hs op : Bool) (w : World) (hrd : Rdy w) (hF : FRow w w.heap.size m a1 is) (hR : XRow w w.heap.size m n a of)
    (hr1 : rightX 2 is of.length ⟨lo, ls, hi, hs, op⟩ = true) (hr2 : ∀ x ∈ of, allX rightX n x = true) (li : Int) (hli : li ≤ heightX 2) (hlen : (inX n ((2, is, of, ⟨lo, ls, hi, hs, op⟩) : XT m (n + 1))).length ≤ 1000000000000) :
    Calls Tryz.prog 85 #[.agg #[.int .u8 2, .slice a1 is.length c1, .slice a of.length c, .int .i64 lo, .bool ls, .int .i64 hi, .bool hs, .bool op], .int .i64 li] w fun e w' => e = .returned (.string (byt (inX n ((2, is, of, ⟨lo, ls, hi, hs, op⟩) : XT m (n + 1))))) ∧ Below w.heap.size w w' := by
  obtain ⟨hk, hm, h6, h1k⟩ := rightX_parts hr1
  have HLW := Lib.hid (height133_any 2 (.slice a1 is.length c1) (.slice a of.length c) lo hi ls hs op (w.alloc (.cells #[.int .u8 2, .slice a1 is.length c1, .slice a of.length c, .int .i64 lo, .bool ls, .int .i64 hi, .bool hs, .bool op] 28)) hk)
  have hb0 : Below w.heap.size w (w.alloc (.cells #[.int .u8 2, .slice a1 is.length c1, .slice a of.length c, .int .i64 lo, .bool ls, .int .i64 hi, .bool hs, .bool op] 28)) := (Below.refl _ w).alloc (Nat.le_refl _) _
  have HB0 := Lib.hid hb0
  have HCELLS : Hid (∀ W, Below (w.heap.size + 1) (w.alloc (.cells #[.int .u8 2, .slice a1 is.length c1, .slice a of.length c, .int .i64 lo, .bool ls, .int .i64 hi, .bool hs, .bool op] 28)) W → W.heap[w.heap.size]? = some (.cells #[.int .u8 2, .slice a1 is.length c1, .slice a of.length c, .int .i64 lo, .bool ls, .int .i64 hi, .bool hs, .bool op] 28 (0, 0))) := by
    intro W hW
    rw [hW.block _ (by omega)]
    exact heap_top rfl
  have HSZ : Hid ((w.alloc (.cells #[.int .u8 2, .slice a1 is.length c1, .slice a of.length c, .int .i64 lo, .bool ls, .int .i64 hi, .bool hs, .bool op] 28)).heap.size = w.heap.size + 1) := by simp [Hid]
  have HR := Lib.hid hR
  have HF := Lib.hid hF
  have HIH := Lib.hid ih
  have HA := Lib.hid hr2
  have HRD : Hid (∀ W, Below w.heap.size w W → Rdy W) := fun W hW => hrd.below hW
  generalize hW0 : w.alloc (.cells #[.int .u8 2, .slice a1 is.length c1, .slice a of.length c, .int .i64 lo, .bool ls, .int .i64 hi, .bool hs, .bool op] 28) = W0 at HLW HB0 HCELLS HSZ
  have HW0 := Lib.hid hW0
  clear hR hF ih hr1 hr2 hb0 hW0 hrd
  have hm2 : of.length = 2 := hm
  clear hm
  obtain ⟨x, y, rfl⟩ := len_two of hm2
  have HE : Hid (inX n ((2, is, [x, y], ⟨lo, ls, hi, hs, op⟩) : XT m (n + 1)) = prX Lib.itoa n x 1 ++ [124] ++ prX Lib.itoa n y 2) := inX_bin n 2 is x y ⟨lo, ls, hi, hs, op⟩ 1 124 (by decide) (by decide) (by decide) rfl rfl
  have HLX : Hid ((prX Lib.itoa n x 1).length ≤ 1000000000000 ∧ (prX Lib.itoa n y 2).length ≤ 1000000000000) := by
    rw [HE.out] at hlen; simp at hlen; rw [Hid]; omega
  have HT : Hid (byt (inX n ((2, is, [x, y], ⟨lo, ls, hi, hs, op⟩) : XT m (n + 1))) = byt (prX Lib.itoa n x 1) ++ ⟨#[124]⟩ ++ byt (prX Lib.itoa n y 2)) := by
    refine Lib.hid ?_
    rw [HE.out, show (⟨#[124]⟩ : ByteArray) = byt [124] from rfl, byt_app, byt_app]
  clear hlen hm2 HE h6 h1k
  simp only [List.length_cons, List.length_nil, Nat.zero_add, Nat.reduceAdd] at *
  have hlow : ¬ (1 : Int) < li := by have : heightX 2 = 1 := rfl; omega
  have HLW' : Hid (Calls Tryz.prog 133 _ W0 fun e w' => e = .returned (.int .i64 1) ∧ Below W0.heap.size W0 w') := HLW.out
  clear hli HLW
  go_enter Tryz.func85, Tryz.ntmps85
  go_wp2_with fail
  rw [HW0.out]
  clear HW0
  refine HLW'.out.mono ?_
  rintro e w1 ⟨rfl, hb1⟩
  have HB1 := Lib.hid (HB0.out.trans (hb1.mono HB0.out.size))
  have HT1 : Hid (Below (w.heap.size + 1) W0 w1) := hb1.mono (by rw [HSZ.out]; exact Nat.le_refl _)
  have hk1 := HCELLS.out _ HT1.out
  have x0 := Lib.cell_of_heap hk1 0
  have x1 := Lib.cell_of_heap hk1 1
  have x2 := Lib.cell_of_heap hk1 2
  have x3 := Lib.cell_of_heap hk1 3
  have x4 := Lib.cell_of_heap hk1 4
  have x5 := Lib.cell_of_heap hk1 5
  have x6 := Lib.cell_of_heap hk1 6
  have x7 := Lib.cell_of_heap hk1 7
  simp only [List.getElem?_toArray, List.getElem?_cons_zero, List.getElem?_cons_succ] at x0 x1 x2 x3 x4 x5 x6 x7
  clear hk1
  obtain ⟨WV, hWV⟩ : ∃ WV, WV = w1.alloc (.cells #[.string ⟨#[124]⟩, .string ⟨#[38]⟩, .string ⟨#[59]⟩] 9) := ⟨_, rfl⟩
  have hbv : Below w1.heap.size w1 WV := by rw [hWV]; exact (Below.refl _ _).alloc (Nat.le_refl _) _
  have HBV := Lib.hid (HB1.out.trans (hbv.mono HB1.out.size))
  have HZV : Hid (w1.heap.size < WV.heap.size) := by rw [Hid, hWV]; simp
  have hz : WV.heap[w1.heap.size]? = some (.cells #[.string ⟨#[124]⟩, .string ⟨#[38]⟩, .string ⟨#[59]⟩] 9 (0, 0)) := by rw [hWV]; exact heap_top rfl
  have z0 := Lib.cell_of_heap hz 0
  have z1 := Lib.cell_of_heap hz 1
  have z2 := Lib.cell_of_heap hz 2
  simp only [List.getElem?_toArray, List.getElem?_cons_zero, List.getElem?_cons_succ] at z0 z1 z2
  have hbz1 : w.heap.size < w1.heap.size := by have := HT1.out.size; rw [HSZ.out] at this; omega
  have x2 := (hbv.cell (p := ⟨w.heap.size, 2, none⟩) hbz1).trans x2
  have hbz : w.heap.size < WV.heap.size := by have := HZV.out; omega
  have hrow := XRow.up HR.out HBV.out (Nat.le_refl _)
  obtain ⟨rb, off, k', p1, q1, d1, p2, q2, d2, lo', ls', hi', hs', op', rfl, hbl, c0, c1', c2, c3, c4, c5, c6, c7, hr⟩ := hrow.at 0 (by simp)
  simp only [Nat.zero_mul, Nat.add_zero, List.getElem_cons_zero] at c0 c1' c2 c3 c4 c5 c6 c7 hr
  obtain ⟨rb', off', k2, p3, q3, d3, p4, q4, d4, lo2, ls2, hi2, hs2, op2, hea, _, e0, e1, e2, e3, e4, e5, e6, e7, hr'⟩ := hrow.at 1 (by simp)
  injection hea with hea
  injection hea with hea1 hea2
  subst hea1 hea2
  simp only [Nat.one_mul, List.getElem_cons_succ, List.getElem_cons_zero] at e0 e1 e2 e3 e4 e5 e6 e7 hr'
  have e0 : WV.cell? ⟨rb, off + 8, none⟩ = some (.int .u8 k2) := e0
  have e1 : WV.cell? ⟨rb, off + 9, none⟩ = some (.slice p3 q3 d3) := e1
  have e2 : WV.cell? ⟨rb, off + 10, none⟩ = some (.slice p4 q4 d4) := e2
  have e3 : WV.cell? ⟨rb, off + 11, none⟩ = some (.int .i64 lo2) := e3
  have e4 : WV.cell? ⟨rb, off + 12, none⟩ = some (.bool ls2) := e4
  have e5 : WV.cell? ⟨rb, off + 13, none⟩ = some (.int .i64 hi2) := e5
  have e6 : WV.cell? ⟨rb, off + 14, none⟩ = some (.bool hs2) := e6
  have e7 : WV.cell? ⟨rb, off + 15, none⟩ = some (.bool op2) := e7
  have hlt : rb < WV.heap.size := by have := HBV.out.size; omega
  obtain ⟨r1, hr1⟩ : ∃ r, r = byt (prX Lib.itoa n x 1) := ⟨_, rfl⟩
  obtain ⟨r2, hr2⟩ : ∃ r, r = byt (prX Lib.itoa n y 2) := ⟨_, rfl⟩
  have hs1 : r1.size ≤ 1000000000000 := by rw [hr1, byt_size]; exact HLX.out.1
  have hs2' : r2.size ≤ 1000000000000 := by rw [hr2, byt_size]; exact HLX.out.2
  have HC1 : Hid (∀ W, Below WV.heap.size WV W → Calls Tryz.prog 85 #[.agg #[.int .u8 k', .slice p1 q1 d1, .slice p2 q2 d2, .int .i64 lo', .bool ls', .int .i64 hi', .bool hs', .bool op'], .int .i64 1] W fun e w' => e = .returned (.string r1) ∧ Below W.heap.size W w') := fun W hW => by
    rw [hr1]; exact HIH.out x _ 1 1 W (HRD.out _ (HBV.out.trans (hW.mono HBV.out.size))) rfl (hr.up (hW.mono HBV.out.size) (by have := HBV.out.size; have := hW.size; omega)) (HA.out _ (by simp)) HLX.out.1
  have HC2 : Hid (∀ W, Below WV.heap.size WV W → Calls Tryz.prog 85 #[.agg #[.int .u8 k2, .slice p3 q3 d3, .slice p4 q4 d4, .int .i64 lo2, .bool ls2, .int .i64 hi2, .bool hs2, .bool op2], .int .i64 2] W fun e w' => e = .returned (.string r2) ∧ Below W.heap.size W w') := fun W hW => by
    rw [hr2]; exact HIH.out y _ 2 2 W (HRD.out _ (HBV.out.trans (hW.mono HBV.out.size))) rfl (hr'.up (hW.mono HBV.out.size) (by have := HBV.out.size; have := hW.size; omega)) (HA.out _ (by simp)) HLX.out.2
  rw [← hr1, ← hr2] at HT
  have HWV := Lib.hid hWV.symm
  clear hr hr' hrow hb1 hr1 hr2 hbl hbv hz hWV hbz1
  have hw1 : IntKind.i64.wrap 0 = 0 := by decide
  have hw2 : IntKind.i64.wrap 2 = 2 := by decide
  go_wp2_with fail
  rw [HWV.out]
  clear HWV
  have HS : Hid (∀ W, Below WV.heap.size WV W → W.cell? ⟨w.heap.size, 2, none⟩ = some (.slice (some ⟨rb, off, none⟩) 2 c) ∧ W.cell? ⟨rb, off, none⟩ = some (.int .u8 k') ∧ W.cell? ⟨rb, off + 1, none⟩ = some (.slice p1 q1 d1) ∧ W.cell? ⟨rb, off + 2, none⟩ = some (.slice p2 q2 d2) ∧ W.cell? ⟨rb, off + 3, none⟩ = some (.int .i64 lo') ∧ W.cell? ⟨rb, off + 4, none⟩ = some (.bool ls') ∧ W.cell? ⟨rb, off + 5, none⟩ = some (.int .i64 hi') ∧ W.cell? ⟨rb, off + 6, none⟩ = some (.bool hs') ∧ W.cell? ⟨rb, off + 7, none⟩ = some (.bool op') ∧ W.cell? ⟨rb, off + 8, none⟩ = some (.int .u8 k2) ∧ W.cell? ⟨rb, off + 9, none⟩ = some (.slice p3 q3 d3) ∧ W.cell? ⟨rb, off + 10, none⟩ = some (.slice p4 q4 d4) ∧ W.cell? ⟨rb, off + 11, none⟩ = some (.int .i64 lo2) ∧ W.cell? ⟨rb, off + 12, none⟩ = some (.bool ls2) ∧ W.cell? ⟨rb, off + 13, none⟩ = some (.int .i64 hi2) ∧ W.cell? ⟨rb, off + 14, none⟩ = some (.bool hs2) ∧ W.cell? ⟨rb, off + 15, none⟩ = some (.bool op2) ∧ W.cell? ⟨w1.heap.size, 0, none⟩ = some (.string ⟨#[124]⟩) ∧ W.cell? ⟨w1.heap.size, 1, none⟩ = some (.string ⟨#[38]⟩) ∧ W.cell? ⟨w1.heap.size, 2, none⟩ = some (.string ⟨#[59]⟩)) := by
    intro W hW
    exact ⟨(hW.cell (p := ⟨w.heap.size, 2, none⟩) hbz).trans x2, (hW.cell (p := ⟨rb, off, none⟩) hlt).trans c0, (hW.cell (p := ⟨rb, off + 1, none⟩) hlt).trans c1', (hW.cell (p := ⟨rb, off + 2, none⟩) hlt).trans c2, (hW.cell (p := ⟨rb, off + 3, none⟩) hlt).trans c3, (hW.cell (p := ⟨rb, off + 4, none⟩) hlt).trans c4, (hW.cell (p := ⟨rb, off + 5, none⟩) hlt).trans c5, (hW.cell (p := ⟨rb, off + 6, none⟩) hlt).trans c6, (hW.cell (p := ⟨rb, off + 7, none⟩) hlt).trans c7, (hW.cell (p := ⟨rb, off + 8, none⟩) hlt).trans e0, (hW.cell (p := ⟨rb, off + 9, none⟩) hlt).trans e1, (hW.cell (p := ⟨rb, off + 10, none⟩) hlt).trans e2, (hW.cell (p := ⟨rb, off + 11, none⟩) hlt).trans e3, (hW.cell (p := ⟨rb, off + 12, none⟩) hlt).trans e4, (hW.cell (p := ⟨rb, off + 13, none⟩) hlt).trans e5, (hW.cell (p := ⟨rb, off + 14, none⟩) hlt).trans e6, (hW.cell (p := ⟨rb, off + 15, none⟩) hlt).trans e7, (hW.cell (p := ⟨w1.heap.size, 0, none⟩) HZV.out).trans z0, (hW.cell (p := ⟨w1.heap.size, 1, none⟩) HZV.out).trans z1, (hW.cell (p := ⟨w1.heap.size, 2, none⟩) HZV.out).trans z2⟩
  have hself : Below WV.heap.size WV WV := Below.refl _ _
  refine wp_region_held_drew (S := fun W => W.cell? ⟨w.heap.size, 2, none⟩ = some (.slice (some ⟨rb, off, none⟩) 2 c) ∧ W.cell? ⟨rb, off, none⟩ = some (.int .u8 k') ∧ W.cell? ⟨rb, off + 1, none⟩ = some (.slice p1 q1 d1) ∧ W.cell? ⟨rb, off + 2, none⟩ = some (.slice p2 q2 d2) ∧ W.cell? ⟨rb, off + 3, none⟩ = some (.int .i64 lo') ∧ W.cell? ⟨rb, off + 4, none⟩ = some (.bool ls') ∧ W.cell? ⟨rb, off + 5, none⟩ = some (.int .i64 hi') ∧ W.cell? ⟨rb, off + 6, none⟩ = some (.bool hs') ∧ W.cell? ⟨rb, off + 7, none⟩ = some (.bool op') ∧ W.cell? ⟨rb, off + 8, none⟩ = some (.int .u8 k2) ∧ W.cell? ⟨rb, off + 9, none⟩ = some (.slice p3 q3 d3) ∧ W.cell? ⟨rb, off + 10, none⟩ = some (.slice p4 q4 d4) ∧ W.cell? ⟨rb, off + 11, none⟩ = some (.int .i64 lo2) ∧ W.cell? ⟨rb, off + 12, none⟩ = some (.bool ls2) ∧ W.cell? ⟨rb, off + 13, none⟩ = some (.int .i64 hi2) ∧ W.cell? ⟨rb, off + 14, none⟩ = some (.bool hs2) ∧ W.cell? ⟨rb, off + 15, none⟩ = some (.bool op2) ∧ W.cell? ⟨w1.heap.size, 0, none⟩ = some (.string ⟨#[124]⟩) ∧ W.cell? ⟨w1.heap.size, 1, none⟩ = some (.string ⟨#[38]⟩) ∧ W.cell? ⟨w1.heap.size, 2, none⟩ = some (.string ⟨#[59]⟩)) (by kernel_rfl) (HS.out _ hself.drew) (fun hHeld => ?_)
  refine wpAnyH_take (i := 0) (v := ?_) rfl (by kernel_rfl) (by kernel_rfl) (by kernel_rfl) (fun _ _ _ h => h) (Or.inl ⟨by kernel_rfl, ?_⟩) (by assumption) ?_
  rotate_left
  · (intro w hSw; (try dsimp only at hSw); go_simp)
    with_reducible rfl
  try simp only [Act.put, List.setIfInBounds_toArray]
  refine wpAnyH_take (i := 1) (v := ?_) rfl (by kernel_rfl) (by kernel_rfl) (by kernel_rfl) (fun _ _ _ h => h) (Or.inl ⟨by kernel_rfl, ?_⟩) (by assumption) ?_
  rotate_left
  · (intro w hSw; (try dsimp only at hSw); go_simp)
    with_reducible rfl
  try simp only [Act.put]
  refine wpAnyH_take (i := 2) (v := ?_) rfl (by kernel_rfl) (by kernel_rfl) (by kernel_rfl) (fun _ _ _ h => h) (Or.inl ⟨by kernel_rfl, ?_⟩) (by assumption) ?_
  rotate_left
  · (intro w hSw; (try dsimp only at hSw); go_simp)
    with_reducible rfl
  try simp only [Act.put]
  refine wpAnyH_take (i := 3) (v := ?_) rfl (by kernel_rfl) (by kernel_rfl) (by kernel_rfl) (fun _ _ _ h => h) (Or.inl ⟨by kernel_rfl, ?_⟩) (by assumption) ?_
  rotate_left
  · (intro w hSw; (try dsimp only at hSw); go_simp)
    with_reducible rfl
  try simp only [Act.put]
  refine wpAnyH_take (i := 4) (v := ?_) rfl (by kernel_rfl) (by kernel_rfl) (by kernel_rfl) (fun _ _ _ h => h) (Or.inl ⟨by kernel_rfl, ?_⟩) (by assumption) ?_
  rotate_left
  · (intro w hSw; (try dsimp only at hSw); go_simp)
    with_reducible rfl
  try simp only [Act.put]
  refine wpAnyH_take (i := 6) (v := ?_) rfl (by kernel_rfl) (by kernel_rfl) (by kernel_rfl) (fun _ _ _ h => h) (Or.inl ⟨by kernel_rfl, ?_⟩) (by assumption) ?_
  rotate_left
  · (intro w hSw; (try dsimp only at hSw); go_simp)
    with_reducible rfl
  try simp only [Act.put]
  refine wpAnyH_take (i := 7) (v := ?_) rfl (by kernel_rfl) (by kernel_rfl) (by kernel_rfl) (fun _ _ _ h => h) (Or.inl ⟨by kernel_rfl, ?_⟩) (by assumption) ?_
  rotate_left
  · (intro w hSw; (try dsimp only at hSw); go_simp)
    with_reducible rfl
  try simp only [Act.put]
  refine wpAnyH_take (i := 8) (v := ?_) rfl (by kernel_rfl) (by kernel_rfl) (by kernel_rfl) (fun _ _ _ h => h) (Or.inl ⟨by kernel_rfl, ?_⟩) (by assumption) ?_
  rotate_left
  · (intro w hSw; (try dsimp only at hSw); go_simp)
    with_reducible rfl
  try simp only [Act.put]
  refine wpAnyH_take (i := 9) (v := ?_) rfl (by kernel_rfl) (by kernel_rfl) (by kernel_rfl) (fun _ _ _ h => h) (Or.inl ⟨by kernel_rfl, ?_⟩) (by assumption) ?_
  rotate_left
  · (intro w hSw; (try dsimp only at hSw); go_simp)
    with_reducible rfl
  try simp only [Act.put]
  refine wpAnyH_take (i := 10) (v := ?_) rfl (by kernel_rfl) (by kernel_rfl) (by kernel_rfl) (fun _ _ _ h => h) (Or.inl ⟨by kernel_rfl, ?_⟩) (by assumption) ?_
  rotate_left
  · (intro w hSw; (try dsimp only at hSw); go_simp)
    with_reducible rfl
  try simp only [Act.put]
  refine wpAnyH_take (i := 12) (v := ?_) rfl (by kernel_rfl) (by kernel_rfl) (by kernel_rfl) (fun _ _ _ h => h) (Or.inl ⟨by kernel_rfl, ?_⟩) (by assumption) ?_
  rotate_left
  · (intro w hSw; (try dsimp only at hSw); go_simp)
    with_reducible rfl
  try simp only [Act.put]
  refine wpAnyH_take (i := 13) (v := ?_) rfl (by kernel_rfl) (by kernel_rfl) (by kernel_rfl) (fun _ _ _ h => h) (Or.inl ⟨by kernel_rfl, ?_⟩) (by assumption) ?_
  rotate_left
  · (intro w hSw; (try dsimp only at hSw); go_simp)
    with_reducible rfl
  try simp only [Act.put]
  refine wpAnyH_take (i := 14) (v := ?_) rfl (by kernel_rfl) (by kernel_rfl) (by kernel_rfl) (fun _ _ _ h => h) (Or.inl ⟨by kernel_rfl, ?_⟩) (by assumption) ?_
  rotate_left
  · (intro w hSw; (try dsimp only at hSw); go_simp)
    with_reducible rfl
  try simp only [Act.put]
  refine wpAnyH_take (i := 15) (v := ?_) rfl (by kernel_rfl) (by kernel_rfl) (by kernel_rfl) (fun _ _ _ h => h) (Or.inl ⟨by kernel_rfl, ?_⟩) (by assumption) ?_
  rotate_left
  · (intro w hSw; (try dsimp only at hSw); go_simp)
    with_reducible rfl
  try simp only [Act.put]
  refine wpAnyH_take (i := 16) (v := ?_) rfl (by kernel_rfl) (by kernel_rfl) (by kernel_rfl) (fun _ _ _ h => h) (Or.inl ⟨by kernel_rfl, ?_⟩) (by assumption) ?_
  rotate_left
  · (intro w hSw; (try dsimp only at hSw); go_simp)
    with_reducible rfl
  try simp only [Act.put]
  refine wpAnyH_take (i := 17) (v := ?_) rfl (by kernel_rfl) (by kernel_rfl) (by kernel_rfl) (fun _ _ _ h => h) (Or.inl ⟨by kernel_rfl, ?_⟩) (by assumption) ?_
  rotate_left
  · (intro w hSw; (try dsimp only at hSw); go_simp)
    with_reducible rfl
  try simp only [Act.put]
  refine wpAnyH_ready (rs := [5]) (by kernel_rfl) (by simp) ?_
  refine AllReadyH.cons rfl (fun K hK => ?_) AllReadyH.nil
  go_simp
  go_at_call 85
  refine (HC1.out WV.drew hself.drew).mono ?_
  rintro e w2 ⟨rfl, hb2⟩
  have hb12 : Below WV.heap.size WV w2 := hself.drew.trans (hb2.mono (by simp))
  dsimp only
  refine hK.out _ _ (HS.out _ (hb12)) (fun hHeld => ?_)
  clear hK K
  try simp only [Act.put, List.setIfInBounds_toArray, List.set_cons_zero, List.set_cons_succ]
  refine wpAnyH_take (i := 11) (v := ?_) rfl (by kernel_rfl) (by kernel_rfl) (by kernel_rfl) (fun _ _ _ h => h) (Or.inl ⟨by kernel_rfl, ?_⟩) (by assumption) ?_
  rotate_left
  · (intro w hSw; (try dsimp only at hSw); go_simp)
    rw [if_neg (by omega)]
  try simp only [Act.put, List.setIfInBounds_toArray]
  refine wpAnyH_ready (rs := [18]) (by kernel_rfl) (by simp) ?_
  refine AllReadyH.cons rfl (fun K hK => ?_) AllReadyH.nil
  go_simp
  go_at_call 85
  refine (HC2.out w2 hb12).mono ?_
  rintro e w3 ⟨rfl, hb3⟩
  have hb13 : Below WV.heap.size WV w3 := hb12.trans (hb3.mono hb12.size)
  dsimp only
  refine hK.out _ _ (HS.out _ (hb13)) (fun hHeld => ?_)
  clear hK K
  try simp only [Act.put, List.setIfInBounds_toArray, List.set_cons_zero, List.set_cons_succ]
  refine wpAnyH_take (i := 19) (v := ?_) rfl (by kernel_rfl) (by kernel_rfl) (by kernel_rfl) (fun _ _ _ h => h) (Or.inl ⟨by kernel_rfl, ?_⟩) (by assumption) ?_
  rotate_left
  · (intro w hSw; (try dsimp only at hSw); go_simp)
    rw [if_neg (by omega)]
  try simp only [Act.put, List.setIfInBounds_toArray]
  refine wpAnyH_ready (rs := [20]) (by kernel_rfl) (by simp) ?_
  refine AllReadyH.cons rfl (fun K hK => ?_) AllReadyH.nil
  go_simp
  refine hK.out _ _ (HS.out _ (hb13)) (fun hHeld => ?_)
  clear hK K
  try simp only [Act.put, List.setIfInBounds_toArray, List.set_cons_zero, List.set_cons_succ]
  refine wpAnyH_done (by kernel_rfl) ?_ _
  have HB3 := Lib.hid (HBV.out.trans (hb13.mono HBV.out.size))
  clear hHeld hb12 hb13 hb2 hb3
  go_wp2_with fail
  all_goals go_ret
  all_goals exact ⟨ret_s (by rw [HT.out]), HB3.out⟩
set_option maxRecDepth 100000 in
set_option maxHeartbeats 8000000 in
theorem text85_k3 (m n : Nat) (ih : TextX m n) (is : List (FT m)) (of : List (XT m n)) (a1 a : Option Addr) (c1 c : Nat) (lo hi : Int) (ls hs op : Bool) (w : World) (hrd : Rdy w) (hF : FRow w w.heap.size m a1 is) (hR : XRow w w.heap.size m n a of)
    (hr1 : rightX 3 is of.length ⟨lo, ls, hi, hs, op⟩ = true) (hr2 : ∀ x ∈ of, allX rightX n x = true) (li : Int) (hli : li ≤ heightX 3) (hlen : (inX n ((3, is, of, ⟨lo, ls, hi, hs, op⟩) : XT m (n + 1))).length ≤ 1000000000000) :
    Calls Tryz.prog 85 #[.agg #[.int .u8 3, .slice a1 is.length c1, .slice a of.length c, .int .i64 lo, .bool ls, .int .i64 hi, .bool hs, .bool op], .int .i64 li] w fun e w' => e = .returned (.string (byt (inX n ((3, is, of, ⟨lo, ls, hi, hs, op⟩) : XT m (n + 1))))) ∧ Below w.heap.size w w' := by
  obtain ⟨hk, hm, h6, h1k⟩ := rightX_parts hr1
  have HLW := Lib.hid (height133_any 3 (.slice a1 is.length c1) (.slice a of.length c) lo hi ls hs op (w.alloc (.cells #[.int .u8 3, .slice a1 is.length c1, .slice a of.length c, .int .i64 lo, .bool ls, .int .i64 hi, .bool hs, .bool op] 28)) hk)
  have hb0 : Below w.heap.size w (w.alloc (.cells #[.int .u8 3, .slice a1 is.length c1, .slice a of.length c, .int .i64 lo, .bool ls, .int .i64 hi, .bool hs, .bool op] 28)) := (Below.refl _ w).alloc (Nat.le_refl _) _
  have HB0 := Lib.hid hb0
  have HCELLS : Hid (∀ W, Below (w.heap.size + 1) (w.alloc (.cells #[.int .u8 3, .slice a1 is.length c1, .slice a of.length c, .int .i64 lo, .bool ls, .int .i64 hi, .bool hs, .bool op] 28)) W → W.heap[w.heap.size]? = some (.cells #[.int .u8 3, .slice a1 is.length c1, .slice a of.length c, .int .i64 lo, .bool ls, .int .i64 hi, .bool hs, .bool op] 28 (0, 0))) := by
    intro W hW
    rw [hW.block _ (by omega)]
    exact heap_top rfl
  have HSZ : Hid ((w.alloc (.cells #[.int .u8 3, .slice a1 is.length c1, .slice a of.length c, .int .i64 lo, .bool ls, .int .i64 hi, .bool hs, .bool op] 28)).heap.size = w.heap.size + 1) := by simp [Hid]
  have HR := Lib.hid hR
  have HF := Lib.hid hF
  have HIH := Lib.hid ih
  have HA := Lib.hid hr2
  have HRD : Hid (∀ W, Below w.heap.size w W → Rdy W) := fun W hW => hrd.below hW
  generalize hW0 : w.alloc (.cells #[.int .u8 3, .slice a1 is.length c1, .slice a of.length c, .int .i64 lo, .bool ls, .int .i64 hi, .bool hs, .bool op] 28) = W0 at HLW HB0 HCELLS HSZ
  have HW0 := Lib.hid hW0
  clear hR hF ih hr1 hr2 hb0 hW0 hrd
  have hm2 : of.length = 2 := hm
  clear hm
  obtain ⟨x, y, rfl⟩ := len_two of hm2
  have HE : Hid (inX n ((3, is, [x, y], ⟨lo, ls, hi, hs, op⟩) : XT m (n + 1)) = prX Lib.itoa n x 2 ++ [38] ++ prX Lib.itoa n y 3) := inX_bin n 3 is x y ⟨lo, ls, hi, hs, op⟩ 2 38 (by decide) (by decide) (by decide) rfl rfl
  have HLX : Hid ((prX Lib.itoa n x 2).length ≤ 1000000000000 ∧ (prX Lib.itoa n y 3).length ≤ 1000000000000) := by
    rw [HE.out] at hlen; simp at hlen; rw [Hid]; omega
  have HT : Hid (byt (inX n ((3, is, [x, y], ⟨lo, ls, hi, hs, op⟩) : XT m (n + 1))) = byt (prX Lib.itoa n x 2) ++ ⟨#[38]⟩ ++ byt (prX Lib.itoa n y 3)) := by
    refine Lib.hid ?_
    rw [HE.out, show (⟨#[38]⟩ : ByteArray) = byt [38] from rfl, byt_app, byt_app]
  clear hlen hm2 HE h6 h1k
  simp only [List.length_cons, List.length_nil, Nat.zero_add, Nat.reduceAdd] at *
  have hlow : ¬ (2 : Int) < li := by have : heightX 3 = 2 := rfl; omega
  have HLW' : Hid (Calls Tryz.prog 133 _ W0 fun e w' => e = .returned (.int .i64 2) ∧ Below W0.heap.size W0 w') := HLW.out
  clear hli HLW
  go_enter Tryz.func85, Tryz.ntmps85
  go_wp2_with fail
  rw [HW0.out]
  clear HW0
  refine HLW'.out.mono ?_
  rintro e w1 ⟨rfl, hb1⟩
  have HB1 := Lib.hid (HB0.out.trans (hb1.mono HB0.out.size))
  have HT1 : Hid (Below (w.heap.size + 1) W0 w1) := hb1.mono (by rw [HSZ.out]; exact Nat.le_refl _)
  have hk1 := HCELLS.out _ HT1.out
  have x0 := Lib.cell_of_heap hk1 0
  have x1 := Lib.cell_of_heap hk1 1
  have x2 := Lib.cell_of_heap hk1 2
  have x3 := Lib.cell_of_heap hk1 3
  have x4 := Lib.cell_of_heap hk1 4
  have x5 := Lib.cell_of_heap hk1 5
  have x6 := Lib.cell_of_heap hk1 6
  have x7 := Lib.cell_of_heap hk1 7
  simp only [List.getElem?_toArray, List.getElem?_cons_zero, List.getElem?_cons_succ] at x0 x1 x2 x3 x4 x5 x6 x7
  clear hk1
  obtain ⟨WV, hWV⟩ : ∃ WV, WV = w1.alloc (.cells #[.string ⟨#[124]⟩, .string ⟨#[38]⟩, .string ⟨#[59]⟩] 9) := ⟨_, rfl⟩
  have hbv : Below w1.heap.size w1 WV := by rw [hWV]; exact (Below.refl _ _).alloc (Nat.le_refl _) _
  have HBV := Lib.hid (HB1.out.trans (hbv.mono HB1.out.size))
  have HZV : Hid (w1.heap.size < WV.heap.size) := by rw [Hid, hWV]; simp
  have hz : WV.heap[w1.heap.size]? = some (.cells #[.string ⟨#[124]⟩, .string ⟨#[38]⟩, .string ⟨#[59]⟩] 9 (0, 0)) := by rw [hWV]; exact heap_top rfl
  have z0 := Lib.cell_of_heap hz 0
  have z1 := Lib.cell_of_heap hz 1
  have z2 := Lib.cell_of_heap hz 2
  simp only [List.getElem?_toArray, List.getElem?_cons_zero, List.getElem?_cons_succ] at z0 z1 z2
  have hbz1 : w.heap.size < w1.heap.size := by have := HT1.out.size; rw [HSZ.out] at this; omega
  have x2 := (hbv.cell (p := ⟨w.heap.size, 2, none⟩) hbz1).trans x2
  have hbz : w.heap.size < WV.heap.size := by have := HZV.out; omega
  have hrow := XRow.up HR.out HBV.out (Nat.le_refl _)
  obtain ⟨rb, off, k', p1, q1, d1, p2, q2, d2, lo', ls', hi', hs', op', rfl, hbl, c0, c1', c2, c3, c4, c5, c6, c7, hr⟩ := hrow.at 0 (by simp)
  simp only [Nat.zero_mul, Nat.add_zero, List.getElem_cons_zero] at c0 c1' c2 c3 c4 c5 c6 c7 hr
  obtain ⟨rb', off', k2, p3, q3, d3, p4, q4, d4, lo2, ls2, hi2, hs2, op2, hea, _, e0, e1, e2, e3, e4, e5, e6, e7, hr'⟩ := hrow.at 1 (by simp)
  injection hea with hea
  injection hea with hea1 hea2
  subst hea1 hea2
  simp only [Nat.one_mul, List.getElem_cons_succ, List.getElem_cons_zero] at e0 e1 e2 e3 e4 e5 e6 e7 hr'
  have e0 : WV.cell? ⟨rb, off + 8, none⟩ = some (.int .u8 k2) := e0
  have e1 : WV.cell? ⟨rb, off + 9, none⟩ = some (.slice p3 q3 d3) := e1
  have e2 : WV.cell? ⟨rb, off + 10, none⟩ = some (.slice p4 q4 d4) := e2
  have e3 : WV.cell? ⟨rb, off + 11, none⟩ = some (.int .i64 lo2) := e3
  have e4 : WV.cell? ⟨rb, off + 12, none⟩ = some (.bool ls2) := e4
  have e5 : WV.cell? ⟨rb, off + 13, none⟩ = some (.int .i64 hi2) := e5
  have e6 : WV.cell? ⟨rb, off + 14, none⟩ = some (.bool hs2) := e6
  have e7 : WV.cell? ⟨rb, off + 15, none⟩ = some (.bool op2) := e7
  have hlt : rb < WV.heap.size := by have := HBV.out.size; omega
  obtain ⟨r1, hr1⟩ : ∃ r, r = byt (prX Lib.itoa n x 2) := ⟨_, rfl⟩
  obtain ⟨r2, hr2⟩ : ∃ r, r = byt (prX Lib.itoa n y 3) := ⟨_, rfl⟩
  have hs1 : r1.size ≤ 1000000000000 := by rw [hr1, byt_size]; exact HLX.out.1
  have hs2' : r2.size ≤ 1000000000000 := by rw [hr2, byt_size]; exact HLX.out.2
  have HC1 : Hid (∀ W, Below WV.heap.size WV W → Calls Tryz.prog 85 #[.agg #[.int .u8 k', .slice p1 q1 d1, .slice p2 q2 d2, .int .i64 lo', .bool ls', .int .i64 hi', .bool hs', .bool op'], .int .i64 2] W fun e w' => e = .returned (.string r1) ∧ Below W.heap.size W w') := fun W hW => by
    rw [hr1]; exact HIH.out x _ 2 2 W (HRD.out _ (HBV.out.trans (hW.mono HBV.out.size))) rfl (hr.up (hW.mono HBV.out.size) (by have := HBV.out.size; have := hW.size; omega)) (HA.out _ (by simp)) HLX.out.1
  have HC2 : Hid (∀ W, Below WV.heap.size WV W → Calls Tryz.prog 85 #[.agg #[.int .u8 k2, .slice p3 q3 d3, .slice p4 q4 d4, .int .i64 lo2, .bool ls2, .int .i64 hi2, .bool hs2, .bool op2], .int .i64 3] W fun e w' => e = .returned (.string r2) ∧ Below W.heap.size W w') := fun W hW => by
    rw [hr2]; exact HIH.out y _ 3 3 W (HRD.out _ (HBV.out.trans (hW.mono HBV.out.size))) rfl (hr'.up (hW.mono HBV.out.size) (by have := HBV.out.size; have := hW.size; omega)) (HA.out _ (by simp)) HLX.out.2
  rw [← hr1, ← hr2] at HT
  have HWV := Lib.hid hWV.symm
  clear hr hr' hrow hb1 hr1 hr2 hbl hbv hz hWV hbz1
  have hw1 : IntKind.i64.wrap 1 = 1 := by decide
  have hw2 : IntKind.i64.wrap 3 = 3 := by decide
  go_wp2_with fail
  rw [HWV.out]
  clear HWV
  have HS : Hid (∀ W, Below WV.heap.size WV W → W.cell? ⟨w.heap.size, 2, none⟩ = some (.slice (some ⟨rb, off, none⟩) 2 c) ∧ W.cell? ⟨rb, off, none⟩ = some (.int .u8 k') ∧ W.cell? ⟨rb, off + 1, none⟩ = some (.slice p1 q1 d1) ∧ W.cell? ⟨rb, off + 2, none⟩ = some (.slice p2 q2 d2) ∧ W.cell? ⟨rb, off + 3, none⟩ = some (.int .i64 lo') ∧ W.cell? ⟨rb, off + 4, none⟩ = some (.bool ls') ∧ W.cell? ⟨rb, off + 5, none⟩ = some (.int .i64 hi') ∧ W.cell? ⟨rb, off + 6, none⟩ = some (.bool hs') ∧ W.cell? ⟨rb, off + 7, none⟩ = some (.bool op') ∧ W.cell? ⟨rb, off + 8, none⟩ = some (.int .u8 k2) ∧ W.cell? ⟨rb, off + 9, none⟩ = some (.slice p3 q3 d3) ∧ W.cell? ⟨rb, off + 10, none⟩ = some (.slice p4 q4 d4) ∧ W.cell? ⟨rb, off + 11, none⟩ = some (.int .i64 lo2) ∧ W.cell? ⟨rb, off + 12, none⟩ = some (.bool ls2) ∧ W.cell? ⟨rb, off + 13, none⟩ = some (.int .i64 hi2) ∧ W.cell? ⟨rb, off + 14, none⟩ = some (.bool hs2) ∧ W.cell? ⟨rb, off + 15, none⟩ = some (.bool op2) ∧ W.cell? ⟨w1.heap.size, 0, none⟩ = some (.string ⟨#[124]⟩) ∧ W.cell? ⟨w1.heap.size, 1, none⟩ = some (.string ⟨#[38]⟩) ∧ W.cell? ⟨w1.heap.size, 2, none⟩ = some (.string ⟨#[59]⟩)) := by
    intro W hW
    exact ⟨(hW.cell (p := ⟨w.heap.size, 2, none⟩) hbz).trans x2, (hW.cell (p := ⟨rb, off, none⟩) hlt).trans c0, (hW.cell (p := ⟨rb, off + 1, none⟩) hlt).trans c1', (hW.cell (p := ⟨rb, off + 2, none⟩) hlt).trans c2, (hW.cell (p := ⟨rb, off + 3, none⟩) hlt).trans c3, (hW.cell (p := ⟨rb, off + 4, none⟩) hlt).trans c4, (hW.cell (p := ⟨rb, off + 5, none⟩) hlt).trans c5, (hW.cell (p := ⟨rb, off + 6, none⟩) hlt).trans c6, (hW.cell (p := ⟨rb, off + 7, none⟩) hlt).trans c7, (hW.cell (p := ⟨rb, off + 8, none⟩) hlt).trans e0, (hW.cell (p := ⟨rb, off + 9, none⟩) hlt).trans e1, (hW.cell (p := ⟨rb, off + 10, none⟩) hlt).trans e2, (hW.cell (p := ⟨rb, off + 11, none⟩) hlt).trans e3, (hW.cell (p := ⟨rb, off + 12, none⟩) hlt).trans e4, (hW.cell (p := ⟨rb, off + 13, none⟩) hlt).trans e5, (hW.cell (p := ⟨rb, off + 14, none⟩) hlt).trans e6, (hW.cell (p := ⟨rb, off + 15, none⟩) hlt).trans e7, (hW.cell (p := ⟨w1.heap.size, 0, none⟩) HZV.out).trans z0, (hW.cell (p := ⟨w1.heap.size, 1, none⟩) HZV.out).trans z1, (hW.cell (p := ⟨w1.heap.size, 2, none⟩) HZV.out).trans z2⟩
  have hself : Below WV.heap.size WV WV := Below.refl _ _
  refine wp_region_held_drew (S := fun W => W.cell? ⟨w.heap.size, 2, none⟩ = some (.slice (some ⟨rb, off, none⟩) 2 c) ∧ W.cell? ⟨rb, off, none⟩ = some (.int .u8 k') ∧ W.cell? ⟨rb, off + 1, none⟩ = some (.slice p1 q1 d1) ∧ W.cell? ⟨rb, off + 2, none⟩ = some (.slice p2 q2 d2) ∧ W.cell? ⟨rb, off + 3, none⟩ = some (.int .i64 lo') ∧ W.cell? ⟨rb, off + 4, none⟩ = some (.bool ls') ∧ W.cell? ⟨rb, off + 5, none⟩ = some (.int .i64 hi') ∧ W.cell? ⟨rb, off + 6, none⟩ = some (.bool hs') ∧ W.cell? ⟨rb, off + 7, none⟩ = some (.bool op') ∧ W.cell? ⟨rb, off + 8, none⟩ = some (.int .u8 k2) ∧ W.cell? ⟨rb, off + 9, none⟩ = some (.slice p3 q3 d3) ∧ W.cell? ⟨rb, off + 10, none⟩ = some (.slice p4 q4 d4) ∧ W.cell? ⟨rb, off + 11, none⟩ = some (.int .i64 lo2) ∧ W.cell? ⟨rb, off + 12, none⟩ = some (.bool ls2) ∧ W.cell? ⟨rb, off + 13, none⟩ = some (.int .i64 hi2) ∧ W.cell? ⟨rb, off + 14, none⟩ = some (.bool hs2) ∧ W.cell? ⟨rb, off + 15, none⟩ = some (.bool op2) ∧ W.cell? ⟨w1.heap.size, 0, none⟩ = some (.string ⟨#[124]⟩) ∧ W.cell? ⟨w1.heap.size, 1, none⟩ = some (.string ⟨#[38]⟩) ∧ W.cell? ⟨w1.heap.size, 2, none⟩ = some (.string ⟨#[59]⟩)) (by kernel_rfl) (HS.out _ hself.drew) (fun hHeld => ?_)
  refine wpAnyH_take (i := 0) (v := ?_) rfl (by kernel_rfl) (by kernel_rfl) (by kernel_rfl) (fun _ _ _ h => h) (Or.inl ⟨by kernel_rfl, ?_⟩) (by assumption) ?_
  rotate_left
  · (intro w hSw; (try dsimp only at hSw); go_simp)
    with_reducible rfl
  try simp only [Act.put, List.setIfInBounds_toArray]
  refine wpAnyH_take (i := 1) (v := ?_) rfl (by kernel_rfl) (by kernel_rfl) (by kernel_rfl) (fun _ _ _ h => h) (Or.inl ⟨by kernel_rfl, ?_⟩) (by assumption) ?_
  rotate_left
  · (intro w hSw; (try dsimp only at hSw); go_simp)
    with_reducible rfl
  try simp only [Act.put]
  refine wpAnyH_take (i := 2) (v := ?_) rfl (by kernel_rfl) (by kernel_rfl) (by kernel_rfl) (fun _ _ _ h => h) (Or.inl ⟨by kernel_rfl, ?_⟩) (by assumption) ?_
  rotate_left
  · (intro w hSw; (try dsimp only at hSw); go_simp)
    with_reducible rfl
  try simp only [Act.put]
  refine wpAnyH_take (i := 3) (v := ?_) rfl (by kernel_rfl) (by kernel_rfl) (by kernel_rfl) (fun _ _ _ h => h) (Or.inl ⟨by kernel_rfl, ?_⟩) (by assumption) ?_
  rotate_left
  · (intro w hSw; (try dsimp only at hSw); go_simp)
    with_reducible rfl
  try simp only [Act.put]
  refine wpAnyH_take (i := 4) (v := ?_) rfl (by kernel_rfl) (by kernel_rfl) (by kernel_rfl) (fun _ _ _ h => h) (Or.inl ⟨by kernel_rfl, ?_⟩) (by assumption) ?_
  rotate_left
  · (intro w hSw; (try dsimp only at hSw); go_simp)
    with_reducible rfl
  try simp only [Act.put]
  refine wpAnyH_take (i := 6) (v := ?_) rfl (by kernel_rfl) (by kernel_rfl) (by kernel_rfl) (fun _ _ _ h => h) (Or.inl ⟨by kernel_rfl, ?_⟩) (by assumption) ?_
  rotate_left
  · (intro w hSw; (try dsimp only at hSw); go_simp)
    with_reducible rfl
  try simp only [Act.put]
  refine wpAnyH_take (i := 7) (v := ?_) rfl (by kernel_rfl) (by kernel_rfl) (by kernel_rfl) (fun _ _ _ h => h) (Or.inl ⟨by kernel_rfl, ?_⟩) (by assumption) ?_
  rotate_left
  · (intro w hSw; (try dsimp only at hSw); go_simp)
    with_reducible rfl
  try simp only [Act.put]
  refine wpAnyH_take (i := 8) (v := ?_) rfl (by kernel_rfl) (by kernel_rfl) (by kernel_rfl) (fun _ _ _ h => h) (Or.inl ⟨by kernel_rfl, ?_⟩) (by assumption) ?_
  rotate_left
  · (intro w hSw; (try dsimp only at hSw); go_simp)
    with_reducible rfl
  try simp only [Act.put]
  refine wpAnyH_take (i := 9) (v := ?_) rfl (by kernel_rfl) (by kernel_rfl) (by kernel_rfl) (fun _ _ _ h => h) (Or.inl ⟨by kernel_rfl, ?_⟩) (by assumption) ?_
  rotate_left
  · (intro w hSw; (try dsimp only at hSw); go_simp)
    with_reducible rfl
  try simp only [Act.put]
  refine wpAnyH_take (i := 10) (v := ?_) rfl (by kernel_rfl) (by kernel_rfl) (by kernel_rfl) (fun _ _ _ h => h) (Or.inl ⟨by kernel_rfl, ?_⟩) (by assumption) ?_
  rotate_left
  · (intro w hSw; (try dsimp only at hSw); go_simp)
    with_reducible rfl
  try simp only [Act.put]
  refine wpAnyH_take (i := 12) (v := ?_) rfl (by kernel_rfl) (by kernel_rfl) (by kernel_rfl) (fun _ _ _ h => h) (Or.inl ⟨by kernel_rfl, ?_⟩) (by assumption) ?_
  rotate_left
  · (intro w hSw; (try dsimp only at hSw); go_simp)
    with_reducible rfl
  try simp only [Act.put]
  refine wpAnyH_take (i := 13) (v := ?_) rfl (by kernel_rfl) (by kernel_rfl) (by kernel_rfl) (fun _ _ _ h => h) (Or.inl ⟨by kernel_rfl, ?_⟩) (by assumption) ?_
  rotate_left
  · (intro w hSw; (try dsimp only at hSw); go_simp)
    with_reducible rfl
  try simp only [Act.put]
  refine wpAnyH_take (i := 14) (v := ?_) rfl (by kernel_rfl) (by kernel_rfl) (by kernel_rfl) (fun _ _ _ h => h) (Or.inl ⟨by kernel_rfl, ?_⟩) (by assumption) ?_
  rotate_left
  · (intro w hSw; (try dsimp only at hSw); go_simp)
    with_reducible rfl
  try simp only [Act.put]
  refine wpAnyH_take (i := 15) (v := ?_) rfl (by kernel_rfl) (by kernel_rfl) (by kernel_rfl) (fun _ _ _ h => h) (Or.inl ⟨by kernel_rfl, ?_⟩) (by assumption) ?_
  rotate_left
  · (intro w hSw; (try dsimp only at hSw); go_simp)
    with_reducible rfl
  try simp only [Act.put]
  refine wpAnyH_take (i := 16) (v := ?_) rfl (by kernel_rfl) (by kernel_rfl) (by kernel_rfl) (fun _ _ _ h => h) (Or.inl ⟨by kernel_rfl, ?_⟩) (by assumption) ?_
  rotate_left
  · (intro w hSw; (try dsimp only at hSw); go_simp)
    with_reducible rfl
  try simp only [Act.put]
  refine wpAnyH_take (i := 17) (v := ?_) rfl (by kernel_rfl) (by kernel_rfl) (by kernel_rfl) (fun _ _ _ h => h) (Or.inl ⟨by kernel_rfl, ?_⟩) (by assumption) ?_
  rotate_left
  · (intro w hSw; (try dsimp only at hSw); go_simp)
    with_reducible rfl
  try simp only [Act.put]
  refine wpAnyH_ready (rs := [5]) (by kernel_rfl) (by simp) ?_
  refine AllReadyH.cons rfl (fun K hK => ?_) AllReadyH.nil
  go_simp
  go_at_call 85
  refine (HC1.out WV.drew hself.drew).mono ?_
  rintro e w2 ⟨rfl, hb2⟩
  have hb12 : Below WV.heap.size WV w2 := hself.drew.trans (hb2.mono (by simp))
  dsimp only
  refine hK.out _ _ (HS.out _ (hb12)) (fun hHeld => ?_)
  clear hK K
  try simp only [Act.put, List.setIfInBounds_toArray, List.set_cons_zero, List.set_cons_succ]
  refine wpAnyH_take (i := 11) (v := ?_) rfl (by kernel_rfl) (by kernel_rfl) (by kernel_rfl) (fun _ _ _ h => h) (Or.inl ⟨by kernel_rfl, ?_⟩) (by assumption) ?_
  rotate_left
  · (intro w hSw; (try dsimp only at hSw); go_simp)
    rw [if_neg (by omega)]
  try simp only [Act.put, List.setIfInBounds_toArray]
  refine wpAnyH_ready (rs := [18]) (by kernel_rfl) (by simp) ?_
  refine AllReadyH.cons rfl (fun K hK => ?_) AllReadyH.nil
  go_simp
  go_at_call 85
  refine (HC2.out w2 hb12).mono ?_
  rintro e w3 ⟨rfl, hb3⟩
  have hb13 : Below WV.heap.size WV w3 := hb12.trans (hb3.mono hb12.size)
  dsimp only
  refine hK.out _ _ (HS.out _ (hb13)) (fun hHeld => ?_)
  clear hK K
  try simp only [Act.put, List.setIfInBounds_toArray, List.set_cons_zero, List.set_cons_succ]
  refine wpAnyH_take (i := 19) (v := ?_) rfl (by kernel_rfl) (by kernel_rfl) (by kernel_rfl) (fun _ _ _ h => h) (Or.inl ⟨by kernel_rfl, ?_⟩) (by assumption) ?_
  rotate_left
  · (intro w hSw; (try dsimp only at hSw); go_simp)
    rw [if_neg (by omega)]
  try simp only [Act.put, List.setIfInBounds_toArray]
  refine wpAnyH_ready (rs := [20]) (by kernel_rfl) (by simp) ?_
  refine AllReadyH.cons rfl (fun K hK => ?_) AllReadyH.nil
  go_simp
  refine hK.out _ _ (HS.out _ (hb13)) (fun hHeld => ?_)
  clear hK K
  try simp only [Act.put, List.setIfInBounds_toArray, List.set_cons_zero, List.set_cons_succ]
  refine wpAnyH_done (by kernel_rfl) ?_ _
  have HB3 := Lib.hid (HBV.out.trans (hb13.mono HBV.out.size))
  clear hHeld hb12 hb13 hb2 hb3
  go_wp2_with fail
  all_goals go_ret
  all_goals exact ⟨ret_s (by rw [HT.out]), HB3.out⟩
set_option maxRecDepth 100000 in
set_option maxHeartbeats 8000000 in
theorem text85_k4 (m n : Nat) (ih : TextX m n) (is : List (FT m)) (of : List (XT m n)) (a1 a : Option Addr) (c1 c : Nat) (lo hi : Int) (ls hs op : Bool) (w : World) (hrd : Rdy w) (hF : FRow w w.heap.size m a1 is) (hR : XRow w w.heap.size m n a of)
    (hr1 : rightX 4 is of.length ⟨lo, ls, hi, hs, op⟩ = true) (hr2 : ∀ x ∈ of, allX rightX n x = true) (li : Int) (hli : li ≤ heightX 4) (hlen : (inX n ((4, is, of, ⟨lo, ls, hi, hs, op⟩) : XT m (n + 1))).length ≤ 1000000000000) :
    Calls Tryz.prog 85 #[.agg #[.int .u8 4, .slice a1 is.length c1, .slice a of.length c, .int .i64 lo, .bool ls, .int .i64 hi, .bool hs, .bool op], .int .i64 li] w fun e w' => e = .returned (.string (byt (inX n ((4, is, of, ⟨lo, ls, hi, hs, op⟩) : XT m (n + 1))))) ∧ Below w.heap.size w w' := by
  obtain ⟨hk, hm, h6, h1k⟩ := rightX_parts hr1
  have HLW := Lib.hid (height133_any 4 (.slice a1 is.length c1) (.slice a of.length c) lo hi ls hs op (w.alloc (.cells #[.int .u8 4, .slice a1 is.length c1, .slice a of.length c, .int .i64 lo, .bool ls, .int .i64 hi, .bool hs, .bool op] 28)) hk)
  have hb0 : Below w.heap.size w (w.alloc (.cells #[.int .u8 4, .slice a1 is.length c1, .slice a of.length c, .int .i64 lo, .bool ls, .int .i64 hi, .bool hs, .bool op] 28)) := (Below.refl _ w).alloc (Nat.le_refl _) _
  have HB0 := Lib.hid hb0
  have HCELLS : Hid (∀ W, Below (w.heap.size + 1) (w.alloc (.cells #[.int .u8 4, .slice a1 is.length c1, .slice a of.length c, .int .i64 lo, .bool ls, .int .i64 hi, .bool hs, .bool op] 28)) W → W.heap[w.heap.size]? = some (.cells #[.int .u8 4, .slice a1 is.length c1, .slice a of.length c, .int .i64 lo, .bool ls, .int .i64 hi, .bool hs, .bool op] 28 (0, 0))) := by
    intro W hW
    rw [hW.block _ (by omega)]
    exact heap_top rfl
  have HSZ : Hid ((w.alloc (.cells #[.int .u8 4, .slice a1 is.length c1, .slice a of.length c, .int .i64 lo, .bool ls, .int .i64 hi, .bool hs, .bool op] 28)).heap.size = w.heap.size + 1) := by simp [Hid]
  have HR := Lib.hid hR
  have HF := Lib.hid hF
  have HIH := Lib.hid ih
  have HA := Lib.hid hr2
  have HRD : Hid (∀ W, Below w.heap.size w W → Rdy W) := fun W hW => hrd.below hW
  generalize hW0 : w.alloc (.cells #[.int .u8 4, .slice a1 is.length c1, .slice a of.length c, .int .i64 lo, .bool ls, .int .i64 hi, .bool hs, .bool op] 28) = W0 at HLW HB0 HCELLS HSZ
  have HW0 := Lib.hid hW0
  clear hR hF ih hr1 hr2 hb0 hW0 hrd
  have hm2 : of.length = 2 := hm
  clear hm
  obtain ⟨x, y, rfl⟩ := len_two of hm2
  have HE : Hid (inX n ((4, is, [x, y], ⟨lo, ls, hi, hs, op⟩) : XT m (n + 1)) = prX Lib.itoa n x 3 ++ [59] ++ prX Lib.itoa n y 4) := inX_bin n 4 is x y ⟨lo, ls, hi, hs, op⟩ 3 59 (by decide) (by decide) (by decide) rfl rfl
  have HLX : Hid ((prX Lib.itoa n x 3).length ≤ 1000000000000 ∧ (prX Lib.itoa n y 4).length ≤ 1000000000000) := by
    rw [HE.out] at hlen; simp at hlen; rw [Hid]; omega
  have HT : Hid (byt (inX n ((4, is, [x, y], ⟨lo, ls, hi, hs, op⟩) : XT m (n + 1))) = byt (prX Lib.itoa n x 3) ++ ⟨#[59]⟩ ++ byt (prX Lib.itoa n y 4)) := by
    refine Lib.hid ?_
    rw [HE.out, show (⟨#[59]⟩ : ByteArray) = byt [59] from rfl, byt_app, byt_app]
  clear hlen hm2 HE h6 h1k
  simp only [List.length_cons, List.length_nil, Nat.zero_add, Nat.reduceAdd] at *
  have hlow : ¬ (3 : Int) < li := by have : heightX 4 = 3 := rfl; omega
  have HLW' : Hid (Calls Tryz.prog 133 _ W0 fun e w' => e = .returned (.int .i64 3) ∧ Below W0.heap.size W0 w') := HLW.out
  clear hli HLW
  go_enter Tryz.func85, Tryz.ntmps85
  go_wp2_with fail
  rw [HW0.out]
  clear HW0
  refine HLW'.out.mono ?_
  rintro e w1 ⟨rfl, hb1⟩
  have HB1 := Lib.hid (HB0.out.trans (hb1.mono HB0.out.size))
  have HT1 : Hid (Below (w.heap.size + 1) W0 w1) := hb1.mono (by rw [HSZ.out]; exact Nat.le_refl _)
  have hk1 := HCELLS.out _ HT1.out
  have x0 := Lib.cell_of_heap hk1 0
  have x1 := Lib.cell_of_heap hk1 1
  have x2 := Lib.cell_of_heap hk1 2
  have x3 := Lib.cell_of_heap hk1 3
  have x4 := Lib.cell_of_heap hk1 4
  have x5 := Lib.cell_of_heap hk1 5
  have x6 := Lib.cell_of_heap hk1 6
  have x7 := Lib.cell_of_heap hk1 7
  simp only [List.getElem?_toArray, List.getElem?_cons_zero, List.getElem?_cons_succ] at x0 x1 x2 x3 x4 x5 x6 x7
  clear hk1
  obtain ⟨WV, hWV⟩ : ∃ WV, WV = w1.alloc (.cells #[.string ⟨#[124]⟩, .string ⟨#[38]⟩, .string ⟨#[59]⟩] 9) := ⟨_, rfl⟩
  have hbv : Below w1.heap.size w1 WV := by rw [hWV]; exact (Below.refl _ _).alloc (Nat.le_refl _) _
  have HBV := Lib.hid (HB1.out.trans (hbv.mono HB1.out.size))
  have HZV : Hid (w1.heap.size < WV.heap.size) := by rw [Hid, hWV]; simp
  have hz : WV.heap[w1.heap.size]? = some (.cells #[.string ⟨#[124]⟩, .string ⟨#[38]⟩, .string ⟨#[59]⟩] 9 (0, 0)) := by rw [hWV]; exact heap_top rfl
  have z0 := Lib.cell_of_heap hz 0
  have z1 := Lib.cell_of_heap hz 1
  have z2 := Lib.cell_of_heap hz 2
  simp only [List.getElem?_toArray, List.getElem?_cons_zero, List.getElem?_cons_succ] at z0 z1 z2
  have hbz1 : w.heap.size < w1.heap.size := by have := HT1.out.size; rw [HSZ.out] at this; omega
  have x2 := (hbv.cell (p := ⟨w.heap.size, 2, none⟩) hbz1).trans x2
  have hbz : w.heap.size < WV.heap.size := by have := HZV.out; omega
  have hrow := XRow.up HR.out HBV.out (Nat.le_refl _)
  obtain ⟨rb, off, k', p1, q1, d1, p2, q2, d2, lo', ls', hi', hs', op', rfl, hbl, c0, c1', c2, c3, c4, c5, c6, c7, hr⟩ := hrow.at 0 (by simp)
  simp only [Nat.zero_mul, Nat.add_zero, List.getElem_cons_zero] at c0 c1' c2 c3 c4 c5 c6 c7 hr
  obtain ⟨rb', off', k2, p3, q3, d3, p4, q4, d4, lo2, ls2, hi2, hs2, op2, hea, _, e0, e1, e2, e3, e4, e5, e6, e7, hr'⟩ := hrow.at 1 (by simp)
  injection hea with hea
  injection hea with hea1 hea2
  subst hea1 hea2
  simp only [Nat.one_mul, List.getElem_cons_succ, List.getElem_cons_zero] at e0 e1 e2 e3 e4 e5 e6 e7 hr'
  have e0 : WV.cell? ⟨rb, off + 8, none⟩ = some (.int .u8 k2) := e0
  have e1 : WV.cell? ⟨rb, off + 9, none⟩ = some (.slice p3 q3 d3) := e1
  have e2 : WV.cell? ⟨rb, off + 10, none⟩ = some (.slice p4 q4 d4) := e2
  have e3 : WV.cell? ⟨rb, off + 11, none⟩ = some (.int .i64 lo2) := e3
  have e4 : WV.cell? ⟨rb, off + 12, none⟩ = some (.bool ls2) := e4
  have e5 : WV.cell? ⟨rb, off + 13, none⟩ = some (.int .i64 hi2) := e5
  have e6 : WV.cell? ⟨rb, off + 14, none⟩ = some (.bool hs2) := e6
  have e7 : WV.cell? ⟨rb, off + 15, none⟩ = some (.bool op2) := e7
  have hlt : rb < WV.heap.size := by have := HBV.out.size; omega
  obtain ⟨r1, hr1⟩ : ∃ r, r = byt (prX Lib.itoa n x 3) := ⟨_, rfl⟩
  obtain ⟨r2, hr2⟩ : ∃ r, r = byt (prX Lib.itoa n y 4) := ⟨_, rfl⟩
  have hs1 : r1.size ≤ 1000000000000 := by rw [hr1, byt_size]; exact HLX.out.1
  have hs2' : r2.size ≤ 1000000000000 := by rw [hr2, byt_size]; exact HLX.out.2
  have HC1 : Hid (∀ W, Below WV.heap.size WV W → Calls Tryz.prog 85 #[.agg #[.int .u8 k', .slice p1 q1 d1, .slice p2 q2 d2, .int .i64 lo', .bool ls', .int .i64 hi', .bool hs', .bool op'], .int .i64 3] W fun e w' => e = .returned (.string r1) ∧ Below W.heap.size W w') := fun W hW => by
    rw [hr1]; exact HIH.out x _ 3 3 W (HRD.out _ (HBV.out.trans (hW.mono HBV.out.size))) rfl (hr.up (hW.mono HBV.out.size) (by have := HBV.out.size; have := hW.size; omega)) (HA.out _ (by simp)) HLX.out.1
  have HC2 : Hid (∀ W, Below WV.heap.size WV W → Calls Tryz.prog 85 #[.agg #[.int .u8 k2, .slice p3 q3 d3, .slice p4 q4 d4, .int .i64 lo2, .bool ls2, .int .i64 hi2, .bool hs2, .bool op2], .int .i64 4] W fun e w' => e = .returned (.string r2) ∧ Below W.heap.size W w') := fun W hW => by
    rw [hr2]; exact HIH.out y _ 4 4 W (HRD.out _ (HBV.out.trans (hW.mono HBV.out.size))) rfl (hr'.up (hW.mono HBV.out.size) (by have := HBV.out.size; have := hW.size; omega)) (HA.out _ (by simp)) HLX.out.2
  rw [← hr1, ← hr2] at HT
  have HWV := Lib.hid hWV.symm
  clear hr hr' hrow hb1 hr1 hr2 hbl hbv hz hWV hbz1
  have hw1 : IntKind.i64.wrap 2 = 2 := by decide
  have hw2 : IntKind.i64.wrap 4 = 4 := by decide
  go_wp2_with fail
  rw [HWV.out]
  clear HWV
  have HS : Hid (∀ W, Below WV.heap.size WV W → W.cell? ⟨w.heap.size, 2, none⟩ = some (.slice (some ⟨rb, off, none⟩) 2 c) ∧ W.cell? ⟨rb, off, none⟩ = some (.int .u8 k') ∧ W.cell? ⟨rb, off + 1, none⟩ = some (.slice p1 q1 d1) ∧ W.cell? ⟨rb, off + 2, none⟩ = some (.slice p2 q2 d2) ∧ W.cell? ⟨rb, off + 3, none⟩ = some (.int .i64 lo') ∧ W.cell? ⟨rb, off + 4, none⟩ = some (.bool ls') ∧ W.cell? ⟨rb, off + 5, none⟩ = some (.int .i64 hi') ∧ W.cell? ⟨rb, off + 6, none⟩ = some (.bool hs') ∧ W.cell? ⟨rb, off + 7, none⟩ = some (.bool op') ∧ W.cell? ⟨rb, off + 8, none⟩ = some (.int .u8 k2) ∧ W.cell? ⟨rb, off + 9, none⟩ = some (.slice p3 q3 d3) ∧ W.cell? ⟨rb, off + 10, none⟩ = some (.slice p4 q4 d4) ∧ W.cell? ⟨rb, off + 11, none⟩ = some (.int .i64 lo2) ∧ W.cell? ⟨rb, off + 12, none⟩ = some (.bool ls2) ∧ W.cell? ⟨rb, off + 13, none⟩ = some (.int .i64 hi2) ∧ W.cell? ⟨rb, off + 14, none⟩ = some (.bool hs2) ∧ W.cell? ⟨rb, off + 15, none⟩ = some (.bool op2) ∧ W.cell? ⟨w1.heap.size, 0, none⟩ = some (.string ⟨#[124]⟩) ∧ W.cell? ⟨w1.heap.size, 1, none⟩ = some (.string ⟨#[38]⟩) ∧ W.cell? ⟨w1.heap.size, 2, none⟩ = some (.string ⟨#[59]⟩)) := by
    intro W hW
    exact ⟨(hW.cell (p := ⟨w.heap.size, 2, none⟩) hbz).trans x2, (hW.cell (p := ⟨rb, off, none⟩) hlt).trans c0, (hW.cell (p := ⟨rb, off + 1, none⟩) hlt).trans c1', (hW.cell (p := ⟨rb, off + 2, none⟩) hlt).trans c2, (hW.cell (p := ⟨rb, off + 3, none⟩) hlt).trans c3, (hW.cell (p := ⟨rb, off + 4, none⟩) hlt).trans c4, (hW.cell (p := ⟨rb, off + 5, none⟩) hlt).trans c5, (hW.cell (p := ⟨rb, off + 6, none⟩) hlt).trans c6, (hW.cell (p := ⟨rb, off + 7, none⟩) hlt).trans c7, (hW.cell (p := ⟨rb, off + 8, none⟩) hlt).trans e0, (hW.cell (p := ⟨rb, off + 9, none⟩) hlt).trans e1, (hW.cell (p := ⟨rb, off + 10, none⟩) hlt).trans e2, (hW.cell (p := ⟨rb, off + 11, none⟩) hlt).trans e3, (hW.cell (p := ⟨rb, off + 12, none⟩) hlt).trans e4, (hW.cell (p := ⟨rb, off + 13, none⟩) hlt).trans e5, (hW.cell (p := ⟨rb, off + 14, none⟩) hlt).trans e6, (hW.cell (p := ⟨rb, off + 15, none⟩) hlt).trans e7, (hW.cell (p := ⟨w1.heap.size, 0, none⟩) HZV.out).trans z0, (hW.cell (p := ⟨w1.heap.size, 1, none⟩) HZV.out).trans z1, (hW.cell (p := ⟨w1.heap.size, 2, none⟩) HZV.out).trans z2⟩
  have hself : Below WV.heap.size WV WV := Below.refl _ _
  refine wp_region_held_drew (S := fun W => W.cell? ⟨w.heap.size, 2, none⟩ = some (.slice (some ⟨rb, off, none⟩) 2 c) ∧ W.cell? ⟨rb, off, none⟩ = some (.int .u8 k') ∧ W.cell? ⟨rb, off + 1, none⟩ = some (.slice p1 q1 d1) ∧ W.cell? ⟨rb, off + 2, none⟩ = some (.slice p2 q2 d2) ∧ W.cell? ⟨rb, off + 3, none⟩ = some (.int .i64 lo') ∧ W.cell? ⟨rb, off + 4, none⟩ = some (.bool ls') ∧ W.cell? ⟨rb, off + 5, none⟩ = some (.int .i64 hi') ∧ W.cell? ⟨rb, off + 6, none⟩ = some (.bool hs') ∧ W.cell? ⟨rb, off + 7, none⟩ = some (.bool op') ∧ W.cell? ⟨rb, off + 8, none⟩ = some (.int .u8 k2) ∧ W.cell? ⟨rb, off + 9, none⟩ = some (.slice p3 q3 d3) ∧ W.cell? ⟨rb, off + 10, none⟩ = some (.slice p4 q4 d4) ∧ W.cell? ⟨rb, off + 11, none⟩ = some (.int .i64 lo2) ∧ W.cell? ⟨rb, off + 12, none⟩ = some (.bool ls2) ∧ W.cell? ⟨rb, off + 13, none⟩ = some (.int .i64 hi2) ∧ W.cell? ⟨rb, off + 14, none⟩ = some (.bool hs2) ∧ W.cell? ⟨rb, off + 15, none⟩ = some (.bool op2) ∧ W.cell? ⟨w1.heap.size, 0, none⟩ = some (.string ⟨#[124]⟩) ∧ W.cell? ⟨w1.heap.size, 1, none⟩ = some (.string ⟨#[38]⟩) ∧ W.cell? ⟨w1.heap.size, 2, none⟩ = some (.string ⟨#[59]⟩)) (by kernel_rfl) (HS.out _ hself.drew) (fun hHeld => ?_)
  refine wpAnyH_take (i := 0) (v := ?_) rfl (by kernel_rfl) (by kernel_rfl) (by kernel_rfl) (fun _ _ _ h => h) (Or.inl ⟨by kernel_rfl, ?_⟩) (by assumption) ?_
  rotate_left
  · (intro w hSw; (try dsimp only at hSw); go_simp)
    with_reducible rfl
  try simp only [Act.put, List.setIfInBounds_toArray]
  refine wpAnyH_take (i := 1) (v := ?_) rfl (by kernel_rfl) (by kernel_rfl) (by kernel_rfl) (fun _ _ _ h => h) (Or.inl ⟨by kernel_rfl, ?_⟩) (by assumption) ?_
  rotate_left
  · (intro w hSw; (try dsimp only at hSw); go_simp)
    with_reducible rfl
  try simp only [Act.put]
  refine wpAnyH_take (i := 2) (v := ?_) rfl (by kernel_rfl) (by kernel_rfl) (by kernel_rfl) (fun _ _ _ h => h) (Or.inl ⟨by kernel_rfl, ?_⟩) (by assumption) ?_
  rotate_left
  · (intro w hSw; (try dsimp only at hSw); go_simp)
    with_reducible rfl
  try simp only [Act.put]
  refine wpAnyH_take (i := 3) (v := ?_) rfl (by kernel_rfl) (by kernel_rfl) (by kernel_rfl) (fun _ _ _ h => h) (Or.inl ⟨by kernel_rfl, ?_⟩) (by assumption) ?_
  rotate_left
  · (intro w hSw; (try dsimp only at hSw); go_simp)
    with_reducible rfl
  try simp only [Act.put]
  refine wpAnyH_take (i := 4) (v := ?_) rfl (by kernel_rfl) (by kernel_rfl) (by kernel_rfl) (fun _ _ _ h => h) (Or.inl ⟨by kernel_rfl, ?_⟩) (by assumption) ?_
  rotate_left
  · (intro w hSw; (try dsimp only at hSw); go_simp)
    with_reducible rfl
  try simp only [Act.put]
  refine wpAnyH_take (i := 6) (v := ?_) rfl (by kernel_rfl) (by kernel_rfl) (by kernel_rfl) (fun _ _ _ h => h) (Or.inl ⟨by kernel_rfl, ?_⟩) (by assumption) ?_
  rotate_left
  · (intro w hSw; (try dsimp only at hSw); go_simp)
    with_reducible rfl
  try simp only [Act.put]
  refine wpAnyH_take (i := 7) (v := ?_) rfl (by kernel_rfl) (by kernel_rfl) (by kernel_rfl) (fun _ _ _ h => h) (Or.inl ⟨by kernel_rfl, ?_⟩) (by assumption) ?_
  rotate_left
  · (intro w hSw; (try dsimp only at hSw); go_simp)
    with_reducible rfl
  try simp only [Act.put]
  refine wpAnyH_take (i := 8) (v := ?_) rfl (by kernel_rfl) (by kernel_rfl) (by kernel_rfl) (fun _ _ _ h => h) (Or.inl ⟨by kernel_rfl, ?_⟩) (by assumption) ?_
  rotate_left
  · (intro w hSw; (try dsimp only at hSw); go_simp)
    with_reducible rfl
  try simp only [Act.put]
  refine wpAnyH_take (i := 9) (v := ?_) rfl (by kernel_rfl) (by kernel_rfl) (by kernel_rfl) (fun _ _ _ h => h) (Or.inl ⟨by kernel_rfl, ?_⟩) (by assumption) ?_
  rotate_left
  · (intro w hSw; (try dsimp only at hSw); go_simp)
    with_reducible rfl
  try simp only [Act.put]
  refine wpAnyH_take (i := 10) (v := ?_) rfl (by kernel_rfl) (by kernel_rfl) (by kernel_rfl) (fun _ _ _ h => h) (Or.inl ⟨by kernel_rfl, ?_⟩) (by assumption) ?_
  rotate_left
  · (intro w hSw; (try dsimp only at hSw); go_simp)
    with_reducible rfl
  try simp only [Act.put]
  refine wpAnyH_take (i := 12) (v := ?_) rfl (by kernel_rfl) (by kernel_rfl) (by kernel_rfl) (fun _ _ _ h => h) (Or.inl ⟨by kernel_rfl, ?_⟩) (by assumption) ?_
  rotate_left
  · (intro w hSw; (try dsimp only at hSw); go_simp)
    with_reducible rfl
  try simp only [Act.put]
  refine wpAnyH_take (i := 13) (v := ?_) rfl (by kernel_rfl) (by kernel_rfl) (by kernel_rfl) (fun _ _ _ h => h) (Or.inl ⟨by kernel_rfl, ?_⟩) (by assumption) ?_
  rotate_left
  · (intro w hSw; (try dsimp only at hSw); go_simp)
    with_reducible rfl
  try simp only [Act.put]
  refine wpAnyH_take (i := 14) (v := ?_) rfl (by kernel_rfl) (by kernel_rfl) (by kernel_rfl) (fun _ _ _ h => h) (Or.inl ⟨by kernel_rfl, ?_⟩) (by assumption) ?_
  rotate_left
  · (intro w hSw; (try dsimp only at hSw); go_simp)
    with_reducible rfl
  try simp only [Act.put]
  refine wpAnyH_take (i := 15) (v := ?_) rfl (by kernel_rfl) (by kernel_rfl) (by kernel_rfl) (fun _ _ _ h => h) (Or.inl ⟨by kernel_rfl, ?_⟩) (by assumption) ?_
  rotate_left
  · (intro w hSw; (try dsimp only at hSw); go_simp)
    with_reducible rfl
  try simp only [Act.put]
  refine wpAnyH_take (i := 16) (v := ?_) rfl (by kernel_rfl) (by kernel_rfl) (by kernel_rfl) (fun _ _ _ h => h) (Or.inl ⟨by kernel_rfl, ?_⟩) (by assumption) ?_
  rotate_left
  · (intro w hSw; (try dsimp only at hSw); go_simp)
    with_reducible rfl
  try simp only [Act.put]
  refine wpAnyH_take (i := 17) (v := ?_) rfl (by kernel_rfl) (by kernel_rfl) (by kernel_rfl) (fun _ _ _ h => h) (Or.inl ⟨by kernel_rfl, ?_⟩) (by assumption) ?_
  rotate_left
  · (intro w hSw; (try dsimp only at hSw); go_simp)
    with_reducible rfl
  try simp only [Act.put]
  refine wpAnyH_ready (rs := [5]) (by kernel_rfl) (by simp) ?_
  refine AllReadyH.cons rfl (fun K hK => ?_) AllReadyH.nil
  go_simp
  go_at_call 85
  refine (HC1.out WV.drew hself.drew).mono ?_
  rintro e w2 ⟨rfl, hb2⟩
  have hb12 : Below WV.heap.size WV w2 := hself.drew.trans (hb2.mono (by simp))
  dsimp only
  refine hK.out _ _ (HS.out _ (hb12)) (fun hHeld => ?_)
  clear hK K
  try simp only [Act.put, List.setIfInBounds_toArray, List.set_cons_zero, List.set_cons_succ]
  refine wpAnyH_take (i := 11) (v := ?_) rfl (by kernel_rfl) (by kernel_rfl) (by kernel_rfl) (fun _ _ _ h => h) (Or.inl ⟨by kernel_rfl, ?_⟩) (by assumption) ?_
  rotate_left
  · (intro w hSw; (try dsimp only at hSw); go_simp)
    rw [if_neg (by omega)]
  try simp only [Act.put, List.setIfInBounds_toArray]
  refine wpAnyH_ready (rs := [18]) (by kernel_rfl) (by simp) ?_
  refine AllReadyH.cons rfl (fun K hK => ?_) AllReadyH.nil
  go_simp
  go_at_call 85
  refine (HC2.out w2 hb12).mono ?_
  rintro e w3 ⟨rfl, hb3⟩
  have hb13 : Below WV.heap.size WV w3 := hb12.trans (hb3.mono hb12.size)
  dsimp only
  refine hK.out _ _ (HS.out _ (hb13)) (fun hHeld => ?_)
  clear hK K
  try simp only [Act.put, List.setIfInBounds_toArray, List.set_cons_zero, List.set_cons_succ]
  refine wpAnyH_take (i := 19) (v := ?_) rfl (by kernel_rfl) (by kernel_rfl) (by kernel_rfl) (fun _ _ _ h => h) (Or.inl ⟨by kernel_rfl, ?_⟩) (by assumption) ?_
  rotate_left
  · (intro w hSw; (try dsimp only at hSw); go_simp)
    rw [if_neg (by omega)]
  try simp only [Act.put, List.setIfInBounds_toArray]
  refine wpAnyH_ready (rs := [20]) (by kernel_rfl) (by simp) ?_
  refine AllReadyH.cons rfl (fun K hK => ?_) AllReadyH.nil
  go_simp
  refine hK.out _ _ (HS.out _ (hb13)) (fun hHeld => ?_)
  clear hK K
  try simp only [Act.put, List.setIfInBounds_toArray, List.set_cons_zero, List.set_cons_succ]
  refine wpAnyH_done (by kernel_rfl) ?_ _
  have HB3 := Lib.hid (HBV.out.trans (hb13.mono HBV.out.size))
  clear hHeld hb12 hb13 hb2 hb3
  go_wp2_with fail
  all_goals go_ret
  all_goals exact ⟨ret_s (by rw [HT.out]), HB3.out⟩
set_option maxRecDepth 100000 in
set_option maxHeartbeats 8000000 in
theorem text85_k5 (m n : Nat) (ih : TextX m n) (is : List (FT m)) (of : List (XT m n)) (a1 a : Option Addr) (c1 c : Nat) (lo hi : Int) (ls hs op : Bool) (w : World) (hrd : Rdy w) (hF : FRow w w.heap.size m a1 is) (hR : XRow w w.heap.size m n a of)
    (hr1 : rightX 5 is of.length ⟨lo, ls, hi, hs, op⟩ = true) (hr2 : ∀ x ∈ of, allX rightX n x = true) (li : Int) (hli : li ≤ heightX 5) (hlen : (inX n ((5, is, of, ⟨lo, ls, hi, hs, op⟩) : XT m (n + 1))).length ≤ 1000000000000) :
    Calls Tryz.prog 85 #[.agg #[.int .u8 5, .slice a1 is.length c1, .slice a of.length c, .int .i64 lo, .bool ls, .int .i64 hi, .bool hs, .bool op], .int .i64 li] w fun e w' => e = .returned (.string (byt (inX n ((5, is, of, ⟨lo, ls, hi, hs, op⟩) : XT m (n + 1))))) ∧ Below w.heap.size w w' := by
  obtain ⟨hk, hm, h6, h1k⟩ := rightX_parts hr1
  have HLW := Lib.hid (height133_any 5 (.slice a1 is.length c1) (.slice a of.length c) lo hi ls hs op (w.alloc (.cells #[.int .u8 5, .slice a1 is.length c1, .slice a of.length c, .int .i64 lo, .bool ls, .int .i64 hi, .bool hs, .bool op] 28)) hk)
  have hb0 : Below w.heap.size w (w.alloc (.cells #[.int .u8 5, .slice a1 is.length c1, .slice a of.length c, .int .i64 lo, .bool ls, .int .i64 hi, .bool hs, .bool op] 28)) := (Below.refl _ w).alloc (Nat.le_refl _) _
  have HB0 := Lib.hid hb0
  have HCELLS : Hid (∀ W, Below (w.heap.size + 1) (w.alloc (.cells #[.int .u8 5, .slice a1 is.length c1, .slice a of.length c, .int .i64 lo, .bool ls, .int .i64 hi, .bool hs, .bool op] 28)) W → W.heap[w.heap.size]? = some (.cells #[.int .u8 5, .slice a1 is.length c1, .slice a of.length c, .int .i64 lo, .bool ls, .int .i64 hi, .bool hs, .bool op] 28 (0, 0))) := by
    intro W hW
    rw [hW.block _ (by omega)]
    exact heap_top rfl
  have HSZ : Hid ((w.alloc (.cells #[.int .u8 5, .slice a1 is.length c1, .slice a of.length c, .int .i64 lo, .bool ls, .int .i64 hi, .bool hs, .bool op] 28)).heap.size = w.heap.size + 1) := by simp [Hid]
  have HR := Lib.hid hR
  have HF := Lib.hid hF
  have HIH := Lib.hid ih
  have HA := Lib.hid hr2
  have HRD : Hid (∀ W, Below w.heap.size w W → Rdy W) := fun W hW => hrd.below hW
  generalize hW0 : w.alloc (.cells #[.int .u8 5, .slice a1 is.length c1, .slice a of.length c, .int .i64 lo, .bool ls, .int .i64 hi, .bool hs, .bool op] 28) = W0 at HLW HB0 HCELLS HSZ
  have HW0 := Lib.hid hW0
  clear hR hF ih hr1 hr2 hb0 hW0 hrd
  obtain ⟨x, rfl⟩ : ∃ x, of = [x] := List.length_eq_one_iff.1 hm
  have HE : Hid (inX n ((5, is, [x], ⟨lo, ls, hi, hs, op⟩) : XT m (n + 1)) = prX Lib.itoa n x 4 ++ [43]) := rfl
  have HLX : Hid ((prX Lib.itoa n x 4).length ≤ 1000000000000) := by rw [HE.out] at hlen; simp at hlen; rw [Hid]; omega
  have HT : Hid (byt (inX n ((5, is, [x], ⟨lo, ls, hi, hs, op⟩) : XT m (n + 1))) = byt (prX Lib.itoa n x 4) ++ ⟨#[43]⟩) := by
    refine Lib.hid ?_
    rw [HE.out, show (⟨#[43]⟩ : ByteArray) = byt [43] from rfl, byt_app]
  clear hlen hm HE h6 h1k
  simp only [List.length_cons, List.length_nil, Nat.zero_add] at *
  have hlow : ¬ (4 : Int) < li := by have : heightX 5 = 4 := rfl; omega
  have HLW' : Hid (Calls Tryz.prog 133 _ W0 fun e w' => e = .returned (.int .i64 4) ∧ Below W0.heap.size W0 w') := HLW.out
  clear hli HLW
  go_enter Tryz.func85, Tryz.ntmps85
  go_wp2_with fail
  rw [HW0.out]
  clear HW0
  refine HLW'.out.mono ?_
  rintro e w1 ⟨rfl, hb1⟩
  have HB1 := Lib.hid (HB0.out.trans (hb1.mono HB0.out.size))
  have HT1 : Hid (Below (w.heap.size + 1) W0 w1) := hb1.mono (by rw [HSZ.out]; exact Nat.le_refl _)
  have hk1 := HCELLS.out _ HT1.out
  have x0 := Lib.cell_of_heap hk1 0
  have x1 := Lib.cell_of_heap hk1 1
  have x2 := Lib.cell_of_heap hk1 2
  have x3 := Lib.cell_of_heap hk1 3
  have x4 := Lib.cell_of_heap hk1 4
  have x5 := Lib.cell_of_heap hk1 5
  have x6 := Lib.cell_of_heap hk1 6
  have x7 := Lib.cell_of_heap hk1 7
  simp only [List.getElem?_toArray, List.getElem?_cons_zero, List.getElem?_cons_succ] at x0 x1 x2 x3 x4 x5 x6 x7
  clear hk1
  have hrow := XRow.up HR.out HB1.out (Nat.le_refl _)
  obtain ⟨rb, off, k', p1, q1, d1, p2, q2, d2, lo', ls', hi', hs', op', rfl, hbl, c0, c1', c2, c3, c4, c5, c6, c7, hr⟩ := hrow.at 0 (by simp)
  simp only [Nat.zero_mul, Nat.add_zero, List.getElem_cons_zero] at c0 c1' c2 c3 c4 c5 c6 c7 hr
  have hlt : rb < w1.heap.size := by have := HB1.out.size; omega
  have HC := Lib.hid (HIH.out x _ 4 4 w1 (HRD.out _ HB1.out) rfl (hr.up (Below.refl _ _) HB1.out.size) (HA.out _ (by simp)) HLX.out)
  obtain ⟨r, hr0⟩ : ∃ r, r = byt (prX Lib.itoa n x 4) := ⟨_, rfl⟩
  have hrs : r.size ≤ 1000000000000 := by rw [hr0, byt_size]; exact HLX.out
  rw [← hr0] at HC HT
  clear hr hrow hb1 hr0
  go_wp2_with fail
  refine HC.out.mono ?_
  rintro e w2 ⟨rfl, hb2⟩
  have HB2 := Lib.hid (HB1.out.trans (hb2.mono HB1.out.size))
  clear hb2
  go_wp2_with fail
  all_goals go_ret
  all_goals exact ⟨ret_s (by rw [HT.out]), HB2.out⟩
set_option maxRecDepth 100000 in
set_option maxHeartbeats 8000000 in
theorem text85_k6 (m n : Nat) (ih : TextX m n) (is : List (FT m)) (of : List (XT m n)) (a1 a : Option Addr) (c1 c : Nat) (lo hi : Int) (ls hs op : Bool) (w : World) (hrd : Rdy w) (hF : FRow w w.heap.size m a1 is) (hR : XRow w w.heap.size m n a of)
    (hr1 : rightX 6 is of.length ⟨lo, ls, hi, hs, op⟩ = true) (hr2 : ∀ x ∈ of, allX rightX n x = true) (li : Int) (hli : li ≤ heightX 6) (hlen : (inX n ((6, is, of, ⟨lo, ls, hi, hs, op⟩) : XT m (n + 1))).length ≤ 1000000000000) :
    Calls Tryz.prog 85 #[.agg #[.int .u8 6, .slice a1 is.length c1, .slice a of.length c, .int .i64 lo, .bool ls, .int .i64 hi, .bool hs, .bool op], .int .i64 li] w fun e w' => e = .returned (.string (byt (inX n ((6, is, of, ⟨lo, ls, hi, hs, op⟩) : XT m (n + 1))))) ∧ Below w.heap.size w w' := by
  obtain ⟨hk, hm, h6, h1k⟩ := rightX_parts hr1
  have HLW := Lib.hid (height133_any 6 (.slice a1 is.length c1) (.slice a of.length c) lo hi ls hs op (w.alloc (.cells #[.int .u8 6, .slice a1 is.length c1, .slice a of.length c, .int .i64 lo, .bool ls, .int .i64 hi, .bool hs, .bool op] 28)) hk)
  have hb0 : Below w.heap.size w (w.alloc (.cells #[.int .u8 6, .slice a1 is.length c1, .slice a of.length c, .int .i64 lo, .bool ls, .int .i64 hi, .bool hs, .bool op] 28)) := (Below.refl _ w).alloc (Nat.le_refl _) _
  have HB0 := Lib.hid hb0
  have HCELLS : Hid (∀ W, Below (w.heap.size + 1) (w.alloc (.cells #[.int .u8 6, .slice a1 is.length c1, .slice a of.length c, .int .i64 lo, .bool ls, .int .i64 hi, .bool hs, .bool op] 28)) W → W.heap[w.heap.size]? = some (.cells #[.int .u8 6, .slice a1 is.length c1, .slice a of.length c, .int .i64 lo, .bool ls, .int .i64 hi, .bool hs, .bool op] 28 (0, 0))) := by
    intro W hW
    rw [hW.block _ (by omega)]
    exact heap_top rfl
  have HSZ : Hid ((w.alloc (.cells #[.int .u8 6, .slice a1 is.length c1, .slice a of.length c, .int .i64 lo, .bool ls, .int .i64 hi, .bool hs, .bool op] 28)).heap.size = w.heap.size + 1) := by simp [Hid]
  have HR := Lib.hid hR
  have HF := Lib.hid hF
  have HIH := Lib.hid ih
  have HA := Lib.hid hr2
  have HRD : Hid (∀ W, Below w.heap.size w W → Rdy W) := fun W hW => hrd.below hW
  generalize hW0 : w.alloc (.cells #[.int .u8 6, .slice a1 is.length c1, .slice a of.length c, .int .i64 lo, .bool ls, .int .i64 hi, .bool hs, .bool op] 28) = W0 at HLW HB0 HCELLS HSZ
  have HW0 := Lib.hid hW0
  clear hR hF ih hr1 hr2 hb0 hW0 hrd
  obtain ⟨x, rfl⟩ : ∃ x, of = [x] := List.length_eq_one_iff.1 hm
  have HE : Hid (inX n ((6, is, [x], ⟨lo, ls, hi, hs, op⟩) : XT m (n + 1)) = 60 :: prX Lib.itoa n x 1 ++ [62, 95] ++ prI Lib.itoa ⟨lo, ls, hi, hs, op⟩) := by rw [Hid, ← prX_zero]; rfl
  have HLX : Hid ((prX Lib.itoa n x 1).length ≤ 1000000000000 ∧ (prI Lib.itoa ⟨lo, ls, hi, hs, op⟩).length ≤ 1000000000000) := by
    rw [HE.out] at hlen; simp at hlen; rw [Hid]; omega
  have HT : Hid (byt (inX n ((6, is, [x], ⟨lo, ls, hi, hs, op⟩) : XT m (n + 1))) = ⟨#[60]⟩ ++ byt (prX Lib.itoa n x 1) ++ ⟨#[62, 95]⟩ ++ byt (prI Lib.itoa ⟨lo, ls, hi, hs, op⟩)) := by
    refine Lib.hid ?_
    rw [HE.out, show (⟨#[60]⟩ : ByteArray) = byt [60] from rfl, show (⟨#[62, 95]⟩ : ByteArray) = byt [62, 95] from rfl, byt_app, byt_app, byt_app]; rfl
  have HIV := Lib.hid (iv_range (h6 rfl))
  clear hlen hm HE h6 h1k
  simp only [List.length_cons, List.length_nil, Nat.zero_add] at *
  have hlow : ¬ (5 : Int) < li := by have : heightX 6 = 5 := rfl; omega
  have HLW' : Hid (Calls Tryz.prog 133 _ W0 fun e w' => e = .returned (.int .i64 5) ∧ Below W0.heap.size W0 w') := HLW.out
  clear hli HLW
  go_enter Tryz.func85, Tryz.ntmps85
  go_wp2_with fail
  rw [HW0.out]
  clear HW0
  refine HLW'.out.mono ?_
  rintro e w1 ⟨rfl, hb1⟩
  have HB1 := Lib.hid (HB0.out.trans (hb1.mono HB0.out.size))
  have HT1 : Hid (Below (w.heap.size + 1) W0 w1) := hb1.mono (by rw [HSZ.out]; exact Nat.le_refl _)
  have hk1 := HCELLS.out _ HT1.out
  have x0 := Lib.cell_of_heap hk1 0
  have x1 := Lib.cell_of_heap hk1 1
  have x2 := Lib.cell_of_heap hk1 2
  have x3 := Lib.cell_of_heap hk1 3
  have x4 := Lib.cell_of_heap hk1 4
  have x5 := Lib.cell_of_heap hk1 5
  have x6 := Lib.cell_of_heap hk1 6
  have x7 := Lib.cell_of_heap hk1 7
  simp only [List.getElem?_toArray, List.getElem?_cons_zero, List.getElem?_cons_succ] at x0 x1 x2 x3 x4 x5 x6 x7
  clear hk1
  have hrow := XRow.up HR.out HB1.out (Nat.le_refl _)
  obtain ⟨rb, off, k', p1, q1, d1, p2, q2, d2, lo', ls', hi', hs', op', rfl, hbl, c0, c1', c2, c3, c4, c5, c6, c7, hr⟩ := hrow.at 0 (by simp)
  simp only [Nat.zero_mul, Nat.add_zero, List.getElem_cons_zero] at c0 c1' c2 c3 c4 c5 c6 c7 hr
  have hlt : rb < w1.heap.size := by have := HB1.out.size; omega
  have hbz : w.heap.size < w1.heap.size := by have := HT1.out.size; rw [HSZ.out] at this; omega
  obtain ⟨r1, hr1⟩ : ∃ r, r = byt (prX Lib.itoa n x 1) := ⟨_, rfl⟩
  obtain ⟨r2, hr2⟩ : ∃ r, r = byt (prI Lib.itoa ⟨lo, ls, hi, hs, op⟩) := ⟨_, rfl⟩
  have hs1 : r1.size ≤ 1000000000000 := by rw [hr1, byt_size]; exact HLX.out.1
  have hs2' : r2.size ≤ 1000000000000 := by rw [hr2, byt_size]; exact HLX.out.2
  have HC1 : Hid (∀ W, Below w1.heap.size w1 W → Calls Tryz.prog 85 #[.agg #[.int .u8 k', .slice p1 q1 d1, .slice p2 q2 d2, .int .i64 lo', .bool ls', .int .i64 hi', .bool hs', .bool op'], .int .i64 1] W fun e w' => e = .returned (.string r1) ∧ Below W.heap.size W w') := fun W hW => by
    rw [hr1]; exact HIH.out x _ 1 1 W (HRD.out _ (HB1.out.trans (hW.mono HB1.out.size))) rfl (hr.up (hW.mono HB1.out.size) (by have := HB1.out.size; have := hW.size; omega)) (HA.out _ (by simp)) HLX.out.1
  have HC2 : Hid (∀ W, Below w1.heap.size w1 W → Calls Tryz.prog 135 #[.agg #[.int .i64 lo, .bool ls, .int .i64 hi, .bool hs, .bool op]] W fun e w' => e = .returned (.string r2) ∧ Below W.heap.size W w') := fun W hW => by
    rw [hr2]
    obtain ⟨g1, g2, g3, g4⟩ := HIV.out
    exact interval135_any ⟨lo, ls, hi, hs, op⟩ W (HRD.out _ (HB1.out.trans (hW.mono HB1.out.size))) (by dsimp only; omega) (by dsimp only; omega) (by dsimp only; omega) (by dsimp only; omega) HLX.out.2
  rw [← hr1, ← hr2] at HT
  clear hr hrow hb1 hr1 hr2 hbl
  go_wp2_with fail
  have HS : Hid (∀ W, Below w1.heap.size w1 W → W.cell? ⟨w.heap.size, 2, none⟩ = some (.slice (some ⟨rb, off, none⟩) 1 c) ∧ W.cell? ⟨w.heap.size, 3, none⟩ = some (.int .i64 lo) ∧ W.cell? ⟨w.heap.size, 4, none⟩ = some (.bool ls) ∧ W.cell? ⟨w.heap.size, 5, none⟩ = some (.int .i64 hi) ∧ W.cell? ⟨w.heap.size, 6, none⟩ = some (.bool hs) ∧ W.cell? ⟨w.heap.size, 7, none⟩ = some (.bool op) ∧ W.cell? ⟨rb, off, none⟩ = some (.int .u8 k') ∧ W.cell? ⟨rb, off + 1, none⟩ = some (.slice p1 q1 d1) ∧ W.cell? ⟨rb, off + 2, none⟩ = some (.slice p2 q2 d2) ∧ W.cell? ⟨rb, off + 3, none⟩ = some (.int .i64 lo') ∧ W.cell? ⟨rb, off + 4, none⟩ = some (.bool ls') ∧ W.cell? ⟨rb, off + 5, none⟩ = some (.int .i64 hi') ∧ W.cell? ⟨rb, off + 6, none⟩ = some (.bool hs') ∧ W.cell? ⟨rb, off + 7, none⟩ = some (.bool op')) := by
    intro W hW
    exact ⟨(hW.cell (p := ⟨w.heap.size, 2, none⟩) hbz).trans x2, (hW.cell (p := ⟨w.heap.size, 3, none⟩) hbz).trans x3, (hW.cell (p := ⟨w.heap.size, 4, none⟩) hbz).trans x4, (hW.cell (p := ⟨w.heap.size, 5, none⟩) hbz).trans x5, (hW.cell (p := ⟨w.heap.size, 6, none⟩) hbz).trans x6, (hW.cell (p := ⟨w.heap.size, 7, none⟩) hbz).trans x7, (hW.cell (p := ⟨rb, off, none⟩) hlt).trans c0, (hW.cell (p := ⟨rb, off + 1, none⟩) hlt).trans c1', (hW.cell (p := ⟨rb, off + 2, none⟩) hlt).trans c2, (hW.cell (p := ⟨rb, off + 3, none⟩) hlt).trans c3, (hW.cell (p := ⟨rb, off + 4, none⟩) hlt).trans c4, (hW.cell (p := ⟨rb, off + 5, none⟩) hlt).trans c5, (hW.cell (p := ⟨rb, off + 6, none⟩) hlt).trans c6, (hW.cell (p := ⟨rb, off + 7, none⟩) hlt).trans c7⟩
  have hself : Below w1.heap.size w1 w1 := Below.refl _ _
  refine wp_region_held_drew (S := fun W => W.cell? ⟨w.heap.size, 2, none⟩ = some (.slice (some ⟨rb, off, none⟩) 1 c) ∧ W.cell? ⟨w.heap.size, 3, none⟩ = some (.int .i64 lo) ∧ W.cell? ⟨w.heap.size, 4, none⟩ = some (.bool ls) ∧ W.cell? ⟨w.heap.size, 5, none⟩ = some (.int .i64 hi) ∧ W.cell? ⟨w.heap.size, 6, none⟩ = some (.bool hs) ∧ W.cell? ⟨w.heap.size, 7, none⟩ = some (.bool op) ∧ W.cell? ⟨rb, off, none⟩ = some (.int .u8 k') ∧ W.cell? ⟨rb, off + 1, none⟩ = some (.slice p1 q1 d1) ∧ W.cell? ⟨rb, off + 2, none⟩ = some (.slice p2 q2 d2) ∧ W.cell? ⟨rb, off + 3, none⟩ = some (.int .i64 lo') ∧ W.cell? ⟨rb, off + 4, none⟩ = some (.bool ls') ∧ W.cell? ⟨rb, off + 5, none⟩ = some (.int .i64 hi') ∧ W.cell? ⟨rb, off + 6, none⟩ = some (.bool hs') ∧ W.cell? ⟨rb, off + 7, none⟩ = some (.bool op')) (by kernel_rfl) (HS.out _ hself.drew) (fun hHeld => ?_)
  refine wpAnyH_take (i := 0) (v := ?_) rfl (by kernel_rfl) (by kernel_rfl) (by kernel_rfl) (fun _ _ _ h => h) (Or.inl ⟨by kernel_rfl, ?_⟩) (by assumption) ?_
  rotate_left
  · (intro w hSw; (try dsimp only at hSw); go_simp)
    with_reducible rfl
  try simp only [Act.put, List.setIfInBounds_toArray]
  refine wpAnyH_take (i := 1) (v := ?_) rfl (by kernel_rfl) (by kernel_rfl) (by kernel_rfl) (fun _ _ _ h => h) (Or.inl ⟨by kernel_rfl, ?_⟩) (by assumption) ?_
  rotate_left
  · (intro w hSw; (try dsimp only at hSw); go_simp)
    with_reducible rfl
  try simp only [Act.put]
  refine wpAnyH_take (i := 2) (v := ?_) rfl (by kernel_rfl) (by kernel_rfl) (by kernel_rfl) (fun _ _ _ h => h) (Or.inl ⟨by kernel_rfl, ?_⟩) (by assumption) ?_
  rotate_left
  · (intro w hSw; (try dsimp only at hSw); go_simp)
    with_reducible rfl
  try simp only [Act.put]
  refine wpAnyH_take (i := 3) (v := ?_) rfl (by kernel_rfl) (by kernel_rfl) (by kernel_rfl) (fun _ _ _ h => h) (Or.inl ⟨by kernel_rfl, ?_⟩) (by assumption) ?_
  rotate_left
  · (intro w hSw; (try dsimp only at hSw); go_simp)
    with_reducible rfl
  try simp only [Act.put]
  refine wpAnyH_take (i := 7) (v := ?_) rfl (by kernel_rfl) (by kernel_rfl) (by kernel_rfl) (fun _ _ _ h => h) (Or.inl ⟨by kernel_rfl, ?_⟩) (by assumption) ?_
  rotate_left
  · (intro w hSw; (try dsimp only at hSw); go_simp)
    with_reducible rfl
  try simp only [Act.put]
  refine wpAnyH_take (i := 8) (v := ?_) rfl (by kernel_rfl) (by kernel_rfl) (by kernel_rfl) (fun _ _ _ h => h) (Or.inl ⟨by kernel_rfl, ?_⟩) (by assumption) ?_
  rotate_left
  · (intro w hSw; (try dsimp only at hSw); go_simp)
    with_reducible rfl
  try simp only [Act.put]
  refine wpAnyH_ready (rs := [4]) (by kernel_rfl) (by simp) ?_
  refine AllReadyH.cons rfl (fun K hK => ?_) AllReadyH.nil
  go_simp
  go_at_call 85
  refine (HC1.out w1.drew hself.drew).mono ?_
  rintro e w2 ⟨rfl, hb2⟩
  have hb12 : Below w1.heap.size w1 w2 := hself.drew.trans (hb2.mono (by simp))
  dsimp only
  refine hK.out _ _ (HS.out _ (hb12)) (fun hHeld => ?_)
  clear hK K
  try simp only [Act.put, List.setIfInBounds_toArray, List.set_cons_zero, List.set_cons_succ]
  refine wpAnyH_take (i := 5) (v := ?_) rfl (by kernel_rfl) (by kernel_rfl) (by kernel_rfl) (fun _ _ _ h => h) (Or.inl ⟨by kernel_rfl, ?_⟩) (by assumption) ?_
  rotate_left
  · (intro w hSw; (try dsimp only at hSw); go_simp)
    rw [if_neg (by omega)]
  try simp only [Act.put, List.setIfInBounds_toArray]
  refine wpAnyH_take (i := 6) (v := ?_) rfl (by kernel_rfl) (by kernel_rfl) (by kernel_rfl) (fun _ _ _ h => h) (Or.inl ⟨by kernel_rfl, ?_⟩) (by assumption) ?_
  rotate_left
  · (intro w hSw; (try dsimp only at hSw); go_simp)
    rw [if_neg (by omega)]
  try simp only [Act.put]
  refine wpAnyH_ready (rs := [9]) (by kernel_rfl) (by simp) ?_
  refine AllReadyH.cons rfl (fun K hK => ?_) AllReadyH.nil
  go_simp
  go_at_call 135
  refine (HC2.out w2 hb12).mono ?_
  rintro e w3 ⟨rfl, hb3⟩
  have hb13 : Below w1.heap.size w1 w3 := hb12.trans (hb3.mono hb12.size)
  dsimp only
  refine hK.out _ _ (HS.out _ (hb13)) (fun hHeld => ?_)
  clear hK K
  try simp only [Act.put, List.setIfInBounds_toArray, List.set_cons_zero, List.set_cons_succ]
  refine wpAnyH_take (i := 10) (v := ?_) rfl (by kernel_rfl) (by kernel_rfl) (by kernel_rfl) (fun _ _ _ h => h) (Or.inl ⟨by kernel_rfl, ?_⟩) (by assumption) ?_
  rotate_left
  · (intro w hSw; (try dsimp only at hSw); go_simp)
    rw [if_neg (by omega)]
  try simp only [Act.put, List.setIfInBounds_toArray]
  refine wpAnyH_ready (rs := [11]) (by kernel_rfl) (by simp) ?_
  refine AllReadyH.cons rfl (fun K hK => ?_) AllReadyH.nil
  go_simp
  refine hK.out _ _ (HS.out _ (hb13)) (fun hHeld => ?_)
  clear hK K
  try simp only [Act.put, List.setIfInBounds_toArray, List.set_cons_zero, List.set_cons_succ]
  refine wpAnyH_done (by kernel_rfl) ?_ _
  have HB3 := Lib.hid (HB1.out.trans (hb13.mono HB1.out.size))
  clear hHeld hb12 hb13 hb2 hb3
  go_wp2_with fail
  all_goals go_ret
  all_goals exact ⟨ret_s (by rw [HT.out]), HB3.out⟩
set_option maxRecDepth 100000 in
theorem text85_in (m n : Nat) (ih : TextX m n) (k : Int) (is : List (FT m)) (of : List (XT m n)) (a1 a : Option Addr) (c1 c : Nat) (lo hi : Int) (ls hs op : Bool) (w : World) (hrd : Rdy w) (hF : FRow w w.heap.size m a1 is) (hR : XRow w w.heap.size m n a of)
    (hr1 : rightX k is of.length ⟨lo, ls, hi, hs, op⟩ = true) (hr2 : ∀ x ∈ of, allX rightX n x = true) (li : Int) (hli : li ≤ heightX k) (hlen : (inX n ((k, is, of, ⟨lo, ls, hi, hs, op⟩) : XT m (n + 1))).length ≤ 1000000000000) :
    Calls Tryz.prog 85 #[.agg #[.int .u8 k, .slice a1 is.length c1, .slice a of.length c, .int .i64 lo, .bool ls, .int .i64 hi, .bool hs, .bool op], .int .i64 li] w fun e w' => e = .returned (.string (byt (inX n ((k, is, of, ⟨lo, ls, hi, hs, op⟩) : XT m (n + 1))))) ∧ Below w.heap.size w w' := by

  obtain ⟨hk, _⟩ := rightX_parts hr1
  rcases hk with rfl | rfl | rfl | rfl | rfl | rfl
  · exact text85_k1 m n ih is of a1 a c1 c lo hi ls hs op w hrd hF hR hr1 hr2 li hli hlen
  · exact text85_k2 m n ih is of a1 a c1 c lo hi ls hs op w hrd hF hR hr1 hr2 li hli hlen
  · exact text85_k3 m n ih is of a1 a c1 c lo hi ls hs op w hrd hF hR hr1 hr2 li hli hlen
  · exact text85_k4 m n ih is of a1 a c1 c lo hi ls hs op w hrd hF hR hr1 hr2 li hli hlen
  · exact text85_k5 m n ih is of a1 a c1 c lo hi ls hs op w hrd hF hR hr1 hr2 li hli hlen
  · exact text85_k6 m n ih is of a1 a c1 c lo hi ls hs op w hrd hF hR hr1 hr2 li hli hlen
set_option maxRecDepth 100000 in
set_option maxHeartbeats 8000000 in
theorem text85_any (m : Nat) : ∀ n, TextX m n := by
  intro n
  induction n with
  | zero => intro t v least li w _ _ h; exact h.elim
  | succ n ih =>
    intro t v least li w hrd hli h hall hlen
    obtain ⟨k, is, of, lo, ls, hi, hs, op⟩ := t
    obtain ⟨a1, c1, a, c, rfl, hF, hR⟩ := h
    rw [allX_succ, Bool.and_eq_true, List.all_eq_true] at hall
    obtain ⟨hr1, hr2⟩ := hall
    have hp := prX_eqW n ((k, is, of, ⟨lo, ls, hi, hs, op⟩) : XT m (n + 1)) least
    rw [hp] at hlen ⊢
    clear hp
    dsimp only at hF hR hr1 hr2 hlen ⊢
    subst hli
    by_cases hlow : heightX k < least
    · have hd : decide (heightX k < least) = true := by simpa using hlow
      rw [hd] at hlen ⊢
      have HT : Hid (byt (wrapP true 40 41 (inX n ((k, is, of, ⟨lo, ls, hi, hs, op⟩) : XT m (n + 1)))) = ⟨#[40]⟩ ++ byt (inX n ((k, is, of, ⟨lo, ls, hi, hs, op⟩) : XT m (n + 1))) ++ ⟨#[41]⟩) := by
        rw [Hid, show (⟨#[40]⟩ : ByteArray) = byt [40] from rfl, show (⟨#[41]⟩ : ByteArray) = byt [41] from rfl, byt_app, byt_app]; rfl
      have hl2 : (inX n ((k, is, of, ⟨lo, ls, hi, hs, op⟩) : XT m (n + 1))).length ≤ 1000000000000 := by simp [wrapP] at hlen; omega
      have h1 : (1 : Int) ≤ heightX k := by unfold heightX; split <;> (try split) <;> (try split) <;> (try split) <;> omega
      have hb0 : Below w.heap.size w (w.alloc (.cells #[.int .u8 k, .slice a1 is.length c1, .slice a of.length c, .int .i64 lo, .bool ls, .int .i64 hi, .bool hs, .bool op] 28)) := (Below.refl _ w).alloc (Nat.le_refl _) _
      have HB0 := Lib.hid hb0
      have HLW := Lib.hid (height133_any k (.slice a1 is.length c1) (.slice a of.length c) lo hi ls hs op (w.alloc (.cells #[.int .u8 k, .slice a1 is.length c1, .slice a of.length c, .int .i64 lo, .bool ls, .int .i64 hi, .bool hs, .bool op] 28)) (rightX_parts hr1).1)
      have HIN : Hid (∀ W, Below w.heap.size w W → Calls Tryz.prog 85 #[.agg #[.int .u8 k, .slice a1 is.length c1, .slice a of.length c, .int .i64 lo, .bool ls, .int .i64 hi, .bool hs, .bool op], .int .i64 1] W fun e w' => e = .returned (.string (byt (inX n ((k, is, of, ⟨lo, ls, hi, hs, op⟩) : XT m (n + 1))))) ∧ Below W.heap.size W w') :=
        fun W hW => text85_in m n ih k is of a1 a c1 c lo hi ls hs op W (hrd.below hW) (FRow.up hF hW hW.size) (XRow.up hR hW hW.size) hr1 hr2 1 h1 hl2
      have hlowi : ((heightX k : Nat) : Int) < (least : Int) := by omega
      have HCELLS : Hid (∀ W, Below (w.heap.size + 1) (w.alloc (.cells #[.int .u8 k, .slice a1 is.length c1, .slice a of.length c, .int .i64 lo, .bool ls, .int .i64 hi, .bool hs, .bool op] 28)) W → W.heap[w.heap.size]? = some (.cells #[.int .u8 k, .slice a1 is.length c1, .slice a of.length c, .int .i64 lo, .bool ls, .int .i64 hi, .bool hs, .bool op] 28 (0, 0))) := by
        intro W hW
        rw [hW.block _ (by omega)]
        exact heap_top rfl
      obtain ⟨r, hr0⟩ : ∃ r, r = byt (inX n ((k, is, of, ⟨lo, ls, hi, hs, op⟩) : XT m (n + 1))) := ⟨_, rfl⟩
      have hrs : r.size ≤ 1000000000000 := by rw [hr0, byt_size]; exact hl2
      rw [← hr0] at HIN HT
      generalize heightX k = lw at hlowi HLW
      clear hR hF ih hr1 hr2 hb0 hlow hd hl2 h1 hlen hr0 hrd
      go_enter Tryz.func85, Tryz.ntmps85
      go_wp2_with fail
      refine HLW.out.mono ?_
      rintro e w1 ⟨rfl, hb1⟩
      have HB1 := Lib.hid (HB0.out.trans (hb1.mono HB0.out.size))
      have hk1 := HCELLS.out _ (hb1.mono (by simp))
      have x0 := Lib.cell_of_heap hk1 0
      have x1 := Lib.cell_of_heap hk1 1
      have x2 := Lib.cell_of_heap hk1 2
      have x3 := Lib.cell_of_heap hk1 3
      have x4 := Lib.cell_of_heap hk1 4
      have x5 := Lib.cell_of_heap hk1 5
      have x6 := Lib.cell_of_heap hk1 6
      have x7 := Lib.cell_of_heap hk1 7
      simp only [List.getElem?_toArray, List.getElem?_cons_zero, List.getElem?_cons_succ] at x0 x1 x2 x3 x4 x5 x6 x7
      clear hk1 hb1
      go_wp2_with fail
      refine (HIN.out _ HB1.out).mono ?_
      rintro e w2 ⟨rfl, hb2⟩
      have HB2 := Lib.hid (HB1.out.trans (hb2.mono HB1.out.size))
      clear hb2
      go_wp2_with fail
      all_goals go_ret
      all_goals exact ⟨ret_s (by rw [HT.out]), HB2.out⟩
    · have hd : decide (heightX k < least) = false := by simpa using hlow
      rw [hd] at hlen ⊢
      exact text85_in m n ih k is of a1 a c1 c lo hi ls hs op w hrd hF hR hr1 hr2 least (by omega) hlen
end Go.Proofs.YtpgdplmndnopbaaGreatDoor

/- The book of layer 18: Text and Print. (Printed by gen_bkm.py.) -/
namespace Go.Proofs.YtpgdplmndnopbaaGreatDoor
open Go.RowKit

set_option maxRecDepth 100000 in
set_option maxHeartbeats 8000000 in
theorem text40_any (m n : Nat) (t : XT m n) (v : Value) (w : World) (hr : Rdy w) (h : XRep w w.heap.size m n t v) (hall : allX rightX n t = true) (hlen : (prX Lib.itoa n t 1).length ≤ 1000000000000) :
    Calls Tryz.prog 40 #[v] w fun e w' => e = .returned (.string (byt (prX Lib.itoa n t 1))) ∧ Below w.heap.size w w' := by
  obtain ⟨k, a1, l1, c1, a, l2, c, lo, ls, hi, hs, op, rfl⟩ := h.shape
  have hb0 : Below w.heap.size w (w.alloc (.cells #[.int .u8 k, .slice a1 l1 c1, .slice a l2 c, .int .i64 lo, .bool ls, .int .i64 hi, .bool hs, .bool op] 28)) := (Below.refl _ w).alloc (Nat.le_refl _) _
  have HB0 := Lib.hid hb0
  have HC := Lib.hid (text85_any m n t _ 1 1 (w.alloc (.cells #[.int .u8 k, .slice a1 l1 c1, .slice a l2 c, .int .i64 lo, .bool ls, .int .i64 hi, .bool hs, .bool op] 28)) (hr.below hb0) rfl (h.up hb0 hb0.size) hall hlen)
  clear h hr hall hlen hb0
  go_enter Tryz.func40, Tryz.ntmps40
  go_wp2_with fail
  refine HC.out.mono ?_
  rintro e w1 ⟨rfl, hb1⟩
  have HB1 := Lib.hid (HB0.out.trans (hb1.mono HB0.out.size))
  clear hb1
  go_wp2_with fail
  all_goals go_ret
  all_goals exact ⟨rfl, HB1.out⟩
set_option maxRecDepth 100000 in
set_option maxHeartbeats 8000000 in
theorem print19_any (names : List ByteArray) (nv : Value) (hs0 : ∀ s ∈ names, s.size ≤ 1048576) (m n : Nat) (t : XT m n) (v : Value) (w : World) (hr : Rdy w) (hn : NRep w w.heap.size nv names) (hf : XRep w w.heap.size m n t v) (htx : tX n t ≤ 100000) :
    Calls Tryz.prog 19 #[nv, v] w fun e w' => e = .returned (.tuple #[.string (byt (textR names n t)), .int .i64 (checkR names n t)]) ∧ Below w.heap.size w w' := by
  obtain ⟨k, a1, l1, c1, a, l2, c, lo, ls, hi, hs, op, rfl⟩ := hf.shape
  obtain ⟨na, nc, rfl, _⟩ := id hn
  have hb0 : Below w.heap.size w (w.alloc (.cells #[.int .u8 k, .slice a1 l1 c1, .slice a l2 c, .int .i64 lo, .bool ls, .int .i64 hi, .bool hs, .bool op] 28)) := (Below.refl _ w).alloc (Nat.le_refl _) _
  have HB0 := Lib.hid hb0
  have HK0 : Hid ((w.alloc (.cells #[.int .u8 k, .slice a1 l1 c1, .slice a l2 c, .int .i64 lo, .bool ls, .int .i64 hi, .bool hs, .bool op] 28)).heap[w.heap.size]? = some (.cells #[.int .u8 k, .slice a1 l1 c1, .slice a l2 c, .int .i64 lo, .bool ls, .int .i64 hi, .bool hs, .bool op] 28 (0, 0))) := hp_top rfl
  have HSZ : Hid ((w.alloc (.cells #[.int .u8 k, .slice a1 l1 c1, .slice a l2 c, .int .i64 lo, .bool ls, .int .i64 hi, .bool hs, .bool op] 28)).heap.size = w.heap.size + 1) := by simp [Hid]
  have HCK := Lib.hid (check39_any names _ (fun s h => Nat.le_trans (hs0 s h) (by omega)) m n t _ (w.alloc (.cells #[.int .u8 k, .slice a1 l1 c1, .slice a l2 c, .int .i64 lo, .bool ls, .int .i64 hi, .bool hs, .bool op] 28)) (Nat.le_trans (nX_le n t) (by omega)) (hn.up hb0 hb0.size) (hf.up hb0 hb0.size))
  by_cases hc : checkR names n t = 0
  · have HT : Hid (textR names n t = prX Lib.itoa n t 1) := by rw [Hid, textR, if_pos hc, prX_zero]
    have hck := checkR_zero.1 hc
    have hlen := prX_len_right t 1 hck.2.1
    have HTX : Hid (∀ W, Below w.heap.size w W → Calls Tryz.prog 40 #[.agg #[.int .u8 k, .slice a1 l1 c1, .slice a l2 c, .int .i64 lo, .bool ls, .int .i64 hi, .bool hs, .bool op]] W fun e w' => e = .returned (.string (byt (prX Lib.itoa n t 1))) ∧ Below W.heap.size W w') := fun W hW => text40_any m n t _ W (hr.below hW) (hf.up hW hW.size) hck.2.1 (by omega)
    rw [hc] at HCK ⊢
    clear hr hn hf hs0 htx hb0 hck hlen hc
    go_enter Tryz.func19, Tryz.ntmps19
    go_wp2_with fail
    refine HCK.out.mono ?_
    rintro e w1 ⟨rfl, hb1⟩
    have HB1 := Lib.hid (HB0.out.trans (hb1.mono HB0.out.size))
    have hx1 := (hb1.block w.heap.size (by have := HSZ.out; omega)).trans HK0.out
    have hlt : w.heap.size < w1.heap.size := (Array.getElem?_eq_some_iff.1 hx1).1
    have x0 := Lib.cell_of_heap hx1 0
    have x1 := Lib.cell_of_heap hx1 1
    have x2 := Lib.cell_of_heap hx1 2
    have x3 := Lib.cell_of_heap hx1 3
    have x4 := Lib.cell_of_heap hx1 4
    have x5 := Lib.cell_of_heap hx1 5
    have x6 := Lib.cell_of_heap hx1 6
    have x7 := Lib.cell_of_heap hx1 7
    simp only [List.getElem?_toArray, List.getElem?_cons_zero, List.getElem?_cons_succ] at x0 x1 x2 x3 x4 x5 x6 x7
    clear hb1 hx1
    go_wp2_with fail
    refine (HTX.out w1 HB1.out).mono ?_
    rintro e w2 ⟨rfl, hb2⟩
    have HB2 := Lib.hid (HB1.out.trans (hb2.mono HB1.out.size))
    clear hb2
    go_wp2_with fail
    go_ret2
    exact ⟨by rw [HT.out]; rfl, HB2.out⟩
  · have HT : Hid (textR names n t = []) := by rw [Hid, textR, if_neg hc]
    have q : (checkR names n t != 0) = true := by simpa using hc
    clear hr hn hf hs0 htx hb0 hc
    go_enter Tryz.func19, Tryz.ntmps19
    go_wp2_with fail
    refine HCK.out.mono ?_
    rintro e w1 ⟨rfl, hb1⟩
    have HB1 := Lib.hid (HB0.out.trans (hb1.mono HB0.out.size))
    clear hb1
    go_wp2_with fail
    go_ret2
    exact ⟨by rw [HT.out]; rfl, HB1.out⟩
end Go.Proofs.YtpgdplmndnopbaaGreatDoor
