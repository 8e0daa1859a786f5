/- slices.AppendSeq and slices.Collect walked, of norm.parts. (Printed by gen_nmt.py.) -/
import Derived.Deep.RegionHeld3
import Derived.Deep.Upon
import Derived.Test.YtpgdplmndnopbaaGreatDoorMhD
namespace Go.Proofs.YtpgdplmndnopbaaGreatDoor
open Go.RowKit Go.Shelf
attribute [local go_sem] Oper.semAt_some
theorem take_eq_of {l xs : List Value} {n : Nat} (hn : xs.length = n) (h : ∀ i, i < n → l[i]? = xs[i]?) : l.take n = xs := by
 apply List.ext_getElem?
 intro i
 by_cases hi : i < n
 ·rw [List.getElem?_take, if_pos hi]; exact h i hi
 ·rw [List.getElem?_take, if_neg hi, List.getElem?_eq_none (by omega)]
theorem setCell_comm {g h : Nat} (hne : h ≠ g) (w : World) (i j : Nat) (u v : Value) : (w.setCell ⟨h, j, none⟩ v).setCell ⟨g, i, none⟩ u = (w.setCell ⟨g, i, none⟩ u).setCell ⟨h, j, none⟩ v := by
 have e : ((w.setCell ⟨h, j, none⟩ v).setCell ⟨g, i, none⟩ u).heap = ((w.setCell ⟨g, i, none⟩ u).setCell ⟨h, j, none⟩ v).heap := by
  apply Array.ext_getElem?
  intro k
  by_cases h1 : k = g
  ·subst h1
   rw [twOther _ h _ _ _ (Ne.symm hne)]
   show ((w.setCell ⟨h, j, none⟩ v).heap.modify k _)[k]? = (w.heap.modify k _)[k]?
   rw [Array.getElem?_modify, Array.getElem?_modify, if_pos rfl, if_pos rfl, twOther _ h _ _ _ (Ne.symm hne)]
  ·rw [twOther _ g _ _ _ h1]
   by_cases h2 : k = h
   ·subst h2
    show (w.heap.modify k _)[k]? = ((w.setCell ⟨g, i, none⟩ u).heap.modify k _)[k]?
    rw [Array.getElem?_modify, Array.getElem?_modify, if_pos rfl, if_pos rfl, twOther _ g _ _ _ h1]
   ·rw [twOther _ h _ _ _ h2, twOther _ h _ _ _ h2, twOther _ g _ _ _ h1]
 unfold World.setCell at e ⊢
 simp only at e ⊢
 rw [e]
theorem setCells_comm {g h : Nat} (hne : h ≠ g) : ∀ (vs : List Value) (w : World) (o j : Nat) (v : Value), (w.setCell ⟨h, j, none⟩ v).setCells g o vs = (w.setCells g o vs).setCell ⟨h, j, none⟩ v
 | [], _, _, _, _ => rfl
 | x :: r, w, o, j, v => by
  show ((w.setCell ⟨h, j, none⟩ v).setCell ⟨g, o, none⟩ x).setCells g (o + 1) r = _
  rw [setCell_comm hne, setCells_comm hne r]
  rfl
theorem gather_next {X W5 : World} {base Bs g cap n : Nat} {xs v : List Value} {sv : Value} {o : Obj} (hB : X.heap[Bs]? = some (.cells #[sv] 24 (0, 0))) (hown : X.ownsRow base 28 8 sv n xs) (hv : v.length = 8)
 (hown5 : W5.ownsRow base 28 8 (.slice (some ⟨g, 0, none⟩) (n + 1) cap) (n + 1) (xs ++ [.int .u8 0, .slice none 0 0, .slice none 0 0, .int .i64 0, .bool false, .int .i64 0, .bool false, .bool false])) (hgrow : (X.drew.alloc o).grownBy W5 sv.ownBlock) (hat : sv.ownBlock = some g ∨ g = (X.drew.alloc o).heap.size) :
 (∀ j, j < 8 → W5.cell? ⟨g, n * 8 + j, none⟩ = ([.int .u8 0, .slice none 0 0, .slice none 0 0, .int .i64 0, .bool false, .int .i64 0, .bool false, .bool false] : List Value)[j]? ∧ W5.frozen? ⟨g, n * 8 + j, none⟩ = false) ∧ W5.heap[Bs]? = some (.cells #[sv] 24 (0, 0)) ∧ (W5.setCells g (n * 8) v).heap[Bs]? = some (.cells #[sv] 24 (0, 0)) ∧
  (∃ sv', ((W5.setCells g (n * 8) v).setCell ⟨Bs, 0, none⟩ (.slice (some ⟨g, 0, none⟩) (n + 1) cap)).heap[Bs]? = some (.cells #[sv'] 24 (0, 0)) ∧ ((W5.setCells g (n * 8) v).setCell ⟨Bs, 0, none⟩ (.slice (some ⟨g, 0, none⟩) (n + 1) cap)).ownsRow base 28 8 sv' (n + 1) (xs ++ v) ∧
   (sv'.ownBlock = sv.ownBlock ∨ ∃ g', sv'.ownBlock = some g' ∧ X.heap.size ≤ g') ∧ ((W5.setCells g (n * 8) v).setCell ⟨Bs, 0, none⟩ (.slice (some ⟨g, 0, none⟩) (n + 1) cap)).os = X.os ∧ ((W5.setCells g (n * 8) v).setCell ⟨Bs, 0, none⟩ (.slice (some ⟨g, 0, none⟩) (n + 1) cap)).tape = X.tape ∧ ((W5.setCells g (n * 8) v).setCell ⟨Bs, 0, none⟩ (.slice (some ⟨g, 0, none⟩) (n + 1) cap)).output = X.output ∧
   X.heap.size ≤ ((W5.setCells g (n * 8) v).setCell ⟨Bs, 0, none⟩ (.slice (some ⟨g, 0, none⟩) (n + 1) cap)).heap.size ∧ ∀ b, b < X.heap.size → b ≠ Bs → sv.ownBlock ≠ some b → ((W5.setCells g (n * 8) v).setCell ⟨Bs, 0, none⟩ (.slice (some ⟨g, 0, none⟩) (n + 1) cap)).heap[b]? = X.heap[b]?) ∧
  (∀ b, b < X.heap.size → b ≠ Bs → sv.ownBlock ≠ some b → W5.heap[b]? = X.heap[b]? ∧ (W5.setCells g (n * 8) v).heap[b]? = X.heap[b]?) := by
 have hBl := (Array.getElem?_eq_some_iff.1 hB).1
 have hnB := row_not_loop hown hB (by intro cur e; simp at e)
 have hxl := hown.1
 rcases hown5.2 with ⟨h, _⟩ | ⟨g', cap', cur, e, hg, hcur, h1, h2, h3, h4⟩
 ·cases h
 ·injection e with e1 e2 e3
  injection e1 with e1
  injection e1 with e1
  subst e1 e3
  have hz : X.heap.size + 1 ≤ W5.heap.size := by have := hgrow.size; simpa using this
  have hB5 : W5.heap[Bs]? = some (.cells #[sv] 24 (0, 0)) := by
   rw [hgrow.block Bs (by simp; omega) (fun e => hnB e.symm)]
   exact hp_in (show X.drew.heap[Bs]? = _ from hB)
  have hgB : Bs ≠ g := by
   rintro rfl
   rw [hB5] at hcur
   simp at hcur
  have hB6 : (W5.setCells g (n * 8) v).heap[Bs]? = some (.cells #[sv] 24 (0, 0)) := (setCells_other _ _ _ _ _ hgB).trans hB5
  have hcell : ∀ i, i < (n + 1) * 8 → cur[i]? = (xs ++ [.int .u8 0, .slice none 0 0, .slice none 0 0, .int .i64 0, .bool false, .int .i64 0, .bool false, .bool false])[i]? := by
   intro i hi
   rw [← h4, List.getElem?_take, if_pos hi, Array.getElem?_toList]
  have hcap : (n + 1) * 8 ≤ cap * 8 := Nat.mul_le_mul_right 8 h1
  have hsz7 : ((W5.setCells g (n * 8) v).setCell ⟨Bs, 0, none⟩ (.slice (some ⟨g, 0, none⟩) (n + 1) cap)).heap.size = W5.heap.size := by simp only [World.setCell, Array.size_modify]; exact setCells_size _ _ _ _
  have hgb : ∀ b, b < X.heap.size → sv.ownBlock ≠ some b → b ≠ g := by
   intro b hb hne e
   subst e
   rcases hat with h | h
   ·exact hne h
   ·have : (X.drew.alloc o).heap.size = X.heap.size + 1 := by simp
    omega
  have hold : ∀ b, b < X.heap.size → sv.ownBlock ≠ some b → W5.heap[b]? = X.heap[b]? := by
   intro b hb hne
   rw [hgrow.block b (by simp; omega) (fun e => hne e.symm)]
   exact Lib.alloc_old X.drew o b hb
  refine ⟨fun j hj => ⟨?_, Lib.frozen_of_heap hcur _⟩, hB5, hB6, ⟨.slice (some ⟨g, 0, none⟩) (n + 1) cap, twAt hB6 0 _, ⟨?_, .inr ⟨g, cap, putA cur (n * 8) v, rfl, hg, ?_, h1, h2, by rw [putA_size]; exact h3, ?_⟩⟩, ?_, ?_, ?_, ?_, ?_, fun b hb hne hrow => ?_⟩, fun b hb hne hrow => ⟨hold b hb hrow, (setCells_other _ _ _ _ _ (hgb b hb hrow)).trans (hold b hb hrow)⟩⟩
  ·rw [Lib.cell_of_heap hcur, hcell _ (by omega), List.getElem?_append_right (by omega), hxl, Nat.add_sub_cancel_left]
  ·simp [hxl, hv]; omega
  ·exact (twOther _ _ _ _ _ (Ne.symm hgB)).trans (setCells_at v _ hcur)
  ·refine take_eq_of (by simp [hxl, hv]; omega) (fun i hi => ?_)
   rw [Array.getElem?_toList]
   by_cases hin : i < n * 8
   ·rw [putA_out v cur (n * 8) i (.inl hin), hcell i hi, List.getElem?_append_left (by omega), List.getElem?_append_left (by omega)]
   ·obtain ⟨j, rfl⟩ := Nat.exists_eq_add_of_le (Nat.le_of_not_lt hin)
    rw [putA_in v cur (n * 8) j (by omega) (by omega), List.getElem?_append_right (by omega), hxl, Nat.add_sub_cancel_left]
  ·rcases hat with h | h
   ·exact .inl h.symm
   ·exact .inr ⟨g, rfl, by rw [h]; simp⟩
  ·have := hgrow.os
   simp only [World.setCell]
   rw [World.os_setCells]; exact this
  ·have := hgrow.tape
   have h5 := (below_setCells' (Below.refl 0 W5) (Nat.zero_le g) v (n * 8)).tape
   exact (show (W5.setCells g (n * 8) v).tape = _ from h5).trans this
  ·have := hgrow.output
   simp only [World.setCell]
   rw [World.output_setCells]; exact this
  ·rw [hsz7]; omega
  ·rw [twOther _ _ _ _ _ hne, setCells_other _ _ _ _ _ (hgb b hb hrow)]
   exact hold b hb hrow
set_option maxRecDepth 100000 in
set_option maxHeartbeats 16000000 in
theorem appendSeq156 (k : Int) (hk : k = 2 ∨ k = 3 ∨ k = 4) (kb xb : Nat) (y : YX) (v : List Value) (lo hi : Nat) (w : World) (hO : OY w y lo hi (.agg v.toArray)) (hhi : hi ≤ w.heap.size) (hv8 : v.length = 8) (hkb : w.heap[kb]? = some (.cells #[.int .u8 k] 5 (0, 0))) (hxb : w.heap[xb]? = some (.cells v.toArray 28 (0, 0)))
 (hN : (Nm.parts k y).length ≤ 1000) :
 Calls Tryz.prog 156 #[.slice none 0 0, .func (.func 157) #[] #[.pointer (some ⟨kb, 0, none⟩), .pointer (some ⟨xb, 0, none⟩)]] w fun e w' => (∃ sv vs, e = .returned sv ∧ Ch (OY w') (Nm.parts k y) vs lo hi ∧ w'.ownsRow w.heap.size 28 8 sv vs.length vs.flatten) ∧ Below w.heap.size w w' := by
 obtain ⟨i0, hi0, hz0, hz1, hz2⟩ := info_parts nm_info28
 obtain ⟨W1, hW1⟩ : ∃ W1, W1 = w.alloc (.cells #[.slice none 0 0] 24) := ⟨_, rfl⟩
 have hb1 : Below w.heap.size w W1 := by rw [hW1]; exact (Below.refl _ _).alloc (Nat.le_refl _) _
 have hz : W1.heap.size = w.heap.size + 1 := by rw [hW1]; simp
 have hB1 : W1.heap[w.heap.size]? = some (.cells #[.slice none 0 0] 24 (0, 0)) := by rw [hW1]; exact hp_top rfl
 have hkl := (Array.getElem?_eq_some_iff.1 hkb).1
 have hxl := (Array.getElem?_eq_some_iff.1 hxb).1
 have hO1 : OY W1 y lo hi (.agg v.toArray) := hO.go hb1.size fun b _ h => hb1.block b (by omega)
 have HW1 := Lib.hid hW1.symm
 have HB1 := Lib.hid hb1
 refine (callsIn_wide (n := 4)).1 ?_
 refine callsIn_of_wp_marks Tryz.func156 rfl trivial ?_ rfl
 simp only [Tryz.ntmps156, List.size_toArray, List.length_cons, List.length_nil, Nat.reduceAdd, Nat.reduceSub, Array.replicate_succ, Array.replicate_zero, List.push_toArray, List.append_toArray, List.nil_append, List.cons_append]
 gi_wp2
 rw [HW1.out]
 refine range_parts (base := w.heap.size) (Bs := w.heap.size) (kb := kb) (xb := xb) (N := 1000) (k := k) (y := y) (v := v) (lo := lo) (hi := hi) hk rfl rfl hB1 (Nat.le_refl _) hO1 hhi hv8 ((hb1.block _ hkl).trans hkb) ((hb1.block _ hxl).trans hxb) (by omega) hN ?gathers ?done
 case done =>
  intro D W sv vs hD hc hBW hown hbW hK
  have hsz := hbW.size
  have HC := Lib.hid hc
  have HO := Lib.hid hown
  have HBW := Lib.hid hbW
  have HK := Lib.hid hK
  have b0 := Lib.cell_of_heap hBW 0
  simp only [List.getElem?_toArray, List.getElem?_cons_zero] at b0
  have hlt := (Array.getElem?_eq_some_iff.1 hBW).1
  clear hc hown hbW hK hBW hO hO1 hB1 hkb hxb hb1
  gi_wp2
  have hbelow : Below w.heap.size w (W.putObj D (.deferred none)) := by
   have h1 := HB1.out.trans HBW.out
   exact ⟨h1.os, h1.tape, h1.output, by simp; omega, fun j hj => (World.putObj_heap_other (by omega)).trans (h1.block j hj)⟩
  refine ⟨by simp, .inl ⟨_, _, rfl, run_takeDeferred HK.out, ?_⟩⟩
  refine ⟨_, results_tmp rfl _ _ _, ⟨sv, vs, rfl, ?_, ?_⟩, hbelow⟩
  ·refine HC.out.go (by simp; omega) fun b _ hb => ?_
   rw [World.putObj_heap_other (by omega)]
   exact HBW.out.block b (by omega)
  ·exact HO.out.kept (grownBy_putObj' _ _ _) (.inr (row_not_loop HO.out HK.out (by intro cur e; cases e)))
 case gathers =>
  intro l m wr sv items v hsv hown hv hone hsh hl hlB hloop hlen hbase
  obtain ⟨k, b1, n1, d1, b2, n2, d2, lo, ls, hi, hs, op, rfl⟩ := hsh
  have hbl := (Array.getElem?_eq_some_iff.1 hsv).1
  have hmaxi : items.length < 1000 := hlen
  gi_wp2
  refine ⟨⟨_, rfl⟩, ?_⟩
  intro o'
  obtain ⟨X, hX⟩ : ∃ X, X = (wr.alloc (.cells #[.int .u8 k, .slice b1 n1 d1, .slice b2 n2 d2, .int .i64 lo, .bool ls, .int .i64 hi, .bool hs, .bool op] 28)).putObj l (.loop o') := ⟨_, rfl⟩
  obtain ⟨ra, rc, hsvs⟩ : ∃ a c, sv = .slice a items.length c := by
   rcases hown.2 with ⟨h, h0⟩ | ⟨g, cap, cur, h, _⟩
   ·exact ⟨none, 0, by rw [h, h0]⟩
   ·exact ⟨_, _, h⟩
  subst hsvs
  have hTX : X.heap[wr.heap.size]? = some (.cells #[.int .u8 k, .slice b1 n1 d1, .slice b2 n2 d2, .int .i64 lo, .bool ls, .int .i64 hi, .bool hs, .bool op] 28 (0, 0)) := by rw [hX, World.putObj_heap_other (by omega)]; exact hp_top rfl
  have hBX : X.heap[w.heap.size]? = some (.cells #[.slice ra items.length rc] 24 (0, 0)) := by rw [hX, World.putObj_heap_other (Ne.symm hlB)]; exact hp_in hsv
  have hzX : X.heap.size = wr.heap.size + 1 := by rw [hX]; simp
  have hownX : X.ownsRow w.heap.size 28 8 (.slice ra items.length rc) items.length items.flatten := by
   rw [hX]
   have h1 : (wr.alloc (.cells #[.int .u8 k, .slice b1 n1 d1, .slice b2 n2 d2, .int .i64 lo, .bool ls, .int .i64 hi, .bool hs, .bool op] 28)).ownsRow w.heap.size 28 8 (.slice ra items.length rc) items.length items.flatten := hown.alloc _
   obtain ⟨r, hr⟩ := hloop
   exact h1.kept (grownBy_putObj' _ _ _) (.inr (row_not_loop h1 (hp_in hr) (by intro cur e; cases e)))
  have hX2 : X.heap.size = (wr.alloc (.cells #[.int .u8 k, .slice b1 n1 d1, .slice b2 n2 d2, .int .i64 lo, .bool ls, .int .i64 hi, .bool hs, .bool op] 28)).heap.size := by rw [hX]; simp
  have HXS : Hid (X.os = (wr.alloc (.cells #[.int .u8 k, .slice b1 n1 d1, .slice b2 n2 d2, .int .i64 lo, .bool ls, .int .i64 hi, .bool hs, .bool op] 28)).os ∧ X.tape = (wr.alloc (.cells #[.int .u8 k, .slice b1 n1 d1, .slice b2 n2 d2, .int .i64 lo, .bool ls, .int .i64 hi, .bool hs, .bool op] 28)).tape ∧ X.output = (wr.alloc (.cells #[.int .u8 k, .slice b1 n1 d1, .slice b2 n2 d2, .int .i64 lo, .bool ls, .int .i64 hi, .bool hs, .bool op] 28)).output) := by rw [Hid, hX]; exact ⟨rfl, rfl, rfl⟩
  have HS : Hid (∀ W : World, W.heap[wr.heap.size]? = some (.cells #[.int .u8 k, .slice b1 n1 d1, .slice b2 n2 d2, .int .i64 lo, .bool ls, .int .i64 hi, .bool hs, .bool op] 28 (0, 0)) → W.cell? ⟨wr.heap.size, 0, none⟩ = some (.int .u8 k) ∧ W.cell? ⟨wr.heap.size, 1, none⟩ = some (.slice b1 n1 d1) ∧ W.cell? ⟨wr.heap.size, 2, none⟩ = some (.slice b2 n2 d2) ∧ W.cell? ⟨wr.heap.size, 3, none⟩ = some (.int .i64 lo) ∧ W.cell? ⟨wr.heap.size, 4, none⟩ = some (.bool ls) ∧ W.cell? ⟨wr.heap.size, 5, none⟩ = some (.int .i64 hi) ∧ W.cell? ⟨wr.heap.size, 6, none⟩ = some (.bool hs) ∧ W.cell? ⟨wr.heap.size, 7, none⟩ = some (.bool op)) := fun W h => ⟨Lib.cell_of_heap h 0, Lib.cell_of_heap h 1, Lib.cell_of_heap h 2, Lib.cell_of_heap h 3, Lib.cell_of_heap h 4, Lib.cell_of_heap h 5, Lib.cell_of_heap h 6, Lib.cell_of_heap h 7⟩
  have HOWN : Hid ((X.drew.alloc (.cells #[.int .u8 0, .slice none 0 0, .slice none 0 0, .int .i64 0, .bool false, .int .i64 0, .bool false, .bool false] 28)).ownsRow w.heap.size 28 8 (.slice ra items.length rc) items.length items.flatten) := World.ownsRow.alloc (World.ownsRow.drew hownX) _
  have HNB : Hid ((X.drew.alloc (.cells #[.int .u8 0, .slice none 0 0, .slice none 0 0, .int .i64 0, .bool false, .int .i64 0, .bool false, .bool false] 28)).heap[X.heap.size]? = some (.cells #[.int .u8 0, .slice none 0 0, .slice none 0 0, .int .i64 0, .bool false, .int .i64 0, .bool false, .bool false] 28 (0, 0))) := hp_top rfl
  have HLEN := Lib.hid hmaxi
  have HBASE : Hid (w.heap.size ≤ (X.drew.alloc (.cells #[.int .u8 0, .slice none 0 0, .slice none 0 0, .int .i64 0, .bool false, .int .i64 0, .bool false, .bool false] 28)).heap.size) := by rw [Hid]; simp; omega
  have HNEXT : Hid (∀ (g cp : Nat) (W5 : World), W5.ownsRow w.heap.size 28 8 (.slice (some ⟨g, 0, none⟩) (items.length + 1) cp) (items.length + 1) (items.flatten ++ [.int .u8 0, .slice none 0 0, .slice none 0 0, .int .i64 0, .bool false, .int .i64 0, .bool false, .bool false]) → (X.drew.alloc (.cells #[.int .u8 0, .slice none 0 0, .slice none 0 0, .int .i64 0, .bool false, .int .i64 0, .bool false, .bool false] 28)).grownBy W5 (Value.slice ra items.length rc).ownBlock → ((Value.slice ra items.length rc).ownBlock = some g ∨ g = (X.drew.alloc (.cells #[.int .u8 0, .slice none 0 0, .slice none 0 0, .int .i64 0, .bool false, .int .i64 0, .bool false, .bool false] 28)).heap.size) →
   W5.heap[wr.heap.size]? = some (.cells #[.int .u8 k, .slice b1 n1 d1, .slice b2 n2 d2, .int .i64 lo, .bool ls, .int .i64 hi, .bool hs, .bool op] 28 (0, 0)) ∧ (∀ j, j < 8 → W5.cell? ⟨g, items.length * 8 + j, none⟩ = ([.int .u8 0, .slice none 0 0, .slice none 0 0, .int .i64 0, .bool false, .int .i64 0, .bool false, .bool false] : List Value)[j]? ∧ W5.frozen? ⟨g, items.length * 8 + j, none⟩ = false) ∧ (((((((((W5.setCell ⟨g, items.length * 8, none⟩ (.int .u8 k)).setCell ⟨g, items.length * 8 + 1, none⟩ (.slice b1 n1 d1)).setCell ⟨g, items.length * 8 + 2, none⟩ (.slice b2 n2 d2)).setCell ⟨g, items.length * 8 + 3, none⟩ (.int .i64 lo)).setCell ⟨g, items.length * 8 + 4, none⟩ (.bool ls)).setCell ⟨g, items.length * 8 + 5, none⟩ (.int .i64 hi)).setCell ⟨g, items.length * 8 + 6, none⟩ (.bool hs)).setCell ⟨g, items.length * 8 + 7, none⟩ (.bool op)) = W5.setCells g (items.length * 8) [.int .u8 k, .slice b1 n1 d1, .slice b2 n2 d2, .int .i64 lo, .bool ls, .int .i64 hi, .bool hs, .bool op]) ∧ (W5.setCells g (items.length * 8) [.int .u8 k, .slice b1 n1 d1, .slice b2 n2 d2, .int .i64 lo, .bool ls, .int .i64 hi, .bool hs, .bool op]).heap[wr.heap.size]? = some (.cells #[.int .u8 k, .slice b1 n1 d1, .slice b2 n2 d2, .int .i64 lo, .bool ls, .int .i64 hi, .bool hs, .bool op] 28 (0, 0)) ∧
   (W5.setCells g (items.length * 8) [.int .u8 k, .slice b1 n1 d1, .slice b2 n2 d2, .int .i64 lo, .bool ls, .int .i64 hi, .bool hs, .bool op]).heap[w.heap.size]? = some (.cells #[.slice ra items.length rc] 24 (0, 0)) ∧ ((W5.setCells g (items.length * 8) [.int .u8 k, .slice b1 n1 d1, .slice b2 n2 d2, .int .i64 lo, .bool ls, .int .i64 hi, .bool hs, .bool op]).setCell ⟨w.heap.size, 0, none⟩ (.slice (some ⟨g, 0, none⟩) (items.length + 1) cp)).heap[wr.heap.size]? = some (.cells #[.int .u8 k, .slice b1 n1 d1, .slice b2 n2 d2, .int .i64 lo, .bool ls, .int .i64 hi, .bool hs, .bool op] 28 (0, 0)) ∧
   (W5.heap[w.heap.size]? = some (.cells #[.slice ra items.length rc] 24 (0, 0)) ∧ (W5.setCell ⟨w.heap.size, 0, none⟩ (.slice (some ⟨g, 0, none⟩) (items.length + 1) cp)).heap[wr.heap.size]? = some (.cells #[.int .u8 k, .slice b1 n1 d1, .slice b2 n2 d2, .int .i64 lo, .bool ls, .int .i64 hi, .bool hs, .bool op] 28 (0, 0)) ∧ (∀ j, j < 8 → (W5.setCell ⟨w.heap.size, 0, none⟩ (.slice (some ⟨g, 0, none⟩) (items.length + 1) cp)).cell? ⟨g, items.length * 8 + j, none⟩ = ([.int .u8 0, .slice none 0 0, .slice none 0 0, .int .i64 0, .bool false, .int .i64 0, .bool false, .bool false] : List Value)[j]? ∧ (W5.setCell ⟨w.heap.size, 0, none⟩ (.slice (some ⟨g, 0, none⟩) (items.length + 1) cp)).frozen? ⟨g, items.length * 8 + j, none⟩ = false) ∧ (((((((((W5.setCell ⟨w.heap.size, 0, none⟩ (.slice (some ⟨g, 0, none⟩) (items.length + 1) cp)).setCell ⟨g, items.length * 8, none⟩ (.int .u8 k)).setCell ⟨g, items.length * 8 + 1, none⟩ (.slice b1 n1 d1)).setCell ⟨g, items.length * 8 + 2, none⟩ (.slice b2 n2 d2)).setCell ⟨g, items.length * 8 + 3, none⟩ (.int .i64 lo)).setCell ⟨g, items.length * 8 + 4, none⟩ (.bool ls)).setCell ⟨g, items.length * 8 + 5, none⟩ (.int .i64 hi)).setCell ⟨g, items.length * 8 + 6, none⟩ (.bool hs)).setCell ⟨g, items.length * 8 + 7, none⟩ (.bool op)) = (W5.setCells g (items.length * 8) [.int .u8 k, .slice b1 n1 d1, .slice b2 n2 d2, .int .i64 lo, .bool ls, .int .i64 hi, .bool hs, .bool op]).setCell ⟨w.heap.size, 0, none⟩ (.slice (some ⟨g, 0, none⟩) (items.length + 1) cp)) ∧
   ∃ sv', ((W5.setCells g (items.length * 8) [.int .u8 k, .slice b1 n1 d1, .slice b2 n2 d2, .int .i64 lo, .bool ls, .int .i64 hi, .bool hs, .bool op]).setCell ⟨w.heap.size, 0, none⟩ (.slice (some ⟨g, 0, none⟩) (items.length + 1) cp)).heap[w.heap.size]? = some (.cells #[sv'] 24 (0, 0)) ∧ ((W5.setCells g (items.length * 8) [.int .u8 k, .slice b1 n1 d1, .slice b2 n2 d2, .int .i64 lo, .bool ls, .int .i64 hi, .bool hs, .bool op]).setCell ⟨w.heap.size, 0, none⟩ (.slice (some ⟨g, 0, none⟩) (items.length + 1) cp)).ownsRow w.heap.size 28 8 sv' (items.length + 1) (items.flatten ++ [.int .u8 k, .slice b1 n1 d1, .slice b2 n2 d2, .int .i64 lo, .bool ls, .int .i64 hi, .bool hs, .bool op]) ∧
    (sv'.ownBlock = (Value.slice ra items.length rc).ownBlock ∨ ∃ g', sv'.ownBlock = some g' ∧ (wr.alloc (.cells #[.int .u8 k, .slice b1 n1 d1, .slice b2 n2 d2, .int .i64 lo, .bool ls, .int .i64 hi, .bool hs, .bool op] 28)).heap.size ≤ g') ∧ ((W5.setCells g (items.length * 8) [.int .u8 k, .slice b1 n1 d1, .slice b2 n2 d2, .int .i64 lo, .bool ls, .int .i64 hi, .bool hs, .bool op]).setCell ⟨w.heap.size, 0, none⟩ (.slice (some ⟨g, 0, none⟩) (items.length + 1) cp)).os = (wr.alloc (.cells #[.int .u8 k, .slice b1 n1 d1, .slice b2 n2 d2, .int .i64 lo, .bool ls, .int .i64 hi, .bool hs, .bool op] 28)).os ∧ ((W5.setCells g (items.length * 8) [.int .u8 k, .slice b1 n1 d1, .slice b2 n2 d2, .int .i64 lo, .bool ls, .int .i64 hi, .bool hs, .bool op]).setCell ⟨w.heap.size, 0, none⟩ (.slice (some ⟨g, 0, none⟩) (items.length + 1) cp)).tape = (wr.alloc (.cells #[.int .u8 k, .slice b1 n1 d1, .slice b2 n2 d2, .int .i64 lo, .bool ls, .int .i64 hi, .bool hs, .bool op] 28)).tape ∧ ((W5.setCells g (items.length * 8) [.int .u8 k, .slice b1 n1 d1, .slice b2 n2 d2, .int .i64 lo, .bool ls, .int .i64 hi, .bool hs, .bool op]).setCell ⟨w.heap.size, 0, none⟩ (.slice (some ⟨g, 0, none⟩) (items.length + 1) cp)).output = (wr.alloc (.cells #[.int .u8 k, .slice b1 n1 d1, .slice b2 n2 d2, .int .i64 lo, .bool ls, .int .i64 hi, .bool hs, .bool op] 28)).output ∧
    (wr.alloc (.cells #[.int .u8 k, .slice b1 n1 d1, .slice b2 n2 d2, .int .i64 lo, .bool ls, .int .i64 hi, .bool hs, .bool op] 28)).heap.size ≤ ((W5.setCells g (items.length * 8) [.int .u8 k, .slice b1 n1 d1, .slice b2 n2 d2, .int .i64 lo, .bool ls, .int .i64 hi, .bool hs, .bool op]).setCell ⟨w.heap.size, 0, none⟩ (.slice (some ⟨g, 0, none⟩) (items.length + 1) cp)).heap.size ∧ ∀ b, b < (wr.alloc (.cells #[.int .u8 k, .slice b1 n1 d1, .slice b2 n2 d2, .int .i64 lo, .bool ls, .int .i64 hi, .bool hs, .bool op] 28)).heap.size → b ≠ w.heap.size → (Value.slice ra items.length rc).ownBlock ≠ some b → ((W5.setCells g (items.length * 8) [.int .u8 k, .slice b1 n1 d1, .slice b2 n2 d2, .int .i64 lo, .bool ls, .int .i64 hi, .bool hs, .bool op]).setCell ⟨w.heap.size, 0, none⟩ (.slice (some ⟨g, 0, none⟩) (items.length + 1) cp)).heap[b]? = ((wr.alloc (.cells #[.int .u8 k, .slice b1 n1 d1, .slice b2 n2 d2, .int .i64 lo, .bool ls, .int .i64 hi, .bool hs, .bool op] 28)).putObj l (.loop o')).heap[b]?) := by
   intro g cp W5 ho hgr hat
   obtain ⟨q1, q2, q3, ⟨sv', p1, p2, p3, p4, p5, p6, p7, p8⟩, q5⟩ := gather_next (v := [.int .u8 k, .slice b1 n1 d1, .slice b2 n2 d2, .int .i64 lo, .bool ls, .int .i64 hi, .bool hs, .bool op]) hBX hownX rfl ho hgr hat
   have hnT : (Value.slice ra items.length rc).ownBlock ≠ some wr.heap.size := fun e => by have := (World.ownsRow.lt hown _ e).2; omega
   have hgB : w.heap.size ≠ g := by
    rintro rfl
    have h0 := (q1 0 (by decide)).1
    have h1 := Lib.cell_of_heap q2 (items.length * 8 + 0)
    rw [h0] at h1
    by_cases hi : items.length = 0
    ·rw [hi] at h1; simp at h1
    ·rw [Array.getElem?_eq_none (by simp; omega)] at h1; simp at h1
   have hT5 := q5 wr.heap.size (by omega) (by omega) hnT
   refine ⟨hT5.1.trans hTX, q1, rfl, hT5.2.trans hTX, q3, (p8 wr.heap.size (by omega) (by omega) hnT).trans hTX, ⟨q2, (twOther _ _ _ _ _ (by omega)).trans (hT5.1.trans hTX), fun j hj => ?_, setCells_comm hgB [.int .u8 k, .slice b1 n1 d1, .slice b2 n2 d2, .int .i64 lo, .bool ls, .int .i64 hi, .bool hs, .bool op] W5 (items.length * 8) 0 _⟩, sv', p1, p2, by rw [← hX2]; exact p3, p4.trans HXS.out.1, p5.trans HXS.out.2.1, p6.trans HXS.out.2.2, by rw [← hX2]; exact p7, fun b h1 h2 h3 => ?_⟩
   ·have := q1 j hj
    rw [World.cell?_of_block (a := ⟨g, _, none⟩) (twOther _ _ _ _ _ (Ne.symm hgB)), World.frozen?_of_block (a := ⟨g, _, none⟩) (twOther _ _ _ _ _ (Ne.symm hgB))]
    exact this
   ·rw [← hX]
    exact p8 b (by omega) h2 h3
  have hlenI : (items.length : Int) < (items.length : Int) + 1 := by omega
  have xB := Lib.cell_of_heap hBX 0
  simp only [List.getElem?_toArray, List.getElem?_cons_zero] at xB
  have hBlX : w.heap.size < X.heap.size := by omega
  have HST0 : Hid (X.drew.heap[wr.heap.size]? = some (.cells #[.int .u8 k, .slice b1 n1 d1, .slice b2 n2 d2, .int .i64 lo, .bool ls, .int .i64 hi, .bool hs, .bool op] 28 (0, 0))) := hTX
  have HST1 : Hid ((X.drew.alloc (.cells #[.int .u8 0, .slice none 0 0, .slice none 0 0, .int .i64 0, .bool false, .int .i64 0, .bool false, .bool false] 28)).heap[wr.heap.size]? = some (.cells #[.int .u8 k, .slice b1 n1 d1, .slice b2 n2 d2, .int .i64 lo, .bool ls, .int .i64 hi, .bool hs, .bool op] 28 (0, 0))) := hp_in hTX
  have HXX := Lib.hid hX.symm
  clear hX hTX hBX hownX hX2 hzX HXS hown hone hsv hloop hO hO1 hB1 hkb hxb hb1 hv8 hbase hl hlen
  gi_wp2
  try rw [HXX.out]
  refine region_round (S := fun W => W.cell? ⟨wr.heap.size, 0, none⟩ = some (.int .u8 k) ∧ W.cell? ⟨wr.heap.size, 1, none⟩ = some (.slice b1 n1 d1) ∧ W.cell? ⟨wr.heap.size, 2, none⟩ = some (.slice b2 n2 d2) ∧ W.cell? ⟨wr.heap.size, 3, none⟩ = some (.int .i64 lo) ∧ W.cell? ⟨wr.heap.size, 4, none⟩ = some (.bool ls) ∧ W.cell? ⟨wr.heap.size, 5, none⟩ = some (.int .i64 hi) ∧ W.cell? ⟨wr.heap.size, 6, none⟩ = some (.bool hs) ∧ W.cell? ⟨wr.heap.size, 7, none⟩ = some (.bool op)) (by kernel_rfl) (by kernel_rfl) ?_ (HS.out _ HST0.out) (fun hHeld => ?_)
  ·rintro ⟨_, _, h, _⟩
   cases h
  refine wpAnyH_take (i := 1) (v := ?_) rfl (by kernel_rfl) (by kernel_rfl) (by kernel_rfl) (fun _ _ _ h => h) (Or.inl ⟨by kernel_rfl, ?_⟩) (by assumption) ?_
  rotate_left
  ·(intro w hSw; (try dsimp only at hSw); go_simp)
   with_reducible rfl
  try simp only [Act.put, List.setIfInBounds_toArray]
  refine wpAnyH_ready (rs := [0, 3]) (by kernel_rfl) (by simp) ?_
  refine AllReadyH.cons rfl (fun K hK => ?_) (AllReadyH.cons rfl (fun K hK => ?_) AllReadyH.nil)
  ·go_simp
   refine hK.out _ _ (HS.out _ HST0.out) (fun hHeld => ?_)
   clear hK K
   try simp only [Act.put, List.setIfInBounds_toArray, List.set_cons_zero, List.set_cons_succ]
   refine wpAnyH_take (i := 2) (v := ?_) rfl (by kernel_rfl) (by kernel_rfl) (by kernel_rfl) (fun _ _ _ h => h) (Or.inl ⟨by kernel_rfl, ?_⟩) (by assumption) ?_
   rotate_left
   ·(intro w hSw; (try dsimp only at hSw); go_simp)
    with_reducible rfl
   try simp only [Act.put, List.setIfInBounds_toArray]
   refine wpAnyH_ready (rs := [3]) (by kernel_rfl) (by simp) ?_
   refine AllReadyH.cons rfl (fun K hK => ?_) AllReadyH.nil
   go_simp
   refine hK.out _ _ (HS.out _ HST1.out) (fun hHeld => ?_)
   clear hK K
   try simp only [Act.put, List.setIfInBounds_toArray, List.set_cons_zero, List.set_cons_succ]
   refine wpAnyH_ready (rs := [4]) (by kernel_rfl) (by simp) ?_
   refine AllReadyH.cons rfl (fun K hK => ?_) AllReadyH.nil
   refine step_append_lies _ rfl _ _ 24 rfl w.heap.size 28 i0 _ 8 88 Tryz.underlying24 hi0 hz0 hz1 hz2 rfl (by decide) _ _ _ rfl HOWN.out _ 1 1 [.int .u8 0, .slice none 0 0, .slice none 0 0, .int .i64 0, .bool false, .int .i64 0, .bool false, .bool false] rfl rfl (World.news_of_block HNB.out) (by intro u hu; simp at hu; rcases hu with rfl | rfl | rfl | rfl | rfl | rfl | rfl | rfl <;> rfl) (by decide) (by have := HLEN.out; simp only [maxLen]; omega) (by have := HLEN.out; omega) HBASE.out _ rfl ?_
   intro g cp W5 hown5 hgrow5 hat5 hlt5
   have hn := HNEXT.out g cp W5 hown5 hgrow5 hat5
   have HN := Lib.hid hn
   clear hn hown5 hgrow5 hat5 hlt5
   refine hK.out _ _ (HS.out _ HN.out.1) (fun hHeld => ?_)
   clear hK K
   try simp only [Act.put, List.setIfInBounds_toArray]
   refine wpAnyH_take (i := 5) (v := ?_) rfl (by kernel_rfl) (by kernel_rfl) (by kernel_rfl) (fun _ _ _ h => h) (Or.inl ⟨by kernel_rfl, ?_⟩) (by assumption) ?_
   rotate_left
   ·(intro w hSw; (try dsimp only at hSw); go_simp)
    with_reducible rfl
   try simp only [Act.put]
   refine wpAnyH_ready (rs := [6, 7]) (by kernel_rfl) (by simp) ?_
   refine AllReadyH.cons rfl (fun K hK => ?_) (AllReadyH.cons rfl (fun K hK => ?_) AllReadyH.nil)
   ·skip
    have e0 := (HN.out.2.1 0 (by decide)).1
    have f0 := (HN.out.2.1 0 (by decide)).2
    have e1 := (HN.out.2.1 1 (by decide)).1
    have f1 := (HN.out.2.1 1 (by decide)).2
    have e2 := (HN.out.2.1 2 (by decide)).1
    have f2 := (HN.out.2.1 2 (by decide)).2
    have e3 := (HN.out.2.1 3 (by decide)).1
    have f3 := (HN.out.2.1 3 (by decide)).2
    have e4 := (HN.out.2.1 4 (by decide)).1
    have f4 := (HN.out.2.1 4 (by decide)).2
    have e5 := (HN.out.2.1 5 (by decide)).1
    have f5 := (HN.out.2.1 5 (by decide)).2
    have e6 := (HN.out.2.1 6 (by decide)).1
    have f6 := (HN.out.2.1 6 (by decide)).2
    have e7 := (HN.out.2.1 7 (by decide)).1
    have f7 := (HN.out.2.1 7 (by decide)).2
    simp only [Nat.add_zero, List.getElem?_cons_zero, List.getElem?_cons_succ] at e0 e1 e2 e3 e4 e5 e6 e7 f0
    go_simp
    refine hK.out _ _ (HS.out _ HN.out.2.2.2.1) (fun hHeld => ?_)
    clear hK K
    try simp only [Act.put, List.setIfInBounds_toArray, List.set_cons_zero, List.set_cons_succ]
    clear e0 e1 e2 e3 e4 e5 e6 e7 f0 f1 f2 f3 f4 f5 f6 f7
    refine wpAnyH_ready (rs := [7]) (by kernel_rfl) (by simp) ?_
    refine AllReadyH.cons rfl (fun K hK => ?_) AllReadyH.nil
    rw [HN.out.2.2.1]
    have hB6 := HN.out.2.2.2.2.1
    have b0 := Lib.cell_of_heap hB6 0
    have fb := Lib.frozen_of_heap hB6 0
    simp only [List.getElem?_toArray, List.getElem?_cons_zero] at b0
    clear hB6
    go_simp
    refine hK.out _ _ (HS.out _ HN.out.2.2.2.2.2.1) (fun hHeld => ?_)
    clear hK K
    try simp only [Act.put, List.setIfInBounds_toArray, List.set_cons_zero, List.set_cons_succ]
    refine wpAnyH_done (by kernel_rfl) ?_ _
    exact ⟨rfl, HN.out.2.2.2.2.2.2.2⟩
   ·skip
    obtain ⟨m1, m2, m3, m4⟩ := HN.out.2.2.2.2.2.2.1
    have b0 := Lib.cell_of_heap m1 0
    have fb := Lib.frozen_of_heap m1 0
    simp only [List.getElem?_toArray, List.getElem?_cons_zero] at b0
    have HM := Lib.hid (And.intro m2 (And.intro m3 m4))
    clear m1 m2 m3 m4
    go_simp
    refine hK.out _ _ (HS.out _ HM.out.1) (fun hHeld => ?_)
    clear hK K
    try simp only [Act.put, List.setIfInBounds_toArray, List.set_cons_zero, List.set_cons_succ]
    clear b0 fb
    refine wpAnyH_ready (rs := [6]) (by kernel_rfl) (by simp) ?_
    refine AllReadyH.cons rfl (fun K hK => ?_) AllReadyH.nil
    have e0 := (HM.out.2.1 0 (by decide)).1
    have f0 := (HM.out.2.1 0 (by decide)).2
    have e1 := (HM.out.2.1 1 (by decide)).1
    have f1 := (HM.out.2.1 1 (by decide)).2
    have e2 := (HM.out.2.1 2 (by decide)).1
    have f2 := (HM.out.2.1 2 (by decide)).2
    have e3 := (HM.out.2.1 3 (by decide)).1
    have f3 := (HM.out.2.1 3 (by decide)).2
    have e4 := (HM.out.2.1 4 (by decide)).1
    have f4 := (HM.out.2.1 4 (by decide)).2
    have e5 := (HM.out.2.1 5 (by decide)).1
    have f5 := (HM.out.2.1 5 (by decide)).2
    have e6 := (HM.out.2.1 6 (by decide)).1
    have f6 := (HM.out.2.1 6 (by decide)).2
    have e7 := (HM.out.2.1 7 (by decide)).1
    have f7 := (HM.out.2.1 7 (by decide)).2
    simp only [Nat.add_zero, List.getElem?_cons_zero, List.getElem?_cons_succ] at e0 e1 e2 e3 e4 e5 e6 e7 f0
    go_simp
    try rw [HM.out.2.2]
    refine hK.out _ _ (HS.out _ HN.out.2.2.2.2.2.1) (fun hHeld => ?_)
    clear hK K
    try simp only [Act.put, List.setIfInBounds_toArray, List.set_cons_zero, List.set_cons_succ]
    clear e0 e1 e2 e3 e4 e5 e6 e7 f0 f1 f2 f3 f4 f5 f6 f7
    refine wpAnyH_done (by kernel_rfl) ?_ _
    exact ⟨rfl, HN.out.2.2.2.2.2.2.2⟩
  ·go_simp
   refine hK.out _ _ (HS.out _ HST1.out) (fun hHeld => ?_)
   clear hK K
   try simp only [Act.put, List.setIfInBounds_toArray, List.set_cons_zero, List.set_cons_succ]
   refine wpAnyH_ready (rs := [0]) (by kernel_rfl) (by simp) ?_
   refine AllReadyH.cons rfl (fun K hK => ?_) AllReadyH.nil
   go_simp
   refine hK.out _ _ (HS.out _ HST1.out) (fun hHeld => ?_)
   clear hK K
   try simp only [Act.put, List.setIfInBounds_toArray, List.set_cons_zero, List.set_cons_succ]
   refine wpAnyH_take (i := 2) (v := ?_) rfl (by kernel_rfl) (by kernel_rfl) (by kernel_rfl) (fun _ _ _ h => h) (Or.inl ⟨by kernel_rfl, ?_⟩) (by assumption) ?_
   rotate_left
   ·(intro w hSw; (try dsimp only at hSw); go_simp)
    with_reducible rfl
   try simp only [Act.put, List.setIfInBounds_toArray]
   refine wpAnyH_ready (rs := [4]) (by kernel_rfl) (by simp) ?_
   refine AllReadyH.cons rfl (fun K hK => ?_) AllReadyH.nil
   refine step_append_lies _ rfl _ _ 24 rfl w.heap.size 28 i0 _ 8 88 Tryz.underlying24 hi0 hz0 hz1 hz2 rfl (by decide) _ _ _ rfl HOWN.out _ 1 1 [.int .u8 0, .slice none 0 0, .slice none 0 0, .int .i64 0, .bool false, .int .i64 0, .bool false, .bool false] rfl rfl (World.news_of_block HNB.out) (by intro u hu; simp at hu; rcases hu with rfl | rfl | rfl | rfl | rfl | rfl | rfl | rfl <;> rfl) (by decide) (by have := HLEN.out; simp only [maxLen]; omega) (by have := HLEN.out; omega) HBASE.out _ rfl ?_
   intro g cp W5 hown5 hgrow5 hat5 hlt5
   have hn := HNEXT.out g cp W5 hown5 hgrow5 hat5
   have HN := Lib.hid hn
   clear hn hown5 hgrow5 hat5 hlt5
   refine hK.out _ _ (HS.out _ HN.out.1) (fun hHeld => ?_)
   clear hK K
   try simp only [Act.put]
   refine wpAnyH_take (i := 5) (v := ?_) rfl (by kernel_rfl) (by kernel_rfl) (by kernel_rfl) (fun _ _ _ h => h) (Or.inl ⟨by kernel_rfl, ?_⟩) (by assumption) ?_
   rotate_left
   ·(intro w hSw; (try dsimp only at hSw); go_simp)
    with_reducible rfl
   try simp only [Act.put]
   refine wpAnyH_ready (rs := [6, 7]) (by kernel_rfl) (by simp) ?_
   refine AllReadyH.cons rfl (fun K hK => ?_) (AllReadyH.cons rfl (fun K hK => ?_) AllReadyH.nil)
   ·skip
    have e0 := (HN.out.2.1 0 (by decide)).1
    have f0 := (HN.out.2.1 0 (by decide)).2
    have e1 := (HN.out.2.1 1 (by decide)).1
    have f1 := (HN.out.2.1 1 (by decide)).2
    have e2 := (HN.out.2.1 2 (by decide)).1
    have f2 := (HN.out.2.1 2 (by decide)).2
    have e3 := (HN.out.2.1 3 (by decide)).1
    have f3 := (HN.out.2.1 3 (by decide)).2
    have e4 := (HN.out.2.1 4 (by decide)).1
    have f4 := (HN.out.2.1 4 (by decide)).2
    have e5 := (HN.out.2.1 5 (by decide)).1
    have f5 := (HN.out.2.1 5 (by decide)).2
    have e6 := (HN.out.2.1 6 (by decide)).1
    have f6 := (HN.out.2.1 6 (by decide)).2
    have e7 := (HN.out.2.1 7 (by decide)).1
    have f7 := (HN.out.2.1 7 (by decide)).2
    simp only [Nat.add_zero, List.getElem?_cons_zero, List.getElem?_cons_succ] at e0 e1 e2 e3 e4 e5 e6 e7 f0
    go_simp
    refine hK.out _ _ (HS.out _ HN.out.2.2.2.1) (fun hHeld => ?_)
    clear hK K
    try simp only [Act.put, List.setIfInBounds_toArray, List.set_cons_zero, List.set_cons_succ]
    clear e0 e1 e2 e3 e4 e5 e6 e7 f0 f1 f2 f3 f4 f5 f6 f7
    refine wpAnyH_ready (rs := [7]) (by kernel_rfl) (by simp) ?_
    refine AllReadyH.cons rfl (fun K hK => ?_) AllReadyH.nil
    rw [HN.out.2.2.1]
    have hB6 := HN.out.2.2.2.2.1
    have b0 := Lib.cell_of_heap hB6 0
    have fb := Lib.frozen_of_heap hB6 0
    simp only [List.getElem?_toArray, List.getElem?_cons_zero] at b0
    clear hB6
    go_simp
    refine hK.out _ _ (HS.out _ HN.out.2.2.2.2.2.1) (fun hHeld => ?_)
    clear hK K
    try simp only [Act.put, List.setIfInBounds_toArray, List.set_cons_zero, List.set_cons_succ]
    refine wpAnyH_done (by kernel_rfl) ?_ _
    exact ⟨rfl, HN.out.2.2.2.2.2.2.2⟩
   ·skip
    obtain ⟨m1, m2, m3, m4⟩ := HN.out.2.2.2.2.2.2.1
    have b0 := Lib.cell_of_heap m1 0
    have fb := Lib.frozen_of_heap m1 0
    simp only [List.getElem?_toArray, List.getElem?_cons_zero] at b0
    have HM := Lib.hid (And.intro m2 (And.intro m3 m4))
    clear m1 m2 m3 m4
    go_simp
    refine hK.out _ _ (HS.out _ HM.out.1) (fun hHeld => ?_)
    clear hK K
    try simp only [Act.put, List.setIfInBounds_toArray, List.set_cons_zero, List.set_cons_succ]
    clear b0 fb
    refine wpAnyH_ready (rs := [6]) (by kernel_rfl) (by simp) ?_
    refine AllReadyH.cons rfl (fun K hK => ?_) AllReadyH.nil
    have e0 := (HM.out.2.1 0 (by decide)).1
    have f0 := (HM.out.2.1 0 (by decide)).2
    have e1 := (HM.out.2.1 1 (by decide)).1
    have f1 := (HM.out.2.1 1 (by decide)).2
    have e2 := (HM.out.2.1 2 (by decide)).1
    have f2 := (HM.out.2.1 2 (by decide)).2
    have e3 := (HM.out.2.1 3 (by decide)).1
    have f3 := (HM.out.2.1 3 (by decide)).2
    have e4 := (HM.out.2.1 4 (by decide)).1
    have f4 := (HM.out.2.1 4 (by decide)).2
    have e5 := (HM.out.2.1 5 (by decide)).1
    have f5 := (HM.out.2.1 5 (by decide)).2
    have e6 := (HM.out.2.1 6 (by decide)).1
    have f6 := (HM.out.2.1 6 (by decide)).2
    have e7 := (HM.out.2.1 7 (by decide)).1
    have f7 := (HM.out.2.1 7 (by decide)).2
    simp only [Nat.add_zero, List.getElem?_cons_zero, List.getElem?_cons_succ] at e0 e1 e2 e3 e4 e5 e6 e7 f0
    go_simp
    try rw [HM.out.2.2]
    refine hK.out _ _ (HS.out _ HN.out.2.2.2.2.2.1) (fun hHeld => ?_)
    clear hK K
    try simp only [Act.put, List.setIfInBounds_toArray, List.set_cons_zero, List.set_cons_succ]
    clear e0 e1 e2 e3 e4 e5 e6 e7 f0 f1 f2 f3 f4 f5 f6 f7
    refine wpAnyH_done (by kernel_rfl) ?_ _
    exact ⟨rfl, HN.out.2.2.2.2.2.2.2⟩
end Go.Proofs.YtpgdplmndnopbaaGreatDoor

/- slices.Collect, norm.parts and slices.Backward walked. -/
namespace Go.Proofs.YtpgdplmndnopbaaGreatDoor
open Go.RowKit Go.Shelf
attribute [local go_sem] Oper.semAt_some
set_option maxRecDepth 100000 in
set_option maxHeartbeats 2000000 in
theorem collect116 (k : Int) (hk : k = 2 ∨ k = 3 ∨ k = 4) (kb xb : Nat) (y : YX) (v : List Value) (lo hi : Nat) (w : World) (hO : OY w y lo hi (.agg v.toArray)) (hhi : hi ≤ w.heap.size) (hv8 : v.length = 8) (hkb : w.heap[kb]? = some (.cells #[.int .u8 k] 5 (0, 0))) (hxb : w.heap[xb]? = some (.cells v.toArray 28 (0, 0)))
 (hN : (Nm.parts k y).length ≤ 1000) :
 Calls Tryz.prog 116 #[.func (.func 157) #[] #[.pointer (some ⟨kb, 0, none⟩), .pointer (some ⟨xb, 0, none⟩)]] w fun e w' => (∃ sv vs, e = .returned sv ∧ Ch (OY w') (Nm.parts k y) vs lo hi ∧ w'.ownsRow w.heap.size 28 8 sv vs.length vs.flatten) ∧ Below w.heap.size w w' := by
 have HA := Lib.hid (appendSeq156 k hk kb xb y v lo hi w hO hhi hv8 hkb hxb hN)
 clear hO hhi hv8 hkb hxb hN hk
 go_enter Tryz.func116, Tryz.ntmps116
 go_wp2_with fail
 refine HA.out.mono ?_
 rintro e w1 ⟨⟨sv, vs, rfl, hc, ho⟩, hb⟩
 have HC := Lib.hid hc
 have HO := Lib.hid ho
 have HB := Lib.hid hb
 clear hc ho hb
 go_wp2_with fail
 all_goals go_ret
 all_goals exact ⟨⟨_, _, rfl, HC.out, HO.out⟩, HB.out⟩
set_option maxRecDepth 100000 in
theorem parts117_any (k b : Int) (a1 : Option Addr) (n1 c1 : Nat) (a2 : Option Addr) (n2 c2 : Nat) (lo hi : Int) (ls hs op : Bool) (w : World) :
 Calls Tryz.prog 117 #[.agg #[.int .u8 k, .slice a1 n1 c1, .slice a2 n2 c2, .int .i64 lo, .bool ls, .int .i64 hi, .bool hs, .bool op], .int .u8 b] w fun e w' => e = .returned (.func (.func 157) #[] #[.pointer (some ⟨w.heap.size + 1, 0, none⟩), .pointer (some ⟨w.heap.size, 0, none⟩)]) ∧
  w' = (w.alloc (.cells #[.int .u8 k, .slice a1 n1 c1, .slice a2 n2 c2, .int .i64 lo, .bool ls, .int .i64 hi, .bool hs, .bool op] 28)).alloc (.cells #[.int .u8 b] 5) := by
 have hmf : ∀ (fn : Fn) (first cap : Array Value) (w : World), (Instr.makeFunc fn first cap).run Tryz.prog w = .ok (.func fn first cap) w := fun _ _ _ _ => rfl
 go_enter Tryz.func117, Tryz.ntmps117
 go_wp2_with fail
 all_goals go_ret
 all_goals exact ⟨rfl, rfl⟩
set_option maxRecDepth 100000 in
theorem backward118_any (a : Option Addr) (n c : Nat) (w : World) :
 Calls Tryz.prog 118 #[.slice a n c] w fun e w' => e = .returned (.func (.func 159) #[] #[.pointer (some ⟨w.heap.size, 0, none⟩)]) ∧ w' = w.alloc (.cells #[.slice a n c] 24) := by
 have hmf : ∀ (fn : Fn) (first cap : Array Value) (w : World), (Instr.makeFunc fn first cap).run Tryz.prog w = .ok (.func fn first cap) w := fun _ _ _ _ => rfl
 go_enter Tryz.func118, Tryz.ntmps118
 go_wp2_with fail
 all_goals go_ret
 all_goals exact ⟨rfl, rfl⟩
set_option maxRecDepth 100000 in
set_option maxHeartbeats 8000000 in
theorem back159 {l Bb L n cap : Nat} {vs : Nat → List Value} (hn : n ≤ 1000) (J : Nat → World → Prop) (hsh : ∀ j, j < n → ∃ k b1 n1 d1 b2 n2 d2 lo ls hi hs op, vs j = [.int .u8 k, .slice b1 n1 d1, .slice b2 n2 d2, .int .i64 lo, .bool ls, .int .i64 hi, .bool hs, .bool op])
 (hrd : ∀ j W, J j W → W.cell? ⟨Bb, 0, none⟩ = some (.slice (some ⟨L, 0, none⟩) n cap) ∧ L < W.heap.size ∧ ∀ i, i < n → ∀ x, x < 8 → W.cell? ⟨L, i * 8 + x, none⟩ = (vs i)[x]?)
 (hY : ∀ (m j : Nat) (W : World), j < n → J (j + 1) W → YieldAt Fence.wide m Tryz.prog l #[.int .i64 j, .agg (vs j).toArray] W fun e W' => e = .returned (.bool true) ∧ J j W') (m : Nat) (W : World) (h0 : J n W) :
 CallsIn Fence.wide m Tryz.prog 159 #[.func (.yield l) #[] #[], .pointer (some ⟨Bb, 0, none⟩)] W fun e W' => (∃ v, e = .returned v) ∧ J 0 W' := by
 have HRD := Lib.hid hrd
 have HY := Lib.hid hY
 have HSH := Lib.hid hsh
 have hb := (hrd n W h0).1
 have hw0 : IntKind.i64.wrap ((n : Int) - 1) = (n : Int) - 1 := IntWalk.i64_in _ (by omega)
 clear hrd hY hsh
 refine callsIn_of_wp Tryz.func159 rfl trivial ?_ rfl
 simp only [Tryz.ntmps159, List.size_toArray, List.length_cons, List.length_nil, Nat.reduceAdd, Nat.reduceSub, Array.replicate_succ, Array.replicate_zero, List.push_toArray, List.append_toArray, List.nil_append, List.cons_append]
 gi_wp2
 clear hb
 gi_loopw [3] (fun t wr => ∃ j : Nat, j ≤ n ∧ t = .int .i64 ((j : Int) - 1) ∧ J j wr) (fun t _ => (intOf t + 1).toNat)
 case atStart => exact ⟨n, Nat.le_refl _, by first | rfl | (rw [hw0]) | simp [hw0], h0⟩
 case round =>
  clear h0
  obtain ⟨j, hj, rfl, hJ⟩ := hrel
  cases j with
  | zero =>
   gi_wp2
   go_end0
   exact ⟨⟨_, rfl⟩, hJ⟩
  | succ j =>
   obtain ⟨fn, tmps, assign, body, hy, hR⟩ := HY.out (m - 1) j wr (by omega) hJ
   obtain ⟨k, b1, n1, d1, b2, n2, d2, lo, ls, hi, hs, op, hv⟩ := HSH.out j (by omega)
   obtain ⟨g0, hL, hcs⟩ := HRD.out _ wr hJ
   have hc := hcs j (by omega)
   rw [hv] at hc hy
   have c0 := hc 0 (by decide)
   have c1 := hc 1 (by decide)
   have c2 := hc 2 (by decide)
   have c3 := hc 3 (by decide)
   have c4 := hc 4 (by decide)
   have c5 := hc 5 (by decide)
   have c6 := hc 6 (by decide)
   have c7 := hc 7 (by decide)
   simp only [Nat.add_zero, List.getElem?_cons_zero, List.getElem?_cons_succ] at c0 c1 c2 c3 c4 c5 c6 c7
   have HR := Lib.hid hR
   have hjn : (j : Int) < (n : Int) := by omega
   have hj0 : (0 : Int) ≤ (j : Int) := by omega
   have hw1 : IntKind.i64.wrap ((j : Int) - 1) = (j : Int) - 1 := IntWalk.i64_in _ (by omega)
   have hje : (((j + 1 : Nat) : Int) - 1) = (j : Int) := by omega
   rw [hje]
   clear hR hcs hc
   gi_wp2
   refine ⟨fun h => absurd h (by decide), HR.out.mono ?_⟩
   rintro e W3 ⟨rfl, hJ3⟩
   have HJ3 := Lib.hid hJ3
   clear hJ3 g0 hL c0 c1 c2 c3 c4 c5 c6 c7
   gi_wp2
   go_roundw
   case rel => exact ⟨j, by omega, rfl, HJ3.out⟩
   case measure => simp [intOf]
end Go.Proofs.YtpgdplmndnopbaaGreatDoor

/- The loop over slices.Backward, whose body may write; a round of a chain's normal form, in memory. -/
namespace Go.Proofs.YtpgdplmndnopbaaGreatDoor
open Go.RowKit Go.Shelf
theorem range_back {m : Nat} {g : Operand} {ps : Array Tmp} {assign body : Code} {Q : Exit → Act → World → Prop} {a : Act} {w : World} {Bb L n cap : Nat} {vs : Nat → List Value} (hg : a.eval g = .func (.func 159) #[] #[.pointer (some ⟨Bb, 0, none⟩)]) (hps : ps.size = 2) (hn : n ≤ 1000)
 (hsh : ∀ j, j < n → ∃ k b1 n1 d1 b2 n2 d2 lo ls hi hs op, vs j = [.int .u8 k, .slice b1 n1 d1, .slice b2 n2 d2, .int .i64 lo, .bool ls, .int .i64 hi, .bool hs, .bool op])
 (I : Nat → World → Prop) (hI : ∀ j W W', I j W → w.heap.size ≤ W.heap.size → W.heap.size ≤ W'.heap.size → W'.os = W.os → W'.tape = W.tape → W'.output = W.output → (∀ b, b < W.heap.size → b ≠ w.heap.size → b ≠ w.heap.size + 1 → W'.heap[b]? = W.heap[b]?) → I j W')
 (hrd : ∀ j W, I j W → W.cell? ⟨Bb, 0, none⟩ = some (.slice (some ⟨L, 0, none⟩) n cap) ∧ L < W.heap.size ∧ ∀ i, i < n → ∀ x, x < 8 → W.cell? ⟨L, i * 8 + x, none⟩ = (vs i)[x]?) (h0 : I n w)
 (hround : ∀ (m j : Nat) (wr : World), j < n → I (j + 1) wr → w.heap.size + 2 ≤ wr.heap.size → assign.wpIn (Fence.wide.inRound (w.heap.size + 1)) m Tryz.prog (Exit.then (fun a' W2 => (∃ o, W2 = wr.alloc o) ∧ ∀ o', I (j + 1) (W2.putObj (w.heap.size + 1) (.loop o')) → body.wpIn (Fence.wide.inRound (w.heap.size + 1)) m Tryz.prog
  (fun e _ W4 => e = .normal ∧ I j W4 ∧ SameFrom w.heap.size (W2.putObj (w.heap.size + 1) (.loop o')) W4) a' (W2.putObj (w.heap.size + 1) (.loop o'))) (fun _ _ _ => False))
  { tmps := (ps.zip #[.int .i64 j, .agg (vs j).toArray]).foldl (fun t (p, x) => t.setIfInBounds p x) a.tmps, defers := [] } wr)
 (hdone : ∀ (W : World), I 0 W → w.heap.size < W.heap.size → W.heap[w.heap.size]? = some (.deferred (some [])) → Q .normal { a with defers := { target := .collected w.heap.size, args := #[] } :: a.defers } W) :
 (Code.rangeFunc g ps assign body).wpIn Fence.wide m Tryz.prog Q a w := by
 refine wpIn_rangeFunc fun fn hfn => ?_
 obtain ⟨rec, hrec⟩ : ∃ rec : LoopState → Loop, rec = fun st => { state := st, pending := none, fn, tmps := a.tmps, params := ps, assign, body, defers := w.heap.size } := ⟨_, rfl⟩
 obtain ⟨W1, hW1⟩ : ∃ W1, (w.alloc (.deferred (some []))).alloc (.loop (rec .ready)) = W1 := ⟨_, rfl⟩
 have hz1 : W1.heap.size = w.heap.size + 2 := by rw [← hW1]; simp
 have hL1 : W1.heap[w.heap.size + 1]? = some (.loop (rec .ready)) := by
  rw [← hW1]; simpa using World.alloc_heap_new (w.alloc (.deferred (some []))) (.loop (rec .ready))
 have hK1 : W1.heap[w.heap.size]? = some (.deferred (some [])) := by
  rw [← hW1, Below.heap_alloc _ _ _ (by simp)]; exact World.alloc_heap_new w _
 have hb1 : Below w.heap.size w W1 := by
  rw [← hW1]; exact ((Below.refl _ w).alloc (Nat.le_refl _) _).alloc (by simp) _
 have hI1 : I n W1 := hI n w W1 h0 (Nat.le_refl _) hb1.size hb1.os hb1.tape hb1.output fun b h _ _ => hb1.block b h
 refine ⟨w.heap.size + 1, [{ target := .collected w.heap.size, args := #[] }], W1, { target := .fn (.func 159) #[.pointer (some ⟨Bb, 0, none⟩)], args := #[.func (.yield (w.heap.size + 1)) #[] #[]] }, W1, 159,
  #[.func (.yield (w.heap.size + 1)) #[] #[]] ++ #[.pointer (some ⟨Bb, 0, none⟩)], W1, ?_, ?_, ?_, ?_, fun h => absurd h (by decide), ?_⟩
 ·rw [← hW1, hrec]; exact run_enterLoop_outer _ _ _ _ _
 ·simp only [resolve, hg]
  simp [go_sem]
 ·intro f' _; trivial
 ·simp [invoke, go_sem]
 ·have key := back159 (l := w.heap.size + 1) hn (fun j W => I j W ∧ W.heap[w.heap.size + 1]? = some (.loop (rec .ready)) ∧ W.heap[w.heap.size]? = some (.deferred (some []))) hsh (fun j W h => hrd j W h.1) ?_ (m - 1) W1 ⟨hI1, hL1, hK1⟩
  ·refine key.mono ?_
   rintro e W2 ⟨⟨u, rfl⟩, hi, hl, hd⟩
   have := run_endLoop (P := Tryz.prog) hl (by rw [hrec]; simp)
   have hpend : (rec .ready).pending = none := by rw [hrec]
   rw [hpend] at this
   have hlt := (Array.getElem?_eq_some_iff.1 hl).1
   refine ⟨none, _, this, hdone _ (hI 0 W2 _ hi (by omega) (by simp) rfl rfl rfl fun b _ _ h2 => World.putObj_heap_other h2) (by simp; omega) ((World.putObj_heap_other (by omega)).trans hd)⟩
  ·rintro m' j W hj ⟨hi, hl, hd⟩
   have hlt := (Array.getElem?_eq_some_iff.1 hl).1
   have hy := run_yield (P := Tryz.prog) (args := #[.int .i64 j, .agg (vs j).toArray]) hl (by rw [hrec]; simpa using hps.symm)
   rw [hrec] at hy
   refine ⟨fn, _, assign, body, hy, roundIn_of_wpIn hfn (wpIn_mono (hround m' j W hj hi (by omega)) ?_)⟩
   rintro e a' W2 hp
   cases e with
   | normal =>
    obtain ⟨⟨o, rfl⟩, hbody⟩ := hp
    have hl2 : (W.alloc o).heap[w.heap.size + 1]? = some (.loop (rec .ready)) := hp_in hl
    have hd2 : (W.alloc o).heap[w.heap.size]? = some (.deferred (some [])) := hp_in hd
    have hi2 : ∀ o', I (j + 1) ((W.alloc o).putObj (w.heap.size + 1) (.loop o')) := fun o' => hI _ W _ hi (by omega) (by simp) rfl rfl rfl fun b h1 _ h3 => (World.putObj_heap_other h3).trans (Lib.alloc_old _ _ _ h1)
    refine ⟨_, run_beginRound hl2 (by rw [hrec]), wpIn_mono (hbody _ (hi2 _)) ?_⟩
    rintro e a4 W4 ⟨rfl, hi4, hs4⟩
    have hl4 : W4.heap[w.heap.size + 1]? = some (.loop { rec .ready with state := .busy }) := (hs4.2 _ (by omega) (by simp; omega)).trans (World.putObj_heap_same (by simp; omega))
    have hd4 : W4.heap[w.heap.size]? = some (.deferred (some [])) := (hs4.2 _ (Nat.le_refl _) (by simp; omega)).trans ((World.putObj_heap_other (by omega)).trans hd2)
    have hsz4 : W.heap.size + 1 ≤ W4.heap.size := by simpa using hs4.1
    refine ⟨_, _, run_endRound none hl4, rfl, hI j W4 _ hi4 (by omega) (by simp) rfl rfl rfl (fun b _ _ h2 => World.putObj_heap_other h2), ?_, (World.putObj_heap_other (by omega)).trans hd4⟩
    rw [World.putObj_heap_same (by omega), hrec]
    rfl
   | ret => exact hp.elim
   | exit id => exact hp.elim
   | goto t => exact hp.elim
   | panic ch => exact hp.elim
   | outgrown => exact hp.elim
end Go.Proofs.YtpgdplmndnopbaaGreatDoor
