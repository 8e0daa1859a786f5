/- tight.of, sides, clock walked. (Printed by gen_atl.py.) -/
import Derived.Deep.Cut
import Derived.Deep.RegionHeld3
import Derived.Test.YtockinpjfhhkoaaGreatDoorMiK
import Derived.LoopTactic
import Derived.Lib.MinMax
namespace Go.Proofs.YtockinpjfhhkoaaGreatDoor
open Go.RowKit

set_option maxRecDepth 100000 in
theorem of211_any (c : Int) (s : Bool) (w : World) : Calls Tryz.prog 211 #[.int .i64 c, .bool s] w fun e w' => e = .returned (.int .i64 (madeR c s).1) ∧ Below w.heap.size w w' := by
  cases s with
  | true =>
    have HM := Lib.hid (less232_any c w)
    go_enter Tryz.func211, Tryz.ntmps211
    go_wp2_with fail
    refine HM.out.mono ?_
    rintro e w1 ⟨rfl, hb1⟩
    go_wp2_with fail
    all_goals go_ret
    all_goals exact ⟨rfl, hb1⟩
  | false =>
    have HM := Lib.hid (most233_any c w)
    go_enter Tryz.func211, Tryz.ntmps211
    go_wp2_with fail
    refine HM.out.mono ?_
    rintro e w1 ⟨rfl, hb1⟩
    go_wp2_with fail
    all_goals go_ret
    all_goals exact ⟨rfl, hb1⟩
set_option maxRecDepth 100000 in
theorem clock157_any {n i : Nat} (b : Value) (w : World) (h : i < n) : Calls Tryz.prog 157 #[.agg #[.int .i64 n, b], .int .i64 i] w fun e w' => e = .returned (.bool true) ∧ Below w.heap.size w w' := by
  have d1 : decide ((i : Int) < (n : Int)) = true := by simpa using h
  have d2 : (i : Int) < (n : Int) := by omega
  go_enter Tryz.func157, Tryz.ntmps157
  go_wp2_with fail
  all_goals go_ret
  all_goals exact ⟨rfl, belowA _ _⟩
/-- A span's bounds, of what is not too far. -/
def lowB (s : Spn) : Int := (madeR (-s.low) s.ls).1
def highB (s : Spn) : Int := if s.op then noneB else (madeR s.high s.hs).1
def spanB (s : Spn) : Bool := if s.op then s.high == 0 && !s.hs else decide (s.low ≤ s.high)
def nearS (s : Spn) : Prop := -288230376151711744 ≤ s.low ∧ s.low ≤ 288230376151711744 ∧ s.high ≤ 288230376151711744 ∧ -9223372036854775808 ≤ s.high
set_option maxRecDepth 100000 in
set_option maxHeartbeats 8000000 in
theorem sides158_any (s : Spn) (w : World) (hn : nearS s) : Calls Tryz.prog 158 #[s.val] w fun e w' => e = .returned (.tuple #[.int .i64 (lowB s), .int .i64 (highB s), .bool (spanB s)]) ∧ Below w.heap.size w w' := by
  obtain ⟨lo, ls, hi, hs, op⟩ := s
  obtain ⟨h1, h2, h3, h4⟩ := hn
  dsimp only at h1 h2 h3 h4
  have d1 : decide (lo < -288230376151711744) = false := by simp; omega
  have d2 : decide (288230376151711744 < lo) = false := by simp; omega
  have d3 : decide (288230376151711744 < hi) = false := by simp; omega
  obtain ⟨W1, hW1⟩ : ∃ W1, W1 = w.alloc (.cells #[.int .i64 lo, .bool ls, .int .i64 hi, .bool hs, .bool op] 45) := ⟨_, rfl⟩
  have hb1 : Below w.heap.size w W1 := by rw [hW1]; exact belowA _ _
  have hz1 : W1.heap.size = w.heap.size + 1 := by rw [hW1]; simp
  have hx1 : W1.heap[w.heap.size]? = some (.cells #[.int .i64 lo, .bool ls, .int .i64 hi, .bool hs, .bool op] 45 (0, 0)) := by rw [hW1]; exact hp_topA rfl
  have HX : Hid (∀ W, Below W1.heap.size W1 W → W.cell? ⟨w.heap.size, 0, none⟩ = some (.int .i64 lo) ∧ W.cell? ⟨w.heap.size, 1, none⟩ = some (.bool ls) ∧ W.cell? ⟨w.heap.size, 2, none⟩ = some (.int .i64 hi) ∧ W.cell? ⟨w.heap.size, 3, none⟩ = some (.bool hs) ∧ W.cell? ⟨w.heap.size, 4, none⟩ = some (.bool op) ∧ w.heap.size < W.heap.size) := by
    intro W hW
    have h1 : W.heap[w.heap.size]? = _ := (hW.block _ (by omega)).trans hx1
    exact ⟨Lib.cell_of_heap h1 0, Lib.cell_of_heap h1 1, Lib.cell_of_heap h1 2, Lib.cell_of_heap h1 3, Lib.cell_of_heap h1 4, (Array.getElem?_eq_some_iff.1 h1).1⟩
  have HB1 := Lib.hid hb1
  have HW1 := Lib.hid hW1.symm
  obtain ⟨x0, x1, x2, x3, x4, xl⟩ := HX.out W1 (Below.refl _ _)
  have hw : wrap64 (-lo) = -lo := IntWalk.wrap64_in _ ⟨by omega, by omega⟩
  have HL : Hid (lowB ⟨lo, ls, hi, hs, op⟩ = (madeR (-lo) ls).1) := rfl
  rw [HL.out]
  obtain ⟨b, hb⟩ : ∃ b, (madeR (-lo) ls).1 = b := ⟨_, rfl⟩
  have HO1 := Lib.hid (of211_any (-lo) ls W1)
  rw [hb] at HO1 ⊢
  clear hb1 hz1 hx1 hW1 hb h1 h2 h3 h4
  unfold Spn.val
  cases op with
  | true =>
    have HH : Hid (highB ⟨lo, ls, hi, hs, true⟩ = 9223372036854775807) := rfl
    have HS : Hid (spanB ⟨lo, ls, hi, hs, true⟩ = (hi == 0 && !hs)) := rfl
    rw [HH.out, HS.out]
    cases hs with
    | true =>
      go_enter Tryz.func158, Tryz.ntmps158
      go_wp2_with fail
      rw [HW1.out]
      refine HO1.out.mono ?_
      rintro e w2 ⟨rfl, hb2⟩
      have HB2 := Lib.hid (HB1.out.trans (hb2.mono HB1.out.size))
      obtain ⟨y0, y1, y2, y3, y4, yl⟩ := HX.out w2 hb2
      clear hb2 x0 x1 x2 x3 x4 xl
      go_wp2_with fail
      all_goals go_ret3
      all_goals exact ⟨by simp_all, HB2.out⟩
    | false =>
      go_enter Tryz.func158, Tryz.ntmps158
      go_wp2_with fail
      rw [HW1.out]
      refine HO1.out.mono ?_
      rintro e w2 ⟨rfl, hb2⟩
      have HB2 := Lib.hid (HB1.out.trans (hb2.mono HB1.out.size))
      obtain ⟨y0, y1, y2, y3, y4, yl⟩ := HX.out w2 hb2
      clear hb2 x0 x1 x2 x3 x4 xl
      go_wp2_with fail
      all_goals go_ret3
      all_goals exact ⟨by simp_all, HB2.out⟩
  | false =>
    have HH : Hid (highB ⟨lo, ls, hi, hs, false⟩ = (madeR hi hs).1) := rfl
    have HS : Hid (spanB ⟨lo, ls, hi, hs, false⟩ = decide (lo ≤ hi)) := rfl
    rw [HH.out, HS.out]
    obtain ⟨d, hd⟩ : ∃ d, (madeR hi hs).1 = d := ⟨_, rfl⟩
    have HO2 := fun W => Lib.hid (of211_any hi hs W)
    rw [hd] at HO2 ⊢
    clear hd
    go_enter Tryz.func158, Tryz.ntmps158
    go_upto_region 6 with (first | fail)
    rw [HW1.out]
    refine HO1.out.mono ?_
    rintro e w2 ⟨rfl, hb2⟩
    have HB2 := Lib.hid (HB1.out.trans (hb2.mono HB1.out.size))
    have HBW := Lib.hid hb2
    obtain ⟨y0, y1, y2, y3, y4, yl⟩ := HX.out w2 hb2
    clear hb2 x0 x1 x2 x3 x4 xl
    go_upto_region 6 with fail
    refine wp_region_held_drew (S := fun W => W.cell? ⟨w.heap.size, 0, none⟩ = some (.int .i64 lo) ∧ W.cell? ⟨w.heap.size, 1, none⟩ = some (.bool ls) ∧ W.cell? ⟨w.heap.size, 2, none⟩ = some (.int .i64 hi) ∧ W.cell? ⟨w.heap.size, 3, none⟩ = some (.bool hs) ∧ W.cell? ⟨w.heap.size, 4, none⟩ = some (.bool false) ∧ w.heap.size < W.heap.size) (by kernel_rfl) (HX.out w2.drew HBW.out.drew) (fun hHeld => ?_)
    refine wpAnyH_take (i := 0) (v := ?_) rfl (by kernel_rfl) (by kernel_rfl) (by kernel_rfl) (fun _ _ _ h => h) (Or.inl ⟨by kernel_rfl, ?_⟩) (by assumption) ?_
    rotate_left
    · (intro w hSw; (try dsimp only at hSw); go_simp)
      try with_reducible rfl
    try simp only [Act.put, List.setIfInBounds_toArray, List.set_cons_zero, List.set_cons_succ, List.getElem_toArray, List.getElem_cons_zero]
    refine wpAnyH_take (i := 1) (v := ?_) rfl (by kernel_rfl) (by kernel_rfl) (by kernel_rfl) (fun _ _ _ h => h) (Or.inl ⟨by kernel_rfl, ?_⟩) (by assumption) ?_
    rotate_left
    · (intro w hSw; (try dsimp only at hSw); go_simp)
      try with_reducible rfl
    try simp only [Act.put, List.setIfInBounds_toArray, List.set_cons_zero, List.set_cons_succ, List.getElem_toArray, List.getElem_cons_zero, List.getElem_cons_succ]
    refine wpAnyH_take (i := 2) (v := ?_) rfl (by kernel_rfl) (by kernel_rfl) (by kernel_rfl) (fun _ _ _ h => h) (Or.inl ⟨by kernel_rfl, ?_⟩) (by assumption) ?_
    rotate_left
    · (intro w hSw; (try dsimp only at hSw); go_simp)
      try with_reducible rfl
    try simp only [Act.put, List.setIfInBounds_toArray, List.set_cons_zero, List.set_cons_succ, List.getElem_toArray, List.getElem_cons_zero, List.getElem_cons_succ]
    refine wpAnyH_take (i := 3) (v := ?_) rfl (by kernel_rfl) (by kernel_rfl) (by kernel_rfl) (fun _ _ _ h => h) (Or.inl ⟨by kernel_rfl, ?_⟩) (by assumption) ?_
    rotate_left
    · (intro w hSw; (try dsimp only at hSw); go_simp)
      try with_reducible rfl
    try simp only [Act.put, List.setIfInBounds_toArray, List.set_cons_zero, List.set_cons_succ, List.getElem_toArray, List.getElem_cons_zero, List.getElem_cons_succ]
    refine wpAnyH_take (i := 5) (v := ?_) rfl (by kernel_rfl) (by kernel_rfl) (by kernel_rfl) (fun _ _ _ h => h) (Or.inl ⟨by kernel_rfl, ?_⟩) (by assumption) ?_
    rotate_left
    · (intro w hSw; (try dsimp only at hSw); go_simp)
      try with_reducible rfl
    try simp only [Act.put, List.setIfInBounds_toArray, List.set_cons_zero, List.set_cons_succ, List.getElem_toArray, List.getElem_cons_zero, List.getElem_cons_succ]
    refine wpAnyH_take (i := 6) (v := ?_) rfl (by kernel_rfl) (by kernel_rfl) (by kernel_rfl) (fun _ _ _ h => h) (Or.inl ⟨by kernel_rfl, ?_⟩) (by assumption) ?_
    rotate_left
    · (intro w hSw; (try dsimp only at hSw); go_simp)
      try with_reducible rfl
    try simp only [Act.put, List.setIfInBounds_toArray, List.set_cons_zero, List.set_cons_succ, List.getElem_toArray, List.getElem_cons_zero, List.getElem_cons_succ]
    refine wpAnyH_take (i := 7) (v := ?_) rfl (by kernel_rfl) (by kernel_rfl) (by kernel_rfl) (fun _ _ _ h => h) (Or.inl ⟨by kernel_rfl, ?_⟩) (by assumption) ?_
    rotate_left
    · (intro w hSw; (try dsimp only at hSw); go_simp)
      try with_reducible rfl
    try simp only [Act.put, List.setIfInBounds_toArray, List.set_cons_zero, List.set_cons_succ, List.getElem_toArray, List.getElem_cons_zero, List.getElem_cons_succ]
    refine wpAnyH_take (i := 8) (v := ?_) rfl (by kernel_rfl) (by kernel_rfl) (by kernel_rfl) (fun _ _ _ h => h) (Or.inl ⟨by kernel_rfl, ?_⟩) (by assumption) ?_
    rotate_left
    · (intro w hSw; (try dsimp only at hSw); go_simp)
      try with_reducible rfl
    try simp only [Act.put, List.setIfInBounds_toArray, List.set_cons_zero, List.set_cons_succ, List.getElem_toArray, List.getElem_cons_zero, List.getElem_cons_succ]
    refine wpAnyH_take (i := 9) (v := ?_) rfl (by kernel_rfl) (by kernel_rfl) (by kernel_rfl) (fun _ _ _ h => h) (Or.inl ⟨by kernel_rfl, ?_⟩) (by assumption) ?_
    rotate_left
    · (intro w hSw; (try dsimp only at hSw); go_simp)
      try with_reducible rfl
    try simp only [Act.put, List.setIfInBounds_toArray, List.set_cons_zero, List.set_cons_succ, List.getElem_toArray, List.getElem_cons_zero, List.getElem_cons_succ]
    refine wpAnyH_ready (rs := [4]) (by kernel_rfl) (by simp) ?_
    refine AllReadyH.cons rfl (fun K hK => ?_) AllReadyH.nil
    go_simp
    go_at_call 211
    refine (HO2 _).out.mono ?_
    rintro e w3 ⟨rfl, hb3⟩
    have HB3 : Hid (Below W1.heap.size W1 w3) := HBW.out.trans (Below.mono (Below.trans (b := w2.drew) (Below.refl _ w2).drew hb3) HBW.out.size)
    clear hb3
    try dsimp only
    refine hK.out _ _ (HX.out w3 HB3.out) (fun hHeld => ?_)
    clear hK K
    try simp only [Act.put, List.setIfInBounds_toArray, List.set_cons_zero, List.set_cons_succ, List.getElem_toArray, List.getElem_cons_zero, List.getElem_cons_succ]
    refine wpAnyH_take (i := 10) (v := ?_) rfl (by kernel_rfl) (by kernel_rfl) (by kernel_rfl) (fun _ _ _ h => h) (Or.inl ⟨by kernel_rfl, ?_⟩) (by assumption) ?_
    rotate_left
    · (intro w hSw; (try dsimp only at hSw); go_simp)
      try with_reducible rfl
    try simp only [Act.put, List.setIfInBounds_toArray, List.set_cons_zero, List.set_cons_succ, List.getElem_toArray, List.getElem_cons_zero, List.getElem_cons_succ]
    refine wpAnyH_take (i := 11) (v := ?_) rfl (by kernel_rfl) (by kernel_rfl) (by kernel_rfl) (fun _ _ _ h => h) (Or.inl ⟨by kernel_rfl, ?_⟩) (by assumption) ?_
    rotate_left
    · (intro w hSw; (try dsimp only at hSw); go_simp)
      try with_reducible rfl
    try simp only [Act.put, List.setIfInBounds_toArray, List.set_cons_zero, List.set_cons_succ, List.getElem_toArray, List.getElem_cons_zero, List.getElem_cons_succ]
    refine wpAnyH_done (by kernel_rfl) ?_ _
    go_wp2_with fail
    all_goals go_ret3
    all_goals exact ⟨rfl, HB1.out.trans (HB3.out.mono HB1.out.size)⟩
end Go.Proofs.YtockinpjfhhkoaaGreatDoor

/- tight.with, Between walked. (Printed by gen_atm.py.) -/
namespace Go.Proofs.YtockinpjfhhkoaaGreatDoor
open Go.RowKit

/-- Bounds at places, in block b, one behind the other. -/
def MoreR (w : World) (b : Nat) (l : List (Nat × Int)) : Prop := b < w.heap.size ∧ ∀ k (h : k < l.length), w.cell? ⟨b, k * 2, none⟩ = some (.int .i64 (l[k]).1) ∧ w.cell? ⟨b, k * 2 + 1, none⟩ = some (.int .i64 (l[k]).2)
theorem MoreR.below {w w' : World} {b : Nat} {l : List (Nat × Int)} (h : MoreR w b l) (hb : Below w.heap.size w w') : MoreR w' b l :=
  ⟨Nat.lt_of_lt_of_le h.1 hb.size, fun k hk => ⟨(hb.cell (p := ⟨b, _, none⟩) h.1).trans (h.2 k hk).1, (hb.cell (p := ⟨b, _, none⟩) h.1).trans (h.2 k hk).2⟩⟩

set_option maxRecDepth 100000 in
set_option maxHeartbeats 16000000 in
theorem with159_any {n g c b cm : Nat} {L : List Int} {l : List (Nat × Int)} {w : World} (h : RowB w g L) (hm : MoreR w b l) (hl : L.length = n * n) (h1 : 1 ≤ n) (hn : n ≤ 4) (hll : l.length ≤ 100) (hp : ∀ q ∈ l, q.1 < n * n) (hbd : badD (withD L l) = false) :
    Calls Tryz.prog 159 #[.agg #[.int .i64 n, .slice (some ⟨g, 0, none⟩) L.length c], .slice (some ⟨b, 0, none⟩) l.length cm] w fun e w' => CloseOut n (closeD n (withD L l)) w.heap.size e w' ∧ Below w.heap.size w w' := by
  have hnn : n * n ≤ 16 := Nat.mul_le_mul hn hn
  have hpos : 0 < L.length := by rw [hl]; exact Nat.mul_pos h1 h1
  have hl100 : L.length ≤ 100 := by omega
  obtain ⟨W2, hW2⟩ : ∃ W2, W2 = (w.alloc (.cells #[.int .i64 n, .slice (some ⟨g, 0, none⟩) L.length c] 116)).alloc (.cells #[.int .i64 0, .slice none 0 0] 116) := ⟨_, rfl⟩
  have hb2 : Below w.heap.size w W2 := by rw [hW2]; exact (belowA _ _).alloc (by simp) _
  have hz2 : W2.heap.size = w.heap.size + 2 := by rw [hW2]; simp
  have hx2 : W2.heap[w.heap.size]? = some (.cells #[.int .i64 n, .slice (some ⟨g, 0, none⟩) L.length c] 116 (0, 0)) := by
    rw [hW2]; exact (Below.heap_alloc _ _ _ (by simp)).trans (hp_topA rfl)
  have hr2 : W2.heap[w.heap.size + 1]? = some (.cells #[.int .i64 0, .slice none 0 0] 116 (0, 0)) := by
    rw [hW2]; exact hp_topA (by simp)
  have HTW := Lib.hid (twin122_any (n := n) (c := c) (h.below hb2) hpos hl100)
  have HW2 := Lib.hid hW2.symm
  have HB2 := Lib.hid hb2
  have HZ2 := Lib.hid hz2
  have HX2 := Lib.hid hx2
  have HR2 := Lib.hid hr2
  have HL := Lib.hid hl
  have HPP := Lib.hid hp
  have HM := Lib.hid hm
  have HNN := Lib.hid hnn
  have HBD := Lib.hid hbd
  have HH1 := Lib.hid (And.intro h1 hn)
  have hbl := hm.1
  clear h hb2 hz2 hx2 hr2 hW2 hl hpos hl100 hnn hbd hp hm h1 hn
  go_enter Tryz.func159, Tryz.ntmps159
  go_wp2_with fail
  rw [HW2.out]
  clear HW2
  refine HTW.out.mono ?_
  rintro e w4 ⟨⟨g', c', rfl, hg', hrow⟩, hb4⟩
  have hx4 := (hb4.block w.heap.size (by have := HZ2.out; omega)).trans HX2.out
  have x0 := Lib.cell_of_heap hx4 0
  have x1 := Lib.cell_of_heap hx4 1
  simp only [List.getElem?_toArray, List.getElem?_cons_zero, List.getElem?_cons_succ] at x0 x1
  have f0 := Lib.frozen_of_heap hx4 0
  have f1 := Lib.frozen_of_heap hx4 1
  have xl := (Array.getElem?_eq_some_iff.1 hx4).1
  obtain ⟨W5, hW5⟩ : ∃ W5, W5 = set2 w4 w.heap.size (.int .i64 n) (.slice (some ⟨g', 0, none⟩) L.length c') := ⟨_, rfl⟩
  have HG : Hid (w.heap.size + 2 ≤ g') := by rw [Hid]; have := HZ2.out; omega
  have HX5 : Hid (W5.heap[w.heap.size]? = some (.cells #[.int .i64 n, .slice (some ⟨g', 0, none⟩) L.length c'] 116 (0, 0))) := by rw [Hid, hW5]; exact set2_at hx4 _ _
  have HR5 : Hid (W5.heap[w.heap.size + 1]? = some (.cells #[.int .i64 0, .slice none 0 0] 116 (0, 0))) := by
    rw [Hid, hW5]; exact (set2_other _ _ _ _ _ (by omega)).trans ((hb4.block _ (by have := HZ2.out; omega)).trans HR2.out)
  have HB5 : Hid (Below w.heap.size w W5) := by rw [Hid, hW5]; exact set2_below (HB2.out.trans (hb4.mono HB2.out.size)) (Nat.le_refl _) _ _
  have HRW5 : Hid (RowB W5 g' L) := by rw [Hid, hW5]; exact hrow.agree (set2_other _ _ _ _ _ (by have := HG.out; omega))
  have HM5 : Hid (MoreR W5 b l) := HM.out.below HB5.out
  have HW5 : Hid ((w4.setCell ⟨w.heap.size, 0, none⟩ (.int .i64 n)).setCell ⟨w.heap.size, 1, none⟩ (.slice (some ⟨g', 0, none⟩) L.length c') = W5) := hW5.symm
  clear hg' hrow hb4 hx4 hW5
  go_wp2_with fail
  rw [HW5.out]
  clear HW5 x0 x1 f0 f1 xl
  go_loopw [12] (fun i wr => ∃ k : Nat, k ≤ l.length ∧ i = .int .i64 k ∧ Hid (RowB wr g' (withD L (l.take k)) ∧ Bt g' W5 wr)) (fun i _ => l.length - (intOf i).toNat)
  case atStart => exact ⟨0, Nat.zero_le _, rfl, HRW5.out, Bt.refl _ _⟩
  case round =>
    obtain ⟨k, hk, rfl, HST⟩ := hrel
    have hgb : g' ≠ b := by have := HG.out; omega
    have hxr := HST.out.2.at HX5.out (by have := HG.out; omega)
    have x0 := Lib.cell_of_heap hxr 0
    have x1 := Lib.cell_of_heap hxr 1
    simp only [List.getElem?_toArray, List.getElem?_cons_zero, List.getElem?_cons_succ] at x0 x1
    have xl := (Array.getElem?_eq_some_iff.1 hxr).1
    have hlen : (withD L (l.take k)).length = L.length := withD_len _ _
    by_cases hlt : k < l.length
    · obtain ⟨m1, m2⟩ := HM5.out.2 k hlt
      obtain ⟨p, x, hpx⟩ : ∃ p x, l[k] = (p, x) := ⟨_, _, rfl⟩
      have hpn : p < L.length := by have := HPP.out _ (List.getElem_mem hlt); rw [hpx] at this; rw [HL.out]; exact this
      rw [hpx] at m1 m2
      dsimp only at m1 m2
      have hbb : wr.heap[b]? = W5.heap[b]? := HST.out.2.2.2.2.2 b (by have := HM5.out.1; omega) (Ne.symm hgb)
      have c1 : wr.cell? ⟨b, k * 2, none⟩ = some (.int .i64 p) := (World.cell?_of_block (a := ⟨b, k * 2, none⟩) hbb).trans m1
      have c2 : wr.cell? ⟨b, k * 2 + 1, none⟩ = some (.int .i64 x) := (World.cell?_of_block (a := ⟨b, k * 2 + 1, none⟩) hbb).trans m2
      have hbw : b < wr.heap.size := Nat.lt_of_lt_of_le HM5.out.1 HST.out.2.2.2.2.1
      have hlti : (k : Int) < (l.length : Int) := by omega
      have HT : Hid (withD L (l.take (k + 1)) = (withD L (l.take k)).set p (min ((withD L (l.take k)).getD p 0) x)) := by
        rw [Hid, List.take_succ_eq_append_getElem hlt, hpx, withD_snoc]
      obtain ⟨y, hy⟩ : ∃ y, (withD L (l.take k)).getD p 0 = y := ⟨_, rfl⟩
      rw [hy] at HT
      obtain ⟨W6, hW6⟩ : ∃ W6, W6 = wr.alloc (.cells #[.int .i64 p, .int .i64 x] 223) := ⟨_, rfl⟩
      have hrow6 : RowB W6 g' (withD L (l.take k)) := by rw [hW6]; exact HST.out.1.alloc _
      have hn6 : W6.heap[wr.heap.size]? = some (.cells #[.int .i64 p, .int .i64 x] 223 (0, 0)) := by rw [hW6]; exact hp_topA rfl
      have hx6 : W6.heap[w.heap.size]? = some (.cells #[.int .i64 n, .slice (some ⟨g', 0, none⟩) L.length c'] 116 (0, 0)) := by rw [hW6]; exact (Below.heap_alloc _ _ _ xl).trans hxr
      have hpl : p < (withD L (l.take k)).length := by rw [hlen]; exact hpn
      have HS : Hid (∀ W : World, W.heap = W6.heap → W.cell? ⟨w.heap.size, 1, none⟩ = some (.slice (some ⟨g', 0, none⟩) L.length c') ∧ W.cell? ⟨wr.heap.size, 0, none⟩ = some (.int .i64 p) ∧ W.cell? ⟨wr.heap.size, 1, none⟩ = some (.int .i64 x) ∧ w.heap.size < W.heap.size ∧ wr.heap.size < W.heap.size ∧ g' < W.heap.size) := by
        intro W hW
        have e1 : W.heap[w.heap.size]? = some (.cells #[.int .i64 n, .slice (some ⟨g', 0, none⟩) L.length c'] 116 (0, 0)) := by rw [hW]; exact hx6
        have e2 : W.heap[wr.heap.size]? = some (.cells #[.int .i64 p, .int .i64 x] 223 (0, 0)) := by rw [hW]; exact hn6
        have e3 : RowB W g' (withD L (l.take k)) := hrow6.agree (by rw [hW])
        exact ⟨Lib.cell_of_heap e1 1, Lib.cell_of_heap e2 0, Lib.cell_of_heap e2 1, (Array.getElem?_eq_some_iff.1 e1).1, (Array.getElem?_eq_some_iff.1 e2).1, e3.lt⟩
      have hS0 := HS.out W6.drew rfl
      have HS0 := Lib.hid hS0
      have hfz : W6.drew.frozen? ⟨g', p, none⟩ = false := hrow6.frozen p
      have hcg : W6.drew.cell? ⟨g', p, none⟩ = some (.int .i64 y) := by rw [← hy]; exact hrow6.cellD p hpl
      have hpi : (p : Int) < (L.length : Int) := by omega
      have hp0 : (0 : Int) ≤ (p : Int) := by omega
      have hpN : p < L.length := hpn
      have hg6 : g' < W6.drew.heap.size := hS0.2.2.2.2.2
      have HBT6 : Hid (Bt g' W5 W6) := by rw [Hid, hW6]; exact HST.out.2.alloc _
      have HRO6 : Hid (RowB W6 g' (withD L (l.take k))) := hrow6
      have HW6 := Lib.hid hW6.symm
      have HPL := Lib.hid hpl
      have HGW : Hid (g' ≠ wr.heap.size) := by rw [Hid]; have := HST.out.1.lt; omega
      clear m1 m2 hpx hbb hy hW6 hrow6 hn6 hx6 hpl hxr hlen hpn hS0
      go_upto_region 5 with fail
      rw [HW6.out]
      refine wp_region_held_drew (S := fun W => W.cell? ⟨w.heap.size, 1, none⟩ = some (.slice (some ⟨g', 0, none⟩) L.length c') ∧ W.cell? ⟨wr.heap.size, 0, none⟩ = some (.int .i64 p) ∧ W.cell? ⟨wr.heap.size, 1, none⟩ = some (.int .i64 x) ∧ w.heap.size < W.heap.size ∧ wr.heap.size < W.heap.size ∧ g' < W.heap.size) (by kernel_rfl) HS0.out (fun hHeld => ?_)
      refine wpAnyH_take (i := 0) (v := ?_) rfl (by kernel_rfl) (by kernel_rfl) (by kernel_rfl) (fun _ _ _ h => h) (Or.inl ⟨by kernel_rfl, ?_⟩) (by assumption) ?_
      rotate_left
      · (intro w hSw; (try dsimp only at hSw); go_simp)
        try with_reducible rfl
      try simp only [Act.put, List.setIfInBounds_toArray, List.set_cons_zero, List.set_cons_succ, List.getElem_toArray, List.getElem_cons_zero]
      refine wpAnyH_take (i := 1) (v := ?_) rfl (by kernel_rfl) (by kernel_rfl) (by kernel_rfl) (fun _ _ _ h => h) (Or.inl ⟨by kernel_rfl, ?_⟩) (by assumption) ?_
      rotate_left
      · (intro w hSw; (try dsimp only at hSw); go_simp)
        try with_reducible rfl
      try simp only [Act.put, List.setIfInBounds_toArray, List.set_cons_zero, List.set_cons_succ, List.getElem_toArray, List.getElem_cons_zero, List.getElem_cons_succ]
      refine wpAnyH_take (i := 2) (v := ?_) rfl (by kernel_rfl) (by kernel_rfl) (by kernel_rfl) (fun _ _ _ h => h) (Or.inl ⟨by kernel_rfl, ?_⟩) (by assumption) ?_
      rotate_left
      · (intro w hSw; (try dsimp only at hSw); go_simp)
        try with_reducible rfl
      try simp only [Act.put, List.setIfInBounds_toArray, List.set_cons_zero, List.set_cons_succ, List.getElem_toArray, List.getElem_cons_zero, List.getElem_cons_succ]
      refine wpAnyH_take (i := 3) (v := ?_) rfl (by kernel_rfl) (by kernel_rfl) (by kernel_rfl) (fun _ _ _ h => h) (Or.inl ⟨by kernel_rfl, ?_⟩) (by assumption) ?_
      rotate_left
      · (intro w hSw; (try dsimp only at hSw); go_simp)
        try with_reducible rfl
      try simp only [Act.put, List.setIfInBounds_toArray, List.set_cons_zero, List.set_cons_succ, List.getElem_toArray, List.getElem_cons_zero, List.getElem_cons_succ]
      refine wpAnyH_take (i := 4) (v := ?_) rfl (by kernel_rfl) (by kernel_rfl) (by kernel_rfl) (fun _ _ _ h => h) (Or.inl ⟨by kernel_rfl, ?_⟩) (by assumption) ?_
      rotate_left
      · (intro w hSw; (try dsimp only at hSw); go_simp)
        try with_reducible rfl
      try simp only [Act.put, List.setIfInBounds_toArray, List.set_cons_zero, List.set_cons_succ, List.getElem_toArray, List.getElem_cons_zero, List.getElem_cons_succ]
      refine wpAnyH_take (i := 5) (v := ?_) rfl (by kernel_rfl) (by kernel_rfl) (by kernel_rfl) (fun _ _ _ h => h) (Or.inl ⟨by kernel_rfl, ?_⟩) (by assumption) ?_
      rotate_left
      · (intro w hSw; (try dsimp only at hSw); go_simp)
        try with_reducible rfl
      try simp only [Act.put, List.setIfInBounds_toArray, List.set_cons_zero, List.set_cons_succ, List.getElem_toArray, List.getElem_cons_zero, List.getElem_cons_succ]
      refine wpAnyH_take (i := 6) (v := ?_) rfl (by kernel_rfl) (by kernel_rfl) (by kernel_rfl) (fun _ _ _ h => h) (Or.inl ⟨by kernel_rfl, ?_⟩) (by assumption) ?_
      rotate_left
      · (intro w hSw; (try dsimp only at hSw); go_simp)
        try with_reducible rfl
      try simp only [Act.put, List.setIfInBounds_toArray, List.set_cons_zero, List.set_cons_succ, List.getElem_toArray, List.getElem_cons_zero, List.getElem_cons_succ]
      refine wpAnyH_take (i := 7) (v := ?_) rfl (by kernel_rfl) (by kernel_rfl) (by kernel_rfl) (fun _ _ _ h => h) (Or.inl ⟨by kernel_rfl, ?_⟩) (by assumption) ?_
      rotate_left
      · (intro w hSw; (try dsimp only at hSw); go_simp)
        try with_reducible rfl
      try simp only [Act.put, List.setIfInBounds_toArray, List.set_cons_zero, List.set_cons_succ, List.getElem_toArray, List.getElem_cons_zero, List.getElem_cons_succ]
      refine wpAnyH_take (i := 8) (v := ?_) rfl (by kernel_rfl) (by kernel_rfl) (by kernel_rfl) (fun _ _ _ h => h) (Or.inl ⟨by kernel_rfl, ?_⟩) (by assumption) ?_
      rotate_left
      · (intro w hSw; (try dsimp only at hSw); go_simp)
        try with_reducible rfl
      try simp only [Act.put, List.setIfInBounds_toArray, List.set_cons_zero, List.set_cons_succ, List.getElem_toArray, List.getElem_cons_zero, List.getElem_cons_succ]
      refine wpAnyH_take (i := 10) (v := ?_) rfl (by kernel_rfl) (by kernel_rfl) (by kernel_rfl) (fun _ _ _ h => h) (Or.inl ⟨by kernel_rfl, ?_⟩) (by assumption) ?_
      rotate_left
      · (intro w hSw; (try dsimp only at hSw); go_simp)
        try with_reducible rfl
      try simp only [Act.put, List.setIfInBounds_toArray, List.set_cons_zero, List.set_cons_succ, List.getElem_toArray, List.getElem_cons_zero, List.getElem_cons_succ]
      refine wpAnyH_take (i := 11) (v := ?_) rfl (by kernel_rfl) (by kernel_rfl) (by kernel_rfl) (fun _ _ _ h => h) (Or.inl ⟨by kernel_rfl, ?_⟩) (by assumption) ?_
      rotate_left
      · (intro w hSw; (try dsimp only at hSw); go_simp)
        try with_reducible rfl
      try simp only [Act.put, List.setIfInBounds_toArray, List.set_cons_zero, List.set_cons_succ, List.getElem_toArray, List.getElem_cons_zero, List.getElem_cons_succ]
      refine wpAnyH_ready (rs := [9]) (by kernel_rfl) (by simp) ?_
      refine AllReadyH.cons rfl (fun K hK => ?_) AllReadyH.nil
      go_simp
      try dsimp only
      refine hK.out _ _ (HS0.out) (fun hHeld => ?_)
      clear hK K
      try simp only [Act.put, List.setIfInBounds_toArray, List.set_cons_zero, List.set_cons_succ, List.getElem_toArray, List.getElem_cons_zero, List.getElem_cons_succ]
      refine wpAnyH_take (i := 12) (v := ?_) rfl (by kernel_rfl) (by kernel_rfl) (by kernel_rfl) (fun _ _ _ h => h) (Or.inl ⟨by kernel_rfl, ?_⟩) (by assumption) ?_
      rotate_left
      · (intro w hSw; (try dsimp only at hSw); go_simp)
        try with_reducible rfl
      try simp only [Act.put, List.setIfInBounds_toArray, List.set_cons_zero, List.set_cons_succ, List.getElem_toArray, List.getElem_cons_zero, List.getElem_cons_succ]
      refine wpAnyH_take (i := 13) (v := ?_) rfl (by kernel_rfl) (by kernel_rfl) (by kernel_rfl) (fun _ _ _ h => h) (Or.inl ⟨by kernel_rfl, ?_⟩) (by assumption) ?_
      rotate_left
      · (intro w hSw; (try dsimp only at hSw); go_simp)
        try with_reducible rfl
      try simp only [Act.put, List.setIfInBounds_toArray, List.set_cons_zero, List.set_cons_succ, List.getElem_toArray, List.getElem_cons_zero, List.getElem_cons_succ]
      refine wpAnyH_ready (rs := [14]) (by kernel_rfl) (by simp) ?_
      refine AllReadyH.cons rfl (fun K hK => ?_) AllReadyH.nil
      go_simp
      obtain ⟨W7, hW7⟩ : ∃ W7, W7 = (W6.setCell ⟨g', p, none⟩ (.int .i64 (min y x))).drew := ⟨_, rfl⟩
      have HST7 : Hid (RowB W7 g' (withD L (l.take (k + 1))) ∧ Bt g' W5 W7) := by
        rw [Hid, hW7, HT.out]
        exact ⟨(HRO6.out.set p HPL.out _).agree rfl, (HBT6.out.set _ _).drew⟩
      have HS7 : Hid (W7.cell? ⟨w.heap.size, 1, none⟩ = some (.slice (some ⟨g', 0, none⟩) L.length c') ∧ W7.cell? ⟨wr.heap.size, 0, none⟩ = some (.int .i64 p) ∧ W7.cell? ⟨wr.heap.size, 1, none⟩ = some (.int .i64 x) ∧ w.heap.size < W7.heap.size ∧ wr.heap.size < W7.heap.size ∧ g' < W7.heap.size) := by
        rw [Hid, hW7]
        obtain ⟨a1, a2, a3, a4, a5, a6⟩ := HS0.out
        exact ⟨(World.cell?_of_block (a := ⟨w.heap.size, 1, none⟩) (setCell_other' W6 _ _ _ _ (by have := HG.out; show w.heap.size ≠ g'; omega))).trans a1, (World.cell?_of_block (a := ⟨wr.heap.size, 0, none⟩) (setCell_other' W6 _ _ _ _ (Ne.symm HGW.out))).trans a2, (World.cell?_of_block (a := ⟨wr.heap.size, 1, none⟩) (setCell_other' W6 _ _ _ _ (Ne.symm HGW.out))).trans a3, by simpa using a4, by simpa using a5, by simpa using a6⟩
      have HW7 : Hid ((W6.setCell ⟨g', p, none⟩ (.int .i64 (min y x))).drew = W7) := hW7.symm
      rw [HW7.out]
      clear hW7 HW7
      refine hK.out _ _ HS7.out (fun hHeld => ?_)
      clear hK K
      try simp only [Act.put, List.setIfInBounds_toArray, List.set_cons_zero, List.set_cons_succ]
      refine wpAnyH_done (by kernel_rfl) ?_ _
      clear hfz hcg hg6
      go_wp2_with fail
      go_roundw
      case rel => exact ⟨k + 1, by omega, by go_num, HST7⟩
      case measure => simp [intOf]; omega
    · obtain rfl : k = l.length := by omega
      have hful : l.take l.length = l := List.take_length
      have HROW : Hid (RowB wr g' (withD L l)) := by have := HST.out.1; rw [hful] at this; exact this
      have HLL : Hid ((withD L l).length = L.length) := withD_len _ _
      have HCL := Lib.hid (close62_any (c := c') HROW.out (HLL.out.trans HL.out) HH1.out.1 HH1.out.2 HBD.out)
      rw [HLL.out] at HCL
      clear hful hlen
      go_wp2_with fail
      refine HCL.out.mono ?_
      rintro e w7 ⟨hout, hb7⟩
      have HB7 : Hid (Below w.heap.size w w7) := (bt_below HB5.out HST.out.2 (by have := HG.out; omega) HB5.out.size).trans (hb7.mono (bt_below HB5.out HST.out.2 (by have := HG.out; omega) HB5.out.size).size)
      have hr7 := (hb7.block _ (by have := (Array.getElem?_eq_some_iff.1 hxr).1; have := (Array.getElem?_eq_some_iff.1 (HST.out.2.at HR5.out (by have := HG.out; omega))).1; exact this)).trans (HST.out.2.at HR5.out (by have := HG.out; omega))
      have r0 := Lib.cell_of_heap hr7 0
      have r1 := Lib.cell_of_heap hr7 1
      simp only [List.getElem?_toArray, List.getElem?_cons_zero, List.getElem?_cons_succ] at r0 r1
      have f0 := Lib.frozen_of_heap hr7 0
      have f1 := Lib.frozen_of_heap hr7 1
      have rl := (Array.getElem?_eq_some_iff.1 hr7).1
      have HR7 := Lib.hid hr7
      have HZW : Hid (w.heap.size + 2 ≤ wr.heap.size) := by rw [Hid]; have := HST.out.1.lt; have := HG.out; omega
      cases hcd : closeD n (withD L l) with
      | none =>
        rw [hcd] at hout
        have hout : e = _ := hout
        subst hout
        have HCD := Lib.hid hcd
        clear hb7 hr7 hcd
        go_wp2_with fail
        refine bodyPost_ret (results_cell_row_tmp rfl _ _ _ _ _ _ _ _ rfl rfl (set2_at HR7.out _ _) Tryz.underlying116 rfl (by kernel_rfl)) rfl ?_
        exact ⟨by rw [HCD.out]; rfl, set2_below HB7.out (by omega) _ _⟩
      | some M =>
        rw [hcd] at hout
        obtain ⟨g2, c2, rfl, hg2, hrow2⟩ := hout
        have HCD := Lib.hid hcd
        have HRW := Lib.hid hrow2
        have HG2 := Lib.hid hg2
        clear hb7 hr7 hcd hrow2 hg2
        go_wp2_with fail
        refine bodyPost_ret (results_cell_row_tmp rfl _ _ _ _ _ _ _ _ rfl rfl (set2_at HR7.out _ _) Tryz.underlying116 rfl (by kernel_rfl)) rfl ?_
        have HRX := Lib.hid (RowB.agree (w' := set2 w7 (w.heap.size + 1) (.int .i64 n) (.slice (some ⟨g2, 0, none⟩) M.length c2)) HRW.out (set2_other _ _ _ _ _ (by have := HG2.out; have := HZW.out; omega)))
        exact ⟨by rw [HCD.out]; exact ⟨_, _, rfl, by have := HG2.out; have := HZW.out; omega, HRX.out⟩, set2_below HB7.out (by omega) _ _⟩
end Go.Proofs.YtockinpjfhhkoaaGreatDoor
