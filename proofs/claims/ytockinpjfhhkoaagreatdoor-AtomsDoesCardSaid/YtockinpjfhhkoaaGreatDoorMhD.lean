/- law23's helpers walked: p, half, point, alive. (Printed by gen_atzc.py.) -/
import Derived.Deep.RegionHeld
import Derived.Deep.Cut
import Derived.Test.YtockinpjfhhkoaaGreatDoorAtZb
import Derived.Test.YtockinpjfhhkoaaGreatDoorMhE
namespace Go.Proofs.YtockinpjfhhkoaaGreatDoor
open Go.RowKit

set_option maxRecDepth 100000 in
set_option maxHeartbeats 4000000 in
theorem greatF12_any (n : Nat) (t : FT n) (v : Value) (w : World) (h : FRep w w.heap.size n t v) :
    Calls Tryz.prog 12 #[v] w fun e w' => e = .returned (.bool (decide (2000 < sizeF n t 2000))) ∧ Below w.heap.size w w' := by
  obtain ⟨k, s, a, l, c, rfl⟩ := h.shape
  have hb : Below w.heap.size w (w.alloc (.cells #[.int .u8 k, .string s, .slice a l c] 25)) := (Below.refl _ _).alloc (Nat.le_refl _) _
  have HC := Lib.hid (size49_any n t _ 2000 _ (h.up hb hb.size))
  have HB := Lib.hid hb
  clear h hb
  go_enter Tryz.func12, Tryz.ntmps12
  go_wp2_with fail
  refine HC.out.mono ?_
  rintro e w1 ⟨rfl, hb1⟩
  have HB1 := Lib.hid (HB.out.trans (hb1.mono HB.out.size))
  clear hb1
  go_wp2_with fail
  all_goals go_ret
  all_goals exact ⟨rfl, HB1.out⟩
set_option maxRecDepth 100000 in
theorem p23_any (w : World) : Calls Tryz.prog 23 #[] w fun e w' => e = .returned (.agg #[.int .u8 3, .string ⟨#[112]⟩, .slice none 0 0]) ∧ Below w.heap.size w w' := by
  go_enter Tryz.func23, Tryz.ntmps23
  go_wp2_with fail
  refine bodyPost_ret (results_cell_row rfl _ _ _ _ _ _ _ rfl (hp_topA rfl) Tryz.underlying25 rfl (by kernel_rfl)) rfl ?_
  exact ⟨rfl, belowA _ _⟩
/-- A point in halves that may be. -/
def HalfOk (t : Int) : Prop := 0 ≤ t ∧ t ≤ 1125899906842624
theorem half_in {t : Int} (h : HalfOk t) : in64 (halfN t) ∧ mayQ (halfN t) (halfD t) = true := by
  obtain ⟨h1, h2⟩ := h
  unfold halfN halfD in64 mayQ
  by_cases h0 : t % 2 = 0
  · rw [if_pos h0, if_pos h0]
    refine ⟨⟨by omega, by omega⟩, ?_⟩
    simp only [Int.ediv_one, Bool.and_eq_true, decide_eq_true_eq, Bool.or_eq_true]
    refine ⟨⟨⟨⟨by omega, by omega⟩, by omega⟩, .inl (by omega)⟩, ?_⟩
    simp
  · rw [if_neg h0, if_neg h0]
    refine ⟨⟨by omega, by omega⟩, ?_⟩
    simp only [Bool.and_eq_true, decide_eq_true_eq, Bool.or_eq_true]
    refine ⟨⟨⟨⟨by omega, by omega⟩, by omega⟩, .inl (by omega)⟩, ?_⟩
    rw [beq_iff_eq]
    show Nat.gcd t.natAbs 2 = 1
    rw [Nat.gcd_comm, Nat.gcd_rec]
    have : t.natAbs % 2 = 1 := by omega
    rw [this]
    rfl
set_option maxRecDepth 100000 in
set_option maxHeartbeats 4000000 in
theorem half61_any (t : Int) (w : World) (h : HalfOk t) : Calls Tryz.prog 61 #[.int .i64 t] w fun e w' => e = .returned (.agg #[.int .i64 (halfN t), .int .i64 (halfD t)]) ∧ Below w.heap.size w w' := by
  obtain ⟨h1, h2⟩ := h
  have hm : t.tmod 2 = t % 2 := Int.tmod_eq_emod_of_nonneg h1
  have hd : t.tdiv 2 = t / 2 := Int.tdiv_eq_ediv_of_nonneg h1
  have hw1 : IntKind.i64.wrap (t % 2) = t % 2 := IntWalk.i64_in _ (by omega)
  have hw2 : IntKind.i64.wrap (t / 2) = t / 2 := IntWalk.i64_in _ (by omega)
  have hw1' : wrap64 (t % 2) = t % 2 := IntWalk.wrap64_in _ (by omega)
  have hw2' : wrap64 (t / 2) = t / 2 := IntWalk.wrap64_in _ (by omega)
  by_cases h0 : t % 2 = 0
  · have HN : Hid (halfN t = t / 2 ∧ halfD t = 1) := ⟨if_pos h0, if_pos h0⟩
    clear h1 h2
    go_enter Tryz.func61, Tryz.ntmps61
    go_wp2_with fail
    refine bodyPost_ret (results_cell_row rfl _ _ _ _ _ _ _ rfl (hp_topA rfl) Tryz.underlying50 rfl (by kernel_rfl)) rfl ?_
    exact ⟨by rw [HN.out.1, HN.out.2], belowA _ _⟩
  · have HN : Hid (halfN t = t ∧ halfD t = 2) := ⟨if_neg h0, if_neg h0⟩
    clear h1 h2
    go_enter Tryz.func61, Tryz.ntmps61
    go_wp2_with fail
    refine bodyPost_ret (results_cell_row rfl _ _ _ _ _ _ _ rfl (hp_topA rfl) Tryz.underlying50 rfl (by kernel_rfl)) rfl ?_
    exact ⟨by rw [HN.out.1, HN.out.2], belowA _ _⟩
def set4 (w : World) (b : Nat) (x0 x1 x2 x3 : Value) : World := (((w.setCell ⟨b, 0, none⟩ x0).setCell ⟨b, 1, none⟩ x1).setCell ⟨b, 2, none⟩ x2).setCell ⟨b, 3, none⟩ x3
theorem set4_at {w : World} {b : Nat} {u0 u1 u2 u3 : Value} {t : TypeId} (h : w.heap[b]? = some (.cells #[u0, u1, u2, u3] t (0, 0))) (x0 x1 x2 x3 : Value) : (set4 w b x0 x1 x2 x3).heap[b]? = some (.cells #[x0, x1, x2, x3] t (0, 0)) := by
  simp [set4, World.setCell, Array.getElem?_modify, h]
theorem set4_below {B : Nat} {w w' : World} (h : Below B w w') {b : Nat} (hb : B ≤ b) (x0 x1 x2 x3 : Value) : Below B w (set4 w' b x0 x1 x2 x3) :=
  (((h.setCell (p := ⟨b, 0, none⟩) hb x0).setCell (p := ⟨b, 1, none⟩) hb x1).setCell (p := ⟨b, 2, none⟩) hb x2).setCell (p := ⟨b, 3, none⟩) hb x3
/-- A pair in halves. -/
def pairV (t u : Int) : Value := .agg #[.int .i64 (halfN t), .int .i64 (halfD t), .int .i64 (halfN u), .int .i64 (halfD u)]
set_option maxRecDepth 100000 in
set_option maxHeartbeats 4000000 in
theorem point26_any (t u : Int) (w : World) (h : HalfOk t) (h' : HalfOk u) : Calls Tryz.prog 26 #[.int .i64 t, .int .i64 u] w fun e w' => e = .returned (pairV t u) ∧ Below w.heap.size w w' := by
  have H1 := fun W => Lib.hid (half61_any t W h)
  have H2 := fun W => Lib.hid (half61_any u W h')
  clear h h'
  have hb1 : Below w.heap.size w (w.alloc (.cells #[.int .i64 0, .int .i64 0, .int .i64 0, .int .i64 0] 52)) := belowA _ _
  have hx1 : (w.alloc (.cells #[.int .i64 0, .int .i64 0, .int .i64 0, .int .i64 0] 52)).heap[w.heap.size]? = some (.cells #[.int .i64 0, .int .i64 0, .int .i64 0, .int .i64 0] 52 (0, 0)) := hp_topA rfl
  have HB1 := Lib.hid hb1
  have HX1 := Lib.hid hx1
  clear hb1 hx1
  unfold pairV
  go_enter Tryz.func26, Tryz.ntmps26
  go_wp2_with fail
  refine (H1 _).out.mono ?_
  rintro e w2 ⟨rfl, hb2⟩
  have HX2 : Hid (w2.heap[w.heap.size]? = some (.cells #[.int .i64 0, .int .i64 0, .int .i64 0, .int .i64 0] 52 (0, 0))) := (hb2.block _ (by simp)).trans HX1.out
  have HB2 : Hid (Below w.heap.size w w2) := HB1.out.trans (hb2.mono (by simp))
  clear hb2
  go_wp2_with fail
  refine (H2 _).out.mono ?_
  rintro e w3 ⟨rfl, hb3⟩
  have hx3 := (hb3.block _ (Array.getElem?_eq_some_iff.1 HX2.out).1).trans HX2.out
  have HB3 : Hid (Below w.heap.size w w3) := HB2.out.trans (hb3.mono HB2.out.size)
  have r0 := Lib.cell_of_heap hx3 0
  have r1 := Lib.cell_of_heap hx3 1
  have r2 := Lib.cell_of_heap hx3 2
  have r3 := Lib.cell_of_heap hx3 3
  simp only [List.getElem?_toArray, List.getElem?_cons_zero, List.getElem?_cons_succ] at r0 r1 r2 r3
  have f0 := Lib.frozen_of_heap hx3 0
  have f1 := Lib.frozen_of_heap hx3 1
  have f2 := Lib.frozen_of_heap hx3 2
  have f3 := Lib.frozen_of_heap hx3 3
  have rl := (Array.getElem?_eq_some_iff.1 hx3).1
  have HX3 := Lib.hid hx3
  clear hb3 hx3
  go_wp2_with fail
  refine bodyPost_ret (results_cell_row rfl _ _ _ _ _ _ _ rfl (set4_at HX3.out _ _ _ _) Tryz.underlying52 rfl (by kernel_rfl)) rfl ?_
  exact ⟨rfl, set4_below HB3.out (Nat.le_refl _) _ _ _ _⟩
/-- An atom's zone: which pairs in halves it has. -/
def hasZ (f a e t u : Int) : Bool := decide (2 * f ≤ t) && decide (t < u) && decide (2 * a < u) && decide (u ≤ 2 * e)
theorem hasZone_any {f a e t u : Int} (w : World) (hf : 0 ≤ f) (ha : f ≤ a) (he : a < e) (hm : e ≤ 288230376151711744) (ht : HalfOk t) (hu : HalfOk u) :
    Calls Tryz.prog 25 #[.agg (zonD (atomM f a e)), pairV t u] w fun e' w' => e' = .returned (.tuple #[.bool (hasZ f a e t u), .int .i64 0]) ∧ Below w.heap.size w w' := by
  have h1 := atom_bad hf ha he hm
  have h2 := atom_closed hf ha he hm
  have h := has25_any (z0 := 2 * e) (z1 := 2 * (-f) + 1) (z2 := 2 * e + 1) (z3 := 2 * (-a)) (z4 := 2 * (e - f) + 1) (z5 := 0) w h1 h2 (half_in ht).1 (half_in ht).2 (half_in hu).1 (half_in hu).2
  have h3 := atom_has (t := t) (u := u) hf ha he hm
  rw [show matD (2 * e) (2 * -f + 1) (2 * e + 1) (2 * -a) (2 * (e - f) + 1) 0 = [1, 2 * (-f) + 1, 2 * (-a), 2 * e, 1, 0, 2 * e + 1, 2 * (e - f) + 1, 1] from rfl, h3] at h
  exact h
theorem checkZone_any {f a e : Int} (w : World) (hf : 0 ≤ f) (ha : f ≤ a) (he : a < e) (hm : e ≤ 288230376151711744) :
    Calls Tryz.prog 27 #[.agg (zonD (atomM f a e))] w fun e' w' => e' = .returned (.int .i64 0) ∧ Below w.heap.size w w' :=
  check27_any (2 * e) (2 * (-f) + 1) (2 * e + 1) (2 * (-a)) (2 * (e - f) + 1) 0 w (atom_bad hf ha he hm) (atom_closed hf ha he hm)
end Go.Proofs.YtockinpjfhhkoaaGreatDoor

/- law23.alive walked; the law AtomsNames. (Printed by gen_atzd.py.) -/
namespace Go.Proofs.YtockinpjfhhkoaaGreatDoor
open Go.RowKit

/-- The forms of Next's answer. -/
theorem next_shape (names : List ByteArray) (n : Nat) (t : FT n) (on : Bool) (since at_ dur bits : Int) : (∃ er, er ≠ 0 ∧ nextR names n t on since at_ dur bits = ((false, 0), none, er)) ∨ nextR names n t on since at_ dur bits = ((false, 0), none, 0) ∨
    ∃ f, nextR names n t on since at_ dur bits = ((true, f), some (atomM f at_ (at_ + dur)), 0) ∧ 0 ≤ f ∧ f ≤ at_ ∧ at_ < at_ + dur ∧ at_ + dur ≤ 288230376151711744 ∧ (on = true → f = since) := by
  unfold nextR
  split
  · rename_i h; exact .inl ⟨_, h, rfl⟩
  split
  · exact .inl ⟨8, by decide, rfl⟩
  split
  · exact .inl ⟨2, by decide, rfl⟩
  split
  · exact .inl ⟨220, by decide, rfl⟩
  split
  · exact .inr (.inl rfl)
  · rename_i h1 h2 h3 h4 h5
    refine .inr (.inr ⟨_, rfl, ?_⟩)
    have h6 : mayN on since at_ = true := by
      cases hm : mayN on since at_ with
      | true => rfl
      | false => exact absurd (.inr hm) h3
    have h7 : ¬ at_ < 0 := fun h => h3 (.inl h)
    cases on with
    | true =>
      have h8 : (decide (0 ≤ since) && decide (since < at_)) = true := h6
      simp only [Bool.and_eq_true, decide_eq_true_eq] at h8
      exact ⟨h8.1, by show since ≤ at_; omega, by omega, by omega, fun _ => rfl⟩
    | false => exact ⟨by show 0 ≤ at_; omega, by show at_ ≤ at_; omega, by omega, by omega, fun h => by cases h⟩
def pOne : List ByteArray := [⟨#[112]⟩]
def pT : FT 1 := (3, ⟨#[112]⟩, [])
theorem pOne_small : ∀ s ∈ pOne, s.size ≤ 1048576 := by
  intro s hs
  simp only [pOne, List.mem_cons, List.not_mem_nil, or_false] at hs
  subst hs; decide
theorem pOne_rep {w : World} {g : Nat} {t : TypeId} {fz : Nat × Nat} (hg : w.heap[g]? = some (.cells #[.string ⟨#[112]⟩] t fz)) : NRep w w.heap.size (.slice (some ⟨g, 0, none⟩) 1 1) pOne := by
  refine ⟨_, 1, rfl, by simp [pOne], .inr ⟨g, 0, rfl, (Array.getElem?_eq_some_iff.1 hg).1, fun i hi => ?_⟩⟩
  have hi' : i < 1 := hi
  match i, hi' with
  | 0, _ => exact Lib.cell_of_heap hg 0
theorem rep_prop (w : World) (B n : Nat) (s : ByteArray) : FRep w B (n + 1) (3, s, []) (.agg #[.int .u8 3, .string s, .slice none 0 0]) := ⟨none, 0, rfl, by simp, .inl rfl⟩
theorem one_next : nextR pOne 1 pT false 0 2 3 1 = ((true, 2), some (atomM 2 2 5), 0) := by kernel_rfl
theorem none_next : nextR pOne 1 pT false 0 2 3 0 = ((false, 0), none, 0) := by kernel_rfl
set_option maxRecDepth 100000 in
set_option maxHeartbeats 8000000 in
theorem alive24_any (w : World) (hr : Rdy w) : Calls Tryz.prog 24 #[] w fun e w' => e = .returned (.bool true) ∧ Below w.heap.size w w' := by
  have hb1 : Below w.heap.size w (w.alloc (.cells #[.string ⟨#[112]⟩] 9)) := belowA _ _
  have HB1 := Lib.hid hb1
  have HG : Hid ((w.alloc (.cells #[.string ⟨#[112]⟩] 9)).heap[w.heap.size]? = some (.cells #[.string ⟨#[112]⟩] 9 (0, 0))) := hp_topA rfl
  have HR := Lib.hid (hr.below hb1)
  have HN : Hid (∀ W, Below (w.alloc (.cells #[.string ⟨#[112]⟩] 9)).heap.size (w.alloc (.cells #[.string ⟨#[112]⟩] 9)) W → Calls Tryz.prog 14 #[.slice (some ⟨w.heap.size, 0, none⟩) 1 1, .agg #[.int .u8 3, .string ⟨#[112]⟩, .slice none 0 0], .agg #[.bool false, .int .i64 0], .int .i64 2, .agg #[.int .i64 3, .int .u8 1]] W fun e w' => (∃ b, e = .returned (.tuple #[.agg #[.bool true, .int .i64 2], .slice (some ⟨b, 0, none⟩) 1 1, .int .i64 0]) ∧ w'.heap[b]? = some (.cells (zonD (atomM 2 2 5)) 69 (0, 0))) ∧ Below W.heap.size W w') := by
    intro W hW
    have := next14_any pOne _ pOne_small 1 pT _ false 0 2 3 1 W (by decide) (by decide) ⟨by decide, by decide⟩ ⟨by decide, by decide⟩ (HR.out.below hW) (pOne_rep ((hW.block _ (Array.getElem?_eq_some_iff.1 HG.out).1).trans HG.out)) (rep_prop _ _ 0 _)
    rw [one_next] at this
    refine this.mono ?_
    rintro e w' ⟨⟨zv, rfl, b, rfl, _, hb⟩, h⟩
    exact ⟨⟨b, rfl, hb⟩, h⟩
  obtain ⟨z0, z1, z2, z3, z4, z5, hzz⟩ : ∃ z0 z1 z2 z3 z4 z5, zonD (atomM 2 2 5) = #[.int .i64 z0, .int .i64 z1, .int .i64 z2, .int .i64 z3, .int .i64 z4, .int .i64 z5] := ⟨_, _, _, _, _, _, rfl⟩
  have HP1 := fun W => Lib.hid (point26_any 4 10 W ⟨by decide, by decide⟩ ⟨by decide, by decide⟩)
  have HP2 := fun W => Lib.hid (point26_any 4 4 W ⟨by decide, by decide⟩ ⟨by decide, by decide⟩)
  have HZ1 : ∀ W, Hid (Calls Tryz.prog 25 #[.agg #[.int .i64 z0, .int .i64 z1, .int .i64 z2, .int .i64 z3, .int .i64 z4, .int .i64 z5], pairV 4 10] W fun e' w' => e' = .returned (.tuple #[.bool true, .int .i64 0]) ∧ Below W.heap.size W w') := fun W => by
    have := hasZone_any (f := 2) (a := 2) (e := 5) (t := 4) (u := 10) W (by decide) (by decide) (by decide) (by decide) ⟨by decide, by decide⟩ ⟨by decide, by decide⟩
    rw [hzz] at this; exact this
  have HZ2 : ∀ W, Hid (Calls Tryz.prog 25 #[.agg #[.int .i64 z0, .int .i64 z1, .int .i64 z2, .int .i64 z3, .int .i64 z4, .int .i64 z5], pairV 4 4] W fun e' w' => e' = .returned (.tuple #[.bool false, .int .i64 0]) ∧ Below W.heap.size W w') := fun W => by
    have := hasZone_any (f := 2) (a := 2) (e := 5) (t := 4) (u := 4) W (by decide) (by decide) (by decide) (by decide) ⟨by decide, by decide⟩ ⟨by decide, by decide⟩
    rw [hzz] at this; exact this
  rw [hzz] at HN
  clear hr hb1 hzz
  go_enter Tryz.func24, Tryz.ntmps24
  go_wp2_with fail
  refine (p23_any _).mono ?_
  rintro e w1 ⟨rfl, hb1⟩
  have HBW1 : Hid (Below (w.alloc (.cells #[.string ⟨#[112]⟩] 9)).heap.size (w.alloc (.cells #[.string ⟨#[112]⟩] 9)) w1) := hb1
  clear hb1
  go_wp2_with fail
  refine (HN.out w1 HBW1.out).mono ?_
  rintro e w2 ⟨⟨b, rfl, hb⟩, hb2⟩
  have HB2 : Hid (Below w.heap.size w (w2.alloc (.cells #[.bool true, .int .i64 2] 27))) := by
    have h1 := HB1.out.trans (HBW1.out.mono HB1.out.size)
    have h2 := h1.trans (hb2.mono h1.size)
    exact h2.alloc h2.size _
  obtain ⟨W3, hW3⟩ : ∃ W3, W3 = w2.alloc (.cells #[.bool true, .int .i64 2] 27) := ⟨_, rfl⟩
  have hz3 : W3.heap[b]? = some (.cells #[.int .i64 z0, .int .i64 z1, .int .i64 z2, .int .i64 z3, .int .i64 z4, .int .i64 z5] 69 (0, 0)) := by rw [hW3]; exact (Below.heap_alloc _ _ _ (Array.getElem?_eq_some_iff.1 hb).1).trans hb
  have HS : Hid (∀ W, Below W3.heap.size W3 W → W.cell? ⟨b, 0, none⟩ = some (.int .i64 z0) ∧ W.cell? ⟨b, 1, none⟩ = some (.int .i64 z1) ∧ W.cell? ⟨b, 2, none⟩ = some (.int .i64 z2) ∧ W.cell? ⟨b, 3, none⟩ = some (.int .i64 z3) ∧ W.cell? ⟨b, 4, none⟩ = some (.int .i64 z4) ∧ W.cell? ⟨b, 5, none⟩ = some (.int .i64 z5) ∧ b < W.heap.size) := by
    intro W hW
    have k := (hW.block _ (Array.getElem?_eq_some_iff.1 hz3).1).trans hz3
    exact ⟨Lib.cell_of_heap k 0, Lib.cell_of_heap k 1, Lib.cell_of_heap k 2, Lib.cell_of_heap k 3, Lib.cell_of_heap k 4, Lib.cell_of_heap k 5, (Array.getElem?_eq_some_iff.1 k).1⟩
  rw [← hW3] at HB2
  have HW3 := Lib.hid hW3.symm
  have HBr : Hid (Below W3.heap.size W3 W3) := Below.refl _ _
  clear hb hb2 hz3 hW3
  go_upto_region 4 with fail
  rw [HW3.out]
  clear HW3
  refine wp_region_held_drew (S := fun W => W.cell? ⟨b, 0, none⟩ = some (.int .i64 z0) ∧ W.cell? ⟨b, 1, none⟩ = some (.int .i64 z1) ∧ W.cell? ⟨b, 2, none⟩ = some (.int .i64 z2) ∧ W.cell? ⟨b, 3, none⟩ = some (.int .i64 z3) ∧ W.cell? ⟨b, 4, none⟩ = some (.int .i64 z4) ∧ W.cell? ⟨b, 5, none⟩ = some (.int .i64 z5) ∧ b < W.heap.size) (by kernel_rfl) (HS.out _ HBr.out.drew) (fun hHeld => ?_)
  refine wpAnyH_take (i := 0) (v := ?_) rfl (by kernel_rfl) (by kernel_rfl) (by kernel_rfl) (fun _ _ _ h => h) (Or.inl ⟨by kernel_rfl, ?_⟩) (by assumption) ?_
  rotate_left
  · (intro w hSw; (try dsimp only at hSw); go_simp)
    try with_reducible rfl
  try simp only [Act.put, List.setIfInBounds_toArray, List.set_cons_zero, List.set_cons_succ, List.getElem_toArray, List.getElem_cons_zero]
  refine wpAnyH_take (i := 1) (v := ?_) rfl (by kernel_rfl) (by kernel_rfl) (by kernel_rfl) (fun _ _ _ h => h) (Or.inl ⟨by kernel_rfl, ?_⟩) (by assumption) ?_
  rotate_left
  · (intro w hSw; (try dsimp only at hSw); go_simp)
    try with_reducible rfl
  try simp only [Act.put, List.setIfInBounds_toArray, List.set_cons_zero, List.set_cons_succ, List.getElem_toArray, List.getElem_cons_zero, List.getElem_cons_succ]
  refine wpAnyH_take (i := 2) (v := ?_) rfl (by kernel_rfl) (by kernel_rfl) (by kernel_rfl) (fun _ _ _ h => h) (Or.inl ⟨by kernel_rfl, ?_⟩) (by assumption) ?_
  rotate_left
  · (intro w hSw; (try dsimp only at hSw); go_simp)
    try with_reducible rfl
  try simp only [Act.put, List.setIfInBounds_toArray, List.set_cons_zero, List.set_cons_succ, List.getElem_toArray, List.getElem_cons_zero, List.getElem_cons_succ]
  refine wpAnyH_ready (rs := [3]) (by kernel_rfl) (by simp) ?_
  refine AllReadyH.cons rfl (fun K hK => ?_) AllReadyH.nil
  go_simp
  go_at_call 26
  refine (HP1 _).out.mono ?_
  rintro e wp1 ⟨rfl, hbp1⟩
  have HBp1 := Lib.hid (belS HBr.out.drew hbp1)
  clear hbp1
  try dsimp only
  refine hK.out _ _ (HS.out _ HBp1.out) (fun hHeld => ?_)
  clear hK K
  try simp only [Act.put, List.setIfInBounds_toArray, List.set_cons_zero, List.set_cons_succ, List.getElem_toArray, List.getElem_cons_zero, List.getElem_cons_succ]
  refine wpAnyH_ready (rs := [4]) (by kernel_rfl) (by simp) ?_
  refine AllReadyH.cons rfl (fun K hK => ?_) AllReadyH.nil
  go_simp
  go_at_call 25
  refine (HZ1 _).out.mono ?_
  rintro e wz1 ⟨rfl, hbz1⟩
  have HBz1 := Lib.hid (belS HBp1.out hbz1)
  clear hbz1
  try dsimp only
  refine hK.out _ _ (HS.out _ HBz1.out) (fun hHeld => ?_)
  clear hK K
  try simp only [Act.put, List.setIfInBounds_toArray, List.set_cons_zero, List.set_cons_succ, List.getElem_toArray, List.getElem_cons_zero, List.getElem_cons_succ]
  refine wpAnyH_take (i := 5) (v := ?_) rfl (by kernel_rfl) (by kernel_rfl) (by kernel_rfl) (fun _ _ _ h => h) (Or.inl ⟨by kernel_rfl, ?_⟩) (by assumption) ?_
  rotate_left
  · (intro w hSw; (try dsimp only at hSw); go_simp)
    try with_reducible rfl
  try simp only [Act.put, List.setIfInBounds_toArray, List.set_cons_zero, List.set_cons_succ, List.getElem_toArray, List.getElem_cons_zero, List.getElem_cons_succ]
  refine wpAnyH_take (i := 6) (v := ?_) rfl (by kernel_rfl) (by kernel_rfl) (by kernel_rfl) (fun _ _ _ h => h) (Or.inl ⟨by kernel_rfl, ?_⟩) (by assumption) ?_
  rotate_left
  · (intro w hSw; (try dsimp only at hSw); go_simp)
    try with_reducible rfl
  try simp only [Act.put, List.setIfInBounds_toArray, List.set_cons_zero, List.set_cons_succ, List.getElem_toArray, List.getElem_cons_zero, List.getElem_cons_succ]
  refine wpAnyH_take (i := 7) (v := ?_) rfl (by kernel_rfl) (by kernel_rfl) (by kernel_rfl) (fun _ _ _ h => h) (Or.inl ⟨by kernel_rfl, ?_⟩) (by assumption) ?_
  rotate_left
  · (intro w hSw; (try dsimp only at hSw); go_simp)
    try with_reducible rfl
  try simp only [Act.put, List.setIfInBounds_toArray, List.set_cons_zero, List.set_cons_succ, List.getElem_toArray, List.getElem_cons_zero, List.getElem_cons_succ]
  refine wpAnyH_take (i := 8) (v := ?_) rfl (by kernel_rfl) (by kernel_rfl) (by kernel_rfl) (fun _ _ _ h => h) (Or.inl ⟨by kernel_rfl, ?_⟩) (by assumption) ?_
  rotate_left
  · (intro w hSw; (try dsimp only at hSw); go_simp)
    try with_reducible rfl
  try simp only [Act.put, List.setIfInBounds_toArray, List.set_cons_zero, List.set_cons_succ, List.getElem_toArray, List.getElem_cons_zero, List.getElem_cons_succ]
  refine wpAnyH_take (i := 9) (v := ?_) rfl (by kernel_rfl) (by kernel_rfl) (by kernel_rfl) (fun _ _ _ h => h) (Or.inl ⟨by kernel_rfl, ?_⟩) (by assumption) ?_
  rotate_left
  · (intro w hSw; (try dsimp only at hSw); go_simp)
    try with_reducible rfl
  try simp only [Act.put, List.setIfInBounds_toArray, List.set_cons_zero, List.set_cons_succ, List.getElem_toArray, List.getElem_cons_zero, List.getElem_cons_succ]
  refine wpAnyH_done (by kernel_rfl) ?_ _
  clear hHeld
  have HBr2 : Hid (Below W3.heap.size W3 wz1) := HBz1.out
  go_upto_region 5 with fail
  refine wp_region_held_drew (S := fun W => W.cell? ⟨b, 0, none⟩ = some (.int .i64 z0) ∧ W.cell? ⟨b, 1, none⟩ = some (.int .i64 z1) ∧ W.cell? ⟨b, 2, none⟩ = some (.int .i64 z2) ∧ W.cell? ⟨b, 3, none⟩ = some (.int .i64 z3) ∧ W.cell? ⟨b, 4, none⟩ = some (.int .i64 z4) ∧ W.cell? ⟨b, 5, none⟩ = some (.int .i64 z5) ∧ b < W.heap.size) (by kernel_rfl) (HS.out _ HBr2.out.drew) (fun hHeld => ?_)
  refine wpAnyH_take (i := 0) (v := ?_) rfl (by kernel_rfl) (by kernel_rfl) (by kernel_rfl) (fun _ _ _ h => h) (Or.inl ⟨by kernel_rfl, ?_⟩) (by assumption) ?_
  rotate_left
  · (intro w hSw; (try dsimp only at hSw); go_simp)
    try with_reducible rfl
  try simp only [Act.put, List.setIfInBounds_toArray, List.set_cons_zero, List.set_cons_succ, List.getElem_toArray, List.getElem_cons_zero]
  refine wpAnyH_take (i := 1) (v := ?_) rfl (by kernel_rfl) (by kernel_rfl) (by kernel_rfl) (fun _ _ _ h => h) (Or.inl ⟨by kernel_rfl, ?_⟩) (by assumption) ?_
  rotate_left
  · (intro w hSw; (try dsimp only at hSw); go_simp)
    try with_reducible rfl
  try simp only [Act.put, List.setIfInBounds_toArray, List.set_cons_zero, List.set_cons_succ, List.getElem_toArray, List.getElem_cons_zero, List.getElem_cons_succ]
  refine wpAnyH_take (i := 2) (v := ?_) rfl (by kernel_rfl) (by kernel_rfl) (by kernel_rfl) (fun _ _ _ h => h) (Or.inl ⟨by kernel_rfl, ?_⟩) (by assumption) ?_
  rotate_left
  · (intro w hSw; (try dsimp only at hSw); go_simp)
    try with_reducible rfl
  try simp only [Act.put, List.setIfInBounds_toArray, List.set_cons_zero, List.set_cons_succ, List.getElem_toArray, List.getElem_cons_zero, List.getElem_cons_succ]
  refine wpAnyH_ready (rs := [3]) (by kernel_rfl) (by simp) ?_
  refine AllReadyH.cons rfl (fun K hK => ?_) AllReadyH.nil
  go_simp
  go_at_call 26
  refine (HP2 _).out.mono ?_
  rintro e wp2 ⟨rfl, hbp2⟩
  have HBp2 := Lib.hid (belS HBr2.out.drew hbp2)
  clear hbp2
  try dsimp only
  refine hK.out _ _ (HS.out _ HBp2.out) (fun hHeld => ?_)
  clear hK K
  try simp only [Act.put, List.setIfInBounds_toArray, List.set_cons_zero, List.set_cons_succ, List.getElem_toArray, List.getElem_cons_zero, List.getElem_cons_succ]
  refine wpAnyH_ready (rs := [4]) (by kernel_rfl) (by simp) ?_
  refine AllReadyH.cons rfl (fun K hK => ?_) AllReadyH.nil
  go_simp
  go_at_call 25
  refine (HZ2 _).out.mono ?_
  rintro e wz2 ⟨rfl, hbz2⟩
  have HBz2 := Lib.hid (belS HBp2.out hbz2)
  clear hbz2
  try dsimp only
  refine hK.out _ _ (HS.out _ HBz2.out) (fun hHeld => ?_)
  clear hK K
  try simp only [Act.put, List.setIfInBounds_toArray, List.set_cons_zero, List.set_cons_succ, List.getElem_toArray, List.getElem_cons_zero, List.getElem_cons_succ]
  refine wpAnyH_take (i := 5) (v := ?_) rfl (by kernel_rfl) (by kernel_rfl) (by kernel_rfl) (fun _ _ _ h => h) (Or.inl ⟨by kernel_rfl, ?_⟩) (by assumption) ?_
  rotate_left
  · (intro w hSw; (try dsimp only at hSw); go_simp)
    try with_reducible rfl
  try simp only [Act.put, List.setIfInBounds_toArray, List.set_cons_zero, List.set_cons_succ, List.getElem_toArray, List.getElem_cons_zero, List.getElem_cons_succ]
  refine wpAnyH_take (i := 6) (v := ?_) rfl (by kernel_rfl) (by kernel_rfl) (by kernel_rfl) (fun _ _ _ h => h) (Or.inl ⟨by kernel_rfl, ?_⟩) (by assumption) ?_
  rotate_left
  · (intro w hSw; (try dsimp only at hSw); go_simp)
    try with_reducible rfl
  try simp only [Act.put, List.setIfInBounds_toArray, List.set_cons_zero, List.set_cons_succ, List.getElem_toArray, List.getElem_cons_zero, List.getElem_cons_succ]
  refine wpAnyH_take (i := 7) (v := ?_) rfl (by kernel_rfl) (by kernel_rfl) (by kernel_rfl) (fun _ _ _ h => h) (Or.inl ⟨by kernel_rfl, ?_⟩) (by assumption) ?_
  rotate_left
  · (intro w hSw; (try dsimp only at hSw); go_simp)
    try with_reducible rfl
  try simp only [Act.put, List.setIfInBounds_toArray, List.set_cons_zero, List.set_cons_succ, List.getElem_toArray, List.getElem_cons_zero, List.getElem_cons_succ]
  refine wpAnyH_take (i := 8) (v := ?_) rfl (by kernel_rfl) (by kernel_rfl) (by kernel_rfl) (fun _ _ _ h => h) (Or.inl ⟨by kernel_rfl, ?_⟩) (by assumption) ?_
  rotate_left
  · (intro w hSw; (try dsimp only at hSw); go_simp)
    try with_reducible rfl
  try simp only [Act.put, List.setIfInBounds_toArray, List.set_cons_zero, List.set_cons_succ, List.getElem_toArray, List.getElem_cons_zero, List.getElem_cons_succ]
  refine wpAnyH_take (i := 9) (v := ?_) rfl (by kernel_rfl) (by kernel_rfl) (by kernel_rfl) (fun _ _ _ h => h) (Or.inl ⟨by kernel_rfl, ?_⟩) (by assumption) ?_
  rotate_left
  · (intro w hSw; (try dsimp only at hSw); go_simp)
    try with_reducible rfl
  try simp only [Act.put, List.setIfInBounds_toArray, List.set_cons_zero, List.set_cons_succ, List.getElem_toArray, List.getElem_cons_zero, List.getElem_cons_succ]
  refine wpAnyH_done (by kernel_rfl) ?_ _
  clear hHeld
  go_wp2_with fail
  all_goals go_ret
  all_goals exact ⟨rfl, HB2.out.trans (HBz2.out.mono HB2.out.size)⟩
set_option maxRecDepth 100000 in
set_option maxHeartbeats 8000000 in
theorem atomsNames5_any (w : World) (hr : Rdy w) : Calls Tryz.prog 5 #[] w fun e w' => e = .returned (.bool true) ∧ Below w.heap.size w w' := by
  have hb1 : Below w.heap.size w (w.alloc (.cells #[.string ⟨#[112]⟩] 9)) := belowA _ _
  have HB1 := Lib.hid hb1
  have HG : Hid ((w.alloc (.cells #[.string ⟨#[112]⟩] 9)).heap[w.heap.size]? = some (.cells #[.string ⟨#[112]⟩] 9 (0, 0))) := hp_topA rfl
  have HR := Lib.hid (hr.below hb1)
  have HN : Hid (∀ W, Below (w.alloc (.cells #[.string ⟨#[112]⟩] 9)).heap.size (w.alloc (.cells #[.string ⟨#[112]⟩] 9)) W → Calls Tryz.prog 14 #[.slice (some ⟨w.heap.size, 0, none⟩) 1 1, .agg #[.int .u8 3, .string ⟨#[112]⟩, .slice none 0 0], .agg #[.bool false, .int .i64 0], .int .i64 2, .agg #[.int .i64 3, .int .u8 0]] W fun e w' => e = .returned (.tuple #[.agg #[.bool false, .int .i64 0], .slice none 0 0, .int .i64 0]) ∧ Below W.heap.size W w') := by
    intro W hW
    have := next14_any pOne _ pOne_small 1 pT _ false 0 2 3 0 W (by decide) (by decide) ⟨by decide, by decide⟩ ⟨by decide, by decide⟩ (HR.out.below hW) (pOne_rep ((hW.block _ (Array.getElem?_eq_some_iff.1 HG.out).1).trans HG.out)) (rep_prop _ _ 0 _)
    rw [none_next] at this
    refine this.mono ?_
    rintro e w' ⟨⟨zv, rfl, rfl⟩, h⟩
    exact ⟨rfl, h⟩
  clear hr hb1
  go_enter Tryz.func5, Tryz.ntmps5
  go_wp2_with fail
  refine (p23_any _).mono ?_
  rintro e w1 ⟨rfl, hb1⟩
  have HBW1 : Hid (Below (w.alloc (.cells #[.string ⟨#[112]⟩] 9)).heap.size (w.alloc (.cells #[.string ⟨#[112]⟩] 9)) w1) := hb1
  clear hb1
  go_wp2_with fail
  refine (HN.out w1 HBW1.out).mono ?_
  rintro e w2 ⟨rfl, hb2⟩
  have HB2 : Hid (Below w.heap.size w (w2.alloc (.cells #[.bool false, .int .i64 0] 27)) ∧ Rdy (w2.alloc (.cells #[.bool false, .int .i64 0] 27))) := by
    have h1 := HB1.out.trans (HBW1.out.mono HB1.out.size)
    have h2 := h1.trans (hb2.mono h1.size)
    exact ⟨h2.alloc h2.size _, (HR.out.below HBW1.out |>.below hb2).below (belowA _ _)⟩
  clear hb2
  go_wp2_with fail
  refine (alive24_any _ HB2.out.2).mono ?_
  rintro e w3 ⟨rfl, hb3⟩
  have hz3 : w3.heap[w2.heap.size]? = some (.cells #[.bool false, .int .i64 0] 27 (0, 0)) := (hb3.block _ (by simp)).trans (hp_topA rfl)
  have x0 := Lib.cell_of_heap hz3 0
  have x1 := Lib.cell_of_heap hz3 1
  simp only [List.getElem?_toArray, List.getElem?_cons_zero, List.getElem?_cons_succ] at x0 x1
  have xl := (Array.getElem?_eq_some_iff.1 hz3).1
  have HB3 : Hid (Below w.heap.size w w3) := HB2.out.1.trans (hb3.mono HB2.out.1.size)
  clear hb3 hz3
  go_wp2_with fail
  all_goals go_ret
  all_goals exact ⟨rfl, HB3.out⟩
end Go.Proofs.YtockinpjfhhkoaaGreatDoor
