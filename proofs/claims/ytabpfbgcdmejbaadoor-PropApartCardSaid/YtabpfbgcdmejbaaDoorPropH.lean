/- alive of layer 20's statements walked. -/
import Derived.Deep.RegionHeld3
import Derived.Test.YtabpfbgcdmejbaaDoorPropG
namespace Go.Proofs.YtabpfbgcdmejbaaDoor
open Go.RowKit
attribute [local go_sem ↓] Go.wp_at_zero Go.wp_at_succ
attribute [local go_sem] Oper.semAt_some

/-- p and not q. -/
def exT : FT 3 := (5, ⟨#[]⟩, [(3, ⟨#[112]⟩, []), (4, ⟨#[]⟩, [(3, ⟨#[113]⟩, [])])])
theorem ex_one : holdsR pq 3 exT 1 = (true, 0) := by kernel_rfl
theorem ex_three : holdsR pq 3 exT 3 = (false, 0) := by kernel_rfl
theorem pq_small : ∀ s ∈ pq, s.size ≤ 1048576 := by
  intro s hs
  simp only [pq, List.mem_cons, List.not_mem_nil, or_false] at hs
  rcases hs with rfl | rfl <;> decide

/-- The example's variable. -/
def ExI (w0 w : World) (Z : Nat) (x0 x1 x2 : Value) : Prop :=
  w.heap[Z]? = some (.cells #[x0, x1, x2] 39 (0, 0)) ∧ FRep w w.heap.size 3 exT (.agg #[x0, x1, x2]) ∧ Below w0.heap.size w0 w
theorem ExI.up {w0 w w' : World} {Z : Nat} {x0 x1 x2 : Value} (h : ExI w0 w Z x0 x1 x2) (hb : Below w.heap.size w w') : ExI w0 w' Z x0 x1 x2 :=
  ⟨(hb.block _ (Array.getElem?_eq_some_iff.1 h.1).1).trans h.1, h.2.1.up hb hb.size, h.2.2.trans (hb.mono h.2.2.size)⟩

set_option maxRecDepth 100000 in
set_option maxHeartbeats 4000000 in
theorem alive23_any (w : World) (hr : Rdy w) : Calls Tryd.prog 23 #[] w fun e w' => e = .returned (.bool true) ∧ Below w.heap.size w w' := by
  have H22 : Hid (∀ (W W' : World) (Z g : Nat) (x0 x1 x2 : Value) (on : Int), ExI w W Z x0 x1 x2 → Below W.heap.size W W' → W'.heap[g]? = some (.cells #[.string ⟨#[112]⟩, .string ⟨#[113]⟩] 9 (0, 0)) → 0 ≤ on → on ≤ 255 →
      Calls Tryd.prog 22 #[.slice (some ⟨g, 0, none⟩) 2 2, .agg #[x0, x1, x2], .int .u8 on] W' fun e w' => e = .returned (.tuple #[.bool (holdsR pq 3 exT on).1, .int .i64 (holdsR pq 3 exT on).2]) ∧ Below W.heap.size W w') := by
    intro W W' Z g x0 x1 x2 on h hb hg h0 h1
    have h' := h.up hb
    exact (holds22_any pq _ pq_small 3 exT _ on W' h0 h1 (hr.below h'.2.2) (pq_rep hg) h'.2.1).mono fun e w' hh => ⟨hh.1, hb.trans (hh.2.mono hb.size)⟩
  clear hr
  go_enter Tryd.func23, Tryd.ntmps23
  go_upto_region 1 with fail
  go_cut [1] from 2 (fun p wx => ∃ (Z : Nat) (x0 x1 x2 : Value), p = .pointer (some ⟨Z, 0, none⟩) ∧ Hid (ExI w wx Z x0 x1 x2))
  case first =>
    go_wp2_with fail
    refine (of21_any _ _).mono ?_
    rintro e w1 ⟨rfl, rfl⟩
    go_wp2_with fail
    refine (of21_any _ _).mono ?_
    rintro e w1 ⟨rfl, rfl⟩
    go_wp2_with fail
    refine (made20_any _ _ _ _ _).mono ?_
    rintro e w1 ⟨rfl, rfl⟩
    go_wp2_with fail
    refine (made20_any _ _ _ _ _).mono ?_
    rintro e w1 ⟨rfl, rfl⟩
    go_wp2_with fail
    go_meet
    refine ⟨_, .int .u8 5, .string ⟨#[]⟩, .slice (some ⟨w.heap.size + 1 + 1 + 1 + 1, 0, none⟩) 2 2, rfl, ?_, ?_, ?_⟩
    · exact heap_top (by simp)
    · refine rep_two (n := 2) (g := w.heap.size + 1 + 1 + 1 + 1) (t := 39) (fz := (0, 0)) (y0 := .int .u8 4) (y1 := .string ⟨#[]⟩) (y2 := .slice (some ⟨w.heap.size + 1 + 1, 0, none⟩) 1 1) ?_ (rep_prop _ _ 1 _) (rep_one (n := 1) (g := w.heap.size + 1 + 1) (t := 39) (fz := (0, 0)) ?_ (rep_prop _ _ 0 _))
      rotate_left
      · repeat (first | exact heap_top (by simp) | refine heap_in (by simp <;> omega) ?_)
      · repeat (first | exact heap_top (by simp) | refine heap_in (by simp <;> omega) ?_)
    · exact below_alloc (below_alloc (below_alloc (below_alloc (below_alloc (below_alloc (below_alloc (Below.refl _ _) _) _) _) _) _) _) _
  case rest =>
    obtain ⟨Z, x0, x1, x2, rfl, HX⟩ := hcut
    have HX1 := HX
    clear HX
    have HE1 : Hid (∀ W, Below wc.heap.size wc W → W.cell? ⟨Z, 0, none⟩ = some x0 ∧ W.cell? ⟨Z, 1, none⟩ = some x1 ∧ W.cell? ⟨Z, 2, none⟩ = some x2 ∧ Z < W.heap.size) := by
      intro W h
      have := (HX1.out.up h).1
      exact ⟨Lib.cell_of_heap this 0, Lib.cell_of_heap this 1, Lib.cell_of_heap this 2, (Array.getElem?_eq_some_iff.1 this).1⟩
    have HA1 := Lib.hid (fun (W' : World) (g : Nat) h1 h2 => H22.out wc W' Z g x0 x1 x2 1 HX1.out h1 h2 (by omega) (by omega))
    rw [ex_one] at HA1
    have hself : Below wc.heap.size wc wc := Below.refl _ _
    obtain ⟨c0, c1, c2, hz⟩ := HE1.out wc hself
    go_wp2_with fail
    go_region_held3 (fun w' => (w'.cell? ⟨Z, 0, none⟩ = some x0 ∧ w'.cell? ⟨Z, 1, none⟩ = some x1 ∧ w'.cell? ⟨Z, 2, none⟩ = some x2 ∧ Z < w'.heap.size) ∧ Below wc.heap.size wc w')
      ((refine ⟨HE1.out _ ?_, ?_⟩ <;> first | assumption | exact Below.drew (by assumption) | exact below_alloc (by assumption) _ | exact below_alloc (Below.drew (by assumption)) _))
      (first | (go_at_call 19; refine (names19_any _).mono ?_; rintro e wz ⟨rfl, rfl⟩) | (go_at_call 22; refine (HA1.out _ _ (by first | assumption | exact Below.drew (by assumption) | exact below_alloc (by assumption) _ | exact below_alloc (Below.drew (by assumption)) _ | exact Below.drew (below_alloc (by assumption) _)) (by exact Array.getElem?_push_size)).mono ?_; rintro e wz ⟨rfl, hbz⟩))
    have hbz : Below wc.heap.size wc wz := by assumption
    have HX3 := Lib.hid (HX1.out.up hbz)
    clear hself hbz c0 c1 c2 hz HE1 HA1
    have HE3 : Hid (∀ W, Below wz.heap.size wz W → W.cell? ⟨Z, 0, none⟩ = some x0 ∧ W.cell? ⟨Z, 1, none⟩ = some x1 ∧ W.cell? ⟨Z, 2, none⟩ = some x2 ∧ Z < W.heap.size) := by
      intro W h
      have := (HX3.out.up h).1
      exact ⟨Lib.cell_of_heap this 0, Lib.cell_of_heap this 1, Lib.cell_of_heap this 2, (Array.getElem?_eq_some_iff.1 this).1⟩
    have HA3 := Lib.hid (fun (W' : World) (g : Nat) h1 h2 => H22.out wz W' Z g x0 x1 x2 3 HX3.out h1 h2 (by omega) (by omega))
    rw [ex_three] at HA3
    have hself : Below wz.heap.size wz wz := Below.refl _ _
    obtain ⟨c0, c1, c2, hz⟩ := HE3.out wz hself
    go_wp2_with fail
    go_region_held3 (fun w' => (w'.cell? ⟨Z, 0, none⟩ = some x0 ∧ w'.cell? ⟨Z, 1, none⟩ = some x1 ∧ w'.cell? ⟨Z, 2, none⟩ = some x2 ∧ Z < w'.heap.size) ∧ Below wz.heap.size wz w')
      ((refine ⟨HE3.out _ ?_, ?_⟩ <;> first | assumption | exact Below.drew (by assumption) | exact below_alloc (by assumption) _ | exact below_alloc (Below.drew (by assumption)) _))
      (first | (go_at_call 19; refine (names19_any _).mono ?_; rintro e wy ⟨rfl, rfl⟩) | (go_at_call 22; refine (HA3.out _ _ (by first | assumption | exact Below.drew (by assumption) | exact below_alloc (by assumption) _ | exact below_alloc (Below.drew (by assumption)) _ | exact Below.drew (below_alloc (by assumption) _)) (by exact Array.getElem?_push_size)).mono ?_; rintro e wy ⟨rfl, hbz⟩))
    have hby : Below wz.heap.size wz wy := by assumption
    have HX4 := Lib.hid (HX3.out.up hby)
    clear hself c0 c1 c2 hz HE3 HA3
    go_wp2_with fail
    all_goals go_ret
    all_goals exact ⟨rfl, HX4.out.2.2⟩
end Go.Proofs.YtabpfbgcdmejbaaDoor
