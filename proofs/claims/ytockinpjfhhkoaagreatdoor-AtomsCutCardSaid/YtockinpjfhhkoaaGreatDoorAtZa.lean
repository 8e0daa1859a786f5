/- atoms.may walked; what atoms.Next answers. -/
import Derived.Test.YtockinpjfhhkoaaGreatDoorAtY
namespace Go.Proofs.YtockinpjfhhkoaaGreatDoor
open Go.RowKit

theorem results_cell_row_tmp2 {P : Program} {fn : Func} {p u u2 : Tmp} {ty : TypeId} (h : fn.results = #[.cell p ty, .tmp u, .tmp u2]) (tmps : Array Value) (w : World) (g : Nat) (t : TypeId) (cs : Array Value) (fr : Nat × Nat) (d : TypeDesc) (v v2 : Value)
    (hp : tmps.getD p undef = .pointer (some ⟨g, 0, none⟩)) (hv : tmps.getD u undef = v) (hv2 : tmps.getD u2 undef = v2) (hg : w.heap[g]? = some (.cells cs t fr))
    (hu : P.underlying ty = some d) (hd : (match d with | .struct _ | .array _ _ => true | _ => false) = true) (hi : (P.info? ty).map (·.size) = some cs.size) :
    (results fn tmps).run P w = .ok (.tuple #[.agg cs, v, v2]) w := by
  have k : (results fn tmps).run P w = ((asAddr (tmps.getD p undef)).run P w).andThen fun a w₁ => ((loadVar ty a).run P w₁).andThen fun v w₂ => .ok (.tuple #[v, tmps.getD u undef, tmps.getD u2 undef]) w₂ := by
    simp only [results, h]
    simp [Sem.run_bind, Result.andThen]
  rw [k, hp, hv, hv2]
  simp [asAddr, run_loadVar_row w g t ty cs fr d hg hu hd hi]
/-- May a run go on now? -/
def mayN (on : Bool) (since at_ : Int) : Bool := if on then decide (0 ≤ since) && decide (since < at_) else since == 0
set_option maxRecDepth 100000 in
theorem may41_any (on : Bool) (since at_ : Int) (w : World) : Calls Tryz.prog 41 #[.agg #[.bool on, .int .i64 since], .int .i64 at_] w fun e w' => e = .returned (.bool (mayN on since at_)) ∧ Below w.heap.size w w' := by
  have HB1 : Hid (Below w.heap.size w (w.alloc (.cells #[.bool on, .int .i64 since] 27))) := belowA _ _
  cases on with
  | true =>
    have HM : Hid (mayN true since at_ = (decide (0 ≤ since) && decide (since < at_))) := rfl
    cases h0 : decide (0 ≤ since) with
    | false =>
      rw [h0] at HM
      go_enter Tryz.func41, Tryz.ntmps41
      go_wp2_with fail
      all_goals go_ret
      all_goals exact ⟨by rw [HM.out]; rfl, HB1.out⟩
    | true =>
      rw [h0] at HM
      go_enter Tryz.func41, Tryz.ntmps41
      go_wp2_with fail
      all_goals go_ret
      all_goals exact ⟨by rw [HM.out]; rfl, HB1.out⟩
  | false =>
    by_cases h0 : since = 0
    · subst h0
      have HM : Hid (mayN false 0 at_ = true) := rfl
      go_enter Tryz.func41, Tryz.ntmps41
      go_wp2_with fail
      all_goals go_ret
      all_goals exact ⟨by rw [HM.out]; rfl, HB1.out⟩
    · have HM : Hid (mayN false since at_ = false) := by simpa [mayN, Hid] using h0
      go_enter Tryz.func41, Tryz.ntmps41
      go_wp2_with fail
      all_goals go_ret
      all_goals exact ⟨by rw [HM.out]; rfl, HB1.out⟩
/-- An atom's matrix. -/
def atomM (f a e : Int) : List Int := [1, 2 * (-f) + 1, 2 * (-a), 2 * e, 1, 0, 2 * e + 1, 2 * (e - f) + 1, 1]
theorem may_num {c : Int} (h1 : -288230376151711744 ≤ c) (h2 : c ≤ 288230376151711744) (z : Int) (hz : z = 0 ∨ z = 1) : mayB (2 * c + z) = true := by
  have hd : (2 * c + z) / 2 = c := by omega
  unfold mayB
  rw [hd]
  simp only [Bool.or_eq_true, Bool.and_eq_true, decide_eq_true_eq, numOkB]
  right
  omega
theorem badD_all {L : List Int} (h : ∀ x ∈ L, mayB x = true) : badD L = false := by
  unfold badD
  rw [List.any_eq_false]
  intro x hx
  simp [h x hx]
theorem atom_bad {f a e : Int} (hf : 0 ≤ f) (ha : f ≤ a) (he : a < e) (hm : e ≤ 288230376151711744) : badD (atomM f a e) = false := by
  refine badD_all fun x hx => ?_
  unfold atomM at hx
  simp only [List.mem_cons, List.not_mem_nil, or_false] at hx
  rcases hx with rfl | rfl | rfl | rfl | rfl | rfl | rfl | rfl | rfl
  · exact may_num (c := 0) (by omega) (by omega) 1 (.inr rfl)
  · exact may_num (by omega) (by omega) 1 (.inr rfl)
  · have := may_num (c := -a) (by omega) (by omega) 0 (.inl rfl); simpa using this
  · have := may_num (c := e) (by omega) (by omega) 0 (.inl rfl); simpa using this
  · exact may_num (c := 0) (by omega) (by omega) 1 (.inr rfl)
  · exact may_num (c := 0) (by omega) (by omega) 0 (.inl rfl)
  · exact may_num (by omega) (by omega) 1 (.inr rfl)
  · exact may_num (by omega) (by omega) 1 (.inr rfl)
  · exact may_num (c := 0) (by omega) (by omega) 1 (.inr rfl)
theorem made_ok {c : Int} {s : Bool} (h1 : -288230376151711744 ≤ c) (h2 : c ≤ 288230376151711744) : (madeR c s).1 = 2 * c + if s then 0 else 1 := by
  have : numOkB c = true := by simp only [numOkB, Bool.and_eq_true, decide_eq_true_eq]; omega
  unfold madeR
  rw [if_pos this]
  rfl
/-- A span of two bounds that stand by themselves. -/
theorem side_ok {lo hi : Int} {ls hs : Bool} (h1 : 0 ≤ lo) (h2 : lo < hi) (h3 : hi ≤ 288230376151711744) : SideOk ⟨lo, ls, hi, hs, false⟩ (2 * (-lo) + if ls then 0 else 1) (2 * hi + if hs then 0 else 1) := by
  have e1 : lowB ⟨lo, ls, hi, hs, false⟩ = 2 * (-lo) + if ls then 0 else 1 := made_ok (c := -lo) (by omega) (by omega)
  have e2 : highB ⟨lo, ls, hi, hs, false⟩ = 2 * hi + if hs then 0 else 1 := made_ok (c := hi) (by omega) (by omega)
  obtain ⟨z, hz, hz2⟩ : ∃ z : Int, (if ls then (0 : Int) else 1) = z ∧ (z = 0 ∨ z = 1) := ⟨_, rfl, by split <;> simp⟩
  obtain ⟨y, hy, hy2⟩ : ∃ y : Int, (if hs then (0 : Int) else 1) = y ∧ (y = 0 ∨ y = 1) := ⟨_, rfl, by split <;> simp⟩
  rw [hz] at e1 ⊢
  rw [hy] at e2 ⊢
  have n1 : nearS ⟨lo, ls, hi, hs, false⟩ := by
    refine ⟨?_, ?_, ?_, ?_⟩
    · show -288230376151711744 ≤ lo; omega
    · show lo ≤ 288230376151711744; omega
    · show hi ≤ 288230376151711744; omega
    · show -9223372036854775808 ≤ hi; omega
  have n2 : spanB ⟨lo, ls, hi, hs, false⟩ = true := by show decide (lo ≤ hi) = true; simp; omega
  refine ⟨n1, n2, e1, e2, by unfold noneB; omega, by unfold noneB; omega, badD_all fun x hx => ?_, ?_⟩
  · simp only [List.mem_cons, List.not_mem_nil, or_false] at hx
    rcases hx with rfl | rfl | rfl | rfl
    · exact may_num (c := 0) (by omega) (by omega) 1 (.inr rfl)
    · exact may_num (by omega) (by omega) z hz2
    · exact may_num (by omega) (by omega) y hy2
    · exact may_num (c := 0) (by omega) (by omega) 1 (.inr rfl)
  · refine side_closed (by omega) (by omega) ?_
    split <;> omega
end Go.Proofs.YtockinpjfhhkoaaGreatDoor
