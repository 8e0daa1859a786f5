/- Layer 16 walked: formulas that are made right, but for their parts. -/
import Derived.Deep.QuietTactic
import Derived.BigQuiet
import Derived.Test.YtabpfbgcdmejbaaDoorTreeG
namespace Go.Proofs.YtabpfbgcdmejbaaDoor
open Go.RowKit

theorem below_drewN' {w w' : World} {B : Nat} (h : Below B w w') (k : Nat) : Below B w (w'.drewN k) := h.trans ⟨rfl, rfl, rfl, Nat.le_refl _, fun _ _ => rfl⟩
theorem empty_size (s : ByteArray) : (s.toList == []) = decide (s.size = 0) := by
  rw [Bool.eq_iff_iff, beq_iff_eq, decide_eq_true_eq, ByteArray.toList_eq]
  constructor
  · intro h
    have : s.data.toList.length = 0 := by rw [h]; rfl
    simpa using this
  · intro h
    have : s.data.toList.length = 0 := by simpa using h
    exact List.eq_nil_of_length_eq_zero this

set_option maxRecDepth 100000 in
set_option maxHeartbeats 8000000 in
theorem right44_any (k : Int) (s : ByteArray) (a : Option Addr) (l c : Nat) (w : World) :
    Calls Tryd.prog 44 #[.agg #[.int .u8 k, .string s, .slice a l c]] w fun e w' => e = .returned (.bool (rightB k s l)) ∧ Below w.heap.size w w' := by
  have HS := Lib.hid (empty_size s)
  have HB : Hid (∀ n : Nat, Below w.heap.size w (((w.alloc (.cells #[.int .u8 k, .string s, .slice a l c] 39)).alloc (.cells #[.int .i64 0, .int .i64 0, .int .i64 0, .int .i64 0, .int .i64 1, .int .i64 2, .int .i64 2] 75)).drewN n)) :=
    fun n => below_drewN' (((Below.refl _ w).alloc (Nat.le_refl _) _).alloc (by simp) _) n
  have hk : k < 1 ∨ k = 1 ∨ k = 2 ∨ k = 3 ∨ k = 4 ∨ k = 5 ∨ k = 6 ∨ 6 < k := by omega
  rcases hk with h | rfl | rfl | rfl | rfl | rfl | rfl | h
  · have q : decide (1 ≤ k) = false := by simp; omega
    have Q := Lib.hid q
    clear h
    go_enter Tryd.func44, Tryd.ntmps44
    go_wp2_with fail
    go_quiet (fail)
    go_wp2_with fail
    all_goals go_ret
    all_goals exact ⟨ret_bool' (by unfold rightB; rw [Q.out]; rfl), HB.out _⟩
  · by_cases hl : l = 0
    · subst hl
      cases q : (s.toList == [])
      all_goals
        have Q := Lib.hid (HS.out.symm.trans q)
        go_enter Tryd.func44, Tryd.ntmps44
        go_wp2_with fail
        go_quiet (fail)
        go_wp2_with fail
        all_goals go_ret
        all_goals exact ⟨ret_bool' (by unfold rightB manyOf; rw [Q.out]; rfl), HB.out _⟩
    · have q : ((l : Int) == 0) = false := by simp; omega
      have Q : Hid ((l == 0) = false) := by rw [Hid]; simp; omega
      clear hl
      go_enter Tryd.func44, Tryd.ntmps44
      go_wp2_with fail
      go_quiet (fail)
      go_wp2_with fail
      all_goals go_ret
      all_goals exact ⟨ret_bool' (by unfold rightB manyOf; have := Q.out; simp [this]), HB.out _⟩
  · by_cases hl : l = 0
    · subst hl
      cases q : (s.toList == [])
      all_goals
        have Q := Lib.hid (HS.out.symm.trans q)
        go_enter Tryd.func44, Tryd.ntmps44
        go_wp2_with fail
        go_quiet (fail)
        go_wp2_with fail
        all_goals go_ret
        all_goals exact ⟨ret_bool' (by unfold rightB manyOf; rw [Q.out]; rfl), HB.out _⟩
    · have q : ((l : Int) == 0) = false := by simp; omega
      have Q : Hid ((l == 0) = false) := by rw [Hid]; simp; omega
      clear hl
      go_enter Tryd.func44, Tryd.ntmps44
      go_wp2_with fail
      go_quiet (fail)
      go_wp2_with fail
      all_goals go_ret
      all_goals exact ⟨ret_bool' (by unfold rightB manyOf; have := Q.out; simp [this]), HB.out _⟩
  · by_cases hl : l = 0
    · subst hl
      cases q : (s.toList == [])
      all_goals
        have Q := Lib.hid (HS.out.symm.trans q)
        go_enter Tryd.func44, Tryd.ntmps44
        go_wp2_with fail
        go_quiet (fail)
        go_wp2_with fail
        all_goals go_ret
        all_goals exact ⟨ret_bool' (by unfold rightB manyOf; rw [Q.out]; rfl), HB.out _⟩
    · have q : ((l : Int) == 0) = false := by simp; omega
      have Q : Hid ((l == 0) = false) := by rw [Hid]; simp; omega
      clear hl
      go_enter Tryd.func44, Tryd.ntmps44
      go_wp2_with fail
      go_quiet (fail)
      go_wp2_with fail
      all_goals go_ret
      all_goals exact ⟨ret_bool' (by unfold rightB manyOf; have := Q.out; simp [this]), HB.out _⟩
  · by_cases hl : l = 1
    · subst hl
      cases q : (s.toList == [])
      all_goals
        have Q := Lib.hid (HS.out.symm.trans q)
        go_enter Tryd.func44, Tryd.ntmps44
        go_wp2_with fail
        go_quiet (fail)
        go_wp2_with fail
        all_goals go_ret
        all_goals exact ⟨ret_bool' (by unfold rightB manyOf; rw [Q.out]; rfl), HB.out _⟩
    · have q : ((l : Int) == 1) = false := by simp; omega
      have Q : Hid ((l == 1) = false) := by rw [Hid]; simp; omega
      clear hl
      go_enter Tryd.func44, Tryd.ntmps44
      go_wp2_with fail
      go_quiet (fail)
      go_wp2_with fail
      all_goals go_ret
      all_goals exact ⟨ret_bool' (by unfold rightB manyOf; have := Q.out; simp [this]), HB.out _⟩
  · by_cases hl : l = 2
    · subst hl
      cases q : (s.toList == [])
      all_goals
        have Q := Lib.hid (HS.out.symm.trans q)
        go_enter Tryd.func44, Tryd.ntmps44
        go_wp2_with fail
        go_quiet (fail)
        go_wp2_with fail
        all_goals go_ret
        all_goals exact ⟨ret_bool' (by unfold rightB manyOf; rw [Q.out]; rfl), HB.out _⟩
    · have q : ((l : Int) == 2) = false := by simp; omega
      have Q : Hid ((l == 2) = false) := by rw [Hid]; simp; omega
      clear hl
      go_enter Tryd.func44, Tryd.ntmps44
      go_wp2_with fail
      go_quiet (fail)
      go_wp2_with fail
      all_goals go_ret
      all_goals exact ⟨ret_bool' (by unfold rightB manyOf; have := Q.out; simp [this]), HB.out _⟩
  · by_cases hl : l = 2
    · subst hl
      cases q : (s.toList == [])
      all_goals
        have Q := Lib.hid (HS.out.symm.trans q)
        go_enter Tryd.func44, Tryd.ntmps44
        go_wp2_with fail
        go_quiet (fail)
        go_wp2_with fail
        all_goals go_ret
        all_goals exact ⟨ret_bool' (by unfold rightB manyOf; rw [Q.out]; rfl), HB.out _⟩
    · have q : ((l : Int) == 2) = false := by simp; omega
      have Q : Hid ((l == 2) = false) := by rw [Hid]; simp; omega
      clear hl
      go_enter Tryd.func44, Tryd.ntmps44
      go_wp2_with fail
      go_quiet (fail)
      go_wp2_with fail
      all_goals go_ret
      all_goals exact ⟨ret_bool' (by unfold rightB manyOf; have := Q.out; simp [this]), HB.out _⟩
  · have q : decide (1 ≤ k) = true := by simp; omega
    have q2 : decide (k ≤ 6) = false := by simp; omega
    have Q := Lib.hid q2
    clear h
    go_enter Tryd.func44, Tryd.ntmps44
    go_wp2_with fail
    go_quiet (fail)
    go_wp2_with fail
    all_goals go_ret
    all_goals exact ⟨ret_bool' (by unfold rightB; rw [Q.out]; simp), HB.out _⟩
theorem so44 (w : World) : SoF w 44 #[] rightB := by
  intro n
  refine ⟨ent_of Tryd.func44 (by kernel_rfl) (by kernel_rfl), fun t v w' hb' hr => ?_⟩
  obtain ⟨k, s, of⟩ := t
  obtain ⟨a, c, rfl, _⟩ := hr
  exact right44_any k s a of.length c w'
end Go.Proofs.YtabpfbgcdmejbaaDoor
