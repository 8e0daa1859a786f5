/- Layer 16 walked: formulas that are made right, but for their parts. -/
import Derived.Deep.QuietTactic
import Derived.BigQuiet
import Derived.Test.YtockinpjfhhkoaaGreatDoorMgB
import Derived.Test.YtockinpjfhhkoaaGreatDoorMgM
namespace Go.Proofs.YtockinpjfhhkoaaGreatDoor
open Go.RowKit

theorem below_drewN' {w w' : World} {B : Nat} (h : Below B w w') (k : Nat) : Below B w (w'.drewN k) := h.trans ⟨rfl, rfl, rfl, Nat.le_refl _, fun _ _ => rfl⟩
theorem empty_size (s : ByteArray) : (s.toList == []) = decide (s.size = 0) := by
  rw [Bool.eq_iff_iff, beq_iff_eq, decide_eq_true_eq, ByteArray.toList_eq]
  constructor
  · intro h
    have : s.data.toList.length = 0 := by rw [h]; rfl
    simpa using this
  · intro h
    have : s.data.toList.length = 0 := by simpa using h
    exact List.eq_nil_of_length_eq_zero this

set_option maxRecDepth 100000 in
set_option maxHeartbeats 8000000 in
theorem right44_any (k : Int) (s : ByteArray) (a : Option Addr) (l c : Nat) (w : World) :
    Calls Tryz.prog 140 #[.agg #[.int .u8 k, .string s, .slice a l c]] w fun e w' => e = .returned (.bool (rightB k s l)) ∧ Below w.heap.size w w' := by
  have HS := Lib.hid (empty_size s)
  have HB : Hid (∀ n : Nat, Below w.heap.size w (((w.alloc (.cells #[.int .u8 k, .string s, .slice a l c] 25)).alloc (.cells #[.int .i64 0, .int .i64 0, .int .i64 0, .int .i64 0, .int .i64 1, .int .i64 2, .int .i64 2] 206)).drewN n)) :=
    fun n => below_drewN' (((Below.refl _ w).alloc (Nat.le_refl _) _).alloc (by simp) _) n
  have hk : k < 1 ∨ k = 1 ∨ k = 2 ∨ k = 3 ∨ k = 4 ∨ k = 5 ∨ k = 6 ∨ 6 < k := by omega
  rcases hk with h | rfl | rfl | rfl | rfl | rfl | rfl | h
  · have q : decide (1 ≤ k) = false := by simp; omega
    have Q := Lib.hid q
    clear h
    go_enter Tryz.func140, Tryz.ntmps140
    go_wp2_with fail
    go_quiet (fail)
    go_wp2_with fail
    all_goals go_ret
    all_goals exact ⟨ret_bool' (by unfold rightB; rw [Q.out]; rfl), HB.out _⟩
  · by_cases hl : l = 0
    · subst hl
      cases q : (s.toList == [])
      all_goals
        have Q := Lib.hid (HS.out.symm.trans q)
        go_enter Tryz.func140, Tryz.ntmps140
        go_wp2_with fail
        go_quiet (fail)
        go_wp2_with fail
        all_goals go_ret
        all_goals exact ⟨ret_bool' (by unfold rightB manyOf; rw [Q.out]; rfl), HB.out _⟩
    · have q : ((l : Int) == 0) = false := by simp; omega
      have Q : Hid ((l == 0) = false) := by rw [Hid]; simp; omega
      clear hl
      go_enter Tryz.func140, Tryz.ntmps140
      go_wp2_with fail
      go_quiet (fail)
      go_wp2_with fail
      all_goals go_ret
      all_goals exact ⟨ret_bool' (by unfold rightB manyOf; have := Q.out; simp [this]), HB.out _⟩
  · by_cases hl : l = 0
    · subst hl
      cases q : (s.toList == [])
      all_goals
        have Q := Lib.hid (HS.out.symm.trans q)
        go_enter Tryz.func140, Tryz.ntmps140
        go_wp2_with fail
        go_quiet (fail)
        go_wp2_with fail
        all_goals go_ret
        all_goals exact ⟨ret_bool' (by unfold rightB manyOf; rw [Q.out]; rfl), HB.out _⟩
    · have q : ((l : Int) == 0) = false := by simp; omega
      have Q : Hid ((l == 0) = false) := by rw [Hid]; simp; omega
      clear hl
      go_enter Tryz.func140, Tryz.ntmps140
      go_wp2_with fail
      go_quiet (fail)
      go_wp2_with fail
      all_goals go_ret
      all_goals exact ⟨ret_bool' (by unfold rightB manyOf; have := Q.out; simp [this]), HB.out _⟩
  · by_cases hl : l = 0
    · subst hl
      cases q : (s.toList == [])
      all_goals
        have Q := Lib.hid (HS.out.symm.trans q)
        go_enter Tryz.func140, Tryz.ntmps140
        go_wp2_with fail
        go_quiet (fail)
        go_wp2_with fail
        all_goals go_ret
        all_goals exact ⟨ret_bool' (by unfold rightB manyOf; rw [Q.out]; rfl), HB.out _⟩
    · have q : ((l : Int) == 0) = false := by simp; omega
      have Q : Hid ((l == 0) = false) := by rw [Hid]; simp; omega
      clear hl
      go_enter Tryz.func140, Tryz.ntmps140
      go_wp2_with fail
      go_quiet (fail)
      go_wp2_with fail
      all_goals go_ret
      all_goals exact ⟨ret_bool' (by unfold rightB manyOf; have := Q.out; simp [this]), HB.out _⟩
  · by_cases hl : l = 1
    · subst hl
      cases q : (s.toList == [])
      all_goals
        have Q := Lib.hid (HS.out.symm.trans q)
        go_enter Tryz.func140, Tryz.ntmps140
        go_wp2_with fail
        go_quiet (fail)
        go_wp2_with fail
        all_goals go_ret
        all_goals exact ⟨ret_bool' (by unfold rightB manyOf; rw [Q.out]; rfl), HB.out _⟩
    · have q : ((l : Int) == 1) = false := by simp; omega
      have Q : Hid ((l == 1) = false) := by rw [Hid]; simp; omega
      clear hl
      go_enter Tryz.func140, Tryz.ntmps140
      go_wp2_with fail
      go_quiet (fail)
      go_wp2_with fail
      all_goals go_ret
      all_goals exact ⟨ret_bool' (by unfold rightB manyOf; have := Q.out; simp [this]), HB.out _⟩
  · by_cases hl : l = 2
    · subst hl
      cases q : (s.toList == [])
      all_goals
        have Q := Lib.hid (HS.out.symm.trans q)
        go_enter Tryz.func140, Tryz.ntmps140
        go_wp2_with fail
        go_quiet (fail)
        go_wp2_with fail
        all_goals go_ret
        all_goals exact ⟨ret_bool' (by unfold rightB manyOf; rw [Q.out]; rfl), HB.out _⟩
    · have q : ((l : Int) == 2) = false := by simp; omega
      have Q : Hid ((l == 2) = false) := by rw [Hid]; simp; omega
      clear hl
      go_enter Tryz.func140, Tryz.ntmps140
      go_wp2_with fail
      go_quiet (fail)
      go_wp2_with fail
      all_goals go_ret
      all_goals exact ⟨ret_bool' (by unfold rightB manyOf; have := Q.out; simp [this]), HB.out _⟩
  · by_cases hl : l = 2
    · subst hl
      cases q : (s.toList == [])
      all_goals
        have Q := Lib.hid (HS.out.symm.trans q)
        go_enter Tryz.func140, Tryz.ntmps140
        go_wp2_with fail
        go_quiet (fail)
        go_wp2_with fail
        all_goals go_ret
        all_goals exact ⟨ret_bool' (by unfold rightB manyOf; rw [Q.out]; rfl), HB.out _⟩
    · have q : ((l : Int) == 2) = false := by simp; omega
      have Q : Hid ((l == 2) = false) := by rw [Hid]; simp; omega
      clear hl
      go_enter Tryz.func140, Tryz.ntmps140
      go_wp2_with fail
      go_quiet (fail)
      go_wp2_with fail
      all_goals go_ret
      all_goals exact ⟨ret_bool' (by unfold rightB manyOf; have := Q.out; simp [this]), HB.out _⟩
  · have q : decide (1 ≤ k) = true := by simp; omega
    have q2 : decide (k ≤ 6) = false := by simp; omega
    have Q := Lib.hid q2
    clear h
    go_enter Tryz.func140, Tryz.ntmps140
    go_wp2_with fail
    go_quiet (fail)
    go_wp2_with fail
    all_goals go_ret
    all_goals exact ⟨ret_bool' (by unfold rightB; rw [Q.out]; simp), HB.out _⟩
theorem so44 (w : World) : SoF w 140 #[] rightB := by
  intro n
  refine ⟨ent_of Tryz.func140 (by kernel_rfl) (by kernel_rfl), fun t v w' hb' hr => ?_⟩
  obtain ⟨k, s, of⟩ := t
  obtain ⟨a, c, rfl, _⟩ := hr
  exact right44_any k s a of.length c w'
end Go.Proofs.YtockinpjfhhkoaaGreatDoor

/- Layer 16 walked: expressions that are made right, but for their parts; the other function values that Check hands on. -/
namespace Go.Proofs.YtockinpjfhhkoaaGreatDoor
open Go.RowKit

theorem len0 (n : Nat) : ((n : Int) == 0) = (n == 0) := by rw [Bool.eq_iff_iff]; simp
@[local go_sem] theorem eq25 (a c d f : Int) (b e g h i j : Bool) (w : World) : (Op.equalIn 10000 45 (.agg #[.int .i64 a, .bool b, .int .i64 c, .bool g, .bool h]) (.agg #[.int .i64 d, .bool e, .int .i64 f, .bool i, .bool j])).run Tryz.prog w = .ok (decide ((⟨a, b, c, g, h⟩ : Spn) = ⟨d, e, f, i, j⟩)) w := by
  have u3 := Tryz.underlying3
  have a3 := Tryz.isAgg3
  have z3 := Tryz.sizeOf3
  have u4 := Tryz.underlying4
  have a4 := Tryz.isAgg4
  have z4 := Tryz.sizeOf4
  have hS : Tryz.prog.underlying 45 = some (.struct (Tryz.prog.fieldsOf 45)) := by kernel_rfl
  have hp : Tryz.prog.stoodInHeld 45 = false := by kernel_rfl
  rw [show (10000 : Nat) = 9999 + 1 from rfl, run_equalIn_agg w 9999 45 _ _ hS hp]
  simp only [Program.fieldsOf, Tryz.underlying45]
  go_simp
  by_cases h1 : a = d <;> cases b <;> cases e <;> by_cases h3 : c = f <;> cases g <;> cases i <;> cases h <;> cases j <;> simp [h1, h3]

set_option maxRecDepth 100000 in
set_option maxHeartbeats 8000000 in
theorem right34_low (m : Nat) (k : Int) (is : List (FT m)) (a1 : Option Addr) (c1 : Nat) (a : Option Addr) (l c : Nat) (lo hi : Int) (ls hs op : Bool) (w : World) (hk : k < 1) (_hR : FRow w w.heap.size m a1 is) :
    Calls Tryz.prog 71 #[.agg #[.int .u8 k, .slice a1 is.length c1, .slice a l c, .int .i64 lo, .bool ls, .int .i64 hi, .bool hs, .bool op]] w fun e w' => e = .returned (.bool (rightX k is l ⟨lo, ls, hi, hs, op⟩)) ∧ Below w.heap.size w w' := by
  have HB : Hid (∀ n : Nat, Below w.heap.size w (((w.alloc (.cells #[.int .u8 k, .slice a1 is.length c1, .slice a l c, .int .i64 lo, .bool ls, .int .i64 hi, .bool hs, .bool op] 47)).alloc (.cells #[.int .i64 0, .int .i64 0, .int .i64 2, .int .i64 2, .int .i64 2, .int .i64 1, .int .i64 1] 206)).drewN n)) :=
    fun n => below_drewN' (((Below.refl _ w).alloc (Nat.le_refl _) _).alloc (by simp) _) n
  have q : decide (k < 1) = true := by simp; omega
  have Q : Hid (decide (1 ≤ k) = false) := by rw [Hid]; simp; omega
  clear _hR
  go_enter Tryz.func71, Tryz.ntmps71
  go_wp2_with fail
  go_quiet (fail)
  go_wp2_with fail
  all_goals go_ret
  all_goals exact ⟨ret_bool' (by unfold rightX; rw [Q.out]; simp), HB.out _⟩

set_option maxRecDepth 100000 in
set_option maxHeartbeats 8000000 in
theorem right34_high (m : Nat) (k : Int) (is : List (FT m)) (a1 : Option Addr) (c1 : Nat) (a : Option Addr) (l c : Nat) (lo hi : Int) (ls hs op : Bool) (w : World) (hk : 6 < k) (_hR : FRow w w.heap.size m a1 is) :
    Calls Tryz.prog 71 #[.agg #[.int .u8 k, .slice a1 is.length c1, .slice a l c, .int .i64 lo, .bool ls, .int .i64 hi, .bool hs, .bool op]] w fun e w' => e = .returned (.bool (rightX k is l ⟨lo, ls, hi, hs, op⟩)) ∧ Below w.heap.size w w' := by
  have HB : Hid (∀ n : Nat, Below w.heap.size w (((w.alloc (.cells #[.int .u8 k, .slice a1 is.length c1, .slice a l c, .int .i64 lo, .bool ls, .int .i64 hi, .bool hs, .bool op] 47)).alloc (.cells #[.int .i64 0, .int .i64 0, .int .i64 2, .int .i64 2, .int .i64 2, .int .i64 1, .int .i64 1] 206)).drewN n)) :=
    fun n => below_drewN' (((Below.refl _ w).alloc (Nat.le_refl _) _).alloc (by simp) _) n
  have q0 : decide (k < 1) = false := by simp; omega
  have q : decide (6 < k) = true := by simp; omega
  have Q : Hid (decide (k ≤ 6) = false) := by rw [Hid]; simp; omega
  clear _hR
  go_enter Tryz.func71, Tryz.ntmps71
  go_wp2_with fail
  go_quiet (fail)
  go_wp2_with fail
  all_goals go_ret
  all_goals exact ⟨ret_bool' (by unfold rightX; rw [Q.out]; simp), HB.out _⟩

set_option maxRecDepth 100000 in
set_option maxHeartbeats 8000000 in
theorem right34_no1 (m : Nat) (is : List (FT m)) (a1 : Option Addr) (c1 : Nat) (a : Option Addr) (l c : Nat) (lo hi : Int) (ls hs op : Bool) (w : World) (_hR : FRow w w.heap.size m a1 is) (hl : l ≠ 0) :
    Calls Tryz.prog 71 #[.agg #[.int .u8 1, .slice a1 is.length c1, .slice a l c, .int .i64 lo, .bool ls, .int .i64 hi, .bool hs, .bool op]] w fun e w' => e = .returned (.bool (rightX 1 is l ⟨lo, ls, hi, hs, op⟩)) ∧ Below w.heap.size w w' := by
  have HB : Hid (∀ n : Nat, Below w.heap.size w (((w.alloc (.cells #[.int .u8 1, .slice a1 is.length c1, .slice a l c, .int .i64 lo, .bool ls, .int .i64 hi, .bool hs, .bool op] 47)).alloc (.cells #[.int .i64 0, .int .i64 0, .int .i64 2, .int .i64 2, .int .i64 2, .int .i64 1, .int .i64 1] 206)).drewN n)) :=
    fun n => below_drewN' (((Below.refl _ w).alloc (Nat.le_refl _) _).alloc (by simp) _) n
  have q : ((l : Int) == 0) = false := by simp; omega
  have Q : Hid ((l == manyOfX 1) = false) := by rw [Hid]; unfold manyOfX; simp; omega
  clear hl _hR
  go_enter Tryz.func71, Tryz.ntmps71
  go_wp2_with fail
  go_quiet (fail)
  go_wp2_with fail
  all_goals go_ret
  all_goals exact ⟨ret_bool' (by unfold rightX; rw [Q.out]; simp), HB.out _⟩

set_option maxRecDepth 100000 in
set_option maxHeartbeats 8000000 in
theorem right34_no2 (m : Nat) (is : List (FT m)) (a1 : Option Addr) (c1 : Nat) (a : Option Addr) (l c : Nat) (lo hi : Int) (ls hs op : Bool) (w : World) (_hR : FRow w w.heap.size m a1 is) (hl : l ≠ 2) :
    Calls Tryz.prog 71 #[.agg #[.int .u8 2, .slice a1 is.length c1, .slice a l c, .int .i64 lo, .bool ls, .int .i64 hi, .bool hs, .bool op]] w fun e w' => e = .returned (.bool (rightX 2 is l ⟨lo, ls, hi, hs, op⟩)) ∧ Below w.heap.size w w' := by
  have HB : Hid (∀ n : Nat, Below w.heap.size w (((w.alloc (.cells #[.int .u8 2, .slice a1 is.length c1, .slice a l c, .int .i64 lo, .bool ls, .int .i64 hi, .bool hs, .bool op] 47)).alloc (.cells #[.int .i64 0, .int .i64 0, .int .i64 2, .int .i64 2, .int .i64 2, .int .i64 1, .int .i64 1] 206)).drewN n)) :=
    fun n => below_drewN' (((Below.refl _ w).alloc (Nat.le_refl _) _).alloc (by simp) _) n
  have q : ((l : Int) == 2) = false := by simp; omega
  have Q : Hid ((l == manyOfX 2) = false) := by rw [Hid]; unfold manyOfX; simp; omega
  clear hl _hR
  go_enter Tryz.func71, Tryz.ntmps71
  go_wp2_with fail
  go_quiet (fail)
  go_wp2_with fail
  all_goals go_ret
  all_goals exact ⟨ret_bool' (by unfold rightX; rw [Q.out]; simp), HB.out _⟩

set_option maxRecDepth 100000 in
set_option maxHeartbeats 8000000 in
theorem right34_no3 (m : Nat) (is : List (FT m)) (a1 : Option Addr) (c1 : Nat) (a : Option Addr) (l c : Nat) (lo hi : Int) (ls hs op : Bool) (w : World) (_hR : FRow w w.heap.size m a1 is) (hl : l ≠ 2) :
    Calls Tryz.prog 71 #[.agg #[.int .u8 3, .slice a1 is.length c1, .slice a l c, .int .i64 lo, .bool ls, .int .i64 hi, .bool hs, .bool op]] w fun e w' => e = .returned (.bool (rightX 3 is l ⟨lo, ls, hi, hs, op⟩)) ∧ Below w.heap.size w w' := by
  have HB : Hid (∀ n : Nat, Below w.heap.size w (((w.alloc (.cells #[.int .u8 3, .slice a1 is.length c1, .slice a l c, .int .i64 lo, .bool ls, .int .i64 hi, .bool hs, .bool op] 47)).alloc (.cells #[.int .i64 0, .int .i64 0, .int .i64 2, .int .i64 2, .int .i64 2, .int .i64 1, .int .i64 1] 206)).drewN n)) :=
    fun n => below_drewN' (((Below.refl _ w).alloc (Nat.le_refl _) _).alloc (by simp) _) n
  have q : ((l : Int) == 2) = false := by simp; omega
  have Q : Hid ((l == manyOfX 3) = false) := by rw [Hid]; unfold manyOfX; simp; omega
  clear hl _hR
  go_enter Tryz.func71, Tryz.ntmps71
  go_wp2_with fail
  go_quiet (fail)
  go_wp2_with fail
  all_goals go_ret
  all_goals exact ⟨ret_bool' (by unfold rightX; rw [Q.out]; simp), HB.out _⟩

set_option maxRecDepth 100000 in
set_option maxHeartbeats 8000000 in
theorem right34_no4 (m : Nat) (is : List (FT m)) (a1 : Option Addr) (c1 : Nat) (a : Option Addr) (l c : Nat) (lo hi : Int) (ls hs op : Bool) (w : World) (_hR : FRow w w.heap.size m a1 is) (hl : l ≠ 2) :
    Calls Tryz.prog 71 #[.agg #[.int .u8 4, .slice a1 is.length c1, .slice a l c, .int .i64 lo, .bool ls, .int .i64 hi, .bool hs, .bool op]] w fun e w' => e = .returned (.bool (rightX 4 is l ⟨lo, ls, hi, hs, op⟩)) ∧ Below w.heap.size w w' := by
  have HB : Hid (∀ n : Nat, Below w.heap.size w (((w.alloc (.cells #[.int .u8 4, .slice a1 is.length c1, .slice a l c, .int .i64 lo, .bool ls, .int .i64 hi, .bool hs, .bool op] 47)).alloc (.cells #[.int .i64 0, .int .i64 0, .int .i64 2, .int .i64 2, .int .i64 2, .int .i64 1, .int .i64 1] 206)).drewN n)) :=
    fun n => below_drewN' (((Below.refl _ w).alloc (Nat.le_refl _) _).alloc (by simp) _) n
  have q : ((l : Int) == 2) = false := by simp; omega
  have Q : Hid ((l == manyOfX 4) = false) := by rw [Hid]; unfold manyOfX; simp; omega
  clear hl _hR
  go_enter Tryz.func71, Tryz.ntmps71
  go_wp2_with fail
  go_quiet (fail)
  go_wp2_with fail
  all_goals go_ret
  all_goals exact ⟨ret_bool' (by unfold rightX; rw [Q.out]; simp), HB.out _⟩

set_option maxRecDepth 100000 in
set_option maxHeartbeats 8000000 in
theorem right34_no5 (m : Nat) (is : List (FT m)) (a1 : Option Addr) (c1 : Nat) (a : Option Addr) (l c : Nat) (lo hi : Int) (ls hs op : Bool) (w : World) (_hR : FRow w w.heap.size m a1 is) (hl : l ≠ 1) :
    Calls Tryz.prog 71 #[.agg #[.int .u8 5, .slice a1 is.length c1, .slice a l c, .int .i64 lo, .bool ls, .int .i64 hi, .bool hs, .bool op]] w fun e w' => e = .returned (.bool (rightX 5 is l ⟨lo, ls, hi, hs, op⟩)) ∧ Below w.heap.size w w' := by
  have HB : Hid (∀ n : Nat, Below w.heap.size w (((w.alloc (.cells #[.int .u8 5, .slice a1 is.length c1, .slice a l c, .int .i64 lo, .bool ls, .int .i64 hi, .bool hs, .bool op] 47)).alloc (.cells #[.int .i64 0, .int .i64 0, .int .i64 2, .int .i64 2, .int .i64 2, .int .i64 1, .int .i64 1] 206)).drewN n)) :=
    fun n => below_drewN' (((Below.refl _ w).alloc (Nat.le_refl _) _).alloc (by simp) _) n
  have q : ((l : Int) == 1) = false := by simp; omega
  have Q : Hid ((l == manyOfX 5) = false) := by rw [Hid]; unfold manyOfX; simp; omega
  clear hl _hR
  go_enter Tryz.func71, Tryz.ntmps71
  go_wp2_with fail
  go_quiet (fail)
  go_wp2_with fail
  all_goals go_ret
  all_goals exact ⟨ret_bool' (by unfold rightX; rw [Q.out]; simp), HB.out _⟩

set_option maxRecDepth 100000 in
set_option maxHeartbeats 8000000 in
theorem right34_no6 (m : Nat) (is : List (FT m)) (a1 : Option Addr) (c1 : Nat) (a : Option Addr) (l c : Nat) (lo hi : Int) (ls hs op : Bool) (w : World) (_hR : FRow w w.heap.size m a1 is) (hl : l ≠ 1) :
    Calls Tryz.prog 71 #[.agg #[.int .u8 6, .slice a1 is.length c1, .slice a l c, .int .i64 lo, .bool ls, .int .i64 hi, .bool hs, .bool op]] w fun e w' => e = .returned (.bool (rightX 6 is l ⟨lo, ls, hi, hs, op⟩)) ∧ Below w.heap.size w w' := by
  have HB : Hid (∀ n : Nat, Below w.heap.size w (((w.alloc (.cells #[.int .u8 6, .slice a1 is.length c1, .slice a l c, .int .i64 lo, .bool ls, .int .i64 hi, .bool hs, .bool op] 47)).alloc (.cells #[.int .i64 0, .int .i64 0, .int .i64 2, .int .i64 2, .int .i64 2, .int .i64 1, .int .i64 1] 206)).drewN n)) :=
    fun n => below_drewN' (((Below.refl _ w).alloc (Nat.le_refl _) _).alloc (by simp) _) n
  have q : ((l : Int) == 1) = false := by simp; omega
  have Q : Hid ((l == manyOfX 6) = false) := by rw [Hid]; unfold manyOfX; simp; omega
  clear hl _hR
  go_enter Tryz.func71, Tryz.ntmps71
  go_wp2_with fail
  go_quiet (fail)
  go_wp2_with fail
  all_goals go_ret
  all_goals exact ⟨ret_bool' (by unfold rightX; rw [Q.out]; simp), HB.out _⟩

set_option maxRecDepth 100000 in
set_option maxHeartbeats 8000000 in
theorem right34_at2 (m : Nat) (is : List (FT m)) (a1 : Option Addr) (c1 : Nat) (a : Option Addr) (l c : Nat) (lo hi : Int) (ls hs op : Bool) (w : World) (_hR : FRow w w.heap.size m a1 is) (hl : l = 2) :
    Calls Tryz.prog 71 #[.agg #[.int .u8 2, .slice a1 is.length c1, .slice a l c, .int .i64 lo, .bool ls, .int .i64 hi, .bool hs, .bool op]] w fun e w' => e = .returned (.bool (rightX 2 is l ⟨lo, ls, hi, hs, op⟩)) ∧ Below w.heap.size w w' := by
  subst hl
  have HB : Hid (∀ n : Nat, Below w.heap.size w (((w.alloc (.cells #[.int .u8 2, .slice a1 is.length c1, .slice a 2 c, .int .i64 lo, .bool ls, .int .i64 hi, .bool hs, .bool op] 47)).alloc (.cells #[.int .i64 0, .int .i64 0, .int .i64 2, .int .i64 2, .int .i64 2, .int .i64 1, .int .i64 1] 206)).drewN n)) :=
    fun n => below_drewN' (((Below.refl _ w).alloc (Nat.le_refl _) _).alloc (by simp) _) n
  clear _hR
  go_enter Tryz.func71, Tryz.ntmps71
  go_wp2_with fail
  go_quiet (fail)
  go_wp2_with fail
  all_goals go_ret
  all_goals exact ⟨ret_bool' (by unfold rightX manyOfX noSpan; simp_all [len0]), below_drewN' (((Below.refl _ w).alloc (Nat.le_refl _) _).alloc (by simp) _) _⟩

set_option maxRecDepth 100000 in
set_option maxHeartbeats 8000000 in
theorem right34_at3 (m : Nat) (is : List (FT m)) (a1 : Option Addr) (c1 : Nat) (a : Option Addr) (l c : Nat) (lo hi : Int) (ls hs op : Bool) (w : World) (_hR : FRow w w.heap.size m a1 is) (hl : l = 2) :
    Calls Tryz.prog 71 #[.agg #[.int .u8 3, .slice a1 is.length c1, .slice a l c, .int .i64 lo, .bool ls, .int .i64 hi, .bool hs, .bool op]] w fun e w' => e = .returned (.bool (rightX 3 is l ⟨lo, ls, hi, hs, op⟩)) ∧ Below w.heap.size w w' := by
  subst hl
  have HB : Hid (∀ n : Nat, Below w.heap.size w (((w.alloc (.cells #[.int .u8 3, .slice a1 is.length c1, .slice a 2 c, .int .i64 lo, .bool ls, .int .i64 hi, .bool hs, .bool op] 47)).alloc (.cells #[.int .i64 0, .int .i64 0, .int .i64 2, .int .i64 2, .int .i64 2, .int .i64 1, .int .i64 1] 206)).drewN n)) :=
    fun n => below_drewN' (((Below.refl _ w).alloc (Nat.le_refl _) _).alloc (by simp) _) n
  clear _hR
  go_enter Tryz.func71, Tryz.ntmps71
  go_wp2_with fail
  go_quiet (fail)
  go_wp2_with fail
  all_goals go_ret
  all_goals exact ⟨ret_bool' (by unfold rightX manyOfX noSpan; simp_all [len0]), below_drewN' (((Below.refl _ w).alloc (Nat.le_refl _) _).alloc (by simp) _) _⟩

set_option maxRecDepth 100000 in
set_option maxHeartbeats 8000000 in
theorem right34_at4 (m : Nat) (is : List (FT m)) (a1 : Option Addr) (c1 : Nat) (a : Option Addr) (l c : Nat) (lo hi : Int) (ls hs op : Bool) (w : World) (_hR : FRow w w.heap.size m a1 is) (hl : l = 2) :
    Calls Tryz.prog 71 #[.agg #[.int .u8 4, .slice a1 is.length c1, .slice a l c, .int .i64 lo, .bool ls, .int .i64 hi, .bool hs, .bool op]] w fun e w' => e = .returned (.bool (rightX 4 is l ⟨lo, ls, hi, hs, op⟩)) ∧ Below w.heap.size w w' := by
  subst hl
  have HB : Hid (∀ n : Nat, Below w.heap.size w (((w.alloc (.cells #[.int .u8 4, .slice a1 is.length c1, .slice a 2 c, .int .i64 lo, .bool ls, .int .i64 hi, .bool hs, .bool op] 47)).alloc (.cells #[.int .i64 0, .int .i64 0, .int .i64 2, .int .i64 2, .int .i64 2, .int .i64 1, .int .i64 1] 206)).drewN n)) :=
    fun n => below_drewN' (((Below.refl _ w).alloc (Nat.le_refl _) _).alloc (by simp) _) n
  clear _hR
  go_enter Tryz.func71, Tryz.ntmps71
  go_wp2_with fail
  go_quiet (fail)
  go_wp2_with fail
  all_goals go_ret
  all_goals exact ⟨ret_bool' (by unfold rightX manyOfX noSpan; simp_all [len0]), below_drewN' (((Below.refl _ w).alloc (Nat.le_refl _) _).alloc (by simp) _) _⟩

set_option maxRecDepth 100000 in
set_option maxHeartbeats 8000000 in
theorem right34_at5 (m : Nat) (is : List (FT m)) (a1 : Option Addr) (c1 : Nat) (a : Option Addr) (l c : Nat) (lo hi : Int) (ls hs op : Bool) (w : World) (_hR : FRow w w.heap.size m a1 is) (hl : l = 1) :
    Calls Tryz.prog 71 #[.agg #[.int .u8 5, .slice a1 is.length c1, .slice a l c, .int .i64 lo, .bool ls, .int .i64 hi, .bool hs, .bool op]] w fun e w' => e = .returned (.bool (rightX 5 is l ⟨lo, ls, hi, hs, op⟩)) ∧ Below w.heap.size w w' := by
  subst hl
  have HB : Hid (∀ n : Nat, Below w.heap.size w (((w.alloc (.cells #[.int .u8 5, .slice a1 is.length c1, .slice a 1 c, .int .i64 lo, .bool ls, .int .i64 hi, .bool hs, .bool op] 47)).alloc (.cells #[.int .i64 0, .int .i64 0, .int .i64 2, .int .i64 2, .int .i64 2, .int .i64 1, .int .i64 1] 206)).drewN n)) :=
    fun n => below_drewN' (((Below.refl _ w).alloc (Nat.le_refl _) _).alloc (by simp) _) n
  clear _hR
  go_enter Tryz.func71, Tryz.ntmps71
  go_wp2_with fail
  go_quiet (fail)
  go_wp2_with fail
  all_goals go_ret
  all_goals exact ⟨ret_bool' (by unfold rightX manyOfX noSpan; simp_all [len0]), below_drewN' (((Below.refl _ w).alloc (Nat.le_refl _) _).alloc (by simp) _) _⟩

set_option maxRecDepth 100000 in
set_option maxHeartbeats 8000000 in
theorem right34_at6 (m : Nat) (is : List (FT m)) (a1 : Option Addr) (c1 : Nat) (a : Option Addr) (l c : Nat) (lo hi : Int) (ls hs op : Bool) (w : World) (_hR : FRow w w.heap.size m a1 is) (hl : l = 1) :
    Calls Tryz.prog 71 #[.agg #[.int .u8 6, .slice a1 is.length c1, .slice a l c, .int .i64 lo, .bool ls, .int .i64 hi, .bool hs, .bool op]] w fun e w' => e = .returned (.bool (rightX 6 is l ⟨lo, ls, hi, hs, op⟩)) ∧ Below w.heap.size w w' := by
  subst hl
  have HB : Hid (∀ n : Nat, Below w.heap.size w (((w.alloc (.cells #[.int .u8 6, .slice a1 is.length c1, .slice a 1 c, .int .i64 lo, .bool ls, .int .i64 hi, .bool hs, .bool op] 47)).alloc (.cells #[.int .i64 0, .int .i64 0, .int .i64 2, .int .i64 2, .int .i64 2, .int .i64 1, .int .i64 1] 206)).drewN n)) :=
    fun n => below_drewN' (((Below.refl _ w).alloc (Nat.le_refl _) _).alloc (by simp) _) n
  have HI := Lib.hid (interval9_any ⟨lo, ls, hi, hs, op⟩)
  have HE : Hid (∀ b, (ivR ⟨lo, ls, hi, hs, op⟩ == 8) = b → rightX 6 is 1 ⟨lo, ls, hi, hs, op⟩ = (!b && is.length == 0)) := by
    rintro b h; unfold rightX manyOfX; rw [h]; simp
  unfold Spn.val at HI
  dsimp only at HI
  generalize ivR ⟨lo, ls, hi, hs, op⟩ = iv at HI HE
  clear _hR
  cases q : iv == 8 with
  | true =>
    have HQ := Lib.hid (HE.out _ q)
    go_enter Tryz.func71, Tryz.ntmps71
    go_wp2_with fail
    go_quiet (fail)
    go_wp2_with fail
    refine (HI.out _).mono ?_
    rintro e w1 ⟨rfl, hb1⟩
    have HB1 := Lib.hid ((HB.out _).trans (hb1.mono (HB.out _).size))
    clear hb1
    go_wp2_with fail
    all_goals go_ret
    all_goals exact ⟨ret_bool' (by rw [HQ.out]; rfl), HB1.out⟩
  | false =>
    have HQ := Lib.hid (HE.out _ q)
    go_enter Tryz.func71, Tryz.ntmps71
    go_wp2_with fail
    go_quiet (fail)
    go_wp2_with fail
    refine (HI.out _).mono ?_
    rintro e w1 ⟨rfl, hb1⟩
    have HB1 := Lib.hid ((HB.out _).trans (hb1.mono (HB.out _).size))
    have x0 := (hb1.cell (p := ⟨w.heap.size, 0, none⟩) (by simp; omega))
    have x1 := (hb1.cell (p := ⟨w.heap.size, 1, none⟩) (by simp; omega))
    simp [World.cell?_alloc_at, World.cell?_drewN, World.cell?_alloc_past] at x0 x1
    clear hb1
    go_wp2_with fail
    all_goals go_ret
    all_goals exact ⟨ret_bool' (by rw [HQ.out, len0]; simp), HB1.out⟩

set_option maxRecDepth 100000 in
set_option maxHeartbeats 8000000 in
theorem right34_at1 (m : Nat) (is : List (FT m)) (a1 : Option Addr) (c1 : Nat) (a : Option Addr) (l c : Nat) (lo hi : Int) (ls hs op : Bool) (w : World) (hR : FRow w w.heap.size m a1 is) (hl : l = 0) :
    Calls Tryz.prog 71 #[.agg #[.int .u8 1, .slice a1 is.length c1, .slice a l c, .int .i64 lo, .bool ls, .int .i64 hi, .bool hs, .bool op]] w fun e w' => e = .returned (.bool (rightX 1 is l ⟨lo, ls, hi, hs, op⟩)) ∧ Below w.heap.size w w' := by
  subst hl
  have HB : Hid (∀ n : Nat, Below w.heap.size w (((w.alloc (.cells #[.int .u8 1, .slice a1 is.length c1, .slice a 0 c, .int .i64 lo, .bool ls, .int .i64 hi, .bool hs, .bool op] 47)).alloc (.cells #[.int .i64 0, .int .i64 0, .int .i64 2, .int .i64 2, .int .i64 2, .int .i64 1, .int .i64 1] 206)).drewN n)) :=
    fun n => below_drewN' (((Below.refl _ w).alloc (Nat.le_refl _) _).alloc (by simp) _) n
  have HR := Lib.hid hR
  by_cases hsp : (⟨lo, ls, hi, hs, op⟩ : Spn) = ⟨0, false, 0, false, false⟩
  · injection hsp with h1 h2 h3 h4 h5
    subst h1 h2 h3 h4 h5
    have HE : Hid (rightX 1 is 0 ⟨0, false, 0, false, false⟩ = ((is.length == 1) && is.all (allF rightB m))) := by
      rw [Hid]; unfold rightX manyOfX noSpan; simp
    by_cases h1 : is.length = 1
    · obtain ⟨f, rfl⟩ := List.length_eq_one_iff.1 h1
      have hbn := HB.out
      have HAT : Hid (∀ n, ∃ b off k s sa sl sc, a1 = some ⟨b, off, none⟩ ∧ b < w.heap.size ∧ w.cell? ⟨b, off, none⟩ = some (.int .u8 k) ∧ w.cell? ⟨b, off + 1, none⟩ = some (.string s) ∧
          w.cell? ⟨b, off + 2, none⟩ = some (.slice sa sl sc) ∧ Calls Tryz.prog 131 #[.agg #[.int .u8 k, .string s, .slice sa sl sc], .func (.func 132) #[] #[], .func (.func 140) #[] #[]] (((w.alloc (.cells #[.int .u8 1, .slice a1 1 c1, .slice a 0 c, .int .i64 0, .bool false, .int .i64 0, .bool false, .bool false] 47)).alloc (.cells #[.int .i64 0, .int .i64 0, .int .i64 2, .int .i64 2, .int .i64 2, .int .i64 1, .int .i64 1] 206)).drewN n) fun e w' => e = .returned (.bool (allF rightB m f)) ∧ Below (((w.alloc (.cells #[.int .u8 1, .slice a1 1 c1, .slice a 0 c, .int .i64 0, .bool false, .int .i64 0, .bool false, .bool false] 47)).alloc (.cells #[.int .i64 0, .int .i64 0, .int .i64 2, .int .i64 2, .int .i64 2, .int .i64 1, .int .i64 1] 206)).drewN n).heap.size (((w.alloc (.cells #[.int .u8 1, .slice a1 1 c1, .slice a 0 c, .int .i64 0, .bool false, .int .i64 0, .bool false, .bool false] 47)).alloc (.cells #[.int .i64 0, .int .i64 0, .int .i64 2, .int .i64 2, .int .i64 2, .int .i64 1, .int .i64 1] 206)).drewN n) w') := by
        intro n
        obtain ⟨b, off, k, s, sa, sl, sc, e, hb, g0, g1, g2, hr⟩ := FRow.at HR.out 0 (by simp)
        have hr' : FRep w w.heap.size m f (.agg #[.int .u8 k, .string s, .slice sa sl sc]) := hr
        exact ⟨b, off, k, s, sa, sl, sc, e, hb, by simpa using g0, by simpa using g1, by simpa using g2, all42_any rightB 140 #[] m f _ _ (hr'.up (hbn n) (hbn n).size) (so44 _)⟩
      have HFIN : Hid (rightX 1 [f] 0 ⟨0, false, 0, false, false⟩ = allF rightB m f) := by rw [Hid, HE.out]; simp
      clear h1 hR hbn
      simp only [List.length_cons, List.length_nil, Nat.zero_add] at HB ⊢
      go_enter Tryz.func71, Tryz.ntmps71
      go_wp2_with fail
      go_quiet (fail)
      obtain ⟨b, off, k, s, sa, sl, sc, rfl, hb, g0, g1, g2, hC⟩ := HAT.out nq
      have HC := Lib.hid hC
      have hb2 : b < w.heap.size + 1 := by omega
      clear hC
      go_wp2_with fail
      refine HC.out.mono ?_
      rintro e w1 ⟨rfl, hb1⟩
      have HB1 := Lib.hid ((HB.out _).trans (hb1.mono (HB.out _).size))
      clear hb1
      go_wp2_with fail
      all_goals go_ret
      all_goals exact ⟨ret_bool' (by rw [HFIN.out]), HB1.out⟩
    · have q : ((is.length : Int) == 1) = false := by simp; omega
      have HFIN : Hid (rightX 1 is 0 ⟨0, false, 0, false, false⟩ = false) := by rw [Hid, HE.out]; simp [h1]
      clear h1 hR
      go_enter Tryz.func71, Tryz.ntmps71
      go_wp2_with fail
      go_quiet (fail)
      go_wp2_with fail
      all_goals go_ret
      all_goals exact ⟨ret_bool' (by rw [HFIN.out]), HB.out _⟩
  · have HFIN : Hid (rightX 1 is 0 ⟨lo, ls, hi, hs, op⟩ = false) := by
      have : ((⟨lo, ls, hi, hs, op⟩ : Spn) != noSpan) = true := by simpa [noSpan] using hsp
      rw [Hid]; unfold rightX; rw [this]; simp
    have q := hsp
    rw [Spn.mk.injEq] at q
    clear hsp hR
    go_enter Tryz.func71, Tryz.ntmps71
    go_wp2_with fail
    go_quiet (fail)
    go_wp2_with fail
    all_goals first | (exfalso; simp_all; done) | skip
    all_goals go_ret
    all_goals exact ⟨ret_bool' (by rw [HFIN.out]), below_drewN' (((Below.refl _ w).alloc (Nat.le_refl _) _).alloc (by simp) _) _⟩

theorem so34 {m : Nat} (w : World) : SoX (m := m) w 71 #[] rightX := by
  intro n
  refine ⟨ent_of Tryz.func71 (by kernel_rfl) (by kernel_rfl), fun t v w' hb' hr => ?_⟩
  obtain ⟨k, is, of, lo, ls, hi, hs, op⟩ := t
  obtain ⟨a1, c1, a, c, rfl, hR, _⟩ := hr
  dsimp only at hR ⊢
  have hk : k < 1 ∨ k = 1 ∨ k = 2 ∨ k = 3 ∨ k = 4 ∨ k = 5 ∨ k = 6 ∨ 6 < k := by omega
  rcases hk with h | rfl | rfl | rfl | rfl | rfl | rfl | h
  · exact right34_low m k is a1 c1 a of.length c lo hi ls hs op w' h hR
  · by_cases hl : of.length = 0
    · exact right34_at1 m is a1 c1 a of.length c lo hi ls hs op w' hR hl
    · exact right34_no1 m is a1 c1 a of.length c lo hi ls hs op w' hR hl
  · by_cases hl : of.length = 2
    · exact right34_at2 m is a1 c1 a of.length c lo hi ls hs op w' hR hl
    · exact right34_no2 m is a1 c1 a of.length c lo hi ls hs op w' hR hl
  · by_cases hl : of.length = 2
    · exact right34_at3 m is a1 c1 a of.length c lo hi ls hs op w' hR hl
    · exact right34_no3 m is a1 c1 a of.length c lo hi ls hs op w' hR hl
  · by_cases hl : of.length = 2
    · exact right34_at4 m is a1 c1 a of.length c lo hi ls hs op w' hR hl
    · exact right34_no4 m is a1 c1 a of.length c lo hi ls hs op w' hR hl
  · by_cases hl : of.length = 1
    · exact right34_at5 m is a1 c1 a of.length c lo hi ls hs op w' hR hl
    · exact right34_no5 m is a1 c1 a of.length c lo hi ls hs op w' hR hl
  · by_cases hl : of.length = 1
    · exact right34_at6 m is a1 c1 a of.length c lo hi ls hs op w' hR hl
    · exact right34_no6 m is a1 c1 a of.length c lo hi ls hs op w' hR hl
  · exact right34_high m k is a1 c1 a of.length c lo hi ls hs op w' h hR
end Go.Proofs.YtockinpjfhhkoaaGreatDoor

/- Layer 16 walked: what Check hands on; Formula; Check. -/
namespace Go.Proofs.YtockinpjfhhkoaaGreatDoor
open Go.RowKit

set_option maxRecDepth 100000 in
set_option maxHeartbeats 4000000 in
theorem open38_any (m : Nat) (k : Int) (is : List (FT m)) (a1 : Option Addr) (c1 : Nat) (a : Option Addr) (l c : Nat) (lo hi : Int) (ls hs op : Bool) (w : World) :
    Calls Tryz.prog 75 #[.agg #[.int .u8 k, .slice a1 is.length c1, .slice a l c, .int .i64 lo, .bool ls, .int .i64 hi, .bool hs, .bool op]] w fun e w' => e = .returned (.bool (openX k is l ⟨lo, ls, hi, hs, op⟩)) ∧ Below w.heap.size w w' := by
  have hb : Below w.heap.size w (w.alloc (.cells #[.int .u8 k, .slice a1 is.length c1, .slice a l c, .int .i64 lo, .bool ls, .int .i64 hi, .bool hs, .bool op] 47)) := (Below.refl _ _).alloc (Nat.le_refl _) _
  have HI := Lib.hid (interval9_any ⟨lo, ls, hi, hs, op⟩)
  have HE : Hid (openX k is l ⟨lo, ls, hi, hs, op⟩ = (k != 6 || ivR ⟨lo, ls, hi, hs, op⟩ == 0)) := rfl
  unfold Spn.val at HI
  dsimp only at HI
  generalize ivR ⟨lo, ls, hi, hs, op⟩ = iv at HI HE
  have HB := Lib.hid hb
  clear hb
  cases q : k != 6 with
  | true =>
    have HQ := Lib.hid q
    go_enter Tryz.func75, Tryz.ntmps75
    go_wp2_with fail
    all_goals go_ret
    all_goals exact ⟨ret_bool' (by rw [HE.out, HQ.out]; rfl), HB.out⟩
  | false =>
    have HQ := Lib.hid q
    go_enter Tryz.func75, Tryz.ntmps75
    go_wp2_with fail
    refine (HI.out _).mono ?_
    rintro e w1 ⟨rfl, hb1⟩
    have HB1 := Lib.hid (HB.out.trans (hb1.mono HB.out.size))
    clear hb1
    go_wp2_with fail
    all_goals go_ret
    all_goals exact ⟨ret_bool' (by rw [HE.out, HQ.out]; rfl), HB1.out⟩
theorem so38 {m : Nat} (w : World) : SoX (m := m) w 75 #[] openX := by
  intro n
  refine ⟨ent_of Tryz.func75 (by kernel_rfl) (by kernel_rfl), fun t v w' hb' hr => ?_⟩
  obtain ⟨k, is, of, lo, ls, hi, hs, op⟩ := t
  obtain ⟨a1, c1, a, c, rfl, _, _⟩ := hr
  exact open38_any m k is a1 c1 a of.length c lo hi ls hs op w'

/-- The variable at block b bears the function value that tells whether a formula's names are declared: its own variable, at block b0, bears the names. -/
def Known (w : World) (names : List ByteArray) (b b0 : Nat) : Prop :=
  ∃ nv, b < w.heap.size ∧ b0 < w.heap.size ∧ w.cell? ⟨b, 0, none⟩ = some (.func (.func 130) #[] #[.pointer (some ⟨b0, 0, none⟩)]) ∧ w.cell? ⟨b0, 0, none⟩ = some nv ∧ NRep w w.heap.size nv names
theorem Known.up {w w' : World} {names : List ByteArray} {b b0 : Nat} (h : Known w names b b0) (hb : Below w.heap.size w w') : Known w' names b b0 := by
  obtain ⟨nv, h1, h2, h3, h4, h5⟩ := h
  have hz := hb.size
  exact ⟨nv, by omega, by omega, (hb.cell (p := ⟨b, 0, none⟩) h1).trans h3, (hb.cell (p := ⟨b0, 0, none⟩) h2).trans h4, h5.up hb hz⟩

set_option maxRecDepth 100000 in
set_option maxHeartbeats 4000000 in
theorem not37_any (names : List ByteArray) (b b0 n : Nat) (t : FT n) (v : Value) (w : World) (h : Known w names b b0) (hr : FRep w w.heap.size n t v) :
    Calls Tryz.prog 74 #[v, .pointer (some ⟨b, 0, none⟩)] w fun e w' => e = .returned (.bool (!allF (declB names) n t)) ∧ Below w.heap.size w w' := by
  obtain ⟨k, s, a, l, c, rfl⟩ := hr.shape
  have hbw : Below w.heap.size w (w.alloc (.cells #[.int .u8 k, .string s, .slice a l c] 25)) := (Below.refl _ _).alloc (Nat.le_refl _) _
  obtain ⟨nv, h1, h2, h3, h4, h5⟩ := h.up hbw
  have HD := Lib.hid (declared51_any names nv b0 n t _ _ h2 h4 h5 (hr.up hbw hbw.size))
  obtain ⟨_, g1, _, g3, _, _⟩ := h
  have HB := Lib.hid hbw
  clear h5 hr hbw h1 h2 h3 h4
  go_enter Tryz.func74, Tryz.ntmps74
  go_wp2_with fail
  refine HD.out.mono ?_
  rintro e w1 ⟨rfl, hb1⟩
  have HB1 := Lib.hid (HB.out.trans (hb1.mono HB.out.size))
  clear hb1
  go_wp2_with fail
  all_goals go_ret
  all_goals exact ⟨rfl, HB1.out⟩

set_option maxRecDepth 100000 in
set_option maxHeartbeats 4000000 in
theorem names35_any (m : Nat) (names : List ByteArray) (b b0 : Nat) (k : Int) (is : List (FT m)) (a1 : Option Addr) (c1 : Nat) (a : Option Addr) (l c : Nat) (lo hi : Int) (ls hs op : Bool) (w : World) (h : Known w names b b0) (hR : FRow w w.heap.size m a1 is) :
    Calls Tryz.prog 72 #[.agg #[.int .u8 k, .slice a1 is.length c1, .slice a l c, .int .i64 lo, .bool ls, .int .i64 hi, .bool hs, .bool op], .pointer (some ⟨b, 0, none⟩)] w fun e w' => e = .returned (.bool (namesX names k is l ⟨lo, ls, hi, hs, op⟩)) ∧ Below w.heap.size w w' := by
  have hmf : ∀ (fn : Fn) (first cap : Array Value) (w : World), (Instr.makeFunc fn first cap).run Tryz.prog w = .ok (.func fn first cap) w := fun _ _ _ _ => rfl
  have hb : Below w.heap.size w (w.alloc (.cells #[.int .u8 k, .slice a1 is.length c1, .slice a l c, .int .i64 lo, .bool ls, .int .i64 hi, .bool hs, .bool op] 47)) := (Below.refl _ _).alloc (Nat.le_refl _) _
  have HC := Lib.hid (contains36_any m is a1 c1 74 #[.pointer (some ⟨b, 0, none⟩)] (fun f => !allF (declB names) m f) _ (FRow.up hR hb hb.size)
    ⟨ent_of Tryz.func74 (by kernel_rfl) (by kernel_rfl), fun t v w' hb' hr => not37_any names b b0 m t v w' ((h.up hb).up hb') hr⟩)
  have HE : Hid (namesX names k is l ⟨lo, ls, hi, hs, op⟩ = !(is.any fun f => !allF (declB names) m f)) := by rw [Hid]; unfold namesX; rw [List.all_eq_not_any_not]
  have HB := Lib.hid hb
  clear hb hR h
  go_enter Tryz.func72, Tryz.ntmps72
  go_wp2_with fail
  refine HC.out.mono ?_
  rintro e w1 ⟨rfl, hb1⟩
  have HB1 := Lib.hid (HB.out.trans (hb1.mono HB.out.size))
  clear hb1
  go_wp2_with fail
  all_goals go_ret
  all_goals exact ⟨ret_bool' (by rw [HE.out]), HB1.out⟩
theorem so35 {m : Nat} (names : List ByteArray) (b b0 : Nat) (w : World) (h : Known w names b b0) : SoX (m := m) w 72 #[.pointer (some ⟨b, 0, none⟩)] (namesX names) := by
  intro n
  refine ⟨ent_of Tryz.func72 (by kernel_rfl) (by kernel_rfl), fun t v w' hb' hr => ?_⟩
  obtain ⟨k, is, of, lo, ls, hi, hs, op⟩ := t
  obtain ⟨a1, c1, a, c, rfl, hR, _⟩ := hr
  exact names35_any m names b b0 k is a1 c1 a of.length c lo hi ls hs op w' (h.up hb') hR
end Go.Proofs.YtockinpjfhhkoaaGreatDoor
