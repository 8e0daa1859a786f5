/- Layer 16 walked: formulas that are made right, but for their parts. -/
import Derived.Deep.QuietTactic
import Derived.BigQuiet
import Derived.Test.YtpgdplmndnopbaaGreatDoorMgB
import Derived.Test.YtpgdplmndnopbaaGreatDoorMgM
namespace Go.Proofs.YtpgdplmndnopbaaGreatDoor
open Go.RowKit
theorem below_drewN' {w w' : World} {B : Nat} (h : Below B w w') (k : Nat) : Below B w (w'.drewN k) := h.trans ⟨rfl, rfl, rfl, Nat.le_refl _, fun _ _ => rfl⟩
theorem empty_size (s : ByteArray) : (s.toList == []) = decide (s.size = 0) := by
 rw [Bool.eq_iff_iff, beq_iff_eq, decide_eq_true_eq, ByteArray.toList_eq]
 constructor
 ·intro h
  have : s.data.toList.length = 0 := by rw [h]; rfl
  simpa using this
 ·intro h
  have : s.data.toList.length = 0 := by simpa using h
  exact List.eq_nil_of_length_eq_zero this
set_option maxRecDepth 100000 in
set_option maxHeartbeats 8000000 in
theorem right44_any (k : Int) (s : ByteArray) (a : Option Addr) (l c : Nat) (w : World) :
 Calls Tryz.prog 110 #[.agg #[.int .u8 k, .string s, .slice a l c]] w fun e w' => e = .returned (.bool (rightB k s l)) ∧ Below w.heap.size w w' := by
 have HS := Lib.hid (empty_size s)
 have HB : Hid (∀ n : Nat, Below w.heap.size w (((w.alloc (.cells #[.int .u8 k, .string s, .slice a l c] 61)).alloc (.cells #[.int .i64 0, .int .i64 0, .int .i64 0, .int .i64 0, .int .i64 1, .int .i64 2, .int .i64 2] 109)).drewN n)) :=
  fun n => below_drewN' (((Below.refl _ w).alloc (Nat.le_refl _) _).alloc (by simp) _) n
 have hk : k < 1 ∨ k = 1 ∨ k = 2 ∨ k = 3 ∨ k = 4 ∨ k = 5 ∨ k = 6 ∨ 6 < k := by omega
 rcases hk with h | rfl | rfl | rfl | rfl | rfl | rfl | h
 ·have q : decide (1 ≤ k) = false := by simp; omega
  have Q := Lib.hid q
  clear h
  go_enter Tryz.func110, Tryz.ntmps110
  go_wp2_with fail
  go_quiet (fail)
  go_wp2_with fail
  all_goals go_ret
  all_goals exact ⟨ret_bool' (by unfold rightB; rw [Q.out]; rfl), HB.out _⟩
 ·by_cases hl : l = 0
  ·subst hl
   cases q : (s.toList == [])
   all_goals
    have Q := Lib.hid (HS.out.symm.trans q)
    go_enter Tryz.func110, Tryz.ntmps110
    go_wp2_with fail
    go_quiet (fail)
    go_wp2_with fail
    all_goals go_ret
    all_goals exact ⟨ret_bool' (by unfold rightB manyOf; rw [Q.out]; rfl), HB.out _⟩
  ·have q : ((l : Int) == 0) = false := by simp; omega
   have Q : Hid ((l == 0) = false) := by rw [Hid]; simp; omega
   clear hl
   go_enter Tryz.func110, Tryz.ntmps110
   go_wp2_with fail
   go_quiet (fail)
   go_wp2_with fail
   all_goals go_ret
   all_goals exact ⟨ret_bool' (by unfold rightB manyOf; have := Q.out; simp [this]), HB.out _⟩
 ·by_cases hl : l = 0
  ·subst hl
   cases q : (s.toList == [])
   all_goals
    have Q := Lib.hid (HS.out.symm.trans q)
    go_enter Tryz.func110, Tryz.ntmps110
    go_wp2_with fail
    go_quiet (fail)
    go_wp2_with fail
    all_goals go_ret
    all_goals exact ⟨ret_bool' (by unfold rightB manyOf; rw [Q.out]; rfl), HB.out _⟩
  ·have q : ((l : Int) == 0) = false := by simp; omega
   have Q : Hid ((l == 0) = false) := by rw [Hid]; simp; omega
   clear hl
   go_enter Tryz.func110, Tryz.ntmps110
   go_wp2_with fail
   go_quiet (fail)
   go_wp2_with fail
   all_goals go_ret
   all_goals exact ⟨ret_bool' (by unfold rightB manyOf; have := Q.out; simp [this]), HB.out _⟩
 ·by_cases hl : l = 0
  ·subst hl
   cases q : (s.toList == [])
   all_goals
    have Q := Lib.hid (HS.out.symm.trans q)
    go_enter Tryz.func110, Tryz.ntmps110
    go_wp2_with fail
    go_quiet (fail)
    go_wp2_with fail
    all_goals go_ret
    all_goals exact ⟨ret_bool' (by unfold rightB manyOf; rw [Q.out]; rfl), HB.out _⟩
  ·have q : ((l : Int) == 0) = false := by simp; omega
   have Q : Hid ((l == 0) = false) := by rw [Hid]; simp; omega
   clear hl
   go_enter Tryz.func110, Tryz.ntmps110
   go_wp2_with fail
   go_quiet (fail)
   go_wp2_with fail
   all_goals go_ret
   all_goals exact ⟨ret_bool' (by unfold rightB manyOf; have := Q.out; simp [this]), HB.out _⟩
 ·by_cases hl : l = 1
  ·subst hl
   cases q : (s.toList == [])
   all_goals
    have Q := Lib.hid (HS.out.symm.trans q)
    go_enter Tryz.func110, Tryz.ntmps110
    go_wp2_with fail
    go_quiet (fail)
    go_wp2_with fail
    all_goals go_ret
    all_goals exact ⟨ret_bool' (by unfold rightB manyOf; rw [Q.out]; rfl), HB.out _⟩
  ·have q : ((l : Int) == 1) = false := by simp; omega
   have Q : Hid ((l == 1) = false) := by rw [Hid]; simp; omega
   clear hl
   go_enter Tryz.func110, Tryz.ntmps110
   go_wp2_with fail
   go_quiet (fail)
   go_wp2_with fail
   all_goals go_ret
   all_goals exact ⟨ret_bool' (by unfold rightB manyOf; have := Q.out; simp [this]), HB.out _⟩
 ·by_cases hl : l = 2
  ·subst hl
   cases q : (s.toList == [])
   all_goals
    have Q := Lib.hid (HS.out.symm.trans q)
    go_enter Tryz.func110, Tryz.ntmps110
    go_wp2_with fail
    go_quiet (fail)
    go_wp2_with fail
    all_goals go_ret
    all_goals exact ⟨ret_bool' (by unfold rightB manyOf; rw [Q.out]; rfl), HB.out _⟩
  ·have q : ((l : Int) == 2) = false := by simp; omega
   have Q : Hid ((l == 2) = false) := by rw [Hid]; simp; omega
   clear hl
   go_enter Tryz.func110, Tryz.ntmps110
   go_wp2_with fail
   go_quiet (fail)
   go_wp2_with fail
   all_goals go_ret
   all_goals exact ⟨ret_bool' (by unfold rightB manyOf; have := Q.out; simp [this]), HB.out _⟩
 ·by_cases hl : l = 2
  ·subst hl
   cases q : (s.toList == [])
   all_goals
    have Q := Lib.hid (HS.out.symm.trans q)
    go_enter Tryz.func110, Tryz.ntmps110
    go_wp2_with fail
    go_quiet (fail)
    go_wp2_with fail
    all_goals go_ret
    all_goals exact ⟨ret_bool' (by unfold rightB manyOf; rw [Q.out]; rfl), HB.out _⟩
  ·have q : ((l : Int) == 2) = false := by simp; omega
   have Q : Hid ((l == 2) = false) := by rw [Hid]; simp; omega
   clear hl
   go_enter Tryz.func110, Tryz.ntmps110
   go_wp2_with fail
   go_quiet (fail)
   go_wp2_with fail
   all_goals go_ret
   all_goals exact ⟨ret_bool' (by unfold rightB manyOf; have := Q.out; simp [this]), HB.out _⟩
 ·have q : decide (1 ≤ k) = true := by simp; omega
  have q2 : decide (k ≤ 6) = false := by simp; omega
  have Q := Lib.hid q2
  clear h
  go_enter Tryz.func110, Tryz.ntmps110
  go_wp2_with fail
  go_quiet (fail)
  go_wp2_with fail
  all_goals go_ret
  all_goals exact ⟨ret_bool' (by unfold rightB; rw [Q.out]; simp), HB.out _⟩
theorem so44 (w : World) : SoF w 110 #[] rightB := by
 intro n
 refine ⟨ent_of Tryz.func110 (by kernel_rfl) (by kernel_rfl), fun t v w' hb' hr => ?_⟩
 obtain ⟨k, s, of⟩ := t
 obtain ⟨a, c, rfl, _⟩ := hr
 exact right44_any k s a of.length c w'
end Go.Proofs.YtpgdplmndnopbaaGreatDoor

/- Layer 16 walked: expressions that are made right, but for their parts; the other function values that Check hands on. -/
namespace Go.Proofs.YtpgdplmndnopbaaGreatDoor
open Go.RowKit
theorem len0 (n : Nat) : ((n : Int) == 0) = (n == 0) := by rw [Bool.eq_iff_iff]; simp
set_option maxRecDepth 100000 in
set_option maxHeartbeats 8000000 in
theorem right34_low (m : Nat) (k : Int) (is : List (FT m)) (a1 : Option Addr) (c1 : Nat) (a : Option Addr) (l c : Nat) (lo hi : Int) (ls hs op : Bool) (w : World) (hk : k < 1) (_hR : FRow w w.heap.size m a1 is) :
 Calls Tryz.prog 53 #[.agg #[.int .u8 k, .slice a1 is.length c1, .slice a l c, .int .i64 lo, .bool ls, .int .i64 hi, .bool hs, .bool op]] w fun e w' => e = .returned (.bool (rightX k is l ⟨lo, ls, hi, hs, op⟩)) ∧ Below w.heap.size w w' := by
 have HB : Hid (∀ n : Nat, Below w.heap.size w (((w.alloc (.cells #[.int .u8 k, .slice a1 is.length c1, .slice a l c, .int .i64 lo, .bool ls, .int .i64 hi, .bool hs, .bool op] 28)).alloc (.cells #[.int .i64 0, .int .i64 0, .int .i64 2, .int .i64 2, .int .i64 2, .int .i64 1, .int .i64 1] 109)).drewN n)) :=
  fun n => below_drewN' (((Below.refl _ w).alloc (Nat.le_refl _) _).alloc (by simp) _) n
 have q : decide (k < 1) = true := by simp; omega
 have Q : Hid (decide (1 ≤ k) = false) := by rw [Hid]; simp; omega
 clear _hR
 go_enter Tryz.func53, Tryz.ntmps53
 go_wp2_with fail
 go_quiet (fail)
 go_wp2_with fail
 all_goals go_ret
 all_goals exact ⟨ret_bool' (by unfold rightX; rw [Q.out]; simp), HB.out _⟩
set_option maxRecDepth 100000 in
set_option maxHeartbeats 8000000 in
theorem right34_high (m : Nat) (k : Int) (is : List (FT m)) (a1 : Option Addr) (c1 : Nat) (a : Option Addr) (l c : Nat) (lo hi : Int) (ls hs op : Bool) (w : World) (hk : 6 < k) (_hR : FRow w w.heap.size m a1 is) :
 Calls Tryz.prog 53 #[.agg #[.int .u8 k, .slice a1 is.length c1, .slice a l c, .int .i64 lo, .bool ls, .int .i64 hi, .bool hs, .bool op]] w fun e w' => e = .returned (.bool (rightX k is l ⟨lo, ls, hi, hs, op⟩)) ∧ Below w.heap.size w w' := by
 have HB : Hid (∀ n : Nat, Below w.heap.size w (((w.alloc (.cells #[.int .u8 k, .slice a1 is.length c1, .slice a l c, .int .i64 lo, .bool ls, .int .i64 hi, .bool hs, .bool op] 28)).alloc (.cells #[.int .i64 0, .int .i64 0, .int .i64 2, .int .i64 2, .int .i64 2, .int .i64 1, .int .i64 1] 109)).drewN n)) :=
  fun n => below_drewN' (((Below.refl _ w).alloc (Nat.le_refl _) _).alloc (by simp) _) n
 have q0 : decide (k < 1) = false := by simp; omega
 have q : decide (6 < k) = true := by simp; omega
 have Q : Hid (decide (k ≤ 6) = false) := by rw [Hid]; simp; omega
 clear _hR
 go_enter Tryz.func53, Tryz.ntmps53
 go_wp2_with fail
 go_quiet (fail)
 go_wp2_with fail
 all_goals go_ret
 all_goals exact ⟨ret_bool' (by unfold rightX; rw [Q.out]; simp), HB.out _⟩
set_option maxRecDepth 100000 in
set_option maxHeartbeats 8000000 in
theorem right34_no1 (m : Nat) (is : List (FT m)) (a1 : Option Addr) (c1 : Nat) (a : Option Addr) (l c : Nat) (lo hi : Int) (ls hs op : Bool) (w : World) (_hR : FRow w w.heap.size m a1 is) (hl : l ≠ 0) :
 Calls Tryz.prog 53 #[.agg #[.int .u8 1, .slice a1 is.length c1, .slice a l c, .int .i64 lo, .bool ls, .int .i64 hi, .bool hs, .bool op]] w fun e w' => e = .returned (.bool (rightX 1 is l ⟨lo, ls, hi, hs, op⟩)) ∧ Below w.heap.size w w' := by
 have HB : Hid (∀ n : Nat, Below w.heap.size w (((w.alloc (.cells #[.int .u8 1, .slice a1 is.length c1, .slice a l c, .int .i64 lo, .bool ls, .int .i64 hi, .bool hs, .bool op] 28)).alloc (.cells #[.int .i64 0, .int .i64 0, .int .i64 2, .int .i64 2, .int .i64 2, .int .i64 1, .int .i64 1] 109)).drewN n)) :=
  fun n => below_drewN' (((Below.refl _ w).alloc (Nat.le_refl _) _).alloc (by simp) _) n
 have q : ((l : Int) == 0) = false := by simp; omega
 have Q : Hid ((l == manyOfX 1) = false) := by rw [Hid]; unfold manyOfX; simp; omega
 clear hl _hR
 go_enter Tryz.func53, Tryz.ntmps53
 go_wp2_with fail
 go_quiet (fail)
 go_wp2_with fail
 all_goals go_ret
 all_goals exact ⟨ret_bool' (by unfold rightX; rw [Q.out]; simp), HB.out _⟩
set_option maxRecDepth 100000 in
set_option maxHeartbeats 8000000 in
theorem right34_no2 (m : Nat) (is : List (FT m)) (a1 : Option Addr) (c1 : Nat) (a : Option Addr) (l c : Nat) (lo hi : Int) (ls hs op : Bool) (w : World) (_hR : FRow w w.heap.size m a1 is) (hl : l ≠ 2) :
 Calls Tryz.prog 53 #[.agg #[.int .u8 2, .slice a1 is.length c1, .slice a l c, .int .i64 lo, .bool ls, .int .i64 hi, .bool hs, .bool op]] w fun e w' => e = .returned (.bool (rightX 2 is l ⟨lo, ls, hi, hs, op⟩)) ∧ Below w.heap.size w w' := by
 have HB : Hid (∀ n : Nat, Below w.heap.size w (((w.alloc (.cells #[.int .u8 2, .slice a1 is.length c1, .slice a l c, .int .i64 lo, .bool ls, .int .i64 hi, .bool hs, .bool op] 28)).alloc (.cells #[.int .i64 0, .int .i64 0, .int .i64 2, .int .i64 2, .int .i64 2, .int .i64 1, .int .i64 1] 109)).drewN n)) :=
  fun n => below_drewN' (((Below.refl _ w).alloc (Nat.le_refl _) _).alloc (by simp) _) n
 have q : ((l : Int) == 2) = false := by simp; omega
 have Q : Hid ((l == manyOfX 2) = false) := by rw [Hid]; unfold manyOfX; simp; omega
 clear hl _hR
 go_enter Tryz.func53, Tryz.ntmps53
 go_wp2_with fail
 go_quiet (fail)
 go_wp2_with fail
 all_goals go_ret
 all_goals exact ⟨ret_bool' (by unfold rightX; rw [Q.out]; simp), HB.out _⟩
set_option maxRecDepth 100000 in
set_option maxHeartbeats 8000000 in
theorem right34_no3 (m : Nat) (is : List (FT m)) (a1 : Option Addr) (c1 : Nat) (a : Option Addr) (l c : Nat) (lo hi : Int) (ls hs op : Bool) (w : World) (_hR : FRow w w.heap.size m a1 is) (hl : l ≠ 2) :
 Calls Tryz.prog 53 #[.agg #[.int .u8 3, .slice a1 is.length c1, .slice a l c, .int .i64 lo, .bool ls, .int .i64 hi, .bool hs, .bool op]] w fun e w' => e = .returned (.bool (rightX 3 is l ⟨lo, ls, hi, hs, op⟩)) ∧ Below w.heap.size w w' := by
 have HB : Hid (∀ n : Nat, Below w.heap.size w (((w.alloc (.cells #[.int .u8 3, .slice a1 is.length c1, .slice a l c, .int .i64 lo, .bool ls, .int .i64 hi, .bool hs, .bool op] 28)).alloc (.cells #[.int .i64 0, .int .i64 0, .int .i64 2, .int .i64 2, .int .i64 2, .int .i64 1, .int .i64 1] 109)).drewN n)) :=
  fun n => below_drewN' (((Below.refl _ w).alloc (Nat.le_refl _) _).alloc (by simp) _) n
 have q : ((l : Int) == 2) = false := by simp; omega
 have Q : Hid ((l == manyOfX 3) = false) := by rw [Hid]; unfold manyOfX; simp; omega
 clear hl _hR
 go_enter Tryz.func53, Tryz.ntmps53
 go_wp2_with fail
 go_quiet (fail)
 go_wp2_with fail
 all_goals go_ret
 all_goals exact ⟨ret_bool' (by unfold rightX; rw [Q.out]; simp), HB.out _⟩
set_option maxRecDepth 100000 in
set_option maxHeartbeats 8000000 in
theorem right34_no4 (m : Nat) (is : List (FT m)) (a1 : Option Addr) (c1 : Nat) (a : Option Addr) (l c : Nat) (lo hi : Int) (ls hs op : Bool) (w : World) (_hR : FRow w w.heap.size m a1 is) (hl : l ≠ 2) :
 Calls Tryz.prog 53 #[.agg #[.int .u8 4, .slice a1 is.length c1, .slice a l c, .int .i64 lo, .bool ls, .int .i64 hi, .bool hs, .bool op]] w fun e w' => e = .returned (.bool (rightX 4 is l ⟨lo, ls, hi, hs, op⟩)) ∧ Below w.heap.size w w' := by
 have HB : Hid (∀ n : Nat, Below w.heap.size w (((w.alloc (.cells #[.int .u8 4, .slice a1 is.length c1, .slice a l c, .int .i64 lo, .bool ls, .int .i64 hi, .bool hs, .bool op] 28)).alloc (.cells #[.int .i64 0, .int .i64 0, .int .i64 2, .int .i64 2, .int .i64 2, .int .i64 1, .int .i64 1] 109)).drewN n)) :=
  fun n => below_drewN' (((Below.refl _ w).alloc (Nat.le_refl _) _).alloc (by simp) _) n
 have q : ((l : Int) == 2) = false := by simp; omega
 have Q : Hid ((l == manyOfX 4) = false) := by rw [Hid]; unfold manyOfX; simp; omega
 clear hl _hR
 go_enter Tryz.func53, Tryz.ntmps53
 go_wp2_with fail
 go_quiet (fail)
 go_wp2_with fail
 all_goals go_ret
 all_goals exact ⟨ret_bool' (by unfold rightX; rw [Q.out]; simp), HB.out _⟩
set_option maxRecDepth 100000 in
set_option maxHeartbeats 8000000 in
theorem right34_no5 (m : Nat) (is : List (FT m)) (a1 : Option Addr) (c1 : Nat) (a : Option Addr) (l c : Nat) (lo hi : Int) (ls hs op : Bool) (w : World) (_hR : FRow w w.heap.size m a1 is) (hl : l ≠ 1) :
 Calls Tryz.prog 53 #[.agg #[.int .u8 5, .slice a1 is.length c1, .slice a l c, .int .i64 lo, .bool ls, .int .i64 hi, .bool hs, .bool op]] w fun e w' => e = .returned (.bool (rightX 5 is l ⟨lo, ls, hi, hs, op⟩)) ∧ Below w.heap.size w w' := by
 have HB : Hid (∀ n : Nat, Below w.heap.size w (((w.alloc (.cells #[.int .u8 5, .slice a1 is.length c1, .slice a l c, .int .i64 lo, .bool ls, .int .i64 hi, .bool hs, .bool op] 28)).alloc (.cells #[.int .i64 0, .int .i64 0, .int .i64 2, .int .i64 2, .int .i64 2, .int .i64 1, .int .i64 1] 109)).drewN n)) :=
  fun n => below_drewN' (((Below.refl _ w).alloc (Nat.le_refl _) _).alloc (by simp) _) n
 have q : ((l : Int) == 1) = false := by simp; omega
 have Q : Hid ((l == manyOfX 5) = false) := by rw [Hid]; unfold manyOfX; simp; omega
 clear hl _hR
 go_enter Tryz.func53, Tryz.ntmps53
 go_wp2_with fail
 go_quiet (fail)
 go_wp2_with fail
 all_goals go_ret
 all_goals exact ⟨ret_bool' (by unfold rightX; rw [Q.out]; simp), HB.out _⟩
set_option maxRecDepth 100000 in
set_option maxHeartbeats 8000000 in
theorem right34_no6 (m : Nat) (is : List (FT m)) (a1 : Option Addr) (c1 : Nat) (a : Option Addr) (l c : Nat) (lo hi : Int) (ls hs op : Bool) (w : World) (_hR : FRow w w.heap.size m a1 is) (hl : l ≠ 1) :
 Calls Tryz.prog 53 #[.agg #[.int .u8 6, .slice a1 is.length c1, .slice a l c, .int .i64 lo, .bool ls, .int .i64 hi, .bool hs, .bool op]] w fun e w' => e = .returned (.bool (rightX 6 is l ⟨lo, ls, hi, hs, op⟩)) ∧ Below w.heap.size w w' := by
 have HB : Hid (∀ n : Nat, Below w.heap.size w (((w.alloc (.cells #[.int .u8 6, .slice a1 is.length c1, .slice a l c, .int .i64 lo, .bool ls, .int .i64 hi, .bool hs, .bool op] 28)).alloc (.cells #[.int .i64 0, .int .i64 0, .int .i64 2, .int .i64 2, .int .i64 2, .int .i64 1, .int .i64 1] 109)).drewN n)) :=
  fun n => below_drewN' (((Below.refl _ w).alloc (Nat.le_refl _) _).alloc (by simp) _) n
 have q : ((l : Int) == 1) = false := by simp; omega
 have Q : Hid ((l == manyOfX 6) = false) := by rw [Hid]; unfold manyOfX; simp; omega
 clear hl _hR
 go_enter Tryz.func53, Tryz.ntmps53
 go_wp2_with fail
 go_quiet (fail)
 go_wp2_with fail
 all_goals go_ret
 all_goals exact ⟨ret_bool' (by unfold rightX; rw [Q.out]; simp), HB.out _⟩
set_option maxRecDepth 100000 in
set_option maxHeartbeats 8000000 in
theorem right34_at2 (m : Nat) (is : List (FT m)) (a1 : Option Addr) (c1 : Nat) (a : Option Addr) (l c : Nat) (lo hi : Int) (ls hs op : Bool) (w : World) (_hR : FRow w w.heap.size m a1 is) (hl : l = 2) :
 Calls Tryz.prog 53 #[.agg #[.int .u8 2, .slice a1 is.length c1, .slice a l c, .int .i64 lo, .bool ls, .int .i64 hi, .bool hs, .bool op]] w fun e w' => e = .returned (.bool (rightX 2 is l ⟨lo, ls, hi, hs, op⟩)) ∧ Below w.heap.size w w' := by
 subst hl
 have HB : Hid (∀ n : Nat, Below w.heap.size w (((w.alloc (.cells #[.int .u8 2, .slice a1 is.length c1, .slice a 2 c, .int .i64 lo, .bool ls, .int .i64 hi, .bool hs, .bool op] 28)).alloc (.cells #[.int .i64 0, .int .i64 0, .int .i64 2, .int .i64 2, .int .i64 2, .int .i64 1, .int .i64 1] 109)).drewN n)) :=
  fun n => below_drewN' (((Below.refl _ w).alloc (Nat.le_refl _) _).alloc (by simp) _) n
 clear _hR
 go_enter Tryz.func53, Tryz.ntmps53
 go_wp2_with fail
 go_quiet (fail)
 go_wp2_with fail
 all_goals go_ret
 all_goals exact ⟨ret_bool' (by unfold rightX manyOfX noSpan; simp_all [len0]), below_drewN' (((Below.refl _ w).alloc (Nat.le_refl _) _).alloc (by simp) _) _⟩
set_option maxRecDepth 100000 in
set_option maxHeartbeats 8000000 in
theorem right34_at3 (m : Nat) (is : List (FT m)) (a1 : Option Addr) (c1 : Nat) (a : Option Addr) (l c : Nat) (lo hi : Int) (ls hs op : Bool) (w : World) (_hR : FRow w w.heap.size m a1 is) (hl : l = 2) :
 Calls Tryz.prog 53 #[.agg #[.int .u8 3, .slice a1 is.length c1, .slice a l c, .int .i64 lo, .bool ls, .int .i64 hi, .bool hs, .bool op]] w fun e w' => e = .returned (.bool (rightX 3 is l ⟨lo, ls, hi, hs, op⟩)) ∧ Below w.heap.size w w' := by
 subst hl
 have HB : Hid (∀ n : Nat, Below w.heap.size w (((w.alloc (.cells #[.int .u8 3, .slice a1 is.length c1, .slice a 2 c, .int .i64 lo, .bool ls, .int .i64 hi, .bool hs, .bool op] 28)).alloc (.cells #[.int .i64 0, .int .i64 0, .int .i64 2, .int .i64 2, .int .i64 2, .int .i64 1, .int .i64 1] 109)).drewN n)) :=
  fun n => below_drewN' (((Below.refl _ w).alloc (Nat.le_refl _) _).alloc (by simp) _) n
 clear _hR
 go_enter Tryz.func53, Tryz.ntmps53
 go_wp2_with fail
 go_quiet (fail)
 go_wp2_with fail
 all_goals go_ret
 all_goals exact ⟨ret_bool' (by unfold rightX manyOfX noSpan; simp_all [len0]), below_drewN' (((Below.refl _ w).alloc (Nat.le_refl _) _).alloc (by simp) _) _⟩
set_option maxRecDepth 100000 in
set_option maxHeartbeats 8000000 in
theorem right34_at4 (m : Nat) (is : List (FT m)) (a1 : Option Addr) (c1 : Nat) (a : Option Addr) (l c : Nat) (lo hi : Int) (ls hs op : Bool) (w : World) (_hR : FRow w w.heap.size m a1 is) (hl : l = 2) :
 Calls Tryz.prog 53 #[.agg #[.int .u8 4, .slice a1 is.length c1, .slice a l c, .int .i64 lo, .bool ls, .int .i64 hi, .bool hs, .bool op]] w fun e w' => e = .returned (.bool (rightX 4 is l ⟨lo, ls, hi, hs, op⟩)) ∧ Below w.heap.size w w' := by
 subst hl
 have HB : Hid (∀ n : Nat, Below w.heap.size w (((w.alloc (.cells #[.int .u8 4, .slice a1 is.length c1, .slice a 2 c, .int .i64 lo, .bool ls, .int .i64 hi, .bool hs, .bool op] 28)).alloc (.cells #[.int .i64 0, .int .i64 0, .int .i64 2, .int .i64 2, .int .i64 2, .int .i64 1, .int .i64 1] 109)).drewN n)) :=
  fun n => below_drewN' (((Below.refl _ w).alloc (Nat.le_refl _) _).alloc (by simp) _) n
 clear _hR
 go_enter Tryz.func53, Tryz.ntmps53
 go_wp2_with fail
 go_quiet (fail)
 go_wp2_with fail
 all_goals go_ret
 all_goals exact ⟨ret_bool' (by unfold rightX manyOfX noSpan; simp_all [len0]), below_drewN' (((Below.refl _ w).alloc (Nat.le_refl _) _).alloc (by simp) _) _⟩
set_option maxRecDepth 100000 in
set_option maxHeartbeats 8000000 in
theorem right34_at5 (m : Nat) (is : List (FT m)) (a1 : Option Addr) (c1 : Nat) (a : Option Addr) (l c : Nat) (lo hi : Int) (ls hs op : Bool) (w : World) (_hR : FRow w w.heap.size m a1 is) (hl : l = 1) :
 Calls Tryz.prog 53 #[.agg #[.int .u8 5, .slice a1 is.length c1, .slice a l c, .int .i64 lo, .bool ls, .int .i64 hi, .bool hs, .bool op]] w fun e w' => e = .returned (.bool (rightX 5 is l ⟨lo, ls, hi, hs, op⟩)) ∧ Below w.heap.size w w' := by
 subst hl
 have HB : Hid (∀ n : Nat, Below w.heap.size w (((w.alloc (.cells #[.int .u8 5, .slice a1 is.length c1, .slice a 1 c, .int .i64 lo, .bool ls, .int .i64 hi, .bool hs, .bool op] 28)).alloc (.cells #[.int .i64 0, .int .i64 0, .int .i64 2, .int .i64 2, .int .i64 2, .int .i64 1, .int .i64 1] 109)).drewN n)) :=
  fun n => below_drewN' (((Below.refl _ w).alloc (Nat.le_refl _) _).alloc (by simp) _) n
 clear _hR
 go_enter Tryz.func53, Tryz.ntmps53
 go_wp2_with fail
 go_quiet (fail)
 go_wp2_with fail
 all_goals go_ret
 all_goals exact ⟨ret_bool' (by unfold rightX manyOfX noSpan; simp_all [len0]), below_drewN' (((Below.refl _ w).alloc (Nat.le_refl _) _).alloc (by simp) _) _⟩
set_option maxRecDepth 100000 in
set_option maxHeartbeats 8000000 in
theorem right34_at6 (m : Nat) (is : List (FT m)) (a1 : Option Addr) (c1 : Nat) (a : Option Addr) (l c : Nat) (lo hi : Int) (ls hs op : Bool) (w : World) (_hR : FRow w w.heap.size m a1 is) (hl : l = 1) :
 Calls Tryz.prog 53 #[.agg #[.int .u8 6, .slice a1 is.length c1, .slice a l c, .int .i64 lo, .bool ls, .int .i64 hi, .bool hs, .bool op]] w fun e w' => e = .returned (.bool (rightX 6 is l ⟨lo, ls, hi, hs, op⟩)) ∧ Below w.heap.size w w' := by
 subst hl
 have HB : Hid (∀ n : Nat, Below w.heap.size w (((w.alloc (.cells #[.int .u8 6, .slice a1 is.length c1, .slice a 1 c, .int .i64 lo, .bool ls, .int .i64 hi, .bool hs, .bool op] 28)).alloc (.cells #[.int .i64 0, .int .i64 0, .int .i64 2, .int .i64 2, .int .i64 2, .int .i64 1, .int .i64 1] 109)).drewN n)) :=
  fun n => below_drewN' (((Below.refl _ w).alloc (Nat.le_refl _) _).alloc (by simp) _) n
 have HI := Lib.hid (interval9_any ⟨lo, ls, hi, hs, op⟩)
 have HE : Hid (∀ b, (ivR ⟨lo, ls, hi, hs, op⟩ == 8) = b → rightX 6 is 1 ⟨lo, ls, hi, hs, op⟩ = (!b && is.length == 0)) := by
  rintro b h; unfold rightX manyOfX; rw [h]; simp
 unfold Spn.val at HI
 dsimp only at HI
 generalize ivR ⟨lo, ls, hi, hs, op⟩ = iv at HI HE
 clear _hR
 cases q : iv == 8 with
 | true =>
  have HQ := Lib.hid (HE.out _ q)
  go_enter Tryz.func53, Tryz.ntmps53
  go_wp2_with fail
  go_quiet (fail)
  go_wp2_with fail
  refine (HI.out _).mono ?_
  rintro e w1 ⟨rfl, hb1⟩
  have HB1 := Lib.hid ((HB.out _).trans (hb1.mono (HB.out _).size))
  clear hb1
  go_wp2_with fail
  all_goals go_ret
  all_goals exact ⟨ret_bool' (by rw [HQ.out]; rfl), HB1.out⟩
 | false =>
  have HQ := Lib.hid (HE.out _ q)
  go_enter Tryz.func53, Tryz.ntmps53
  go_wp2_with fail
  go_quiet (fail)
  go_wp2_with fail
  refine (HI.out _).mono ?_
  rintro e w1 ⟨rfl, hb1⟩
  have HB1 := Lib.hid ((HB.out _).trans (hb1.mono (HB.out _).size))
  have x0 := (hb1.cell (p := ⟨w.heap.size, 0, none⟩) (by simp; omega))
  have x1 := (hb1.cell (p := ⟨w.heap.size, 1, none⟩) (by simp; omega))
  simp [World.cell?_alloc_at, World.cell?_drewN, World.cell?_alloc_past] at x0 x1
  clear hb1
  go_wp2_with fail
  all_goals go_ret
  all_goals exact ⟨ret_bool' (by rw [HQ.out, len0]; simp), HB1.out⟩
set_option maxRecDepth 100000 in
set_option maxHeartbeats 8000000 in
theorem right34_at1 (m : Nat) (is : List (FT m)) (a1 : Option Addr) (c1 : Nat) (a : Option Addr) (l c : Nat) (lo hi : Int) (ls hs op : Bool) (w : World) (hR : FRow w w.heap.size m a1 is) (hl : l = 0) :
 Calls Tryz.prog 53 #[.agg #[.int .u8 1, .slice a1 is.length c1, .slice a l c, .int .i64 lo, .bool ls, .int .i64 hi, .bool hs, .bool op]] w fun e w' => e = .returned (.bool (rightX 1 is l ⟨lo, ls, hi, hs, op⟩)) ∧ Below w.heap.size w w' := by
 subst hl
 have HB : Hid (∀ n : Nat, Below w.heap.size w (((w.alloc (.cells #[.int .u8 1, .slice a1 is.length c1, .slice a 0 c, .int .i64 lo, .bool ls, .int .i64 hi, .bool hs, .bool op] 28)).alloc (.cells #[.int .i64 0, .int .i64 0, .int .i64 2, .int .i64 2, .int .i64 2, .int .i64 1, .int .i64 1] 109)).drewN n)) :=
  fun n => below_drewN' (((Below.refl _ w).alloc (Nat.le_refl _) _).alloc (by simp) _) n
 have HR := Lib.hid hR
 by_cases hsp : (⟨lo, ls, hi, hs, op⟩ : Spn) = ⟨0, false, 0, false, false⟩
 ·injection hsp with h1 h2 h3 h4 h5
  subst h1 h2 h3 h4 h5
  have HE : Hid (rightX 1 is 0 ⟨0, false, 0, false, false⟩ = ((is.length == 1) && is.all (allF rightB m))) := by
   rw [Hid]; unfold rightX manyOfX noSpan; simp
  by_cases h1 : is.length = 1
  ·obtain ⟨f, rfl⟩ := List.length_eq_one_iff.1 h1
   have hbn := HB.out
   have HAT : Hid (∀ n, ∃ b off k s sa sl sc, a1 = some ⟨b, off, none⟩ ∧ b < w.heap.size ∧ w.cell? ⟨b, off, none⟩ = some (.int .u8 k) ∧ w.cell? ⟨b, off + 1, none⟩ = some (.string s) ∧
    w.cell? ⟨b, off + 2, none⟩ = some (.slice sa sl sc) ∧ Calls Tryz.prog 105 #[.agg #[.int .u8 k, .string s, .slice sa sl sc], .func (.func 106) #[] #[], .func (.func 110) #[] #[]] (((w.alloc (.cells #[.int .u8 1, .slice a1 1 c1, .slice a 0 c, .int .i64 0, .bool false, .int .i64 0, .bool false, .bool false] 28)).alloc (.cells #[.int .i64 0, .int .i64 0, .int .i64 2, .int .i64 2, .int .i64 2, .int .i64 1, .int .i64 1] 109)).drewN n) fun e w' => e = .returned (.bool (allF rightB m f)) ∧ Below (((w.alloc (.cells #[.int .u8 1, .slice a1 1 c1, .slice a 0 c, .int .i64 0, .bool false, .int .i64 0, .bool false, .bool false] 28)).alloc (.cells #[.int .i64 0, .int .i64 0, .int .i64 2, .int .i64 2, .int .i64 2, .int .i64 1, .int .i64 1] 109)).drewN n).heap.size (((w.alloc (.cells #[.int .u8 1, .slice a1 1 c1, .slice a 0 c, .int .i64 0, .bool false, .int .i64 0, .bool false, .bool false] 28)).alloc (.cells #[.int .i64 0, .int .i64 0, .int .i64 2, .int .i64 2, .int .i64 2, .int .i64 1, .int .i64 1] 109)).drewN n) w') := by
    intro n
    obtain ⟨b, off, k, s, sa, sl, sc, e, hb, g0, g1, g2, hr⟩ := FRow.at HR.out 0 (by simp)
    have hr' : FRep w w.heap.size m f (.agg #[.int .u8 k, .string s, .slice sa sl sc]) := hr
    exact ⟨b, off, k, s, sa, sl, sc, e, hb, by simpa using g0, by simpa using g1, by simpa using g2, all42_any rightB 110 #[] m f _ _ (hr'.up (hbn n) (hbn n).size) (so44 _)⟩
   have HFIN : Hid (rightX 1 [f] 0 ⟨0, false, 0, false, false⟩ = allF rightB m f) := by rw [Hid, HE.out]; simp
   clear h1 hR hbn
   simp only [List.length_cons, List.length_nil, Nat.zero_add] at HB ⊢
   go_enter Tryz.func53, Tryz.ntmps53
   go_wp2_with fail
   go_quiet (fail)
   obtain ⟨b, off, k, s, sa, sl, sc, rfl, hb, g0, g1, g2, hC⟩ := HAT.out nq
   have HC := Lib.hid hC
   have hb2 : b < w.heap.size + 1 := by omega
   clear hC
   go_wp2_with fail
   refine HC.out.mono ?_
   rintro e w1 ⟨rfl, hb1⟩
   have HB1 := Lib.hid ((HB.out _).trans (hb1.mono (HB.out _).size))
   clear hb1
   go_wp2_with fail
   all_goals go_ret
   all_goals exact ⟨ret_bool' (by rw [HFIN.out]), HB1.out⟩
  ·have q : ((is.length : Int) == 1) = false := by simp; omega
   have HFIN : Hid (rightX 1 is 0 ⟨0, false, 0, false, false⟩ = false) := by rw [Hid, HE.out]; simp [h1]
   clear h1 hR
   go_enter Tryz.func53, Tryz.ntmps53
   go_wp2_with fail
   go_quiet (fail)
   go_wp2_with fail
   all_goals go_ret
   all_goals exact ⟨ret_bool' (by rw [HFIN.out]), HB.out _⟩
 ·have HFIN : Hid (rightX 1 is 0 ⟨lo, ls, hi, hs, op⟩ = false) := by
   have : ((⟨lo, ls, hi, hs, op⟩ : Spn) != noSpan) = true := by simpa [noSpan] using hsp
   rw [Hid]; unfold rightX; rw [this]; simp
  have q := hsp
  rw [Spn.mk.injEq] at q
  clear hsp hR
  go_enter Tryz.func53, Tryz.ntmps53
  go_wp2_with fail
  go_quiet (fail)
  go_wp2_with fail
  all_goals first | (exfalso; simp_all; done) | skip
  all_goals go_ret
  all_goals exact ⟨ret_bool' (by rw [HFIN.out]), below_drewN' (((Below.refl _ w).alloc (Nat.le_refl _) _).alloc (by simp) _) _⟩
theorem so34 {m : Nat} (w : World) : SoX (m := m) w 53 #[] rightX := by
 intro n
 refine ⟨ent_of Tryz.func53 (by kernel_rfl) (by kernel_rfl), fun t v w' hb' hr => ?_⟩
 obtain ⟨k, is, of, lo, ls, hi, hs, op⟩ := t
 obtain ⟨a1, c1, a, c, rfl, hR, _⟩ := hr
 dsimp only at hR ⊢
 have hk : k < 1 ∨ k = 1 ∨ k = 2 ∨ k = 3 ∨ k = 4 ∨ k = 5 ∨ k = 6 ∨ 6 < k := by omega
 rcases hk with h | rfl | rfl | rfl | rfl | rfl | rfl | h
 ·exact right34_low m k is a1 c1 a of.length c lo hi ls hs op w' h hR
 ·by_cases hl : of.length = 0
  ·exact right34_at1 m is a1 c1 a of.length c lo hi ls hs op w' hR hl
  ·exact right34_no1 m is a1 c1 a of.length c lo hi ls hs op w' hR hl
 ·by_cases hl : of.length = 2
  ·exact right34_at2 m is a1 c1 a of.length c lo hi ls hs op w' hR hl
  ·exact right34_no2 m is a1 c1 a of.length c lo hi ls hs op w' hR hl
 ·by_cases hl : of.length = 2
  ·exact right34_at3 m is a1 c1 a of.length c lo hi ls hs op w' hR hl
  ·exact right34_no3 m is a1 c1 a of.length c lo hi ls hs op w' hR hl
 ·by_cases hl : of.length = 2
  ·exact right34_at4 m is a1 c1 a of.length c lo hi ls hs op w' hR hl
  ·exact right34_no4 m is a1 c1 a of.length c lo hi ls hs op w' hR hl
 ·by_cases hl : of.length = 1
  ·exact right34_at5 m is a1 c1 a of.length c lo hi ls hs op w' hR hl
  ·exact right34_no5 m is a1 c1 a of.length c lo hi ls hs op w' hR hl
 ·by_cases hl : of.length = 1
  ·exact right34_at6 m is a1 c1 a of.length c lo hi ls hs op w' hR hl
  ·exact right34_no6 m is a1 c1 a of.length c lo hi ls hs op w' hR hl
 ·exact right34_high m k is a1 c1 a of.length c lo hi ls hs op w' h hR
end Go.Proofs.YtpgdplmndnopbaaGreatDoor

/- Layer 16 walked: what Check hands on; Formula; Check. -/
namespace Go.Proofs.YtpgdplmndnopbaaGreatDoor
open Go.RowKit
set_option maxRecDepth 100000 in
set_option maxHeartbeats 4000000 in
theorem open38_any (m : Nat) (k : Int) (is : List (FT m)) (a1 : Option Addr) (c1 : Nat) (a : Option Addr) (l c : Nat) (lo hi : Int) (ls hs op : Bool) (w : World) :
 Calls Tryz.prog 57 #[.agg #[.int .u8 k, .slice a1 is.length c1, .slice a l c, .int .i64 lo, .bool ls, .int .i64 hi, .bool hs, .bool op]] w fun e w' => e = .returned (.bool (openX k is l ⟨lo, ls, hi, hs, op⟩)) ∧ Below w.heap.size w w' := by
 have hb : Below w.heap.size w (w.alloc (.cells #[.int .u8 k, .slice a1 is.length c1, .slice a l c, .int .i64 lo, .bool ls, .int .i64 hi, .bool hs, .bool op] 28)) := (Below.refl _ _).alloc (Nat.le_refl _) _
 have HI := Lib.hid (interval9_any ⟨lo, ls, hi, hs, op⟩)
 have HE : Hid (openX k is l ⟨lo, ls, hi, hs, op⟩ = (k != 6 || ivR ⟨lo, ls, hi, hs, op⟩ == 0)) := rfl
 unfold Spn.val at HI
 dsimp only at HI
 generalize ivR ⟨lo, ls, hi, hs, op⟩ = iv at HI HE
 have HB := Lib.hid hb
 clear hb
 cases q : k != 6 with
 | true =>
  have HQ := Lib.hid q
  go_enter Tryz.func57, Tryz.ntmps57
  go_wp2_with fail
  all_goals go_ret
  all_goals exact ⟨ret_bool' (by rw [HE.out, HQ.out]; rfl), HB.out⟩
 | false =>
  have HQ := Lib.hid q
  go_enter Tryz.func57, Tryz.ntmps57
  go_wp2_with fail
  refine (HI.out _).mono ?_
  rintro e w1 ⟨rfl, hb1⟩
  have HB1 := Lib.hid (HB.out.trans (hb1.mono HB.out.size))
  clear hb1
  go_wp2_with fail
  all_goals go_ret
  all_goals exact ⟨ret_bool' (by rw [HE.out, HQ.out]; rfl), HB1.out⟩
theorem so38 {m : Nat} (w : World) : SoX (m := m) w 57 #[] openX := by
 intro n
 refine ⟨ent_of Tryz.func57 (by kernel_rfl) (by kernel_rfl), fun t v w' hb' hr => ?_⟩
 obtain ⟨k, is, of, lo, ls, hi, hs, op⟩ := t
 obtain ⟨a1, c1, a, c, rfl, _, _⟩ := hr
 exact open38_any m k is a1 c1 a of.length c lo hi ls hs op w'
def Known (w : World) (names : List ByteArray) (b b0 : Nat) : Prop :=
 ∃ nv, b < w.heap.size ∧ b0 < w.heap.size ∧ w.cell? ⟨b, 0, none⟩ = some (.func (.func 104) #[] #[.pointer (some ⟨b0, 0, none⟩)]) ∧ w.cell? ⟨b0, 0, none⟩ = some nv ∧ NRep w w.heap.size nv names
theorem Known.up {w w' : World} {names : List ByteArray} {b b0 : Nat} (h : Known w names b b0) (hb : Below w.heap.size w w') : Known w' names b b0 := by
 obtain ⟨nv, h1, h2, h3, h4, h5⟩ := h
 have hz := hb.size
 exact ⟨nv, by omega, by omega, (hb.cell (p := ⟨b, 0, none⟩) h1).trans h3, (hb.cell (p := ⟨b0, 0, none⟩) h2).trans h4, h5.up hb hz⟩
set_option maxRecDepth 100000 in
set_option maxHeartbeats 4000000 in
theorem not37_any (names : List ByteArray) (b b0 n : Nat) (t : FT n) (v : Value) (w : World) (h : Known w names b b0) (hr : FRep w w.heap.size n t v) :
 Calls Tryz.prog 56 #[v, .pointer (some ⟨b, 0, none⟩)] w fun e w' => e = .returned (.bool (!allF (declB names) n t)) ∧ Below w.heap.size w w' := by
 obtain ⟨k, s, a, l, c, rfl⟩ := hr.shape
 have hbw : Below w.heap.size w (w.alloc (.cells #[.int .u8 k, .string s, .slice a l c] 61)) := (Below.refl _ _).alloc (Nat.le_refl _) _
 obtain ⟨nv, h1, h2, h3, h4, h5⟩ := h.up hbw
 have HD := Lib.hid (declared51_any names nv b0 n t _ _ h2 h4 h5 (hr.up hbw hbw.size))
 obtain ⟨_, g1, _, g3, _, _⟩ := h
 have HB := Lib.hid hbw
 clear h5 hr hbw h1 h2 h3 h4
 go_enter Tryz.func56, Tryz.ntmps56
 go_wp2_with fail
 refine HD.out.mono ?_
 rintro e w1 ⟨rfl, hb1⟩
 have HB1 := Lib.hid (HB.out.trans (hb1.mono HB.out.size))
 clear hb1
 go_wp2_with fail
 all_goals go_ret
 all_goals exact ⟨rfl, HB1.out⟩
set_option maxRecDepth 100000 in
set_option maxHeartbeats 4000000 in
theorem names35_any (m : Nat) (names : List ByteArray) (b b0 : Nat) (k : Int) (is : List (FT m)) (a1 : Option Addr) (c1 : Nat) (a : Option Addr) (l c : Nat) (lo hi : Int) (ls hs op : Bool) (w : World) (h : Known w names b b0) (hR : FRow w w.heap.size m a1 is) :
 Calls Tryz.prog 54 #[.agg #[.int .u8 k, .slice a1 is.length c1, .slice a l c, .int .i64 lo, .bool ls, .int .i64 hi, .bool hs, .bool op], .pointer (some ⟨b, 0, none⟩)] w fun e w' => e = .returned (.bool (namesX names k is l ⟨lo, ls, hi, hs, op⟩)) ∧ Below w.heap.size w w' := by
 have hmf : ∀ (fn : Fn) (first cap : Array Value) (w : World), (Instr.makeFunc fn first cap).run Tryz.prog w = .ok (.func fn first cap) w := fun _ _ _ _ => rfl
 have hb : Below w.heap.size w (w.alloc (.cells #[.int .u8 k, .slice a1 is.length c1, .slice a l c, .int .i64 lo, .bool ls, .int .i64 hi, .bool hs, .bool op] 28)) := (Below.refl _ _).alloc (Nat.le_refl _) _
 have HC := Lib.hid (contains36_any m is a1 c1 56 #[.pointer (some ⟨b, 0, none⟩)] (fun f => !allF (declB names) m f) _ (FRow.up hR hb hb.size)
  ⟨ent_of Tryz.func56 (by kernel_rfl) (by kernel_rfl), fun t v w' hb' hr => not37_any names b b0 m t v w' ((h.up hb).up hb') hr⟩)
 have HE : Hid (namesX names k is l ⟨lo, ls, hi, hs, op⟩ = !(is.any fun f => !allF (declB names) m f)) := by rw [Hid]; unfold namesX; rw [List.all_eq_not_any_not]
 have HB := Lib.hid hb
 clear hb hR h
 go_enter Tryz.func54, Tryz.ntmps54
 go_wp2_with fail
 refine HC.out.mono ?_
 rintro e w1 ⟨rfl, hb1⟩
 have HB1 := Lib.hid (HB.out.trans (hb1.mono HB.out.size))
 clear hb1
 go_wp2_with fail
 all_goals go_ret
 all_goals exact ⟨ret_bool' (by rw [HE.out]), HB1.out⟩
theorem so35 {m : Nat} (names : List ByteArray) (b b0 : Nat) (w : World) (h : Known w names b b0) : SoX (m := m) w 54 #[.pointer (some ⟨b, 0, none⟩)] (namesX names) := by
 intro n
 refine ⟨ent_of Tryz.func54 (by kernel_rfl) (by kernel_rfl), fun t v w' hb' hr => ?_⟩
 obtain ⟨k, is, of, lo, ls, hi, hs, op⟩ := t
 obtain ⟨a1, c1, a, c, rfl, hR, _⟩ := hr
 exact names35_any m names b b0 k is a1 c1 a of.length c lo hi ls hs op w' (h.up hb') hR
end Go.Proofs.YtpgdplmndnopbaaGreatDoor

/- tree.Check walked: whether an expression may be; the examples' expressions; alive. -/
namespace Go.Proofs.YtpgdplmndnopbaaGreatDoor
open Go.RowKit
@[local go_sem] theorem run_store_func {P : Program} {w : World} {a : Addr} {m : Mode} (fn : Fn) (x y : Array Value) : (store a (.func fn x y) m).run P w = stored P w a (.func fn x y) m := run_store P w a _ m rfl
theorem cells8 {W w1 : World} {N : Nat} {x0 x1 x2 x3 x4 x5 x6 x7 : Value} {t : TypeId} {fz : Nat × Nat} (h : W.heap[N]? = some (.cells #[x0, x1, x2, x3, x4, x5, x6, x7] t fz)) (hb : Below W.heap.size W w1) :
 w1.heap[N]? = some (.cells #[x0, x1, x2, x3, x4, x5, x6, x7] t fz) ∧ w1.cell? ⟨N, 0, none⟩ = some x0 ∧ w1.cell? ⟨N, 1, none⟩ = some x1 ∧ w1.cell? ⟨N, 2, none⟩ = some x2 ∧ w1.cell? ⟨N, 3, none⟩ = some x3 ∧
  w1.cell? ⟨N, 4, none⟩ = some x4 ∧ w1.cell? ⟨N, 5, none⟩ = some x5 ∧ w1.cell? ⟨N, 6, none⟩ = some x6 ∧ w1.cell? ⟨N, 7, none⟩ = some x7 ∧ N < w1.heap.size := by
 have h1 : w1.heap[N]? = some (.cells #[x0, x1, x2, x3, x4, x5, x6, x7] t fz) := by rw [hb.block N (Array.getElem?_eq_some_iff.1 h).1]; exact h
 exact ⟨h1, Lib.cell_of_heap h1 0, Lib.cell_of_heap h1 1, Lib.cell_of_heap h1 2, Lib.cell_of_heap h1 3, Lib.cell_of_heap h1 4, Lib.cell_of_heap h1 5, Lib.cell_of_heap h1 6, Lib.cell_of_heap h1 7, (Array.getElem?_eq_some_iff.1 h1).1⟩
def ChkW (w0 w : World) (cs : Array Value) (names : List ByteArray) (b : Nat) : Prop :=
 Below w0.heap.size w0 w ∧ w.heap[w0.heap.size]? = some (.cells cs 28 (0, 0)) ∧ Known w names b (w0.heap.size + 1)
theorem ChkW.up {w0 w w' : World} {cs : Array Value} {names : List ByteArray} {b : Nat} (h : ChkW w0 w cs names b) (hb : Below w.heap.size w w') : ChkW w0 w' cs names b :=
 ⟨h.1.trans (hb.mono h.1.size), by rw [hb.block _ (Array.getElem?_eq_some_iff.1 h.2.1).1]; exact h.2.1, h.2.2.up hb⟩
set_option maxRecDepth 100000 in
set_option maxHeartbeats 16000000 in
theorem check13_any (names : List ByteArray) (nv : Value) (hs : ∀ s ∈ names, s.size ≤ 1048576) (m n : Nat) (t : XT m n) (v : Value) (w : World) (hr : Rdy w) (hn : NRep w w.heap.size nv names) (hf : XRep w w.heap.size m n t v) :
 Calls Tryz.prog 25 #[nv, v] w fun e w' => e = .returned (.int .i64 (checkR names n t)) ∧ Below w.heap.size w w' := by
 obtain ⟨k, a1, l1, c1, a, l, c, lo, ls, hi, hs', op, rfl⟩ := hf.shape
 obtain ⟨na, nc, hnv, hnr⟩ := id hn
 have hmf : ∀ (fn : Fn) (first cap : Array Value) (w : World), (Instr.makeFunc fn first cap).run Tryz.prog w = .ok (.func fn first cap) w := fun _ _ _ _ => rfl
 subst hnv
 have HC0 : Hid (∀ w1 : World, w1 = (w.alloc (.cells #[.int .u8 k, .slice a1 l1 c1, .slice a l c, .int .i64 lo, .bool ls, .int .i64 hi, .bool hs', .bool op] 28)).alloc (.cells #[.slice na names.length nc] 22) → ChkW w (w1.alloc (.cells #[.func (.func 104) #[] #[.pointer (some ⟨w.heap.size + 1, 0, none⟩)]] 89)) #[.int .u8 k, .slice a1 l1 c1, .slice a l c, .int .i64 lo, .bool ls, .int .i64 hi, .bool hs', .bool op] names w1.heap.size) := by
  rintro w1 rfl
  have hb3 : Below w.heap.size w (((w.alloc (.cells #[.int .u8 k, .slice a1 l1 c1, .slice a l c, .int .i64 lo, .bool ls, .int .i64 hi, .bool hs', .bool op] 28)).alloc (.cells #[.slice na names.length nc] 22)).alloc (.cells #[.func (.func 104) #[] #[.pointer (some ⟨w.heap.size + 1, 0, none⟩)]] 89)) :=
   (((Below.refl _ w).alloc (Nat.le_refl _) _).alloc (by simp) _).alloc (by simp; omega) _
  obtain ⟨d1, d2, d3, _, hz⟩ := blocks3 (Below.refl _ (((w.alloc (.cells #[.int .u8 k, .slice a1 l1 c1, .slice a l c, .int .i64 lo, .bool ls, .int .i64 hi, .bool hs', .bool op] 28)).alloc (.cells #[.slice na names.length nc] 22)).alloc (.cells #[.func (.func 104) #[] #[.pointer (some ⟨w.heap.size + 1, 0, none⟩)]] 89)))
  have hzz : ((w.alloc (.cells #[.int .u8 k, .slice a1 l1 c1, .slice a l c, .int .i64 lo, .bool ls, .int .i64 hi, .bool hs', .bool op] 28)).alloc (.cells #[.slice na names.length nc] 22)).heap.size = w.heap.size + 2 := by simp
  rw [hzz]
  exact ⟨hb3, d1, _, by omega, by omega, Lib.cell_of_heap d3 0, Lib.cell_of_heap d2 0, hn.up hb3 (by omega)⟩
 have HF := Lib.hid hf
 have HN : Hid (∀ w1 b, ChkW w w1 #[.int .u8 k, .slice a1 l1 c1, .slice a l c, .int .i64 lo, .bool ls, .int .i64 hi, .bool hs', .bool op] names b → Calls Tryz.prog 42 #[.slice na names.length nc] w1 fun e w' => e = .returned (.int .i64 (namesR names)) ∧ Below w1.heap.size w1 w') :=
  fun w1 _ h => names17_any names _ hs w1 (hr.below h.1) (hn.up h.1 h.1.size)
 have HX : Hid (∀ w1 b, ChkW w w1 #[.int .u8 k, .slice a1 l1 c1, .slice a l c, .int .i64 lo, .bool ls, .int .i64 hi, .bool hs', .bool op] names b → XRep w1 w1.heap.size m n t (.agg #[.int .u8 k, .slice a1 l1 c1, .slice a l c, .int .i64 lo, .bool ls, .int .i64 hi, .bool hs', .bool op])) :=
  fun w1 _ h => hf.up h.1 h.1.size
 have HE : Hid (checkR names n t = if namesR names ≠ 0 then 2 else if allX rightX n t = false then 8 else if 64 < manyX n t then 160 else if allX (namesX names) n t = false then 161 else if allX openX n t = false then 162 else 0) := rfl
 clear hr hs hf hn hnr
 go_enter Tryz.func25, Tryz.ntmps25
 go_wp2_with fail
 refine (declared31_any _ _ _ _).mono ?_
 rintro e w1 ⟨rfl, hw1⟩
 have hc0 := HC0.out w1 hw1
 have HC1 := Lib.hid hc0
 have hbl := hc0.2.1
 clear hw1 HC0 hc0 hbl
 have HC := HC1
 clear HC1
 go_wp2_with fail
 refine (HN.out _ _ HC.out).mono ?_
 rintro e w2 ⟨rfl, hbq⟩
 have HC2 := Lib.hid (HC.out.up hbq)
 clear hbq HC
 have HC := HC2
 clear HC2
 by_cases h1 : namesR names = 0
 ·rw [if_neg (by simp [h1])] at HE
  have q1 : (namesR names != 0) = false := by simp [h1]
  clear h1
  obtain ⟨_, x0, x1, x2, x3, x4, x5, x6, x7, hNlt⟩ := cells8 HC.out.2.1 (Below.refl _ _)
  go_wp2_with fail
  clear q1
  refine (all32_any rightX 53 #[] n t _ _ (HX.out _ _ HC.out) (so34 _)).mono ?_
  rintro e w3 ⟨rfl, hbq⟩
  have HC2 := Lib.hid (HC.out.up hbq)
  clear hbq HC
  have HC := HC2
  clear HC2
  clear x0 x1 x2 x3 x4 x5 x6 x7 hNlt
  cases h2 : allX rightX n t with
  | false =>
   have H2 : Hid (checkR names n t = 8) := by rw [Hid, HE.out, if_pos h2]
   clear h2
   go_wp2_with fail
   all_goals go_ret
   all_goals exact ⟨ret_i (by rw [H2.out]), HC.out.1⟩
  | true =>
   rw [if_neg (by simp [h2])] at HE
   clear h2
   obtain ⟨_, x0, x1, x2, x3, x4, x5, x6, x7, hNlt⟩ := cells8 HC.out.2.1 (Below.refl _ _)
   go_wp2_with fail
   refine (many14_any m n t _ _ (HX.out _ _ HC.out)).mono ?_
   rintro e w4 ⟨rfl, hbq⟩
   have HC2 := Lib.hid (HC.out.up hbq)
   clear hbq HC
   have HC := HC2
   clear HC2
   clear x0 x1 x2 x3 x4 x5 x6 x7 hNlt
   by_cases h3 : 64 < manyX n t
   ·have H3 : Hid (checkR names n t = 160) := by rw [Hid, HE.out, if_pos h3]
    go_wp2_with fail
    all_goals go_ret
    all_goals exact ⟨ret_i (by rw [H3.out]), HC.out.1⟩
   ·rw [if_neg h3] at HE
    obtain ⟨_, x0, x1, x2, x3, x4, x5, x6, x7, hNlt⟩ := cells8 HC.out.2.1 (Below.refl _ _)
    go_wp2_with fail
    refine (all32_any (namesX names) 54 _ n t _ _ (HX.out _ _ HC.out) (so35 names _ _ _ HC.out.2.2)).mono ?_
    rintro e w5 ⟨rfl, hbq⟩
    have HC2 := Lib.hid (HC.out.up hbq)
    clear hbq HC
    have HC := HC2
    clear HC2
    clear x0 x1 x2 x3 x4 x5 x6 x7 hNlt
    cases h4 : allX (namesX names) n t with
    | false =>
     have H4 : Hid (checkR names n t = 161) := by rw [Hid, HE.out, if_pos h4]
     clear h4
     go_wp2_with fail
     all_goals go_ret
     all_goals exact ⟨ret_i (by rw [H4.out]), HC.out.1⟩
    | true =>
     rw [if_neg (by simp [h4])] at HE
     clear h4
     obtain ⟨_, x0, x1, x2, x3, x4, x5, x6, x7, hNlt⟩ := cells8 HC.out.2.1 (Below.refl _ _)
     go_wp2_with fail
     refine (all32_any openX 57 #[] n t _ _ (HX.out _ _ HC.out) (so38 _)).mono ?_
     rintro e w6 ⟨rfl, hbq⟩
     have HC2 := Lib.hid (HC.out.up hbq)
     clear hbq HC
     have HC := HC2
     clear HC2
     clear x0 x1 x2 x3 x4 x5 x6 x7 hNlt
     cases h5 : allX openX n t with
     | false =>
      have H5 : Hid (checkR names n t = 162) := by rw [Hid, HE.out, if_pos h5]
      clear h5
      go_wp2_with fail
      all_goals go_ret
      all_goals exact ⟨ret_i (by rw [H5.out]), HC.out.1⟩
     | true =>
      have H5 : Hid (checkR names n t = 0) := by rw [Hid, HE.out, if_neg (by simp [h5])]
      clear h5
      go_wp2_with fail
      all_goals go_ret
      all_goals exact ⟨ret_i (by rw [H5.out]), HC.out.1⟩
 ·have H1 : Hid (checkR names n t = 2) := by rw [Hid, HE.out, if_pos h1]
  have q1 : (namesR names != 0) = true := by simp [h1]
  clear h1
  go_wp2_with fail
  all_goals go_ret
  all_goals exact ⟨ret_i (by rw [H1.out]), HC.out.1⟩
end Go.Proofs.YtpgdplmndnopbaaGreatDoor
