/- Layer 16 walked: expressions that are made right, but for their parts; the other function values that Check hands on. -/
import Derived.Deep.QuietTactic
import Derived.BigQuiet
import Derived.Test.YtabpfbgcdmejbaaDoorTreeI
import Derived.Test.YtabpfbgcdmejbaaDoorTreeH
namespace Go.Proofs.YtabpfbgcdmejbaaDoor
open Go.RowKit

theorem len0 (n : Nat) : ((n : Int) == 0) = (n == 0) := by rw [Bool.eq_iff_iff]; simp
@[local go_sem] theorem eq25 (a c d f : Int) (b e g h i j : Bool) (w : World) : (Op.equalIn 10000 25 (.agg #[.int .i64 a, .bool b, .int .i64 c, .bool g, .bool h]) (.agg #[.int .i64 d, .bool e, .int .i64 f, .bool i, .bool j])).run Tryd.prog w = .ok (decide ((⟨a, b, c, g, h⟩ : Spn) = ⟨d, e, f, i, j⟩)) w := by
  have u3 := Tryd.underlying3
  have a3 := Tryd.isAgg3
  have z3 := Tryd.sizeOf3
  have u4 := Tryd.underlying4
  have a4 := Tryd.isAgg4
  have z4 := Tryd.sizeOf4
  have hS : Tryd.prog.underlying 25 = some (.struct (Tryd.prog.fieldsOf 25)) := by kernel_rfl
  have hp : Tryd.prog.stoodInHeld 25 = false := by kernel_rfl
  rw [show (10000 : Nat) = 9999 + 1 from rfl, run_equalIn_agg w 9999 25 _ _ hS hp]
  simp only [Program.fieldsOf, Tryd.underlying25]
  go_simp
  by_cases h1 : a = d <;> cases b <;> cases e <;> by_cases h3 : c = f <;> cases g <;> cases i <;> cases h <;> cases j <;> simp [h1, h3]

set_option maxRecDepth 100000 in
set_option maxHeartbeats 8000000 in
theorem right34_low (m : Nat) (k : Int) (is : List (FT m)) (a1 : Option Addr) (c1 : Nat) (a : Option Addr) (l c : Nat) (lo hi : Int) (ls hs op : Bool) (w : World) (hk : k < 1) (hR : FRow w w.heap.size m a1 is) :
    Calls Tryd.prog 34 #[.agg #[.int .u8 k, .slice a1 is.length c1, .slice a l c, .int .i64 lo, .bool ls, .int .i64 hi, .bool hs, .bool op]] w fun e w' => e = .returned (.bool (rightX k is l ⟨lo, ls, hi, hs, op⟩)) ∧ Below w.heap.size w w' := by
  have HB : Hid (∀ n : Nat, Below w.heap.size w (((w.alloc (.cells #[.int .u8 k, .slice a1 is.length c1, .slice a l c, .int .i64 lo, .bool ls, .int .i64 hi, .bool hs, .bool op] 32)).alloc (.cells #[.int .i64 0, .int .i64 0, .int .i64 2, .int .i64 2, .int .i64 2, .int .i64 1, .int .i64 1] 75)).drewN n)) :=
    fun n => below_drewN' (((Below.refl _ w).alloc (Nat.le_refl _) _).alloc (by simp) _) n
  have q : decide (k < 1) = true := by simp; omega
  have Q : Hid (decide (1 ≤ k) = false) := by rw [Hid]; simp; omega
  clear hR
  go_enter Tryd.func34, Tryd.ntmps34
  go_wp2_with fail
  go_quiet (fail)
  go_wp2_with fail
  all_goals go_ret
  all_goals exact ⟨ret_bool' (by unfold rightX; rw [Q.out]; simp), HB.out _⟩

set_option maxRecDepth 100000 in
set_option maxHeartbeats 8000000 in
theorem right34_high (m : Nat) (k : Int) (is : List (FT m)) (a1 : Option Addr) (c1 : Nat) (a : Option Addr) (l c : Nat) (lo hi : Int) (ls hs op : Bool) (w : World) (hk : 6 < k) (hR : FRow w w.heap.size m a1 is) :
    Calls Tryd.prog 34 #[.agg #[.int .u8 k, .slice a1 is.length c1, .slice a l c, .int .i64 lo, .bool ls, .int .i64 hi, .bool hs, .bool op]] w fun e w' => e = .returned (.bool (rightX k is l ⟨lo, ls, hi, hs, op⟩)) ∧ Below w.heap.size w w' := by
  have HB : Hid (∀ n : Nat, Below w.heap.size w (((w.alloc (.cells #[.int .u8 k, .slice a1 is.length c1, .slice a l c, .int .i64 lo, .bool ls, .int .i64 hi, .bool hs, .bool op] 32)).alloc (.cells #[.int .i64 0, .int .i64 0, .int .i64 2, .int .i64 2, .int .i64 2, .int .i64 1, .int .i64 1] 75)).drewN n)) :=
    fun n => below_drewN' (((Below.refl _ w).alloc (Nat.le_refl _) _).alloc (by simp) _) n
  have q0 : decide (k < 1) = false := by simp; omega
  have q : decide (6 < k) = true := by simp; omega
  have Q : Hid (decide (k ≤ 6) = false) := by rw [Hid]; simp; omega
  clear hR
  go_enter Tryd.func34, Tryd.ntmps34
  go_wp2_with fail
  go_quiet (fail)
  go_wp2_with fail
  all_goals go_ret
  all_goals exact ⟨ret_bool' (by unfold rightX; rw [Q.out]; simp), HB.out _⟩

set_option maxRecDepth 100000 in
set_option maxHeartbeats 8000000 in
theorem right34_no1 (m : Nat) (is : List (FT m)) (a1 : Option Addr) (c1 : Nat) (a : Option Addr) (l c : Nat) (lo hi : Int) (ls hs op : Bool) (w : World) (hR : FRow w w.heap.size m a1 is) (hl : l ≠ 0) :
    Calls Tryd.prog 34 #[.agg #[.int .u8 1, .slice a1 is.length c1, .slice a l c, .int .i64 lo, .bool ls, .int .i64 hi, .bool hs, .bool op]] w fun e w' => e = .returned (.bool (rightX 1 is l ⟨lo, ls, hi, hs, op⟩)) ∧ Below w.heap.size w w' := by
  have HB : Hid (∀ n : Nat, Below w.heap.size w (((w.alloc (.cells #[.int .u8 1, .slice a1 is.length c1, .slice a l c, .int .i64 lo, .bool ls, .int .i64 hi, .bool hs, .bool op] 32)).alloc (.cells #[.int .i64 0, .int .i64 0, .int .i64 2, .int .i64 2, .int .i64 2, .int .i64 1, .int .i64 1] 75)).drewN n)) :=
    fun n => below_drewN' (((Below.refl _ w).alloc (Nat.le_refl _) _).alloc (by simp) _) n
  have q : ((l : Int) == 0) = false := by simp; omega
  have Q : Hid ((l == manyOfX 1) = false) := by rw [Hid]; unfold manyOfX; simp; omega
  clear hl hR
  go_enter Tryd.func34, Tryd.ntmps34
  go_wp2_with fail
  go_quiet (fail)
  go_wp2_with fail
  all_goals go_ret
  all_goals exact ⟨ret_bool' (by unfold rightX; rw [Q.out]; simp), HB.out _⟩

set_option maxRecDepth 100000 in
set_option maxHeartbeats 8000000 in
theorem right34_no2 (m : Nat) (is : List (FT m)) (a1 : Option Addr) (c1 : Nat) (a : Option Addr) (l c : Nat) (lo hi : Int) (ls hs op : Bool) (w : World) (hR : FRow w w.heap.size m a1 is) (hl : l ≠ 2) :
    Calls Tryd.prog 34 #[.agg #[.int .u8 2, .slice a1 is.length c1, .slice a l c, .int .i64 lo, .bool ls, .int .i64 hi, .bool hs, .bool op]] w fun e w' => e = .returned (.bool (rightX 2 is l ⟨lo, ls, hi, hs, op⟩)) ∧ Below w.heap.size w w' := by
  have HB : Hid (∀ n : Nat, Below w.heap.size w (((w.alloc (.cells #[.int .u8 2, .slice a1 is.length c1, .slice a l c, .int .i64 lo, .bool ls, .int .i64 hi, .bool hs, .bool op] 32)).alloc (.cells #[.int .i64 0, .int .i64 0, .int .i64 2, .int .i64 2, .int .i64 2, .int .i64 1, .int .i64 1] 75)).drewN n)) :=
    fun n => below_drewN' (((Below.refl _ w).alloc (Nat.le_refl _) _).alloc (by simp) _) n
  have q : ((l : Int) == 2) = false := by simp; omega
  have Q : Hid ((l == manyOfX 2) = false) := by rw [Hid]; unfold manyOfX; simp; omega
  clear hl hR
  go_enter Tryd.func34, Tryd.ntmps34
  go_wp2_with fail
  go_quiet (fail)
  go_wp2_with fail
  all_goals go_ret
  all_goals exact ⟨ret_bool' (by unfold rightX; rw [Q.out]; simp), HB.out _⟩

set_option maxRecDepth 100000 in
set_option maxHeartbeats 8000000 in
theorem right34_no3 (m : Nat) (is : List (FT m)) (a1 : Option Addr) (c1 : Nat) (a : Option Addr) (l c : Nat) (lo hi : Int) (ls hs op : Bool) (w : World) (hR : FRow w w.heap.size m a1 is) (hl : l ≠ 2) :
    Calls Tryd.prog 34 #[.agg #[.int .u8 3, .slice a1 is.length c1, .slice a l c, .int .i64 lo, .bool ls, .int .i64 hi, .bool hs, .bool op]] w fun e w' => e = .returned (.bool (rightX 3 is l ⟨lo, ls, hi, hs, op⟩)) ∧ Below w.heap.size w w' := by
  have HB : Hid (∀ n : Nat, Below w.heap.size w (((w.alloc (.cells #[.int .u8 3, .slice a1 is.length c1, .slice a l c, .int .i64 lo, .bool ls, .int .i64 hi, .bool hs, .bool op] 32)).alloc (.cells #[.int .i64 0, .int .i64 0, .int .i64 2, .int .i64 2, .int .i64 2, .int .i64 1, .int .i64 1] 75)).drewN n)) :=
    fun n => below_drewN' (((Below.refl _ w).alloc (Nat.le_refl _) _).alloc (by simp) _) n
  have q : ((l : Int) == 2) = false := by simp; omega
  have Q : Hid ((l == manyOfX 3) = false) := by rw [Hid]; unfold manyOfX; simp; omega
  clear hl hR
  go_enter Tryd.func34, Tryd.ntmps34
  go_wp2_with fail
  go_quiet (fail)
  go_wp2_with fail
  all_goals go_ret
  all_goals exact ⟨ret_bool' (by unfold rightX; rw [Q.out]; simp), HB.out _⟩

set_option maxRecDepth 100000 in
set_option maxHeartbeats 8000000 in
theorem right34_no4 (m : Nat) (is : List (FT m)) (a1 : Option Addr) (c1 : Nat) (a : Option Addr) (l c : Nat) (lo hi : Int) (ls hs op : Bool) (w : World) (hR : FRow w w.heap.size m a1 is) (hl : l ≠ 2) :
    Calls Tryd.prog 34 #[.agg #[.int .u8 4, .slice a1 is.length c1, .slice a l c, .int .i64 lo, .bool ls, .int .i64 hi, .bool hs, .bool op]] w fun e w' => e = .returned (.bool (rightX 4 is l ⟨lo, ls, hi, hs, op⟩)) ∧ Below w.heap.size w w' := by
  have HB : Hid (∀ n : Nat, Below w.heap.size w (((w.alloc (.cells #[.int .u8 4, .slice a1 is.length c1, .slice a l c, .int .i64 lo, .bool ls, .int .i64 hi, .bool hs, .bool op] 32)).alloc (.cells #[.int .i64 0, .int .i64 0, .int .i64 2, .int .i64 2, .int .i64 2, .int .i64 1, .int .i64 1] 75)).drewN n)) :=
    fun n => below_drewN' (((Below.refl _ w).alloc (Nat.le_refl _) _).alloc (by simp) _) n
  have q : ((l : Int) == 2) = false := by simp; omega
  have Q : Hid ((l == manyOfX 4) = false) := by rw [Hid]; unfold manyOfX; simp; omega
  clear hl hR
  go_enter Tryd.func34, Tryd.ntmps34
  go_wp2_with fail
  go_quiet (fail)
  go_wp2_with fail
  all_goals go_ret
  all_goals exact ⟨ret_bool' (by unfold rightX; rw [Q.out]; simp), HB.out _⟩

set_option maxRecDepth 100000 in
set_option maxHeartbeats 8000000 in
theorem right34_no5 (m : Nat) (is : List (FT m)) (a1 : Option Addr) (c1 : Nat) (a : Option Addr) (l c : Nat) (lo hi : Int) (ls hs op : Bool) (w : World) (hR : FRow w w.heap.size m a1 is) (hl : l ≠ 1) :
    Calls Tryd.prog 34 #[.agg #[.int .u8 5, .slice a1 is.length c1, .slice a l c, .int .i64 lo, .bool ls, .int .i64 hi, .bool hs, .bool op]] w fun e w' => e = .returned (.bool (rightX 5 is l ⟨lo, ls, hi, hs, op⟩)) ∧ Below w.heap.size w w' := by
  have HB : Hid (∀ n : Nat, Below w.heap.size w (((w.alloc (.cells #[.int .u8 5, .slice a1 is.length c1, .slice a l c, .int .i64 lo, .bool ls, .int .i64 hi, .bool hs, .bool op] 32)).alloc (.cells #[.int .i64 0, .int .i64 0, .int .i64 2, .int .i64 2, .int .i64 2, .int .i64 1, .int .i64 1] 75)).drewN n)) :=
    fun n => below_drewN' (((Below.refl _ w).alloc (Nat.le_refl _) _).alloc (by simp) _) n
  have q : ((l : Int) == 1) = false := by simp; omega
  have Q : Hid ((l == manyOfX 5) = false) := by rw [Hid]; unfold manyOfX; simp; omega
  clear hl hR
  go_enter Tryd.func34, Tryd.ntmps34
  go_wp2_with fail
  go_quiet (fail)
  go_wp2_with fail
  all_goals go_ret
  all_goals exact ⟨ret_bool' (by unfold rightX; rw [Q.out]; simp), HB.out _⟩

set_option maxRecDepth 100000 in
set_option maxHeartbeats 8000000 in
theorem right34_no6 (m : Nat) (is : List (FT m)) (a1 : Option Addr) (c1 : Nat) (a : Option Addr) (l c : Nat) (lo hi : Int) (ls hs op : Bool) (w : World) (hR : FRow w w.heap.size m a1 is) (hl : l ≠ 1) :
    Calls Tryd.prog 34 #[.agg #[.int .u8 6, .slice a1 is.length c1, .slice a l c, .int .i64 lo, .bool ls, .int .i64 hi, .bool hs, .bool op]] w fun e w' => e = .returned (.bool (rightX 6 is l ⟨lo, ls, hi, hs, op⟩)) ∧ Below w.heap.size w w' := by
  have HB : Hid (∀ n : Nat, Below w.heap.size w (((w.alloc (.cells #[.int .u8 6, .slice a1 is.length c1, .slice a l c, .int .i64 lo, .bool ls, .int .i64 hi, .bool hs, .bool op] 32)).alloc (.cells #[.int .i64 0, .int .i64 0, .int .i64 2, .int .i64 2, .int .i64 2, .int .i64 1, .int .i64 1] 75)).drewN n)) :=
    fun n => below_drewN' (((Below.refl _ w).alloc (Nat.le_refl _) _).alloc (by simp) _) n
  have q : ((l : Int) == 1) = false := by simp; omega
  have Q : Hid ((l == manyOfX 6) = false) := by rw [Hid]; unfold manyOfX; simp; omega
  clear hl hR
  go_enter Tryd.func34, Tryd.ntmps34
  go_wp2_with fail
  go_quiet (fail)
  go_wp2_with fail
  all_goals go_ret
  all_goals exact ⟨ret_bool' (by unfold rightX; rw [Q.out]; simp), HB.out _⟩

set_option maxRecDepth 100000 in
set_option maxHeartbeats 8000000 in
theorem right34_at2 (m : Nat) (is : List (FT m)) (a1 : Option Addr) (c1 : Nat) (a : Option Addr) (l c : Nat) (lo hi : Int) (ls hs op : Bool) (w : World) (hR : FRow w w.heap.size m a1 is) (hl : l = 2) :
    Calls Tryd.prog 34 #[.agg #[.int .u8 2, .slice a1 is.length c1, .slice a l c, .int .i64 lo, .bool ls, .int .i64 hi, .bool hs, .bool op]] w fun e w' => e = .returned (.bool (rightX 2 is l ⟨lo, ls, hi, hs, op⟩)) ∧ Below w.heap.size w w' := by
  subst hl
  have HB : Hid (∀ n : Nat, Below w.heap.size w (((w.alloc (.cells #[.int .u8 2, .slice a1 is.length c1, .slice a 2 c, .int .i64 lo, .bool ls, .int .i64 hi, .bool hs, .bool op] 32)).alloc (.cells #[.int .i64 0, .int .i64 0, .int .i64 2, .int .i64 2, .int .i64 2, .int .i64 1, .int .i64 1] 75)).drewN n)) :=
    fun n => below_drewN' (((Below.refl _ w).alloc (Nat.le_refl _) _).alloc (by simp) _) n
  clear hR
  go_enter Tryd.func34, Tryd.ntmps34
  go_wp2_with fail
  go_quiet (fail)
  go_wp2_with fail
  all_goals go_ret
  all_goals exact ⟨ret_bool' (by unfold rightX manyOfX noSpan; simp_all [len0]), below_drewN' (((Below.refl _ w).alloc (Nat.le_refl _) _).alloc (by simp) _) _⟩

set_option maxRecDepth 100000 in
set_option maxHeartbeats 8000000 in
theorem right34_at3 (m : Nat) (is : List (FT m)) (a1 : Option Addr) (c1 : Nat) (a : Option Addr) (l c : Nat) (lo hi : Int) (ls hs op : Bool) (w : World) (hR : FRow w w.heap.size m a1 is) (hl : l = 2) :
    Calls Tryd.prog 34 #[.agg #[.int .u8 3, .slice a1 is.length c1, .slice a l c, .int .i64 lo, .bool ls, .int .i64 hi, .bool hs, .bool op]] w fun e w' => e = .returned (.bool (rightX 3 is l ⟨lo, ls, hi, hs, op⟩)) ∧ Below w.heap.size w w' := by
  subst hl
  have HB : Hid (∀ n : Nat, Below w.heap.size w (((w.alloc (.cells #[.int .u8 3, .slice a1 is.length c1, .slice a 2 c, .int .i64 lo, .bool ls, .int .i64 hi, .bool hs, .bool op] 32)).alloc (.cells #[.int .i64 0, .int .i64 0, .int .i64 2, .int .i64 2, .int .i64 2, .int .i64 1, .int .i64 1] 75)).drewN n)) :=
    fun n => below_drewN' (((Below.refl _ w).alloc (Nat.le_refl _) _).alloc (by simp) _) n
  clear hR
  go_enter Tryd.func34, Tryd.ntmps34
  go_wp2_with fail
  go_quiet (fail)
  go_wp2_with fail
  all_goals go_ret
  all_goals exact ⟨ret_bool' (by unfold rightX manyOfX noSpan; simp_all [len0]), below_drewN' (((Below.refl _ w).alloc (Nat.le_refl _) _).alloc (by simp) _) _⟩

set_option maxRecDepth 100000 in
set_option maxHeartbeats 8000000 in
theorem right34_at4 (m : Nat) (is : List (FT m)) (a1 : Option Addr) (c1 : Nat) (a : Option Addr) (l c : Nat) (lo hi : Int) (ls hs op : Bool) (w : World) (hR : FRow w w.heap.size m a1 is) (hl : l = 2) :
    Calls Tryd.prog 34 #[.agg #[.int .u8 4, .slice a1 is.length c1, .slice a l c, .int .i64 lo, .bool ls, .int .i64 hi, .bool hs, .bool op]] w fun e w' => e = .returned (.bool (rightX 4 is l ⟨lo, ls, hi, hs, op⟩)) ∧ Below w.heap.size w w' := by
  subst hl
  have HB : Hid (∀ n : Nat, Below w.heap.size w (((w.alloc (.cells #[.int .u8 4, .slice a1 is.length c1, .slice a 2 c, .int .i64 lo, .bool ls, .int .i64 hi, .bool hs, .bool op] 32)).alloc (.cells #[.int .i64 0, .int .i64 0, .int .i64 2, .int .i64 2, .int .i64 2, .int .i64 1, .int .i64 1] 75)).drewN n)) :=
    fun n => below_drewN' (((Below.refl _ w).alloc (Nat.le_refl _) _).alloc (by simp) _) n
  clear hR
  go_enter Tryd.func34, Tryd.ntmps34
  go_wp2_with fail
  go_quiet (fail)
  go_wp2_with fail
  all_goals go_ret
  all_goals exact ⟨ret_bool' (by unfold rightX manyOfX noSpan; simp_all [len0]), below_drewN' (((Below.refl _ w).alloc (Nat.le_refl _) _).alloc (by simp) _) _⟩

set_option maxRecDepth 100000 in
set_option maxHeartbeats 8000000 in
theorem right34_at5 (m : Nat) (is : List (FT m)) (a1 : Option Addr) (c1 : Nat) (a : Option Addr) (l c : Nat) (lo hi : Int) (ls hs op : Bool) (w : World) (hR : FRow w w.heap.size m a1 is) (hl : l = 1) :
    Calls Tryd.prog 34 #[.agg #[.int .u8 5, .slice a1 is.length c1, .slice a l c, .int .i64 lo, .bool ls, .int .i64 hi, .bool hs, .bool op]] w fun e w' => e = .returned (.bool (rightX 5 is l ⟨lo, ls, hi, hs, op⟩)) ∧ Below w.heap.size w w' := by
  subst hl
  have HB : Hid (∀ n : Nat, Below w.heap.size w (((w.alloc (.cells #[.int .u8 5, .slice a1 is.length c1, .slice a 1 c, .int .i64 lo, .bool ls, .int .i64 hi, .bool hs, .bool op] 32)).alloc (.cells #[.int .i64 0, .int .i64 0, .int .i64 2, .int .i64 2, .int .i64 2, .int .i64 1, .int .i64 1] 75)).drewN n)) :=
    fun n => below_drewN' (((Below.refl _ w).alloc (Nat.le_refl _) _).alloc (by simp) _) n
  clear hR
  go_enter Tryd.func34, Tryd.ntmps34
  go_wp2_with fail
  go_quiet (fail)
  go_wp2_with fail
  all_goals go_ret
  all_goals exact ⟨ret_bool' (by unfold rightX manyOfX noSpan; simp_all [len0]), below_drewN' (((Below.refl _ w).alloc (Nat.le_refl _) _).alloc (by simp) _) _⟩

set_option maxRecDepth 100000 in
set_option maxHeartbeats 8000000 in
theorem right34_at6 (m : Nat) (is : List (FT m)) (a1 : Option Addr) (c1 : Nat) (a : Option Addr) (l c : Nat) (lo hi : Int) (ls hs op : Bool) (w : World) (hR : FRow w w.heap.size m a1 is) (hl : l = 1) :
    Calls Tryd.prog 34 #[.agg #[.int .u8 6, .slice a1 is.length c1, .slice a l c, .int .i64 lo, .bool ls, .int .i64 hi, .bool hs, .bool op]] w fun e w' => e = .returned (.bool (rightX 6 is l ⟨lo, ls, hi, hs, op⟩)) ∧ Below w.heap.size w w' := by
  subst hl
  have HB : Hid (∀ n : Nat, Below w.heap.size w (((w.alloc (.cells #[.int .u8 6, .slice a1 is.length c1, .slice a 1 c, .int .i64 lo, .bool ls, .int .i64 hi, .bool hs, .bool op] 32)).alloc (.cells #[.int .i64 0, .int .i64 0, .int .i64 2, .int .i64 2, .int .i64 2, .int .i64 1, .int .i64 1] 75)).drewN n)) :=
    fun n => below_drewN' (((Below.refl _ w).alloc (Nat.le_refl _) _).alloc (by simp) _) n
  have HI := Lib.hid (interval9_any ⟨lo, ls, hi, hs, op⟩)
  have HE : Hid (∀ b, (ivR ⟨lo, ls, hi, hs, op⟩ == 8) = b → rightX 6 is 1 ⟨lo, ls, hi, hs, op⟩ = (!b && is.length == 0)) := by
    rintro b h; unfold rightX manyOfX; rw [h]; simp
  unfold Spn.val at HI
  dsimp only at HI
  generalize ivR ⟨lo, ls, hi, hs, op⟩ = iv at HI HE
  clear hR
  cases q : iv == 8 with
  | true =>
    have HQ := Lib.hid (HE.out _ q)
    go_enter Tryd.func34, Tryd.ntmps34
    go_wp2_with fail
    go_quiet (fail)
    go_wp2_with fail
    refine (HI.out _).mono ?_
    rintro e w1 ⟨rfl, hb1⟩
    have HB1 := Lib.hid ((HB.out _).trans (hb1.mono (HB.out _).size))
    clear hb1
    go_wp2_with fail
    all_goals go_ret
    all_goals exact ⟨ret_bool' (by rw [HQ.out]; rfl), HB1.out⟩
  | false =>
    have HQ := Lib.hid (HE.out _ q)
    go_enter Tryd.func34, Tryd.ntmps34
    go_wp2_with fail
    go_quiet (fail)
    go_wp2_with fail
    refine (HI.out _).mono ?_
    rintro e w1 ⟨rfl, hb1⟩
    have HB1 := Lib.hid ((HB.out _).trans (hb1.mono (HB.out _).size))
    have x0 := (hb1.cell (p := ⟨w.heap.size, 0, none⟩) (by simp; omega))
    have x1 := (hb1.cell (p := ⟨w.heap.size, 1, none⟩) (by simp; omega))
    simp [World.cell?_alloc_at, World.cell?_drewN, World.cell?_alloc_past] at x0 x1
    clear hb1
    go_wp2_with fail
    all_goals go_ret
    all_goals exact ⟨ret_bool' (by rw [HQ.out, len0]; simp), HB1.out⟩

set_option maxRecDepth 100000 in
set_option maxHeartbeats 8000000 in
theorem right34_at1 (m : Nat) (is : List (FT m)) (a1 : Option Addr) (c1 : Nat) (a : Option Addr) (l c : Nat) (lo hi : Int) (ls hs op : Bool) (w : World) (hR : FRow w w.heap.size m a1 is) (hl : l = 0) :
    Calls Tryd.prog 34 #[.agg #[.int .u8 1, .slice a1 is.length c1, .slice a l c, .int .i64 lo, .bool ls, .int .i64 hi, .bool hs, .bool op]] w fun e w' => e = .returned (.bool (rightX 1 is l ⟨lo, ls, hi, hs, op⟩)) ∧ Below w.heap.size w w' := by
  subst hl
  have HB : Hid (∀ n : Nat, Below w.heap.size w (((w.alloc (.cells #[.int .u8 1, .slice a1 is.length c1, .slice a 0 c, .int .i64 lo, .bool ls, .int .i64 hi, .bool hs, .bool op] 32)).alloc (.cells #[.int .i64 0, .int .i64 0, .int .i64 2, .int .i64 2, .int .i64 2, .int .i64 1, .int .i64 1] 75)).drewN n)) :=
    fun n => below_drewN' (((Below.refl _ w).alloc (Nat.le_refl _) _).alloc (by simp) _) n
  have HR := Lib.hid hR
  by_cases hsp : (⟨lo, ls, hi, hs, op⟩ : Spn) = ⟨0, false, 0, false, false⟩
  · injection hsp with h1 h2 h3 h4 h5
    subst h1 h2 h3 h4 h5
    have HE : Hid (rightX 1 is 0 ⟨0, false, 0, false, false⟩ = ((is.length == 1) && is.all (allF rightB m))) := by
      rw [Hid]; unfold rightX manyOfX noSpan; simp
    by_cases h1 : is.length = 1
    · obtain ⟨f, rfl⟩ := List.length_eq_one_iff.1 h1
      have hbn := HB.out
      have HAT : Hid (∀ n, ∃ b off k s sa sl sc, a1 = some ⟨b, off, none⟩ ∧ b < w.heap.size ∧ w.cell? ⟨b, off, none⟩ = some (.int .u8 k) ∧ w.cell? ⟨b, off + 1, none⟩ = some (.string s) ∧
          w.cell? ⟨b, off + 2, none⟩ = some (.slice sa sl sc) ∧ Calls Tryd.prog 42 #[.agg #[.int .u8 k, .string s, .slice sa sl sc], .func (.func 43) #[] #[], .func (.func 44) #[] #[]] (((w.alloc (.cells #[.int .u8 1, .slice a1 1 c1, .slice a 0 c, .int .i64 0, .bool false, .int .i64 0, .bool false, .bool false] 32)).alloc (.cells #[.int .i64 0, .int .i64 0, .int .i64 2, .int .i64 2, .int .i64 2, .int .i64 1, .int .i64 1] 75)).drewN n) fun e w' => e = .returned (.bool (allF rightB m f)) ∧ Below (((w.alloc (.cells #[.int .u8 1, .slice a1 1 c1, .slice a 0 c, .int .i64 0, .bool false, .int .i64 0, .bool false, .bool false] 32)).alloc (.cells #[.int .i64 0, .int .i64 0, .int .i64 2, .int .i64 2, .int .i64 2, .int .i64 1, .int .i64 1] 75)).drewN n).heap.size (((w.alloc (.cells #[.int .u8 1, .slice a1 1 c1, .slice a 0 c, .int .i64 0, .bool false, .int .i64 0, .bool false, .bool false] 32)).alloc (.cells #[.int .i64 0, .int .i64 0, .int .i64 2, .int .i64 2, .int .i64 2, .int .i64 1, .int .i64 1] 75)).drewN n) w') := by
        intro n
        obtain ⟨b, off, k, s, sa, sl, sc, e, hb, g0, g1, g2, hr⟩ := FRow.at HR.out 0 (by simp)
        have hr' : FRep w w.heap.size m f (.agg #[.int .u8 k, .string s, .slice sa sl sc]) := hr
        exact ⟨b, off, k, s, sa, sl, sc, e, hb, by simpa using g0, by simpa using g1, by simpa using g2, all42_any rightB 44 #[] m f _ _ (hr'.up (hbn n) (hbn n).size) (so44 _)⟩
      have HFIN : Hid (rightX 1 [f] 0 ⟨0, false, 0, false, false⟩ = allF rightB m f) := by rw [Hid, HE.out]; simp
      clear h1 hR hbn
      simp only [List.length_cons, List.length_nil, Nat.zero_add] at HB ⊢
      go_enter Tryd.func34, Tryd.ntmps34
      go_wp2_with fail
      go_quiet (fail)
      obtain ⟨b, off, k, s, sa, sl, sc, rfl, hb, g0, g1, g2, hC⟩ := HAT.out nq
      have HC := Lib.hid hC
      have hb2 : b < w.heap.size + 1 := by omega
      clear hC
      go_wp2_with fail
      refine HC.out.mono ?_
      rintro e w1 ⟨rfl, hb1⟩
      have HB1 := Lib.hid ((HB.out _).trans (hb1.mono (HB.out _).size))
      clear hb1
      go_wp2_with fail
      all_goals go_ret
      all_goals exact ⟨ret_bool' (by rw [HFIN.out]), HB1.out⟩
    · have q : ((is.length : Int) == 1) = false := by simp; omega
      have HFIN : Hid (rightX 1 is 0 ⟨0, false, 0, false, false⟩ = false) := by rw [Hid, HE.out]; simp [h1]
      clear h1 hR
      go_enter Tryd.func34, Tryd.ntmps34
      go_wp2_with fail
      go_quiet (fail)
      go_wp2_with fail
      all_goals go_ret
      all_goals exact ⟨ret_bool' (by rw [HFIN.out]), HB.out _⟩
  · have HFIN : Hid (rightX 1 is 0 ⟨lo, ls, hi, hs, op⟩ = false) := by
      have : ((⟨lo, ls, hi, hs, op⟩ : Spn) != noSpan) = true := by simpa [noSpan] using hsp
      rw [Hid]; unfold rightX; rw [this]; simp
    have q := hsp
    rw [Spn.mk.injEq] at q
    clear hsp hR
    go_enter Tryd.func34, Tryd.ntmps34
    go_wp2_with fail
    go_quiet (fail)
    go_wp2_with fail
    all_goals first | (exfalso; simp_all; done) | skip
    all_goals go_ret
    all_goals exact ⟨ret_bool' (by rw [HFIN.out]), below_drewN' (((Below.refl _ w).alloc (Nat.le_refl _) _).alloc (by simp) _) _⟩

theorem so34 {m : Nat} (w : World) : SoX (m := m) w 34 #[] rightX := by
  intro n
  refine ⟨ent_of Tryd.func34 (by kernel_rfl) (by kernel_rfl), fun t v w' hb' hr => ?_⟩
  obtain ⟨k, is, of, lo, ls, hi, hs, op⟩ := t
  obtain ⟨a1, c1, a, c, rfl, hR, _⟩ := hr
  dsimp only at hR ⊢
  have hk : k < 1 ∨ k = 1 ∨ k = 2 ∨ k = 3 ∨ k = 4 ∨ k = 5 ∨ k = 6 ∨ 6 < k := by omega
  rcases hk with h | rfl | rfl | rfl | rfl | rfl | rfl | h
  · exact right34_low m k is a1 c1 a of.length c lo hi ls hs op w' h hR
  · by_cases hl : of.length = 0
    · exact right34_at1 m is a1 c1 a of.length c lo hi ls hs op w' hR hl
    · exact right34_no1 m is a1 c1 a of.length c lo hi ls hs op w' hR hl
  · by_cases hl : of.length = 2
    · exact right34_at2 m is a1 c1 a of.length c lo hi ls hs op w' hR hl
    · exact right34_no2 m is a1 c1 a of.length c lo hi ls hs op w' hR hl
  · by_cases hl : of.length = 2
    · exact right34_at3 m is a1 c1 a of.length c lo hi ls hs op w' hR hl
    · exact right34_no3 m is a1 c1 a of.length c lo hi ls hs op w' hR hl
  · by_cases hl : of.length = 2
    · exact right34_at4 m is a1 c1 a of.length c lo hi ls hs op w' hR hl
    · exact right34_no4 m is a1 c1 a of.length c lo hi ls hs op w' hR hl
  · by_cases hl : of.length = 1
    · exact right34_at5 m is a1 c1 a of.length c lo hi ls hs op w' hR hl
    · exact right34_no5 m is a1 c1 a of.length c lo hi ls hs op w' hR hl
  · by_cases hl : of.length = 1
    · exact right34_at6 m is a1 c1 a of.length c lo hi ls hs op w' hR hl
    · exact right34_no6 m is a1 c1 a of.length c lo hi ls hs op w' hR hl
  · exact right34_high m k is a1 c1 a of.length c lo hi ls hs op w' h hR
end Go.Proofs.YtabpfbgcdmejbaaDoor
