/- Layer 16 walked: formulas that are made right, but for their parts. -/
import Derived.Deep.QuietTactic
import Derived.BigQuiet
import Derived.Test.YtpgdplmndnopbaaGreatDoorZ03
import Derived.Test.YtpgdplmndnopbaaGreatDoorZ13
import Derived.Test.YtpgdplmndnopbaaGreatDoorZ06
import Derived.Test.YtpgdplmndnopbaaGreatDoorZ02
set_option maxRecDepth 100000
set_option maxHeartbeats 16000000
namespace Go.Proofs.YtpgdplmndnopbaaGreatDoor
open Go.RowKit
theorem z0m {w w' : World} {B : Nat} (h : Below B w w') (k : Nat) : Below B w (w'.drewN k):=h.trans ⟨rfl,rfl,rfl,Nat.le_refl _,fun _ _ => rfl⟩
theorem empty_size (s : ByteArray) : (s.toList == []) = decide (s.size = 0):=by
 rw [Bool.eq_iff_iff,beq_iff_eq,decide_eq_true_eq,ByteArray.toList_eq]
 constructor
 ·intro h
  have : s.data.toList.length = 0:=by rw [h]; rfl
  simpa using this
 ·intro h
  have : s.data.toList.length = 0:=by simpa using h
  exact List.eq_nil_of_length_eq_zero this
theorem right44_any (k : Int) (s : ByteArray) (a : Option Addr) (l c : Nat) (w : World) :
 Calls Tryz.prog 110 #[.agg #[.int .u8 k,.string s,.slice a l c]] w fun e w' => e = .returned (.bool (z07 k s l)) ∧ Below w.heap.size w w':=by
 have HS:=Lib.hid (empty_size s)
 have HB : Hid (∀ n : Nat,Below w.heap.size w (((w.alloc (.cells #[.int .u8 k,.string s,.slice a l c] 61)).alloc (.cells #[.int .i64 0,.int .i64 0,.int .i64 0,.int .i64 0,.int .i64 1,.int .i64 2,.int .i64 2] 109)).drewN n)) :=
  fun n => z0m (((Below.refl _ w).alloc (Nat.le_refl _) _).alloc (by simp) _) n
 have hk : k < 1 ∨ k = 1 ∨ k = 2 ∨ k = 3 ∨ k = 4 ∨ k = 5 ∨ k = 6 ∨ 6 < k:=by omega
 rcases hk with h | rfl | rfl | rfl | rfl | rfl | rfl | h
 ·have q : decide (1 ≤ k) = false:=by simp; omega
  have Q:=Lib.hid q
  clear h
  go_enter Tryz.func110,Tryz.ntmps110
  go_wp2_with fail
  go_quiet (fail)
  go_wp2_with fail
  all_goals go_ret
  all_goals exact ⟨z00 (by unfold z07; rw [Q.out]; rfl),HB.out _⟩
 ·by_cases hl : l = 0
  ·subst hl
   cases q : (s.toList == [])
   all_goals
    have Q:=Lib.hid (HS.out.symm.trans q)
    go_enter Tryz.func110,Tryz.ntmps110
    go_wp2_with fail
    go_quiet (fail)
    go_wp2_with fail
    all_goals go_ret
    all_goals exact ⟨z00 (by unfold z07 z16; rw [Q.out]; rfl),HB.out _⟩
  ·have q : ((l : Int) == 0) = false:=by simp; omega
   have Q : Hid ((l == 0) = false):=by rw [Hid]; simp; omega
   clear hl
   go_enter Tryz.func110,Tryz.ntmps110
   go_wp2_with fail
   go_quiet (fail)
   go_wp2_with fail
   all_goals go_ret
   all_goals exact ⟨z00 (by unfold z07 z16; have:=Q.out; simp [this]),HB.out _⟩
 ·by_cases hl : l = 0
  ·subst hl
   cases q : (s.toList == [])
   all_goals
    have Q:=Lib.hid (HS.out.symm.trans q)
    go_enter Tryz.func110,Tryz.ntmps110
    go_wp2_with fail
    go_quiet (fail)
    go_wp2_with fail
    all_goals go_ret
    all_goals exact ⟨z00 (by unfold z07 z16; rw [Q.out]; rfl),HB.out _⟩
  ·have q : ((l : Int) == 0) = false:=by simp; omega
   have Q : Hid ((l == 0) = false):=by rw [Hid]; simp; omega
   clear hl
   go_enter Tryz.func110,Tryz.ntmps110
   go_wp2_with fail
   go_quiet (fail)
   go_wp2_with fail
   all_goals go_ret
   all_goals exact ⟨z00 (by unfold z07 z16; have:=Q.out; simp [this]),HB.out _⟩
 ·by_cases hl : l = 0
  ·subst hl
   cases q : (s.toList == [])
   all_goals
    have Q:=Lib.hid (HS.out.symm.trans q)
    go_enter Tryz.func110,Tryz.ntmps110
    go_wp2_with fail
    go_quiet (fail)
    go_wp2_with fail
    all_goals go_ret
    all_goals exact ⟨z00 (by unfold z07 z16; rw [Q.out]; rfl),HB.out _⟩
  ·have q : ((l : Int) == 0) = false:=by simp; omega
   have Q : Hid ((l == 0) = false):=by rw [Hid]; simp; omega
   clear hl
   go_enter Tryz.func110,Tryz.ntmps110
   go_wp2_with fail
   go_quiet (fail)
   go_wp2_with fail
   all_goals go_ret
   all_goals exact ⟨z00 (by unfold z07 z16; have:=Q.out; simp [this]),HB.out _⟩
 ·by_cases hl : l = 1
  ·subst hl
   cases q : (s.toList == [])
   all_goals
    have Q:=Lib.hid (HS.out.symm.trans q)
    go_enter Tryz.func110,Tryz.ntmps110
    go_wp2_with fail
    go_quiet (fail)
    go_wp2_with fail
    all_goals go_ret
    all_goals exact ⟨z00 (by unfold z07 z16; rw [Q.out]; rfl),HB.out _⟩
  ·have q : ((l : Int) == 1) = false:=by simp; omega
   have Q : Hid ((l == 1) = false):=by rw [Hid]; simp; omega
   clear hl
   go_enter Tryz.func110,Tryz.ntmps110
   go_wp2_with fail
   go_quiet (fail)
   go_wp2_with fail
   all_goals go_ret
   all_goals exact ⟨z00 (by unfold z07 z16; have:=Q.out; simp [this]),HB.out _⟩
 ·by_cases hl : l = 2
  ·subst hl
   cases q : (s.toList == [])
   all_goals
    have Q:=Lib.hid (HS.out.symm.trans q)
    go_enter Tryz.func110,Tryz.ntmps110
    go_wp2_with fail
    go_quiet (fail)
    go_wp2_with fail
    all_goals go_ret
    all_goals exact ⟨z00 (by unfold z07 z16; rw [Q.out]; rfl),HB.out _⟩
  ·have q : ((l : Int) == 2) = false:=by simp; omega
   have Q : Hid ((l == 2) = false):=by rw [Hid]; simp; omega
   clear hl
   go_enter Tryz.func110,Tryz.ntmps110
   go_wp2_with fail
   go_quiet (fail)
   go_wp2_with fail
   all_goals go_ret
   all_goals exact ⟨z00 (by unfold z07 z16; have:=Q.out; simp [this]),HB.out _⟩
 ·by_cases hl : l = 2
  ·subst hl
   cases q : (s.toList == [])
   all_goals
    have Q:=Lib.hid (HS.out.symm.trans q)
    go_enter Tryz.func110,Tryz.ntmps110
    go_wp2_with fail
    go_quiet (fail)
    go_wp2_with fail
    all_goals go_ret
    all_goals exact ⟨z00 (by unfold z07 z16; rw [Q.out]; rfl),HB.out _⟩
  ·have q : ((l : Int) == 2) = false:=by simp; omega
   have Q : Hid ((l == 2) = false):=by rw [Hid]; simp; omega
   clear hl
   go_enter Tryz.func110,Tryz.ntmps110
   go_wp2_with fail
   go_quiet (fail)
   go_wp2_with fail
   all_goals go_ret
   all_goals exact ⟨z00 (by unfold z07 z16; have:=Q.out; simp [this]),HB.out _⟩
 ·have q : decide (1 ≤ k) = true:=by simp; omega
  have q2 : decide (k ≤ 6) = false:=by simp; omega
  have Q:=Lib.hid q2
  clear h
  go_enter Tryz.func110,Tryz.ntmps110
  go_wp2_with fail
  go_quiet (fail)
  go_wp2_with fail
  all_goals go_ret
  all_goals exact ⟨z00 (by unfold z07; rw [Q.out]; simp),HB.out _⟩
theorem so44 (w : World) : SoF w 110 #[] z07:=by
 intro n
 refine ⟨z2x Tryz.func110 (by kernel_rfl) (by kernel_rfl),fun t v w' hb' hr => ?_⟩
 obtain ⟨k,s,of⟩:=t
 obtain ⟨a,c,rfl,_⟩:=hr
 exact right44_any k s a of.length c w'
end Go.Proofs.YtpgdplmndnopbaaGreatDoor
namespace Go.Proofs.YtpgdplmndnopbaaGreatDoor
open Go.RowKit
theorem len0 (n : Nat) : ((n : Int) == 0) = (n == 0):=by rw [Bool.eq_iff_iff]; simp
theorem right34_low (m : Nat) (k : Int) (is : List (FT m)) (a1 : Option Addr) (c1 : Nat) (a : Option Addr) (l c : Nat) (lo hi : Int) (ls hs op : Bool) (w : World) (hk : k < 1) (_hR : FRow w w.heap.size m a1 is) :
 Calls Tryz.prog 53 #[.agg #[.int .u8 k,.slice a1 is.length c1,.slice a l c,.int .i64 lo,.bool ls,.int .i64 hi,.bool hs,.bool op]] w fun e w' => e = .returned (.bool (z04 k is l ⟨lo,ls,hi,hs,op⟩)) ∧ Below w.heap.size w w':=by
 have HB : Hid (∀ n : Nat,Below w.heap.size w (((w.alloc (.cells #[.int .u8 k,.slice a1 is.length c1,.slice a l c,.int .i64 lo,.bool ls,.int .i64 hi,.bool hs,.bool op] 28)).alloc (.cells #[.int .i64 0,.int .i64 0,.int .i64 2,.int .i64 2,.int .i64 2,.int .i64 1,.int .i64 1] 109)).drewN n)) :=
  fun n => z0m (((Below.refl _ w).alloc (Nat.le_refl _) _).alloc (by simp) _) n
 have q : decide (k < 1) = true:=by simp; omega
 have Q : Hid (decide (1 ≤ k) = false):=by rw [Hid]; simp; omega
 clear _hR
 go_enter Tryz.func53,Tryz.ntmps53
 go_wp2_with fail
 go_quiet (fail)
 go_wp2_with fail
 all_goals go_ret
 all_goals exact ⟨z00 (by unfold z04; rw [Q.out]; simp),HB.out _⟩
theorem right34_high (m : Nat) (k : Int) (is : List (FT m)) (a1 : Option Addr) (c1 : Nat) (a : Option Addr) (l c : Nat) (lo hi : Int) (ls hs op : Bool) (w : World) (hk : 6 < k) (_hR : FRow w w.heap.size m a1 is) :
 Calls Tryz.prog 53 #[.agg #[.int .u8 k,.slice a1 is.length c1,.slice a l c,.int .i64 lo,.bool ls,.int .i64 hi,.bool hs,.bool op]] w fun e w' => e = .returned (.bool (z04 k is l ⟨lo,ls,hi,hs,op⟩)) ∧ Below w.heap.size w w':=by
 have HB : Hid (∀ n : Nat,Below w.heap.size w (((w.alloc (.cells #[.int .u8 k,.slice a1 is.length c1,.slice a l c,.int .i64 lo,.bool ls,.int .i64 hi,.bool hs,.bool op] 28)).alloc (.cells #[.int .i64 0,.int .i64 0,.int .i64 2,.int .i64 2,.int .i64 2,.int .i64 1,.int .i64 1] 109)).drewN n)) :=
  fun n => z0m (((Below.refl _ w).alloc (Nat.le_refl _) _).alloc (by simp) _) n
 have q0 : decide (k < 1) = false:=by simp; omega
 have q : decide (6 < k) = true:=by simp; omega
 have Q : Hid (decide (k ≤ 6) = false):=by rw [Hid]; simp; omega
 clear _hR
 go_enter Tryz.func53,Tryz.ntmps53
 go_wp2_with fail
 go_quiet (fail)
 go_wp2_with fail
 all_goals go_ret
 all_goals exact ⟨z00 (by unfold z04; rw [Q.out]; simp),HB.out _⟩
theorem right34_no1 (m : Nat) (is : List (FT m)) (a1 : Option Addr) (c1 : Nat) (a : Option Addr) (l c : Nat) (lo hi : Int) (ls hs op : Bool) (w : World) (_hR : FRow w w.heap.size m a1 is) (hl : l ≠ 0) :
 Calls Tryz.prog 53 #[.agg #[.int .u8 1,.slice a1 is.length c1,.slice a l c,.int .i64 lo,.bool ls,.int .i64 hi,.bool hs,.bool op]] w fun e w' => e = .returned (.bool (z04 1 is l ⟨lo,ls,hi,hs,op⟩)) ∧ Below w.heap.size w w':=by
 have HB : Hid (∀ n : Nat,Below w.heap.size w (((w.alloc (.cells #[.int .u8 1,.slice a1 is.length c1,.slice a l c,.int .i64 lo,.bool ls,.int .i64 hi,.bool hs,.bool op] 28)).alloc (.cells #[.int .i64 0,.int .i64 0,.int .i64 2,.int .i64 2,.int .i64 2,.int .i64 1,.int .i64 1] 109)).drewN n)) :=
  fun n => z0m (((Below.refl _ w).alloc (Nat.le_refl _) _).alloc (by simp) _) n
 have q : ((l : Int) == 0) = false:=by simp; omega
 have Q : Hid ((l == z1h 1) = false):=by rw [Hid]; unfold z1h; simp; omega
 clear hl _hR
 go_enter Tryz.func53,Tryz.ntmps53
 go_wp2_with fail
 go_quiet (fail)
 go_wp2_with fail
 all_goals go_ret
 all_goals exact ⟨z00 (by unfold z04; rw [Q.out]; simp),HB.out _⟩
theorem right34_no2 (m : Nat) (is : List (FT m)) (a1 : Option Addr) (c1 : Nat) (a : Option Addr) (l c : Nat) (lo hi : Int) (ls hs op : Bool) (w : World) (_hR : FRow w w.heap.size m a1 is) (hl : l ≠ 2) :
 Calls Tryz.prog 53 #[.agg #[.int .u8 2,.slice a1 is.length c1,.slice a l c,.int .i64 lo,.bool ls,.int .i64 hi,.bool hs,.bool op]] w fun e w' => e = .returned (.bool (z04 2 is l ⟨lo,ls,hi,hs,op⟩)) ∧ Below w.heap.size w w':=by
 have HB : Hid (∀ n : Nat,Below w.heap.size w (((w.alloc (.cells #[.int .u8 2,.slice a1 is.length c1,.slice a l c,.int .i64 lo,.bool ls,.int .i64 hi,.bool hs,.bool op] 28)).alloc (.cells #[.int .i64 0,.int .i64 0,.int .i64 2,.int .i64 2,.int .i64 2,.int .i64 1,.int .i64 1] 109)).drewN n)) :=
  fun n => z0m (((Below.refl _ w).alloc (Nat.le_refl _) _).alloc (by simp) _) n
 have q : ((l : Int) == 2) = false:=by simp; omega
 have Q : Hid ((l == z1h 2) = false):=by rw [Hid]; unfold z1h; simp; omega
 clear hl _hR
 go_enter Tryz.func53,Tryz.ntmps53
 go_wp2_with fail
 go_quiet (fail)
 go_wp2_with fail
 all_goals go_ret
 all_goals exact ⟨z00 (by unfold z04; rw [Q.out]; simp),HB.out _⟩
theorem right34_no3 (m : Nat) (is : List (FT m)) (a1 : Option Addr) (c1 : Nat) (a : Option Addr) (l c : Nat) (lo hi : Int) (ls hs op : Bool) (w : World) (_hR : FRow w w.heap.size m a1 is) (hl : l ≠ 2) :
 Calls Tryz.prog 53 #[.agg #[.int .u8 3,.slice a1 is.length c1,.slice a l c,.int .i64 lo,.bool ls,.int .i64 hi,.bool hs,.bool op]] w fun e w' => e = .returned (.bool (z04 3 is l ⟨lo,ls,hi,hs,op⟩)) ∧ Below w.heap.size w w':=by
 have HB : Hid (∀ n : Nat,Below w.heap.size w (((w.alloc (.cells #[.int .u8 3,.slice a1 is.length c1,.slice a l c,.int .i64 lo,.bool ls,.int .i64 hi,.bool hs,.bool op] 28)).alloc (.cells #[.int .i64 0,.int .i64 0,.int .i64 2,.int .i64 2,.int .i64 2,.int .i64 1,.int .i64 1] 109)).drewN n)) :=
  fun n => z0m (((Below.refl _ w).alloc (Nat.le_refl _) _).alloc (by simp) _) n
 have q : ((l : Int) == 2) = false:=by simp; omega
 have Q : Hid ((l == z1h 3) = false):=by rw [Hid]; unfold z1h; simp; omega
 clear hl _hR
 go_enter Tryz.func53,Tryz.ntmps53
 go_wp2_with fail
 go_quiet (fail)
 go_wp2_with fail
 all_goals go_ret
 all_goals exact ⟨z00 (by unfold z04; rw [Q.out]; simp),HB.out _⟩
theorem right34_no4 (m : Nat) (is : List (FT m)) (a1 : Option Addr) (c1 : Nat) (a : Option Addr) (l c : Nat) (lo hi : Int) (ls hs op : Bool) (w : World) (_hR : FRow w w.heap.size m a1 is) (hl : l ≠ 2) :
 Calls Tryz.prog 53 #[.agg #[.int .u8 4,.slice a1 is.length c1,.slice a l c,.int .i64 lo,.bool ls,.int .i64 hi,.bool hs,.bool op]] w fun e w' => e = .returned (.bool (z04 4 is l ⟨lo,ls,hi,hs,op⟩)) ∧ Below w.heap.size w w':=by
 have HB : Hid (∀ n : Nat,Below w.heap.size w (((w.alloc (.cells #[.int .u8 4,.slice a1 is.length c1,.slice a l c,.int .i64 lo,.bool ls,.int .i64 hi,.bool hs,.bool op] 28)).alloc (.cells #[.int .i64 0,.int .i64 0,.int .i64 2,.int .i64 2,.int .i64 2,.int .i64 1,.int .i64 1] 109)).drewN n)) :=
  fun n => z0m (((Below.refl _ w).alloc (Nat.le_refl _) _).alloc (by simp) _) n
 have q : ((l : Int) == 2) = false:=by simp; omega
 have Q : Hid ((l == z1h 4) = false):=by rw [Hid]; unfold z1h; simp; omega
 clear hl _hR
 go_enter Tryz.func53,Tryz.ntmps53
 go_wp2_with fail
 go_quiet (fail)
 go_wp2_with fail
 all_goals go_ret
 all_goals exact ⟨z00 (by unfold z04; rw [Q.out]; simp),HB.out _⟩
theorem right34_no5 (m : Nat) (is : List (FT m)) (a1 : Option Addr) (c1 : Nat) (a : Option Addr) (l c : Nat) (lo hi : Int) (ls hs op : Bool) (w : World) (_hR : FRow w w.heap.size m a1 is) (hl : l ≠ 1) :
 Calls Tryz.prog 53 #[.agg #[.int .u8 5,.slice a1 is.length c1,.slice a l c,.int .i64 lo,.bool ls,.int .i64 hi,.bool hs,.bool op]] w fun e w' => e = .returned (.bool (z04 5 is l ⟨lo,ls,hi,hs,op⟩)) ∧ Below w.heap.size w w':=by
 have HB : Hid (∀ n : Nat,Below w.heap.size w (((w.alloc (.cells #[.int .u8 5,.slice a1 is.length c1,.slice a l c,.int .i64 lo,.bool ls,.int .i64 hi,.bool hs,.bool op] 28)).alloc (.cells #[.int .i64 0,.int .i64 0,.int .i64 2,.int .i64 2,.int .i64 2,.int .i64 1,.int .i64 1] 109)).drewN n)) :=
  fun n => z0m (((Below.refl _ w).alloc (Nat.le_refl _) _).alloc (by simp) _) n
 have q : ((l : Int) == 1) = false:=by simp; omega
 have Q : Hid ((l == z1h 5) = false):=by rw [Hid]; unfold z1h; simp; omega
 clear hl _hR
 go_enter Tryz.func53,Tryz.ntmps53
 go_wp2_with fail
 go_quiet (fail)
 go_wp2_with fail
 all_goals go_ret
 all_goals exact ⟨z00 (by unfold z04; rw [Q.out]; simp),HB.out _⟩
theorem right34_no6 (m : Nat) (is : List (FT m)) (a1 : Option Addr) (c1 : Nat) (a : Option Addr) (l c : Nat) (lo hi : Int) (ls hs op : Bool) (w : World) (_hR : FRow w w.heap.size m a1 is) (hl : l ≠ 1) :
 Calls Tryz.prog 53 #[.agg #[.int .u8 6,.slice a1 is.length c1,.slice a l c,.int .i64 lo,.bool ls,.int .i64 hi,.bool hs,.bool op]] w fun e w' => e = .returned (.bool (z04 6 is l ⟨lo,ls,hi,hs,op⟩)) ∧ Below w.heap.size w w':=by
 have HB : Hid (∀ n : Nat,Below w.heap.size w (((w.alloc (.cells #[.int .u8 6,.slice a1 is.length c1,.slice a l c,.int .i64 lo,.bool ls,.int .i64 hi,.bool hs,.bool op] 28)).alloc (.cells #[.int .i64 0,.int .i64 0,.int .i64 2,.int .i64 2,.int .i64 2,.int .i64 1,.int .i64 1] 109)).drewN n)) :=
  fun n => z0m (((Below.refl _ w).alloc (Nat.le_refl _) _).alloc (by simp) _) n
 have q : ((l : Int) == 1) = false:=by simp; omega
 have Q : Hid ((l == z1h 6) = false):=by rw [Hid]; unfold z1h; simp; omega
 clear hl _hR
 go_enter Tryz.func53,Tryz.ntmps53
 go_wp2_with fail
 go_quiet (fail)
 go_wp2_with fail
 all_goals go_ret
 all_goals exact ⟨z00 (by unfold z04; rw [Q.out]; simp),HB.out _⟩
theorem right34_at2 (m : Nat) (is : List (FT m)) (a1 : Option Addr) (c1 : Nat) (a : Option Addr) (l c : Nat) (lo hi : Int) (ls hs op : Bool) (w : World) (_hR : FRow w w.heap.size m a1 is) (hl : l = 2) :
 Calls Tryz.prog 53 #[.agg #[.int .u8 2,.slice a1 is.length c1,.slice a l c,.int .i64 lo,.bool ls,.int .i64 hi,.bool hs,.bool op]] w fun e w' => e = .returned (.bool (z04 2 is l ⟨lo,ls,hi,hs,op⟩)) ∧ Below w.heap.size w w':=by
 subst hl
 have HB : Hid (∀ n : Nat,Below w.heap.size w (((w.alloc (.cells #[.int .u8 2,.slice a1 is.length c1,.slice a 2 c,.int .i64 lo,.bool ls,.int .i64 hi,.bool hs,.bool op] 28)).alloc (.cells #[.int .i64 0,.int .i64 0,.int .i64 2,.int .i64 2,.int .i64 2,.int .i64 1,.int .i64 1] 109)).drewN n)) :=
  fun n => z0m (((Below.refl _ w).alloc (Nat.le_refl _) _).alloc (by simp) _) n
 clear _hR
 go_enter Tryz.func53,Tryz.ntmps53
 go_wp2_with fail
 go_quiet (fail)
 go_wp2_with fail
 all_goals go_ret
 all_goals exact ⟨z00 (by unfold z04 z1h noSpan; simp_all [len0]),z0m (((Below.refl _ w).alloc (Nat.le_refl _) _).alloc (by simp) _) _⟩
theorem right34_at3 (m : Nat) (is : List (FT m)) (a1 : Option Addr) (c1 : Nat) (a : Option Addr) (l c : Nat) (lo hi : Int) (ls hs op : Bool) (w : World) (_hR : FRow w w.heap.size m a1 is) (hl : l = 2) :
 Calls Tryz.prog 53 #[.agg #[.int .u8 3,.slice a1 is.length c1,.slice a l c,.int .i64 lo,.bool ls,.int .i64 hi,.bool hs,.bool op]] w fun e w' => e = .returned (.bool (z04 3 is l ⟨lo,ls,hi,hs,op⟩)) ∧ Below w.heap.size w w':=by
 subst hl
 have HB : Hid (∀ n : Nat,Below w.heap.size w (((w.alloc (.cells #[.int .u8 3,.slice a1 is.length c1,.slice a 2 c,.int .i64 lo,.bool ls,.int .i64 hi,.bool hs,.bool op] 28)).alloc (.cells #[.int .i64 0,.int .i64 0,.int .i64 2,.int .i64 2,.int .i64 2,.int .i64 1,.int .i64 1] 109)).drewN n)) :=
  fun n => z0m (((Below.refl _ w).alloc (Nat.le_refl _) _).alloc (by simp) _) n
 clear _hR
 go_enter Tryz.func53,Tryz.ntmps53
 go_wp2_with fail
 go_quiet (fail)
 go_wp2_with fail
 all_goals go_ret
 all_goals exact ⟨z00 (by unfold z04 z1h noSpan; simp_all [len0]),z0m (((Below.refl _ w).alloc (Nat.le_refl _) _).alloc (by simp) _) _⟩
theorem right34_at4 (m : Nat) (is : List (FT m)) (a1 : Option Addr) (c1 : Nat) (a : Option Addr) (l c : Nat) (lo hi : Int) (ls hs op : Bool) (w : World) (_hR : FRow w w.heap.size m a1 is) (hl : l = 2) :
 Calls Tryz.prog 53 #[.agg #[.int .u8 4,.slice a1 is.length c1,.slice a l c,.int .i64 lo,.bool ls,.int .i64 hi,.bool hs,.bool op]] w fun e w' => e = .returned (.bool (z04 4 is l ⟨lo,ls,hi,hs,op⟩)) ∧ Below w.heap.size w w':=by
 subst hl
 have HB : Hid (∀ n : Nat,Below w.heap.size w (((w.alloc (.cells #[.int .u8 4,.slice a1 is.length c1,.slice a 2 c,.int .i64 lo,.bool ls,.int .i64 hi,.bool hs,.bool op] 28)).alloc (.cells #[.int .i64 0,.int .i64 0,.int .i64 2,.int .i64 2,.int .i64 2,.int .i64 1,.int .i64 1] 109)).drewN n)) :=
  fun n => z0m (((Below.refl _ w).alloc (Nat.le_refl _) _).alloc (by simp) _) n
 clear _hR
 go_enter Tryz.func53,Tryz.ntmps53
 go_wp2_with fail
 go_quiet (fail)
 go_wp2_with fail
 all_goals go_ret
 all_goals exact ⟨z00 (by unfold z04 z1h noSpan; simp_all [len0]),z0m (((Below.refl _ w).alloc (Nat.le_refl _) _).alloc (by simp) _) _⟩
theorem right34_at5 (m : Nat) (is : List (FT m)) (a1 : Option Addr) (c1 : Nat) (a : Option Addr) (l c : Nat) (lo hi : Int) (ls hs op : Bool) (w : World) (_hR : FRow w w.heap.size m a1 is) (hl : l = 1) :
 Calls Tryz.prog 53 #[.agg #[.int .u8 5,.slice a1 is.length c1,.slice a l c,.int .i64 lo,.bool ls,.int .i64 hi,.bool hs,.bool op]] w fun e w' => e = .returned (.bool (z04 5 is l ⟨lo,ls,hi,hs,op⟩)) ∧ Below w.heap.size w w':=by
 subst hl
 have HB : Hid (∀ n : Nat,Below w.heap.size w (((w.alloc (.cells #[.int .u8 5,.slice a1 is.length c1,.slice a 1 c,.int .i64 lo,.bool ls,.int .i64 hi,.bool hs,.bool op] 28)).alloc (.cells #[.int .i64 0,.int .i64 0,.int .i64 2,.int .i64 2,.int .i64 2,.int .i64 1,.int .i64 1] 109)).drewN n)) :=
  fun n => z0m (((Below.refl _ w).alloc (Nat.le_refl _) _).alloc (by simp) _) n
 clear _hR
 go_enter Tryz.func53,Tryz.ntmps53
 go_wp2_with fail
 go_quiet (fail)
 go_wp2_with fail
 all_goals go_ret
 all_goals exact ⟨z00 (by unfold z04 z1h noSpan; simp_all [len0]),z0m (((Below.refl _ w).alloc (Nat.le_refl _) _).alloc (by simp) _) _⟩
theorem right34_at6 (m : Nat) (is : List (FT m)) (a1 : Option Addr) (c1 : Nat) (a : Option Addr) (l c : Nat) (lo hi : Int) (ls hs op : Bool) (w : World) (_hR : FRow w w.heap.size m a1 is) (hl : l = 1) :
 Calls Tryz.prog 53 #[.agg #[.int .u8 6,.slice a1 is.length c1,.slice a l c,.int .i64 lo,.bool ls,.int .i64 hi,.bool hs,.bool op]] w fun e w' => e = .returned (.bool (z04 6 is l ⟨lo,ls,hi,hs,op⟩)) ∧ Below w.heap.size w w':=by
 subst hl
 have HB : Hid (∀ n : Nat,Below w.heap.size w (((w.alloc (.cells #[.int .u8 6,.slice a1 is.length c1,.slice a 1 c,.int .i64 lo,.bool ls,.int .i64 hi,.bool hs,.bool op] 28)).alloc (.cells #[.int .i64 0,.int .i64 0,.int .i64 2,.int .i64 2,.int .i64 2,.int .i64 1,.int .i64 1] 109)).drewN n)) :=
  fun n => z0m (((Below.refl _ w).alloc (Nat.le_refl _) _).alloc (by simp) _) n
 have HI:=Lib.hid (z5e ⟨lo,ls,hi,hs,op⟩)
 have HE : Hid (∀ b,(ivR ⟨lo,ls,hi,hs,op⟩ == 8) = b → z04 6 is 1 ⟨lo,ls,hi,hs,op⟩ = (!b && is.length == 0)):=by
  rintro b h; unfold z04 z1h; rw [h]; simp
 unfold Spn.val at HI
 dsimp only at HI
 generalize ivR ⟨lo,ls,hi,hs,op⟩ = iv at HI HE
 clear _hR
 cases q : iv == 8 with
 | true =>
  have HQ:=Lib.hid (HE.out _ q)
  go_enter Tryz.func53,Tryz.ntmps53
  go_wp2_with fail
  go_quiet (fail)
  go_wp2_with fail
  refine (HI.out _).mono ?_
  rintro e w1 ⟨rfl,hb1⟩
  have HB1:=Lib.hid ((HB.out _).trans (hb1.mono (HB.out _).size))
  clear hb1
  go_wp2_with fail
  all_goals go_ret
  all_goals exact ⟨z00 (by rw [HQ.out]; rfl),HB1.out⟩
 | false =>
  have HQ:=Lib.hid (HE.out _ q)
  go_enter Tryz.func53,Tryz.ntmps53
  go_wp2_with fail
  go_quiet (fail)
  go_wp2_with fail
  refine (HI.out _).mono ?_
  rintro e w1 ⟨rfl,hb1⟩
  have HB1:=Lib.hid ((HB.out _).trans (hb1.mono (HB.out _).size))
  have x0:=(hb1.cell (p:=⟨w.heap.size,0,none⟩) (by simp; omega))
  have x1:=(hb1.cell (p:=⟨w.heap.size,1,none⟩) (by simp; omega))
  simp [World.cell?_alloc_at,World.cell?_drewN,World.cell?_alloc_past] at x0 x1
  clear hb1
  go_wp2_with fail
  all_goals go_ret
  all_goals exact ⟨z00 (by rw [HQ.out,len0]; simp),HB1.out⟩
theorem right34_at1 (m : Nat) (is : List (FT m)) (a1 : Option Addr) (c1 : Nat) (a : Option Addr) (l c : Nat) (lo hi : Int) (ls hs op : Bool) (w : World) (hR : FRow w w.heap.size m a1 is) (hl : l = 0) :
 Calls Tryz.prog 53 #[.agg #[.int .u8 1,.slice a1 is.length c1,.slice a l c,.int .i64 lo,.bool ls,.int .i64 hi,.bool hs,.bool op]] w fun e w' => e = .returned (.bool (z04 1 is l ⟨lo,ls,hi,hs,op⟩)) ∧ Below w.heap.size w w':=by
 subst hl
 have HB : Hid (∀ n : Nat,Below w.heap.size w (((w.alloc (.cells #[.int .u8 1,.slice a1 is.length c1,.slice a 0 c,.int .i64 lo,.bool ls,.int .i64 hi,.bool hs,.bool op] 28)).alloc (.cells #[.int .i64 0,.int .i64 0,.int .i64 2,.int .i64 2,.int .i64 2,.int .i64 1,.int .i64 1] 109)).drewN n)) :=
  fun n => z0m (((Below.refl _ w).alloc (Nat.le_refl _) _).alloc (by simp) _) n
 have HR:=Lib.hid hR
 by_cases hsp : (⟨lo,ls,hi,hs,op⟩ : Spn) = ⟨0,false,0,false,false⟩
 ·injection hsp with h1 h2 h3 h4 h5
  subst h1 h2 h3 h4 h5
  have HE : Hid (z04 1 is 0 ⟨0,false,0,false,false⟩ = ((is.length == 1) && is.all (allF z07 m))):=by
   rw [Hid]; unfold z04 z1h noSpan; simp
  by_cases h1 : is.length = 1
  ·obtain ⟨f,rfl⟩:=List.length_eq_one_iff.1 h1
   have hbn:=HB.out
   have HAT : Hid (∀ n,∃ b off k s sa sl sc,a1 = some ⟨b,off,none⟩ ∧ b < w.heap.size ∧ w.cell? ⟨b,off,none⟩ = some (.int .u8 k) ∧ w.cell? ⟨b,off + 1,none⟩ = some (.string s) ∧
    w.cell? ⟨b,off + 2,none⟩ = some (.slice sa sl sc) ∧ Calls Tryz.prog 105 #[.agg #[.int .u8 k,.string s,.slice sa sl sc],.func (.func 106) #[] #[],.func (.func 110) #[] #[]] (((w.alloc (.cells #[.int .u8 1,.slice a1 1 c1,.slice a 0 c,.int .i64 0,.bool false,.int .i64 0,.bool false,.bool false] 28)).alloc (.cells #[.int .i64 0,.int .i64 0,.int .i64 2,.int .i64 2,.int .i64 2,.int .i64 1,.int .i64 1] 109)).drewN n) fun e w' => e = .returned (.bool (allF z07 m f)) ∧ Below (((w.alloc (.cells #[.int .u8 1,.slice a1 1 c1,.slice a 0 c,.int .i64 0,.bool false,.int .i64 0,.bool false,.bool false] 28)).alloc (.cells #[.int .i64 0,.int .i64 0,.int .i64 2,.int .i64 2,.int .i64 2,.int .i64 1,.int .i64 1] 109)).drewN n).heap.size (((w.alloc (.cells #[.int .u8 1,.slice a1 1 c1,.slice a 0 c,.int .i64 0,.bool false,.int .i64 0,.bool false,.bool false] 28)).alloc (.cells #[.int .i64 0,.int .i64 0,.int .i64 2,.int .i64 2,.int .i64 2,.int .i64 1,.int .i64 1] 109)).drewN n) w'):=by
    intro n
    obtain ⟨b,off,k,s,sa,sl,sc,e,hb,g0,g1,g2,hr⟩:=FRow.at HR.out 0 (by simp)
    have hr' : FRep w w.heap.size m f (.agg #[.int .u8 k,.string s,.slice sa sl sc]):=hr
    exact ⟨b,off,k,s,sa,sl,sc,e,hb,by simpa using g0,by simpa using g1,by simpa using g2,all42_any z07 110 #[] m f _ _ (hr'.up (hbn n) (hbn n).size) (so44 _)⟩
   have HFIN : Hid (z04 1 [f] 0 ⟨0,false,0,false,false⟩ = allF z07 m f):=by rw [Hid,HE.out]; simp
   clear h1 hR hbn
   simp only [List.length_cons,List.length_nil,Nat.zero_add] at HB ⊢
   go_enter Tryz.func53,Tryz.ntmps53
   go_wp2_with fail
   go_quiet (fail)
   obtain ⟨b,off,k,s,sa,sl,sc,rfl,hb,g0,g1,g2,hC⟩:=HAT.out nq
   have HC:=Lib.hid hC
   have hb2 : b < w.heap.size + 1:=by omega
   clear hC
   go_wp2_with fail
   refine HC.out.mono ?_
   rintro e w1 ⟨rfl,hb1⟩
   have HB1:=Lib.hid ((HB.out _).trans (hb1.mono (HB.out _).size))
   clear hb1
   go_wp2_with fail
   all_goals go_ret
   all_goals exact ⟨z00 (by rw [HFIN.out]),HB1.out⟩
  ·have q : ((is.length : Int) == 1) = false:=by simp; omega
   have HFIN : Hid (z04 1 is 0 ⟨0,false,0,false,false⟩ = false):=by rw [Hid,HE.out]; simp [h1]
   clear h1 hR
   go_enter Tryz.func53,Tryz.ntmps53
   go_wp2_with fail
   go_quiet (fail)
   go_wp2_with fail
   all_goals go_ret
   all_goals exact ⟨z00 (by rw [HFIN.out]),HB.out _⟩
 ·have HFIN : Hid (z04 1 is 0 ⟨lo,ls,hi,hs,op⟩ = false):=by
   have : ((⟨lo,ls,hi,hs,op⟩ : Spn) != noSpan) = true:=by simpa [noSpan] using hsp
   rw [Hid]; unfold z04; rw [this]; simp
  have q:=hsp
  rw [Spn.mk.injEq] at q
  clear hsp hR
  go_enter Tryz.func53,Tryz.ntmps53
  go_wp2_with fail
  go_quiet (fail)
  go_wp2_with fail
  all_goals first | (exfalso; simp_all; done) | skip
  all_goals go_ret
  all_goals exact ⟨z00 (by rw [HFIN.out]),z0m (((Below.refl _ w).alloc (Nat.le_refl _) _).alloc (by simp) _) _⟩
theorem so34 {m : Nat} (w : World) : SoX (m:=m) w 53 #[] z04:=by
 intro n
 refine ⟨z2x Tryz.func53 (by kernel_rfl) (by kernel_rfl),fun t v w' hb' hr => ?_⟩
 obtain ⟨k,is,of,lo,ls,hi,hs,op⟩:=t
 obtain ⟨a1,c1,a,c,rfl,hR,_⟩:=hr
 dsimp only at hR ⊢
 have hk : k < 1 ∨ k = 1 ∨ k = 2 ∨ k = 3 ∨ k = 4 ∨ k = 5 ∨ k = 6 ∨ 6 < k:=by omega
 rcases hk with h | rfl | rfl | rfl | rfl | rfl | rfl | h
 ·exact right34_low m k is a1 c1 a of.length c lo hi ls hs op w' h hR
 ·by_cases hl : of.length = 0
  ·exact right34_at1 m is a1 c1 a of.length c lo hi ls hs op w' hR hl
  ·exact right34_no1 m is a1 c1 a of.length c lo hi ls hs op w' hR hl
 ·by_cases hl : of.length = 2
  ·exact right34_at2 m is a1 c1 a of.length c lo hi ls hs op w' hR hl
  ·exact right34_no2 m is a1 c1 a of.length c lo hi ls hs op w' hR hl
 ·by_cases hl : of.length = 2
  ·exact right34_at3 m is a1 c1 a of.length c lo hi ls hs op w' hR hl
  ·exact right34_no3 m is a1 c1 a of.length c lo hi ls hs op w' hR hl
 ·by_cases hl : of.length = 2
  ·exact right34_at4 m is a1 c1 a of.length c lo hi ls hs op w' hR hl
  ·exact right34_no4 m is a1 c1 a of.length c lo hi ls hs op w' hR hl
 ·by_cases hl : of.length = 1
  ·exact right34_at5 m is a1 c1 a of.length c lo hi ls hs op w' hR hl
  ·exact right34_no5 m is a1 c1 a of.length c lo hi ls hs op w' hR hl
 ·by_cases hl : of.length = 1
  ·exact right34_at6 m is a1 c1 a of.length c lo hi ls hs op w' hR hl
  ·exact right34_no6 m is a1 c1 a of.length c lo hi ls hs op w' hR hl
 ·exact right34_high m k is a1 c1 a of.length c lo hi ls hs op w' h hR
end Go.Proofs.YtpgdplmndnopbaaGreatDoor
namespace Go.Proofs.YtpgdplmndnopbaaGreatDoor
open Go.RowKit
theorem beqT (a b : List UInt8) : (a == b) = (b == a):=by
 rw [Bool.eq_iff_iff,beq_iff_eq,beq_iff_eq]
 exact eq_comm
theorem at96_any (l : List ByteArray) (v : Value) (s : ByteArray) (w : World) (hn : NRep w w.heap.size v l) :
 Calls Tryz.prog 96 #[v,.string s] w fun e w' => e = .returned (.int .i64 (idxN s l)) ∧ w' = w:=by
 obtain ⟨a,c,rfl,hm,hn⟩:=hn
 have HA : Hid (∀ j (h : j < l.length),(∀ i (hi : i < l.length),i < j → ((l[i]).toList == s.toList) = false) → ((l[j]).toList == s.toList) = true → idxN s l = j):=by
  intro j h h0 h1
  exact idxN_at s l j h (fun i hi hlt => by rw [beqT]; exact h0 i hi hlt) (by rw [beqT]; exact h1)
 have HN : Hid ((∀ i (hi : i < l.length),i < l.length → ((l[i]).toList == s.toList) = false) → idxN s l = -1):=by
  intro h0
  exact idxN_none s l (fun i hi hlt => by rw [beqT]; exact h0 i hi hlt)
 go_enter Tryz.func96,Tryz.ntmps96
 go_wp2_with fail
 go_loopw [5] (fun i wr => ∃ j : Nat,j ≤ l.length ∧ i = .int .i64 j ∧ Hid (∀ i (hi : i < l.length),i < j → ((l[i]).toList == s.toList) = false) ∧ wr = w) (fun i _ => l.length - (intOf i).toNat)
 case atStart => exact ⟨0,Nat.zero_le _,rfl,fun _ _ h => absurd h (by omega),rfl⟩
 case round =>
  obtain ⟨j,hj,rfl,HT,rfl⟩:=hrel
  by_cases hlt : j < l.length
  ·rcases hn with hn | ⟨b,off,rfl,hb,hc⟩
   ·rw [hn] at hlt; exact absurd hlt (by simp)
   ·have c0:=hc j hlt
    have HC:=Lib.hid hc
    clear hc
    have HAj:=Lib.hid (HA.out j hlt HT.out)
    have hltI : ((j : Nat) : Int) < ((l.length : Nat) : Int):=by omega
    cases q : ((l[j]).toList == s.toList) with
    | true =>
     have HR:=Lib.hid (HAj.out q)
     go_wp2_with fail
     all_goals go_ret
     all_goals exact ⟨z2q (by rw [HR.out]),rfl⟩
    | false =>
     have HT' : Hid (∀ i (hi : i < l.length),i < j + 1 → ((l[i]).toList == s.toList) = false):=by
      intro i hi hlt2
      by_cases he : i = j
      ·subst he; exact q
      ·exact HT.out i hi (by omega)
     go_wp2_with fail
     go_roundw
     case rel => exact ⟨j + 1,by omega,by go_num,HT',by first | trivial | rfl⟩
     case measure => simp [intOf]; omega
  ·have hje : j = l.length:=by omega
   have HR : Hid (idxN s l = -1):=HN.out (fun i hi _ => HT.out i hi (by omega))
   have hltI : ¬ ((j : Nat) : Int) < ((l.length : Nat) : Int):=by omega
   go_wp2_with fail
   all_goals go_ret
   all_goals exact ⟨z2q (by rw [HR.out]),rfl⟩
def z6h (l : List ByteArray) (j : Nat) : Bool:=(List.range j).all fun i => match l[i]? with
 | some x => z3f x.data.toList && (idxN x l == (i : Int))
 | none => true
theorem mayGo_succ (l : List ByteArray) (j : Nat) (h : j < l.length) : z6h l (j + 1) = (z6h l j && (z3f l[j].data.toList && (idxN l[j] l == (j : Int)))):=by
 unfold z6h
 rw [List.range_succ,List.all_append]
 simp [h]
theorem idxN_first (l : List ByteArray) (j : Nat) (h : j < l.length) : (idxN l[j] l == (j : Int)) = !inN l[j] (l.take j):=by
 by_cases hin : inN l[j] (l.take j) = true
 ·rw [hin]
  unfold inN at hin
  rw [List.any_eq_true] at hin
  obtain ⟨x,hx,he⟩:=hin
  obtain ⟨i,hi,rfl⟩:=List.getElem_of_mem hx
  rw [List.length_take] at hi
  rw [List.getElem_take] at he
  have hlt : idxN l[j] l ≠ (j : Int):=by
   intro e
   unfold idxN at e
   cases hf : l.findIdx? (fun x => l[j].toList == x.toList) with
   | none =>
    rw [List.findIdx?_eq_none_iff] at hf
    have:=hf l[j] (List.getElem_mem _)
    simp at this
   | some k =>
    rw [hf] at e
    rw [List.findIdx?_eq_some_iff_getElem] at hf
    obtain ⟨hk,_,h2⟩:=hf
    have hkj : k = j:=by
     have e' : (k : Int) = (j : Int):=e
     omega
    have:=h2 i (by omega)
    rw [he] at this
    simp at this
  simpa using hlt
 ·have hin' : inN l[j] (l.take j) = false:=by simpa using hin
  rw [hin']
  have:=idxN_at l[j] l j h (fun i hi hlt => by
   by_cases hq : (l[j].toList == (l[i]).toList) = true
   ·exfalso
    apply hin
    unfold inN
    rw [List.any_eq_true]
    exact ⟨l[i],by rw [List.mem_take_iff_getElem]; exact ⟨i,by omega,rfl⟩,hq⟩
   ·simpa using hq) (by simp)
  rw [this]
  simp
theorem z5t (l : List ByteArray) : ∀ (r p : List ByteArray),p ++ r = l → z2l p.reverse r = ((List.range r.length).all fun i => match r[i]? with
 | some x => z3f x.data.toList && !inN x (l.take (p.length + i))
 | none => true)
 | [],p,_ => rfl
 | x :: r,p,h => by
  have hx : inN x p.reverse = inN x p:=by unfold inN; rw [List.any_reverse]
  have ht : l.take p.length = p:=by rw [← h]; simp
  have ih:=z5t l r (p ++ [x]) (by rw [← h]; simp)
  rw [List.reverse_append] at ih
  have ih' : z2l (x :: p.reverse) r = _:=ih
  rw [z2l,ih',hx,List.length_cons,List.range_succ_eq_map,List.all_cons,List.all_map]
  simp only [List.getElem?_cons_zero,Nat.add_zero,ht]
  rw [Bool.and_comm (!inN x p)]
  congr 1
  apply congrArg
  funext i
  simp only [Function.comp,List.getElem?_cons_succ,List.length_append,List.length_cons,List.length_nil]
  rw [show p.length + (0 + 1) + i = p.length + (i + 1) by omega]
theorem mayGo_all (l : List ByteArray) : z6h l l.length = z2l [] l:=by
 rw [show ([] : List ByteArray) = ([] : List ByteArray).reverse from rfl,z5t l l [] rfl]
 unfold z6h
 rw [List.all_eq,List.all_eq]
 congr 1
 apply propext
 constructor
 ·intro h i hi
  have:=h i hi
  rw [List.mem_range] at hi
  rw [List.getElem?_eq_getElem hi] at this ⊢
  dsimp only at this ⊢
  rw [idxN_first l i hi] at this
  simpa using this
 ·intro h i hi
  have:=h i hi
  rw [List.mem_range] at hi
  rw [List.getElem?_eq_getElem hi] at this ⊢
  dsimp only at this ⊢
  rw [idxN_first l i hi]
  simpa using this
end Go.Proofs.YtpgdplmndnopbaaGreatDoor
namespace Go.Proofs.YtpgdplmndnopbaaGreatDoor
open Go.RowKit
theorem mayR_eq (l : List ByteArray) : decide (z15 l = 0) = (z6h l l.length && decide (l.length ≤ 8)):=by
 rw [mayGo_all]
 unfold z15
 cases z2l [] l <;> by_cases h : 8 < l.length <;> simp [h] <;> omega
theorem mayGo_false (l : List ByteArray) (j : Nat) (h : j < l.length) (hn : z6h l (j + 1) = false) : decide (z15 l = 0) = false:=by
 rw [mayR_eq]
 have : z6h l l.length = false:=by
  unfold z6h at hn ⊢
  rw [List.all_eq_false] at hn ⊢
  obtain ⟨i,hi,hx⟩:=hn
  exact ⟨i,by rw [List.mem_range] at hi ⊢; omega,hx⟩
 rw [this]; rfl
theorem z31 (l : List ByteArray) (v : Value) (hs : ∀ s ∈ l,s.size ≤ 4611686018427387904) (w : World) (hn : NRep w w.heap.size v l) :
 Calls Tryz.prog 46 #[v] w fun e w' => e = .returned (.bool (decide (z15 l = 0))) ∧ w' = w:=by
 have HN:=Lib.hid hn
 obtain ⟨a,c,rfl,hm,hn⟩:=hn
 have HS:=Lib.hid hs
 have HF:=Lib.hid (mayGo_false l)
 have HG:=Lib.hid (mayGo_succ l)
 have HE:=Lib.hid (mayR_eq l)
 clear hs
 go_enter Tryz.func46,Tryz.ntmps46
 go_wp2_with fail
 go_loopw [3] (fun i wr => ∃ j : Nat,j ≤ l.length ∧ i = .int .i64 j ∧ Hid (z6h l j = true) ∧ wr = w) (fun i _ => l.length - (intOf i).toNat)
 case atStart => exact ⟨0,Nat.zero_le _,rfl,rfl,rfl⟩
 case round =>
  obtain ⟨j,hj,rfl,HT,rfl⟩:=hrel
  by_cases hlt : j < l.length
  ·rcases hn with hn | ⟨b,off,rfl,hb,hc⟩
   ·rw [hn] at hlt; exact absurd hlt (by simp)
   ·have c0:=hc j hlt
    have hltI : ((j : Nat) : Int) < ((l.length : Nat) : Int):=by omega
    have HC1:=Lib.hid (z4j l[j] (HS.out _ (List.getElem_mem hlt)) wr)
    have HC2:=Lib.hid (at96_any l _ l[j] wr HN.out)
    have HJ:=Lib.hid (HG.out j hlt)
    have HX:=Lib.hid (HF.out j hlt)
    clear hc
    cases qn : z3f l[j].data.toList with
    | false =>
     have HR : Hid (decide (z15 l = 0) = false):=HX.out (by rw [HJ.out,qn]; simp)
     rw [qn] at HC1
     clear qn
     go_wp2_with fail
     refine HC1.out.mono ?_
     rintro e w' ⟨rfl,rfl⟩
     go_wp2_with fail
     all_goals go_ret
     all_goals exact ⟨z00 (by rw [HR.out]),rfl⟩
    | true =>
     by_cases qi : idxN l[j] l = (j : Int)
     ·have HT' : Hid (z6h l (j + 1) = true):=by rw [Hid,HJ.out,HT.out,qn,qi]; simp
      rw [qn] at HC1
      rw [qi] at HC2
      clear qn qi
      go_wp2_with fail
      refine HC1.out.mono ?_
      rintro e w' ⟨rfl,rfl⟩
      go_wp2_with fail
      refine HC2.out.mono ?_
      rintro e w' ⟨rfl,rfl⟩
      go_wp2_with fail
      go_roundw
      case rel => exact ⟨j + 1,by omega,by go_num,HT',by first | trivial | rfl⟩
      case measure => simp [intOf]; omega
     ·have HR : Hid (decide (z15 l = 0) = false):=HX.out (by rw [HJ.out]; simp [qi])
      have q1 : (idxN l[j] l != (j : Int)) = true:=by simp [qi]
      rw [qn] at HC1
      generalize idxN l[j] l = z at HC2 q1
      clear qn qi
      go_wp2_with fail
      refine HC1.out.mono ?_
      rintro e w' ⟨rfl,rfl⟩
      go_wp2_with fail
      refine HC2.out.mono ?_
      rintro e w' ⟨rfl,rfl⟩
      go_wp2_with fail
      all_goals go_ret
      all_goals exact ⟨z00 (by rw [HR.out]),rfl⟩
  ·have hje : j = l.length:=by omega
   subst hje
   have hltI : ¬ ((l.length : Nat) : Int) < ((l.length : Nat) : Int):=by omega
   clear hn
   go_wp2_with fail
   all_goals go_ret
   all_goals exact ⟨z00 (by rw [HE.out,HT.out,Bool.true_and]; rw [Bool.eq_iff_iff]; simp; try omega),rfl⟩
def mayI (i : Spn) : Bool:=!(i.op && (i.high != 0 || i.hs)) && (z4h i.low && z4h i.high)
def empI (i : Spn) : Bool:=!i.op && (decide (i.high < i.low) || (i.low == i.high && (i.ls || i.hs)))
theorem mayI_iv (i : Spn) : mayI i = !(ivR i == 8):=by
 unfold mayI ivR
 generalize z4h i.low = a
 generalize z4h i.high = b
 generalize (i.op && (i.high != 0 || i.hs)) = c
 generalize (!i.op && (decide (i.high < i.low) || (i.low == i.high && (i.ls || i.hs)))) = d
 cases a <;> cases b <;> cases c <;> cases d <;> rfl
theorem ivR_two (i : Spn) : ivR i = if mayI i then (if empI i then 162 else 0) else 8:=by
 unfold mayI ivR empI
 generalize z4h i.low = a
 generalize z4h i.high = b
 generalize (i.op && (i.high != 0 || i.hs)) = c
 generalize (!i.op && (decide (i.high < i.low) || (i.low == i.high && (i.ls || i.hs)))) = d
 cases a <;> cases b <;> cases c <;> cases d <;> rfl
theorem z5b (i : Spn) (w : World) : Calls Tryz.prog 129 #[i.val] w fun e w' => e = .returned (.bool (mayI i)) ∧ Below w.heap.size w w':=by
 obtain ⟨lo,ls,hi,hs,op⟩:=i
 unfold Spn.val
 dsimp only
 go_enter Tryz.func129,Tryz.ntmps129
 go_wp2_with fail
 all_goals go_ret
 all_goals (refine ⟨?_,(Below.refl _ _).alloc (Nat.le_refl _) _⟩; refine z00 ?_; unfold mayI z4h; dsimp only; simp_all; try omega)
theorem empty132_any (i : Spn) (w : World) : Calls Tryz.prog 132 #[i.val] w fun e w' => e = .returned (.bool (empI i)) ∧ Below w.heap.size w w':=by
 obtain ⟨lo,ls,hi,hs,op⟩:=i
 unfold Spn.val
 dsimp only
 go_enter Tryz.func132,Tryz.ntmps132
 go_wp2_with fail
 all_goals go_ret
 all_goals (refine ⟨?_,(Below.refl _ _).alloc (Nat.le_refl _) _⟩; refine z00 ?_; unfold empI; dsimp only; rw [Bool.eq_iff_iff]; simp_all; first | done | omega | (rw [show lo = hi by omega]; simp))
end Go.Proofs.YtpgdplmndnopbaaGreatDoor
