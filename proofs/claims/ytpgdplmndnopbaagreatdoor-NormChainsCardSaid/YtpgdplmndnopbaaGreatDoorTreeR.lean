/- Layer 16 walked: names that are great (the book's sizes); the greatest number of an expression. -/
import Derived.Test.YtpgdplmndnopbaaGreatDoorMgB
import Derived.Test.YtpgdplmndnopbaaGreatDoorMgG
namespace Go.Proofs.YtpgdplmndnopbaaGreatDoor
open Go.RowKit
set_option maxRecDepth 100000 in
set_option maxHeartbeats 4000000 in
theorem greatNames12_any (l : List ByteArray) (v : Value) (w : World) (hn : NRep w w.heap.size v l) :
 Calls Tryz.prog 16 #[v] w fun e w' => e = .returned (.bool (greatN l)) ∧ w' = w := by
 obtain ⟨a, c, rfl, hm, hn⟩ := hn
 have HD := Lib.hid (gnGo_drop l)
 have HS := Lib.hid gnGo_stop
 have HE := Lib.hid (gnGo_end l)
 have HF : Hid (∀ z, gnGo (l.drop 0) 0 = z → greatN l = decide (5000 < z)) := fun z h => by unfold greatN; rw [← h]; rfl
 go_enter Tryz.func16, Tryz.ntmps16
 go_wp2_with fail
 go_loopw [3, 4] (fun q i wr => ∃ (j : Nat) (z : Int), j ≤ l.length ∧ i = .int .i64 j ∧ q = .int .i64 z ∧ Hid (gnGo (l.drop 0) 0 = gnGo (l.drop j) z) ∧ wr = w) (fun _ i _ => l.length - (intOf i).toNat)
 case atStart => exact ⟨0, 0, Nat.zero_le _, rfl, rfl, rfl, rfl⟩
 case round =>
  obtain ⟨j, z, hj, rfl, rfl, HT, rfl⟩ := hrel
  by_cases hlt : j < l.length
  ·by_cases hq : z < 10000
   ·rcases hn with hn | ⟨b, off, rfl, hb, hc⟩
    ·rw [hn] at hlt; exact absurd hlt (by simp)
    ·have c0 := hc j hlt
     have HC := Lib.hid hc
     have HSS := Lib.hid (HD.out j z hlt hq)
     clear hc
     go_wp2_with fail
     go_roundw
     case rel => exact ⟨j + 1, _, by omega, by go_num, rfl, HT.out.trans HSS.out, trivial⟩
     case measure => simp [intOf]; omega
   ·have HSS := Lib.hid (HF.out z (HT.out.trans (HS.out (l.drop j) z (by omega))))
    clear hn
    go_wp2_with fail
    all_goals go_ret
    all_goals exact ⟨ret_bool' HSS.out.symm, rfl⟩
  ·have hje : j = l.length := by omega
   subst hje
   have HSS := Lib.hid (HF.out z (HT.out.trans (HE.out z)))
   clear hn
   go_wp2_with fail
   all_goals go_ret
   all_goals exact ⟨ret_bool' HSS.out.symm, rfl⟩
theorem max_if (x y : Int) : (if y > x then y else x) = max x y := by
 rw [Int.max_def]
 split <;> split <;> omega
@[local go_sem high] theorem run_max_two {P : Program} (w : World) (ts : Array TypeId) (t : TypeId) (k k' : IntKind) (x y : Int) :
 (Builtin.max_ ts t #[.int k x, .int k' y]).run P w = .ok (.int k (max x y)) w := by
 simp [Builtin.max_, Builtin.max2, max_if]
@[local go_sem high] theorem run_max_three {P : Program} (w : World) (ts : Array TypeId) (t : TypeId) (k k' k'' : IntKind) (x y z : Int) :
 (Builtin.max_ ts t #[.int k x, .int k' y, .int k'' z]).run P w = .ok (.int k (max (max x y) z)) w := by
 simp [Builtin.max_, Builtin.max2, max_if]
def maxC {α : Type} (f : α → Int) (a : Int) (l : List α) : Int := l.foldl (fun a y => max a (f y)) a
theorem maxC_succ {α : Type} (f : α → Int) (a : Int) (l : List α) (k : Nat) (h : k < l.length) : maxC f a (l.take (k + 1)) = max (maxC f a (l.take k)) (f l[k]) := by
 unfold maxC
 rw [List.take_succ_eq_append_getElem h, List.foldl_append]
 rfl
theorem maxC_all {α : Type} (f : α → Int) (a : Int) (l : List α) : maxC f a (l.take l.length) = maxC f a l := by rw [List.take_length]
set_option maxRecDepth 100000 in
set_option maxHeartbeats 4000000 in
theorem const15_any (m n : Nat) : ∀ (t : XT m n) (v : Value) (w : World), XRep w w.heap.size m n t v →
 Calls Tryz.prog 34 #[v] w fun e w' => e = .returned (.int .i64 (constX n t)) ∧ Below w.heap.size w w' := by
 induction n with
 | zero => intro t v w h; exact h.elim
 | succ n ih =>
  intro t v w h
  obtain ⟨k, is, of, lo, ls, hi, hs, op⟩ := t
  obtain ⟨a1, c1, a, c, rfl, hR1, hR⟩ := h
  dsimp only at hR hR1 ⊢
  have hm := hR.1
  have HR := Lib.hid hR
  have IH := Lib.hid ih
  have HE : Hid (constX (n + 1) ((k, is, of, ⟨lo, ls, hi, hs, op⟩) : XT m (n + 1)) = maxC (constX n) (max 0 (max lo hi)) of) :=
   (show constX (n + 1) ((k, is, of, ⟨lo, ls, hi, hs, op⟩) : XT m (n + 1)) = maxC (constX n) (max (max 0 lo) hi) of from rfl).trans (by rw [show max (max 0 lo) hi = max 0 (max lo hi) by omega])
  have hb1 : Below w.heap.size w (w.alloc (.cells #[.int .u8 k, .slice a1 is.length c1, .slice a of.length c, .int .i64 lo, .bool ls, .int .i64 hi, .bool hs, .bool op] 28)) := (Below.refl _ _).alloc (Nat.le_refl _) _
  have HB3 := Lib.hid hb1
  clear hR ih hR1 hb1
  go_enter Tryz.func34, Tryz.ntmps34
  go_wp2_with fail
  go_loopw [3, 16] (fun m_ i wr => ∃ j : Nat, j ≤ of.length ∧ i = .int .i64 j ∧ m_ = .int .i64 (maxC (constX n) (max 0 (max lo hi)) (of.take j)) ∧ Below w.heap.size w wr) (fun _ i _ => of.length - (intOf i).toNat)
  case atStart => exact ⟨0, Nat.zero_le _, rfl, rfl, HB3.out⟩
  case round =>
   obtain ⟨j, hj, rfl, rfl, hbw⟩ := hrel
   have HBW := Lib.hid hbw
   by_cases hlt : j < of.length
   ·obtain ⟨b, off, k', a1', l1', c1', a2', l2', c2', lo', ls', hi', hs', op', rfl, hbl, c0, d1, c2, c3, c4, c5, c6, c7, hr⟩ := (XRow.up HR.out hbw (Nat.le_refl _)).at j hlt
    have hz := hbw.size
    have hbl' : b < wr.heap.size := by omega
    have hS := Lib.hid (maxC_succ (constX n) (max 0 (max lo hi)) of j hlt)
    have HC := Lib.hid (IH.out of[j] _ (wr.alloc (.cells #[.int .u8 k', .slice a1' l1' c1', .slice a2' l2' c2', .int .i64 lo', .bool ls', .int .i64 hi', .bool hs', .bool op'] 28)) (hr.up ((Below.refl _ wr).alloc (by omega) _) (by simp; omega)))
    have HBA : Hid (∀ o, Below w.heap.size w (wr.alloc o)) := fun o => hbw.alloc hz o
    clear hr hbw
    go_wp2_with fail
    refine HC.out.mono ?_
    rintro e w3 ⟨rfl, hb4⟩
    have HB4 := Lib.hid ((HBA.out _).trans (hb4.mono (HBA.out _).size))
    clear hb4
    go_wp2_with fail
    go_roundw
    case rel => exact ⟨j + 1, by omega, by go_num, by rw [hS.out], HB4.out⟩
    case measure => simp [intOf]; omega
   ·have hje : j = of.length := by omega
    subst hje
    have HA := Lib.hid (maxC_all (constX n) (max 0 (max lo hi)) of)
    clear hbw
    go_wp2_with fail
    all_goals go_ret
    all_goals exact ⟨ret_i (by rw [HE.out, HA.out]), HBW.out⟩
end Go.Proofs.YtpgdplmndnopbaaGreatDoor