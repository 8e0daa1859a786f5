/- The book of layer 16: expressions that are made right. (Printed by gen_bkf.py.) -/
import Derived.Test.YtpgdplmndnopbaaGreatDoorMgR
import Derived.Test.YtpgdplmndnopbaaGreatDoorSmA
import Derived.Test.YtpgdplmndnopbaaGreatDoorMgG
import Derived.Test.YtpgdplmndnopbaaGreatDoorMgQ
import Derived.Deep.RegionHeld3
import Derived.StillTailTactics
import Derived.Test.YtpgdplmndnopbaaGreatDoorPrX
namespace Go.Proofs.YtpgdplmndnopbaaGreatDoor
open Go.RowKit

def RightC (m n : Nat) : Prop := ∀ (t : XT m n) (v : Value) (w : World), XRep w w.heap.size m n t v →
    Calls Tryz.prog 81 #[v] w fun e w' => e = .returned (.bool (allX rightX n t)) ∧ Below w.heap.size w w'
theorem rightX_out {m : Nat} {k : Int} (is : List (FT m)) (l : Nat) (i : Spn) (h : k < 1 ∨ 6 < k) : rightX k is l i = false := by
  have : (decide (1 ≤ k) && decide (k ≤ 6)) = false := by rcases h with h | h <;> simp <;> omega
  unfold rightX; rw [this]; simp
theorem rightX_one {m : Nat} (is : List (FT m)) (l : Nat) (i : Spn) : rightX 1 is l i = (is.length == 1 && l == 0 && decide (i = noSpan) && is.all (allF rightB m)) := by
  have e : (i != noSpan) = !decide (i = noSpan) := rfl
  unfold rightX
  rw [e, if_pos rfl, show (l == manyOfX 1) = (l == 0) from rfl]
  generalize is.all (allF rightB m) = b4
  generalize (is.length == 1) = b1
  generalize decide (i = noSpan) = b3
  generalize (l == 0) = b2
  generalize (ivR i == 8) = b5
  cases b1 <;> cases b2 <;> cases b3 <;> cases b4 <;> rfl
theorem rightX_mid {m : Nat} {k : Int} (hk : k = 2 ∨ k = 3 ∨ k = 4 ∨ k = 5) (is : List (FT m)) (l : Nat) (i : Spn) : rightX k is l i = (is.length == 0 && (l == manyOfX k) && decide (i = noSpan)) := by
  have e : (i != noSpan) = !decide (i = noSpan) := rfl
  have hk1 : ¬ k = 1 := by omega
  unfold rightX
  rw [e, if_neg hk1]
  generalize (is.length == 0) = b1
  generalize decide (i = noSpan) = b3
  generalize (l == manyOfX k) = b2
  generalize (ivR i == 8) = b5
  rcases hk with rfl | rfl | rfl | rfl
  all_goals cases b1 <;> cases b2 <;> cases b3 <;> rfl
theorem rightX_six {m : Nat} (is : List (FT m)) (l : Nat) (i : Spn) : rightX 6 is l i = (is.length == 0 && (l == 1) && mayI i) := by
  rw [mayI_iv]
  unfold rightX
  rw [if_neg (by omega), show (l == manyOfX 6) = (l == 1) from rfl]
  generalize (is.length == 0) = b1
  generalize (l == 1) = b2
  generalize (ivR i == 8) = b5
  generalize (i != noSpan) = b6
  cases b1 <;> cases b2 <;> cases b5 <;> rfl
set_option maxRecDepth 100000 in
set_option maxHeartbeats 8000000 in
theorem right81_out (m n : Nat) (ih : RightC m n) (k : Int) (hk : k < 1 ∨ 6 < k) (is : List (FT m)) (of : List (XT m n)) (a1 a : Option Addr) (c1 c : Nat) (lo hi : Int) (ls hs op : Bool) (w : World) (hR1 : FRow w w.heap.size m a1 is) (hR : XRow w w.heap.size m n a of) :
    Calls Tryz.prog 81 #[.agg #[.int .u8 k, .slice a1 is.length c1, .slice a of.length c, .int .i64 lo, .bool ls, .int .i64 hi, .bool hs, .bool op]] w fun e w' => e = .returned (.bool (allX rightX (n + 1) ((k, is, of, ⟨lo, ls, hi, hs, op⟩) : XT m (n + 1)))) ∧ Below w.heap.size w w' := by
  have hm := hR.1
  have hm1 := hR1.1
  have HR := Lib.hid hR
  have HR1 := Lib.hid hR1
  have HIH := Lib.hid ih
  have hb0 : Below w.heap.size w (w.alloc (.cells #[.int .u8 k, .slice a1 is.length c1, .slice a of.length c, .int .i64 lo, .bool ls, .int .i64 hi, .bool hs, .bool op] 28)) := (Below.refl _ w).alloc (Nat.le_refl _) _
  have HB0 := Lib.hid hb0
  have HA : Hid (allX rightX (n + 1) ((k, is, of, ⟨lo, ls, hi, hs, op⟩) : XT m (n + 1)) = (rightX k is of.length ⟨lo, ls, hi, hs, op⟩ && of.all (allX rightX n))) := rfl
  clear hR hR1 ih hb0
  have HQ : Hid (rightX k is of.length ⟨lo, ls, hi, hs, op⟩ = false) := rightX_out is of.length _ hk
  have q1 : (k == 1) = false := by simp; omega
  have q5 : (k == 5) = false := by simp; omega
  have q6 : (k == 6) = false := by simp; omega
  rcases hk with hk | hk
  · clear q1 q5 q6
    have q1 : (k == 1) = false := by simp; omega
    have q5 : (k == 5) = false := by simp; omega
    have q6 : (k == 6) = false := by simp; omega
    go_enter Tryz.func81, Tryz.ntmps81
    go_wp2_with fail
    all_goals go_ret
    all_goals exact ⟨ret_bool' (by rw [HA.out, HQ.out, Bool.false_and]), HB0.out⟩
  · have qn : ¬ k < 1 := by omega
    go_enter Tryz.func81, Tryz.ntmps81
    go_wp2_with fail
    all_goals go_ret
    all_goals exact ⟨ret_bool' (by rw [HA.out, HQ.out, Bool.false_and]), HB0.out⟩
set_option maxRecDepth 100000 in
set_option maxHeartbeats 8000000 in
theorem right81_one (m n : Nat) (ih : RightC m n) (is : List (FT m)) (of : List (XT m n)) (a1 a : Option Addr) (c1 c : Nat) (lo hi : Int) (ls hs op : Bool) (w : World) (hR1 : FRow w w.heap.size m a1 is) (hR : XRow w w.heap.size m n a of) :
    Calls Tryz.prog 81 #[.agg #[.int .u8 1, .slice a1 is.length c1, .slice a of.length c, .int .i64 lo, .bool ls, .int .i64 hi, .bool hs, .bool op]] w fun e w' => e = .returned (.bool (allX rightX (n + 1) ((1, is, of, ⟨lo, ls, hi, hs, op⟩) : XT m (n + 1)))) ∧ Below w.heap.size w w' := by
  have hm := hR.1
  have hm1 := hR1.1
  have HR := Lib.hid hR
  have HR1 := Lib.hid hR1
  have HIH := Lib.hid ih
  have hb0 : Below w.heap.size w (w.alloc (.cells #[.int .u8 1, .slice a1 is.length c1, .slice a of.length c, .int .i64 lo, .bool ls, .int .i64 hi, .bool hs, .bool op] 28)) := (Below.refl _ w).alloc (Nat.le_refl _) _
  have HB0 := Lib.hid hb0
  have HA : Hid (allX rightX (n + 1) ((1, is, of, ⟨lo, ls, hi, hs, op⟩) : XT m (n + 1)) = (rightX 1 is of.length ⟨lo, ls, hi, hs, op⟩ && of.all (allX rightX n))) := rfl
  clear hR hR1 ih hb0
  have H1 := Lib.hid (rightX_one is of.length ⟨lo, ls, hi, hs, op⟩)
  by_cases hl : is.length = 1
  · by_cases hl2 : of.length = 0
    · by_cases hsp : (⟨lo, ls, hi, hs, op⟩ : Spn) = ⟨0, false, 0, false, false⟩
      · have h0 : 0 < is.length := by omega
        have HQ : Hid (allX rightX (n + 1) ((1, is, of, ⟨lo, ls, hi, hs, op⟩) : XT m (n + 1)) = allF rightB m is[0]) := by
          have hz : of = [] := List.length_eq_zero_iff.1 hl2
          have e1 : is.all (allF rightB m) = allF rightB m is[0] := by
            obtain ⟨f, rfl⟩ := List.length_eq_one_iff.1 hl
            simp
          rw [Hid, HA.out, H1.out, hl, hl2, hz, e1]
          have : decide ((⟨lo, ls, hi, hs, op⟩ : Spn) = noSpan) = true := by simpa [noSpan] using hsp
          rw [this]; simp
        obtain ⟨b, off, k', s', sa, sl, sc, rfl, hbl, c0, c1', c2, hr⟩ := (HR1.out.up HB0.out (Nat.le_refl _)).at 0 h0
        simp only [Nat.zero_mul, Nat.add_zero] at c0 c1' c2
        have hbl' : b < (w.alloc (.cells #[.int .u8 1, .slice (some ⟨b, off, none⟩) is.length c1, .slice a of.length c, .int .i64 lo, .bool ls, .int .i64 hi, .bool hs, .bool op] 28)).heap.size := by simp; omega
        have HC := Lib.hid (rightF128_any m is[0] _ _ (hr.up (Below.refl _ _) HB0.out.size))
        have g1 : (((is.length : Nat) : Int) == 1) = true := by simp [hl]
        have g2 : (((of.length : Nat) : Int) == 0) = true := by rw [hl2]; rfl
        have g4 : (0 : Int) < ((is.length : Nat) : Int) := by omega
        generalize allF rightB m is[0] = r at HC HQ
        clear hr hl hl2 H1
        simp only [Spn.mk.injEq] at hsp
        obtain ⟨rfl, rfl, rfl, rfl, rfl⟩ := hsp
        go_enter Tryz.func81, Tryz.ntmps81
        go_wp2_with fail
        refine HC.out.mono ?_
        rintro e w1 ⟨rfl, hb1⟩
        have HB1 := Lib.hid (HB0.out.trans (hb1.mono HB0.out.size))
        clear hb1
        go_wp2_with fail
        all_goals go_ret
        all_goals exact ⟨ret_bool' (by rw [HQ.out]), HB1.out⟩
      · have HQ : Hid (rightX 1 is of.length ⟨lo, ls, hi, hs, op⟩ = false) := by
          have : decide ((⟨lo, ls, hi, hs, op⟩ : Spn) = noSpan) = false := by simpa [noSpan] using hsp
          rw [Hid, H1.out, this]; simp
        have g1 : (((is.length : Nat) : Int) == 1) = true := by simp [hl]
        have g2 : (((of.length : Nat) : Int) == 0) = true := by rw [hl2]; rfl
        clear hl hl2 H1
        have hc : lo ≠ 0 ∨ (lo = 0 ∧ ls = true) ∨ (lo = 0 ∧ ls = false ∧ hi ≠ 0) ∨ (lo = 0 ∧ ls = false ∧ hi = 0 ∧ hs = true) ∨ (lo = 0 ∧ ls = false ∧ hi = 0 ∧ hs = false ∧ op = true) := by
          simp only [Spn.mk.injEq, not_and] at hsp
          by_cases h1 : lo = 0 <;> cases ls <;> by_cases h3 : hi = 0 <;> cases hs <;> cases op <;> simp_all
        clear hsp
        rcases hc with hq | ⟨rfl, rfl⟩ | ⟨rfl, rfl, hq⟩ | ⟨rfl, rfl, rfl, rfl⟩ | ⟨rfl, rfl, rfl, rfl, rfl⟩
        all_goals
          go_enter Tryz.func81, Tryz.ntmps81
          go_wp2_with fail
          go_ret
          exact ⟨ret_bool' (by rw [HA.out, HQ.out, Bool.false_and]), HB0.out⟩
    · have HQ : Hid (rightX 1 is of.length ⟨lo, ls, hi, hs, op⟩ = false) := by
        have : (of.length == 0) = false := by simpa using hl2
        rw [Hid, H1.out, this]; simp
      have g1 : (((is.length : Nat) : Int) == 1) = true := by simp [hl]
      have g2 : (((of.length : Nat) : Int) == 0) = false := by rw [len0]; simpa using hl2
      clear hl hl2 H1
      go_enter Tryz.func81, Tryz.ntmps81
      go_wp2_with fail
      all_goals go_ret
      all_goals exact ⟨ret_bool' (by rw [HA.out, HQ.out, Bool.false_and]), HB0.out⟩
  · have HQ : Hid (rightX 1 is of.length ⟨lo, ls, hi, hs, op⟩ = false) := by
      have : (is.length == 1) = false := by simpa using hl
      rw [Hid, H1.out, this]; simp
    have g1 : (((is.length : Nat) : Int) == 1) = false := by rw [beq_eq_false_iff_ne]; omega
    clear hl H1
    go_enter Tryz.func81, Tryz.ntmps81
    go_wp2_with fail
    all_goals go_ret
    all_goals exact ⟨ret_bool' (by rw [HA.out, HQ.out, Bool.false_and]), HB0.out⟩
set_option maxRecDepth 100000 in
set_option maxHeartbeats 8000000 in
theorem right81_2 (m n : Nat) (ih : RightC m n) (is : List (FT m)) (of : List (XT m n)) (a1 a : Option Addr) (c1 c : Nat) (lo hi : Int) (ls hs op : Bool) (w : World) (hR1 : FRow w w.heap.size m a1 is) (hR : XRow w w.heap.size m n a of) :
    Calls Tryz.prog 81 #[.agg #[.int .u8 2, .slice a1 is.length c1, .slice a of.length c, .int .i64 lo, .bool ls, .int .i64 hi, .bool hs, .bool op]] w fun e w' => e = .returned (.bool (allX rightX (n + 1) ((2, is, of, ⟨lo, ls, hi, hs, op⟩) : XT m (n + 1)))) ∧ Below w.heap.size w w' := by
  have hm := hR.1
  have hm1 := hR1.1
  have HR := Lib.hid hR
  have HR1 := Lib.hid hR1
  have HIH := Lib.hid ih
  have hb0 : Below w.heap.size w (w.alloc (.cells #[.int .u8 2, .slice a1 is.length c1, .slice a of.length c, .int .i64 lo, .bool ls, .int .i64 hi, .bool hs, .bool op] 28)) := (Below.refl _ w).alloc (Nat.le_refl _) _
  have HB0 := Lib.hid hb0
  have HA : Hid (allX rightX (n + 1) ((2, is, of, ⟨lo, ls, hi, hs, op⟩) : XT m (n + 1)) = (rightX 2 is of.length ⟨lo, ls, hi, hs, op⟩ && of.all (allX rightX n))) := rfl
  clear hR hR1 ih hb0
  have H1 : Hid (rightX 2 is of.length ⟨lo, ls, hi, hs, op⟩ = (is.length == 0 && (of.length == 2) && decide ((⟨lo, ls, hi, hs, op⟩ : Spn) = noSpan))) := rightX_mid (by omega) is of.length ⟨lo, ls, hi, hs, op⟩
  by_cases hl : is.length = 0
  · have g1 : (((is.length : Nat) : Int) != 0) = false := by simp [hl]
    by_cases hl2 : of.length = 2
    · have g2 : (((of.length : Nat) : Int) != 2) = false := by rw [bne_eq_false_iff_eq]; omega
      by_cases hsp : (⟨lo, ls, hi, hs, op⟩ : Spn) = ⟨0, false, 0, false, false⟩
      · have HQ : Hid (rightX 2 is of.length ⟨lo, ls, hi, hs, op⟩ = true) := by
          have : decide ((⟨lo, ls, hi, hs, op⟩ : Spn) = noSpan) = true := by simpa [noSpan] using hsp
          rw [Hid, H1.out, hl, hl2, this]; rfl
        clear hl hl2 H1
        simp only [Spn.mk.injEq] at hsp
        obtain ⟨rfl, rfl, rfl, rfl, rfl⟩ := hsp
        go_enter Tryz.func81, Tryz.ntmps81
        go_wp2_with fail
        go_loopw [4] (fun i wr => ∃ j : Nat, j ≤ of.length ∧ i = .int .i64 j ∧ Hid ((of.take j).all (allX rightX n) = true) ∧ Below w.heap.size w wr ∧ w.heap.size < wr.heap.size ∧ wr.cell? ⟨w.heap.size, 2, none⟩ = some (.slice a of.length c)) (fun i _ => of.length - (intOf i).toNat)
        case atStart => exact ⟨0, Nat.zero_le _, rfl, by simp [Hid], HB0.out, by simp, by simp [World.cell?_alloc_at]⟩
        case round =>
          obtain ⟨j, hj, rfl, HT, hbw, hsz, hbox2⟩ := hrel
          have HBW := Lib.hid hbw
          by_cases hlt : j < of.length
          · have hltI : ((j : Nat) : Int) < ((of.length : Nat) : Int) := by omega
            obtain ⟨b, off, k', a1', l1', c1', a2', l2', c2', lo', ls', hi', hs', op', rfl, hbl, c0, d1, c2, c3, c4, c5, c6, c7, hr⟩ := (XRow.up HR.out hbw (Nat.le_refl _)).at j hlt
            have hz := hbw.size
            have hbl' : b < wr.heap.size := by omega
            have HC := Lib.hid (HIH.out of[j] _ wr (hr.up (Below.refl _ _) hz))
            have HTK := Lib.hid (all_take_succ (allX rightX n) of j hlt)
            have HF : Hid ((allX rightX n) of[j] = false → of.all (allX rightX n) = false) := fun h => List.all_eq_false.2 ⟨_, List.getElem_mem hlt, by simp [h]⟩
            clear hr hbw
            cases qq : (allX rightX n) of[j] with
            | true =>
              have HT' : Hid ((of.take (j + 1)).all (allX rightX n) = true) := by rw [Hid, HTK.out, HT.out]; simp [qq]
              rw [qq] at HC
              clear qq
              go_wp2_with fail
              refine HC.out.mono ?_
              rintro e w3 ⟨rfl, hb3⟩
              have HB3 := Lib.hid (HBW.out.trans (hb3.mono hz))
              have hsz3 : w.heap.size < w3.heap.size := by have := hb3.size; omega
              have gbox2 := (hb3.cell (p := ⟨w.heap.size, 2, none⟩) hsz).trans hbox2
              clear hb3
              go_wp2_with fail
              go_roundw
              case rel => exact ⟨j + 1, by omega, by go_num, HT', HB3.out, hsz3, gbox2⟩
              case measure => simp [intOf]; omega
            | false =>
              have HNO := Lib.hid (HF.out qq)
              rw [qq] at HC
              clear qq
              go_wp2_with fail
              refine HC.out.mono ?_
              rintro e w3 ⟨rfl, hb3⟩
              have HB3 := Lib.hid (HBW.out.trans (hb3.mono hz))
              clear hb3
              go_wp2_with fail
              all_goals go_ret
              all_goals exact ⟨ret_bool' (by rw [HA.out, HNO.out, Bool.and_false]), HB3.out⟩
          · have hje : j = of.length := by omega
            subst hje
            have hltI : ¬ ((of.length : Nat) : Int) < ((of.length : Nat) : Int) := by omega
            have HALL : Hid (of.all (allX rightX n) = true) := by have h := HT.out; rw [List.take_length] at h; exact h
            clear HT
            go_wp2_with fail
            all_goals go_ret
            all_goals exact ⟨ret_bool' (by rw [HA.out, HQ.out, HALL.out]; rfl), HBW.out⟩
      · have HQ : Hid (rightX 2 is of.length ⟨lo, ls, hi, hs, op⟩ = false) := by
          have : decide ((⟨lo, ls, hi, hs, op⟩ : Spn) = noSpan) = false := by simpa [noSpan] using hsp
          rw [Hid, H1.out, this]; simp
        clear hl hl2 H1
        have hc : lo ≠ 0 ∨ (lo = 0 ∧ ls = true) ∨ (lo = 0 ∧ ls = false ∧ hi ≠ 0) ∨ (lo = 0 ∧ ls = false ∧ hi = 0 ∧ hs = true) ∨ (lo = 0 ∧ ls = false ∧ hi = 0 ∧ hs = false ∧ op = true) := by
          simp only [Spn.mk.injEq, not_and] at hsp
          by_cases h1 : lo = 0 <;> cases ls <;> by_cases h3 : hi = 0 <;> cases hs <;> cases op <;> simp_all
        clear hsp
        rcases hc with hq | ⟨rfl, rfl⟩ | ⟨rfl, rfl, hq⟩ | ⟨rfl, rfl, rfl, rfl⟩ | ⟨rfl, rfl, rfl, rfl, rfl⟩
        all_goals
          go_enter Tryz.func81, Tryz.ntmps81
          go_wp2_with fail
          go_ret
          exact ⟨ret_bool' (by rw [HA.out, HQ.out, Bool.false_and]), HB0.out⟩
    · have g2 : (((of.length : Nat) : Int) != 2) = true := by rw [bne_iff_ne]; omega
      have HQ : Hid (rightX 2 is of.length ⟨lo, ls, hi, hs, op⟩ = false) := by
        have : (of.length == 2) = false := by simpa using hl2
        rw [Hid, H1.out, this]; simp
      clear hl hl2 H1
      go_enter Tryz.func81, Tryz.ntmps81
      go_wp2_with fail
      all_goals go_ret
      all_goals exact ⟨ret_bool' (by rw [HA.out, HQ.out, Bool.false_and]), HB0.out⟩
  · have g1 : (((is.length : Nat) : Int) != 0) = true := by rw [bne_iff_ne]; omega
    have HQ : Hid (rightX 2 is of.length ⟨lo, ls, hi, hs, op⟩ = false) := by
      have : (is.length == 0) = false := by simpa using hl
      rw [Hid, H1.out, this]; rfl
    clear hl H1
    go_enter Tryz.func81, Tryz.ntmps81
    go_wp2_with fail
    all_goals go_ret
    all_goals exact ⟨ret_bool' (by rw [HA.out, HQ.out, Bool.false_and]), HB0.out⟩
set_option maxRecDepth 100000 in
set_option maxHeartbeats 8000000 in
theorem right81_3 (m n : Nat) (ih : RightC m n) (is : List (FT m)) (of : List (XT m n)) (a1 a : Option Addr) (c1 c : Nat) (lo hi : Int) (ls hs op : Bool) (w : World) (hR1 : FRow w w.heap.size m a1 is) (hR : XRow w w.heap.size m n a of) :
    Calls Tryz.prog 81 #[.agg #[.int .u8 3, .slice a1 is.length c1, .slice a of.length c, .int .i64 lo, .bool ls, .int .i64 hi, .bool hs, .bool op]] w fun e w' => e = .returned (.bool (allX rightX (n + 1) ((3, is, of, ⟨lo, ls, hi, hs, op⟩) : XT m (n + 1)))) ∧ Below w.heap.size w w' := by
  have hm := hR.1
  have hm1 := hR1.1
  have HR := Lib.hid hR
  have HR1 := Lib.hid hR1
  have HIH := Lib.hid ih
  have hb0 : Below w.heap.size w (w.alloc (.cells #[.int .u8 3, .slice a1 is.length c1, .slice a of.length c, .int .i64 lo, .bool ls, .int .i64 hi, .bool hs, .bool op] 28)) := (Below.refl _ w).alloc (Nat.le_refl _) _
  have HB0 := Lib.hid hb0
  have HA : Hid (allX rightX (n + 1) ((3, is, of, ⟨lo, ls, hi, hs, op⟩) : XT m (n + 1)) = (rightX 3 is of.length ⟨lo, ls, hi, hs, op⟩ && of.all (allX rightX n))) := rfl
  clear hR hR1 ih hb0
  have H1 : Hid (rightX 3 is of.length ⟨lo, ls, hi, hs, op⟩ = (is.length == 0 && (of.length == 2) && decide ((⟨lo, ls, hi, hs, op⟩ : Spn) = noSpan))) := rightX_mid (by omega) is of.length ⟨lo, ls, hi, hs, op⟩
  by_cases hl : is.length = 0
  · have g1 : (((is.length : Nat) : Int) != 0) = false := by simp [hl]
    by_cases hl2 : of.length = 2
    · have g2 : (((of.length : Nat) : Int) != 2) = false := by rw [bne_eq_false_iff_eq]; omega
      by_cases hsp : (⟨lo, ls, hi, hs, op⟩ : Spn) = ⟨0, false, 0, false, false⟩
      · have HQ : Hid (rightX 3 is of.length ⟨lo, ls, hi, hs, op⟩ = true) := by
          have : decide ((⟨lo, ls, hi, hs, op⟩ : Spn) = noSpan) = true := by simpa [noSpan] using hsp
          rw [Hid, H1.out, hl, hl2, this]; rfl
        clear hl hl2 H1
        simp only [Spn.mk.injEq] at hsp
        obtain ⟨rfl, rfl, rfl, rfl, rfl⟩ := hsp
        go_enter Tryz.func81, Tryz.ntmps81
        go_wp2_with fail
        go_loopw [4] (fun i wr => ∃ j : Nat, j ≤ of.length ∧ i = .int .i64 j ∧ Hid ((of.take j).all (allX rightX n) = true) ∧ Below w.heap.size w wr ∧ w.heap.size < wr.heap.size ∧ wr.cell? ⟨w.heap.size, 2, none⟩ = some (.slice a of.length c)) (fun i _ => of.length - (intOf i).toNat)
        case atStart => exact ⟨0, Nat.zero_le _, rfl, by simp [Hid], HB0.out, by simp, by simp [World.cell?_alloc_at]⟩
        case round =>
          obtain ⟨j, hj, rfl, HT, hbw, hsz, hbox2⟩ := hrel
          have HBW := Lib.hid hbw
          by_cases hlt : j < of.length
          · have hltI : ((j : Nat) : Int) < ((of.length : Nat) : Int) := by omega
            obtain ⟨b, off, k', a1', l1', c1', a2', l2', c2', lo', ls', hi', hs', op', rfl, hbl, c0, d1, c2, c3, c4, c5, c6, c7, hr⟩ := (XRow.up HR.out hbw (Nat.le_refl _)).at j hlt
            have hz := hbw.size
            have hbl' : b < wr.heap.size := by omega
            have HC := Lib.hid (HIH.out of[j] _ wr (hr.up (Below.refl _ _) hz))
            have HTK := Lib.hid (all_take_succ (allX rightX n) of j hlt)
            have HF : Hid ((allX rightX n) of[j] = false → of.all (allX rightX n) = false) := fun h => List.all_eq_false.2 ⟨_, List.getElem_mem hlt, by simp [h]⟩
            clear hr hbw
            cases qq : (allX rightX n) of[j] with
            | true =>
              have HT' : Hid ((of.take (j + 1)).all (allX rightX n) = true) := by rw [Hid, HTK.out, HT.out]; simp [qq]
              rw [qq] at HC
              clear qq
              go_wp2_with fail
              refine HC.out.mono ?_
              rintro e w3 ⟨rfl, hb3⟩
              have HB3 := Lib.hid (HBW.out.trans (hb3.mono hz))
              have hsz3 : w.heap.size < w3.heap.size := by have := hb3.size; omega
              have gbox2 := (hb3.cell (p := ⟨w.heap.size, 2, none⟩) hsz).trans hbox2
              clear hb3
              go_wp2_with fail
              go_roundw
              case rel => exact ⟨j + 1, by omega, by go_num, HT', HB3.out, hsz3, gbox2⟩
              case measure => simp [intOf]; omega
            | false =>
              have HNO := Lib.hid (HF.out qq)
              rw [qq] at HC
              clear qq
              go_wp2_with fail
              refine HC.out.mono ?_
              rintro e w3 ⟨rfl, hb3⟩
              have HB3 := Lib.hid (HBW.out.trans (hb3.mono hz))
              clear hb3
              go_wp2_with fail
              all_goals go_ret
              all_goals exact ⟨ret_bool' (by rw [HA.out, HNO.out, Bool.and_false]), HB3.out⟩
          · have hje : j = of.length := by omega
            subst hje
            have hltI : ¬ ((of.length : Nat) : Int) < ((of.length : Nat) : Int) := by omega
            have HALL : Hid (of.all (allX rightX n) = true) := by have h := HT.out; rw [List.take_length] at h; exact h
            clear HT
            go_wp2_with fail
            all_goals go_ret
            all_goals exact ⟨ret_bool' (by rw [HA.out, HQ.out, HALL.out]; rfl), HBW.out⟩
      · have HQ : Hid (rightX 3 is of.length ⟨lo, ls, hi, hs, op⟩ = false) := by
          have : decide ((⟨lo, ls, hi, hs, op⟩ : Spn) = noSpan) = false := by simpa [noSpan] using hsp
          rw [Hid, H1.out, this]; simp
        clear hl hl2 H1
        have hc : lo ≠ 0 ∨ (lo = 0 ∧ ls = true) ∨ (lo = 0 ∧ ls = false ∧ hi ≠ 0) ∨ (lo = 0 ∧ ls = false ∧ hi = 0 ∧ hs = true) ∨ (lo = 0 ∧ ls = false ∧ hi = 0 ∧ hs = false ∧ op = true) := by
          simp only [Spn.mk.injEq, not_and] at hsp
          by_cases h1 : lo = 0 <;> cases ls <;> by_cases h3 : hi = 0 <;> cases hs <;> cases op <;> simp_all
        clear hsp
        rcases hc with hq | ⟨rfl, rfl⟩ | ⟨rfl, rfl, hq⟩ | ⟨rfl, rfl, rfl, rfl⟩ | ⟨rfl, rfl, rfl, rfl, rfl⟩
        all_goals
          go_enter Tryz.func81, Tryz.ntmps81
          go_wp2_with fail
          go_ret
          exact ⟨ret_bool' (by rw [HA.out, HQ.out, Bool.false_and]), HB0.out⟩
    · have g2 : (((of.length : Nat) : Int) != 2) = true := by rw [bne_iff_ne]; omega
      have HQ : Hid (rightX 3 is of.length ⟨lo, ls, hi, hs, op⟩ = false) := by
        have : (of.length == 2) = false := by simpa using hl2
        rw [Hid, H1.out, this]; simp
      clear hl hl2 H1
      go_enter Tryz.func81, Tryz.ntmps81
      go_wp2_with fail
      all_goals go_ret
      all_goals exact ⟨ret_bool' (by rw [HA.out, HQ.out, Bool.false_and]), HB0.out⟩
  · have g1 : (((is.length : Nat) : Int) != 0) = true := by rw [bne_iff_ne]; omega
    have HQ : Hid (rightX 3 is of.length ⟨lo, ls, hi, hs, op⟩ = false) := by
      have : (is.length == 0) = false := by simpa using hl
      rw [Hid, H1.out, this]; rfl
    clear hl H1
    go_enter Tryz.func81, Tryz.ntmps81
    go_wp2_with fail
    all_goals go_ret
    all_goals exact ⟨ret_bool' (by rw [HA.out, HQ.out, Bool.false_and]), HB0.out⟩
set_option maxRecDepth 100000 in
set_option maxHeartbeats 8000000 in
theorem right81_4 (m n : Nat) (ih : RightC m n) (is : List (FT m)) (of : List (XT m n)) (a1 a : Option Addr) (c1 c : Nat) (lo hi : Int) (ls hs op : Bool) (w : World) (hR1 : FRow w w.heap.size m a1 is) (hR : XRow w w.heap.size m n a of) :
    Calls Tryz.prog 81 #[.agg #[.int .u8 4, .slice a1 is.length c1, .slice a of.length c, .int .i64 lo, .bool ls, .int .i64 hi, .bool hs, .bool op]] w fun e w' => e = .returned (.bool (allX rightX (n + 1) ((4, is, of, ⟨lo, ls, hi, hs, op⟩) : XT m (n + 1)))) ∧ Below w.heap.size w w' := by
  have hm := hR.1
  have hm1 := hR1.1
  have HR := Lib.hid hR
  have HR1 := Lib.hid hR1
  have HIH := Lib.hid ih
  have hb0 : Below w.heap.size w (w.alloc (.cells #[.int .u8 4, .slice a1 is.length c1, .slice a of.length c, .int .i64 lo, .bool ls, .int .i64 hi, .bool hs, .bool op] 28)) := (Below.refl _ w).alloc (Nat.le_refl _) _
  have HB0 := Lib.hid hb0
  have HA : Hid (allX rightX (n + 1) ((4, is, of, ⟨lo, ls, hi, hs, op⟩) : XT m (n + 1)) = (rightX 4 is of.length ⟨lo, ls, hi, hs, op⟩ && of.all (allX rightX n))) := rfl
  clear hR hR1 ih hb0
  have H1 : Hid (rightX 4 is of.length ⟨lo, ls, hi, hs, op⟩ = (is.length == 0 && (of.length == 2) && decide ((⟨lo, ls, hi, hs, op⟩ : Spn) = noSpan))) := rightX_mid (by omega) is of.length ⟨lo, ls, hi, hs, op⟩
  by_cases hl : is.length = 0
  · have g1 : (((is.length : Nat) : Int) != 0) = false := by simp [hl]
    by_cases hl2 : of.length = 2
    · have g2 : (((of.length : Nat) : Int) != 2) = false := by rw [bne_eq_false_iff_eq]; omega
      by_cases hsp : (⟨lo, ls, hi, hs, op⟩ : Spn) = ⟨0, false, 0, false, false⟩
      · have HQ : Hid (rightX 4 is of.length ⟨lo, ls, hi, hs, op⟩ = true) := by
          have : decide ((⟨lo, ls, hi, hs, op⟩ : Spn) = noSpan) = true := by simpa [noSpan] using hsp
          rw [Hid, H1.out, hl, hl2, this]; rfl
        clear hl hl2 H1
        simp only [Spn.mk.injEq] at hsp
        obtain ⟨rfl, rfl, rfl, rfl, rfl⟩ := hsp
        go_enter Tryz.func81, Tryz.ntmps81
        go_wp2_with fail
        go_loopw [4] (fun i wr => ∃ j : Nat, j ≤ of.length ∧ i = .int .i64 j ∧ Hid ((of.take j).all (allX rightX n) = true) ∧ Below w.heap.size w wr ∧ w.heap.size < wr.heap.size ∧ wr.cell? ⟨w.heap.size, 2, none⟩ = some (.slice a of.length c)) (fun i _ => of.length - (intOf i).toNat)
        case atStart => exact ⟨0, Nat.zero_le _, rfl, by simp [Hid], HB0.out, by simp, by simp [World.cell?_alloc_at]⟩
        case round =>
          obtain ⟨j, hj, rfl, HT, hbw, hsz, hbox2⟩ := hrel
          have HBW := Lib.hid hbw
          by_cases hlt : j < of.length
          · have hltI : ((j : Nat) : Int) < ((of.length : Nat) : Int) := by omega
            obtain ⟨b, off, k', a1', l1', c1', a2', l2', c2', lo', ls', hi', hs', op', rfl, hbl, c0, d1, c2, c3, c4, c5, c6, c7, hr⟩ := (XRow.up HR.out hbw (Nat.le_refl _)).at j hlt
            have hz := hbw.size
            have hbl' : b < wr.heap.size := by omega
            have HC := Lib.hid (HIH.out of[j] _ wr (hr.up (Below.refl _ _) hz))
            have HTK := Lib.hid (all_take_succ (allX rightX n) of j hlt)
            have HF : Hid ((allX rightX n) of[j] = false → of.all (allX rightX n) = false) := fun h => List.all_eq_false.2 ⟨_, List.getElem_mem hlt, by simp [h]⟩
            clear hr hbw
            cases qq : (allX rightX n) of[j] with
            | true =>
              have HT' : Hid ((of.take (j + 1)).all (allX rightX n) = true) := by rw [Hid, HTK.out, HT.out]; simp [qq]
              rw [qq] at HC
              clear qq
              go_wp2_with fail
              refine HC.out.mono ?_
              rintro e w3 ⟨rfl, hb3⟩
              have HB3 := Lib.hid (HBW.out.trans (hb3.mono hz))
              have hsz3 : w.heap.size < w3.heap.size := by have := hb3.size; omega
              have gbox2 := (hb3.cell (p := ⟨w.heap.size, 2, none⟩) hsz).trans hbox2
              clear hb3
              go_wp2_with fail
              go_roundw
              case rel => exact ⟨j + 1, by omega, by go_num, HT', HB3.out, hsz3, gbox2⟩
              case measure => simp [intOf]; omega
            | false =>
              have HNO := Lib.hid (HF.out qq)
              rw [qq] at HC
              clear qq
              go_wp2_with fail
              refine HC.out.mono ?_
              rintro e w3 ⟨rfl, hb3⟩
              have HB3 := Lib.hid (HBW.out.trans (hb3.mono hz))
              clear hb3
              go_wp2_with fail
              all_goals go_ret
              all_goals exact ⟨ret_bool' (by rw [HA.out, HNO.out, Bool.and_false]), HB3.out⟩
          · have hje : j = of.length := by omega
            subst hje
            have hltI : ¬ ((of.length : Nat) : Int) < ((of.length : Nat) : Int) := by omega
            have HALL : Hid (of.all (allX rightX n) = true) := by have h := HT.out; rw [List.take_length] at h; exact h
            clear HT
            go_wp2_with fail
            all_goals go_ret
            all_goals exact ⟨ret_bool' (by rw [HA.out, HQ.out, HALL.out]; rfl), HBW.out⟩
      · have HQ : Hid (rightX 4 is of.length ⟨lo, ls, hi, hs, op⟩ = false) := by
          have : decide ((⟨lo, ls, hi, hs, op⟩ : Spn) = noSpan) = false := by simpa [noSpan] using hsp
          rw [Hid, H1.out, this]; simp
        clear hl hl2 H1
        have hc : lo ≠ 0 ∨ (lo = 0 ∧ ls = true) ∨ (lo = 0 ∧ ls = false ∧ hi ≠ 0) ∨ (lo = 0 ∧ ls = false ∧ hi = 0 ∧ hs = true) ∨ (lo = 0 ∧ ls = false ∧ hi = 0 ∧ hs = false ∧ op = true) := by
          simp only [Spn.mk.injEq, not_and] at hsp
          by_cases h1 : lo = 0 <;> cases ls <;> by_cases h3 : hi = 0 <;> cases hs <;> cases op <;> simp_all
        clear hsp
        rcases hc with hq | ⟨rfl, rfl⟩ | ⟨rfl, rfl, hq⟩ | ⟨rfl, rfl, rfl, rfl⟩ | ⟨rfl, rfl, rfl, rfl, rfl⟩
        all_goals
          go_enter Tryz.func81, Tryz.ntmps81
          go_wp2_with fail
          go_ret
          exact ⟨ret_bool' (by rw [HA.out, HQ.out, Bool.false_and]), HB0.out⟩
    · have g2 : (((of.length : Nat) : Int) != 2) = true := by rw [bne_iff_ne]; omega
      have HQ : Hid (rightX 4 is of.length ⟨lo, ls, hi, hs, op⟩ = false) := by
        have : (of.length == 2) = false := by simpa using hl2
        rw [Hid, H1.out, this]; simp
      clear hl hl2 H1
      go_enter Tryz.func81, Tryz.ntmps81
      go_wp2_with fail
      all_goals go_ret
      all_goals exact ⟨ret_bool' (by rw [HA.out, HQ.out, Bool.false_and]), HB0.out⟩
  · have g1 : (((is.length : Nat) : Int) != 0) = true := by rw [bne_iff_ne]; omega
    have HQ : Hid (rightX 4 is of.length ⟨lo, ls, hi, hs, op⟩ = false) := by
      have : (is.length == 0) = false := by simpa using hl
      rw [Hid, H1.out, this]; rfl
    clear hl H1
    go_enter Tryz.func81, Tryz.ntmps81
    go_wp2_with fail
    all_goals go_ret
    all_goals exact ⟨ret_bool' (by rw [HA.out, HQ.out, Bool.false_and]), HB0.out⟩
set_option maxRecDepth 100000 in
set_option maxHeartbeats 8000000 in
theorem right81_5 (m n : Nat) (ih : RightC m n) (is : List (FT m)) (of : List (XT m n)) (a1 a : Option Addr) (c1 c : Nat) (lo hi : Int) (ls hs op : Bool) (w : World) (hR1 : FRow w w.heap.size m a1 is) (hR : XRow w w.heap.size m n a of) :
    Calls Tryz.prog 81 #[.agg #[.int .u8 5, .slice a1 is.length c1, .slice a of.length c, .int .i64 lo, .bool ls, .int .i64 hi, .bool hs, .bool op]] w fun e w' => e = .returned (.bool (allX rightX (n + 1) ((5, is, of, ⟨lo, ls, hi, hs, op⟩) : XT m (n + 1)))) ∧ Below w.heap.size w w' := by
  have hm := hR.1
  have hm1 := hR1.1
  have HR := Lib.hid hR
  have HR1 := Lib.hid hR1
  have HIH := Lib.hid ih
  have hb0 : Below w.heap.size w (w.alloc (.cells #[.int .u8 5, .slice a1 is.length c1, .slice a of.length c, .int .i64 lo, .bool ls, .int .i64 hi, .bool hs, .bool op] 28)) := (Below.refl _ w).alloc (Nat.le_refl _) _
  have HB0 := Lib.hid hb0
  have HA : Hid (allX rightX (n + 1) ((5, is, of, ⟨lo, ls, hi, hs, op⟩) : XT m (n + 1)) = (rightX 5 is of.length ⟨lo, ls, hi, hs, op⟩ && of.all (allX rightX n))) := rfl
  clear hR hR1 ih hb0
  have H1 : Hid (rightX 5 is of.length ⟨lo, ls, hi, hs, op⟩ = (is.length == 0 && (of.length == 1) && decide ((⟨lo, ls, hi, hs, op⟩ : Spn) = noSpan))) := rightX_mid (by omega) is of.length ⟨lo, ls, hi, hs, op⟩
  by_cases hl : is.length = 0
  · have g1 : (((is.length : Nat) : Int) != 0) = false := by simp [hl]
    by_cases hl2 : of.length = 1
    · have g2 : (((of.length : Nat) : Int) != 1) = false := by rw [bne_eq_false_iff_eq]; omega
      by_cases hsp : (⟨lo, ls, hi, hs, op⟩ : Spn) = ⟨0, false, 0, false, false⟩
      · have HQ : Hid (rightX 5 is of.length ⟨lo, ls, hi, hs, op⟩ = true) := by
          have : decide ((⟨lo, ls, hi, hs, op⟩ : Spn) = noSpan) = true := by simpa [noSpan] using hsp
          rw [Hid, H1.out, hl, hl2, this]; rfl
        clear hl hl2 H1
        simp only [Spn.mk.injEq] at hsp
        obtain ⟨rfl, rfl, rfl, rfl, rfl⟩ := hsp
        go_enter Tryz.func81, Tryz.ntmps81
        go_wp2_with fail
        go_loopw [4] (fun i wr => ∃ j : Nat, j ≤ of.length ∧ i = .int .i64 j ∧ Hid ((of.take j).all (allX rightX n) = true) ∧ Below w.heap.size w wr ∧ w.heap.size < wr.heap.size ∧ wr.cell? ⟨w.heap.size, 2, none⟩ = some (.slice a of.length c)) (fun i _ => of.length - (intOf i).toNat)
        case atStart => exact ⟨0, Nat.zero_le _, rfl, by simp [Hid], HB0.out, by simp, by simp [World.cell?_alloc_at]⟩
        case round =>
          obtain ⟨j, hj, rfl, HT, hbw, hsz, hbox2⟩ := hrel
          have HBW := Lib.hid hbw
          by_cases hlt : j < of.length
          · have hltI : ((j : Nat) : Int) < ((of.length : Nat) : Int) := by omega
            obtain ⟨b, off, k', a1', l1', c1', a2', l2', c2', lo', ls', hi', hs', op', rfl, hbl, c0, d1, c2, c3, c4, c5, c6, c7, hr⟩ := (XRow.up HR.out hbw (Nat.le_refl _)).at j hlt
            have hz := hbw.size
            have hbl' : b < wr.heap.size := by omega
            have HC := Lib.hid (HIH.out of[j] _ wr (hr.up (Below.refl _ _) hz))
            have HTK := Lib.hid (all_take_succ (allX rightX n) of j hlt)
            have HF : Hid ((allX rightX n) of[j] = false → of.all (allX rightX n) = false) := fun h => List.all_eq_false.2 ⟨_, List.getElem_mem hlt, by simp [h]⟩
            clear hr hbw
            cases qq : (allX rightX n) of[j] with
            | true =>
              have HT' : Hid ((of.take (j + 1)).all (allX rightX n) = true) := by rw [Hid, HTK.out, HT.out]; simp [qq]
              rw [qq] at HC
              clear qq
              go_wp2_with fail
              refine HC.out.mono ?_
              rintro e w3 ⟨rfl, hb3⟩
              have HB3 := Lib.hid (HBW.out.trans (hb3.mono hz))
              have hsz3 : w.heap.size < w3.heap.size := by have := hb3.size; omega
              have gbox2 := (hb3.cell (p := ⟨w.heap.size, 2, none⟩) hsz).trans hbox2
              clear hb3
              go_wp2_with fail
              go_roundw
              case rel => exact ⟨j + 1, by omega, by go_num, HT', HB3.out, hsz3, gbox2⟩
              case measure => simp [intOf]; omega
            | false =>
              have HNO := Lib.hid (HF.out qq)
              rw [qq] at HC
              clear qq
              go_wp2_with fail
              refine HC.out.mono ?_
              rintro e w3 ⟨rfl, hb3⟩
              have HB3 := Lib.hid (HBW.out.trans (hb3.mono hz))
              clear hb3
              go_wp2_with fail
              all_goals go_ret
              all_goals exact ⟨ret_bool' (by rw [HA.out, HNO.out, Bool.and_false]), HB3.out⟩
          · have hje : j = of.length := by omega
            subst hje
            have hltI : ¬ ((of.length : Nat) : Int) < ((of.length : Nat) : Int) := by omega
            have HALL : Hid (of.all (allX rightX n) = true) := by have h := HT.out; rw [List.take_length] at h; exact h
            clear HT
            go_wp2_with fail
            all_goals go_ret
            all_goals exact ⟨ret_bool' (by rw [HA.out, HQ.out, HALL.out]; rfl), HBW.out⟩
      · have HQ : Hid (rightX 5 is of.length ⟨lo, ls, hi, hs, op⟩ = false) := by
          have : decide ((⟨lo, ls, hi, hs, op⟩ : Spn) = noSpan) = false := by simpa [noSpan] using hsp
          rw [Hid, H1.out, this]; simp
        clear hl hl2 H1
        have hc : lo ≠ 0 ∨ (lo = 0 ∧ ls = true) ∨ (lo = 0 ∧ ls = false ∧ hi ≠ 0) ∨ (lo = 0 ∧ ls = false ∧ hi = 0 ∧ hs = true) ∨ (lo = 0 ∧ ls = false ∧ hi = 0 ∧ hs = false ∧ op = true) := by
          simp only [Spn.mk.injEq, not_and] at hsp
          by_cases h1 : lo = 0 <;> cases ls <;> by_cases h3 : hi = 0 <;> cases hs <;> cases op <;> simp_all
        clear hsp
        rcases hc with hq | ⟨rfl, rfl⟩ | ⟨rfl, rfl, hq⟩ | ⟨rfl, rfl, rfl, rfl⟩ | ⟨rfl, rfl, rfl, rfl, rfl⟩
        all_goals
          go_enter Tryz.func81, Tryz.ntmps81
          go_wp2_with fail
          go_ret
          exact ⟨ret_bool' (by rw [HA.out, HQ.out, Bool.false_and]), HB0.out⟩
    · have g2 : (((of.length : Nat) : Int) != 1) = true := by rw [bne_iff_ne]; omega
      have HQ : Hid (rightX 5 is of.length ⟨lo, ls, hi, hs, op⟩ = false) := by
        have : (of.length == 1) = false := by simpa using hl2
        rw [Hid, H1.out, this]; simp
      clear hl hl2 H1
      go_enter Tryz.func81, Tryz.ntmps81
      go_wp2_with fail
      all_goals go_ret
      all_goals exact ⟨ret_bool' (by rw [HA.out, HQ.out, Bool.false_and]), HB0.out⟩
  · have g1 : (((is.length : Nat) : Int) != 0) = true := by rw [bne_iff_ne]; omega
    have HQ : Hid (rightX 5 is of.length ⟨lo, ls, hi, hs, op⟩ = false) := by
      have : (is.length == 0) = false := by simpa using hl
      rw [Hid, H1.out, this]; rfl
    clear hl H1
    go_enter Tryz.func81, Tryz.ntmps81
    go_wp2_with fail
    all_goals go_ret
    all_goals exact ⟨ret_bool' (by rw [HA.out, HQ.out, Bool.false_and]), HB0.out⟩
set_option maxRecDepth 100000 in
set_option maxHeartbeats 8000000 in
theorem right81_6 (m n : Nat) (ih : RightC m n) (is : List (FT m)) (of : List (XT m n)) (a1 a : Option Addr) (c1 c : Nat) (lo hi : Int) (ls hs op : Bool) (w : World) (hR1 : FRow w w.heap.size m a1 is) (hR : XRow w w.heap.size m n a of) :
    Calls Tryz.prog 81 #[.agg #[.int .u8 6, .slice a1 is.length c1, .slice a of.length c, .int .i64 lo, .bool ls, .int .i64 hi, .bool hs, .bool op]] w fun e w' => e = .returned (.bool (allX rightX (n + 1) ((6, is, of, ⟨lo, ls, hi, hs, op⟩) : XT m (n + 1)))) ∧ Below w.heap.size w w' := by
  have hm := hR.1
  have hm1 := hR1.1
  have HR := Lib.hid hR
  have HR1 := Lib.hid hR1
  have HIH := Lib.hid ih
  have hb0 : Below w.heap.size w (w.alloc (.cells #[.int .u8 6, .slice a1 is.length c1, .slice a of.length c, .int .i64 lo, .bool ls, .int .i64 hi, .bool hs, .bool op] 28)) := (Below.refl _ w).alloc (Nat.le_refl _) _
  have HB0 := Lib.hid hb0
  have HA : Hid (allX rightX (n + 1) ((6, is, of, ⟨lo, ls, hi, hs, op⟩) : XT m (n + 1)) = (rightX 6 is of.length ⟨lo, ls, hi, hs, op⟩ && of.all (allX rightX n))) := rfl
  clear hR hR1 ih hb0
  have H1 : Hid (rightX 6 is of.length ⟨lo, ls, hi, hs, op⟩ = (is.length == 0 && (of.length == 1) && mayI ⟨lo, ls, hi, hs, op⟩)) := rightX_six is of.length ⟨lo, ls, hi, hs, op⟩
  by_cases hl : is.length = 0
  · have g1 : (((is.length : Nat) : Int) != 0) = false := by simp [hl]
    by_cases hl2 : of.length = 1
    · have g2 : (((of.length : Nat) : Int) != 1) = false := by rw [bne_eq_false_iff_eq]; omega
      have HI := Lib.hid (mayInterval129_any ⟨lo, ls, hi, hs, op⟩ (w.alloc (.cells #[.int .u8 6, .slice a1 is.length c1, .slice a of.length c, .int .i64 lo, .bool ls, .int .i64 hi, .bool hs, .bool op] 28)))
      have HBX : Hid ((w.alloc (.cells #[.int .u8 6, .slice a1 is.length c1, .slice a of.length c, .int .i64 lo, .bool ls, .int .i64 hi, .bool hs, .bool op] 28)).cell? ⟨w.heap.size, 2, none⟩ = some (.slice a of.length c)) := by simp [World.cell?_alloc_at, Hid]
      have HBX0 : Hid ((w.alloc (.cells #[.int .u8 6, .slice a1 is.length c1, .slice a of.length c, .int .i64 lo, .bool ls, .int .i64 hi, .bool hs, .bool op] 28)).cell? ⟨w.heap.size, 0, none⟩ = some (.int .u8 6)) := by simp [World.cell?_alloc_at, Hid]
      have HSZ : Hid (w.heap.size < (w.alloc (.cells #[.int .u8 6, .slice a1 is.length c1, .slice a of.length c, .int .i64 lo, .bool ls, .int .i64 hi, .bool hs, .bool op] 28)).heap.size) := by simp [Hid]
      cases qm : mayI ⟨lo, ls, hi, hs, op⟩ with
      | true =>
        have HQ : Hid (rightX 6 is of.length ⟨lo, ls, hi, hs, op⟩ = true) := by rw [Hid, H1.out, hl, hl2, qm]; rfl
        have HI' := HI
        rw [qm] at HI'
        clear qm hl hl2 H1 HI
        go_enter Tryz.func81, Tryz.ntmps81
        go_wp2_with fail
        refine HI'.out.mono ?_
        rintro e w1 ⟨rfl, hb1⟩
        have HBW0 := Lib.hid (HB0.out.trans (hb1.mono HB0.out.size))
        have hsz0 : w.heap.size < w1.heap.size := by have := hb1.size; have := HSZ.out; omega
        have hbx0 := (hb1.cell (p := ⟨w.heap.size, 2, none⟩) HSZ.out).trans HBX.out
        have hbx := (hb1.cell (p := ⟨w.heap.size, 0, none⟩) HSZ.out).trans HBX0.out
        clear hb1
        go_wp2_with fail
        go_loopw [4] (fun i wr => ∃ j : Nat, j ≤ of.length ∧ i = .int .i64 j ∧ Hid ((of.take j).all (allX rightX n) = true) ∧ Below w.heap.size w wr ∧ w.heap.size < wr.heap.size ∧ wr.cell? ⟨w.heap.size, 2, none⟩ = some (.slice a of.length c)) (fun i _ => of.length - (intOf i).toNat)
        case atStart => exact ⟨0, Nat.zero_le _, rfl, by simp [Hid], HBW0.out, hsz0, hbx0⟩
        case round =>
          obtain ⟨j, hj, rfl, HT, hbw, hsz, hbox2⟩ := hrel
          have HBW := Lib.hid hbw
          by_cases hlt : j < of.length
          · have hltI : ((j : Nat) : Int) < ((of.length : Nat) : Int) := by omega
            obtain ⟨b, off, k', a1', l1', c1', a2', l2', c2', lo', ls', hi', hs', op', rfl, hbl, c0, d1, c2, c3, c4, c5, c6, c7, hr⟩ := (XRow.up HR.out hbw (Nat.le_refl _)).at j hlt
            have hz := hbw.size
            have hbl' : b < wr.heap.size := by omega
            have HC := Lib.hid (HIH.out of[j] _ wr (hr.up (Below.refl _ _) hz))
            have HTK := Lib.hid (all_take_succ (allX rightX n) of j hlt)
            have HF : Hid ((allX rightX n) of[j] = false → of.all (allX rightX n) = false) := fun h => List.all_eq_false.2 ⟨_, List.getElem_mem hlt, by simp [h]⟩
            clear hr hbw
            cases qq : (allX rightX n) of[j] with
            | true =>
              have HT' : Hid ((of.take (j + 1)).all (allX rightX n) = true) := by rw [Hid, HTK.out, HT.out]; simp [qq]
              rw [qq] at HC
              clear qq
              go_wp2_with fail
              refine HC.out.mono ?_
              rintro e w3 ⟨rfl, hb3⟩
              have HB3 := Lib.hid (HBW.out.trans (hb3.mono hz))
              have hsz3 : w.heap.size < w3.heap.size := by have := hb3.size; omega
              have gbox2 := (hb3.cell (p := ⟨w.heap.size, 2, none⟩) hsz).trans hbox2
              clear hb3
              go_wp2_with fail
              go_roundw
              case rel => exact ⟨j + 1, by omega, by go_num, HT', HB3.out, hsz3, gbox2⟩
              case measure => simp [intOf]; omega
            | false =>
              have HNO := Lib.hid (HF.out qq)
              rw [qq] at HC
              clear qq
              go_wp2_with fail
              refine HC.out.mono ?_
              rintro e w3 ⟨rfl, hb3⟩
              have HB3 := Lib.hid (HBW.out.trans (hb3.mono hz))
              clear hb3
              go_wp2_with fail
              all_goals go_ret
              all_goals exact ⟨ret_bool' (by rw [HA.out, HNO.out, Bool.and_false]), HB3.out⟩
          · have hje : j = of.length := by omega
            subst hje
            have hltI : ¬ ((of.length : Nat) : Int) < ((of.length : Nat) : Int) := by omega
            have HALL : Hid (of.all (allX rightX n) = true) := by have h := HT.out; rw [List.take_length] at h; exact h
            clear HT
            go_wp2_with fail
            all_goals go_ret
            all_goals exact ⟨ret_bool' (by rw [HA.out, HQ.out, HALL.out]; rfl), HBW.out⟩
      | false =>
        have HQ : Hid (rightX 6 is of.length ⟨lo, ls, hi, hs, op⟩ = false) := by rw [Hid, H1.out, qm]; simp
        have HI' := HI
        rw [qm] at HI'
        clear qm hl hl2 H1 HI
        go_enter Tryz.func81, Tryz.ntmps81
        go_wp2_with fail
        refine HI'.out.mono ?_
        rintro e w1 ⟨rfl, hb1⟩
        have HB1 := Lib.hid (HB0.out.trans (hb1.mono HB0.out.size))
        clear hb1
        go_wp2_with fail
        all_goals go_ret
        all_goals exact ⟨ret_bool' (by rw [HA.out, HQ.out, Bool.false_and]), HB1.out⟩
    · have g2 : (((of.length : Nat) : Int) != 1) = true := by rw [bne_iff_ne]; omega
      have HQ : Hid (rightX 6 is of.length ⟨lo, ls, hi, hs, op⟩ = false) := by
        have : (of.length == 1) = false := by simpa using hl2
        rw [Hid, H1.out, this]; simp
      clear hl hl2 H1
      go_enter Tryz.func81, Tryz.ntmps81
      go_wp2_with fail
      all_goals go_ret
      all_goals exact ⟨ret_bool' (by rw [HA.out, HQ.out, Bool.false_and]), HB0.out⟩
  · have g1 : (((is.length : Nat) : Int) != 0) = true := by rw [bne_iff_ne]; omega
    have HQ : Hid (rightX 6 is of.length ⟨lo, ls, hi, hs, op⟩ = false) := by
      have : (is.length == 0) = false := by simpa using hl
      rw [Hid, H1.out, this]; rfl
    clear hl H1
    go_enter Tryz.func81, Tryz.ntmps81
    go_wp2_with fail
    all_goals go_ret
    all_goals exact ⟨ret_bool' (by rw [HA.out, HQ.out, Bool.false_and]), HB0.out⟩
theorem right81_any (m n : Nat) : RightC m n := by
  induction n with
  | zero => intro t v w h; exact h.elim
  | succ n ih =>
    intro t v w h
    obtain ⟨k, is, of, lo, ls, hi, hs, op⟩ := t
    obtain ⟨a1, c1, a, c, rfl, hR1, hR⟩ := h
    dsimp only at hR hR1 ⊢
    have hk : (k < 1 ∨ 6 < k) ∨ k = 1 ∨ k = 2 ∨ k = 3 ∨ k = 4 ∨ k = 5 ∨ k = 6 := by omega
    rcases hk with h | rfl | rfl | rfl | rfl | rfl | rfl
    · exact right81_out m n ih k h is of a1 a c1 c lo hi ls hs op w hR1 hR
    · exact right81_one m n ih is of a1 a c1 c lo hi ls hs op w hR1 hR
    · exact right81_2 m n ih is of a1 a c1 c lo hi ls hs op w hR1 hR
    · exact right81_3 m n ih is of a1 a c1 c lo hi ls hs op w hR1 hR
    · exact right81_4 m n ih is of a1 a c1 c lo hi ls hs op w hR1 hR
    · exact right81_5 m n ih is of a1 a c1 c lo hi ls hs op w hR1 hR
    · exact right81_6 m n ih is of a1 a c1 c lo hi ls hs op w hR1 hR
end Go.Proofs.YtpgdplmndnopbaaGreatDoor

/- The book of layer 16: nodes, and what is wrong with an expression. (Printed by gen_bkg.py.) -/
namespace Go.Proofs.YtpgdplmndnopbaaGreatDoor
open Go.RowKit

theorem szL_sum {α : Type} (f : α → Int → Int) (g : α → Nat) (most : Int) (hm : most ≤ 1048576) : ∀ (l : List α) (n : Int), (∀ x ∈ l, ∀ k : Int, k ≤ 1048576 → (g x : Int) ≤ k → f x k = g x) → 0 ≤ n → n + (l.map g).sum ≤ most →
    szL f most l n = n + (l.map g).sum
  | [], n, _, _, _ => by simp [szL]
  | x :: r, n, H, h0, h1 => by
    simp only [List.map_cons, List.sum_cons] at h1 ⊢
    push_cast at h1 ⊢
    rw [szL, if_pos (by omega)]
    have hw : wrap64 (most - n) = most - n := by unfold wrap64; omega
    have hf := H x (by simp) (most - n) (by omega) (by omega)
    rw [hw, hf]
    have hw2 : wrap64 (n + (g x : Int)) = n + g x := by unfold wrap64; omega
    rw [hw2, szL_sum f g most hm r (n + g x) (fun y hy => H y (by simp [hy])) (by omega) (by omega)]
    omega
theorem nodesF_n : ∀ (n : Nat) (t : FT n) (most : Int), most ≤ 1048576 → (nF n t : Int) ≤ most → nodesF n t most = nF n t
  | 0, t, _, _, _ => nomatch t
  | n + 1, t, most, hm, h => by
    rw [nF] at h ⊢
    rw [nodesF, szL_sum (nodesF n) (nF n) most hm t.2.2 1 (fun x _ k hk hx => nodesF_n n x k hk hx) (by omega) (by push_cast at h ⊢; omega)]
    push_cast; rfl
theorem nodesF_cnt (n : Nat) (t : FT n) (h : nF n t ≤ 1000000) : nodesF n t 1048576 = cntF n t := by
  rw [nodesF_n n t _ (by omega) (by omega), cntF_n n t h]
def ManyC (m n : Nat) : Prop := ∀ (t : XT m n) (v : Value) (w : World), nX n t ≤ 1000000 → XRep w w.heap.size m n t v →
    Calls Tryz.prog 82 #[v] w fun e w' => e = .returned (.int .i64 (manyX n t)) ∧ Below w.heap.size w w'
set_option maxRecDepth 100000 in
set_option maxHeartbeats 8000000 in
theorem many82_one (m n : Nat) (ih : ManyC m n) (is : List (FT m)) (of : List (XT m n)) (a1 a : Option Addr) (c1 c : Nat) (lo hi : Int) (ls hs op : Bool) (w : World) (hR1 : FRow w w.heap.size m a1 is) (hR : XRow w w.heap.size m n a of)
    (hx : nX (n + 1) ((1, is, of, ⟨lo, ls, hi, hs, op⟩) : XT m (n + 1)) ≤ 1000000) :
    Calls Tryz.prog 82 #[.agg #[.int .u8 1, .slice a1 is.length c1, .slice a of.length c, .int .i64 lo, .bool ls, .int .i64 hi, .bool hs, .bool op]] w fun e w' => e = .returned (.int .i64 (manyX (n + 1) ((1, is, of, ⟨lo, ls, hi, hs, op⟩) : XT m (n + 1)))) ∧ Below w.heap.size w w' := by
  have hm := hR.1
  have hm1 := hR1.1
  have HR := Lib.hid hR
  have HR1 := Lib.hid hR1
  have HIH := Lib.hid ih
  have hb0 : Below w.heap.size w (w.alloc (.cells #[.int .u8 1, .slice a1 is.length c1, .slice a of.length c, .int .i64 lo, .bool ls, .int .i64 hi, .bool hs, .bool op] 28)) := (Below.refl _ w).alloc (Nat.le_refl _) _
  have HB0 := Lib.hid hb0
  have HA : Hid (manyX (n + 1) ((1, is, of, ⟨lo, ls, hi, hs, op⟩) : XT m (n + 1)) = foldC (manyX n) (oneX 1 is) of) := rfl
  have HNX : Hid (∀ x ∈ of, nX n x ≤ 1000000) := by
    intro x h
    have := le_sum (nX n) of x h
    have hx : (if (1 : Int) = 1 then (is.map (nF m)).sum else 1) + (of.map (nX n)).sum ≤ 1000000 := hx
    omega
  have HNF : Hid (∀ x ∈ is, nodesF m x 1048576 = cntF m x) := by
    intro x h
    have := le_sum (nF m) is x h
    have hx : (is.map (nF m)).sum + (of.map (nX n)).sum ≤ 1000000 := hx
    exact nodesF_cnt m x (by omega)
  have HN130 : Hid (∀ (x : FT m) (v : Value) (w : World), x ∈ is → FRep w w.heap.size m x v → Calls Tryz.prog 130 #[v, .int .i64 1048576] w fun e w' => e = .returned (.int .i64 (cntF m x)) ∧ Below w.heap.size w w') := by
    intro x v w hx h
    rw [← HNF.out x hx]
    exact nodes130_any m x v 1048576 w h
  clear hR hR1 ih hb0 hx HNF
  go_enter Tryz.func82, Tryz.ntmps82
  go_wp2_with fail
  go_loopw [3, 4] (fun q i wr => ∃ (j : Nat) (z : Int), j ≤ is.length ∧ i = .int .i64 j ∧ q = .int .i64 z ∧ Hid (foldC (cntF m) 0 (is.take j) = z) ∧ Below w.heap.size w wr ∧ w.heap.size < wr.heap.size ∧ wr.cell? ⟨w.heap.size, 0, none⟩ = some (.int .u8 1) ∧ wr.cell? ⟨w.heap.size, 1, none⟩ = some (.slice a1 is.length c1) ∧ wr.cell? ⟨w.heap.size, 2, none⟩ = some (.slice a of.length c)) (fun _ i _ => is.length - (intOf i).toNat)
  case atStart => exact ⟨0, _, Nat.zero_le _, rfl, rfl, rfl, HB0.out, by simp, by simp [World.cell?_alloc_at], by simp [World.cell?_alloc_at], by simp [World.cell?_alloc_at]⟩
  case round =>
    obtain ⟨j, z, hj, rfl, rfl, HT, hbw, hsz, hbox0, hbox1, hbox2⟩ := hrel
    have HBW := Lib.hid hbw
    by_cases hlt : j < is.length
    · have hltI : ((j : Nat) : Int) < ((is.length : Nat) : Int) := by omega
      obtain ⟨b, off, k', s', sa, sl, sc, rfl, hbl, c0, c1, c2, hr⟩ := (FRow.up HR1.out hbw (Nat.le_refl _)).at j hlt
      have hz := hbw.size
      have hbl' : b < wr.heap.size := by omega
      have HC := Lib.hid (HN130.out is[j] _ wr (List.getElem_mem hlt) (hr.up (Below.refl _ _) hz))
      have HS := Lib.hid (foldC_succ (cntF m) 0 is j hlt)
      clear hr hbw
      generalize (cntF m) is[j] = y at HC HS
      have HT' : Hid (foldC (cntF m) 0 (is.take (j + 1)) = wrap64 (z + y)) := by rw [Hid, HS.out, HT.out]
      go_wp2_with fail
      refine HC.out.mono ?_
      rintro e w3 ⟨rfl, hb3⟩
      have HB3 := Lib.hid (HBW.out.trans (hb3.mono hz))
      have hsz3 : w.heap.size < w3.heap.size := by have := hb3.size; omega
      have gbox0 := (hb3.cell (p := ⟨w.heap.size, 0, none⟩) hsz).trans hbox0
      have gbox1 := (hb3.cell (p := ⟨w.heap.size, 1, none⟩) hsz).trans hbox1
      have gbox2 := (hb3.cell (p := ⟨w.heap.size, 2, none⟩) hsz).trans hbox2
      clear hb3
      go_wp2_with fail
      go_roundw
      case rel => exact ⟨j + 1, _, by omega, by go_num, rfl, HT', HB3.out, hsz3, gbox0, gbox1, gbox2⟩
      case measure => simp [intOf]; omega
    · have hje : j = is.length := by omega
      subst hje
      have hltI : ¬ ((is.length : Nat) : Int) < ((is.length : Nat) : Int) := by omega
      have HALL : Hid (foldC (cntF m) 0 is = z) := by have h := HT.out; rw [List.take_length] at h; exact h
      clear HT
      have HO : Hid (foldC (manyX n) (oneX 1 is) (of.take 0) = z) := HALL.out
      clear HALL hbw
      go_wp2_with fail
      go_loopw [3, 5] (fun q i wr => ∃ (j : Nat) (z : Int), j ≤ of.length ∧ i = .int .i64 j ∧ q = .int .i64 z ∧ Hid (foldC (manyX n) (oneX 1 is) (of.take j) = z) ∧ Below w.heap.size w wr ∧ w.heap.size < wr.heap.size ∧ wr.cell? ⟨w.heap.size, 2, none⟩ = some (.slice a of.length c)) (fun _ i _ => of.length - (intOf i).toNat)
      case atStart => exact ⟨0, _, Nat.zero_le _, rfl, rfl, HO, HBW.out, hsz, hbox2⟩
      case round =>
        clear HBW HO hsz hj hbox2
        try clear hbox0
        try clear hbox1
        try clear hltI
        obtain ⟨j, z, hj, rfl, rfl, HT, hbw, hsz, hbox2⟩ := hrel
        have HBW := Lib.hid hbw
        by_cases hlt : j < of.length
        · have hltI : ((j : Nat) : Int) < ((of.length : Nat) : Int) := by omega
          obtain ⟨b, off, k', a1', l1', c1', a2', l2', c2', lo', ls', hi', hs', op', rfl, hbl, c0, d1, c2, c3, c4, c5, c6, c7, hr⟩ := (XRow.up HR.out hbw (Nat.le_refl _)).at j hlt
          have hz := hbw.size
          have hbl' : b < wr.heap.size := by omega
          have HC := Lib.hid (HIH.out of[j] _ wr (HNX.out _ (List.getElem_mem hlt)) (hr.up (Below.refl _ _) hz))
          have HS := Lib.hid (foldC_succ (manyX n) (oneX 1 is) of j hlt)
          clear hr hbw
          generalize (manyX n) of[j] = y at HC HS
          have HT' : Hid (foldC (manyX n) (oneX 1 is) (of.take (j + 1)) = wrap64 (z + y)) := by rw [Hid, HS.out, HT.out]
          go_wp2_with fail
          refine HC.out.mono ?_
          rintro e w3 ⟨rfl, hb3⟩
          have HB3 := Lib.hid (HBW.out.trans (hb3.mono hz))
          have hsz3 : w.heap.size < w3.heap.size := by have := hb3.size; omega
          have gbox2 := (hb3.cell (p := ⟨w.heap.size, 2, none⟩) hsz).trans hbox2
          clear hb3
          go_wp2_with fail
          go_roundw
          case rel => exact ⟨j + 1, _, by omega, by go_num, rfl, HT', HB3.out, hsz3, gbox2⟩
          case measure => simp [intOf]; omega
        · have hje : j = of.length := by omega
          subst hje
          have hltI : ¬ ((of.length : Nat) : Int) < ((of.length : Nat) : Int) := by omega
          have HALL : Hid (foldC (manyX n) (oneX 1 is) of = z) := by have h := HT.out; rw [List.take_length] at h; exact h
          clear HT
          go_wp2_with fail
          all_goals go_ret
          all_goals exact ⟨ret_i (by rw [HA.out, HALL.out]), HBW.out⟩
set_option maxRecDepth 100000 in
set_option maxHeartbeats 8000000 in
theorem many82_other (m n : Nat) (ih : ManyC m n) (k : Int) (hk : k ≠ 1) (is : List (FT m)) (of : List (XT m n)) (a1 a : Option Addr) (c1 c : Nat) (lo hi : Int) (ls hs op : Bool) (w : World) (hR1 : FRow w w.heap.size m a1 is) (hR : XRow w w.heap.size m n a of)
    (hx : nX (n + 1) ((k, is, of, ⟨lo, ls, hi, hs, op⟩) : XT m (n + 1)) ≤ 1000000) :
    Calls Tryz.prog 82 #[.agg #[.int .u8 k, .slice a1 is.length c1, .slice a of.length c, .int .i64 lo, .bool ls, .int .i64 hi, .bool hs, .bool op]] w fun e w' => e = .returned (.int .i64 (manyX (n + 1) ((k, is, of, ⟨lo, ls, hi, hs, op⟩) : XT m (n + 1)))) ∧ Below w.heap.size w w' := by
  have hm := hR.1
  have hm1 := hR1.1
  have HR := Lib.hid hR
  have HR1 := Lib.hid hR1
  have HIH := Lib.hid ih
  have hb0 : Below w.heap.size w (w.alloc (.cells #[.int .u8 k, .slice a1 is.length c1, .slice a of.length c, .int .i64 lo, .bool ls, .int .i64 hi, .bool hs, .bool op] 28)) := (Below.refl _ w).alloc (Nat.le_refl _) _
  have HB0 := Lib.hid hb0
  have HA : Hid (manyX (n + 1) ((k, is, of, ⟨lo, ls, hi, hs, op⟩) : XT m (n + 1)) = foldC (manyX n) (oneX k is) of) := rfl
  have HNX : Hid (∀ x ∈ of, nX n x ≤ 1000000) := by
    intro x h
    have := le_sum (nX n) of x h
    have hx : (if (k : Int) = 1 then (is.map (nF m)).sum else 1) + (of.map (nX n)).sum ≤ 1000000 := hx
    omega
  have q1 : (k == 1) = false := by simpa using hk
  have HO1 : Hid (oneX k is = 1) := by rw [Hid]; unfold oneX; rw [if_neg hk]
  have HO : Hid (foldC (manyX n) (oneX k is) (of.take 0) = 1) := HO1.out
  clear hR hR1 ih hb0 hx hk HO1
  go_enter Tryz.func82, Tryz.ntmps82
  go_wp2_with fail
  go_loopw [3, 4] (fun q i wr => q = .int .i64 1 ∧ i = .int .i64 0 ∧ wr = w.alloc (.cells #[.int .u8 k, .slice a1 is.length c1, .slice a of.length c, .int .i64 lo, .bool ls, .int .i64 hi, .bool hs, .bool op] 28)) (fun _ _ _ => 0)
  case atStart => exact ⟨rfl, rfl, rfl⟩
  case round =>
    obtain ⟨rfl, rfl, rfl⟩ := hrel
    have hbox2 : (w.alloc (.cells #[.int .u8 k, .slice a1 is.length c1, .slice a of.length c, .int .i64 lo, .bool ls, .int .i64 hi, .bool hs, .bool op] 28)).cell? ⟨w.heap.size, 2, none⟩ = some (.slice a of.length c) := by simp [World.cell?_alloc_at]
    have hsz : w.heap.size < (w.alloc (.cells #[.int .u8 k, .slice a1 is.length c1, .slice a of.length c, .int .i64 lo, .bool ls, .int .i64 hi, .bool hs, .bool op] 28)).heap.size := by simp
    have hj : True := trivial
    have HBW := HB0
    have hc : (0 : Int) < ((is.length : Nat) : Int) ∨ ¬ (0 : Int) < ((is.length : Nat) : Int) := by omega
    rcases hc with hc | hc
    all_goals
      go_wp2_with fail
      go_loopw [3, 5] (fun q i wr => ∃ (j : Nat) (z : Int), j ≤ of.length ∧ i = .int .i64 j ∧ q = .int .i64 z ∧ Hid (foldC (manyX n) (oneX k is) (of.take j) = z) ∧ Below w.heap.size w wr ∧ w.heap.size < wr.heap.size ∧ wr.cell? ⟨w.heap.size, 2, none⟩ = some (.slice a of.length c)) (fun _ i _ => of.length - (intOf i).toNat)
      case atStart => exact ⟨0, _, Nat.zero_le _, rfl, rfl, HO, HBW.out, hsz, hbox2⟩
      case round =>
        clear HBW HO hsz hj hbox2
        try clear hbox0
        try clear hbox1
        try clear hltI
        obtain ⟨j, z, hj, rfl, rfl, HT, hbw, hsz, hbox2⟩ := hrel
        have HBW := Lib.hid hbw
        by_cases hlt : j < of.length
        · have hltI : ((j : Nat) : Int) < ((of.length : Nat) : Int) := by omega
          obtain ⟨b, off, k', a1', l1', c1', a2', l2', c2', lo', ls', hi', hs', op', rfl, hbl, c0, d1, c2, c3, c4, c5, c6, c7, hr⟩ := (XRow.up HR.out hbw (Nat.le_refl _)).at j hlt
          have hz := hbw.size
          have hbl' : b < wr.heap.size := by omega
          have HC := Lib.hid (HIH.out of[j] _ wr (HNX.out _ (List.getElem_mem hlt)) (hr.up (Below.refl _ _) hz))
          have HS := Lib.hid (foldC_succ (manyX n) (oneX k is) of j hlt)
          clear hr hbw
          generalize (manyX n) of[j] = y at HC HS
          have HT' : Hid (foldC (manyX n) (oneX k is) (of.take (j + 1)) = wrap64 (z + y)) := by rw [Hid, HS.out, HT.out]
          go_wp2_with fail
          refine HC.out.mono ?_
          rintro e w3 ⟨rfl, hb3⟩
          have HB3 := Lib.hid (HBW.out.trans (hb3.mono hz))
          have hsz3 : w.heap.size < w3.heap.size := by have := hb3.size; omega
          have gbox2 := (hb3.cell (p := ⟨w.heap.size, 2, none⟩) hsz).trans hbox2
          clear hb3
          go_wp2_with fail
          go_roundw
          case rel => exact ⟨j + 1, _, by omega, by go_num, rfl, HT', HB3.out, hsz3, gbox2⟩
          case measure => simp [intOf]; omega
        · have hje : j = of.length := by omega
          subst hje
          have hltI : ¬ ((of.length : Nat) : Int) < ((of.length : Nat) : Int) := by omega
          have HALL : Hid (foldC (manyX n) (oneX k is) of = z) := by have h := HT.out; rw [List.take_length] at h; exact h
          clear HT
          go_wp2_with fail
          all_goals go_ret
          all_goals exact ⟨ret_i (by rw [HA.out, HALL.out]), HBW.out⟩
theorem many82_any (m n : Nat) : ManyC m n := by
  induction n with
  | zero => intro t v w _ h; exact h.elim
  | succ n ih =>
    intro t v w hx h
    obtain ⟨k, is, of, lo, ls, hi, hs, op⟩ := t
    obtain ⟨a1, c1, a, c, rfl, hR1, hR⟩ := h
    dsimp only at hR hR1 ⊢
    by_cases hk : k = 1
    · subst hk
      exact many82_one m n ih is of a1 a c1 c lo hi ls hs op w hR1 hR hx
    · exact many82_other m n ih k hk is of a1 a c1 c lo hi ls hs op w hR1 hR hx
theorem emptyX_open {m : Nat} : ∀ (n : Nat) (t : XT m n), allX rightX n t = true → allX openX n t = !emptyX n t
  | 0, t, _ => nomatch t
  | n + 1, t, h => by
    obtain ⟨k, is, of, i⟩ := t
    have h : (rightX k is of.length i && of.all (allX rightX n)) = true := h
    show (openX k is of.length i && of.all (allX openX n)) = !((k == 6 && empI i) || of.any (emptyX n))
    rw [Bool.and_eq_true, List.all_eq_true] at h
    obtain ⟨h1, h2⟩ := h
    have e1 : openX k is of.length i = !(k == 6 && empI i) := by
      unfold openX
      by_cases hk : k = 6
      · subst hk
        rw [rightX_six] at h1
        simp only [Bool.and_eq_true] at h1
        rw [ivR_two, h1.2]
        cases empI i <;> rfl
      · have : (k == 6) = false := by simpa using hk
        have hn : (k != 6) = true := by simp [bne, this]
        rw [this, hn]; rfl
    have e2 : of.all (allX openX n) = !of.any (emptyX n) := by
      rw [List.not_any_eq_all_not]
      rw [Bool.eq_iff_iff, List.all_eq_true, List.all_eq_true]
      exact ⟨fun H x hx => by rw [← emptyX_open n x (h2 x hx)]; exact H x hx, fun H x hx => by rw [emptyX_open n x (h2 x hx)]; exact H x hx⟩
    rw [e1, e2, Bool.not_or]
set_option maxRecDepth 100000 in
set_option maxHeartbeats 8000000 in
theorem check39_any (names : List ByteArray) (nv : Value) (hs0 : ∀ s ∈ names, s.size ≤ 4611686018427387904) (m n : Nat) (t : XT m n) (v : Value) (w : World) (hx : nX n t ≤ 1000000) (hn : NRep w w.heap.size nv names) (h : XRep w w.heap.size m n t v) :
    Calls Tryz.prog 39 #[nv, v] w fun e w' => e = .returned (.int .i64 (checkR names n t)) ∧ Below w.heap.size w w' := by
  have HN := Lib.hid hn
  have HXR := Lib.hid h
  obtain ⟨k, a1, l1, c1, a, l, c, lo, ls, hi, hs, op, rfl⟩ := h.shape
  have hb0 : Below w.heap.size w (w.alloc (.cells #[.int .u8 k, .slice a1 l1 c1, .slice a l c, .int .i64 lo, .bool ls, .int .i64 hi, .bool hs, .bool op] 28)) := (Below.refl _ w).alloc (Nat.le_refl _) _
  have HB0 := Lib.hid hb0
  have HCELLS : Hid (∀ W, Below (w.heap.size + 1) (w.alloc (.cells #[.int .u8 k, .slice a1 l1 c1, .slice a l c, .int .i64 lo, .bool ls, .int .i64 hi, .bool hs, .bool op] 28)) W → W.heap[w.heap.size]? = some (.cells #[.int .u8 k, .slice a1 l1 c1, .slice a l c, .int .i64 lo, .bool ls, .int .i64 hi, .bool hs, .bool op] 28 (0, 0))) := by
    intro W hW
    rw [hW.block _ (by omega)]
    exact heap_top rfl
  have HM := Lib.hid (mayNames46_any names nv hs0 (w.alloc (.cells #[.int .u8 k, .slice a1 l1 c1, .slice a l c, .int .i64 lo, .bool ls, .int .i64 hi, .bool hs, .bool op] 28)) (hn.up hb0 hb0.size))
  have HR81 : Hid (∀ W, Below w.heap.size w W → Calls Tryz.prog 81 #[.agg #[.int .u8 k, .slice a1 l1 c1, .slice a l c, .int .i64 lo, .bool ls, .int .i64 hi, .bool hs, .bool op]] W fun e w' => e = .returned (.bool (allX rightX n t)) ∧ Below W.heap.size W w') := fun W hW => right81_any m n t _ W (HXR.out.up hW hW.size)
  have HM82 : Hid (∀ W, Below w.heap.size w W → Calls Tryz.prog 82 #[.agg #[.int .u8 k, .slice a1 l1 c1, .slice a l c, .int .i64 lo, .bool ls, .int .i64 hi, .bool hs, .bool op]] W fun e w' => e = .returned (.int .i64 (manyX n t)) ∧ Below W.heap.size W w') := fun W hW => many82_any m n t _ W hx (HXR.out.up hW hW.size)
  have HK83 : Hid (∀ W, Below w.heap.size w W → Calls Tryz.prog 83 #[nv, .agg #[.int .u8 k, .slice a1 l1 c1, .slice a l c, .int .i64 lo, .bool ls, .int .i64 hi, .bool hs, .bool op]] W fun e w' => e = .returned (.bool (allX (namesX names) n t)) ∧ Below W.heap.size W w') := fun W hW => known83_any names nv w HN.out m n t _ W (HXR.out.up hW hW.size) hW
  have HE84 : Hid (∀ W, Below w.heap.size w W → Calls Tryz.prog 84 #[.agg #[.int .u8 k, .slice a1 l1 c1, .slice a l c, .int .i64 lo, .bool ls, .int .i64 hi, .bool hs, .bool op]] W fun e w' => e = .returned (.bool (emptyX n t)) ∧ Below W.heap.size W w') := fun W hW => empty84_any m n t _ W (HXR.out.up hW hW.size)
  have HR : Hid (checkR names n t = if decide (namesR names = 0) = false then 2 else if allX rightX n t = false then 8 else if 64 < manyX n t then 160 else if allX (namesX names) n t = false then 161 else if emptyX n t = true then 162 else 0) := by
    rw [Hid]
    unfold checkR
    by_cases q1 : namesR names = 0
    · cases q2 : allX rightX n t with
      | false => simp [q1]
      | true => simp [q1, emptyX_open n t q2]
    · simp [q1]
  clear hb0 h hn hx hs0
  generalize checkR names n t = res at HR ⊢
  generalize decide (namesR names = 0) = b1 at HM HR
  generalize allX rightX n t = b2 at HR81 HR
  generalize manyX n t = z3 at HM82 HR
  generalize allX (namesX names) n t = b4 at HK83 HR
  generalize emptyX n t = b5 at HE84 HR
  cases b1 with
  | false =>
    have HR' : Hid (res = 2) := HR.out
    clear HR
    go_enter Tryz.func39, Tryz.ntmps39
    go_wp2_with fail
    refine HM.out.mono ?_
    rintro e w1 ⟨rfl, rfl⟩
    go_wp2_with fail
    all_goals go_ret
    all_goals exact ⟨ret_i (by rw [HR'.out]), HB0.out⟩
  | true =>
    cases b2 with
    | false =>
      have HR' : Hid (res = 8) := HR.out
      have HC := Lib.hid (HR81.out _ HB0.out)
      clear HR
      go_enter Tryz.func39, Tryz.ntmps39
      go_wp2_with fail
      refine HM.out.mono ?_
      rintro e w1 ⟨rfl, rfl⟩
      go_wp2_with fail
      refine HC.out.mono ?_
      rintro e w1 ⟨rfl, hb1⟩
      have HB1 := Lib.hid (HB0.out.trans (hb1.mono HB0.out.size))
      clear hb1
      go_wp2_with fail
      all_goals go_ret
      all_goals exact ⟨ret_i (by rw [HR'.out]), HB1.out⟩
    | true =>
      have HC := Lib.hid (HR81.out _ HB0.out)
      by_cases q3 : 64 < z3
      · have HR' : Hid (res = 160) := by rw [Hid, HR.out, if_neg (by simp), if_neg (by simp), if_pos q3]
        clear HR
        go_enter Tryz.func39, Tryz.ntmps39
        go_wp2_with fail
        refine HM.out.mono ?_
        rintro e w1 ⟨rfl, rfl⟩
        go_wp2_with fail
        refine HC.out.mono ?_
        rintro e w1 ⟨rfl, hb1⟩
        have HB1 := Lib.hid (HB0.out.trans (hb1.mono HB0.out.size))
        have HT1 : Hid (Below (w.heap.size + 1) (w.alloc (.cells #[.int .u8 k, .slice a1 l1 c1, .slice a l c, .int .i64 lo, .bool ls, .int .i64 hi, .bool hs, .bool op] 28)) w1) := hb1.mono (by simp)
        have hk1 := HCELLS.out _ HT1.out
        have x10 := Lib.cell_of_heap hk1 0
        have x11 := Lib.cell_of_heap hk1 1
        have x12 := Lib.cell_of_heap hk1 2
        have x13 := Lib.cell_of_heap hk1 3
        have x14 := Lib.cell_of_heap hk1 4
        have x15 := Lib.cell_of_heap hk1 5
        have x16 := Lib.cell_of_heap hk1 6
        have x17 := Lib.cell_of_heap hk1 7
        simp only [List.getElem?_toArray, List.getElem?_cons_zero, List.getElem?_cons_succ] at x10 x11 x12 x13 x14 x15 x16 x17
        have hsz1 : w.heap.size < w1.heap.size := by have := HT1.out.size; simp at this; omega
        clear hk1 hb1
        have HC2 := Lib.hid (HM82.out _ HB1.out)
        go_wp2_with fail
        refine HC2.out.mono ?_
        rintro e w2 ⟨rfl, hb2⟩
        have HB2 := Lib.hid (HB1.out.trans (hb2.mono HB1.out.size))
        clear hb2
        go_wp2_with fail
        all_goals go_ret
        all_goals exact ⟨ret_i (by rw [HR'.out]), HB2.out⟩
      · cases b4 with
        | false =>
          have HR' : Hid (res = 161) := by rw [Hid, HR.out, if_neg (by simp), if_neg (by simp), if_neg q3]; rfl
          clear HR
          go_enter Tryz.func39, Tryz.ntmps39
          go_wp2_with fail
          refine HM.out.mono ?_
          rintro e w1 ⟨rfl, rfl⟩
          go_wp2_with fail
          refine HC.out.mono ?_
          rintro e w1 ⟨rfl, hb1⟩
          have HB1 := Lib.hid (HB0.out.trans (hb1.mono HB0.out.size))
          have HT1 : Hid (Below (w.heap.size + 1) (w.alloc (.cells #[.int .u8 k, .slice a1 l1 c1, .slice a l c, .int .i64 lo, .bool ls, .int .i64 hi, .bool hs, .bool op] 28)) w1) := hb1.mono (by simp)
          have hk1 := HCELLS.out _ HT1.out
          have x10 := Lib.cell_of_heap hk1 0
          have x11 := Lib.cell_of_heap hk1 1
          have x12 := Lib.cell_of_heap hk1 2
          have x13 := Lib.cell_of_heap hk1 3
          have x14 := Lib.cell_of_heap hk1 4
          have x15 := Lib.cell_of_heap hk1 5
          have x16 := Lib.cell_of_heap hk1 6
          have x17 := Lib.cell_of_heap hk1 7
          simp only [List.getElem?_toArray, List.getElem?_cons_zero, List.getElem?_cons_succ] at x10 x11 x12 x13 x14 x15 x16 x17
          have hsz1 : w.heap.size < w1.heap.size := by have := HT1.out.size; simp at this; omega
          clear hk1 hb1
          have HC2 := Lib.hid (HM82.out _ HB1.out)
          go_wp2_with fail
          refine HC2.out.mono ?_
          rintro e w2 ⟨rfl, hb2⟩
          have HB2 := Lib.hid (HB1.out.trans (hb2.mono HB1.out.size))
          have HT2 : Hid (Below (w.heap.size + 1) (w.alloc (.cells #[.int .u8 k, .slice a1 l1 c1, .slice a l c, .int .i64 lo, .bool ls, .int .i64 hi, .bool hs, .bool op] 28)) w2) := HT1.out.trans (hb2.mono (by have := HT1.out.size; simp at this; omega))
          have hk2 := HCELLS.out _ HT2.out
          have x20 := Lib.cell_of_heap hk2 0
          have x21 := Lib.cell_of_heap hk2 1
          have x22 := Lib.cell_of_heap hk2 2
          have x23 := Lib.cell_of_heap hk2 3
          have x24 := Lib.cell_of_heap hk2 4
          have x25 := Lib.cell_of_heap hk2 5
          have x26 := Lib.cell_of_heap hk2 6
          have x27 := Lib.cell_of_heap hk2 7
          simp only [List.getElem?_toArray, List.getElem?_cons_zero, List.getElem?_cons_succ] at x20 x21 x22 x23 x24 x25 x26 x27
          have hsz2 : w.heap.size < w2.heap.size := by have := HT2.out.size; simp at this; omega
          clear hk2 hb2
          clear x10 x11 x12 x13 x14 x15 x16 x17 hsz1
          have HC3 := Lib.hid (HK83.out _ HB2.out)
          go_wp2_with fail
          refine HC3.out.mono ?_
          rintro e w3 ⟨rfl, hb3⟩
          have HB3 := Lib.hid (HB2.out.trans (hb3.mono HB2.out.size))
          clear hb3
          go_wp2_with fail
          all_goals go_ret
          all_goals exact ⟨ret_i (by rw [HR'.out]), HB3.out⟩
        | true =>
          have HR' : Hid (res = if b5 = true then 162 else 0) := by rw [Hid, HR.out, if_neg (by simp), if_neg (by simp), if_neg q3, if_neg (by simp)]
          clear HR
          go_enter Tryz.func39, Tryz.ntmps39
          go_wp2_with fail
          refine HM.out.mono ?_
          rintro e w1 ⟨rfl, rfl⟩
          go_wp2_with fail
          refine HC.out.mono ?_
          rintro e w1 ⟨rfl, hb1⟩
          have HB1 := Lib.hid (HB0.out.trans (hb1.mono HB0.out.size))
          have HT1 : Hid (Below (w.heap.size + 1) (w.alloc (.cells #[.int .u8 k, .slice a1 l1 c1, .slice a l c, .int .i64 lo, .bool ls, .int .i64 hi, .bool hs, .bool op] 28)) w1) := hb1.mono (by simp)
          have hk1 := HCELLS.out _ HT1.out
          have x10 := Lib.cell_of_heap hk1 0
          have x11 := Lib.cell_of_heap hk1 1
          have x12 := Lib.cell_of_heap hk1 2
          have x13 := Lib.cell_of_heap hk1 3
          have x14 := Lib.cell_of_heap hk1 4
          have x15 := Lib.cell_of_heap hk1 5
          have x16 := Lib.cell_of_heap hk1 6
          have x17 := Lib.cell_of_heap hk1 7
          simp only [List.getElem?_toArray, List.getElem?_cons_zero, List.getElem?_cons_succ] at x10 x11 x12 x13 x14 x15 x16 x17
          have hsz1 : w.heap.size < w1.heap.size := by have := HT1.out.size; simp at this; omega
          clear hk1 hb1
          have HC2 := Lib.hid (HM82.out _ HB1.out)
          go_wp2_with fail
          refine HC2.out.mono ?_
          rintro e w2 ⟨rfl, hb2⟩
          have HB2 := Lib.hid (HB1.out.trans (hb2.mono HB1.out.size))
          have HT2 : Hid (Below (w.heap.size + 1) (w.alloc (.cells #[.int .u8 k, .slice a1 l1 c1, .slice a l c, .int .i64 lo, .bool ls, .int .i64 hi, .bool hs, .bool op] 28)) w2) := HT1.out.trans (hb2.mono (by have := HT1.out.size; simp at this; omega))
          have hk2 := HCELLS.out _ HT2.out
          have x20 := Lib.cell_of_heap hk2 0
          have x21 := Lib.cell_of_heap hk2 1
          have x22 := Lib.cell_of_heap hk2 2
          have x23 := Lib.cell_of_heap hk2 3
          have x24 := Lib.cell_of_heap hk2 4
          have x25 := Lib.cell_of_heap hk2 5
          have x26 := Lib.cell_of_heap hk2 6
          have x27 := Lib.cell_of_heap hk2 7
          simp only [List.getElem?_toArray, List.getElem?_cons_zero, List.getElem?_cons_succ] at x20 x21 x22 x23 x24 x25 x26 x27
          have hsz2 : w.heap.size < w2.heap.size := by have := HT2.out.size; simp at this; omega
          clear hk2 hb2
          clear x10 x11 x12 x13 x14 x15 x16 x17 hsz1
          have HC3 := Lib.hid (HK83.out _ HB2.out)
          go_wp2_with fail
          refine HC3.out.mono ?_
          rintro e w3 ⟨rfl, hb3⟩
          have HB3 := Lib.hid (HB2.out.trans (hb3.mono HB2.out.size))
          have HT3 : Hid (Below (w.heap.size + 1) (w.alloc (.cells #[.int .u8 k, .slice a1 l1 c1, .slice a l c, .int .i64 lo, .bool ls, .int .i64 hi, .bool hs, .bool op] 28)) w3) := HT2.out.trans (hb3.mono (by have := HT2.out.size; simp at this; omega))
          have hk3 := HCELLS.out _ HT3.out
          have x30 := Lib.cell_of_heap hk3 0
          have x31 := Lib.cell_of_heap hk3 1
          have x32 := Lib.cell_of_heap hk3 2
          have x33 := Lib.cell_of_heap hk3 3
          have x34 := Lib.cell_of_heap hk3 4
          have x35 := Lib.cell_of_heap hk3 5
          have x36 := Lib.cell_of_heap hk3 6
          have x37 := Lib.cell_of_heap hk3 7
          simp only [List.getElem?_toArray, List.getElem?_cons_zero, List.getElem?_cons_succ] at x30 x31 x32 x33 x34 x35 x36 x37
          have hsz3 : w.heap.size < w3.heap.size := by have := HT3.out.size; simp at this; omega
          clear hk3 hb3
          clear x20 x21 x22 x23 x24 x25 x26 x27 hsz2
          have HC4 := Lib.hid (HE84.out _ HB3.out)
          go_wp2_with fail
          refine HC4.out.mono ?_
          rintro e w4 ⟨rfl, hb4⟩
          have HB4 := Lib.hid (HB3.out.trans (hb4.mono HB3.out.size))
          clear hb4
          cases b5 with
          | true =>
            go_wp2_with fail
            all_goals go_ret
            all_goals exact ⟨ret_i (by rw [HR'.out]; rfl), HB4.out⟩
          | false =>
            go_wp2_with fail
            all_goals go_ret
            all_goals exact ⟨ret_i (by rw [HR'.out]; rfl), HB4.out⟩
end Go.Proofs.YtpgdplmndnopbaaGreatDoor

/- The book of layer 18: texts of formulas. (Printed by gen_bkh.py.) -/
namespace Go.Proofs.YtpgdplmndnopbaaGreatDoor
open Go.RowKit

theorem ret_s {a b : ByteArray} (h : a = b) : Ending.returned (.string a) = .returned (.string b) := by rw [h]
theorem byt_self (s : ByteArray) : byt s.data.toList = s := by unfold byt; simp
set_option maxRecDepth 100000 in
theorem low164_any (k : Int) (s : ByteArray) (x : Value) (w : World) : Calls Tryz.prog 164 #[.agg #[.int .u8 k, .string s, x]] w fun e w' => e = .returned (.int .i64 (lowF k)) ∧ Below w.heap.size w w' := by
  have hb : Below w.heap.size w (w.alloc (.cells #[.int .u8 k, .string s, x] 61)) := (Below.refl _ _).alloc (Nat.le_refl _) _
  have HB := Lib.hid hb
  clear hb
  go_enter Tryz.func164, Tryz.ntmps164
  go_wp2_with fail
  all_goals go_ret
  all_goals exact ⟨ret_i (by unfold lowF; simp_all), HB.out⟩
def TextF (n : Nat) : Prop := ∀ (t : FT n) (v : Value) (least : Nat) (li : Int) (w : World), li = (least : Int) → FRep w w.heap.size n t v → allF rightB n t = true → (prF n t least).length ≤ 1000000000000 →
  Calls Tryz.prog 134 #[v, .int .i64 li] w fun e w' => e = .returned (.string (byt (prF n t least))) ∧ Below w.heap.size w w'
set_option maxRecDepth 100000 in
set_option maxHeartbeats 8000000 in
theorem text134_in (n : Nat) (ih : TextF n) (k : Int) (s : ByteArray) (of : List (FT n)) (a : Option Addr) (c : Nat) (w : World) (hR : FRow w w.heap.size n a of) (hr1 : rightB k s of.length = true) (hr2 : ∀ x ∈ of, allF rightB n x = true)
    (li : Int) (hli : li ≤ lowF k) (hlen : (inF n (k, s, of)).length ≤ 1000000000000) :
    Calls Tryz.prog 134 #[.agg #[.int .u8 k, .string s, .slice a of.length c], .int .i64 li] w fun e w' => e = .returned (.string (byt (inF n (k, s, of)))) ∧ Below w.heap.size w w' := by
  have HLW := Lib.hid (low164_any k s (.slice a of.length c) (w.alloc (.cells #[.int .u8 k, .string s, .slice a of.length c] 61)))
  have hb0 : Below w.heap.size w (w.alloc (.cells #[.int .u8 k, .string s, .slice a of.length c] 61)) := (Below.refl _ w).alloc (Nat.le_refl _) _
  have HB0 := Lib.hid hb0
  have HCELLS : Hid (∀ W, Below (w.heap.size + 1) (w.alloc (.cells #[.int .u8 k, .string s, .slice a of.length c] 61)) W → W.heap[w.heap.size]? = some (.cells #[.int .u8 k, .string s, .slice a of.length c] 61 (0, 0))) := by
    intro W hW
    rw [hW.block _ (by omega)]
    exact heap_top rfl
  have HSZ : Hid ((w.alloc (.cells #[.int .u8 k, .string s, .slice a of.length c] 61)).heap.size = w.heap.size + 1) := by simp [Hid]
  have HR := Lib.hid hR
  have HIH := Lib.hid ih
  have HA := Lib.hid hr2
  obtain ⟨hk, hm⟩ := right_parts hr1
  generalize hW0 : w.alloc (.cells #[.int .u8 k, .string s, .slice a of.length c] 61) = W0 at HLW HB0 HCELLS HSZ
  have HW0 := Lib.hid hW0
  clear hR ih hr1 hr2 hb0 hW0
  rcases hk with rfl | rfl | rfl | rfl | rfl | rfl
  · obtain rfl : of = [] := List.length_eq_zero_iff.1 hm
    clear hm
    simp only [List.length_nil] at *
    have HT : Hid (byt (inF n (1, s, [])) = ⟨#[116, 114, 117, 101]⟩) := rfl
    clear hlen
    have hlow : ¬ (3 : Int) < li := by have : lowF 1 = 3 := rfl; omega
    have HLW' : Hid (Calls Tryz.prog 164 _ W0 fun e w' => e = .returned (.int .i64 3) ∧ Below W0.heap.size W0 w') := HLW.out
    clear hli HLW
    go_enter Tryz.func134, Tryz.ntmps134
    go_wp2_with fail
    rw [HW0.out]
    clear HW0
    refine HLW'.out.mono ?_
    rintro e w1 ⟨rfl, hb1⟩
    have HB1 := Lib.hid (HB0.out.trans (hb1.mono HB0.out.size))
    have HT1 : Hid (Below (w.heap.size + 1) W0 w1) := hb1.mono (by rw [HSZ.out]; exact Nat.le_refl _)
    have hk1 := HCELLS.out _ HT1.out
    have x0 := Lib.cell_of_heap hk1 0
    have x1 := Lib.cell_of_heap hk1 1
    have x2 := Lib.cell_of_heap hk1 2
    simp only [List.getElem?_toArray, List.getElem?_cons_zero, List.getElem?_cons_succ] at x0 x1 x2
    clear hk1
    clear hb1
    go_wp2_with fail
    all_goals go_ret
    all_goals exact ⟨ret_s (by rw [HT.out]), HB1.out⟩
  · obtain rfl : of = [] := List.length_eq_zero_iff.1 hm
    clear hm
    simp only [List.length_nil] at *
    have HT : Hid (byt (inF n (2, s, [])) = ⟨#[102, 97, 108, 115, 101]⟩) := rfl
    clear hlen
    have hlow : ¬ (3 : Int) < li := by have : lowF 2 = 3 := rfl; omega
    have HLW' : Hid (Calls Tryz.prog 164 _ W0 fun e w' => e = .returned (.int .i64 3) ∧ Below W0.heap.size W0 w') := HLW.out
    clear hli HLW
    go_enter Tryz.func134, Tryz.ntmps134
    go_wp2_with fail
    rw [HW0.out]
    clear HW0
    refine HLW'.out.mono ?_
    rintro e w1 ⟨rfl, hb1⟩
    have HB1 := Lib.hid (HB0.out.trans (hb1.mono HB0.out.size))
    have HT1 : Hid (Below (w.heap.size + 1) W0 w1) := hb1.mono (by rw [HSZ.out]; exact Nat.le_refl _)
    have hk1 := HCELLS.out _ HT1.out
    have x0 := Lib.cell_of_heap hk1 0
    have x1 := Lib.cell_of_heap hk1 1
    have x2 := Lib.cell_of_heap hk1 2
    simp only [List.getElem?_toArray, List.getElem?_cons_zero, List.getElem?_cons_succ] at x0 x1 x2
    clear hk1
    clear hb1
    go_wp2_with fail
    all_goals go_ret
    all_goals exact ⟨ret_s (by rw [HT.out]), HB1.out⟩
  · obtain rfl : of = [] := List.length_eq_zero_iff.1 hm
    clear hm
    simp only [List.length_nil] at *
    have HT : Hid (byt (inF n (3, s, [])) = s) := byt_self s
    clear hlen
    have hlow : ¬ (3 : Int) < li := by have : lowF 3 = 3 := rfl; omega
    have HLW' : Hid (Calls Tryz.prog 164 _ W0 fun e w' => e = .returned (.int .i64 3) ∧ Below W0.heap.size W0 w') := HLW.out
    clear hli HLW
    go_enter Tryz.func134, Tryz.ntmps134
    go_wp2_with fail
    rw [HW0.out]
    clear HW0
    refine HLW'.out.mono ?_
    rintro e w1 ⟨rfl, hb1⟩
    have HB1 := Lib.hid (HB0.out.trans (hb1.mono HB0.out.size))
    have HT1 : Hid (Below (w.heap.size + 1) W0 w1) := hb1.mono (by rw [HSZ.out]; exact Nat.le_refl _)
    have hk1 := HCELLS.out _ HT1.out
    have x0 := Lib.cell_of_heap hk1 0
    have x1 := Lib.cell_of_heap hk1 1
    have x2 := Lib.cell_of_heap hk1 2
    simp only [List.getElem?_toArray, List.getElem?_cons_zero, List.getElem?_cons_succ] at x0 x1 x2
    clear hk1
    clear hb1
    go_wp2_with fail
    all_goals go_ret
    all_goals exact ⟨ret_s (by rw [HT.out]), HB1.out⟩
  · obtain ⟨x, rfl⟩ : ∃ x, of = [x] := List.length_eq_one_iff.1 hm
    have HT : Hid (byt (inF n (4, s, [x])) = ⟨#[33]⟩ ++ byt (prF n x 3)) := by
      rw [Hid, show (⟨#[33]⟩ : ByteArray) = byt [33] from rfl, byt_app]; rfl
    have HLX : Hid ((prF n x 3).length ≤ 1000000000000) := by
      have : inF n (4, s, [x]) = 33 :: prF n x 3 := rfl
      rw [this] at hlen; simp at hlen; rw [Hid]; omega
    clear hlen hm
    simp only [List.length_cons, List.length_nil, Nat.zero_add] at *
    have hlow : ¬ (3 : Int) < li := by have : lowF 4 = 3 := rfl; omega
    have HLW' : Hid (Calls Tryz.prog 164 _ W0 fun e w' => e = .returned (.int .i64 3) ∧ Below W0.heap.size W0 w') := HLW.out
    clear hli HLW
    go_enter Tryz.func134, Tryz.ntmps134
    go_wp2_with fail
    rw [HW0.out]
    clear HW0
    refine HLW'.out.mono ?_
    rintro e w1 ⟨rfl, hb1⟩
    have HB1 := Lib.hid (HB0.out.trans (hb1.mono HB0.out.size))
    have HT1 : Hid (Below (w.heap.size + 1) W0 w1) := hb1.mono (by rw [HSZ.out]; exact Nat.le_refl _)
    have hk1 := HCELLS.out _ HT1.out
    have x0 := Lib.cell_of_heap hk1 0
    have x1 := Lib.cell_of_heap hk1 1
    have x2 := Lib.cell_of_heap hk1 2
    simp only [List.getElem?_toArray, List.getElem?_cons_zero, List.getElem?_cons_succ] at x0 x1 x2
    clear hk1
    have hrow := FRow.up HR.out HB1.out (Nat.le_refl _)
    obtain ⟨rb, off, k', s', sa, sl, sc, rfl, hbl, c0, c1', c2, hr⟩ := hrow.at 0 (by simp)
    simp only [Nat.zero_mul, Nat.add_zero, List.getElem_cons_zero] at c0 c1' c2 hr
    have hlt : rb < w1.heap.size := by have := HB1.out.size; omega
    have HC := Lib.hid (HIH.out x _ 3 3 w1 rfl (hr.up (Below.refl _ _) HB1.out.size) (HA.out _ (by simp)) HLX.out)
    obtain ⟨r, hr0⟩ : ∃ r, r = byt (prF n x 3) := ⟨_, rfl⟩
    have hrs : r.size ≤ 1000000000000 := by rw [hr0, byt_size]; exact HLX.out
    rw [← hr0] at HC HT
    have HR0 := Lib.hid hr0
    clear hr hrow hb1 hr0
    go_wp2_with fail
    refine HC.out.mono ?_
    rintro e w2 ⟨rfl, hb2⟩
    have HB2 := Lib.hid (HB1.out.trans (hb2.mono HB1.out.size))
    clear hb2
    go_wp2_with fail
    all_goals go_ret
    all_goals exact ⟨ret_s (by rw [HT.out]), HB2.out⟩
  · obtain ⟨x, y, rfl⟩ : ∃ x y, of = [x, y] := by
      match of, hm with
      | [x, y], _ => exact ⟨x, y, rfl⟩
    have HE : Hid (inF n (5, s, [x, y]) = prF n x 2 ++ [38, 38] ++ prF n y 3) := rfl
    have HLX : Hid ((prF n x 2).length ≤ 1000000000000 ∧ (prF n y 3).length ≤ 1000000000000) := by
      rw [HE.out] at hlen; simp at hlen; rw [Hid]; omega
    have HT : Hid (byt (inF n (5, s, [x, y])) = byt (prF n x 2) ++ ⟨#[38, 38]⟩ ++ byt (prF n y 3)) := by
      rw [Hid, HE.out, show (⟨#[38, 38]⟩ : ByteArray) = byt [38, 38] from rfl, byt_app, byt_app]
    clear hlen hm HE
    simp only [List.length_cons, List.length_nil, Nat.zero_add, Nat.reduceAdd] at *
    have hlow : ¬ (2 : Int) < li := by have : lowF 5 = 2 := rfl; omega
    have HLW' : Hid (Calls Tryz.prog 164 _ W0 fun e w' => e = .returned (.int .i64 2) ∧ Below W0.heap.size W0 w') := HLW.out
    clear hli HLW
    go_enter Tryz.func134, Tryz.ntmps134
    go_wp2_with fail
    rw [HW0.out]
    clear HW0
    refine HLW'.out.mono ?_
    rintro e w1 ⟨rfl, hb1⟩
    have HB1 := Lib.hid (HB0.out.trans (hb1.mono HB0.out.size))
    have HT1 : Hid (Below (w.heap.size + 1) W0 w1) := hb1.mono (by rw [HSZ.out]; exact Nat.le_refl _)
    have hk1 := HCELLS.out _ HT1.out
    have x0 := Lib.cell_of_heap hk1 0
    have x1 := Lib.cell_of_heap hk1 1
    have x2 := Lib.cell_of_heap hk1 2
    simp only [List.getElem?_toArray, List.getElem?_cons_zero, List.getElem?_cons_succ] at x0 x1 x2
    clear hk1
    have hrow := FRow.up HR.out HB1.out (Nat.le_refl _)
    obtain ⟨rb, off, k', s', sa, sl, sc, rfl, hbl, c0, c1', c2, hr⟩ := hrow.at 0 (by simp)
    simp only [Nat.zero_mul, Nat.add_zero, List.getElem_cons_zero] at c0 c1' c2 hr
    obtain ⟨rb', off', k2, s2, sa2, sl2, sc2, hea, _, e0, e1, e2, hr'⟩ := hrow.at 1 (by simp)
    injection hea with hea
    injection hea with hea1 hea2
    subst hea1 hea2
    simp only [Nat.one_mul, List.getElem_cons_succ, List.getElem_cons_zero] at e0 e1 e2 hr'
    have e1 : w1.cell? ⟨rb, off + 4, none⟩ = some (.string s2) := e1
    have e2 : w1.cell? ⟨rb, off + 5, none⟩ = some (.slice sa2 sl2 sc2) := e2
    have hlt : rb < w1.heap.size := by have := HB1.out.size; omega
    have hbz : w.heap.size < w1.heap.size := by have := HT1.out.size; rw [HSZ.out] at this; omega
    obtain ⟨r1, hr1⟩ : ∃ r, r = byt (prF n x 2) := ⟨_, rfl⟩
    obtain ⟨r2, hr2⟩ : ∃ r, r = byt (prF n y 3) := ⟨_, rfl⟩
    have hs1 : r1.size ≤ 1000000000000 := by rw [hr1, byt_size]; exact HLX.out.1
    have hs2 : r2.size ≤ 1000000000000 := by rw [hr2, byt_size]; exact HLX.out.2
    have HC1 : Hid (∀ W, Below w1.heap.size w1 W → Calls Tryz.prog 134 #[.agg #[.int .u8 k', .string s', .slice sa sl sc], .int .i64 2] W fun e w' => e = .returned (.string r1) ∧ Below W.heap.size W w') := fun W hW => by
      rw [hr1]; exact HIH.out x _ 2 2 W rfl (hr.up (hW.mono HB1.out.size) (by have := HB1.out.size; have := hW.size; omega)) (HA.out _ (by simp)) HLX.out.1
    have HC2 : Hid (∀ W, Below w1.heap.size w1 W → Calls Tryz.prog 134 #[.agg #[.int .u8 k2, .string s2, .slice sa2 sl2 sc2], .int .i64 3] W fun e w' => e = .returned (.string r2) ∧ Below W.heap.size W w') := fun W hW => by
      rw [hr2]; exact HIH.out y _ 3 3 W rfl (hr'.up (hW.mono HB1.out.size) (by have := HB1.out.size; have := hW.size; omega)) (HA.out _ (by simp)) HLX.out.2
    rw [← hr1, ← hr2] at HT
    clear hr hr' hrow hb1 hr1 hr2 hbl
    go_wp2_with fail
    have HS : Hid (∀ W, Below w1.heap.size w1 W → W.cell? ⟨w.heap.size, 0, none⟩ = some (.int .u8 5) ∧ W.cell? ⟨w.heap.size, 2, none⟩ = some (.slice (some ⟨rb, off, none⟩) 2 c) ∧ W.cell? ⟨rb, off, none⟩ = some (.int .u8 k') ∧ W.cell? ⟨rb, off + 1, none⟩ = some (.string s') ∧ W.cell? ⟨rb, off + 2, none⟩ = some (.slice sa sl sc) ∧ W.cell? ⟨rb, off + 3, none⟩ = some (.int .u8 k2) ∧ W.cell? ⟨rb, off + 4, none⟩ = some (.string s2) ∧ W.cell? ⟨rb, off + 5, none⟩ = some (.slice sa2 sl2 sc2)) := by
      intro W hW
      exact ⟨(hW.cell (p := ⟨w.heap.size, 0, none⟩) hbz).trans x0, (hW.cell (p := ⟨w.heap.size, 2, none⟩) hbz).trans x2, (hW.cell (p := ⟨rb, off, none⟩) hlt).trans c0, (hW.cell (p := ⟨rb, off + 1, none⟩) hlt).trans c1', (hW.cell (p := ⟨rb, off + 2, none⟩) hlt).trans c2, (hW.cell (p := ⟨rb, off + 3, none⟩) hlt).trans e0, (hW.cell (p := ⟨rb, off + 4, none⟩) hlt).trans e1, (hW.cell (p := ⟨rb, off + 5, none⟩) hlt).trans e2⟩
    have hself : Below w1.heap.size w1 w1 := Below.refl _ _
    refine wp_region_held_drew (S := fun W => W.cell? ⟨w.heap.size, 0, none⟩ = some (.int .u8 5) ∧ W.cell? ⟨w.heap.size, 2, none⟩ = some (.slice (some ⟨rb, off, none⟩) 2 c) ∧ W.cell? ⟨rb, off, none⟩ = some (.int .u8 k') ∧ W.cell? ⟨rb, off + 1, none⟩ = some (.string s') ∧ W.cell? ⟨rb, off + 2, none⟩ = some (.slice sa sl sc) ∧ W.cell? ⟨rb, off + 3, none⟩ = some (.int .u8 k2) ∧ W.cell? ⟨rb, off + 4, none⟩ = some (.string s2) ∧ W.cell? ⟨rb, off + 5, none⟩ = some (.slice sa2 sl2 sc2)) (by kernel_rfl) (HS.out _ hself.drew) (fun hHeld => ?_)
    refine wpAnyH_take (i := 0) (v := ?_) rfl (by kernel_rfl) (by kernel_rfl) (by kernel_rfl) (fun _ _ _ h => h) (Or.inl ⟨by kernel_rfl, ?_⟩) (by assumption) ?_
    rotate_left
    · (intro w hSw; (try dsimp only at hSw); go_simp)
      with_reducible rfl
    try simp only [Act.put, List.setIfInBounds_toArray]
    refine wpAnyH_take (i := 1) (v := ?_) rfl (by kernel_rfl) (by kernel_rfl) (by kernel_rfl) (fun _ _ _ h => h) (Or.inl ⟨by kernel_rfl, ?_⟩) (by assumption) ?_
    rotate_left
    · (intro w hSw; (try dsimp only at hSw); go_simp)
      with_reducible rfl
    try simp only [Act.put]
    refine wpAnyH_take (i := 2) (v := ?_) rfl (by kernel_rfl) (by kernel_rfl) (by kernel_rfl) (fun _ _ _ h => h) (Or.inl ⟨by kernel_rfl, ?_⟩) (by assumption) ?_
    rotate_left
    · (intro w hSw; (try dsimp only at hSw); go_simp)
      with_reducible rfl
    try simp only [Act.put]
    refine wpAnyH_take (i := 3) (v := ?_) rfl (by kernel_rfl) (by kernel_rfl) (by kernel_rfl) (fun _ _ _ h => h) (Or.inl ⟨by kernel_rfl, ?_⟩) (by assumption) ?_
    rotate_left
    · (intro w hSw; (try dsimp only at hSw); go_simp)
      with_reducible rfl
    try simp only [Act.put]
    refine wpAnyH_take (i := 6) (v := ?_) rfl (by kernel_rfl) (by kernel_rfl) (by kernel_rfl) (fun _ _ _ h => h) (Or.inl ⟨by kernel_rfl, ?_⟩) (by assumption) ?_
    rotate_left
    · (intro w hSw; (try dsimp only at hSw); go_simp)
      with_reducible rfl
    try simp only [Act.put]
    refine wpAnyH_take (i := 7) (v := ?_) rfl (by kernel_rfl) (by kernel_rfl) (by kernel_rfl) (fun _ _ _ h => h) (Or.inl ⟨by kernel_rfl, ?_⟩) (by assumption) ?_
    rotate_left
    · (intro w hSw; (try dsimp only at hSw); go_simp)
      with_reducible rfl
    try simp only [Act.put]
    refine wpAnyH_take (i := 8) (v := ?_) rfl (by kernel_rfl) (by kernel_rfl) (by kernel_rfl) (fun _ _ _ h => h) (Or.inl ⟨by kernel_rfl, ?_⟩) (by assumption) ?_
    rotate_left
    · (intro w hSw; (try dsimp only at hSw); go_simp)
      with_reducible rfl
    try simp only [Act.put]
    refine wpAnyH_take (i := 9) (v := ?_) rfl (by kernel_rfl) (by kernel_rfl) (by kernel_rfl) (fun _ _ _ h => h) (Or.inl ⟨by kernel_rfl, ?_⟩) (by assumption) ?_
    rotate_left
    · (intro w hSw; (try dsimp only at hSw); go_simp)
      with_reducible rfl
    try simp only [Act.put]
    refine wpAnyH_ready (rs := [4]) (by kernel_rfl) (by simp) ?_
    refine AllReadyH.cons rfl (fun K hK => ?_) AllReadyH.nil
    go_simp
    go_at_call 134
    refine (HC1.out w1.drew hself.drew).mono ?_
    rintro e w2 ⟨rfl, hb2⟩
    have hb12 : Below w1.heap.size w1 w2 := hself.drew.trans (hb2.mono (by simp))
    dsimp only
    refine hK.out _ _ (HS.out _ (hb12)) (fun hHeld => ?_)
    clear hK K
    try simp only [Act.put, List.setIfInBounds_toArray, List.set_cons_zero, List.set_cons_succ]
    refine wpAnyH_take (i := 5) (v := ?_) rfl (by kernel_rfl) (by kernel_rfl) (by kernel_rfl) (fun _ _ _ h => h) (Or.inl ⟨by kernel_rfl, ?_⟩) (by assumption) ?_
    rotate_left
    · (intro w hSw; (try dsimp only at hSw); go_simp)
      rw [if_neg (by omega)]
    try simp only [Act.put, List.setIfInBounds_toArray]
    refine wpAnyH_ready (rs := [10]) (by kernel_rfl) (by simp) ?_
    refine AllReadyH.cons rfl (fun K hK => ?_) AllReadyH.nil
    go_simp
    go_at_call 134
    refine (HC2.out w2 hb12).mono ?_
    rintro e w3 ⟨rfl, hb3⟩
    have hb13 : Below w1.heap.size w1 w3 := hb12.trans (hb3.mono hb12.size)
    dsimp only
    refine hK.out _ _ (HS.out _ (hb13)) (fun hHeld => ?_)
    clear hK K
    try simp only [Act.put, List.setIfInBounds_toArray, List.set_cons_zero, List.set_cons_succ]
    refine wpAnyH_take (i := 11) (v := ?_) rfl (by kernel_rfl) (by kernel_rfl) (by kernel_rfl) (fun _ _ _ h => h) (Or.inl ⟨by kernel_rfl, ?_⟩) (by assumption) ?_
    rotate_left
    · (intro w hSw; (try dsimp only at hSw); go_simp)
      rw [if_neg (by omega)]
    try simp only [Act.put, List.setIfInBounds_toArray]
    refine wpAnyH_ready (rs := [12]) (by kernel_rfl) (by simp) ?_
    refine AllReadyH.cons rfl (fun K hK => ?_) AllReadyH.nil
    go_simp
    refine hK.out _ _ (HS.out _ (hb13)) (fun hHeld => ?_)
    clear hK K
    try simp only [Act.put, List.setIfInBounds_toArray, List.set_cons_zero, List.set_cons_succ]
    refine wpAnyH_done (by kernel_rfl) ?_ _
    have HB3 := Lib.hid (HB1.out.trans (hb13.mono HB1.out.size))
    clear hHeld hb12 hb13 hb2 hb3
    go_wp2_with fail
    all_goals go_ret
    all_goals exact ⟨ret_s (by rw [HT.out]), HB3.out⟩
  · obtain ⟨x, y, rfl⟩ : ∃ x y, of = [x, y] := by
      match of, hm with
      | [x, y], _ => exact ⟨x, y, rfl⟩
    have HE : Hid (inF n (6, s, [x, y]) = prF n x 1 ++ [124, 124] ++ prF n y 2) := rfl
    have HLX : Hid ((prF n x 1).length ≤ 1000000000000 ∧ (prF n y 2).length ≤ 1000000000000) := by
      rw [HE.out] at hlen; simp at hlen; rw [Hid]; omega
    have HT : Hid (byt (inF n (6, s, [x, y])) = byt (prF n x 1) ++ ⟨#[124, 124]⟩ ++ byt (prF n y 2)) := by
      rw [Hid, HE.out, show (⟨#[124, 124]⟩ : ByteArray) = byt [124, 124] from rfl, byt_app, byt_app]
    clear hlen hm HE
    simp only [List.length_cons, List.length_nil, Nat.zero_add, Nat.reduceAdd] at *
    have hlow : ¬ (1 : Int) < li := by have : lowF 6 = 1 := rfl; omega
    have HLW' : Hid (Calls Tryz.prog 164 _ W0 fun e w' => e = .returned (.int .i64 1) ∧ Below W0.heap.size W0 w') := HLW.out
    clear hli HLW
    go_enter Tryz.func134, Tryz.ntmps134
    go_wp2_with fail
    rw [HW0.out]
    clear HW0
    refine HLW'.out.mono ?_
    rintro e w1 ⟨rfl, hb1⟩
    have HB1 := Lib.hid (HB0.out.trans (hb1.mono HB0.out.size))
    have HT1 : Hid (Below (w.heap.size + 1) W0 w1) := hb1.mono (by rw [HSZ.out]; exact Nat.le_refl _)
    have hk1 := HCELLS.out _ HT1.out
    have x0 := Lib.cell_of_heap hk1 0
    have x1 := Lib.cell_of_heap hk1 1
    have x2 := Lib.cell_of_heap hk1 2
    simp only [List.getElem?_toArray, List.getElem?_cons_zero, List.getElem?_cons_succ] at x0 x1 x2
    clear hk1
    have hrow := FRow.up HR.out HB1.out (Nat.le_refl _)
    obtain ⟨rb, off, k', s', sa, sl, sc, rfl, hbl, c0, c1', c2, hr⟩ := hrow.at 0 (by simp)
    simp only [Nat.zero_mul, Nat.add_zero, List.getElem_cons_zero] at c0 c1' c2 hr
    obtain ⟨rb', off', k2, s2, sa2, sl2, sc2, hea, _, e0, e1, e2, hr'⟩ := hrow.at 1 (by simp)
    injection hea with hea
    injection hea with hea1 hea2
    subst hea1 hea2
    simp only [Nat.one_mul, List.getElem_cons_succ, List.getElem_cons_zero] at e0 e1 e2 hr'
    have e1 : w1.cell? ⟨rb, off + 4, none⟩ = some (.string s2) := e1
    have e2 : w1.cell? ⟨rb, off + 5, none⟩ = some (.slice sa2 sl2 sc2) := e2
    have hlt : rb < w1.heap.size := by have := HB1.out.size; omega
    have hbz : w.heap.size < w1.heap.size := by have := HT1.out.size; rw [HSZ.out] at this; omega
    obtain ⟨r1, hr1⟩ : ∃ r, r = byt (prF n x 1) := ⟨_, rfl⟩
    obtain ⟨r2, hr2⟩ : ∃ r, r = byt (prF n y 2) := ⟨_, rfl⟩
    have hs1 : r1.size ≤ 1000000000000 := by rw [hr1, byt_size]; exact HLX.out.1
    have hs2 : r2.size ≤ 1000000000000 := by rw [hr2, byt_size]; exact HLX.out.2
    have HC1 : Hid (∀ W, Below w1.heap.size w1 W → Calls Tryz.prog 134 #[.agg #[.int .u8 k', .string s', .slice sa sl sc], .int .i64 1] W fun e w' => e = .returned (.string r1) ∧ Below W.heap.size W w') := fun W hW => by
      rw [hr1]; exact HIH.out x _ 1 1 W rfl (hr.up (hW.mono HB1.out.size) (by have := HB1.out.size; have := hW.size; omega)) (HA.out _ (by simp)) HLX.out.1
    have HC2 : Hid (∀ W, Below w1.heap.size w1 W → Calls Tryz.prog 134 #[.agg #[.int .u8 k2, .string s2, .slice sa2 sl2 sc2], .int .i64 2] W fun e w' => e = .returned (.string r2) ∧ Below W.heap.size W w') := fun W hW => by
      rw [hr2]; exact HIH.out y _ 2 2 W rfl (hr'.up (hW.mono HB1.out.size) (by have := HB1.out.size; have := hW.size; omega)) (HA.out _ (by simp)) HLX.out.2
    rw [← hr1, ← hr2] at HT
    clear hr hr' hrow hb1 hr1 hr2 hbl
    go_wp2_with fail
    have HS : Hid (∀ W, Below w1.heap.size w1 W → W.cell? ⟨w.heap.size, 0, none⟩ = some (.int .u8 6) ∧ W.cell? ⟨w.heap.size, 2, none⟩ = some (.slice (some ⟨rb, off, none⟩) 2 c) ∧ W.cell? ⟨rb, off, none⟩ = some (.int .u8 k') ∧ W.cell? ⟨rb, off + 1, none⟩ = some (.string s') ∧ W.cell? ⟨rb, off + 2, none⟩ = some (.slice sa sl sc) ∧ W.cell? ⟨rb, off + 3, none⟩ = some (.int .u8 k2) ∧ W.cell? ⟨rb, off + 4, none⟩ = some (.string s2) ∧ W.cell? ⟨rb, off + 5, none⟩ = some (.slice sa2 sl2 sc2)) := by
      intro W hW
      exact ⟨(hW.cell (p := ⟨w.heap.size, 0, none⟩) hbz).trans x0, (hW.cell (p := ⟨w.heap.size, 2, none⟩) hbz).trans x2, (hW.cell (p := ⟨rb, off, none⟩) hlt).trans c0, (hW.cell (p := ⟨rb, off + 1, none⟩) hlt).trans c1', (hW.cell (p := ⟨rb, off + 2, none⟩) hlt).trans c2, (hW.cell (p := ⟨rb, off + 3, none⟩) hlt).trans e0, (hW.cell (p := ⟨rb, off + 4, none⟩) hlt).trans e1, (hW.cell (p := ⟨rb, off + 5, none⟩) hlt).trans e2⟩
    have hself : Below w1.heap.size w1 w1 := Below.refl _ _
    refine wp_region_held_drew (S := fun W => W.cell? ⟨w.heap.size, 0, none⟩ = some (.int .u8 6) ∧ W.cell? ⟨w.heap.size, 2, none⟩ = some (.slice (some ⟨rb, off, none⟩) 2 c) ∧ W.cell? ⟨rb, off, none⟩ = some (.int .u8 k') ∧ W.cell? ⟨rb, off + 1, none⟩ = some (.string s') ∧ W.cell? ⟨rb, off + 2, none⟩ = some (.slice sa sl sc) ∧ W.cell? ⟨rb, off + 3, none⟩ = some (.int .u8 k2) ∧ W.cell? ⟨rb, off + 4, none⟩ = some (.string s2) ∧ W.cell? ⟨rb, off + 5, none⟩ = some (.slice sa2 sl2 sc2)) (by kernel_rfl) (HS.out _ hself.drew) (fun hHeld => ?_)
    refine wpAnyH_take (i := 0) (v := ?_) rfl (by kernel_rfl) (by kernel_rfl) (by kernel_rfl) (fun _ _ _ h => h) (Or.inl ⟨by kernel_rfl, ?_⟩) (by assumption) ?_
    rotate_left
    · (intro w hSw; (try dsimp only at hSw); go_simp)
      with_reducible rfl
    try simp only [Act.put, List.setIfInBounds_toArray]
    refine wpAnyH_take (i := 1) (v := ?_) rfl (by kernel_rfl) (by kernel_rfl) (by kernel_rfl) (fun _ _ _ h => h) (Or.inl ⟨by kernel_rfl, ?_⟩) (by assumption) ?_
    rotate_left
    · (intro w hSw; (try dsimp only at hSw); go_simp)
      with_reducible rfl
    try simp only [Act.put]
    refine wpAnyH_take (i := 2) (v := ?_) rfl (by kernel_rfl) (by kernel_rfl) (by kernel_rfl) (fun _ _ _ h => h) (Or.inl ⟨by kernel_rfl, ?_⟩) (by assumption) ?_
    rotate_left
    · (intro w hSw; (try dsimp only at hSw); go_simp)
      with_reducible rfl
    try simp only [Act.put]
    refine wpAnyH_take (i := 3) (v := ?_) rfl (by kernel_rfl) (by kernel_rfl) (by kernel_rfl) (fun _ _ _ h => h) (Or.inl ⟨by kernel_rfl, ?_⟩) (by assumption) ?_
    rotate_left
    · (intro w hSw; (try dsimp only at hSw); go_simp)
      with_reducible rfl
    try simp only [Act.put]
    refine wpAnyH_take (i := 6) (v := ?_) rfl (by kernel_rfl) (by kernel_rfl) (by kernel_rfl) (fun _ _ _ h => h) (Or.inl ⟨by kernel_rfl, ?_⟩) (by assumption) ?_
    rotate_left
    · (intro w hSw; (try dsimp only at hSw); go_simp)
      with_reducible rfl
    try simp only [Act.put]
    refine wpAnyH_take (i := 7) (v := ?_) rfl (by kernel_rfl) (by kernel_rfl) (by kernel_rfl) (fun _ _ _ h => h) (Or.inl ⟨by kernel_rfl, ?_⟩) (by assumption) ?_
    rotate_left
    · (intro w hSw; (try dsimp only at hSw); go_simp)
      with_reducible rfl
    try simp only [Act.put]
    refine wpAnyH_take (i := 8) (v := ?_) rfl (by kernel_rfl) (by kernel_rfl) (by kernel_rfl) (fun _ _ _ h => h) (Or.inl ⟨by kernel_rfl, ?_⟩) (by assumption) ?_
    rotate_left
    · (intro w hSw; (try dsimp only at hSw); go_simp)
      with_reducible rfl
    try simp only [Act.put]
    refine wpAnyH_take (i := 9) (v := ?_) rfl (by kernel_rfl) (by kernel_rfl) (by kernel_rfl) (fun _ _ _ h => h) (Or.inl ⟨by kernel_rfl, ?_⟩) (by assumption) ?_
    rotate_left
    · (intro w hSw; (try dsimp only at hSw); go_simp)
      with_reducible rfl
    try simp only [Act.put]
    refine wpAnyH_ready (rs := [4]) (by kernel_rfl) (by simp) ?_
    refine AllReadyH.cons rfl (fun K hK => ?_) AllReadyH.nil
    go_simp
    go_at_call 134
    refine (HC1.out w1.drew hself.drew).mono ?_
    rintro e w2 ⟨rfl, hb2⟩
    have hb12 : Below w1.heap.size w1 w2 := hself.drew.trans (hb2.mono (by simp))
    dsimp only
    refine hK.out _ _ (HS.out _ (hb12)) (fun hHeld => ?_)
    clear hK K
    try simp only [Act.put, List.setIfInBounds_toArray, List.set_cons_zero, List.set_cons_succ]
    refine wpAnyH_take (i := 5) (v := ?_) rfl (by kernel_rfl) (by kernel_rfl) (by kernel_rfl) (fun _ _ _ h => h) (Or.inl ⟨by kernel_rfl, ?_⟩) (by assumption) ?_
    rotate_left
    · (intro w hSw; (try dsimp only at hSw); go_simp)
      rw [if_neg (by omega)]
    try simp only [Act.put, List.setIfInBounds_toArray]
    refine wpAnyH_ready (rs := [10]) (by kernel_rfl) (by simp) ?_
    refine AllReadyH.cons rfl (fun K hK => ?_) AllReadyH.nil
    go_simp
    go_at_call 134
    refine (HC2.out w2 hb12).mono ?_
    rintro e w3 ⟨rfl, hb3⟩
    have hb13 : Below w1.heap.size w1 w3 := hb12.trans (hb3.mono hb12.size)
    dsimp only
    refine hK.out _ _ (HS.out _ (hb13)) (fun hHeld => ?_)
    clear hK K
    try simp only [Act.put, List.setIfInBounds_toArray, List.set_cons_zero, List.set_cons_succ]
    refine wpAnyH_take (i := 11) (v := ?_) rfl (by kernel_rfl) (by kernel_rfl) (by kernel_rfl) (fun _ _ _ h => h) (Or.inl ⟨by kernel_rfl, ?_⟩) (by assumption) ?_
    rotate_left
    · (intro w hSw; (try dsimp only at hSw); go_simp)
      rw [if_neg (by omega)]
    try simp only [Act.put, List.setIfInBounds_toArray]
    refine wpAnyH_ready (rs := [12]) (by kernel_rfl) (by simp) ?_
    refine AllReadyH.cons rfl (fun K hK => ?_) AllReadyH.nil
    go_simp
    refine hK.out _ _ (HS.out _ (hb13)) (fun hHeld => ?_)
    clear hK K
    try simp only [Act.put, List.setIfInBounds_toArray, List.set_cons_zero, List.set_cons_succ]
    refine wpAnyH_done (by kernel_rfl) ?_ _
    have HB3 := Lib.hid (HB1.out.trans (hb13.mono HB1.out.size))
    clear hHeld hb12 hb13 hb2 hb3
    go_wp2_with fail
    all_goals go_ret
    all_goals exact ⟨ret_s (by rw [HT.out]), HB3.out⟩
set_option maxRecDepth 100000 in
set_option maxHeartbeats 8000000 in
theorem text134_any : ∀ n, TextF n := by
  intro n
  induction n with
  | zero => intro t v least li w _ h; exact h.elim
  | succ n ih =>
    intro t v least li w hli h hall hlen
    obtain ⟨k, s, of⟩ := t
    obtain ⟨a, c, rfl, hR⟩ := h
    rw [allF_succ, Bool.and_eq_true, List.all_eq_true] at hall
    obtain ⟨hr1, hr2⟩ := hall
    have hp := prF_eqW n (k, s, of) least
    rw [hp] at hlen ⊢
    clear hp
    dsimp only at hR hr1 hr2 hlen ⊢
    subst hli
    by_cases hlow : lowF k < least
    · have hd : decide (lowF k < least) = true := by simpa using hlow
      rw [hd] at hlen ⊢
      have HT : Hid (byt (wrapP true 123 125 (inF n (k, s, of))) = ⟨#[123]⟩ ++ byt (inF n (k, s, of)) ++ ⟨#[125]⟩) := by
        rw [Hid, show (⟨#[123]⟩ : ByteArray) = byt [123] from rfl, show (⟨#[125]⟩ : ByteArray) = byt [125] from rfl, byt_app, byt_app]; rfl
      have hl2 : (inF n (k, s, of)).length ≤ 1000000000000 := by simp [wrapP] at hlen; omega
      have h1 : (1 : Int) ≤ lowF k := by unfold lowF; split <;> (try split) <;> omega
      have hb0 : Below w.heap.size w (w.alloc (.cells #[.int .u8 k, .string s, .slice a of.length c] 61)) := (Below.refl _ w).alloc (Nat.le_refl _) _
      have HB0 := Lib.hid hb0
      have HLW := Lib.hid (low164_any k s (.slice a of.length c) (w.alloc (.cells #[.int .u8 k, .string s, .slice a of.length c] 61)))
      have HIN : Hid (∀ W, Below w.heap.size w W → Calls Tryz.prog 134 #[.agg #[.int .u8 k, .string s, .slice a of.length c], .int .i64 1] W fun e w' => e = .returned (.string (byt (inF n (k, s, of)))) ∧ Below W.heap.size W w') :=
        fun W hW => text134_in n ih k s of a c W (FRow.up hR hW hW.size) hr1 hr2 1 h1 hl2
      have hlowi : ((lowF k : Nat) : Int) < (least : Int) := by omega
      have HCELLS : Hid (∀ W, Below (w.heap.size + 1) (w.alloc (.cells #[.int .u8 k, .string s, .slice a of.length c] 61)) W → W.heap[w.heap.size]? = some (.cells #[.int .u8 k, .string s, .slice a of.length c] 61 (0, 0))) := by
        intro W hW
        rw [hW.block _ (by omega)]
        exact heap_top rfl
      obtain ⟨r, hr0⟩ : ∃ r, r = byt (inF n (k, s, of)) := ⟨_, rfl⟩
      have hrs : r.size ≤ 1000000000000 := by rw [hr0, byt_size]; exact hl2
      rw [← hr0] at HIN HT
      generalize lowF k = lw at hlowi HLW
      clear hR ih hr1 hr2 hb0 hlow hd hl2 h1 hlen hr0
      go_enter Tryz.func134, Tryz.ntmps134
      go_wp2_with fail
      refine HLW.out.mono ?_
      rintro e w1 ⟨rfl, hb1⟩
      have HB1 := Lib.hid (HB0.out.trans (hb1.mono HB0.out.size))
      have hk1 := HCELLS.out _ (hb1.mono (by simp))
      have x0 := Lib.cell_of_heap hk1 0
      have x1 := Lib.cell_of_heap hk1 1
      have x2 := Lib.cell_of_heap hk1 2
      simp only [List.getElem?_toArray, List.getElem?_cons_zero, List.getElem?_cons_succ] at x0 x1 x2
      clear hk1 hb1
      go_wp2_with fail
      refine (HIN.out _ HB1.out).mono ?_
      rintro e w2 ⟨rfl, hb2⟩
      have HB2 := Lib.hid (HB1.out.trans (hb2.mono HB1.out.size))
      clear hb2
      go_wp2_with fail
      all_goals go_ret
      all_goals exact ⟨ret_s (by rw [HT.out]), HB2.out⟩
    · have hd : decide (lowF k < least) = false := by simpa using hlow
      rw [hd] at hlen ⊢
      exact text134_in n ih k s of a c w hR hr1 hr2 least (by omega) hlen
end Go.Proofs.YtpgdplmndnopbaaGreatDoor
