/- The examples of layer 18 walked. -/
import Derived.Test.YtpgdplmndnopbaaGreatDoorJnB
import Derived.Test.YtpgdplmndnopbaaGreatDoorMgQ
namespace Go.Proofs.YtpgdplmndnopbaaGreatDoor
open Go.RowKit

theorem tF_same : ∀ (n n' : Nat) (t : FT n) (u : FT n'), toF n t = toF n' u → tF n t = tF n' u
  | 0, _, t, _, _ => nomatch t
  | _ + 1, 0, _, u, _ => nomatch u
  | n + 1, n' + 1, t, u, h => by
    obtain ⟨k, s, of⟩ := t
    obtain ⟨k', s', of'⟩ := u
    have h' : F.mk k s (of.map (toF n)) = F.mk k' s' (of'.map (toF n')) := h
    injection h' with h1 h2 h3
    have H : of.map (tF n) = of'.map (tF n') := map_rel h3 fun x _ y _ e => tF_same n n' x y e
    show 1 + s.size + (of.map (tF n)).sum = 1 + s'.size + (of'.map (tF n')).sum
    rw [H, h2]
theorem tX_same {m m' : Nat} : ∀ (n n' : Nat) (t : XT m n) (u : XT m' n'), toX n t = toX n' u → tX n t = tX n' u
  | 0, _, t, _, _ => nomatch t
  | _ + 1, 0, _, u, _ => nomatch u
  | n + 1, n' + 1, t, u, h => by
    obtain ⟨k, is, of, i⟩ := t
    obtain ⟨k', is', of', i'⟩ := u
    have h' : X.mk k (is.map (toF m)) (of.map (toX n)) i = X.mk k' (is'.map (toF m')) (of'.map (toX n')) i' := h
    injection h' with h1 h2 h3 h4
    have H : of.map (tX n) = of'.map (tX n') := map_rel h3 fun x _ y _ e => tX_same n n' x y e
    have H2 : is.map (tF m) = is'.map (tF m') := map_rel h2 fun x _ y _ e => tF_same m m' x y e
    show 1 + (is.map (tF m)).sum + (of.map (tX n)).sum = 1 + (is'.map (tF m')).sum + (of'.map (tX n')).sum
    rw [H, H2]
theorem textR_same (names : List ByteArray) {m m' n n' : Nat} {t : XT m n} {u : XT m' n'} (h : toX n t = toX n' u) : textR names n t = textR names n' u := by
  unfold textR
  rw [checkR_same names h, prX_same Lib.itoa n n' t u 0 h]
def aP : XT 2 1 := (1, [fP], [], noSpan)
def aQ : XT 2 1 := (1, [fQ], [], noSpan)
/-- p;(q;p). -/
def xC : XT 2 3 := (4, [], [(1, [fP], [], noSpan), (4, [], [aQ, aP], noSpan)], noSpan)
/-- (p|q)+. -/
def xL : XT 2 3 := (5, [], [(2, [], [aP, aQ], noSpan)], noSpan)
def s1 : ByteArray := ⟨#[112, 32, 59, 32, 40, 32, 113, 59, 112, 32, 41]⟩
def r1 : ByteArray := ⟨#[112, 59, 40, 113, 59, 112, 41]⟩
def s2 : ByteArray := ⟨#[40, 40, 112, 41, 41, 32, 124, 32, 113]⟩
def r2 : ByteArray := ⟨#[112, 124, 113]⟩
def r3 : ByteArray := ⟨#[112, 124, 124, 113]⟩
def s4 : ByteArray := ⟨#[40, 112, 124, 113, 41, 43]⟩
def s5 : ByteArray := ⟨#[123, 112, 125, 124, 124, 113]⟩
/-- Src is parsed to something, and that printed as r. -/
def AgainIs (s r : ByteArray) : Prop := (cutR s).2.2 = 0 ∧ ∃ (m n : Nat) (t : XT m n), allR (cutR s).1 s.size = .ok (toX n t) ∧ checkR pqL n t = 0 ∧ textR pqL n t = r.data.toList ∧ tX n t ≤ 100000
theorem again1 : AgainIs s1 r1 := ⟨by kernel_rfl, 2, 3, xC, by kernel_rfl, by kernel_rfl, by kernel_rfl, by decide +kernel⟩
theorem again2 : AgainIs s2 r2 := ⟨by kernel_rfl, 2, 2, xO, by kernel_rfl, by kernel_rfl, by kernel_rfl, by decide +kernel⟩
theorem again3 : AgainIs sA r3 := ⟨by kernel_rfl, 2, 2, xA, by kernel_rfl, by kernel_rfl, by kernel_rfl, by decide +kernel⟩
theorem again4 : AgainIs s4 s4 := ⟨by kernel_rfl, 2, 3, xL, by kernel_rfl, by kernel_rfl, by kernel_rfl, by decide +kernel⟩
theorem again5 : AgainIs s5 r3 := ⟨by kernel_rfl, 2, 2, xA, by kernel_rfl, by kernel_rfl, by kernel_rfl, by decide +kernel⟩

set_option maxRecDepth 100000 in
set_option maxHeartbeats 8000000 in
theorem again28_any (s r : ByteArray) (h : AgainIs s r) (w : World) (hr : Rdy w) : Calls Tryz.prog 28 #[.string s] w fun e w' => e = .returned (.string r) ∧ Below w.heap.size w w' := by
  obtain ⟨hc, m0, n0, t0, ha, hk, ht, hx⟩ := h
  have HR := Lib.hid hr
  obtain ⟨w1, hw1⟩ : ∃ w1, w1 = w.alloc (.cells #[.string ⟨#[112]⟩, .string ⟨#[113]⟩] 9) := ⟨_, rfl⟩
  have hb1 : Below w.heap.size w w1 := by rw [hw1]; exact (Below.refl _ w).alloc (Nat.le_refl _) _
  have HN1 : Hid (NRep w1 w1.heap.size (.slice (some ⟨w.heap.size, 0, none⟩) 2 2) pqL) := by rw [Hid, hw1]; exact nrep_pq _ w.heap.size (0, 0) (hp_top rfl) _
  have HB1 := Lib.hid hb1
  have HP := Lib.hid (parse21_any pqL _ pq_small s w1 (hr.below hb1) HN1.out)
  have HC := Lib.hid hc
  have HA := Lib.hid ha
  have HK := Lib.hid hk
  have HT := Lib.hid ht
  have HX := Lib.hid hx
  have HW1 := Lib.hid hw1.symm
  clear hr hb1 hw1 hc ha hk ht hx
  go_enter Tryz.func28, Tryz.ntmps28
  go_wp2_with fail
  rw [HW1.out]
  clear HW1
  refine HP.out.mono ?_
  rintro e w2 ⟨x, at_, cd, rfl, hp, hb2⟩
  obtain ⟨rfl, rfl, m, n, t, ht, hx⟩ := hp.at_ok pq_right HC.out HA.out HK.out
  obtain ⟨k, a1, l1, c1, a, l, c, lo, ls, hi, hs', op, rfl⟩ := hx.shape
  have HB2 := Lib.hid (HB1.out.trans (hb2.mono HB1.out.size))
  obtain ⟨w4, hw4⟩ : ∃ w4, w4 = (w2.alloc (.cells #[.int .u8 k, .slice a1 l1 c1, .slice a l c, .int .i64 lo, .bool ls, .int .i64 hi, .bool hs', .bool op] 28)).alloc (.cells #[.string ⟨#[112]⟩, .string ⟨#[113]⟩] 9) := ⟨_, rfl⟩
  have hb4 : Below w2.heap.size w2 w4 := by rw [hw4]; exact ((Below.refl _ _).alloc (Nat.le_refl _) _).alloc (by simp) _
  have HN4 : Hid (NRep w4 w4.heap.size (.slice (some ⟨w2.heap.size + 1, 0, none⟩) 2 2) pqL) := by rw [Hid, hw4]; exact nrep_pq _ _ (0, 0) (hp_top (by simp)) _
  have HB4 : Hid (Below w.heap.size w w4) := HB2.out.trans (hb4.mono HB2.out.size)
  have HPR := Lib.hid (print18_any pqL _ pq_small m n t _ w4 (HR.out.below HB4.out) HN4.out (hx.up hb4 hb4.size) (by rw [tX_same n n0 t t0 ht]; exact HX.out))
  rw [checkR_same pqL ht, textR_same pqL ht, HK.out, HT.out] at HPR
  have HPR : Hid (Calls Tryz.prog 18 #[.slice (some ⟨w2.heap.size + 1, 0, none⟩) 2 2, .agg #[.int .u8 k, .slice a1 l1 c1, .slice a l c, .int .i64 lo, .bool ls, .int .i64 hi, .bool hs', .bool op]] w4 fun e w' => e = .returned (.tuple #[.string r, .int .i64 0]) ∧ Below w4.heap.size w4 w') := HPR
  have HW4 := Lib.hid hw4.symm
  clear hp hb2 hx ht hw4 hb4 HP HB1 HN1 HB2
  go_wp2_with fail
  rw [HW4.out]
  clear HW4
  refine HPR.out.mono ?_
  rintro e w5 ⟨rfl, hb5⟩
  have HB5 := Lib.hid (HB4.out.trans (hb5.mono HB4.out.size))
  clear hb5
  go_wp2_with fail
  all_goals go_ret
  all_goals exact ⟨rfl, HB5.out⟩
set_option maxRecDepth 100000 in
set_option maxHeartbeats 8000000 in
theorem alive29_any (w : World) (hr : Rdy w) : Calls Tryz.prog 29 #[] w fun e w' => e = .returned (.bool true) ∧ Below w.heap.size w w' := by
  have HR := Lib.hid hr
  clear hr
  go_enter Tryz.func29, Tryz.ntmps29
  go_wp2_with fail
  refine (again28_any s1 r1 again1 w HR.out).mono ?_
  rintro e w1 ⟨rfl, hb1⟩
  have HB1 := Lib.hid hb1
  clear hb1
  unfold r1
  go_wp2_with fail
  refine (again28_any s2 r2 again2 w1 (HR.out.below HB1.out)).mono ?_
  rintro e w2 ⟨rfl, hb2⟩
  have HB2 := Lib.hid (HB1.out.trans (hb2.mono HB1.out.size))
  clear hb2
  unfold r2
  go_wp2_with fail
  refine (again28_any sA r3 again3 w2 (HR.out.below HB2.out)).mono ?_
  rintro e w3 ⟨rfl, hb3⟩
  have HB3 := Lib.hid (HB2.out.trans (hb3.mono HB2.out.size))
  clear hb3
  unfold r3
  go_wp2_with fail
  all_goals go_ret
  all_goals exact ⟨rfl, HB3.out⟩
set_option maxRecDepth 100000 in
set_option maxHeartbeats 8000000 in
theorem printNames8_any (w : World) (hr : Rdy w) : Calls Tryz.prog 8 #[] w fun e w' => e = .returned (.bool true) ∧ Below w.heap.size w w' := by
  have HR := Lib.hid hr
  clear hr
  go_enter Tryz.func8, Tryz.ntmps8
  go_wp2_with fail
  refine (again28_any s4 s4 again4 w HR.out).mono ?_
  rintro e w1 ⟨rfl, hb1⟩
  have HB1 := Lib.hid hb1
  clear hb1
  unfold s4
  go_wp2_with fail
  refine (again28_any s5 r3 again5 w1 (HR.out.below HB1.out)).mono ?_
  rintro e w2 ⟨rfl, hb2⟩
  have HB2 := Lib.hid (HB1.out.trans (hb2.mono HB1.out.size))
  clear hb2
  unfold r3
  go_wp2_with fail
  refine (alive29_any w2 (HR.out.below HB2.out)).mono ?_
  rintro e w3 ⟨rfl, hb3⟩
  have HB3 := Lib.hid (HB2.out.trans (hb3.mono HB2.out.size))
  clear hb3
  go_wp2_with fail
  all_goals go_ret
  all_goals exact ⟨rfl, HB3.out⟩
end Go.Proofs.YtpgdplmndnopbaaGreatDoor
