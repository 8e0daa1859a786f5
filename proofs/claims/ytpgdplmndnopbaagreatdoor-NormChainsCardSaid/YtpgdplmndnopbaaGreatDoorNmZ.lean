/- norm.Norm walked; the examples of layer 19. (Printed by gen_nmz.py.) -/
import Derived.Test.YtpgdplmndnopbaaGreatDoorNmY
import Derived.Test.YtpgdplmndnopbaaGreatDoorMhB
import Derived.Test.YtpgdplmndnopbaaGreatDoorMgN
import Derived.Test.YtpgdplmndnopbaaGreatDoorJnC
import Derived.Test.YtpgdplmndnopbaaGreatDoorMgJ
namespace Go.Proofs.YtpgdplmndnopbaaGreatDoor
open Go.RowKit
theorem size1_nX {m : Nat} : ∀ (n : Nat) (t : XT m n) (y : YX), Nm.Ok y → toX n t = xY y → Nm.size (fun _ => 1) y ≤ nX n t := by
 intro n t y ho h
 rw [nX_Y n t y ho h]
 have key : ∀ (n : Nat) (t : XT m n) (y : YX), Nm.Ok y → toX n t = xY y → Nm.size (fun _ => 1) y ≤ Nm.size sF y := by
  intro n
  induction n with
  | zero => intro t; exact nomatch t
  | succ n ih =>
   intro t y ho h
   obtain ⟨k, is, of, i⟩ := t
   have h' : X.mk k (is.map (toF m)) (of.map (toX n)) i = xY y := h
   rw [xY_mk] at h'
   injection h' with e1 e2 e3 e4
   have hkid : ∀ z ∈ kidsY y, ∃ t' ∈ of, toX n t' = xY z := by
    intro z hz
    have h1 : xY z ∈ (kidsY y).map xY := List.mem_map_of_mem hz
    rw [← e3] at h1
    obtain ⟨t', g1, g2⟩ := List.mem_map.1 h1
    exact ⟨t', g1, g2⟩
   cases y with
   | «at» f =>
    have h1 : f ∈ is.map (toF m) := by rw [e2]; simp [isY]
    obtain ⟨t', _, rfl⟩ := List.mem_map.1 h1
    show 1 ≤ sF (toF m t')
    rw [sF_eq]
    cases m with
    | zero => exact nomatch t'
    | succ m => obtain ⟨k', s', of'⟩ := t'; show 1 ≤ 1 + _; omega
   | bin k' a b =>
    obtain ⟨ta, _, ga⟩ := hkid a (by simp [kidsY])
    obtain ⟨tb, _, gb⟩ := hkid b (by simp [kidsY])
    have h1 := ih ta a ho.2.1 ga
    have h2 := ih tb b ho.2.2 gb
    show 1 + _ + _ ≤ 1 + _ + _
    omega
   | pl a =>
    obtain ⟨ta, _, ga⟩ := hkid a (by simp [kidsY])
    have h1 := ih ta a ho ga
    show 1 + _ ≤ 1 + _
    omega
   | tm a j =>
    obtain ⟨ta, _, ga⟩ := hkid a (by simp [kidsY])
    have h1 := ih ta a ho ga
    show 1 + _ ≤ 1 + _
    omega
 exact key n t y ho h
inductive NormIs (names : List ByteArray) {m : Nat} (n : Nat) (t : XT m n) (w : World) : Value → Int → Prop
 | err (h : checkR names n t ≠ 0) : NormIs names n t w noX (checkR names n t)
 | ok (h : checkR names n t = 0) (y : YX) (hy : toX n t = xY y) (ho : Nm.Ok y) (m' n' : Nat) (t' : XT m' n') (ht : toX n' t' = xY (Nm.norm y)) (v : Value) (hv : XRep w w.heap.size m' n' t' v) : NormIs names n t w v 0
theorem norm_end {m n : Nat} {t : XT m n} {w w3 w4 w5 : World} {y : YX} {R : Nat} {{kz : Int}} {{b1z : Option Addr}} {{n1z d1z : Nat}} {{b2z : Option Addr}} {{n2z d2z : Nat}} {{loz : Int}} {{lsz : Bool}} {{hiz : Int}} {{hsz opz : Bool}}
 (names : List ByteArray) (hck : checkR names n t = 0) (hy : toX n t = xY y) (ho : Nm.Ok y) (hb3 : Below w.heap.size w w3) (hR : w.heap.size ≤ R) (hR3 : R < w3.heap.size) (hb4 : Below w3.heap.size w3 w4) (hx : XI (pJ w3.heap.size w4.heap.size w4.heap.size) w5 (xY (Nm.norm y)) (.agg #[.int .u8 kz, .slice b1z n1z d1z, .slice b2z n2z d2z, .int .i64 loz, .bool lsz, .int .i64 hiz, .bool hsz, .bool opz])) (hk : Kp w3.heap.size w4.heap.size w4 w5)
 (hr : w3.heap[R]? = some (.cells #[.int .u8 0, .slice none 0 0, .slice none 0 0, .int .i64 0, .bool false, .int .i64 0, .bool false, .bool false] 28 (0, 0))) :
 w5.heap[R]? = some (.cells #[.int .u8 0, .slice none 0 0, .slice none 0 0, .int .i64 0, .bool false, .int .i64 0, .bool false, .bool false] 28 (0, 0)) ∧ ∀ W', W' = tw8 w5 R (.int .u8 kz) (.slice b1z n1z d1z) (.slice b2z n2z d2z) (.int .i64 loz) (.bool lsz) (.int .i64 hiz) (.bool hsz) (.bool opz) → W'.heap[R]? = some (.cells #[.int .u8 kz, .slice b1z n1z d1z, .slice b2z n2z d2z, .int .i64 loz, .bool lsz, .int .i64 hiz, .bool hsz, .bool opz] 28 (0, 0)) ∧ NormIs names n t W' (.agg #[.int .u8 kz, .slice b1z n1z d1z, .slice b2z n2z d2z, .int .i64 loz, .bool lsz, .int .i64 hiz, .bool hsz, .bool opz]) 0 ∧ Below w.heap.size w W' := by
 have hz3 := hb3.size
 have hz4 := hb4.size
 have hr5 : w5.heap[R]? = some (.cells #[.int .u8 0, .slice none 0 0, .slice none 0 0, .int .i64 0, .bool false, .int .i64 0, .bool false, .bool false] 28 (0, 0)) := (hk.2.2.2.2 R (by omega) (by omega)).trans ((hb4.block R hR3).trans hr)
 refine ⟨hr5, fun W' hW' => ⟨by rw [hW']; exact tw8_at hr5 _ _ _ _ _ _ _ _, ?_, ?_⟩⟩
 ·have hx' : XI (twN w3.heap.size) W' (xY (Nm.norm y)) (.agg #[.int .u8 kz, .slice b1z n1z d1z, .slice b2z n2z d2z, .int .i64 loz, .bool lsz, .int .i64 hiz, .bool hsz, .bool opz]) := hx.go ⟨by rw [hW', tw8_size]; exact Nat.le_refl _, fun b hb hp => by
   have h1 := pJ_iff.1 hp
   refine ⟨decide_eq_true (by omega), ?_⟩
   rw [hW']
   exact tw8_other _ _ _ _ _ _ _ _ _ _ _ (by omega)⟩
  obtain ⟨m', n', t', h1, h2⟩ := hx'.real
  exact .ok hck y hy ho m' n' t' h1 _ h2
 ·have h1 : Kp w3.heap.size w4.heap.size w w4 := (Kp.of_below (hb3.trans (hb4.mono hz3)))
  have h2 : Kp w3.heap.size w4.heap.size w w5 := h1.trans hk
  have h3 := h2.tw8 hR (.int .u8 kz) (.slice b1z n1z d1z) (.slice b2z n2z d2z) (.int .i64 loz) (.bool lsz) (.int .i64 hiz) (.bool hsz) (.bool opz)
  rw [hW']
  exact h3.below (Nat.le_refl _) hz3
set_option maxRecDepth 100000 in
set_option maxHeartbeats 16000000 in
theorem norm32_any (names : List ByteArray) (nv : Value) (hs : ∀ s ∈ names, s.size ≤ 1048576) (m n : Nat) (t : XT m n) (v : Value) (w : World) (hr : Rdy w) (hn : NRep w w.heap.size nv names) (hf : XRep w w.heap.size m n t v) (hb : nX n t ≤ 1000000) :
 Calls Tryz.prog 32 #[nv, v] w fun e w' => ∃ v' c, e = .returned (.tuple #[v', .int .i64 c]) ∧ NormIs names n t w' v' c ∧ Below w.heap.size w w' := by
 obtain ⟨k, a1, l1, c1, a, l, c, lo, ls, hi, hs', op, rfl⟩ := hf.shape
 obtain ⟨na, nc, rfl, _⟩ := id hn
 obtain ⟨W2, hW2⟩ : ∃ W2, W2 = (w.alloc (.cells #[.int .u8 k, .slice a1 l1 c1, .slice a l c, .int .i64 lo, .bool ls, .int .i64 hi, .bool hs', .bool op] 28)).alloc (.cells #[.int .u8 0, .slice none 0 0, .slice none 0 0, .int .i64 0, .bool false, .int .i64 0, .bool false, .bool false] 28) := ⟨_, rfl⟩
 have hb2 : Below w.heap.size w W2 := by rw [hW2]; exact ((Below.refl _ _).alloc (Nat.le_refl _) _).alloc (by simp) _
 have hz2 : W2.heap.size = w.heap.size + 2 := by rw [hW2]; simp
 have hx2 : W2.heap[w.heap.size]? = some (.cells #[.int .u8 k, .slice a1 l1 c1, .slice a l c, .int .i64 lo, .bool ls, .int .i64 hi, .bool hs', .bool op] 28 (0, 0)) := by rw [hW2]; exact hp_in (hp_top rfl)
 have hr2 : W2.heap[w.heap.size + 1]? = some (.cells #[.int .u8 0, .slice none 0 0, .slice none 0 0, .int .i64 0, .bool false, .int .i64 0, .bool false, .bool false] 28 (0, 0)) := by rw [hW2]; exact hp_top (by simp)
 have HCK := Lib.hid (check13_any names _ hs m n t _ W2 (hr.below hb2) (hn.up hb2 hb2.size) (hf.up hb2 hb2.size))
 obtain ⟨ck, hck⟩ : ∃ ck, checkR names n t = ck := ⟨_, rfl⟩
 rw [hck] at HCK
 have HAT : Hid (∀ W, Below W2.heap.size W2 W → W.heap[w.heap.size]? = some (.cells #[.int .u8 k, .slice a1 l1 c1, .slice a l c, .int .i64 lo, .bool ls, .int .i64 hi, .bool hs', .bool op] 28 (0, 0)) ∧ W.heap[w.heap.size + 1]? = some (.cells #[.int .u8 0, .slice none 0 0, .slice none 0 0, .int .i64 0, .bool false, .int .i64 0, .bool false, .bool false] 28 (0, 0)) ∧ Below w.heap.size w W ∧ w.heap.size + 1 < W.heap.size) := fun W h => ⟨(h.block _ (by omega)).trans hx2, (h.block _ (by omega)).trans hr2, hb2.trans (h.mono hb2.size), by have := h.size; omega⟩
 have x0 := Lib.cell_of_heap hx2 0
 have x1 := Lib.cell_of_heap hx2 1
 have x2 := Lib.cell_of_heap hx2 2
 have x3 := Lib.cell_of_heap hx2 3
 have x4 := Lib.cell_of_heap hx2 4
 have x5 := Lib.cell_of_heap hx2 5
 have x6 := Lib.cell_of_heap hx2 6
 have x7 := Lib.cell_of_heap hx2 7
 simp only [List.getElem?_toArray, List.getElem?_cons_zero, List.getElem?_cons_succ] at x0 x1 x2 x3 x4 x5 x6 x7
 have hxl := (Array.getElem?_eq_some_iff.1 hx2).1
 have HW2 := Lib.hid hW2.symm
 have HF := Lib.hid hf
 have HB := Lib.hid hb
 have HCE := Lib.hid hck
 clear hr hn hf hs hb hb2 hz2 hx2 hr2 hW2 hck
 by_cases h0 : ck = 0
 ·subst h0
  have hall := (checkR_zero.1 HCE.out).2.1
  have hmany := (checkR_zero.1 HCE.out).2.2.1
  rw [manyX_n n t HB.out] at hmany
  have HALL := Lib.hid hall
  have HMANY := Lib.hid hmany
  clear hall hmany
  go_enter Tryz.func32, Tryz.ntmps32
  go_upto_region 1 with fail
  rw [HW2.out]
  clear HW2
  go_wp2_with fail
  refine HCK.out.mono ?_
  rintro e w3 ⟨rfl, hb3⟩
  obtain ⟨hx3, hr3, hbw3, hlt3⟩ := HAT.out w3 hb3
  have HBW3 := Lib.hid hbw3
  have HR3 := Lib.hid hr3
  have HLT3 := Lib.hid hlt3
  clear x0 x1 x2 x3 x4 x5 x6 x7
  have x0 := Lib.cell_of_heap hx3 0
  have x1 := Lib.cell_of_heap hx3 1
  have x2 := Lib.cell_of_heap hx3 2
  have x3 := Lib.cell_of_heap hx3 3
  have x4 := Lib.cell_of_heap hx3 4
  have x5 := Lib.cell_of_heap hx3 5
  have x6 := Lib.cell_of_heap hx3 6
  have x7 := Lib.cell_of_heap hx3 7
  simp only [List.getElem?_toArray, List.getElem?_cons_zero, List.getElem?_cons_succ] at x0 x1 x2 x3 x4 x5 x6 x7
  have HTW := Lib.hid (twin71_any m n t _ w3 (HF.out.up hbw3 hbw3.size) HALL.out)
  clear hb3 hx3 hr3 hbw3
  go_wp2_with fail
  refine HTW.out.mono ?_
  rintro e w4 ⟨⟨kt, b1t, n1t, d1t, b2t, n2t, d2t, lot, lst, hit, hst, opt, rfl, y, hy, ho, hOY⟩, hb4⟩
  have hsz := size1_nX n t y ho hy
  have HNM := Lib.hid (normed70_any _ y (Nat.le_refl _) ho _ _ _ w4 hOY (Nat.le_refl _) (by have := HMANY.out; omega))
  have HY := Lib.hid (And.intro hy ho)
  have HB4 := Lib.hid hb4
  clear x0 x1 x2 x3 x4 x5 x6 x7 hy ho hOY hb4 hsz
  go_wp2_with fail
  refine HNM.out.mono ?_
  rintro e w5 ⟨⟨kz, b1z, n1z, d1z, b2z, n2z, d2z, loz, lsz, hiz, hsz, opz, rfl, hx5⟩, hk5⟩
  obtain ⟨hr5, hend⟩ := norm_end names HCE.out HY.out.1 HY.out.2 HBW3.out (Nat.le_succ _) HLT3.out HB4.out hx5 hk5 HR3.out
  obtain ⟨W6, hW6⟩ : ∃ W6, W6 = tw8 w5 (w.heap.size + 1) (.int .u8 kz) (.slice b1z n1z d1z) (.slice b2z n2z d2z) (.int .i64 loz) (.bool lsz) (.int .i64 hiz) (.bool hsz) (.bool opz) := ⟨_, rfl⟩
  have HEND := Lib.hid (hend W6 hW6)
  have HW6 := Lib.hid hW6
  have r0 := Lib.cell_of_heap hr5 0
  have f0 := Lib.frozen_of_heap hr5 0
  have r1 := Lib.cell_of_heap hr5 1
  have f1 := Lib.frozen_of_heap hr5 1
  have r2 := Lib.cell_of_heap hr5 2
  have f2 := Lib.frozen_of_heap hr5 2
  have r3 := Lib.cell_of_heap hr5 3
  have f3 := Lib.frozen_of_heap hr5 3
  have r4 := Lib.cell_of_heap hr5 4
  have f4 := Lib.frozen_of_heap hr5 4
  have r5 := Lib.cell_of_heap hr5 5
  have f5 := Lib.frozen_of_heap hr5 5
  have r6 := Lib.cell_of_heap hr5 6
  have f6 := Lib.frozen_of_heap hr5 6
  have r7 := Lib.cell_of_heap hr5 7
  have f7 := Lib.frozen_of_heap hr5 7
  simp only [List.getElem?_toArray, List.getElem?_cons_zero, List.getElem?_cons_succ] at r0 r1 r2 r3 r4 r5 r6 r7
  clear hx5 hk5 hr5 hend hW6
  go_wp2_with fail
  refine bodyPost_ret (results_cell_row_tmp rfl _ _ _ _ _ _ _ _ rfl rfl (by have := HEND.out.1; rw [HW6.out] at this; exact this) Tryz.underlying28 rfl (by kernel_rfl)) rfl ?_
  have h2 := HEND.out.2
  rw [HW6.out] at h2
  exact ⟨_, _, rfl, h2.1, h2.2⟩
 ·have q : (ck != 0) = true := by simpa using h0
  have HQ := Lib.hid h0
  clear h0
  go_enter Tryz.func32, Tryz.ntmps32
  go_upto_region 1 with fail
  rw [HW2.out]
  clear HW2
  go_wp2_with fail
  refine HCK.out.mono ?_
  rintro e w3 ⟨rfl, hb3⟩
  obtain ⟨hx3, hr3, hbw3, hlt3⟩ := HAT.out w3 hb3
  have HBW3 := Lib.hid hbw3
  obtain ⟨W6, hW6⟩ : ∃ W6, W6 = tw8 w3 (w.heap.size + 1) (.int .u8 0) (.slice none 0 0) (.slice none 0 0) (.int .i64 0) (.bool false) (.int .i64 0) (.bool false) (.bool false) := ⟨_, rfl⟩
  have HW6 := Lib.hid hW6
  have HR6 : Hid (W6.heap[w.heap.size + 1]? = some (.cells #[.int .u8 0, .slice none 0 0, .slice none 0 0, .int .i64 0, .bool false, .int .i64 0, .bool false, .bool false] 28 (0, 0)) ∧ Below w.heap.size w W6) := by
   rw [Hid, hW6]
   exact ⟨tw8_at hr3 _ _ _ _ _ _ _ _, ((Kp.of_below (lo := w.heap.size) (hi := w.heap.size) hbw3).tw8 (Nat.le_succ _) _ _ _ _ _ _ _ _).below (Nat.le_refl _) (Nat.le_refl _)⟩
  clear x0 x1 x2 x3 x4 x5 x6 x7
  have r0 := Lib.cell_of_heap hr3 0
  have f0 := Lib.frozen_of_heap hr3 0
  have r1 := Lib.cell_of_heap hr3 1
  have f1 := Lib.frozen_of_heap hr3 1
  have r2 := Lib.cell_of_heap hr3 2
  have f2 := Lib.frozen_of_heap hr3 2
  have r3 := Lib.cell_of_heap hr3 3
  have f3 := Lib.frozen_of_heap hr3 3
  have r4 := Lib.cell_of_heap hr3 4
  have f4 := Lib.frozen_of_heap hr3 4
  have r5 := Lib.cell_of_heap hr3 5
  have f5 := Lib.frozen_of_heap hr3 5
  have r6 := Lib.cell_of_heap hr3 6
  have f6 := Lib.frozen_of_heap hr3 6
  have r7 := Lib.cell_of_heap hr3 7
  have f7 := Lib.frozen_of_heap hr3 7
  simp only [List.getElem?_toArray, List.getElem?_cons_zero, List.getElem?_cons_succ] at r0 r1 r2 r3 r4 r5 r6 r7
  clear hb3 hx3 hr3 hbw3 hW6
  go_wp2_with fail
  refine bodyPost_ret (results_cell_row_tmp rfl _ _ _ _ _ _ _ _ rfl rfl (by have := HR6.out.1; rw [HW6.out] at this; exact this) Tryz.underlying28 rfl (by kernel_rfl)) rfl ?_
  have h2 := HR6.out.2
  rw [HW6.out] at h2
  refine ⟨_, _, rfl, ?_, h2⟩
  rw [← HCE.out]
  exact .err (by rw [HCE.out]; exact HQ.out)
end Go.Proofs.YtpgdplmndnopbaaGreatDoor