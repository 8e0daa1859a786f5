/- PrintBack walked: the text of what may be is parsed to just that. -/
import Derived.Test.YtpgdplmndnopbaaGreatDoorJnC
import Derived.Test.YtpgdplmndnopbaaGreatDoorSmA
import Derived.Test.YtpgdplmndnopbaaGreatDoorTreeJ
import Derived.Test.YtpgdplmndnopbaaGreatDoorTreeR
import Derived.Test.YtpgdplmndnopbaaGreatDoorMgG
namespace Go.Proofs.YtpgdplmndnopbaaGreatDoor
open Go.RowKit

/-- What is not great is small. -/
theorem small_of {m n : Nat} {t : XT m n} (hb : bndX n t) (h : decide (2000 < sizeX n t 2000) = false) : tX n t ≤ 2000 := by
  have h1 := sizeX_le n t hb 2000 (by omega) (by omega)
  have h2 : sizeX n t 2000 ≤ 2000 := by simpa using h
  have h3 := h1.2.2 h2
  omega
/-- What may be and is not too much is at most 64 nodes. -/
theorem nX_small {m n : Nat} {t : XT m n} {names : List ByteArray} (h : checkR names n t = 0) (ht : tX n t ≤ 100000) : nX n t ≤ 64 := by
  have h1 := (checkR_zero.1 h).2.2.1
  have h2 := nX_le n t
  rw [manyX_n n t (by omega)] at h1
  omega
/-- The text of what may be, parsed. -/
theorem parse_text {names : List ByteArray} {m n : Nat} {t : XT m n} (hc : checkR names n t = 0) (ht : tX n t ≤ 100000) (h4 : (textR names n t).length ≤ 4096) {w : World} {v : Value} {at_ cd : Int} (h : ParseIs names ⟨(textR names n t).toArray⟩ w v at_ cd) :
    at_ = 0 ∧ cd = 0 ∧ ∃ (m' n' : Nat) (t' : XT m' n'), toX n' t' = toX n t ∧ XRep w w.heap.size m' n' t' v := by
  have e : textR names n t = prX Lib.itoa n t 0 := by rw [textR, if_pos hc]
  have hz := checkR_zero.1 hc
  obtain ⟨l, h1, h2⟩ := print_cut_parse Lib.itoa itoa_digits itoa_kind t hz.2.1 (check_nm hc) (nX_small hc ht) ((textR names n t).length : Nat)
  rw [← e] at h1
  have hcut : cutR ⟨(textR names n t).toArray⟩ = (l, 0, 0) := by
    have hs : (⟨(textR names n t).toArray⟩ : ByteArray).size = (textR names n t).length := by show (textR names n t).toArray.size = _; simp
    unfold cutR
    rw [if_neg (by rw [hs]; omega)]
    show (match cut 0 (textR names n t) with | .ok l => (l, 0, 0) | .bad a e => ([], (a : Int), e)) = _
    rw [h1]
  have hs : (⟨(textR names n t).toArray⟩ : ByteArray).size = (textR names n t).length := by show (textR names n t).toArray.size = _; simp
  exact h.at_ok hz.1 (by rw [hcut]) (by rw [hcut, hs]; exact h2) hc
theorem parse_long {names : List ByteArray} {s : ByteArray} (hn : namesR names = 0) (h4 : 4096 < s.size) {w : World} {v : Value} {at_ cd : Int} (h : ParseIs names s w v at_ cd) : at_ = 0 ∧ cd = 3 ∧ v = noX := by
  have hcut : cutR s = ([], 0, 3) := by unfold cutR; rw [if_pos h4]
  cases h with
  | names h => exact absurd hn h
  | cut _ _ => rw [hcut]; exact ⟨rfl, rfl, rfl⟩
  | wrong _ hc _ _ _ => rw [hcut] at hc; cases hc
  | check _ hc _ _ _ _ _ => rw [hcut] at hc; cases hc
  | ok _ hc _ _ _ _ _ _ _ => rw [hcut] at hc; cases hc

set_option maxRecDepth 100000 in
set_option maxHeartbeats 16000000 in
theorem printBack9_any (l : List ByteArray) (nv : Value) (m n : Nat) (t : XT m n) (v : Value) (w : World) (hr : Rdy w) (hn : NRep w w.heap.size nv l) (hw : ∀ s ∈ l, s.size ≤ 281474976710656) (hx : XRep w w.heap.size m n t v) (hb : bndX n t) :
    Calls Tryz.prog 9 #[nv, v] w fun e w' => e = .returned (.bool true) ∧ Below w.heap.size w w' := by
  obtain ⟨k, a1, l1, c1, a, l2, c, lo, ls, hi, hs', op, rfl⟩ := hx.shape
  obtain ⟨na, nc, rfl, _⟩ := id hn
  obtain ⟨W0, hW0⟩ : ∃ W0, W0 = w.alloc (.cells #[.int .u8 k, .slice a1 l1 c1, .slice a l2 c, .int .i64 lo, .bool ls, .int .i64 hi, .bool hs', .bool op] 28) := ⟨_, rfl⟩
  have HB0 : Hid (Below w.heap.size w W0) := by rw [Hid, hW0]; exact (Below.refl _ w).alloc (Nat.le_refl _) _
  have HK0 : Hid (W0.heap[w.heap.size]? = some (.cells #[.int .u8 k, .slice a1 l1 c1, .slice a l2 c, .int .i64 lo, .bool ls, .int .i64 hi, .bool hs', .bool op] 28 (0, 0))) := by rw [Hid, hW0]; exact hp_top rfl
  have HR := Lib.hid hr
  have HN := Lib.hid hn
  have HX := Lib.hid hx
  have HW := Lib.hid hw
  have HBD := Lib.hid hb
  have HW0 := Lib.hid hW0.symm
  have HZ0 : Hid (W0.heap.size = w.heap.size + 1) := by rw [Hid, hW0]; simp
  have HCL : Hid (∀ W, Below W0.heap.size W0 W → W.heap[w.heap.size]? = some (.cells #[.int .u8 k, .slice a1 l1 c1, .slice a l2 c, .int .i64 lo, .bool ls, .int .i64 hi, .bool hs', .bool op] 28 (0, 0)) ∧ Below w.heap.size w W ∧ w.heap.size < W.heap.size) := by
    intro W hW
    have := HZ0.out
    have := hW.size
    exact ⟨(hW.block _ (by omega)).trans HK0.out, HB0.out.trans (hW.mono HB0.out.size), by omega⟩
  have HGX : Hid (∀ W, Below w.heap.size w W → Calls Tryz.prog 15 #[.agg #[.int .u8 k, .slice a1 l1 c1, .slice a l2 c, .int .i64 lo, .bool ls, .int .i64 hi, .bool hs', .bool op]] W fun e w' => e = .returned (.bool (decide (2000 < sizeX n t 2000))) ∧ Below W.heap.size W w') := fun W h => great11_any m n t _ W (HX.out.up h h.size)
  have HGN : Hid (∀ W, Below w.heap.size w W → Calls Tryz.prog 16 #[.slice na l.length nc] W fun e w' => e = .returned (.bool (greatN l)) ∧ w' = W) := fun W h => greatNames12_any l _ W (HN.out.up h h.size)
  clear hr hn hx hw hb hW0
  go_enter Tryz.func9, Tryz.ntmps9
  go_wp2_with fail
  rw [HW0.out]
  clear HW0
  refine (alive29_any W0 (HR.out.below HB0.out)).mono ?_
  rintro e w1 ⟨rfl, hb1⟩
  obtain ⟨hk1, hbw1, hlt1⟩ := HCL.out w1 hb1
  have HB1 := Lib.hid hbw1
  have HB01 := Lib.hid hb1
  have x0 := Lib.cell_of_heap hk1 0
  have x1 := Lib.cell_of_heap hk1 1
  have x2 := Lib.cell_of_heap hk1 2
  have x3 := Lib.cell_of_heap hk1 3
  have x4 := Lib.cell_of_heap hk1 4
  have x5 := Lib.cell_of_heap hk1 5
  have x6 := Lib.cell_of_heap hk1 6
  have x7 := Lib.cell_of_heap hk1 7
  simp only [List.getElem?_toArray, List.getElem?_cons_zero, List.getElem?_cons_succ] at x0 x1 x2 x3 x4 x5 x6 x7
  clear hk1 hbw1 hb1
  go_wp2_with fail
  refine (HGX.out w1 HB1.out).mono ?_
  rintro e w2 ⟨rfl, hb2⟩
  have HB02 := Lib.hid (HB01.out.trans (hb2.mono HB01.out.size))
  clear hb2 x0 x1 x2 x3 x4 x5 x6 x7 hlt1
  obtain ⟨hk2, hbw2, hlt2⟩ := HCL.out w2 HB02.out
  have HB2 := Lib.hid hbw2
  have HK2 := Lib.hid hk2
  clear hk2 hbw2
  cases qg : decide (2000 < sizeX n t 2000) with
  | true =>
    go_wp2_with fail
    all_goals go_ret
    all_goals exact ⟨rfl, HB2.out⟩
  | false =>
    have HTX : Hid (tX n t ≤ 2000) := small_of HBD.out qg
    clear qg
    go_wp2_with fail
    refine (HGN.out w2 HB2.out).mono ?_
    rintro e w3 ⟨rfl, rfl⟩
    cases qn : greatN l with
    | true =>
      go_wp2_with fail
      all_goals go_ret
      all_goals exact ⟨rfl, HB2.out⟩
    | false =>
      have HSM : Hid (∀ s ∈ l, s.size ≤ 1048576) := greatN_not qn HW.out
      clear qn
      have hk2 := HK2.out
      have x0 := Lib.cell_of_heap hk2 0
      have x1 := Lib.cell_of_heap hk2 1
      have x2 := Lib.cell_of_heap hk2 2
      have x3 := Lib.cell_of_heap hk2 3
      have x4 := Lib.cell_of_heap hk2 4
      have x5 := Lib.cell_of_heap hk2 5
      have x6 := Lib.cell_of_heap hk2 6
      have x7 := Lib.cell_of_heap hk2 7
      simp only [List.getElem?_toArray, List.getElem?_cons_zero, List.getElem?_cons_succ] at x0 x1 x2 x3 x4 x5 x6 x7
      clear hk2
      have HPR := Lib.hid (print18_any l _ HSM.out m n t _ w3 (HR.out.below HB2.out) (HN.out.up HB2.out HB2.out.size) (HX.out.up HB2.out HB2.out.size) (by have := HTX.out; omega))
      obtain ⟨ck, hck⟩ : ∃ ck, ck = checkR l n t := ⟨_, rfl⟩
      obtain ⟨tx, htx⟩ : ∃ tx : ByteArray, tx = ⟨(textR l n t).toArray⟩ := ⟨_, rfl⟩
      rw [← hck, ← htx] at HPR
      have HCK := Lib.hid hck
      have HTXT := Lib.hid htx
      clear hck htx
      go_wp2_with fail
      refine HPR.out.mono ?_
      rintro e w4 ⟨rfl, hb4⟩
      have HB04 := Lib.hid (HB02.out.trans (hb4.mono HB02.out.size))
      clear hb4 x0 x1 x2 x3 x4 x5 x6 x7
      obtain ⟨hk4, hbw4, hlt4⟩ := HCL.out w4 HB04.out
      have HB4 := Lib.hid hbw4
      have x0 := Lib.cell_of_heap hk4 0
      have x1 := Lib.cell_of_heap hk4 1
      have x2 := Lib.cell_of_heap hk4 2
      have x3 := Lib.cell_of_heap hk4 3
      have x4 := Lib.cell_of_heap hk4 4
      have x5 := Lib.cell_of_heap hk4 5
      have x6 := Lib.cell_of_heap hk4 6
      have x7 := Lib.cell_of_heap hk4 7
      simp only [List.getElem?_toArray, List.getElem?_cons_zero, List.getElem?_cons_succ] at x0 x1 x2 x3 x4 x5 x6 x7
      clear hk4 hbw4
      by_cases hc0 : ck = 0
      · subst hc0
        have HC : Hid (checkR l n t = 0) := HCK.out.symm
        have HPA := Lib.hid (parse21_any l _ HSM.out tx w4 (HR.out.below HB4.out) (HN.out.up HB4.out HB4.out.size))
        have HTL : Hid (tx.size = (textR l n t).length) := by rw [Hid, HTXT.out]; show (textR l n t).toArray.size = _; simp
        by_cases h4 : 4096 < tx.size
        · have h4i : (4096 : Int) < (tx.size : Int) := by omega
          have HL4 := Lib.hid h4
          clear h4
          go_wp2_with fail
          refine HPA.out.mono ?_
          rintro e w5 ⟨y, at_, cd, rfl, hp, hb5⟩
          obtain ⟨rfl, rfl, rfl⟩ := parse_long (checkR_zero.1 HC.out).1 HL4.out hp
          have HB5 := Lib.hid (HB4.out.trans (hb5.mono HB4.out.size))
          have HB6 : Hid (∀ o, Below w.heap.size w (w5.alloc o)) := fun o => HB5.out.alloc (by have := HB5.out.size; omega) o
          clear hp hb5 x0 x1 x2 x3 x4 x5 x6 x7
          unfold noX
          go_wp2_with fail
          all_goals go_ret
          all_goals exact ⟨rfl, HB6.out _⟩
        · have h4i : ¬ (4096 : Int) < (tx.size : Int) := by omega
          have HL4 : Hid ((textR l n t).length ≤ 4096) := by rw [Hid, ← HTL.out]; omega
          clear h4
          go_wp2_with fail
          refine HPA.out.mono ?_
          rintro e w5 ⟨y, at_, cd, rfl, hp, hb5⟩
          rw [HTXT.out] at hp
          obtain ⟨rfl, rfl, m', n', t', ht', hy⟩ := parse_text HC.out (by have := HTX.out; omega) HL4.out hp
          obtain ⟨k', a1', l1', c1', a', l2', c', lo', ls', hi', hs2', op', rfl⟩ := hy.shape
          have HB05 := HB04.out.trans (hb5.mono HB04.out.size)
          have hb6 : Below w5.heap.size w5 (w5.alloc (.cells #[.int .u8 k', .slice a1' l1' c1', .slice a' l2' c', .int .i64 lo', .bool ls', .int .i64 hi', .bool hs2', .bool op'] 28)) := (Below.refl _ _).alloc (Nat.le_refl _) _
          obtain ⟨w6, hw6⟩ : ∃ w6, w6 = w5.alloc (.cells #[.int .u8 k', .slice a1' l1' c1', .slice a' l2' c', .int .i64 lo', .bool ls', .int .i64 hi', .bool hs2', .bool op'] 28) := ⟨_, rfl⟩
          rw [← hw6] at hb6
          obtain ⟨hk6, hbw6, hlt6⟩ := HCL.out w6 (HB05.trans (hb6.mono HB05.size))
          have HB6 := Lib.hid hbw6
          have HSAME := Lib.hid (same27_any m m' n n' t t' _ _ w6 (HX.out.up hbw6 hbw6.size) (hy.up hb6 hb6.size))
          have HEQ : Hid (toX n t = toX n' t') := ht'.symm
          have hk7 : w6.heap[w5.heap.size]? = some (.cells #[.int .u8 k', .slice a1' l1' c1', .slice a' l2' c', .int .i64 lo', .bool ls', .int .i64 hi', .bool hs2', .bool op'] 28 (0, 0)) := by rw [hw6]; exact hp_top rfl
          clear x0 x1 x2 x3 x4 x5 x6 x7
          have x0 := Lib.cell_of_heap hk6 0
          have x1 := Lib.cell_of_heap hk6 1
          have x2 := Lib.cell_of_heap hk6 2
          have x3 := Lib.cell_of_heap hk6 3
          have x4 := Lib.cell_of_heap hk6 4
          have x5 := Lib.cell_of_heap hk6 5
          have x6 := Lib.cell_of_heap hk6 6
          have x7 := Lib.cell_of_heap hk6 7
          have y0 := Lib.cell_of_heap hk7 0
          have y1 := Lib.cell_of_heap hk7 1
          have y2 := Lib.cell_of_heap hk7 2
          have y3 := Lib.cell_of_heap hk7 3
          have y4 := Lib.cell_of_heap hk7 4
          have y5 := Lib.cell_of_heap hk7 5
          have y6 := Lib.cell_of_heap hk7 6
          have y7 := Lib.cell_of_heap hk7 7
          have hlt7 := (Array.getElem?_eq_some_iff.1 hk7).1
          simp only [List.getElem?_toArray, List.getElem?_cons_zero, List.getElem?_cons_succ] at x0 x1 x2 x3 x4 x5 x6 x7 y0 y1 y2 y3 y4 y5 y6 y7
          have HW6 := Lib.hid hw6.symm
          clear hp hb5 hb6 hk6 hk7 hbw6 HB05 hy ht' hw6
          go_upto_region 8 with fail
          rw [HW6.out]
          clear HW6
          go_wp2_with fail
          refine HSAME.out.mono ?_
          rintro e w7 ⟨⟨b, rfl, hbb⟩, hb7⟩
          obtain rfl : b = true := hbb.2 HEQ.out
          have HB7 := Lib.hid (HB6.out.trans (hb7.mono HB6.out.size))
          clear hbb hb7
          go_wp2_with fail
          all_goals go_ret
          all_goals exact ⟨rfl, HB7.out⟩
      · have q : (ck != 0) = true := by simpa using hc0
        have HCH : Hid (Calls Tryz.prog 25 #[.slice na l.length nc, .agg #[.int .u8 k, .slice a1 l1 c1, .slice a l2 c, .int .i64 lo, .bool ls, .int .i64 hi, .bool hs', .bool op]] w4 fun e w' => e = .returned (.int .i64 ck) ∧ Below w4.heap.size w4 w') := by
          rw [HCK.out]
          exact check13_any l _ HSM.out m n t _ w4 (HR.out.below HB4.out) (HN.out.up HB4.out HB4.out.size) (HX.out.up HB4.out HB4.out.size)
        have ht : tx = ⟨#[]⟩ := by
          rw [HTXT.out, textR, if_neg (by rw [← HCK.out]; exact hc0)]
        subst ht
        clear hc0
        go_wp2_with fail
        refine HCH.out.mono ?_
        rintro e w5 ⟨rfl, hb5⟩
        have HB5 := Lib.hid (HB4.out.trans (hb5.mono HB4.out.size))
        clear hb5
        go_wp2_with fail
        all_goals go_ret
        all_goals exact ⟨rfl, HB5.out⟩
end Go.Proofs.YtpgdplmndnopbaaGreatDoor
