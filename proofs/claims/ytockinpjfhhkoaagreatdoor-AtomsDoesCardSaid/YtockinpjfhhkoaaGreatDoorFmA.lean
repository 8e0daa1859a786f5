/- tree.Formula walked: whether a formula may be. -/
import Derived.StillTailTactics
import Derived.Deep.RegionHeld3
import Derived.Deep.RegionLaw
import Derived.Test.YtockinpjfhhkoaaGreatDoorMgN
import Derived.Test.YtockinpjfhhkoaaGreatDoorTreeN
namespace Go.Proofs.YtockinpjfhhkoaaGreatDoor
open Go.RowKit
attribute [local go_sem ↓] Go.wp_at_zero Go.wp_at_succ

set_option maxRecDepth 100000 in
set_option maxHeartbeats 8000000 in
theorem formula16_any (names : List ByteArray) (nv : Value) (hs : ∀ s ∈ names, s.size ≤ 1048576) (n : Nat) (t : FT n) (v : Value) (w : World) (hr : Rdy w) (hn : NRep w w.heap.size nv names) (hf : FRep w w.heap.size n t v) :
    Calls Tryz.prog 85 #[nv, v] w fun e w' => e = .returned (.int .i64 (fmlR names n t)) ∧ Below w.heap.size w w' := by
  obtain ⟨k, s, a, l, c, rfl⟩ := hf.shape
  have hb : Below w.heap.size w (w.alloc (.cells #[.int .u8 k, .string s, .slice a l c] 25)) := (Below.refl _ _).alloc (Nat.le_refl _) _
  have HN := Lib.hid (names17_any names nv hs _ (hr.below hb) (hn.up hb hb.size))
  have HB := Lib.hid hb
  have HF := Lib.hid hf
  have HNR := Lib.hid hn
  have hshape := hn
  obtain ⟨na, nc, hnv, _⟩ := hshape
  have HE : Hid (fmlR names n t = if namesR names ≠ 0 then 2 else if allF rightB n t = false then 8 else if 64 < fmsC n [t] then 160 else if allF (declB names) n t = false then 161 else 0) := rfl
  clear hr hs hb hf hn
  subst hnv
  by_cases h1 : namesR names = 0
  · have q1 : (namesR names != 0) = false := by simp [h1]
    have HB1 : Hid (∀ w1, Below (w.alloc (.cells #[.int .u8 k, .string s, .slice a l c] 25)).heap.size (w.alloc (.cells #[.int .u8 k, .string s, .slice a l c] 25)) w1 → Below w.heap.size w w1 ∧ w1.cell? ⟨w.heap.size, 0, none⟩ = some (.int .u8 k) ∧ w1.cell? ⟨w.heap.size, 1, none⟩ = some (.string s) ∧ w1.cell? ⟨w.heap.size, 2, none⟩ = some (.slice a l c) ∧ w.heap.size < w1.heap.size) :=
      fun w1 hb1 => ⟨HB.out.trans (hb1.mono HB.out.size), box_cells3 hb1⟩
    rw [if_neg (by simp [h1])] at HE
    clear h1
    cases h2 : allF rightB n t with
    | false =>
      have H2 := Lib.hid h2
      go_enter Tryz.func85, Tryz.ntmps85
      go_wp2_with fail
      refine HN.out.mono ?_
      rintro e w1 ⟨rfl, hb1⟩
      obtain ⟨hbw, x0, x1, x2, hz⟩ := HB1.out w1 hb1
      have HA := Lib.hid (all42_any rightB 140 #[] n t _ w1 (HF.out.up hbw hbw.size) (so44 _))
      have HBW := Lib.hid hbw
      rw [h2] at HA
      clear hb1 hbw h2
      go_wp2_with fail
      refine HA.out.mono ?_
      rintro e w2 ⟨rfl, hb2⟩
      have HBW2 := Lib.hid (HBW.out.trans (hb2.mono HBW.out.size))
      clear hb2
      go_wp2_with fail
      all_goals go_ret
      all_goals exact ⟨ret_i (by rw [HE.out, H2.out]; rfl), HBW2.out⟩
    | true =>
      have H2 := Lib.hid h2
      go_enter Tryz.func85, Tryz.ntmps85
      go_wp2_with fail
      refine HN.out.mono ?_
      rintro e w1 ⟨rfl, hb1⟩
      obtain ⟨hbw, x0, x1, x2, hz⟩ := HB1.out w1 hb1
      have HA := Lib.hid (all42_any rightB 140 #[] n t _ w1 (HF.out.up hbw hbw.size) (so44 _))
      have HBW := Lib.hid hbw
      rw [h2] at HA
      clear hb1 hbw h2
      go_wp2_with fail
      refine HA.out.mono ?_
      rintro e w2 ⟨rfl, hb2⟩
      have hbw2 := HBW.out.trans (hb2.mono HBW.out.size)
      have HBW2 := Lib.hid hbw2
      have y0 := (hb2.cell (p := ⟨w.heap.size, 0, none⟩) hz).trans x0
      have y1 := (hb2.cell (p := ⟨w.heap.size, 1, none⟩) hz).trans x1
      have y2 := (hb2.cell (p := ⟨w.heap.size, 2, none⟩) hz).trans x2
      have hz2 : w.heap.size < w2.heap.size := by have := hb2.size; omega
      have hb3 : Below w2.heap.size w2 (w2.alloc (.cells #[.int .u8 k, .string s, .slice a l c] 25)) := (Below.refl _ _).alloc (Nat.le_refl _) _
      have hrow : FRow (w2.alloc (.cells #[.int .u8 k, .string s, .slice a l c] 25)) (w2.alloc (.cells #[.int .u8 k, .string s, .slice a l c] 25)).heap.size n (some ⟨w2.heap.size, 0, none⟩) [t] := by
        refine ⟨by simp, .inr ⟨w2.heap.size, 0, rfl, by simp, fun i hi => ?_⟩⟩
        obtain rfl : i = 0 := by simpa using hi
        refine ⟨[.int .u8 k, .string s, .slice a l c], rfl, fun j hj => ?_, HF.out.up (hbw2.trans (hb3.mono hbw2.size)) (by simp; omega)⟩
        rw [World.cell?_alloc_at _ _ _ _ rfl]
        simp
      have HFM := Lib.hid (formulas41_any n [t] _ 1 _ hrow)
      have HB3 : Hid (∀ w3, Below (w2.alloc (.cells #[.int .u8 k, .string s, .slice a l c] 25)).heap.size (w2.alloc (.cells #[.int .u8 k, .string s, .slice a l c] 25)) w3 → Below w2.heap.size w2 w3) := fun w3 h => hb3.trans (h.mono hb3.size)
      clear hb2 hbw2 x0 x1 x2 hz hb3 hrow
      go_wp2_with fail
      refine HFM.out.mono ?_
      rintro e w3 ⟨rfl, hb3⟩
      have hb3' := HB3.out w3 hb3
      have hbw3 := HBW2.out.trans (hb3'.mono HBW2.out.size)
      have HBW3 := Lib.hid hbw3
      by_cases h3 : 64 < fmsC n [t]
      · have H3 : Hid (fmlR names n t = 160) := by rw [Hid, HE.out, H2.out, if_neg (by simp), if_pos h3]
        clear hb3 hb3' hbw3
        go_wp2_with fail
        all_goals go_ret
        all_goals exact ⟨ret_i (by rw [H3.out]), HBW3.out⟩
      · have H3 : Hid (fmlR names n t = if allF (declB names) n t = false then 161 else 0) := by rw [Hid, HE.out, H2.out, if_neg (by simp), if_neg h3]
        have z0 := (hb3'.cell (p := ⟨w.heap.size, 0, none⟩) hz2).trans y0
        have z1 := (hb3'.cell (p := ⟨w.heap.size, 1, none⟩) hz2).trans y1
        have z2 := (hb3'.cell (p := ⟨w.heap.size, 2, none⟩) hz2).trans y2
        have hz3 : w.heap.size < w3.heap.size := by have := hb3'.size; omega
        have HD : Hid (∀ (W : World) (N : Nat), Below w3.heap.size w3 W → W.heap[N]? = some (.cells #[.slice na names.length nc] 22 (0, 0)) → N < W.heap.size → Calls Tryz.prog 130 #[.agg #[.int .u8 k, .string s, .slice a l c], .pointer (some ⟨N, 0, none⟩)] W fun e w' => e = .returned (.bool (allF (declB names) n t)) ∧ Below w3.heap.size w3 w') := by
          intro W N hW hbl hlt
          have hbW := hbw3.trans (hW.mono hbw3.size)
          exact (declared51_any names _ N n t _ W hlt (Lib.cell_of_heap hbl 0) (HNR.out.up hbW hbW.size) (HF.out.up hbW hbW.size)).mono fun e w' h => ⟨h.1, hW.trans (h.2.mono hW.size)⟩
        clear hb3 hb3' hbw3 y0 y1 y2 hz2
        have HD2 : Hid (Calls Tryz.prog 130 #[.agg #[.int .u8 k, .string s, .slice a l c], .pointer (some ⟨w3.heap.size, 0, none⟩)] (w3.drew.alloc (.cells #[.slice na names.length nc] 22)) fun e w' => e = .returned (.bool (allF (declB names) n t)) ∧ Below w3.heap.size w3 w') :=
          HD.out _ _ ((Below.refl _ w3).drew.alloc (Nat.le_refl _) _) (by show (w3.heap.push _)[w3.heap.size]? = _; exact Array.getElem?_push_size) (by show w3.heap.size < (w3.heap.push _).size; simp)
        clear HD
        cases h4 : allF (declB names) n t with
        | false =>
          have H4 : Hid (fmlR names n t = 161) := by rw [Hid, H3.out, if_pos h4]
          rw [h4] at HD2
          clear h4
          go_wp2_with fail
          go_region_law (first | (go_simp; go_at_call 67; refine (declared31_any _ _ _ _).mono ?_; rintro e w4 ⟨rfl, rfl⟩) | (go_simp; go_at_call 130; refine HD2.out.mono ?_; rintro e w4 ⟨rfl, hb4⟩))
          all_goals
            have HBW4 := Lib.hid (HBW3.out.trans (hb4.mono HBW3.out.size))
            clear hb4
            go_wp2_with fail
          all_goals go_ret
          all_goals exact ⟨ret_i (by rw [H4.out]), HBW4.out⟩
        | true =>
          have H4 : Hid (fmlR names n t = 0) := by rw [Hid, H3.out, if_neg (by simp [h4])]
          rw [h4] at HD2
          clear h4
          go_wp2_with fail
          go_region_law (first | (go_simp; go_at_call 67; refine (declared31_any _ _ _ _).mono ?_; rintro e w4 ⟨rfl, rfl⟩) | (go_simp; go_at_call 130; refine HD2.out.mono ?_; rintro e w4 ⟨rfl, hb4⟩))
          all_goals
            have HBW4 := Lib.hid (HBW3.out.trans (hb4.mono HBW3.out.size))
            clear hb4
            go_wp2_with fail
          all_goals go_ret
          all_goals exact ⟨ret_i (by rw [H4.out]), HBW4.out⟩
  · have q1 : (namesR names != 0) = true := by simp [h1]
    have H1 : Hid (fmlR names n t = 2) := by rw [Hid, HE.out, if_pos h1]
    clear h1
    go_enter Tryz.func85, Tryz.ntmps85
    go_wp2_with fail
    refine HN.out.mono ?_
    rintro e w1 ⟨rfl, hb1⟩
    have HBW := Lib.hid (HB.out.trans (hb1.mono HB.out.size))
    clear hb1
    go_wp2_with fail
    all_goals go_ret
    all_goals exact ⟨ret_i (by rw [H1.out]), HBW.out⟩
end Go.Proofs.YtockinpjfhhkoaaGreatDoor
