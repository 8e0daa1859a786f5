/- The law PropApart, walked. -/
import Derived.Deep.RegionHeld3
import Derived.Test.YtabpfbgcdmejbaaDoorPropM1
import Derived.Test.YtabpfbgcdmejbaaDoorPropH
import Derived.Test.YtabpfbgcdmejbaaDoorPropL
import Derived.Test.YtabpfbgcdmejbaaDoorPropG
namespace Go.Proofs.YtabpfbgcdmejbaaDoor
open Go.RowKit
attribute [local go_sem ↓] Go.wp_at_zero Go.wp_at_succ
attribute [local go_sem] Oper.semAt_some

set_option maxRecDepth 100000 in
set_option maxHeartbeats 16000000 in
theorem propApart7 (names : List ByteArray) (nv : Value) (n : Nat) (f : FT n) (v : Value) (on at_ : Int) (w : World) (hr : Rdy w) (hn : NRep w w.heap.size nv names) (hw0 : ∀ s ∈ names, s.size ≤ 281474976710656)
    (hf : FRep w w.heap.size n f v) (ho : 0 ≤ on) (ho2 : on ≤ 255) : Calls Tryd.prog 7 #[nv, v, .int .u8 on, .int .i64 at_] w fun e w' => e = .returned (.bool true) ∧ Below w.heap.size w w' := by
  obtain ⟨k, s, a, l, c, rfl⟩ := hf.shape
  obtain ⟨na, nc, hnv, hnm, hnc⟩ := id hn
  subst hnv
  have HGN : Hid (greatN names = false → ∀ s ∈ names, s.size ≤ 1048576) := fun h => greatN_not h hw0
  have hb0 : Below w.heap.size w (w.alloc (.cells #[.int .u8 k, .string s, .slice a l c] 39)) := below_alloc (Below.refl _ _) _
  have HB0 := Lib.hid hb0
  have HF : Hid (∀ W, Below w.heap.size w W → FRep W W.heap.size n f (.agg #[.int .u8 k, .string s, .slice a l c])) := fun W h => hf.up h h.size
  have HN : Hid (∀ W, Below w.heap.size w W → NRep W W.heap.size (.slice na names.length nc) names) := fun W h => hn.up h h.size
  have HR : Hid (∀ W, Below w.heap.size w W → Rdy W) := fun W h => hr.below h
  have HV : Hid (∀ W, Below (w.alloc (.cells #[.int .u8 k, .string s, .slice a l c] 39)).heap.size (w.alloc (.cells #[.int .u8 k, .string s, .slice a l c] 39)) W → W.heap[w.heap.size]? = some (.cells #[.int .u8 k, .string s, .slice a l c] 39 (0, 0))) :=
    fun W h => (h.block _ (by simp)).trans (heap_top rfl)
  have HNC := Lib.hid hnc
  clear hr hn hw0 hf hb0 hnc
  go_enter Tryd.func7, Tryd.ntmps7
  go_wp2_with fail
  refine (alive23_any _ (HR.out _ HB0.out)).mono ?_
  rintro e w1 ⟨rfl, hb1⟩
  have HB1 := Lib.hid hb1
  clear hb1
  have HBW : Hid (∀ W, Below w1.heap.size w1 W → Below w.heap.size w W) := fun W h => (HB0.out.trans (HB1.out.mono HB0.out.size)).trans (h.mono (HB0.out.trans (HB1.out.mono HB0.out.size)).size)
  have HC : Hid (∀ W, Below w1.heap.size w1 W → W.cell? ⟨w.heap.size, 0, none⟩ = some (.int .u8 k) ∧ W.cell? ⟨w.heap.size, 1, none⟩ = some (.string s) ∧ W.cell? ⟨w.heap.size, 2, none⟩ = some (.slice a l c) ∧ w.heap.size < W.heap.size) := by
    intro W h
    have h1 := HV.out W (HB1.out.trans (h.mono HB1.out.size))
    exact ⟨Lib.cell_of_heap h1 0, Lib.cell_of_heap h1 1, Lib.cell_of_heap h1 2, (Array.getElem?_eq_some_iff.1 h1).1⟩
  clear HV
  obtain ⟨x0, x1, x2, hz⟩ := HC.out w1 (Below.refl _ _)
  go_wp2_with fail
  refine (greatF24_any n f _ w1 (HF.out _ (HBW.out _ (Below.refl _ _)))).mono ?_
  rintro e w2 ⟨rfl, hb2⟩
  have HB2 := Lib.hid hb2
  clear hb2 x0 x1 x2 hz
  cases q1 : decide (2000 < sizeF n f 2000) with
  | true =>
    go_wp2_with fail
    all_goals go_ret
    all_goals exact ⟨rfl, HBW.out _ HB2.out⟩
  | false =>
    clear q1
    go_wp2_with fail
    refine (greatNames12_any names _ w2 (HN.out _ (HBW.out _ HB2.out))).mono ?_
    rintro e w3 ⟨rfl, rfl⟩
    cases q3 : greatN names with
    | true =>
      go_wp2_with fail
      all_goals go_ret
      all_goals exact ⟨rfl, HBW.out _ HB2.out⟩
    | false =>
      have HS := Lib.hid (HGN.out q3)
      clear q3 HGN
      by_cases hat : 0 ≤ at_ ∧ at_ < names.length ∧ at_ ≤ 7
      · obtain ⟨ha0, ha1, ha2⟩ := hat
        obtain ⟨d, rfl⟩ := Int.eq_ofNat_of_zero_le ha0
        obtain ⟨o, rfl⟩ := Int.eq_ofNat_of_zero_le ho
        have hdl : d < names.length := by omega
        have HNC1 := HNC.out
        rcases HNC1 with h | ⟨nb, noff, rfl, hnb, hnc⟩
        · rw [h] at hdl; exact absurd hdl (by simp)
        have HND : Hid (∀ W, Below w1.heap.size w1 W → W.cell? ⟨nb, noff + d, none⟩ = some (.string (names[d]'hdl)) ∧ nb < W.heap.size) := fun W h => by
          have hw := HBW.out W h
          exact ⟨(hw.cell (p := ⟨nb, noff + d, none⟩) hnb).trans (hnc d hdl), Nat.lt_of_lt_of_le hnb hw.size⟩
        have HHAS : Hid (∀ W, Below w1.heap.size w1 W → Calls Tryd.prog 25 #[.agg #[.int .u8 k, .string s, .slice a l c], .string (names[d]'hdl)] W fun e w' => e = .returned (.bool (hasF n f (names[d]'hdl))) ∧ Below w1.heap.size w1 w') := fun W h =>
          (has25_any (names[d]'hdl) n f _ W (HF.out W (HBW.out W h))).mono fun e w' hh => ⟨hh.1, h.trans (hh.2.mono h.size)⟩
        clear HNC hnc hnb
        obtain ⟨x0, x1, x2, hz⟩ := HC.out _ HB2.out
        have hw3 := HBW.out _ HB2.out
        have HHO := Lib.hid (holds22_any names _ HS.out n f _ (o : Int) w3 ho ho2 (HR.out _ hw3) (HN.out _ hw3) (HF.out _ hw3))
        clear hw3
        obtain ⟨b0, i0, hbi⟩ : ∃ b i, holdsR names n f (o : Int) = (b, i) := ⟨_, _, rfl⟩
        rw [hbi] at HHO
        have HBI := Lib.hid hbi
        clear hbi
        go_wp2_with fail
        refine HHO.out.mono ?_
        rintro e w4 ⟨rfl, hb4⟩
        have HB4 := Lib.hid (HB2.out.trans (hb4.mono HB2.out.size))
        clear hb4 x0 x1 x2 hz HHO
        obtain ⟨x0, x1, x2, hz⟩ := HC.out _ HB4.out
        have hw4 := HBW.out _ HB4.out
        have HT := Lib.hid (table18_any names _ HS.out n f _ w4 (HR.out _ hw4) (HN.out _ hw4) (HF.out _ hw4))
        clear hw4
        go_wp2_with fail
        refine HT.out.mono ?_
        rintro e w5 ⟨⟨lv, rfl, hlv⟩, hb5⟩
        have HLV := Lib.hid hlv
        have HB5 := Lib.hid (HB4.out.trans (hb5.mono HB4.out.size))
        clear hb5 hlv x0 x1 x2 hz HT
        by_cases h0 : fmlR names n f = 0
        · obtain ⟨g1, g2, _, g4⟩ := fmlR_zero.1 h0
          have hnl := namesR_len g1
          obtain ⟨_, hp2⟩ := pow_small hnl
          by_cases hon : 0 < (o : Int) / 2 ^ names.length
          · have hR : holdsR names n f (o : Int) = (false, 2) := by rw [holdsR, if_neg (by simpa using h0), if_pos hon]
            rw [HBI.out] at hR
            obtain ⟨rfl, rfl⟩ : b0 = false ∧ i0 = 2 := by simpa using hR
            clear hR g1 g2 g4 hnl hp2 hon h0
            go_wp2_with fail
            all_goals go_ret
            all_goals exact ⟨rfl, HBW.out _ HB5.out⟩
          · have hoP : o < 2 ^ names.length := pow_quot hon
            have hR : holdsR names n f (o : Int) = (holdsF names n f (o : Int), 0) := by rw [holdsR, if_neg (by simpa using h0), if_neg hon]
            rw [HBI.out] at hR
            obtain ⟨hb0', rfl⟩ : b0 = holdsF names n f (o : Int) ∧ i0 = 0 := by simpa using hR
            have hl := HLV.out
            rw [tableR, if_neg (by simpa using h0)] at hl
            obtain ⟨P, hP⟩ : ∃ P : Nat, P = 2 ^ names.length := ⟨_, rfl⟩
            obtain ⟨g, cg, hlv', cB⟩ : ∃ g cg, lv = .slice (some ⟨g, 0, none⟩) P cg ∧ w5.cell? ⟨g, o, none⟩ = some (.bool b0) := tbl_at hl hP hoP hb0'
            subst hlv'
            have hx := xor_small hoP (at_ := d) (by omega)
            have HX2 : Hid (∀ W, Below w1.heap.size w1 W → Calls Tryd.prog 22 #[.slice (some ⟨nb, noff, none⟩) names.length nc, .agg #[.int .u8 k, .string s, .slice a l c], .int .u8 ((o ^^^ 2 ^ d : Nat) : Int)] W fun e w' => e = .returned (.tuple #[.bool (holdsF names n f ((o ^^^ 2 ^ d : Nat) : Int)), .int .i64 0]) ∧ Below w1.heap.size w1 w') := by
              intro W h
              have hw := HBW.out W h
              have hc := holds22_any names _ HS.out n f _ ((o ^^^ 2 ^ d : Nat) : Int) W (by omega) (by omega) (HR.out _ hw) (HN.out _ hw) (HF.out _ hw)
              have : holdsR names n f ((o ^^^ 2 ^ d : Nat) : Int) = (holdsF names n f ((o ^^^ 2 ^ d : Nat) : Int), 0) := by
                rw [holdsR, if_neg (by simpa using h0), if_neg (quot_pow hx)]
              rw [this] at hc
              exact hc.mono fun e w' hh => ⟨hh.1, h.trans (hh.2.mono h.size)⟩
            have HLAW : Hid (hasF n f (names[d]'hdl) = false → holdsF names n f ((o ^^^ 2 ^ d : Nat) : Int) = b0) := fun hh => by
              rw [hb0']
              exact holds_apart names hnl d (by omega) o hoP n f g4 hh
            have hxo : bits .xor .u8 (o : Int) (IntKind.u8.wrap (2 ^ d)) = ((o ^^^ 2 ^ d : Nat) : Int) := xor_bit ⟨o, by omega⟩ ⟨d, by omega⟩
            obtain ⟨b1, hb1⟩ : ∃ b1, b1 = holdsF names n f ((o ^^^ 2 ^ d : Nat) : Int) := ⟨_, rfl⟩
            rw [← hb1] at HX2 HLAW
            obtain ⟨X, hX⟩ : ∃ X : Nat, X = o ^^^ 2 ^ d := ⟨_, rfl⟩
            rw [← hX] at HX2 hxo
            have hoP2 : (o : Int) < (P : Int) := by omega
            have HH0 := Lib.hid h0
            rw [h0]
            clear hR hl hx hP hb0' hb1 hX g1 g2 g4 hp2 hon HLV HBI hoP h0
            obtain ⟨x0, x1, x2, hz⟩ := HC.out _ HB5.out
            have hself : Below w1.heap.size w1 w5 := HB5.out
            go_wp2_with fail
            go_region_held3 (fun w' => (w'.cell? ⟨w.heap.size, 0, none⟩ = some (.int .u8 k) ∧ w'.cell? ⟨w.heap.size, 1, none⟩ = some (.string s) ∧ w'.cell? ⟨w.heap.size, 2, none⟩ = some (.slice a l c) ∧ w.heap.size < w'.heap.size) ∧ Below w1.heap.size w1 w')
              ((refine ⟨HC.out _ ?_, ?_⟩ <;> repeat (first | assumption | refine Below.drew ?_ | refine below_alloc ?_ _)))
              (first | (go_at_call 22; refine (HX2.out _ (by repeat (first | assumption | with_reducible exact Below.refl _ _ | with_reducible refine Below.drew ?_ | with_reducible refine below_alloc ?_ _))).mono ?_; rintro e wz ⟨rfl, hbz⟩))
            have hbz' : Below w1.heap.size w1 wz := by assumption
            have HBz := Lib.hid hbz'
            clear hself HX2 hxo cB x0 x1 x2 hz
            obtain ⟨x0, x1, x2, hz⟩ := HC.out _ hbz'
            obtain ⟨n0, hnz⟩ := HND.out _ hbz'
            cases qh : hasF n f (names[d]'hdl) with
            | true =>
              rw [qh] at HHAS
              clear qh HLAW
              go_wp2_with fail
              apply apart_region11 (hdl := hdl) (hb := HBz.out) (HC := HC) (HND := HND) (HHAS := HHAS)
              case hops => kernel_rfl
              case hQ =>
                refine Lib.hid (fun v89 v90 v91 v92 v93 v94 v95 v96 v97 v98 v99 v100 v101 v102 v103 v104 v105 v106 wx hv => ?_)
                have HBy := Lib.hid hv
                clear hv
                go_wp2_with fail
                go_ret
                exact ⟨rfl, HBW.out _ HBy.out⟩
            | false =>
              rw [qh] at HHAS
              obtain rfl := HLAW.out qh
              clear qh HLAW
              go_wp2_with fail
              go_region_held3 (fun w' => (w'.cell? ⟨w.heap.size, 0, none⟩ = some (.int .u8 k) ∧ w'.cell? ⟨w.heap.size, 1, none⟩ = some (.string s) ∧ w'.cell? ⟨w.heap.size, 2, none⟩ = some (.slice a l c) ∧ w.heap.size < w'.heap.size) ∧ (w'.cell? ⟨nb, noff + d, none⟩ = some (.string (names[d]'hdl)) ∧ nb < w'.heap.size) ∧ Below w1.heap.size w1 w')
                ((refine ⟨HC.out _ ?_, HND.out _ ?_, ?_⟩ <;> repeat (first | assumption | refine Below.drew ?_ | refine below_alloc ?_ _)))
                (first | (go_at_call 25; refine (HHAS.out _ (by repeat (first | assumption | with_reducible exact Below.refl _ _ | with_reducible refine Below.drew ?_ | with_reducible refine below_alloc ?_ _))).mono ?_; rintro e wy ⟨rfl, hby⟩))
              all_goals (
                have hby' : Below w1.heap.size w1 wy := by assumption
                have HBy := Lib.hid hby'
                clear hby'
                go_wp2_with fail
                go_ret
                exact ⟨rfl, HBW.out _ HBy.out⟩)
        · have hR : holdsR names n f (o : Int) = (false, fmlR names n f) := by rw [holdsR, if_pos h0]
          rw [HBI.out] at hR
          obtain ⟨rfl, rfl⟩ : b0 = false ∧ i0 = fmlR names n f := by simpa using hR
          have q : (fmlR names n f != 0) = true := by simpa using h0
          clear hR h0
          go_wp2_with fail
          all_goals go_ret
          all_goals exact ⟨rfl, HBW.out _ HB5.out⟩
      · have hor : at_ < 0 ∨ (0 ≤ at_ ∧ names.length ≤ at_) ∨ (0 ≤ at_ ∧ at_ < names.length ∧ 7 < at_) := by omega
        clear hat
        rcases hor with h1 | ⟨h1, h2⟩ | ⟨h1, h2, h3⟩
        all_goals
          go_wp2_with fail
          all_goals go_ret
          all_goals exact ⟨rfl, HBW.out _ HB2.out⟩
end Go.Proofs.YtabpfbgcdmejbaaDoor
