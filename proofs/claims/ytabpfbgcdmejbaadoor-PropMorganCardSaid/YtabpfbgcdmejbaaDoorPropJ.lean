/- The law PropMorgan, walked. -/
import Derived.Deep.RegionHeld3
import Derived.Test.YtabpfbgcdmejbaaDoorPropJ5
import Derived.Test.YtabpfbgcdmejbaaDoorPropJ7
namespace Go.Proofs.YtabpfbgcdmejbaaDoor
open Go.RowKit
attribute [local go_sem ↓] Go.wp_at_zero Go.wp_at_succ
attribute [local go_sem] Oper.semAt_some

set_option maxRecDepth 100000 in
set_option maxHeartbeats 16000000 in
theorem propMorgan8 (names : List ByteArray) (nv : Value) (n : Nat) (f g : FT n) (v u : Value) (w : World) (hr : Rdy w) (hn : NRep w w.heap.size nv names) (hw0 : ∀ s ∈ names, s.size ≤ 281474976710656)
    (hf : FRep w w.heap.size n f v) (hg : FRep w w.heap.size n g u) : Calls Tryd.prog 8 #[nv, v, u] w fun e w' => e = .returned (.bool true) ∧ Below w.heap.size w w' := by
  obtain ⟨k, s, a, l, c, rfl⟩ := hf.shape
  obtain ⟨k', s', a', l', c', rfl⟩ := hg.shape
  obtain ⟨na, nc, rfl, _⟩ := id hn
  have HGN : Hid (greatN names = false → ∀ s ∈ names, s.size ≤ 1048576) := fun h => greatN_not h hw0
  have hb0 : Below w.heap.size w ((w.alloc (.cells #[.int .u8 k, .string s, .slice a l c] 39)).alloc (.cells #[.int .u8 k', .string s', .slice a' l' c'] 39)) := below_alloc (below_alloc (Below.refl _ _) _) _
  have HB0 := Lib.hid hb0
  have HF : Hid (∀ W, Below w.heap.size w W → FRep W W.heap.size n f (.agg #[.int .u8 k, .string s, .slice a l c])) := fun W h => hf.up h h.size
  have HG : Hid (∀ W, Below w.heap.size w W → FRep W W.heap.size n g (.agg #[.int .u8 k', .string s', .slice a' l' c'])) := fun W h => hg.up h h.size
  have HN : Hid (∀ W, Below w.heap.size w W → NRep W W.heap.size (.slice na names.length nc) names) := fun W h => hn.up h h.size
  have HR : Hid (∀ W, Below w.heap.size w W → Rdy W) := fun W h => hr.below h
  have HV : Hid (∀ W, Below ((w.alloc (.cells #[.int .u8 k, .string s, .slice a l c] 39)).alloc (.cells #[.int .u8 k', .string s', .slice a' l' c'] 39)).heap.size ((w.alloc (.cells #[.int .u8 k, .string s, .slice a l c] 39)).alloc (.cells #[.int .u8 k', .string s', .slice a' l' c'] 39)) W →
      W.heap[w.heap.size]? = some (.cells #[.int .u8 k, .string s, .slice a l c] 39 (0, 0)) ∧ W.heap[w.heap.size + 1]? = some (.cells #[.int .u8 k', .string s', .slice a' l' c'] 39 (0, 0))) := by
    intro W h
    refine ⟨(h.block _ (by simp; omega)).trans (heap_in (by simp) (heap_top rfl)), (h.block _ (by simp)).trans (heap_top (by simp))⟩
  clear hr hn hw0 hf hg hb0
  go_enter Tryd.func8, Tryd.ntmps8
  go_wp2_with fail
  refine (alive23_any _ (HR.out _ HB0.out)).mono ?_
  rintro e w1 ⟨rfl, hb1⟩
  have HB1 := Lib.hid hb1
  clear hb1
  -- the two variables, wherever all since is as it is
  have HBW : Hid (∀ W, Below w1.heap.size w1 W → Below w.heap.size w W) := fun W h => (HB0.out.trans (HB1.out.mono HB0.out.size)).trans (h.mono (HB0.out.trans (HB1.out.mono HB0.out.size)).size)
  have HC : Hid (∀ W, Below w1.heap.size w1 W → W.cell? ⟨w.heap.size, 0, none⟩ = some (.int .u8 k) ∧ W.cell? ⟨w.heap.size, 1, none⟩ = some (.string s) ∧ W.cell? ⟨w.heap.size, 2, none⟩ = some (.slice a l c) ∧
      W.cell? ⟨w.heap.size + 1, 0, none⟩ = some (.int .u8 k') ∧ W.cell? ⟨w.heap.size + 1, 1, none⟩ = some (.string s') ∧ W.cell? ⟨w.heap.size + 1, 2, none⟩ = some (.slice a' l' c') ∧ w.heap.size + 1 < W.heap.size) := by
    intro W h
    obtain ⟨h1, h2⟩ := HV.out W (HB1.out.trans (h.mono HB1.out.size))
    exact ⟨Lib.cell_of_heap h1 0, Lib.cell_of_heap h1 1, Lib.cell_of_heap h1 2, Lib.cell_of_heap h2 0, Lib.cell_of_heap h2 1, Lib.cell_of_heap h2 2, (Array.getElem?_eq_some_iff.1 h2).1⟩
  clear HV
  obtain ⟨x0, x1, x2, y0, y1, y2, hz⟩ := HC.out w1 (Below.refl _ _)
  go_wp2_with fail
  refine (greatF24_any n f _ w1 (HF.out _ (HBW.out _ (Below.refl _ _)))).mono ?_
  rintro e w2 ⟨rfl, hb2⟩
  have HB2 := Lib.hid hb2
  clear hb2 x0 x1 x2 y0 y1 y2 hz
  obtain ⟨x0, x1, x2, y0, y1, y2, hz⟩ := HC.out w2 HB2.out
  cases q1 : decide (2000 < sizeF n f 2000) with
  | true =>
    go_wp2_with fail
    all_goals go_ret
    all_goals exact ⟨rfl, HBW.out _ HB2.out⟩
  | false =>
    go_wp2_with fail
    refine (greatF24_any n g _ w2 (HG.out _ (HBW.out _ HB2.out))).mono ?_
    rintro e w3 ⟨rfl, hb3⟩
    have HB3 := Lib.hid (HB2.out.trans (hb3.mono HB2.out.size))
    clear hb3 x0 x1 x2 y0 y1 y2 hz q1
    cases q2 : decide (2000 < sizeF n g 2000) with
    | true =>
      go_wp2_with fail
      all_goals go_ret
      all_goals exact ⟨rfl, HBW.out _ HB3.out⟩
    | false =>
      clear q2
      go_wp2_with fail
      refine (greatNames12_any names _ w3 (HN.out _ (HBW.out _ HB3.out))).mono ?_
      rintro e w4 ⟨rfl, rfl⟩
      cases q3 : greatN names with
      | true =>
        go_wp2_with fail
        all_goals go_ret
        all_goals exact ⟨rfl, HBW.out _ HB3.out⟩
      | false =>
        have HS := Lib.hid (HGN.out q3)
        clear q3 HGN
        go_upto_region 4 with fail
        go_cut [0, 4, 5, 7, 8] from 5 (fun t0 t4 t5 t7 p wx => ∃ Z, t0 = .slice na names.length nc ∧ t4 = .pointer (some ⟨w.heap.size, 0, none⟩) ∧ t5 = .pointer (some ⟨w.heap.size + 1, 0, none⟩) ∧ t7 = .bool true ∧ p = .pointer (some ⟨Z, 0, none⟩) ∧ Hid (Below w4.heap.size w4 wx ∧ VarF wx Z (n + 2) (notT (andT2 f g))))
        case first =>
          obtain ⟨x0, x1, x2, y0, y1, y2, hz⟩ := HC.out _ HB3.out
          go_wp2_with fail
          refine (made20_any _ _ _ _ _).mono ?_
          rintro e w5 ⟨rfl, rfl⟩
          go_wp2_with fail
          refine (made20_any _ _ _ _ _).mono ?_
          rintro e w5 ⟨rfl, rfl⟩
          go_wp2_with fail
          go_meet
          refine ⟨_, rfl, rfl, rfl, rfl, rfl, ?_, .int .u8 4, .string ⟨#[]⟩, .slice (some ⟨w4.heap.size + 1 + 1, 0, none⟩) 1 1, heap_top (by simp), rep_one (n := n + 1) (t := 39) (fz := (0, 0)) (g := w4.heap.size + 1 + 1) ?_ (rep_two (n := n) (t := 39) (fz := (0, 0)) (g := w4.heap.size) (c := 2) ?_ (HF.out _ ?_) (HG.out _ ?_))⟩
          · repeat (first | assumption | with_reducible exact Below.refl _ _ | with_reducible refine Below.drew ?_ | with_reducible refine below_alloc ?_ _)
          · repeat (first | with_reducible refine heap_dr ?_ | (with_reducible refine heap_top ?_; simp; done) | (with_reducible refine heap_in ?_ ?_; simp <;> omega))
          · repeat (first | with_reducible refine heap_dr ?_ | (with_reducible refine heap_top ?_; simp; done) | (with_reducible refine heap_in ?_ ?_; simp <;> omega))
          · exact HBW.out _ (below_alloc (below_alloc (below_alloc (below_alloc (below_alloc (HB3.out) _) _) _) _) _)
          · exact HBW.out _ (below_alloc (below_alloc (below_alloc (below_alloc (below_alloc (HB3.out) _) _) _) _) _)
        case rest =>
          obtain ⟨Z8, rfl, rfl, rfl, rfl, rfl, H8⟩ := hcut
          obtain ⟨wa, rfl⟩ : ∃ wa, wa = wc := ⟨_, rfl⟩
          have HBwa := Lib.hid ((HB3.out).trans (H8.out.1.mono (HB3.out).size))
          go_upto_region 5 with fail
          have HC9 : Hid (∀ W, Below wa.heap.size wa W → _) := fun W h => HC.out W ((HBwa.out).trans (h.mono (HBwa.out).size))
          have HF9 : Hid (∀ W, Below wa.heap.size wa W → _) := fun W h => HF.out W (HBW.out W ((HBwa.out).trans (h.mono (HBwa.out).size)))
          have HG9 : Hid (∀ W, Below wa.heap.size wa W → _) := fun W h => HG.out W (HBW.out W ((HBwa.out).trans (h.mono (HBwa.out).size)))
          go_cut [0, 4, 5, 7, 8, 9] from 6 (fun t0 t4 t5 t7 t8 p wx => ∃ Z, t0 = .slice na names.length nc ∧ t4 = .pointer (some ⟨w.heap.size, 0, none⟩) ∧ t5 = .pointer (some ⟨w.heap.size + 1, 0, none⟩) ∧ t7 = .bool true ∧ t8 = .pointer (some ⟨Z8, 0, none⟩) ∧ p = .pointer (some ⟨Z, 0, none⟩) ∧ Hid (Below wa.heap.size wa wx ∧ VarF wx Z (n + 2) (orT2 (notT f) (notT g))))
          case first =>
            apply morgan_region5 (HC := HC9) (HF := HF9) (HG := HG9)
            case hops => kernel_rfl
            case hQ =>
              refine Lib.hid (fun Z v42 v43 v44 v45 v46 v47 v48 v49 wx hv => ?_)
              go_wp2_with fail
              go_meet
              exact ⟨_, rfl, rfl, rfl, rfl, rfl, rfl, hv⟩
          case rest =>
            obtain ⟨Z9, rfl, rfl, rfl, rfl, rfl, rfl, H9⟩ := hcut
            obtain ⟨wb, rfl⟩ : ∃ wb, wb = wc := ⟨_, rfl⟩
            have HBwb := Lib.hid ((HBwa.out).trans (H9.out.1.mono (HBwa.out).size))
            go_upto_region 6 with fail
            go_cut [0, 4, 5, 7, 8, 9, 10] from 7 (fun t0 t4 t5 t7 t8 t9 p wx => ∃ Z, t0 = .slice na names.length nc ∧ t4 = .pointer (some ⟨w.heap.size, 0, none⟩) ∧ t5 = .pointer (some ⟨w.heap.size + 1, 0, none⟩) ∧ t7 = .bool true ∧ t8 = .pointer (some ⟨Z8, 0, none⟩) ∧ t9 = .pointer (some ⟨Z9, 0, none⟩) ∧ p = .pointer (some ⟨Z, 0, none⟩) ∧ Hid (Below wb.heap.size wb wx ∧ VarF wx Z (n + 2) (notT (orT2 f g))))
            case first =>
              obtain ⟨x0, x1, x2, y0, y1, y2, hz⟩ := HC.out _ HBwb.out
              go_wp2_with fail
              refine (made20_any _ _ _ _ _).mono ?_
              rintro e w5 ⟨rfl, rfl⟩
              go_wp2_with fail
              refine (made20_any _ _ _ _ _).mono ?_
              rintro e w5 ⟨rfl, rfl⟩
              go_wp2_with fail
              go_meet
              refine ⟨_, rfl, rfl, rfl, rfl, rfl, rfl, rfl, ?_, .int .u8 4, .string ⟨#[]⟩, .slice (some ⟨wb.heap.size + 1 + 1, 0, none⟩) 1 1, heap_top (by simp), rep_one (n := n + 1) (t := 39) (fz := (0, 0)) (g := wb.heap.size + 1 + 1) ?_ (rep_two (n := n) (t := 39) (fz := (0, 0)) (g := wb.heap.size) (c := 2) ?_ (HF.out _ ?_) (HG.out _ ?_))⟩
              · repeat (first | assumption | with_reducible exact Below.refl _ _ | with_reducible refine Below.drew ?_ | with_reducible refine below_alloc ?_ _)
              · repeat (first | with_reducible refine heap_dr ?_ | (with_reducible refine heap_top ?_; simp; done) | (with_reducible refine heap_in ?_ ?_; simp <;> omega))
              · repeat (first | with_reducible refine heap_dr ?_ | (with_reducible refine heap_top ?_; simp; done) | (with_reducible refine heap_in ?_ ?_; simp <;> omega))
              · exact HBW.out _ (below_alloc (below_alloc (below_alloc (below_alloc (below_alloc (HBwb.out) _) _) _) _) _)
              · exact HBW.out _ (below_alloc (below_alloc (below_alloc (below_alloc (below_alloc (HBwb.out) _) _) _) _) _)
            case rest =>
              obtain ⟨Z10, rfl, rfl, rfl, rfl, rfl, rfl, rfl, H10⟩ := hcut
              obtain ⟨wd, rfl⟩ : ∃ wd, wd = wc := ⟨_, rfl⟩
              have HBwd := Lib.hid ((HBwb.out).trans (H10.out.1.mono (HBwb.out).size))
              go_upto_region 7 with fail
              have HC11 : Hid (∀ W, Below wd.heap.size wd W → _) := fun W h => HC.out W ((HBwd.out).trans (h.mono (HBwd.out).size))
              have HF11 : Hid (∀ W, Below wd.heap.size wd W → _) := fun W h => HF.out W (HBW.out W ((HBwd.out).trans (h.mono (HBwd.out).size)))
              have HG11 : Hid (∀ W, Below wd.heap.size wd W → _) := fun W h => HG.out W (HBW.out W ((HBwd.out).trans (h.mono (HBwd.out).size)))
              go_cut [0, 4, 5, 7, 8, 9, 10, 11] from 8 (fun t0 t4 t5 t7 t8 t9 t10 p wx => ∃ Z, t0 = .slice na names.length nc ∧ t4 = .pointer (some ⟨w.heap.size, 0, none⟩) ∧ t5 = .pointer (some ⟨w.heap.size + 1, 0, none⟩) ∧ t7 = .bool true ∧ t8 = .pointer (some ⟨Z8, 0, none⟩) ∧ t9 = .pointer (some ⟨Z9, 0, none⟩) ∧ t10 = .pointer (some ⟨Z10, 0, none⟩) ∧ p = .pointer (some ⟨Z, 0, none⟩) ∧ Hid (Below wd.heap.size wd wx ∧ VarF wx Z (n + 2) (andT2 (notT f) (notT g))))
              case first =>
                apply morgan_region7 (HC := HC11) (HF := HF11) (HG := HG11)
                case hops => kernel_rfl
                case hQ =>
                  refine Lib.hid (fun Z v56 v57 v58 v59 v60 v61 v62 v63 wx hv => ?_)
                  go_wp2_with fail
                  go_meet
                  exact ⟨_, rfl, rfl, rfl, rfl, rfl, rfl, rfl, rfl, hv⟩
              case rest =>
                obtain ⟨Z11, rfl, rfl, rfl, rfl, rfl, rfl, rfl, rfl, H11⟩ := hcut
                obtain ⟨we, rfl⟩ : ∃ we, we = wc := ⟨_, rfl⟩
                have HBwe := Lib.hid ((HBwd.out).trans (H11.out.1.mono (HBwd.out).size))
                have V11 := Lib.hid H11.out.2
                have V10 := Lib.hid (H10.out.2.up H11.out.1)
                have V9 := Lib.hid ((H9.out.2.up H10.out.1).up H11.out.1)
                have V8 := Lib.hid (((H8.out.2.up H9.out.1).up H10.out.1).up H11.out.1)
                clear H8 H9 H10 H11
                have HWe : Hid (∀ W, Below we.heap.size we W → Below w1.heap.size w1 W) := fun W h => HBwe.out.trans (h.mono HBwe.out.size)
                obtain ⟨p0, p1, p2, hp, hP⟩ := V8.out
                obtain ⟨q0, q1, q2, hq, hQ⟩ := V9.out
                obtain ⟨r0, r1, r2, hrr, hRR⟩ := V10.out
                obtain ⟨s0, s1, s2, hs4, hS4⟩ := V11.out
                have HA1 : Hid (∀ W, Below we.heap.size we W → Calls Tryd.prog 26 #[.slice na names.length nc, .agg #[p0, p1, p2], .agg #[q0, q1, q2]] W fun e w' => (∃ (b : Bool) (i : Int), e = .returned (.tuple #[.bool b, .int .i64 i]) ∧ Hid (i ≠ 0 ∨ b = true)) ∧ Below we.heap.size we w') := by
                  intro W h
                  have hw := HBW.out W (HWe.out W h)
                  exact (alike26_any names _ HS.out (n + 2) (n + 2) _ _ _ _ W (HR.out W hw) (HN.out W hw) (hP.up h h.size) (hQ.up h h.size)).mono fun e w' hh => ⟨⟨_, _, hh.1, morgan_one names f g⟩, h.trans (hh.2.mono h.size)⟩
                have HA2 : Hid (∀ W, Below we.heap.size we W → Calls Tryd.prog 26 #[.slice na names.length nc, .agg #[r0, r1, r2], .agg #[s0, s1, s2]] W fun e w' => (∃ (b : Bool) (i : Int), e = .returned (.tuple #[.bool b, .int .i64 i]) ∧ Hid (i ≠ 0 ∨ b = true)) ∧ Below we.heap.size we w') := by
                  intro W h
                  have hw := HBW.out W (HWe.out W h)
                  exact (alike26_any names _ HS.out (n + 2) (n + 2) _ _ _ _ W (HR.out W hw) (HN.out W hw) (hRR.up h h.size) (hS4.up h h.size)).mono fun e w' hh => ⟨⟨_, _, hh.1, morgan_two names f g⟩, h.trans (hh.2.mono h.size)⟩
                have HCV : Hid (∀ W, Below we.heap.size we W → W.cell? ⟨Z8, 0, none⟩ = some p0 ∧ W.cell? ⟨Z8, 1, none⟩ = some p1 ∧ W.cell? ⟨Z8, 2, none⟩ = some p2 ∧ W.cell? ⟨Z9, 0, none⟩ = some q0 ∧ W.cell? ⟨Z9, 1, none⟩ = some q1 ∧ W.cell? ⟨Z9, 2, none⟩ = some q2 ∧
                    W.cell? ⟨Z10, 0, none⟩ = some r0 ∧ W.cell? ⟨Z10, 1, none⟩ = some r1 ∧ W.cell? ⟨Z10, 2, none⟩ = some r2 ∧ W.cell? ⟨Z11, 0, none⟩ = some s0 ∧ W.cell? ⟨Z11, 1, none⟩ = some s1 ∧ W.cell? ⟨Z11, 2, none⟩ = some s2) := by
                  intro W h
                  have e1 := (h.block _ (Array.getElem?_eq_some_iff.1 hp).1).trans hp
                  have e2 := (h.block _ (Array.getElem?_eq_some_iff.1 hq).1).trans hq
                  have e3 := (h.block _ (Array.getElem?_eq_some_iff.1 hrr).1).trans hrr
                  have e4 := (h.block _ (Array.getElem?_eq_some_iff.1 hs4).1).trans hs4
                  exact ⟨Lib.cell_of_heap e1 0, Lib.cell_of_heap e1 1, Lib.cell_of_heap e1 2, Lib.cell_of_heap e2 0, Lib.cell_of_heap e2 1, Lib.cell_of_heap e2 2, Lib.cell_of_heap e3 0, Lib.cell_of_heap e3 1, Lib.cell_of_heap e3 2, Lib.cell_of_heap e4 0, Lib.cell_of_heap e4 1, Lib.cell_of_heap e4 2⟩
                clear hp hq hrr hs4 hP hQ hRR hS4 V8 V9 V10 V11
                obtain ⟨u1, u2, u3, u4, u5, u6, u7, u8, u9, u10, u11, u12⟩ := HCV.out we (Below.refl _ _)
                go_wp2_with fail
                refine (HA1.out we (Below.refl _ _)).mono ?_
                rintro e w6 ⟨⟨b1, i1, rfl, O1⟩, hb6⟩
                have HB6 := Lib.hid hb6
                clear hb6 u1 u2 u3 u4 u5 u6 u7 u8 u9 u10 u11 u12
                obtain ⟨u1, u2, u3, u4, u5, u6, u7, u8, u9, u10, u11, u12⟩ := HCV.out w6 HB6.out
                go_wp2_with fail
                refine (HA2.out w6 HB6.out).mono ?_
                rintro e w7 ⟨⟨b2, i2, rfl, O2⟩, hb7⟩
                have HB7 := Lib.hid (HWe.out _ hb7)
                clear hb7 u1 u2 u3 u4 u5 u6 u7 u8 u9 u10 u11 u12 HA1 HA2 HCV HWe HBwe HB6
                have hself : Below w7.heap.size w7 w7 := Below.refl _ _
                have HC7 : Hid (∀ W, Below w7.heap.size w7 W → _) := fun W h => HC.out W (HB7.out.trans (h.mono HB7.out.size))
                have HK10 : Hid (∀ W, Below w7.heap.size w7 W → W.heap[w7.heap.size + 1 + 1]? = some (.cells #[.int .u8 4, .string ⟨#[]⟩, .slice (some ⟨w7.heap.size, 0, none⟩) 1 1] 39 (0, 0)) → W.heap[w7.heap.size]? = some (.cells #[.int .u8 k, .string s, .slice a l c] 39 (0, 0)) →
                    Calls Tryd.prog 26 #[.slice na names.length nc, .agg #[.int .u8 k, .string s, .slice a l c], .agg #[.int .u8 4, .string ⟨#[]⟩, .slice (some ⟨w7.heap.size + 1 + 1, 0, none⟩) 1 1]] W fun e w' => (∃ (b : Bool) (i : Int), e = .returned (.tuple #[.bool b, .int .i64 i]) ∧ Hid (i ≠ 0 ∨ b = true)) ∧ Below w7.heap.size w7 w') := by
                  intro W h h2 h1
                  have hw := HBW.out W (HB7.out.trans (h.mono HB7.out.size))
                  exact (alike26_any names _ HS.out n (n + 2) f (notT (notT f)) _ _ W (HR.out W hw) (HN.out W hw) (HF.out W hw) (rep_one (n := n + 1) h2 (rep_one h1 (HF.out W hw)))).mono fun e w' hh => ⟨⟨_, _, hh.1, morgan_three names f⟩, h.trans (hh.2.mono h.size)⟩
                obtain ⟨x0, x1, x2, y0, y1, y2, hz⟩ := HC7.out _ hself
                go_wp2_with fail
                go_region_held3 (fun w' => (w'.cell? ⟨w.heap.size, 0, none⟩ = some (.int .u8 k) ∧ w'.cell? ⟨w.heap.size, 1, none⟩ = some (.string s) ∧ w'.cell? ⟨w.heap.size, 2, none⟩ = some (.slice a l c) ∧
                    w'.cell? ⟨w.heap.size + 1, 0, none⟩ = some (.int .u8 k') ∧ w'.cell? ⟨w.heap.size + 1, 1, none⟩ = some (.string s') ∧ w'.cell? ⟨w.heap.size + 1, 2, none⟩ = some (.slice a' l' c') ∧ w.heap.size + 1 < w'.heap.size) ∧ Below w7.heap.size w7 w')
                  ((refine ⟨HC7.out _ ?_, ?_⟩ <;> repeat (first | assumption | refine Below.drew ?_ | refine below_alloc ?_ _)))
                  (first | (go_at_call 20; refine (made20_any _ _ _ _ _).mono ?_; rintro e wz ⟨rfl, rfl⟩) | (go_at_call 26; refine (HK10.out _ (by repeat (first | assumption | with_reducible exact Below.refl _ _ | with_reducible refine Below.drew ?_ | with_reducible refine below_alloc ?_ _)) (by repeat (first | with_reducible refine heap_dr ?_ | (with_reducible refine heap_top ?_; simp; done) | (with_reducible refine heap_in ?_ ?_; simp <;> omega))) (by repeat (first | with_reducible refine heap_dr ?_ | (with_reducible refine heap_top ?_; simp; done) | (with_reducible refine heap_in ?_ ?_; simp <;> omega)))).mono ?_; rintro e wz ⟨⟨b3, i3, rfl, O3⟩, hbz⟩))
                have hbz' : Below w7.heap.size w7 wz := by assumption
                have HBz := Lib.hid (HB7.out.trans (hbz'.mono HB7.out.size))
                clear hbz' HK10 HC7 hself x0 x1 x2 y0 y1 y2 hz
                have hself : Below wz.heap.size wz wz := Below.refl _ _
                have HCz : Hid (∀ W, Below wz.heap.size wz W → _) := fun W h => HC.out W (HBz.out.trans (h.mono HBz.out.size))
                have HK11 : Hid (∀ W, Below wz.heap.size wz W → W.heap[wz.heap.size]? = some (.cells #[.int .u8 k, .string s, .slice a l c] 39 (0, 0)) →
                    Calls Tryd.prog 26 #[.slice na names.length nc, .agg #[.int .u8 k, .string s, .slice a l c], .agg #[.int .u8 4, .string ⟨#[]⟩, .slice (some ⟨wz.heap.size, 0, none⟩) 1 1]] W fun e w' => (∃ (b : Bool) (i : Int), e = .returned (.tuple #[.bool b, .int .i64 i]) ∧ Hid (i ≠ 0 ∨ b = false)) ∧ Below wz.heap.size wz w') := by
                  intro W h h1
                  have hw := HBW.out W (HBz.out.trans (h.mono HBz.out.size))
                  exact (alike26_any names _ HS.out n (n + 1) f (notT f) _ _ W (HR.out W hw) (HN.out W hw) (HF.out W hw) (rep_one h1 (HF.out W hw))).mono fun e w' hh => ⟨⟨_, _, hh.1, morgan_four names f⟩, h.trans (hh.2.mono h.size)⟩
                obtain ⟨x0, x1, x2, y0, y1, y2, hz⟩ := HCz.out _ hself
                go_wp2_with fail
                go_region_held3 (fun w' => (w'.cell? ⟨w.heap.size, 0, none⟩ = some (.int .u8 k) ∧ w'.cell? ⟨w.heap.size, 1, none⟩ = some (.string s) ∧ w'.cell? ⟨w.heap.size, 2, none⟩ = some (.slice a l c) ∧
                    w'.cell? ⟨w.heap.size + 1, 0, none⟩ = some (.int .u8 k') ∧ w'.cell? ⟨w.heap.size + 1, 1, none⟩ = some (.string s') ∧ w'.cell? ⟨w.heap.size + 1, 2, none⟩ = some (.slice a' l' c') ∧ w.heap.size + 1 < w'.heap.size) ∧ Below wz.heap.size wz w')
                  ((refine ⟨HCz.out _ ?_, ?_⟩ <;> repeat (first | assumption | refine Below.drew ?_ | refine below_alloc ?_ _)))
                  (first | (go_at_call 20; refine (made20_any _ _ _ _ _).mono ?_; rintro e wy ⟨rfl, rfl⟩) | (go_at_call 26; refine (HK11.out _ (by repeat (first | assumption | with_reducible exact Below.refl _ _ | with_reducible refine Below.drew ?_ | with_reducible refine below_alloc ?_ _)) (by repeat (first | with_reducible refine heap_dr ?_ | (with_reducible refine heap_top ?_; simp; done) | (with_reducible refine heap_in ?_ ?_; simp <;> omega)))).mono ?_; rintro e wy ⟨⟨b4, i4, rfl, O4⟩, hby⟩))
                have hby' : Below wz.heap.size wz wy := by assumption
                have HBy := Lib.hid (HBW.out _ (HBz.out.trans (hby'.mono HBz.out.size)))
                clear hby' HK11 HCz hself x0 x1 x2 y0 y1 y2 hz HF HG HN HR HC HS
                have c1 : (i1 != 0) = true ∨ ((i1 != 0) = false ∧ b1 = true) := by have := O1.out; by_cases h : i1 = 0 <;> simp_all
                have c2 : (i2 != 0) = true ∨ ((i2 != 0) = false ∧ b2 = true) := by have := O2.out; by_cases h : i2 = 0 <;> simp_all
                have c3 : (i3 != 0) = true ∨ ((i3 != 0) = false ∧ b3 = true) := by have := O3.out; by_cases h : i3 = 0 <;> simp_all
                have c4 : (i4 != 0) = true ∨ ((i4 != 0) = false ∧ b4 = false) := by have := O4.out; by_cases h : i4 = 0 <;> simp_all
                clear O1 O2 O3 O4
                rcases c1 with c1 | ⟨c1, rfl⟩ <;> rcases c2 with c2 | ⟨c2, rfl⟩ <;> rcases c3 with c3 | ⟨c3, rfl⟩ <;> rcases c4 with c4 | ⟨c4, rfl⟩
                all_goals (
                  go_wp2_with fail
                  go_ret
                  exact ⟨rfl, HBy.out⟩)
end Go.Proofs.YtabpfbgcdmejbaaDoor
