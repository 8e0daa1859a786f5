/- The law TreeParts, walked. -/
import Derived.StillTailTactics
import Derived.Deep.RegionHeld3
import Derived.Deep.RegionLaw
import Derived.Deep.AppendLies
import Derived.Laws.AppendOwnNone
import Derived.Test.YtabpfbgcdmejbaaDoorTreeN
import Derived.Test.YtabpfbgcdmejbaaDoorTreeQ
import Derived.Test.YtabpfbgcdmejbaaDoorTreeB
import Derived.Test.YtabpfbgcdmejbaaDoorTreeJ
import Derived.Test.YtabpfbgcdmejbaaDoorTreeR
import Derived.Test.YtabpfbgcdmejbaaDoorTreeS
namespace Go.Proofs.YtabpfbgcdmejbaaDoor
open Go.RowKit
attribute [local go_sem ↓] Go.wp_at_zero Go.wp_at_succ
attribute [local go_sem] Oper.semAt_some

/-- What is older stays, and the expression's variable has its cells. -/
def PtW (w0 w : World) (cs : Array Value) : Prop := Below w0.heap.size w0 w ∧ w.heap[w0.heap.size]? = some (.cells cs 32 (0, 0))
theorem PtW.up {w0 w w' : World} {cs : Array Value} (h : PtW w0 w cs) (hb : Below w.heap.size w w') : PtW w0 w' cs :=
  ⟨h.1.trans (hb.mono h.1.size), by rw [hb.block _ (Array.getElem?_eq_some_iff.1 h.2).1]; exact h.2⟩

theorem alike_below {W w5 w1 : World} {B : Nat} (ha : W.alike2 w5) (h : Below B w1 w5) : Below B w1 W :=
  ⟨ha.2.1.trans h.os, ha.2.2.1.trans h.tape, ha.2.2.2.trans h.output, by rw [ha.1]; exact h.size, fun j hj => by rw [ha.1]; exact h.block j hj⟩

set_option maxRecDepth 100000 in
set_option maxHeartbeats 16000000 in
theorem treeParts5 (l : List ByteArray) (v0 : Value) (s : ByteArray) (m n : Nat) (t : XT m n) (v2 : Value) (w : World) (hr : Rdy w) (hl : NRep w w.heap.size v0 l) (hw0 : ∀ s ∈ l, s.size ≤ 281474976710656)
    (ht : XRep w w.heap.size m n t v2) (hbd : bndX n t) : Calls Tryd.prog 5 #[v0, .string s, v2] w fun e w' => e = .returned (.bool true) ∧ Below w.heap.size w w' := by
  cases n with
  | zero => exact ht.elim
  | succ n =>
    obtain ⟨k, is, of, lo, ls, hi, hs, op⟩ := t
    have HX0 := Lib.hid ht
    obtain ⟨a1, c1, a, c, rfl, hR1, hR⟩ := ht
    dsimp only at hR hR1 ⊢
    have hm := hR.1
    have hm1 := hR1.1
    obtain ⟨na, nc, hnv, hnr⟩ := id hl
    subst hnv
    have HPL0 : Hid (∀ X : XT m (n + 1), X = (k, is, of, ⟨lo, ls, hi, hs, op⟩) → sizeX (n + 1) X 2000 ≤ 2000 → checkR l (n + 1) X = 0 → (1 ≤ manyX (n + 1) X ∧ manyX (n + 1) X ≤ 64) ∧ (∀ y ∈ of, checkR l n y = 0 ∧ constX n y ≤ constX (n + 1) X) ∧
        (of ≠ [] → manyX (n + 1) X = wrap64 (foldC (manyX n) 0 of + 1)) ∧ (∀ f ∈ is, fmlR l m f = 0) ∧ ∀ more, namesR (more :: l) = 0 → checkR (more :: l) (n + 1) X = 0) := by
      rintro X rfl h1 h2
      exact parts_plain l _ hbd h1 h2
    obtain ⟨X, hXX⟩ : ∃ X : XT m (n + 1), X = (k, is, of, ⟨lo, ls, hi, hs, op⟩) := ⟨_, rfl⟩
    have HPL := Lib.hid (HPL0.out X hXX)
    clear HPL0
    have HX0' : Hid (XRep w w.heap.size m (n + 1) X (.agg #[.int .u8 k, .slice a1 is.length c1, .slice a of.length c, .int .i64 lo, .bool ls, .int .i64 hi, .bool hs, .bool op])) := by rw [hXX]; exact HX0.out
    clear hXX HX0
    have HX0 := HX0'
    clear HX0'
    have HGN : Hid (greatN l = false → (∀ s ∈ l, s.size ≤ 1048576) ∧ l.length ≤ 5000) := fun h => ⟨greatN_not h hw0, greatN_len h hw0⟩
    have HR := Lib.hid hR
    have HR1 := Lib.hid hR1
    have HRD := Lib.hid hr
    have HL := Lib.hid hl
    clear hR hR1 hl hnr hbd hw0
    have HC0 : Hid (PtW w (w.alloc (.cells #[.int .u8 k, .slice a1 is.length c1, .slice a of.length c, .int .i64 lo, .bool ls, .int .i64 hi, .bool hs, .bool op] 32)) #[.int .u8 k, .slice a1 is.length c1, .slice a of.length c, .int .i64 lo, .bool ls, .int .i64 hi, .bool hs, .bool op]) :=
      ⟨(Below.refl _ _).alloc (Nat.le_refl _) _, Array.getElem?_push_size⟩
    have HCL : Hid (∀ w1, PtW w w1 #[.int .u8 k, .slice a1 is.length c1, .slice a of.length c, .int .i64 lo, .bool ls, .int .i64 hi, .bool hs, .bool op] → _) := fun w1 h => cells8 h.2 (Below.refl _ w1)
    have HX : Hid (∀ w1, PtW w w1 #[.int .u8 k, .slice a1 is.length c1, .slice a of.length c, .int .i64 lo, .bool ls, .int .i64 hi, .bool hs, .bool op] → XRep w1 w1.heap.size m (n + 1) X (.agg #[.int .u8 k, .slice a1 is.length c1, .slice a of.length c, .int .i64 lo, .bool ls, .int .i64 hi, .bool hs, .bool op])) :=
      fun w1 h => HX0.out.up h.1 h.1.size
    clear hr
    go_enter Tryd.func5, Tryd.ntmps5
    go_wp2_with fail
    have hz0 := (alive10_any _ (HRD.out.below HC0.out.1))
    refine hz0.mono ?_
    rintro e w1 ⟨rfl, hb1⟩
    have HC := Lib.hid (HC0.out.up hb1)
    clear hb1 hz0 HC0
    obtain ⟨_, x0, x1, x2, x3, x4, x5, x6, x7, hNlt⟩ := HCL.out _ HC.out
    go_wp2_with fail
    refine (great11_any m (n + 1) _ _ _ (HX.out _ HC.out)).mono ?_
    rintro e w2 ⟨rfl, hbq⟩
    have HC2 := Lib.hid (HC.out.up hbq)
    clear hbq HC x0 x1 x2 x3 x4 x5 x6 x7 hNlt
    have HC := HC2
    clear HC2
    cases q1 : decide (2000 < sizeX (n + 1) X 2000) with
    | true =>
      go_wp2_with fail
      all_goals go_ret
      all_goals exact ⟨rfl, HC.out.1⟩
    | false =>
      have hsz : sizeX (n + 1) X 2000 ≤ 2000 := by simpa using q1
      have HPL2 := Lib.hid (HPL.out hsz)
      clear HPL hsz q1
      go_wp2_with fail
      refine (greatNames12_any l _ _ (HL.out.up HC.out.1 HC.out.1.size)).mono ?_
      rintro e w3 ⟨rfl, rfl⟩
      cases q2 : greatN l with
      | true =>
        go_wp2_with fail
        all_goals go_ret
        all_goals exact ⟨rfl, HC.out.1⟩
      | false =>
        have HN := Lib.hid (HGN.out q2).1
        have HNL := Lib.hid (HGN.out q2).2
        clear HGN q2
        by_cases h100 : 100 < s.size
        · obtain ⟨_, x0, x1, x2, x3, x4, x5, x6, x7, hNlt⟩ := HCL.out _ HC.out
          go_wp2_with fail
          all_goals go_ret
          all_goals exact ⟨rfl, HC.out.1⟩
        · have HS : Hid (∀ q ∈ s :: l, q.size ≤ 1048576) := by
            intro q hq
            rcases List.mem_cons.1 hq with rfl | hq
            · omega
            · exact HN.out q hq
          obtain ⟨_, x0, x1, x2, x3, x4, x5, x6, x7, hNlt⟩ := HCL.out _ HC.out
          go_wp2_with fail
          refine (check13_any l _ HN.out m (n + 1) _ _ _ (HRD.out.below HC.out.1) (HL.out.up HC.out.1 HC.out.1.size) (HX.out _ HC.out)).mono ?_
          rintro e w4 ⟨rfl, hbq⟩
          have HC2 := Lib.hid (HC.out.up hbq)
          clear hbq HC x0 x1 x2 x3 x4 x5 x6 x7 hNlt
          have HC := HC2
          clear HC2
          by_cases h1 : checkR l (n + 1) X = 0
          · obtain ⟨⟨p1, p2⟩, p3, p4, p5, p6⟩ := HPL2.out h1
            have P3 := Lib.hid p3
            have P4 := Lib.hid p4
            have P5 := Lib.hid p5
            have P6 := Lib.hid p6
            rw [h1]
            clear HPL2 h1 p3 p4 p5 p6
            obtain ⟨N, hN⟩ : ∃ N, N = manyX (n + 1) X := ⟨_, rfl⟩
            have HM := many14_any m (n + 1) _ _ _ (HX.out _ HC.out)
            rw [← hN] at HM p1 p2 P4
            have HMM := Lib.hid HM
            clear HM hN
            obtain ⟨_, x0, x1, x2, x3, x4, x5, x6, x7, hNlt⟩ := HCL.out _ HC.out
            go_wp2_with fail
            refine HMM.out.mono ?_
            rintro e w5 ⟨rfl, hbq⟩
            have HC2 := Lib.hid (HC.out.up hbq)
            clear HMM hbq HC x0 x1 x2 x3 x4 x5 x6 x7 hNlt
            have HC := HC2
            clear HC2
            go_wp2_with fail
            go_loopw [9, 10] (fun q i wr => ∃ (j : Nat) (z : Int), j ≤ of.length ∧ i = .int .i64 j ∧ q = .int .i64 z ∧ Hid (z = foldC (manyX n) 0 (of.take j)) ∧ Hid (PtW w wr #[.int .u8 k, .slice a1 is.length c1, .slice a of.length c, .int .i64 lo, .bool ls, .int .i64 hi, .bool hs, .bool op])) (fun _ i _ => of.length - (intOf i).toNat)
            case atStart => exact ⟨0, 0, Nat.zero_le _, rfl, rfl, rfl, HC⟩
            case round =>
              clear HC
              obtain ⟨j, z, hj, rfl, rfl, HT, HC⟩ := hrel
              obtain ⟨_, x0, x1, x2, x3, x4, x5, x6, x7, hNlt⟩ := HCL.out _ HC.out
              by_cases hlt : j < of.length
              · obtain ⟨b, off, k', a1', l1', c1', a2', l2', c2', lo', ls', hi', hs', op', rfl, hbl, c0, d1, c2, c3, c4, c5, c6, c7, hr⟩ := (XRow.up HR.out HC.out.1 (Nat.le_refl _)).at j hlt
                have hz := HC.out.1.size
                have hbl' : b < wr.heap.size := by omega
                have HY := Lib.hid hr
                have HC3 := Lib.hid (P3.out _ (List.getElem_mem hlt))
                clear hr
                go_upto_region 10 with fail
                obtain ⟨W1, hW1⟩ : ∃ W1, W1 = wr.alloc (.cells #[.int .u8 k', .slice a1' l1' c1', .slice a2' l2' c2', .int .i64 lo', .bool ls', .int .i64 hi', .bool hs', .bool op'] 32) := ⟨_, rfl⟩
                have hbr1 : Below wr.heap.size wr W1 := by rw [hW1]; exact (Below.refl _ _).alloc (Nat.le_refl _) _
                have hy : W1.heap[wr.heap.size]? = some (.cells #[.int .u8 k', .slice a1' l1' c1', .slice a2' l2' c2', .int .i64 lo', .bool ls', .int .i64 hi', .bool hs', .bool op'] 32 (0, 0)) := by rw [hW1]; exact Array.getElem?_push_size
                have HPW := Lib.hid (fun (W : World) (h : Below W1.heap.size W1 W) => (HC.out.up hbr1).up h)
                have HYW : Hid (∀ W : World, Below W1.heap.size W1 W → XRep W W.heap.size m n of[j] (.agg #[.int .u8 k', .slice a1' l1' c1', .slice a2' l2' c2', .int .i64 lo', .bool ls', .int .i64 hi', .bool hs', .bool op'])) := by
                  intro W h
                  have := hbr1.trans (h.mono hbr1.size)
                  exact HY.out.up (this.mono hz) (by have := this.size; omega)
                have HYC := Lib.hid (fun (W : World) (h : Below W1.heap.size W1 W) => cells8 hy h)
                have HXC := Lib.hid (fun (W : World) (h : Below W1.heap.size W1 W) => HCL.out W (HPW.out W h))
                have HMY := Lib.hid (many14_any m n of[j] _ W1 (HYW.out W1 (Below.refl _ _)))
                have hle := HC3.out.2
                have HC13 := Lib.hid HC3.out.1
                rw [← hW1]
                clear hW1 hbr1 hy x0 x1 x2 x3 x4 x5 x6 x7 c0 d1 c2 c3 c4 c5 c6 c7
                have hNlt := hNlt
                obtain ⟨_, y0, y1, y2, y3, y4, y5, y6, y7, hYlt⟩ := HYC.out W1 (Below.refl _ _)
                go_wp2_with fail
                refine HMY.out.mono ?_
                rintro e w5 ⟨rfl, hb5⟩
                have HB5 := Lib.hid hb5
                clear hb5 y0 y1 y2 y3 y4 y5 y6 y7 hYlt hNlt
                have HK13 : Hid (∀ W : World, W.alike2 w5 → Calls Tryd.prog 13 #[.slice na l.length nc, .agg #[.int .u8 k', .slice a1' l1' c1', .slice a2' l2' c2', .int .i64 lo', .bool ls', .int .i64 hi', .bool hs', .bool op']] W fun e w' => e = .returned (.int .i64 0) ∧ Below W1.heap.size W1 w') := by
                  intro W ha
                  have hb := alike_below ha HB5.out
                  have hp := HPW.out W hb
                  have := check13_any l _ HN.out m n of[j] _ W (HRD.out.below hp.1) (HL.out.up hp.1 hp.1.size) (HYW.out W hb)
                  rw [HC13.out] at this
                  exact this.mono fun e w' h => ⟨h.1, hb.trans (h.2.mono hb.size)⟩
                have HK15y : Hid (∀ W6 W : World, Below W1.heap.size W1 W6 → W.alike2 W6 → Calls Tryd.prog 15 #[.agg #[.int .u8 k', .slice a1' l1' c1', .slice a2' l2' c2', .int .i64 lo', .bool ls', .int .i64 hi', .bool hs', .bool op']] W fun e w' => e = .returned (.int .i64 (constX n of[j])) ∧ Below W1.heap.size W1 w') := by
                  intro W6 W h ha
                  have hb := alike_below ha h
                  exact (const15_any m n of[j] _ W (HYW.out W hb)).mono fun e w' h => ⟨h.1, hb.trans (h.2.mono hb.size)⟩
                have HK15x : Hid (∀ W6 W : World, Below W1.heap.size W1 W6 → W.alike2 W6 → Calls Tryd.prog 15 #[.agg #[.int .u8 k, .slice a1 is.length c1, .slice (some ⟨b, off, none⟩) of.length c, .int .i64 lo, .bool ls, .int .i64 hi, .bool hs, .bool op]] W fun e w' => e = .returned (.int .i64 (constX (n + 1) X)) ∧ Below W1.heap.size W1 w') := by
                  intro W6 W h ha
                  have hb := alike_below ha h
                  exact (const15_any m (n + 1) X _ W (HX.out W (HPW.out W hb))).mono fun e w' h => ⟨h.1, hb.trans (h.2.mono hb.size)⟩
                obtain ⟨_, y0, y1, y2, y3, y4, y5, y6, y7, hYlt⟩ := HYC.out w5 HB5.out
                have tokY : True := True.intro
                go_wp2_with fail
                go_region_law (first
                  | (go_simp; go_at_call 13; refine (HK13.out _ (by exact ⟨rfl, rfl, rfl, rfl⟩)).mono ?_; rintro e w6 ⟨rfl, hb6⟩; have HB6 := Lib.hid hb6; clear hb6; obtain ⟨_, y0', y1', y2', y3', y4', y5', y6', y7', hYlt'⟩ := HYC.out w6 HB6.out; obtain ⟨_, x0, x1, x2, x3, x4, x5, x6, x7, hNlt⟩ := HXC.out w6 HB6.out)
                  | (go_simp; go_at_call 15; have _t := tokY; refine (HK15y.out w6 _ HB6.out (by exact ⟨rfl, rfl, rfl, rfl⟩)).mono ?_; rintro e w7 ⟨rfl, hb7⟩; have HB7 := Lib.hid hb7; clear hb7 tokY; obtain ⟨_, x0', x1', x2', x3', x4', x5', x6', x7', hNlt'⟩ := HXC.out w7 HB7.out)
                  | (go_simp; go_at_call 15; refine (HK15x.out w7 _ HB7.out (by exact ⟨rfl, rfl, rfl, rfl⟩)).mono ?_; rintro e w8 ⟨rfl, hb8⟩; have HB8 := Lib.hid hb8; clear hb8))
                all_goals (
                  go_wp2_with fail
                  go_roundw
                  case rel => exact ⟨j + 1, _, by omega, by go_num, rfl, by rw [Hid, foldC_succ _ _ _ _ hlt, ← HT.out], HPW.out _ HB8.out⟩
                  case measure => simp [intOf]; omega)
              · have hje : j = of.length := by omega
                subst hje
                have HZ : Hid (z = foldC (manyX n) 0 of) := by rw [Hid, HT.out, List.take_length]
                have hq : of.length = 0 ∨ (0 < of.length ∧ (N != wrap64 (z + 1)) = false) := by
                  rcases Nat.eq_zero_or_pos of.length with h | h
                  · exact .inl h
                  · exact .inr ⟨h, by rw [HZ.out, ← P4.out (List.length_pos_iff.1 h)]; simp⟩
                clear HT HZ P3 P4
                rcases hq with hq | ⟨hq, hq2⟩
                all_goals
                  go_wp2_with fail
                  clear p1 p2 hq x0 x1 x2 x3 x4 x5 x6 x7 hNlt
                  try clear hq2
                  go_loopw [12] (fun i wr => ∃ j : Nat, j ≤ is.length ∧ i = .int .i64 j ∧ Hid (PtW w wr #[.int .u8 k, .slice a1 is.length c1, .slice a of.length c, .int .i64 lo, .bool ls, .int .i64 hi, .bool hs, .bool op])) (fun i _ => is.length - (intOf i).toNat)
                  case atStart => exact ⟨0, Nat.zero_le _, rfl, HC⟩
                  case round =>
                    clear HC hj hlt
                    obtain ⟨j, hj, rfl, HC⟩ := hrel
                    obtain ⟨_, x0, x1, x2, x3, x4, x5, x6, x7, hNlt⟩ := HCL.out _ HC.out
                    by_cases hlt : j < is.length
                    · obtain ⟨b, off, k', s', sa, sl, sc, rfl, hbl, c0, d1, c2, hr⟩ := (FRow.up HR1.out HC.out.1 (Nat.le_refl _)).at j hlt
                      have hz := HC.out.1.size
                      have hbl' : b < wr.heap.size := by omega
                      have HF := formula16_any l _ HN.out m is[j] _ wr (HRD.out.below HC.out.1) (HL.out.up HC.out.1 HC.out.1.size) (hr.up (Below.refl _ _) hz)
                      rw [P5.out _ (List.getElem_mem hlt)] at HF
                      have HFF := Lib.hid HF
                      clear HF hr
                      go_wp2_with fail
                      refine HFF.out.mono ?_
                      rintro e w5 ⟨rfl, hb5⟩
                      have HB5 := Lib.hid hb5
                      clear hb5 x0 x1 x2 x3 x4 x5 x6 x7 c0 d1 c2 hNlt
                      go_wp2_with fail
                      go_roundw
                      case rel => exact ⟨j + 1, by omega, by go_num, HC.out.up HB5.out⟩
                      case measure => simp [intOf]; omega
                    · clear P5
                      go_upto_region 20 with fail
                      have hb1 : Below wr.heap.size wr (wr.alloc (.cells #[.string s] 9)) := (Below.refl _ _).alloc (Nat.le_refl _) _
                      have HRUN := Lib.hid (run_more (wr.alloc (.cells #[.string s] 9)) (.slice na l.length nc) l wr.heap.size s (HL.out.up (HC.out.1.trans (hb1.mono HC.out.1.size)) (by have := HC.out.1.size; simp; omega)) HNL.out Array.getElem?_push_size)
                      have HB1 := Lib.hid hb1
                      clear hb1 x0 x1 x2 x3 x4 x5 x6 x7 hNlt
                      go_wp2_with (at_builtin; refine wpList_append_ex rfl _ _ 28 rfl _ _ rfl rfl _ HRUN.out ?_)
                      intro v' w6 a' c' hv hn6 hb6; subst hv
                      have HN6 := Lib.hid hn6
                      have HC6 := Lib.hid (HC.out.up (HB1.out.trans (hb6.mono (by omega))))
                      clear hn6 hb6
                      obtain ⟨_, x0, x1, x2, x3, x4, x5, x6, x7, hNlt⟩ := HCL.out _ HC6.out
                      have HNM := names17_any (s :: l) _ HS.out w6 (HRD.out.below HC6.out.1) HN6.out
                      have HNMH := Lib.hid HNM
                      clear HNM
                      cases qn : (namesR (s :: l) != 0) with
                      | true =>
                        go_wp2_with fail
                        refine HNMH.out.mono ?_
                        rintro e w7 ⟨rfl, hb7⟩
                        have HC7 := Lib.hid (HC6.out.up hb7)
                        clear hb7
                        go_wp2_with fail
                        all_goals go_ret
                        all_goals exact ⟨rfl, HC7.out.1⟩
                      | false =>
                        have HQN := Lib.hid (P6.out s (by simpa using qn))
                        go_wp2_with fail
                        refine HNMH.out.mono ?_
                        rintro e w7 ⟨rfl, hb7⟩
                        have HC7 := Lib.hid (HC6.out.up hb7)
                        have HN7 := Lib.hid (HN6.out.up hb7 hb7.size)
                        clear hb7 x0 x1 x2 x3 x4 x5 x6 x7 hNlt
                        obtain ⟨_, x0, x1, x2, x3, x4, x5, x6, x7, hNlt⟩ := HCL.out _ HC7.out
                        have HCK := check13_any (s :: l) _ HS.out m (n + 1) X _ w7 (HRD.out.below HC7.out.1) HN7.out (HX.out _ HC7.out)
                        rw [HQN.out] at HCK
                        have HCKH := Lib.hid HCK
                        clear HCK
                        go_wp2_with fail
                        refine HCKH.out.mono ?_
                        rintro e w8 ⟨rfl, hb8⟩
                        have HC8 := Lib.hid (HC7.out.up hb8)
                        clear hb8
                        go_wp2_with fail
                        all_goals go_ret
                        all_goals exact ⟨rfl, HC8.out.1⟩
          · have q4 : (checkR l (n + 1) X != 0) = true := by simpa using h1
            clear h1
            go_wp2_with fail
            all_goals go_ret
            all_goals exact ⟨rfl, HC.out.1⟩
end Go.Proofs.YtabpfbgcdmejbaaDoor
