/- ParseWide walked: blanks turn nothing but places, and brackets around all nothing. -/
import Derived.Test.YtpgdplmndnopbaaGreatDoorJnE
import Derived.Test.YtpgdplmndnopbaaGreatDoorPrX
namespace Go.Proofs.YtpgdplmndnopbaaGreatDoor
open Go.RowKit

theorem ParseIs.rep {names : List ByteArray} {s : ByteArray} {w : World} {v : Value} {at_ cd : Int} (h : ParseIs names s w v at_ cd) : ∃ (m n : Nat) (t : XT m n), XRep w w.heap.size m n t v := by
  cases h with
  | names => exact ⟨0, 1, _, noX_rep _ _⟩
  | cut => exact ⟨0, 1, _, noX_rep _ _⟩
  | wrong => exact ⟨0, 1, _, noX_rep _ _⟩
  | check => exact ⟨0, 1, _, noX_rep _ _⟩
  | ok _ _ m n t _ _ _ hv => exact ⟨m, n, t, hv⟩

set_option maxRecDepth 100000 in
set_option maxHeartbeats 16000000 in
theorem parseWide7_any (l : List ByteArray) (nv : Value) (s : ByteArray) (w : World) (hr : Rdy w) (hn : NRep w w.heap.size nv l) (hw : ∀ s ∈ l, s.size ≤ 281474976710656) :
    Calls Tryz.prog 7 #[nv, .string s] w fun e w' => e = .returned (.bool true) ∧ Below w.heap.size w w' := by
  obtain ⟨na, nc, rfl, _⟩ := id hn
  have HR := Lib.hid hr
  have HN := Lib.hid hn
  have HW := Lib.hid hw
  have HGN : Hid (∀ W, Below w.heap.size w W → Calls Tryz.prog 16 #[.slice na l.length nc] W fun e w' => e = .returned (.bool (greatN l)) ∧ w' = W) := fun W h => greatNames12_any l _ W (HN.out.up h h.size)
  clear hr hn hw
  go_enter Tryz.func7, Tryz.ntmps7
  go_wp2_with fail
  refine (alive23_any w HR.out).mono ?_
  rintro e w1 ⟨rfl, hb1⟩
  have HB1 := Lib.hid hb1
  clear hb1
  go_wp2_with fail
  refine (HGN.out w1 HB1.out).mono ?_
  rintro e w2 ⟨rfl, rfl⟩
  cases qn : greatN l with
  | true =>
    go_wp2_with fail
    all_goals go_ret
    all_goals exact ⟨rfl, HB1.out⟩
  | false =>
    have HSM : Hid (∀ s ∈ l, s.size ≤ 1048576) := greatN_not qn HW.out
    clear qn
    by_cases h4 : 100000 < s.size
    · have h4i : (100000 : Int) < (s.size : Int) := by omega
      clear h4
      go_wp2_with fail
      all_goals go_ret
      all_goals exact ⟨rfl, HB1.out⟩
    · have h4i : ¬ (100000 : Int) < (s.size : Int) := by omega
      clear h4
      have HPA := Lib.hid (parse21_any l _ HSM.out s w2 (HR.out.below HB1.out) (HN.out.up HB1.out HB1.out.size))
      have HPARSE : Hid (∀ (s : ByteArray) (W : World), Below w.heap.size w W → Calls Tryz.prog 21 #[.slice na l.length nc, .string s] W fun e w' => ∃ v at_ code, e = .returned (.tuple #[v, .int .i64 at_, .int .i64 code]) ∧ ParseIs l s w' v at_ code ∧ Below W.heap.size W w') :=
        fun s W hb => parse21_any l _ HSM.out s W (HR.out.below hb) (HN.out.up hb hb.size)
      go_wp2_with fail
      refine HPA.out.mono ?_
      rintro e w3 ⟨y, pl, cd, rfl, hp, hb3⟩
      obtain ⟨m0, n0, t0, hx0⟩ := hp.rep
      obtain ⟨k1, a1, l1, c1, b1, m1, d1, lo1, ls1, hi1, hs1, op1, rfl⟩ := hx0.shape
      have HP3 := Lib.hid hp
      have HB3 := Lib.hid (HB1.out.trans (hb3.mono HB1.out.size))
      have hz3 := HB3.out.size
      obtain ⟨w4, hw4⟩ : ∃ w4, w4 = w3.alloc (.cells #[.int .u8 k1, .slice a1 l1 c1, .slice b1 m1 d1, .int .i64 lo1, .bool ls1, .int .i64 hi1, .bool hs1, .bool op1] 28) := ⟨_, rfl⟩
      have HB34 : Hid (Below w3.heap.size w3 w4) := by rw [Hid, hw4]; exact (Below.refl _ _).alloc (Nat.le_refl _) _
      have HB4 : Hid (Below w.heap.size w w4) := HB3.out.trans (HB34.out.mono hz3)
      have HK4 : Hid (w4.heap[w3.heap.size]? = some (.cells #[.int .u8 k1, .slice a1 l1 c1, .slice b1 m1 d1, .int .i64 lo1, .bool ls1, .int .i64 hi1, .bool hs1, .bool op1] 28 (0, 0))) := by rw [Hid, hw4]; exact hp_top rfl
      have HW4 := Lib.hid hw4.symm
      have HCUT := Lib.hid (cut9_any s w4 (HR.out.below HB4.out))
      clear hp hb3 hx0 hz3 hw4 HPA
      obtain ⟨cc, hcc⟩ : ∃ cc, cc = (cutR s).2.2 := ⟨_, rfl⟩
      rw [← hcc] at HCUT
      have HCC := Lib.hid hcc
      clear hcc
      go_wp2_with fail
      rw [HW4.out]
      clear HW4
      refine HCUT.out.mono ?_
      rintro e w5 ⟨⟨v', rfl, hown⟩, hb5⟩
      have HB45 := Lib.hid hb5
      have HB5 : Hid (Below w.heap.size w w5) := HB4.out.trans (hb5.mono HB4.out.size)
      clear hb5
      by_cases hc0 : cc = 0
      · subst hc0
        have HC : Hid ((cutR s).2.2 = 0) := HCC.out.symm
        obtain ⟨ts, hts⟩ : ∃ ts, ts = (cutR s).1 := ⟨_, rfl⟩
        rw [← hts] at hown
        have HTS := Lib.hid hts
        have HSH : Hid (∀ t ∈ ts, t.text.size ≤ 18) := by rw [Hid, hts]; exact tok_short (cutR_ok HC.out).2.1
        have HLN : Hid (ts.length ≤ 4096) := by rw [Hid, hts]; exact cutR_len HC.out
        have HO := Lib.hid hown
        obtain ⟨va, vc, rfl⟩ := hown.shape
        have HWS : Hid (∀ j, j ≤ ts.length → (wideN ts j).size ≤ 77824) := by
          intro j hj
          have h1 := wideN_size ts HSH.out j hj
          have h2 := HLN.out
          omega
        have hm : ts.length ≤ 9223372036854775807 := by have := HLN.out; omega
        clear hts hown
        go_wp2_with fail
        go_loopw [12, 13] (fun q i wr => ∃ j : Nat, j ≤ ts.length ∧ i = .int .i64 j ∧ q = .string (wideN ts j) ∧ wr = w5) (fun _ i _ => ts.length - (intOf i).toNat)
        case atStart => exact ⟨0, Nat.zero_le _, rfl, rfl, rfl⟩
        case round =>
          obtain ⟨j, hj, rfl, rfl, rfl⟩ := hrel
          by_cases hlt : j < ts.length
          · obtain ⟨g, cap, hv, hBg, hgl, hT, _⟩ := HO.out.at (by intro e; rw [e] at hlt; simp at hlt)
            injection hv with hva _ hvc
            subst hva hvc
            obtain ⟨_, k1, _⟩ := hT j hlt
            rw [Nat.zero_add] at k1
            have hq1 : ((wideN ts j).size : Int) ≤ 8388608 := by have := HWS.out j hj; omega
            have hq2 : (((wideN ts j ++ ⟨#[32]⟩).size : Nat) : Int) ≤ 8388608 := by
              have h1 := HWS.out j hj
              rw [ByteArray.size_append]
              have : (⟨#[32]⟩ : ByteArray).size = 1 := rfl
              omega
            have hq3 : ((ts[j].text.size : Nat) : Int) ≤ 8388608 := by
              have := HSH.out ts[j] (List.getElem_mem _)
              omega
            have HSU := Lib.hid (wideN_succ ts j hlt)
            have hltI : ((j : Nat) : Int) < ((ts.length : Nat) : Int) := by omega
            clear hT
            go_wp2_with fail
            go_roundw
            case rel => exact ⟨j + 1, by omega, by go_num, by rw [← HSU.out], by first | trivial | rfl⟩
            case measure => simp [intOf]; omega
          · obtain rfl : j = ts.length := by omega
            have hltI : ¬ (((ts.length : Nat) : Int) < ((ts.length : Nat) : Int)) := by omega
            obtain ⟨wd, hwd⟩ : ∃ wd, wd = wideN ts ts.length := ⟨_, rfl⟩
            rw [← hwd]
            have hws : wd.size ≤ 77824 := by rw [hwd]; exact HWS.out _ (Nat.le_refl _)
            have HWD : Hid (wd = byt (wideB (textsOf ts))) := by rw [Hid, hwd, wideN_all]
            clear hwd hlt hj
            have hadd : wrap64 ((wd.size : Int) + 2) = (wd.size : Int) + 2 := by simp only [wrap64]; omega
            by_cases h6 : 4096 < wd.size + 2
            · have h6i : (4096 : Int) < (wd.size : Int) + 2 := by omega
              clear h6
              go_wp2_with fail
              all_goals go_ret
              all_goals exact ⟨rfl, HB5.out⟩
            · have h6i : ¬ (4096 : Int) < (wd.size : Int) + 2 := by omega
              have H6 := Lib.hid h6
              clear h6
              have HPB := Lib.hid (HPARSE.out wd wr HB5.out)
              go_wp2_with fail
              refine HPB.out.mono ?_
              rintro e w6 ⟨y2, pl2, cd2, rfl, hp2, hb6⟩
              rw [HWD.out] at hp2
              obtain ⟨hcd, M1, N1, t1, M2, N2, t2, heq, hx1, hx2⟩ := wide_agree HC.out HTS.out.symm (by rw [← HWD.out]; have := H6.out; omega) HP3.out hp2
              subst hcd
              obtain ⟨k2, a2, l2, c2, b2, m2, d2, lo2, ls2, hi2, hs2, op2, rfl⟩ := hx2.shape
              have HB6 := Lib.hid (HB5.out.trans (hb6.mono HB5.out.size))
              have hb36 : Below w3.heap.size w3 w6 := (HB34.out.trans (HB45.out.mono HB34.out.size)).trans (hb6.mono (Nat.le_trans HB34.out.size HB45.out.size))
              obtain ⟨w7, hw7⟩ : ∃ w7, w7 = w6.alloc (.cells #[.int .u8 k2, .slice a2 l2 c2, .slice b2 m2 d2, .int .i64 lo2, .bool ls2, .int .i64 hi2, .bool hs2, .bool op2] 28) := ⟨_, rfl⟩
              have hb67 : Below w6.heap.size w6 w7 := by rw [hw7]; exact (Below.refl _ _).alloc (Nat.le_refl _) _
              have HB7 : Hid (Below w.heap.size w w7) := HB6.out.trans (hb67.mono HB6.out.size)
              have HB37 : Hid (Below w3.heap.size w3 w7) := hb36.trans (hb67.mono hb36.size)
              have HB67 := Lib.hid hb67
              have HK7 : Hid (w7.heap[w6.heap.size]? = some (.cells #[.int .u8 k2, .slice a2 l2 c2, .slice b2 m2 d2, .int .i64 lo2, .bool ls2, .int .i64 hi2, .bool hs2, .bool op2] 28 (0, 0))) := by rw [Hid, hw7]; exact hp_top rfl
              have hk3 : w7.heap[w3.heap.size]? = some (.cells #[.int .u8 k1, .slice a1 l1 c1, .slice b1 m1 d1, .int .i64 lo1, .bool ls1, .int .i64 hi1, .bool hs1, .bool op1] 28 (0, 0)) := by
                have h4 := HK4.out
                have hlt4 := (Array.getElem?_eq_some_iff.1 h4).1
                have hb47 : Below w4.heap.size w4 w7 := (HB45.out.trans (hb6.mono HB45.out.size)).trans (hb67.mono (Nat.le_trans HB45.out.size hb6.size))
                exact (hb47.block _ hlt4).trans h4
              have HK3 := Lib.hid hk3
              have HX1 := Lib.hid hx1
              have HX2 := Lib.hid hx2
              have HEQ := Lib.hid heq
              have HW7 := Lib.hid hw7.symm
              have HCAT : Hid ((⟨#[40]⟩ : ByteArray) ++ wd ++ ⟨#[41]⟩ = byt (40 :: (wideB (textsOf ts) ++ [41]))) := by
                have e1 : (⟨#[40]⟩ : ByteArray) = byt [40] := rfl
                have e2 : (⟨#[41]⟩ : ByteArray) = byt [41] := rfl
                rw [Hid, HWD.out, e1, e2, byt_app, byt_app]
                rfl
              have hwdi : (wd.size : Int) ≤ 8388608 := by omega
              have hwdj : ((((⟨#[40]⟩ : ByteArray) ++ wd).size : Nat) : Int) ≤ 8388608 := by
                rw [ByteArray.size_append]
                have : (⟨#[40]⟩ : ByteArray).size = 1 := rfl
                omega
              have HPC := Lib.hid (HPARSE.out (byt (40 :: (wideB (textsOf ts) ++ [41]))) w7 HB7.out)
              clear hp2 hb6 hx1 hx2 heq hb36 hb67 hw7 hk3
              go_wp2_with fail
              rw [HW7.out, HCAT.out]
              clear HW7
              refine HPC.out.mono ?_
              rintro e w8 ⟨z, pl3, cd3, rfl, hp3, hb8⟩
              obtain ⟨M3, N3, t3, hx3⟩ := hp3.rep
              obtain ⟨k3, a3, l3, c3, b3, m3, d3, lo3, ls3, hi3, hs3, op3, rfl⟩ := hx3.shape
              have HB8 := Lib.hid (HB7.out.trans (hb8.mono HB7.out.size))
              obtain ⟨w9, hw9⟩ : ∃ w9, w9 = w8.alloc (.cells #[.int .u8 k3, .slice a3 l3 c3, .slice b3 m3 d3, .int .i64 lo3, .bool ls3, .int .i64 hi3, .bool hs3, .bool op3] 28) := ⟨_, rfl⟩
              have hb89 : Below w8.heap.size w8 w9 := by rw [hw9]; exact (Below.refl _ _).alloc (Nat.le_refl _) _
              have hb79 : Below w7.heap.size w7 w9 := hb8.trans (hb89.mono hb8.size)
              have HB9 : Hid (Below w.heap.size w w9) := HB7.out.trans (hb79.mono HB7.out.size)
              have HB89 := Lib.hid hb89
              have HB39 := Lib.hid (HB37.out.trans (hb79.mono HB37.out.size))
              have HB69 := Lib.hid (HB67.out.trans (hb79.mono HB67.out.size))
              have hk1 : w9.heap[w3.heap.size]? = some (.cells #[.int .u8 k1, .slice a1 l1 c1, .slice b1 m1 d1, .int .i64 lo1, .bool ls1, .int .i64 hi1, .bool hs1, .bool op1] 28 (0, 0)) := (hb79.block _ (Array.getElem?_eq_some_iff.1 HK3.out).1).trans HK3.out
              have hk2 : w9.heap[w6.heap.size]? = some (.cells #[.int .u8 k2, .slice a2 l2 c2, .slice b2 m2 d2, .int .i64 lo2, .bool ls2, .int .i64 hi2, .bool hs2, .bool op2] 28 (0, 0)) := (hb79.block _ (Array.getElem?_eq_some_iff.1 HK7.out).1).trans HK7.out
              have hk3 : w9.heap[w8.heap.size]? = some (.cells #[.int .u8 k3, .slice a3 l3 c3, .slice b3 m3 d3, .int .i64 lo3, .bool ls3, .int .i64 hi3, .bool hs3, .bool op3] 28 (0, 0)) := by rw [hw9]; exact hp_top rfl
              have HK1 := Lib.hid hk1
              have HK3' := Lib.hid hk3
              have HW9 := Lib.hid hw9.symm
              have HP8 := Lib.hid hp3
              have x0 := Lib.cell_of_heap hk1 0
              have x1 := Lib.cell_of_heap hk1 1
              have x2 := Lib.cell_of_heap hk1 2
              have x3 := Lib.cell_of_heap hk1 3
              have x4 := Lib.cell_of_heap hk1 4
              have x5 := Lib.cell_of_heap hk1 5
              have x6 := Lib.cell_of_heap hk1 6
              have x7 := Lib.cell_of_heap hk1 7
              simp only [List.getElem?_toArray, List.getElem?_cons_zero, List.getElem?_cons_succ] at x0 x1 x2 x3 x4 x5 x6 x7
              have y0 := Lib.cell_of_heap hk2 0
              have y1 := Lib.cell_of_heap hk2 1
              have y2 := Lib.cell_of_heap hk2 2
              have y3 := Lib.cell_of_heap hk2 3
              have y4 := Lib.cell_of_heap hk2 4
              have y5 := Lib.cell_of_heap hk2 5
              have y6 := Lib.cell_of_heap hk2 6
              have y7 := Lib.cell_of_heap hk2 7
              simp only [List.getElem?_toArray, List.getElem?_cons_zero, List.getElem?_cons_succ] at y0 y1 y2 y3 y4 y5 y6 y7
              have hlt1 := (Array.getElem?_eq_some_iff.1 hk1).1
              have hlt2 := (Array.getElem?_eq_some_iff.1 hk2).1
              have HSAME := Lib.hid (same27_any M1 M2 N1 N2 t1 t2 _ _ w9 (HX1.out.up HB39.out HB39.out.size) (HX2.out.up HB69.out HB69.out.size))
              clear hp3 hb8 hx3 hw9 hb89 hb79 hk1 hk2 hk3
              go_upto_region 17 with fail
              rw [HW9.out]
              clear HW9
              go_wp2_with fail
              refine HSAME.out.mono ?_
              rintro e w10 ⟨⟨b, rfl, hbb⟩, hb10⟩
              obtain rfl : b = true := hbb.2 HEQ.out
              have HB10 := Lib.hid (HB9.out.trans (hb10.mono HB9.out.size))
              have HB910 := Lib.hid hb10
              clear hbb x0 x1 x2 x3 x4 x5 x6 x7 y0 y1 y2 y3 y4 y5 y6 y7 hlt1 hlt2
              by_cases hcd : cd = 0
              · subst hcd
                rcases HP3.out.cases0 with ⟨h0, _⟩ | ⟨_, _, hnm, _, mm, nn, tt, ha, hk, hxx⟩
                · exact absurd rfl h0
                · rw [← HTS.out] at ha
                  rcases wrap_agree HC.out HTS.out.symm ha hnm hk (by rw [byt_size]; have h6 := H6.out; rw [HWD.out, byt_size] at h6; simp; omega) HP8.out with rfl | ⟨rfl, M4, N4, t4, h4, hx4⟩
                  · clear hb10 ha hk hnm hxx
                    go_wp2_with fail
                    all_goals go_ret
                    all_goals exact ⟨rfl, HB10.out⟩
                  · have HSAME2 := Lib.hid (same27_any mm M4 nn N4 tt t4 _ _ w10 ((hxx.up HB39.out HB39.out.size).up hb10 hb10.size) ((hx4.up HB89.out HB89.out.size).up hb10 hb10.size))
                    have HEQ2 := Lib.hid h4
                    have hk1 := (hb10.block _ (Array.getElem?_eq_some_iff.1 HK1.out).1).trans HK1.out
                    have hk3 := (hb10.block _ (Array.getElem?_eq_some_iff.1 HK3'.out).1).trans HK3'.out
                    have x0 := Lib.cell_of_heap hk1 0
                    have x1 := Lib.cell_of_heap hk1 1
                    have x2 := Lib.cell_of_heap hk1 2
                    have x3 := Lib.cell_of_heap hk1 3
                    have x4 := Lib.cell_of_heap hk1 4
                    have x5 := Lib.cell_of_heap hk1 5
                    have x6 := Lib.cell_of_heap hk1 6
                    have x7 := Lib.cell_of_heap hk1 7
                    simp only [List.getElem?_toArray, List.getElem?_cons_zero, List.getElem?_cons_succ] at x0 x1 x2 x3 x4 x5 x6 x7
                    have y0 := Lib.cell_of_heap hk3 0
                    have y1 := Lib.cell_of_heap hk3 1
                    have y2 := Lib.cell_of_heap hk3 2
                    have y3 := Lib.cell_of_heap hk3 3
                    have y4 := Lib.cell_of_heap hk3 4
                    have y5 := Lib.cell_of_heap hk3 5
                    have y6 := Lib.cell_of_heap hk3 6
                    have y7 := Lib.cell_of_heap hk3 7
                    simp only [List.getElem?_toArray, List.getElem?_cons_zero, List.getElem?_cons_succ] at y0 y1 y2 y3 y4 y5 y6 y7
                    have hlt1 := (Array.getElem?_eq_some_iff.1 hk1).1
                    have hlt2 := (Array.getElem?_eq_some_iff.1 hk3).1
                    clear hb10 ha hk hnm hxx hx4 h4 hk1 hk3
                    go_wp2_with fail
                    refine HSAME2.out.mono ?_
                    rintro e w11 ⟨⟨b, rfl, hbb⟩, hb11⟩
                    obtain rfl : b = true := hbb.2 HEQ2.out.symm
                    have HB11 := Lib.hid (HB10.out.trans (hb11.mono HB10.out.size))
                    clear hbb hb11
                    go_wp2_with fail
                    all_goals go_ret
                    all_goals exact ⟨rfl, HB11.out⟩
              · have q : (cd != 0) = true := by simpa using hcd
                clear hcd hb10
                go_wp2_with fail
                all_goals go_ret
                all_goals exact ⟨rfl, HB10.out⟩
      · have q : (cc != 0) = true := by simpa using hc0
        clear hc0 hown
        go_wp2_with fail
        all_goals go_ret
        all_goals exact ⟨rfl, HB5.out⟩
end Go.Proofs.YtpgdplmndnopbaaGreatDoor
