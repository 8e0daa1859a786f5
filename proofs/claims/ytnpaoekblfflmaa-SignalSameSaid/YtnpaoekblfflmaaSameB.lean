/- The law SignalSame, walked. -/
import Derived.Test.YtnpaoekblfflmaaSameA
import Derived.Test.YtnpaoekblfflmaaSigN
import Derived.Test.YtnpaoekblfflmaaSigV
namespace Go.Proofs.Ytnpaoekblfflmaa
open Go.RowKit Go.Shelf
attribute [local go_sem ↓] Go.wp_at_zero Go.wp_at_succ
attribute [local go_sem] eq39

theorem OwnS.at {w : World} {B g n cap : Nat} {L : List (Int × Int)} (h : OwnS w B (.slice (some ⟨g, 0, none⟩) n cap) L) (hn : n = L.length) (j : Nat) (hj : j < L.length) :
    w.cell? ⟨g, j * 2, none⟩ = some (.int .i64 L[j].1) ∧ w.cell? ⟨g, j * 2 + 1, none⟩ = some (.int .u8 L[j].2) := by
  subst hn
  have h3 := flatS_getI0 L j hj
  rw [List.getElem?_eq_getElem hj, Option.getD_some] at h3
  exact ⟨by rw [World.ownsRow.cellAt h _ (by omega)]; exact h3.1, by rw [World.ownsRow.cellAt h _ (by omega)]; exact h3.2⟩

/-- What the plain law gives at a signal that may be. -/
structure SameF (p m x : Int) (l M C : List (Int × Int)) (d n : Int) (o : Int × Int) : Prop where
  hM : mergedL l = M
  cM : checkP p M = 0
  mM : mergedL M = M
  tl : total22 l = n
  tM : total22 M = n
  ol : on22 0 l x = o
  oM : on22 0 M x = o
  sep : Sep M
  lM : M.length ≤ 1024
  rM : ∀ s ∈ M, InR s
  cut : cutA 0 l m = (C, d)
  cC : d = 0 → checkP p C = 0 ∧ mergedL C = M ∧ on22 0 C x = o
  lC : C.length ≤ 100000
  rC : ∀ s ∈ C, InR s

theorem sameF_of (p m x : Int) (l : List (Int × Int)) (hr : ∀ s ∈ l, InR s) (hc : checkP p l = 0) (hx : x ≤ 9223372036854775807) : ∃ M C d n o, SameF p m x l M C d n o := by
  have hl := checkP_short hc
  have hcm := check_merged hr hc
  have hmm := merged_twice l
  have hrm := mergedL_range hr
  refine ⟨mergedL l, (cutA 0 l m).1, (cutA 0 l m).2, total22 l, on22 0 l x, rfl, hcm, hmm, rfl, (same_long hr hrm hc hcm hmm.symm).symm, rfl, (same_on hr hrm hc hcm hmm.symm hx).symm, mergedL_sep l, by have := mergedL_length l; omega, hrm, rfl, fun hd => ?_, by have := cutA_length 0 m l; omega, cutA_range hr⟩
  obtain ⟨h1, h2⟩ := check_cut hr hc hd
  exact ⟨h1, h2, (same_on hr (cutA_range hr) hc h1 h2.symm hx).symm⟩

set_option maxRecDepth 100000 in
set_option maxHeartbeats 8000000 in
theorem sameLaw_any (p m x : Int) (v : Value) (l : List (Int × Int)) (w : World) (hs : Segs w w.heap.size v l) (hx : x ≤ 9223372036854775807) :
    Calls Try.prog 8 #[.int .i64 p, v, .int .i64 m, .int .i64 x] w fun e w' => e = .returned (.bool true) ∧ Below w.heap.size w w' := by
  have HS := Lib.hid hs
  have HX := Lib.hid hx
  have hr := hs.inR
  have HR := Lib.hid hr
  obtain ⟨a, cap, rfl, hm, h, _⟩ := hs
  clear h hr hx
  have HA := alive_any w
  by_cases h1 : 10000 < l.length
  · have d1 : decide (10000 < (l.length : Int)) = true := by simp; omega
    clear h1
    go_enter Try.func8, Try.ntmps8
    go_wp2_with fail
    refine HA.mono ?_
    rintro e w1 ⟨rfl, b1⟩
    clear HA
    go_wp2_with fail
    go_ret
    exact ⟨rfl, b1⟩
  have d1 : decide (10000 < (l.length : Int)) = false := by simp; omega
  have hl4 : l.length ≤ 10000 := by omega
  clear h1
  obtain ⟨c, hc⟩ : ∃ c, checkP p l = c := ⟨_, rfl⟩
  have K1 : Hid (∀ w1, Below w.heap.size w w1 → Calls Try.prog 14 #[.int .i64 p, .slice a l.length cap] w1 fun e w' => (∃ v', e = .returned (.tuple #[v', .int .i64 c]) ∧ OwnS w' w1.heap.size v' (mergeL c l)) ∧ Below w1.heap.size w1 w') := fun w1 hb => by
    rw [← hc]; exact merge_any p _ l w1 (HS.out.at hb)
  have K2 : Hid (∀ w1, Below w.heap.size w w1 → Calls Try.prog 16 #[.int .i64 p, .slice a l.length cap, .int .i64 m] w1 fun e w' => (∃ v', e = .returned (.tuple #[v', .int .i64 (cutA c l m).2]) ∧ OwnS w' w1.heap.size v' (cutA c l m).1) ∧ Below w1.heap.size w1 w') := fun w1 hb => by
    rw [← hc]; exact cut_any p m _ l w1 (HS.out.at hb)
  have HC := Lib.hid hc
  clear hc
  by_cases h0 : c = 0
  · subst h0
    obtain ⟨M, C, d, n, o, hF⟩ := sameF_of p m x l HR.out HC.out HX.out
    have HF := Lib.hid hF
    have hk1 := K1.out
    have hk2 := K2.out
    rw [mergeL, if_pos rfl, hF.hM] at hk1
    rw [hF.cut] at hk2
    have lM := hF.lM
    have lC := hF.lC
    have J1 := Lib.hid hk1
    have J2 := Lib.hid hk2
    clear hk1 hk2 K1 K2 hF
    obtain ⟨o1, o2⟩ := o
    go_enter Try.func8, Try.ntmps8
    go_wp2_with fail
    refine HA.mono ?_
    rintro e w1 ⟨rfl, b1⟩
    clear HA
    have q := J1.out w1 b1
    go_wp2_with fail
    refine q.mono ?_
    clear q
    rintro e w2 ⟨⟨vM, rfl, hoM⟩, hb⟩
    have b2 : Below w.heap.size w w2 := b1.trans (hb.mono b1.size)
    obtain ⟨am, cm, hvM⟩ : ∃ am cm, vM = .slice am M.length cm := OwnS.shape hoM
    subst hvM
    have M2 : Hid (OwnS w2 w1.heap.size (.slice am M.length cm) M) := hoM
    clear b1 hb hoM
    have q := J2.out w2 b2
    go_wp2_with fail
    refine q.mono ?_
    clear q
    rintro e w3 ⟨⟨vC, rfl, hoC⟩, hb⟩
    have b3 : Below w.heap.size w w3 := b2.trans (hb.mono b2.size)
    have C3 : Hid (OwnS w3 w2.heap.size vC C) := hoC
    have M3 : Hid (OwnS w3 w1.heap.size (.slice am M.length cm) M) := M2.out.below hb
    clear b2 hb hoC M2
    have q := long_any p _ l w3 (HS.out.at b3)
    rw [HC.out, long22, if_pos rfl, HF.out.tl] at q
    go_wp2_with fail
    refine q.mono ?_
    clear q
    rintro e w4 ⟨rfl, hb⟩
    have b4 : Below w.heap.size w w4 := b3.trans (hb.mono b3.size)
    have C4 : Hid (OwnS w4 w2.heap.size vC C) := C3.out.below hb
    have M4 : Hid (OwnS w4 w1.heap.size (.slice am M.length cm) M) := M3.out.below hb
    clear b3 hb C3 M3
    have q := long_any p _ M w4 (M4.out.segs (by omega) HF.out.rM)
    rw [HF.out.cM, long22, if_pos rfl, HF.out.tM] at q
    go_wp2_with fail
    refine q.mono ?_
    clear q
    rintro e w5 ⟨rfl, hb⟩
    have b5 : Below w.heap.size w w5 := b4.trans (hb.mono b4.size)
    have C5 : Hid (OwnS w5 w2.heap.size vC C) := C4.out.below hb
    have M5 : Hid (OwnS w5 w1.heap.size (.slice am M.length cm) M) := M4.out.below hb
    clear b4 hb C4 M4
    have q := on_any p x _ l w5 (HS.out.at b5) HX.out
    rw [HC.out, HF.out.ol] at q
    go_wp2_with fail
    refine q.mono ?_
    clear q
    rintro e w6 ⟨rfl, hb⟩
    have b6 : Below w.heap.size w w6 := b5.trans (hb.mono b5.size)
    have C6 : Hid (OwnS w6 w2.heap.size vC C) := C5.out.below hb
    have M6 : Hid (OwnS w6 w1.heap.size (.slice am M.length cm) M) := M5.out.below hb
    clear b5 hb C5 M5
    have q := on_any p x _ M w6 (M6.out.segs (by omega) HF.out.rM) HX.out
    rw [HF.out.cM, HF.out.oM] at q
    go_wp2_with fail
    refine q.mono ?_
    clear q
    rintro e w7 ⟨rfl, hb⟩
    have b7 : Below w.heap.size w w7 := b6.trans (hb.mono b6.size)
    have C7 : Hid (OwnS w7 w2.heap.size vC C) := C6.out.below hb
    have M7 : Hid (OwnS w7 w1.heap.size (.slice am M.length cm) M) := M6.out.below hb
    clear b6 hb C6 M6
    have q := merge_any p _ M w7 (M7.out.segs (by omega) HF.out.rM)
    rw [HF.out.cM, mergeL, if_pos rfl, HF.out.mM] at q
    go_wp2_with fail
    refine q.mono ?_
    clear q
    rintro e w8 ⟨⟨vA, rfl, hoA⟩, hb⟩
    have b8 : Below w.heap.size w w8 := b7.trans (hb.mono b7.size)
    have C8 : Hid (OwnS w8 w2.heap.size vC C) := C7.out.below hb
    have M8 : Hid (OwnS w8 w1.heap.size (.slice am M.length cm) M) := M7.out.below hb
    obtain ⟨aa, ca, hvA⟩ : ∃ aa ca, vA = .slice aa M.length ca := OwnS.shape hoA
    subst hvA
    have A8 : Hid (OwnS w8 w7.heap.size (.slice aa M.length ca) M) := hoA
    clear b7 hb hoA C7 M7
    have q := same_any p _ _ l M w8 (HS.out.at b8) (M8.out.segs (by omega) HF.out.rM) HR.out HF.out.rM
    rw [HC.out, HF.out.cM, same22, if_pos rfl, if_pos rfl, HF.out.hM, HF.out.mM, decide_eq_true rfl] at q
    go_wp2_with fail
    refine q.mono ?_
    clear q
    rintro e w9 ⟨rfl, hb⟩
    have b9 : Below w.heap.size w w9 := b8.trans (hb.mono b8.size)
    have C9 : Hid (OwnS w9 w2.heap.size vC C) := C8.out.below hb
    have M9 : Hid (OwnS w9 w1.heap.size (.slice am M.length cm) M) := M8.out.below hb
    have A9 : Hid (OwnS w9 w7.heap.size (.slice aa M.length ca) M) := A8.out.below hb
    clear b8 hb C8 M8 A8
    go_wp2_with fail
    go_loopw [26] (fun i wr => ∃ (j : Nat), j ≤ M.length ∧ i = .int .i64 j ∧ Below w9.heap.size w9 wr) (fun i _ => M.length - (intOf i).toNat)
    case atStart => exact ⟨0, Nat.zero_le _, rfl, Below.refl _ _⟩
    case round =>
      obtain ⟨j, hj, rfl, hbr⟩ := hrel
      by_cases hlt : j < M.length
      · have hMr := M9.out.below hbr
        have hAr := A9.out.below hbr
        obtain ⟨gm, cm', hvm⟩ := ownsRow_any hMr (by omega)
        injection hvm with h1 _ h3
        subst h1
        obtain ⟨ga, ca', hva⟩ := ownsRow_any hAr (by omega)
        injection hva with h1 _ h4
        subst h1
        obtain ⟨c0, c1⟩ := hMr.at rfl j hlt
        obtain ⟨e0, e1⟩ := hAr.at rfl j hlt
        obtain ⟨x0, hx0⟩ : ∃ x0, M[j].1 = x0 := ⟨_, rfl⟩
        obtain ⟨y0, hy0⟩ : ∃ y0, M[j].2 = y0 := ⟨_, rfl⟩
        rw [hx0] at c0 e0
        rw [hy0] at c1 e1
        rcases Nat.eq_zero_or_pos j with rfl | hpos
        · clear hx0 hy0 hMr hAr h3 h4
          have HB := Lib.hid hbr
          clear hbr
          go_wp2_with fail
          go_quiet (fail)
          go_wp2_with fail
          refine ⟨⟨1, by omega, rfl, below_drewN HB.out _⟩, by simp [intOf]; omega⟩
        · obtain ⟨i, rfl⟩ : ∃ i, j = i + 1 := ⟨j - 1, by omega⟩
          obtain ⟨_, k1⟩ := hMr.at rfl i (by omega)
          have hsep := sep_get HF.out.sep i hlt
          obtain ⟨y1, hy1⟩ : ∃ y1, M[i].2 = y1 := ⟨_, rfl⟩
          rw [hy1] at k1
          rw [hy0, hy1] at hsep
          have f1 : (y0 == y1) = false := by simpa using fun e => hsep e.symm
          have hw1 : IntKind.i64.wrap (i : Int) = (i : Int) := IntWalk.i64_in _ (by omega)
          have hb0 : (0 : Int) ≤ (i : Int) := by omega
          have hb1 : (i : Int) < (M.length : Int) := by omega
          have hb2 : (i : Int) + 1 < (M.length : Int) := by omega
          have hb3 : (0 : Int) < (i : Int) + 1 := by omega
          clear hx0 hy0 hMr hAr hsep hy1 h3 h4
          have HB := Lib.hid hbr
          clear hbr
          go_wp2_with fail
          go_quiet (fail)
          go_wp2_with fail
          refine ⟨⟨i + 2, by omega, by push_cast; rfl, below_drewN HB.out _⟩, by simp [intOf]; omega⟩
      · have hje : j = M.length := by omega
        subst hje
        have hCr : Hid (OwnS wr w2.heap.size vC C) := C9.out.below hbr
        have br : Below w.heap.size w wr := b9.trans (hbr.mono b9.size)
        clear hbr hlt hj b9
        by_cases hd0 : d = 0
        · obtain ⟨g1, g2, g3⟩ := HF.out.cC hd0
          have q := on_any p x _ C wr (hCr.out.segs (by omega) HF.out.rC) HX.out
          rw [g1, g3] at q
          have G1 := Lib.hid g1
          have G2 := Lib.hid g2
          clear g1 g2 g3
          subst hd0
          go_wp2_with fail
          refine q.mono ?_
          clear q
          rintro e ws ⟨rfl, hb⟩
          have bs : Below w.heap.size w ws := br.trans (hb.mono br.size)
          have hCs : Hid (OwnS ws w2.heap.size vC C) := hCr.out.below hb
          clear hb br
          have q := same_any p _ _ l C ws (HS.out.at bs) (hCs.out.segs (by omega) HF.out.rC) HR.out HF.out.rC
          rw [HC.out, G1.out, same22, if_pos rfl, if_pos rfl, HF.out.hM, G2.out, decide_eq_true rfl] at q
          go_wp2_with fail
          refine q.mono ?_
          clear q
          rintro e wt ⟨rfl, hb⟩
          have bt : Below w.heap.size w wt := bs.trans (hb.mono bs.size)
          clear hb bs
          go_wp2_with fail
          go_ret
          exact ⟨rfl, bt⟩
        · have dd : (d != 0) = true := by simpa using hd0
          clear hd0
          go_wp2_with fail
          go_ret
          exact ⟨rfl, br⟩
  · have HN : Hid (mergeL c l = []) := by rw [Hid, mergeL, if_neg h0]
    have HD : Hid (cutA c l m = ([], c)) := by rw [Hid, cutA, if_neg h0]
    have hk1 := K1.out
    have hk2 := K2.out
    rw [HN.out] at hk1
    rw [HD.out] at hk2
    have J1 := Lib.hid hk1
    have J2 := Lib.hid hk2
    have d0 : (c != 0) = true := by simpa using h0
    clear hk1 hk2 K1 K2 h0
    go_enter Try.func8, Try.ntmps8
    go_wp2_with fail
    refine HA.mono ?_
    rintro e w1 ⟨rfl, b1⟩
    clear HA
    have q := J1.out w1 b1
    go_wp2_with fail
    refine q.mono ?_
    clear q
    rintro e w2 ⟨⟨vM, rfl, hoM⟩, hb⟩
    have b2 : Below w.heap.size w w2 := b1.trans (hb.mono b1.size)
    obtain ⟨am, cm, rfl⟩ := OwnS.shape hoM
    clear b1 hb hoM
    have q := J2.out w2 b2
    go_wp2_with fail
    refine q.mono ?_
    clear q
    rintro e w3 ⟨⟨vC, rfl, hoC⟩, hb⟩
    have b3 : Below w.heap.size w w3 := b2.trans (hb.mono b2.size)
    obtain ⟨ac, cc, rfl⟩ := OwnS.shape hoC
    clear b2 hb hoC
    go_wp2_with fail
    go_ret
    exact ⟨rfl, b3⟩
end Go.Proofs.Ytnpaoekblfflmaa
