/- rallentandolaw15.LexGlues, walked: tokens are glued, and which may stand right behind which is told, as the book says; it answers true. -/
import Derived.Test.YtipbgaiaoahnmaaDoorBackA
namespace Go.Proofs.YtipbgaiaoahnmaaDoor
open Go.RowKit Go.Shelf
attribute [local go_sem ↓] Go.wp_at_zero Go.wp_at_succ

theorem grown_none {a b : World} (h : a.grownBy b none) : Below a.heap.size a b := ⟨h.os, h.tape, h.output, h.size, fun k hk => h.block k hk (by simp)⟩
theorem flat_cells {w : World} {b off : Nat} {l : List Tok} (h : TokC w b off l) : ∀ j u, (flatT l)[j]? = some u → w.cell? ((⟨b, off, none⟩ : Addr).add j) = some u := by
  intro j u hj
  have hlt : j < (flatT l).length := (List.getElem?_eq_some_iff.1 hj).1
  rw [flatT_length] at hlt
  have hadd : (⟨b, off, none⟩ : Addr).add j = ⟨b, off + j, none⟩ := by
    unfold Addr.add
    split
    · simp_all
    · simp
  rw [hadd]
  obtain ⟨i, r, hr, rfl⟩ : ∃ i r, r < 3 ∧ j = i * 3 + r := ⟨j / 3, j % 3, Nat.mod_lt _ (by omega), by omega⟩
  have hi : i < l.length := by omega
  obtain ⟨h0, h1, h2⟩ := h i hi
  obtain ⟨g0, g1, g2⟩ := flatT_getI l i hi
  match r, hr with
  | 0, _ => rw [Nat.add_zero] at hj ⊢; rw [g0] at hj; rw [← hj]; exact h0
  | 1, _ => rw [g1] at hj; rw [← hj, ← h1]; rfl
  | 2, _ => rw [g2] at hj; rw [← hj, ← h2]; rfl
theorem flat_one (l : List Tok) : ∀ u ∈ flatT l, u.oneCell' = true := by
  intro u hu
  simp only [flatT, List.mem_flatMap] at hu
  obtain ⟨t, _, ht⟩ := hu
  simp only [Tok.cells, List.mem_cons, List.not_mem_nil, or_false] at ht
  rcases ht with rfl | rfl | rfl <;> rfl

set_option maxRecDepth 100000 in
set_option maxHeartbeats 4000000 in
theorem lexGlues4 (v : Value) (l : List Tok) (a b : Tok) (w : World) (hr : Rdy w) (hs : Toks w w.heap.size v l) (hz : ∀ t ∈ l, t.text.size ≤ 281474976710656) (hlm : l.length ≤ 281474976710656) :
    Calls Tryd.prog 4 #[v, a.val, b.val] w fun e w' => e = .returned (.bool true) ∧ Below w.heap.size w w' := by
  obtain ⟨i0, hi, hz0, hz1, hz2⟩ := info_parts Tryd.info27
  obtain ⟨ak, at_, ap⟩ := a
  obtain ⟨bk, bt, bp⟩ := b
  simp only [Tok.val]
  have HR := Lib.hid hr
  have HS : Hid (∀ W, Below w.heap.size w W → Toks W W.heap.size v l ∧ Rdy W) := fun W hb => ⟨(hs.below hb).mono hb.size, hr.below hb⟩
  have HC : Hid (∀ W, Below ((w.alloc (.cells #[.int .u8 ak, .string at_, .int .i64 ap] 27)).alloc (.cells #[.int .u8 bk, .string bt, .int .i64 bp] 27)).heap.size ((w.alloc (.cells #[.int .u8 ak, .string at_, .int .i64 ap] 27)).alloc (.cells #[.int .u8 bk, .string bt, .int .i64 bp] 27)) W →
      (W.cell? ⟨w.heap.size, 0, none⟩ = some (.int .u8 ak) ∧ W.cell? ⟨w.heap.size, 1, none⟩ = some (.string at_) ∧ W.cell? ⟨w.heap.size, 2, none⟩ = some (.int .i64 ap)) ∧
      (W.cell? ⟨w.heap.size + 1, 0, none⟩ = some (.int .u8 bk) ∧ W.cell? ⟨w.heap.size + 1, 1, none⟩ = some (.string bt) ∧ W.cell? ⟨w.heap.size + 1, 2, none⟩ = some (.int .i64 bp)) ∧ Below w.heap.size w W) := by
    intro W hb
    have h0 : ((w.alloc (.cells #[.int .u8 ak, .string at_, .int .i64 ap] 27)).alloc (.cells #[.int .u8 bk, .string bt, .int .i64 bp] 27)).heap.size = w.heap.size + 2 := by simp
    refine ⟨⟨?_, ?_, ?_⟩, ⟨?_, ?_, ?_⟩, (((Below.refl _ w).alloc (Nat.le_refl _) _).alloc (by simp) _).trans (hb.mono (by omega))⟩
    · rw [hb.cell (p := ⟨w.heap.size, 0, none⟩) (by rw [h0]; show w.heap.size < _; omega)]; simp [World.cell?_alloc_at, World.cell?_alloc_past]
    · rw [hb.cell (p := ⟨w.heap.size, 1, none⟩) (by rw [h0]; show w.heap.size < _; omega)]; simp [World.cell?_alloc_at, World.cell?_alloc_past]
    · rw [hb.cell (p := ⟨w.heap.size, 2, none⟩) (by rw [h0]; show w.heap.size < _; omega)]; simp [World.cell?_alloc_at, World.cell?_alloc_past]
    · rw [hb.cell (p := ⟨w.heap.size + 1, 0, none⟩) (by simp)]; simp [World.cell?_alloc_at]
    · rw [hb.cell (p := ⟨w.heap.size + 1, 1, none⟩) (by simp)]; simp [World.cell?_alloc_at]
    · rw [hb.cell (p := ⟨w.heap.size + 1, 2, none⟩) (by simp)]; simp [World.cell?_alloc_at]
  have HGR := Lib.hid (fun W hs => great13_any v l W hs hz hlm)
  have hs0 := hs
  obtain ⟨ad, cap, rfl, hm, h⟩ := hs
  have HC0 : Hid (l = [] ∨ ∃ b off, ad = some ⟨b, off, none⟩ ∧ b < w.heap.size ∧ TokC w b off l) := h
  clear h hs0 hr hz
  have h00 := (HC.out _ (Below.refl _ _)).2.2
  have HT0 := Lib.hid (HS.out _ h00)
  clear h00
  have HEQ : ((w.alloc (.cells #[.int .u8 ak, .string at_, .int .i64 ap] 27)).alloc (.cells #[.int .u8 bk, .string bt, .int .i64 bp] 27)).heap.size = w.heap.size + 2 := by simp
  have HSZ := Lib.hid HEQ
  clear HEQ
  cases hg : greatB l with
  | true =>
    have HG := Lib.hid hg
    clear hg
    go_enter Tryd.func4, Tryd.ntmps4
    go_wp2_with fail
    refine (HGR.out _ HT0.out.1).mono ?_
    rintro e w1 ⟨rfl, rfl⟩
    rw [HG.out]
    go_wp2_with fail
    go_ret
    exact ⟨rfl, (HC.out _ (Below.refl _ _)).2.2⟩
  | false =>
    have HG := Lib.hid hg
    have HSUM : Hid (sumT l l.length ≤ 20000) := by simp only [greatB, decide_eq_false_iff_not] at hg; exact Nat.le_of_not_lt hg
    have hln : l.length ≤ 20000 := by have := sumT_mono l 0 l.length; simp only [Nat.zero_add] at this; have h0 : sumT l 0 = l.length := (by simp [sumT]); have := HSUM.out; omega
    clear hg
    by_cases ha : at_.size ≤ 10000
    · have ha' : ¬ (10000 : Int) < (at_.size : Int) := by omega
      by_cases hb : bt.size ≤ 10000
      · have hb' : ¬ (10000 : Int) < (bt.size : Int) := by omega
        have HG1 := Lib.hid (fun v W hW hs => glue14_any v l W hW hs HSUM.out)
        have HG2 := Lib.hid (fun v W hs => glue15_any v l W hs HSUM.out)
        have HN1 := Lib.hid (fun W hW => near10_any ⟨ak, at_, ap⟩ ⟨bk, bt, bp⟩ W hW)
        have HN2 := Lib.hid (fun W => near16_any ⟨ak, at_, ap⟩ ⟨bk, bt, bp⟩ (by dsimp only; omega) (by dsimp only; omega) W)
        simp only [Tok.val] at HN1 HN2
        have HSM := Lib.hid (fun v v' W hs hs' => same17_any v v' l l W hs hs')
        generalize glueP l = G at HG1 HG2
        obtain ⟨gt, ge⟩ := G
        generalize nearB ⟨ak, at_, ap⟩ ⟨bk, bt, bp⟩ = N at HN1 HN2
        obtain ⟨nb, ne⟩ := N
        dsimp only at HG1 HG2 HN1 HN2
        generalize bsOf gt = gs at HG1 HG2
        clear ha hb
        have hfl := flatT_length l
        rcases ad with _ | ad
        · have hl0 : l = [] := by
            rcases HC0.out with h | ⟨b, off, h, _⟩
            · exact h
            · cases h
          subst hl0
          simp only [List.length_nil] at *
          go_enter Tryd.func4, Tryd.ntmps4
          go_wp2_with fail
          refine (HGR.out _ HT0.out.1).mono ?_
          rintro e w1 ⟨rfl, rfl⟩
          rw [HG.out]
          obtain ⟨⟨_, x1, _⟩, ⟨_, y1, _⟩, _⟩ := HC.out _ (Below.refl _ _)
          generalize (w.alloc (.cells #[.int .u8 ak, .string at_, .int .i64 ap] 27)).alloc (.cells #[.int .u8 bk, .string bt, .int .i64 bp] 27) = W0 at HC HT0 HSZ x1 y1 ⊢
          clear hfl
          go_wp2_with fail
          have hown1 : OwnT W0 W0.heap.size (.slice none 0 0) [] := World.ownsRow_nil _ _ _ _
          have hb1 := Below.refl W0.heap.size W0
          clear x1 y1
          have HOWN := Lib.hid hown1
          have HB1 := Lib.hid hb1
          clear hown1 hb1
          refine (HG1.out (.slice none 0 0) W0 (HS.out W0 (HC.out W0 HB1.out).2.2).2 (HOWN.out.toks (by simp))).mono ?_
          rintro e w2 ⟨rfl, hb2⟩
          have HB2 := Lib.hid (HB1.out.trans (hb2.mono HB1.out.size))
          have HO2 := Lib.hid (HOWN.out.below hb2)
          clear hb2
          go_wp2_with fail
          refine (HG2.out _ w2 (HS.out w2 (HC.out w2 HB2.out).2.2).1).mono ?_
          rintro e w3 ⟨rfl, hb3⟩
          have HB3 := Lib.hid (HB2.out.trans (hb3.mono HB2.out.size))
          have HO3 := Lib.hid (HO2.out.below hb3)
          clear hb3
          obtain ⟨⟨x0, x1, x2⟩, ⟨y0, y1, y2⟩, _⟩ := HC.out w3 HB3.out
          go_wp2_with fail
          refine (HN1.out w3 (HS.out w3 (HC.out w3 HB3.out).2.2).2).mono ?_
          rintro e w4 ⟨rfl, hb4⟩
          have HB4 := Lib.hid (HB3.out.trans (hb4.mono HB3.out.size))
          have HO4 := Lib.hid (HO3.out.below hb4)
          clear hb4 x0 x1 x2 y0 y1 y2
          obtain ⟨⟨x0, x1, x2⟩, ⟨y0, y1, y2⟩, _⟩ := HC.out w4 HB4.out
          go_wp2_with fail
          refine (HN2.out w4).mono ?_
          rintro e w5 ⟨rfl, hb5⟩
          have HB5 := Lib.hid (HB4.out.trans (hb5.mono HB4.out.size))
          have HO5 := Lib.hid (HO4.out.below hb5)
          clear hb5 x0 x1 x2 y0 y1 y2
          go_wp2_with fail
          refine (HSM.out (.slice none 0 0) _ w5 (HO5.out.toks (by simp)) (HS.out w5 (HC.out w5 HB5.out).2.2).1).mono ?_
          rintro e w6 ⟨rfl, hb6⟩
          have HB6 := Lib.hid (HC.out w6 (HB5.out.trans (hb6.mono HB5.out.size))).2.2
          clear hb6
          go_wp2_with fail
          go_ret
          exact ⟨ret_bool' (by simp), HB6.out⟩
        · obtain ⟨hl0, hcc⟩ : True ∧ True := ⟨trivial, trivial⟩
          go_enter Tryd.func4, Tryd.ntmps4
          go_wp2_with fail
          refine (HGR.out _ HT0.out.1).mono ?_
          rintro e w1 ⟨rfl, rfl⟩
          rw [HG.out]
          obtain ⟨⟨_, x1, _⟩, ⟨_, y1, _⟩, _⟩ := HC.out _ (Below.refl _ _)
          generalize (w.alloc (.cells #[.int .u8 ak, .string at_, .int .i64 ap] 27)).alloc (.cells #[.int .u8 bk, .string bt, .int .i64 bp] 27) = W0 at HC HT0 HSZ x1 y1 ⊢
          have hnews : ∀ j u, (flatT l)[j]? = some u → W0.cell? (ad.add j) = some u := by
            rcases HC0.out with h | ⟨b, off, h, hbl, hc⟩
            · intro j u hj; rw [h] at hj; simp [flatT] at hj
            · obtain rfl := Option.some.inj h
              exact flat_cells (hc.below (HC.out _ (Below.refl _ _)).2.2 hbl)
          have HNW := Lib.hid hnews
          clear hnews
          go_wp2_with (at_builtin; refine wpList_append_own_at _ rfl _ _ 22 rfl W0.heap.size 27 i0 _ 3 32 Tryd.underlying22 hi hz0 hz1 hz2 rfl (by decide) _ 0 [] rfl (World.ownsRow_nil _ _ _ _) ad l.length cap (flatT l) rfl hfl HNW.out (flat_one l) ?c3 ?c4 (Nat.le_refl _) ?_)
          case c3 => simp only [maxLen]; omega
          case c4 => omega
          intro v1 w1 hown0 hgrow hnil hat
          have hown1 : OwnT w1 W0.heap.size v1 l := by
            first
              | exact hown0
              | (have h := hown0; rw [Nat.zero_add, List.nil_append] at h; exact h)
          have hb1 : Below W0.heap.size W0 w1 := grown_none hgrow
          clear hown0 hgrow hnil hat x1 y1 hfl hl0 hcc
          have HOWN := Lib.hid hown1
          have HB1 := Lib.hid hb1
          clear hown1 hb1
          go_wp2_with fail
          refine (HG1.out v1 w1 (HS.out w1 (HC.out w1 HB1.out).2.2).2 (HOWN.out.toks (by omega))).mono ?_
          rintro e w2 ⟨rfl, hb2⟩
          have HB2 := Lib.hid (HB1.out.trans (hb2.mono HB1.out.size))
          have HO2 := Lib.hid (HOWN.out.below hb2)
          clear hb2
          go_wp2_with fail
          refine (HG2.out _ w2 (HS.out w2 (HC.out w2 HB2.out).2.2).1).mono ?_
          rintro e w3 ⟨rfl, hb3⟩
          have HB3 := Lib.hid (HB2.out.trans (hb3.mono HB2.out.size))
          have HO3 := Lib.hid (HO2.out.below hb3)
          clear hb3
          obtain ⟨⟨x0, x1, x2⟩, ⟨y0, y1, y2⟩, _⟩ := HC.out w3 HB3.out
          go_wp2_with fail
          refine (HN1.out w3 (HS.out w3 (HC.out w3 HB3.out).2.2).2).mono ?_
          rintro e w4 ⟨rfl, hb4⟩
          have HB4 := Lib.hid (HB3.out.trans (hb4.mono HB3.out.size))
          have HO4 := Lib.hid (HO3.out.below hb4)
          clear hb4 x0 x1 x2 y0 y1 y2
          obtain ⟨⟨x0, x1, x2⟩, ⟨y0, y1, y2⟩, _⟩ := HC.out w4 HB4.out
          go_wp2_with fail
          refine (HN2.out w4).mono ?_
          rintro e w5 ⟨rfl, hb5⟩
          have HB5 := Lib.hid (HB4.out.trans (hb5.mono HB4.out.size))
          have HO5 := Lib.hid (HO4.out.below hb5)
          clear hb5 x0 x1 x2 y0 y1 y2
          go_wp2_with fail
          refine (HSM.out v1 _ w5 (HO5.out.toks (by omega)) (HS.out w5 (HC.out w5 HB5.out).2.2).1).mono ?_
          rintro e w6 ⟨rfl, hb6⟩
          have HB6 := Lib.hid (HC.out w6 (HB5.out.trans (hb6.mono HB5.out.size))).2.2
          clear hb6
          go_wp2_with fail
          go_ret
          exact ⟨ret_bool' (by simp), HB6.out⟩
      · have hb' : (10000 : Int) < (bt.size : Int) := by omega
        clear hb
        obtain ⟨⟨_, x1, _⟩, ⟨_, y1, _⟩, _⟩ := HC.out _ (Below.refl _ _)
        go_enter Tryd.func4, Tryd.ntmps4
        go_wp2_with fail
        refine (HGR.out _ HT0.out.1).mono ?_
        rintro e w1 ⟨rfl, rfl⟩
        rw [HG.out]
        go_wp2_with fail
        go_ret
        exact ⟨rfl, (HC.out _ (Below.refl _ _)).2.2⟩
    · have ha' : (10000 : Int) < (at_.size : Int) := by omega
      clear ha
      obtain ⟨⟨_, x1, _⟩, ⟨_, y1, _⟩, _⟩ := HC.out _ (Below.refl _ _)
      go_enter Tryd.func4, Tryd.ntmps4
      go_wp2_with fail
      refine (HGR.out _ HT0.out.1).mono ?_
      rintro e w1 ⟨rfl, rfl⟩
      rw [HG.out]
      go_wp2_with fail
      go_ret
      exact ⟨rfl, (HC.out _ (Below.refl _ _)).2.2⟩
end Go.Proofs.YtipbgaiaoahnmaaDoor
