/- rallentandolaw15.LexBack, walked: what is glued is cut into the same tokens; it answers true. -/
import Derived.Test.YtipbgaiaoahnmaaDoorLexW
namespace Go.Proofs.YtipbgaiaoahnmaaDoor
open Go.RowKit Go.Shelf
attribute [local go_sem ↓] Go.wp_at_zero Go.wp_at_succ

theorem glueP_ok {l : List Tok} (h : (glueP l).2 = 0) : l.all mayT = true ∧ (glue (textsOf l)).length ≤ 4096 ∧ (glueP l).1 = glue (textsOf l) := by
  unfold glueP at h ⊢
  split at h
  · rename_i h1
    rw [if_pos h1]
    split at h
    · rename_i h2
      rw [if_pos h2]
      exact ⟨h1, h2, rfl⟩
    · simp at h
  · simp at h
theorem glueP_err {l : List Tok} (h : (glueP l).2 ≠ 0) : (glueP l).1 = [] := by
  unfold glueP at h ⊢
  split at h
  · rename_i h1
    rw [if_pos h1]
    split at h
    · exact absurd rfl h
    · rename_i h2
      rw [if_neg h2]
  · rename_i h1
    rw [if_neg h1]

theorem texts_kind {l : List Tok} (h : l.all mayT = true) : ∀ u ∈ textsOf l, kindOf u ≠ 0 := by
  intro u hu
  simp only [textsOf, List.mem_map] at hu
  obtain ⟨t, ht, rfl⟩ := hu
  rw [List.all_eq_true] at h
  exact (mayB_ne (h t ht)).1

/-- What is glued is cut into the same tokens, but for their places. -/
theorem back_cut {l : List Tok} (h : (glueP l).2 = 0) : ∃ ts, cutR (bsOf (glueP l).1) = (ts, 0, 0) ∧ ts.length = l.length ∧ ∀ i (h1 : i < ts.length) (h2 : i < l.length), ts[i].kind = l[i].kind ∧ ts[i].text = l[i].text := by
  obtain ⟨h1, h2, h3⟩ := glueP_ok h
  obtain ⟨ts, hc, hm⟩ := cut_glue (textsOf l) (texts_kind h1) 0
  rw [h3]
  have hml : ts.map (fun t => (t.kind, t.text)) = l.map (fun t => (t.kind, t.text)) := by
    rw [hm, textsOf, List.map_map]
    refine List.map_congr_left (fun t ht => ?_)
    rw [List.all_eq_true] at h1
    have := (mayB_ne (h1 t ht)).2.1
    simp only [Function.comp, bsOf_of, ← this]
  refine ⟨ts, ?_, ?_, fun i hi hj => ?_⟩
  · rw [cutR, if_neg (by rw [bsOf_size]; omega), bsOf_list, hc]
  · have := congrArg List.length hml
    simpa using this
  · have h4 : (ts.map (fun t => (t.kind, t.text)))[i]? = (l.map (fun t => (t.kind, t.text)))[i]? := by rw [hml]
    rw [List.getElem?_map, List.getElem?_map, List.getElem?_eq_getElem hi, List.getElem?_eq_getElem hj] at h4
    simpa using h4

set_option maxRecDepth 100000 in
set_option maxHeartbeats 4000000 in
theorem lexBack5 (v : Value) (l : List Tok) (w : World) (hr : Rdy w) (hs : Toks w w.heap.size v l) (hz : ∀ t ∈ l, t.text.size ≤ 281474976710656) (hlm : l.length ≤ 281474976710656) :
    Calls Tryd.prog 5 #[v] w fun e w' => e = .returned (.bool true) ∧ Below w.heap.size w w' := by
  have HR := Lib.hid hr
  have HS : Hid (∀ W, Below w.heap.size w W → Toks W W.heap.size v l ∧ Rdy W) := fun W hb => ⟨(hs.below hb).mono hb.size, hr.below hb⟩
  have HAL := Lib.hid (fun W hW => alive11_any W hW)
  have HGR := Lib.hid (fun W hs => great13_any v l W hs hz hlm)
  have HGL := Lib.hid (fun W hW hs hg => glue14_any v l W hW hs hg)
  have hs0 := hs
  obtain ⟨a, cap, rfl, hm, h⟩ := hs
  have HC0 : Hid (l = [] ∨ ∃ b off, a = some ⟨b, off, none⟩ ∧ b < w.heap.size ∧ TokC w b off l) := h
  clear h hs0 hr hz
  cases hg : greatB l with
  | true =>
    have HG := Lib.hid hg
    clear hg
    go_enter Tryd.func5, Tryd.ntmps5
    go_wp2_with fail
    refine (HAL.out w HR.out).mono ?_
    rintro e w1 ⟨rfl, hb1⟩
    have HB1 := Lib.hid hb1
    clear hb1
    go_wp2_with fail
    refine (HGR.out w1 (HS.out w1 HB1.out).1).mono ?_
    rintro e w2 ⟨rfl, rfl⟩
    rw [HG.out]
    go_wp2_with fail
    go_ret
    exact ⟨rfl, HB1.out⟩
  | false =>
    have HG := Lib.hid hg
    have HSUM : Hid (sumT l l.length ≤ 20000) := by simp only [greatB, decide_eq_false_iff_not] at hg; exact Nat.le_of_not_lt hg
    clear hg
    by_cases h0 : (glueP l).2 = 0
    · obtain ⟨ts, hc, hlen, hsame⟩ := back_cut h0
      have HCUT : Hid (∀ W, Rdy W → Calls Tryd.prog 9 #[.string (bsOf (glueP l).1)] W fun e w' => (∃ v', e = .returned (.tuple #[v', .int .i64 0, .int .i64 0]) ∧ OwnT w' W.heap.size v' ts) ∧ Below W.heap.size W w') := fun W hW => by
        have h1 := cut9_any (bsOf (glueP l).1) W hW
        rw [hc] at h1
        exact h1
      have HGL' : Hid (∀ W, Rdy W → Toks W W.heap.size (.slice a l.length cap) l → Calls Tryd.prog 14 #[.slice a l.length cap] W fun e w' => e = .returned (.tuple #[.string (bsOf (glueP l).1), .int .i64 0]) ∧ Below W.heap.size W w') := fun W hW hs => by
        have h1 := HGL.out W hW hs HSUM.out
        rw [h0] at h1
        exact h1
      generalize bsOf (glueP l).1 = G at HCUT HGL'
      have HSAME := Lib.hid hsame
      have hle : ((ts.length : Int) != (l.length : Int)) = false := by simp [hlen]
      have HLEN := Lib.hid hlen
      clear hc h0 hsame hlen HGL
      go_enter Tryd.func5, Tryd.ntmps5
      go_wp2_with fail
      refine (HAL.out w HR.out).mono ?_
      rintro e w1 ⟨rfl, hb1⟩
      have HB1 := Lib.hid hb1
      clear hb1
      go_wp2_with fail
      refine (HGR.out w1 (HS.out w1 HB1.out).1).mono ?_
      rintro e w2 ⟨rfl, rfl⟩
      rw [HG.out]
      go_wp2_with fail
      refine (HGL'.out w2 (HS.out w2 HB1.out).2 (HS.out w2 HB1.out).1).mono ?_
      rintro e w3 ⟨rfl, hb3⟩
      have HB3 := Lib.hid (HB1.out.trans (hb3.mono HB1.out.size))
      clear hb3
      go_wp2_with fail
      refine (HCUT.out w3 (HS.out w3 HB3.out).2).mono ?_
      rintro e w4 ⟨⟨v', rfl, hown⟩, hb4⟩
      have HB4 := Lib.hid (HB3.out.trans (hb4.mono HB3.out.size))
      have HT := Lib.hid (hown.toks (by rw [HLEN.out]; exact hm))
      clear hb4 hown
      obtain ⟨a', cap', rfl, hm', h'⟩ := HT.out
      have HC1 := Lib.hid h'
      clear h' HT
      go_wp2_with fail
      go_loopw [9] (fun i wr => ∃ (k : Nat), k ≤ ts.length ∧ i = .int .i64 k ∧ Hid (Below w4.heap.size w4 wr)) (fun i _ => ts.length - (intOf i).toNat)
      case atStart => exact ⟨0, Nat.zero_le _, rfl, Below.refl _ _⟩
      case round =>
        obtain ⟨k, hk, rfl, HBW⟩ := hrel
        by_cases hlt : k < ts.length
        · have hlt' : k < l.length := by rw [← HLEN.out]; exact hlt
          rcases HC1.out with h | ⟨b, off, rfl, hbl, hc⟩
          · rw [h] at hlt; exact absurd hlt (by simp)
          rcases HC0.out with h' | ⟨b', off', rfl, hbl', hc'⟩
          · rw [h'] at hlt'; exact absurd hlt' (by simp)
          obtain ⟨c1, c2, _⟩ := (hc.below HBW.out hbl) k hlt
          have hbw0 : Below w.heap.size w wr := HB4.out.trans (HBW.out.mono HB4.out.size)
          obtain ⟨d1, d2, _⟩ := (hc'.below hbw0 hbl') k hlt'
          obtain ⟨e1, e2⟩ := HSAME.out k hlt hlt'
          rw [← e1] at d1
          rw [← e2] at d2
          clear e1 e2 hc hc' hbw0
          generalize ts[k].kind = tk at c1 d1
          generalize ts[k].text = tt at c2 d2
          have hlti : (k : Int) < (ts.length : Int) := by omega
          have hlti' : (k : Int) < (l.length : Int) := by omega
          have hk0 : (0 : Int) ≤ (k : Int) := by omega
          have q1 : (tk != tk) = false := by simp
          have q2 : (tt.toList != tt.toList) = false := by simp
          go_wp2_with fail
          go_quiet (fail)
          go_wp2_with fail
          refine ⟨⟨k + 1, by omega, by push_cast; rfl, belowDrewN HBW.out _⟩, by simp [intOf]; omega⟩
        · go_wp2_with fail
          go_ret
          exact ⟨rfl, HB4.out.trans (HBW.out.mono HB4.out.size)⟩
    · have HGL' : Hid (∀ W, Rdy W → Toks W W.heap.size (.slice a l.length cap) l → Calls Tryd.prog 14 #[.slice a l.length cap] W fun e w' => e = .returned (.tuple #[.string ⟨#[]⟩, .int .i64 (glueP l).2]) ∧ Below W.heap.size W w') := fun W hW hs => by
        have h1 := HGL.out W hW hs HSUM.out
        rw [glueP_err h0] at h1
        exact h1
      have q : ((glueP l).2 != 0) = true := by simpa using h0
      generalize (glueP l).2 = E at q HGL'
      clear h0 HGL
      go_enter Tryd.func5, Tryd.ntmps5
      go_wp2_with fail
      refine (HAL.out w HR.out).mono ?_
      rintro e w1 ⟨rfl, hb1⟩
      have HB1 := Lib.hid hb1
      clear hb1
      go_wp2_with fail
      refine (HGR.out w1 (HS.out w1 HB1.out).1).mono ?_
      rintro e w2 ⟨rfl, rfl⟩
      rw [HG.out]
      go_wp2_with fail
      refine (HGL'.out w2 (HS.out w2 HB1.out).2 (HS.out w2 HB1.out).1).mono ?_
      rintro e w3 ⟨rfl, hb3⟩
      have HB3 := Lib.hid (HB1.out.trans (hb3.mono HB1.out.size))
      clear hb3
      go_wp2_with fail
      go_ret
      exact ⟨ret_bool' (by first | rfl | simp), HB3.out⟩
end Go.Proofs.YtipbgaiaoahnmaaDoor
