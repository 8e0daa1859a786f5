/- rallentandolaw15.LexShort, walked: no blank of what is glued can go; it answers true. -/
import Derived.Test.YtipbgaiaoahnmaaDoorBackA
namespace Go.Proofs.YtipbgaiaoahnmaaDoor
open Go.RowKit Go.Shelf
attribute [local go_sem ↓] Go.wp_at_zero Go.wp_at_succ

/-- A text that is cut is glued again, and is no longer. -/
theorem short_glue {s : ByteArray} (h : (cutR s).2.2 = 0) : glueP (cutR s).1 = (glue (textsOf (cutR s).1), 0) ∧ (glue (textsOf (cutR s).1)).length ≤ s.size := by
  obtain ⟨h4, hc, _⟩ := cutR_ok h
  have hs := glue_short _ _ _ hc
  rw [size_list] at hs
  have hall : (cutR s).1.all mayT = true := by
    rw [List.all_eq_true]
    intro t ht
    obtain ⟨h1, h2, h3⟩ := cut_kinds _ _ _ hc t ht
    simp only [mayT, mayB, kindB_eq, h1, Bool.and_eq_true, bne_iff_ne, ne_eq, beq_iff_eq, decide_eq_true_eq]
    exact ⟨⟨h2, by first | rfl | trivial⟩, h3⟩
  refine ⟨?_, hs⟩
  rw [glueP, hall, if_pos rfl, if_pos (by omega)]
/-- What is cut from less text has other texts. -/
theorem short_other {l : List Tok} {X : ByteArray} (hx : X.size < (glue (textsOf l)).length) (h0 : (cutR X).2.2 = 0) (hl : (cutR X).1.length = l.length)
    (hs : ∀ j (h1 : j < (cutR X).1.length) (h2 : j < l.length), ((cutR X).1[j]).text = l[j].text) : False := by
  obtain ⟨_, hc, _⟩ := cutR_ok h0
  refine glue_tight 0 l _ _ hc (by rw [size_list]; exact hx) ?_
  refine List.ext_getElem (by simp [textsOf, hl]) (fun j h1 h2 => ?_)
  simp only [textsOf, List.length_map] at h1 h2
  simp only [textsOf, List.getElem_map, hs j h1 h2]

set_option maxRecDepth 100000 in
set_option maxHeartbeats 4000000 in
theorem lexShort6 (s : ByteArray) (i : Int) (w : World) (hr : Rdy w) (hi64 : i ≤ 9223372036854775807) :
    Calls Tryd.prog 6 #[.string s, .int .i64 i] w fun e w' => e = .returned (.bool true) ∧ Below w.heap.size w w' := by
  have HR := Lib.hid hr
  have HAL := Lib.hid (fun W hW => alive11_any W hW)
  clear hr
  by_cases h4 : s.size ≤ 4096
  · have h4' : ¬ (4096 : Int) < (s.size : Int) := by omega
    have HCUT := Lib.hid (fun W hW => cut9_any s W hW)
    by_cases h0 : (cutR s).2.2 = 0
    · obtain ⟨hg, hgl⟩ := short_glue h0
      have hpl := (cutR_ok h0).2.2
      have HGL := Lib.hid (fun v W hW hs => glue14_any v (cutR s).1 W hW hs (by have := cutR_sum s; omega))
      have HLEN := Lib.hid (cutR_len s)
      rw [h0, hpl] at HCUT
      rw [hg] at HGL
      have HOTH := Lib.hid (fun X => @short_other (cutR s).1 X)
      generalize cutR s = C at HCUT HGL HLEN HOTH hgl
      obtain ⟨l, pl, er⟩ := C
      dsimp only at HCUT HGL HLEN HOTH hgl
      have hGs := bsOf_size (glue (textsOf l))
      generalize bsOf (glue (textsOf l)) = G at HGL hGs
      rw [← hGs] at HOTH hgl
      have hg1 : ¬ (s.size : Int) < (G.size : Int) := by omega
      have hg2 : G.size ≤ 4096 := by omega
      clear hg h0 hpl hgl hGs h4
      by_cases hin : 0 ≤ i ∧ i < G.size
      · obtain ⟨n, rfl⟩ : ∃ n : Nat, i = n := ⟨i.toNat, by omega⟩
        have hn : n < G.size := by omega
        have hi0 : ¬ (n : Int) < 0 := by omega
        have hi1 : ¬ (G.size : Int) ≤ (n : Int) := by omega
        obtain ⟨c, hii⟩ : ∃ c : Int, ∀ W, (Instr.index 9 (.string G) (.int .i64 (n : Int))).run Tryd.prog W = .ok (.int .u8 c) W := by
          refine ⟨(G[n]'hn).toNat, fun W => ?_⟩
          rw [run_index_string W 9 G .i64 _ Tryd.underlying9, dif_pos (by omega)]
          simp
        by_cases hc : c = 32
        · have q : (c != 32) = false := by simpa using hc
          subst hc
          have hw1 : IntKind.i64.wrap ((n : Int) + 1) = (n : Int) + 1 := IntWalk.i64_in _ (by omega)
          have hsl1 : ∀ W, (Instr.slice 9 (.string G) none (some (.int .i64 (n : Int))) none).run Tryd.prog W = .ok (.string (G.extract 0 n)) W := fun W => by
            rw [run_slice_string_h W 9 G Tryd.underlying9 .i64 _ (by omega) (by omega)]; rfl
          have hsl2 : ∀ W, (Instr.slice 9 (.string G) (some (.int .i64 ((n : Int) + 1))) none none).run Tryd.prog W = .ok (.string (G.extract (n + 1) G.size)) W := fun W => by
            rw [run_slice_string_l W 9 G Tryd.underlying9 .i64 _ (by omega) (by omega)]; rfl
          have hsz : (G.extract 0 n ++ G.extract (n + 1) G.size).size < G.size := by
            rw [ByteArray.size_append, ByteArray.size_extract, ByteArray.size_extract]; omega
          have hadd : ∀ W, (Op.stringOp .add (G.extract 0 n) (G.extract (n + 1) G.size)).run Tryd.prog W = .ok (.string (G.extract 0 n ++ G.extract (n + 1) G.size)) W := fun W => run_string_add_sum W _ _ (by
            rw [ByteArray.size_extract, ByteArray.size_extract]; omega)
          have HOT := Lib.hid (HOTH.out _ hsz)
          have HCUT2 := Lib.hid (fun W hW => cut9_any (G.extract 0 n ++ G.extract (n + 1) G.size) W hW)
          have HLEN2 := Lib.hid (cutR_len (G.extract 0 n ++ G.extract (n + 1) G.size))
          clear hsz
          generalize G.extract 0 n ++ G.extract (n + 1) G.size = X at hadd HOT HCUT2 HLEN2
          generalize G.extract 0 n = X1 at hsl1 hadd
          generalize G.extract (n + 1) G.size = X2 at hsl2 hadd
          generalize cutR X = C2 at HOT HCUT2 HLEN2
          obtain ⟨m, pm, em⟩ := C2
          dsimp only at HOT HCUT2 HLEN2
          go_enter Tryd.func6, Tryd.ntmps6
          go_wp2_with fail
          refine (HAL.out w HR.out).mono ?_
          rintro e w1 ⟨rfl, hb1⟩
          have HB1 := Lib.hid hb1
          clear hb1
          go_wp2_with fail
          refine (HCUT.out w1 (HR.out.below HB1.out)).mono ?_
          rintro e w2 ⟨⟨v2, rfl, hown2⟩, hb2⟩
          have HB2 := Lib.hid (HB1.out.trans (hb2.mono HB1.out.size))
          have HO2 := Lib.hid hown2
          clear hb2 hown2
          go_wp2_with fail
          refine (HGL.out v2 w2 (HR.out.below HB2.out) (HO2.out.toks (by have := HLEN.out; omega))).mono ?_
          rintro e w3 ⟨rfl, hb3⟩
          have HB3 := Lib.hid (HB2.out.trans (hb3.mono HB2.out.size))
          have HO3 := Lib.hid (HO2.out.below hb3)
          clear hb3
          go_wp2_with fail
          have HR3 := Lib.hid (HR.out.below HB3.out)
          go_cut [11, 12, 13, 58, 59, 60, 65] from 67 to 80 (fun mv pv ev _ _ _ _ wx => pv = .int .i64 pm ∧ ev = .int .i64 em ∧ OwnT wx w3.heap.size mv m ∧ Below w3.heap.size w3 wx)
          case first =>
            go_region_law (first | (go_simp; go_at_call 9; refine (HCUT2.out w3.drew (show Rdy w3.drew from HR3.out)).mono ?_; rintro e w4 ⟨⟨v4, rfl, hown4⟩, hb4⟩))
            all_goals (
              go_wp2_with fail
              go_meet
              exact ⟨rfl, rfl, hown4, ((Below.refl w3.heap.size w3).drew).trans hb4⟩)
          case rest =>
          obtain ⟨rfl, rfl, hown4, hb4⟩ := hcut
          have HB4 := Lib.hid (HB3.out.trans (hb4.mono HB3.out.size))
          have HB34 := Lib.hid hb4
          have HO4 := Lib.hid hown4
          clear hb4 hown4
          obtain ⟨a2, cap2, rfl⟩ := (show ∃ a c, v2 = Value.slice a l.length c from HO2.out.shape)
          obtain ⟨a4, cap4, rfl⟩ := HO4.out.shape
          by_cases hem : em = 0
          · subst hem
            by_cases hln : m.length = l.length
            · have q2 : ((m.length : Int) != (l.length : Int)) = false := by simp [hln]
              have HLN := Lib.hid hln
              have HOE := Lib.hid (HOT.out rfl hln)
              have HT4 := Lib.hid (HO4.out.toks (by have := HLEN2.out; omega))
              have HT2 := Lib.hid ((HO3.out.below HB34.out).toks (by have := HLEN.out; omega))
              clear hln
              go_wp2_with fail
              go_loopw [14] (fun i wr => ∃ (k : Nat), k ≤ m.length ∧ i = .int .i64 k ∧ Hid (Below wc.heap.size wc wr) ∧ Hid (∀ j (h1 : j < m.length) (h2 : j < l.length), j < k → m[j].text = l[j].text)) (fun i _ => m.length - (intOf i).toNat)
              case atStart => exact ⟨0, Nat.zero_le _, rfl, Below.refl _ _, fun j _ _ h => by omega⟩
              case round =>
                obtain ⟨k, hk, rfl, HBW, HSM⟩ := hrel
                by_cases hlt : k < m.length
                · have hlt' : k < l.length := by rw [← HLN.out]; exact hlt
                  obtain ⟨x4, y4, hx4, _, h⟩ := HT4.out
                  obtain ⟨x2, y2, hx2, _, h'⟩ := HT2.out
                  rcases h with h | ⟨b, off, rfl, hbl, hc⟩
                  · rw [h] at hlt; exact absurd hlt (by simp)
                  rcases h' with h' | ⟨b', off', rfl, hbl', hc'⟩
                  · rw [h'] at hlt'; exact absurd hlt' (by simp)
                  obtain ⟨rfl, rfl⟩ : a4 = some ⟨b, off, none⟩ ∧ cap4 = y4 := by simpa using hx4
                  obtain ⟨rfl, rfl⟩ : a2 = some ⟨b', off', none⟩ ∧ cap2 = y2 := by simpa using hx2
                  obtain ⟨_, c2, _⟩ := (hc.below HBW.out hbl) k hlt
                  obtain ⟨_, d2, _⟩ := (hc'.below HBW.out hbl') k hlt'
                  have HST : Hid (m[k].text = l[k].text → ∀ j (h1 : j < m.length) (h2 : j < l.length), j < k + 1 → m[j].text = l[j].text) := fun he j h1 h2 h3 => by
                    rcases Nat.lt_or_ge j k with h4 | h4
                    · exact HSM.out j h1 h2 h4
                    · obtain rfl : j = k := by omega
                      exact he
                  generalize m[k].text = tt at c2 HST
                  generalize l[k].text = ut at d2 HST
                  have hlti : (k : Int) < (m.length : Int) := by omega
                  have hlti' : (k : Int) < (l.length : Int) := by omega
                  have hk0 : (0 : Int) ≤ (k : Int) := by omega
                  clear hx4 hx2 hc hc'
                  by_cases he : tt = ut
                  · have HE := Lib.hid (HST.out he)
                    subst he
                    have q3 : (tt.toList != tt.toList) = false := by simp
                    go_wp2_with fail
                    go_quiet (fail)
                    go_wp2_with fail
                    refine ⟨⟨k + 1, by omega, by push_cast; rfl, belowDrewN HBW.out _, HE.out⟩, by simp [intOf]; omega⟩
                  · have q3 : (tt.toList != ut.toList) = true := by simpa using fun h => he (toList_inj h)
                    have q4 : (tt.toList == ut.toList) = false := by simpa using fun h => he (toList_inj h)
                    have HQ := Lib.hid q3
                    clear he
                    go_wp2_with fail
                    go_quiet (fail)
                    go_wp2_with fail
                    all_goals first
                      | (go_ret; exact ⟨rfl, HB4.out.trans ((belowDrewN HBW.out _).mono HB4.out.size)⟩)
                      | (exfalso; have := HQ.out; simp_all)
                · exact absurd (HOE.out (fun j h1 h2 => HSM.out j h1 h2 (by omega))) id
            · have q2 : ((m.length : Int) != (l.length : Int)) = true := by simp; omega
              clear hln
              go_wp2_with fail
              go_ret
              exact ⟨rfl, HB4.out⟩
          · have q2 : (em != 0) = true := by simpa using hem
            clear hem
            go_wp2_with fail
            go_ret
            exact ⟨rfl, HB4.out⟩
        · have q : (c != 32) = true := by simpa using hc
          clear hc
          go_enter Tryd.func6, Tryd.ntmps6
          go_wp2_with fail
          refine (HAL.out w HR.out).mono ?_
          rintro e w1 ⟨rfl, hb1⟩
          have HB1 := Lib.hid hb1
          clear hb1
          go_wp2_with fail
          refine (HCUT.out w1 (HR.out.below HB1.out)).mono ?_
          rintro e w2 ⟨⟨v2, rfl, hown2⟩, hb2⟩
          have HB2 := Lib.hid (HB1.out.trans (hb2.mono HB1.out.size))
          have HO2 := Lib.hid hown2
          clear hb2 hown2
          go_wp2_with fail
          refine (HGL.out v2 w2 (HR.out.below HB2.out) (HO2.out.toks (by have := HLEN.out; omega))).mono ?_
          rintro e w3 ⟨rfl, hb3⟩
          have HB3 := Lib.hid (HB2.out.trans (hb3.mono HB2.out.size))
          have HO3 := Lib.hid (HO2.out.below hb3)
          clear hb3
          go_wp2_with fail
          go_ret
          exact ⟨rfl, HB3.out⟩
      · by_cases hneg : i < 0
        · clear hin
          go_enter Tryd.func6, Tryd.ntmps6
          go_wp2_with fail
          refine (HAL.out w HR.out).mono ?_
          rintro e w1 ⟨rfl, hb1⟩
          have HB1 := Lib.hid hb1
          clear hb1
          go_wp2_with fail
          refine (HCUT.out w1 (HR.out.below HB1.out)).mono ?_
          rintro e w2 ⟨⟨v2, rfl, hown2⟩, hb2⟩
          have HB2 := Lib.hid (HB1.out.trans (hb2.mono HB1.out.size))
          have HO2 := Lib.hid hown2
          clear hb2 hown2
          go_wp2_with fail
          refine (HGL.out v2 w2 (HR.out.below HB2.out) (HO2.out.toks (by have := HLEN.out; omega))).mono ?_
          rintro e w3 ⟨rfl, hb3⟩
          have HB3 := Lib.hid (HB2.out.trans (hb3.mono HB2.out.size))
          have HO3 := Lib.hid (HO2.out.below hb3)
          clear hb3
          go_wp2_with fail
          go_ret
          exact ⟨rfl, HB3.out⟩
        · have hge : (G.size : Int) ≤ i := by omega
          clear hin
          go_enter Tryd.func6, Tryd.ntmps6
          go_wp2_with fail
          refine (HAL.out w HR.out).mono ?_
          rintro e w1 ⟨rfl, hb1⟩
          have HB1 := Lib.hid hb1
          clear hb1
          go_wp2_with fail
          refine (HCUT.out w1 (HR.out.below HB1.out)).mono ?_
          rintro e w2 ⟨⟨v2, rfl, hown2⟩, hb2⟩
          have HB2 := Lib.hid (HB1.out.trans (hb2.mono HB1.out.size))
          have HO2 := Lib.hid hown2
          clear hb2 hown2
          go_wp2_with fail
          refine (HGL.out v2 w2 (HR.out.below HB2.out) (HO2.out.toks (by have := HLEN.out; omega))).mono ?_
          rintro e w3 ⟨rfl, hb3⟩
          have HB3 := Lib.hid (HB2.out.trans (hb3.mono HB2.out.size))
          have HO3 := Lib.hid (HO2.out.below hb3)
          clear hb3
          go_wp2_with fail
          go_ret
          exact ⟨rfl, HB3.out⟩
    · have hl0 := (cutR_err h0).1
      rw [hl0] at HCUT
      have q : ((cutR s).2.2 != 0) = true := by simpa using h0
      generalize (cutR s).2.2 = er at q HCUT
      generalize (cutR s).2.1 = pl at HCUT
      clear h0 hl0 h4
      go_enter Tryd.func6, Tryd.ntmps6
      go_wp2_with fail
      refine (HAL.out w HR.out).mono ?_
      rintro e w1 ⟨rfl, hb1⟩
      have HB1 := Lib.hid hb1
      clear hb1
      go_wp2_with fail
      refine (HCUT.out w1 (HR.out.below HB1.out)).mono ?_
      rintro e w2 ⟨⟨v2, rfl, hown2⟩, hb2⟩
      have HB2 := Lib.hid (HB1.out.trans (hb2.mono HB1.out.size))
      obtain ⟨a2, c2, rfl⟩ := hown2.shape
      clear hb2 hown2
      go_wp2_with fail
      go_ret
      exact ⟨rfl, HB2.out⟩
  · have h4' : (4096 : Int) < (s.size : Int) := by omega
    clear h4
    go_enter Tryd.func6, Tryd.ntmps6
    go_wp2_with fail
    refine (HAL.out w HR.out).mono ?_
    rintro e w1 ⟨rfl, hb1⟩
    have HB1 := Lib.hid hb1
    clear hb1
    go_wp2_with fail
    go_ret
    exact ⟨rfl, HB1.out⟩
end Go.Proofs.YtipbgaiaoahnmaaDoor
