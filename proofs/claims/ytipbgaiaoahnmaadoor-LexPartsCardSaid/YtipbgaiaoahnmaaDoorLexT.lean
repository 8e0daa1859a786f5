/- lex.Near. -/
import Derived.Test.YtipbgaiaoahnmaaDoorLexQ
import Derived.Test.YtipbgaiaoahnmaaDoorLexF
namespace Go.Proofs.YtipbgaiaoahnmaaDoor
open Go.RowKit Go.Shelf
attribute [local go_sem ↓] Go.wp_at_zero Go.wp_at_succ

theorem near_cut (a b : ByteArray) (ha : kindOf a.data.toList ≠ 0) (hb : kindOf b.data.toList ≠ 0) :
    ((cutR (a ++ b)).2.2 ≠ 0 → apart a.data.toList b.data.toList = false) ∧
    ((cutR (a ++ b)).1.length ≠ 2 → apart a.data.toList b.data.toList = false) ∧
    ((cutR (a ++ b)).2.2 = 0 → ∀ t u, (cutR (a ++ b)).1 = [t, u] → (t.text = a → apart a.data.toList b.data.toList = true) ∧ (t.text ≠ a → apart a.data.toList b.data.toList = false)) := by
  have hsz : (a ++ b).size ≤ 4096 := by
    have := kind_size ha
    have := kind_size hb
    rw [ByteArray.size_append]; omega
  have hl : (a ++ b).data.toList = a.data.toList ++ b.data.toList := by simp [ByteArray.data_append]
  have hc : cutR (a ++ b) = match cut 0 (a.data.toList ++ b.data.toList) with | .ok l => (l, 0, 0) | .bad p e => ([], p, e) := by rw [cutR, if_neg (by omega), hl]; cases cut 0 (a.data.toList ++ b.data.toList) <;> rfl
  rcases cut_pair 0 a.data.toList b.data.toList ha hb with ⟨h1, h2⟩ | ⟨h1, h2⟩
  · rw [h2] at hc
    rw [hc]
    refine ⟨fun h => absurd rfl h, fun h => absurd rfl h, fun _ t u h => ⟨fun _ => h1, fun h3 => ?_⟩⟩
    have := (List.cons.inj h).1
    rw [← this] at h3
    exact absurd (bsOf_of a) h3
  · refine ⟨fun _ => h1, fun _ => h1, fun h0 t u h => ⟨fun h3 => ?_, fun _ => h1⟩⟩
    cases hq : cut 0 (a.data.toList ++ b.data.toList) with
    | bad p e =>
      rw [hq] at hc
      rw [hc] at h; cases h
    | ok ts =>
      rw [hq] at hc
      rw [hc] at h
      dsimp only at h
      subst h
      exact absurd (by rw [List.head?_cons, Option.map_some, h3, bsOf_of]) (h2 _ hq rfl)

set_option maxRecDepth 100000 in
set_option maxHeartbeats 4000000 in
theorem near10_any (a b : Tok) (w : World) (hr : Rdy w) :
    Calls Tryd.prog 10 #[a.val, b.val] w fun e w' => e = .returned (.tuple #[.bool (nearB a b).1, .int .i64 (nearB a b).2]) ∧ Below w.heap.size w w' := by
  obtain ⟨ak, at_, ap⟩ := a
  obtain ⟨bk, bt, bp⟩ := b
  simp only [Tok.val]
  have h2 : ((w.alloc (.cells #[.int .u8 ak, .string at_, .int .i64 ap] 27)).alloc (.cells #[.int .u8 bk, .string bt, .int .i64 bp] 27)).heap.size = w.heap.size + 2 := by simp
  have HBW0 : Hid (Below w.heap.size w ((w.alloc (.cells #[.int .u8 ak, .string at_, .int .i64 ap] 27)).alloc (.cells #[.int .u8 bk, .string bt, .int .i64 bp] 27))) := ((Below.refl _ w).alloc (Nat.le_refl _) _).alloc (by simp) _
  have HR0 : Hid (Rdy ((w.alloc (.cells #[.int .u8 ak, .string at_, .int .i64 ap] 27)).alloc (.cells #[.int .u8 bk, .string bt, .int .i64 bp] 27))) := hr.below HBW0.out
  have HA := Lib.hid (fun W hW => may25_any ak ap at_ W hW)
  have HB := Lib.hid (fun W hW => may25_any bk bp bt W hW)
  have HCUT := Lib.hid (fun W hW => cut9_any (at_ ++ bt) W hW)
  have HN : Hid (∀ x y, mayB ak at_.data.toList ap = x → mayB bk bt.data.toList bp = y → nearB ⟨ak, at_, ap⟩ ⟨bk, bt, bp⟩ = if x && y then (apart at_.data.toList bt.data.toList, 0) else (false, 8)) := by
    rintro x y rfl rfl; rfl
  have HC : Hid (∀ W, Below ((w.alloc (.cells #[.int .u8 ak, .string at_, .int .i64 ap] 27)).alloc (.cells #[.int .u8 bk, .string bt, .int .i64 bp] 27)).heap.size ((w.alloc (.cells #[.int .u8 ak, .string at_, .int .i64 ap] 27)).alloc (.cells #[.int .u8 bk, .string bt, .int .i64 bp] 27)) W →
      W.cell? ⟨w.heap.size, 1, none⟩ = some (.string at_) ∧ W.cell? ⟨w.heap.size + 1, 0, none⟩ = some (.int .u8 bk) ∧ W.cell? ⟨w.heap.size + 1, 1, none⟩ = some (.string bt) ∧ W.cell? ⟨w.heap.size + 1, 2, none⟩ = some (.int .i64 bp) ∧ Below w.heap.size w W) := by
    intro W hb
    have h0 : ((w.alloc (.cells #[.int .u8 ak, .string at_, .int .i64 ap] 27)).alloc (.cells #[.int .u8 bk, .string bt, .int .i64 bp] 27)).heap.size = w.heap.size + 2 := by simp
    refine ⟨?_, ?_, ?_, ?_, (((Below.refl _ w).alloc (Nat.le_refl _) _).alloc (by simp) _).trans (hb.mono (by omega))⟩
    · rw [hb.cell (p := ⟨w.heap.size, 1, none⟩) (by rw [h0]; show w.heap.size < _; omega)]; simp [World.cell?_alloc_at, World.cell?_alloc_past]
    · rw [hb.cell (p := ⟨w.heap.size + 1, 0, none⟩) (by simp)]; simp [World.cell?_alloc_at]
    · rw [hb.cell (p := ⟨w.heap.size + 1, 1, none⟩) (by simp)]; simp [World.cell?_alloc_at]
    · rw [hb.cell (p := ⟨w.heap.size + 1, 2, none⟩) (by simp)]; simp [World.cell?_alloc_at]
  clear hr h2
  cases h1 : mayB ak at_.data.toList ap with
  | false =>
    have H1 := Lib.hid h1
    clear h1
    go_enter Tryd.func10, Tryd.ntmps10
    go_wp2_with fail
    refine (HA.out _ HR0.out).mono ?_
    rintro e w1 ⟨rfl, hb1⟩
    rw [H1.out]
    go_wp2_with fail
    go_ret2
    exact ⟨pair_ret (by rw [HN.out _ _ H1.out rfl]; simp) (by rw [HN.out _ _ H1.out rfl]; simp), (HC.out _ hb1).2.2.2.2⟩
  | true =>
    have H1 := Lib.hid h1
    clear h1
    cases h2 : mayB bk bt.data.toList bp with
    | false =>
      have H2 := Lib.hid h2
      clear h2
      go_enter Tryd.func10, Tryd.ntmps10
      go_wp2_with fail
      refine (HA.out _ HR0.out).mono ?_
      rintro e w1 ⟨rfl, hb1⟩
      rw [H1.out]
      obtain ⟨_, d0, d1, d2, _⟩ := HC.out _ hb1
      have HR1 := Lib.hid (HR0.out.below hb1)
      go_wp2_with fail
      refine (HB.out _ HR1.out).mono ?_
      rintro e w2 ⟨rfl, hb2⟩
      rw [H2.out]
      go_wp2_with fail
      go_ret2
      exact ⟨pair_ret (by rw [HN.out _ _ H1.out H2.out]; simp) (by rw [HN.out _ _ H1.out H2.out]; simp), (HC.out _ (hb1.trans (hb2.mono hb1.size))).2.2.2.2⟩
    | true =>
      have H2 := Lib.hid h2
      clear h2
      have K1 := (mayB_ne H1.out).1
      have K2 := (mayB_ne H2.out).1
      have hs1 := kind_size K1
      have hs2 := kind_size K2
      have hadd : ∀ W, (Op.stringOp .add at_ bt).run Tryd.prog W = .ok (.string (at_ ++ bt)) W := fun W => run_string_add_sum W at_ bt (by omega)
      obtain ⟨hN1, hN2, hN3⟩ := near_cut at_ bt K1 K2
      have HE := Lib.hid (HN.out _ _ H1.out H2.out)
      simp only [Bool.and_self, if_true] at HE
      have HN1 := Lib.hid hN1
      have HN2 := Lib.hid hN2
      have HN3 := Lib.hid hN3
      clear hN1 hN2 hN3 K1 K2 hs1 hs2 HN
      generalize cutR (at_ ++ bt) = C at HCUT HN1 HN2 HN3
      generalize at_ ++ bt = ab at HCUT hadd
      obtain ⟨l, pl, er⟩ := C
      dsimp only at HCUT HN1 HN2 HN3
      go_enter Tryd.func10, Tryd.ntmps10
      go_wp2_with fail
      refine (HA.out _ HR0.out).mono ?_
      rintro e w1 ⟨rfl, hb1⟩
      rw [H1.out]
      obtain ⟨_, d0, d1, d2, _⟩ := HC.out _ hb1
      have HR1 := Lib.hid (HR0.out.below hb1)
      go_wp2_with fail
      refine (HB.out _ HR1.out).mono ?_
      rintro e w2 ⟨rfl, hb2⟩
      rw [H2.out]
      have HR2 := Lib.hid (HR1.out.below hb2)
      clear d0 d1 d2
      have HB2 := Lib.hid (hb1.trans (hb2.mono hb1.size))
      clear hb1 hb2
      obtain ⟨c1, _, d1, _, _⟩ := HC.out _ HB2.out
      go_wp2_with fail
      refine (HCUT.out _ HR2.out).mono ?_
      rintro e w3 ⟨⟨v', rfl, hown⟩, hb3⟩
      have HB3 := Lib.hid (HB2.out.trans (hb3.mono HB2.out.size))
      clear hb3 c1 d1
      obtain ⟨c1, _, _, _, hbw⟩ := HC.out _ HB3.out
      have HBW := Lib.hid hbw
      clear hbw
      by_cases her : er = 0
      · by_cases hln : l.length = 2
        · obtain ⟨t, u, rfl⟩ : ∃ t u, l = [t, u] := by match l, hln with | [t, u], _ => exact ⟨t, u, rfl⟩
          obtain ⟨g, cp, rfl, _, hgl, hc, _, _⟩ := hown.at (by simp)
          have h3 := hc 0 (by simp)
          simp only [List.getElem_cons_zero, Nat.zero_mul, Nat.zero_add, Nat.add_zero] at h3
          obtain ⟨g0, g1, g2⟩ := h3
          have hln1 : ((([t, u] : List Tok).length : Int) == 2) = true := by simp
          simp only [List.length_cons, List.length_nil, Nat.zero_add, Nat.reduceAdd] at *
          obtain ⟨hy, hn⟩ := HN3.out her t u rfl
          have HY := Lib.hid hy
          have HNO := Lib.hid hn
          obtain ⟨tk, tt, tp⟩ := t
          dsimp only at g1 HY HNO
          clear hc hown g0 g2 hy hn HN1 HN2 HN3
          subst her
          by_cases hx : tt = at_
          · have q : (tt.toList == at_.toList) = true := by rw [hx]; simp
            have HX := Lib.hid (HY.out hx)
            clear hx
            go_wp2_with fail
            go_quiet (fail)
            go_wp2_with fail
            go_ret2
            exact ⟨pair_ret (by rw [HE.out, HX.out]) (by rw [HE.out]), belowDrewN HBW.out _⟩
          · have q : (tt.toList == at_.toList) = false := by simpa using fun h => hx (toList_inj h)
            have HX := Lib.hid (HNO.out hx)
            clear hx
            go_wp2_with fail
            go_quiet (fail)
            go_wp2_with fail
            go_ret2
            exact ⟨pair_ret (by rw [HE.out, HX.out]) (by rw [HE.out]), belowDrewN HBW.out _⟩
        · have HX := Lib.hid (HN2.out hln)
          obtain ⟨a9, c9, rfl⟩ := hown.shape
          have q : ((l.length : Int) == 2) = false := by simp; omega
          subst her
          clear hln hown HN1 HN2 HN3
          go_wp2_with fail
          go_quiet (fail)
          go_wp2_with fail
          go_ret2
          exact ⟨pair_ret (by rw [HE.out, HX.out]) (by rw [HE.out]), belowDrewN HBW.out _⟩
      · have HX := Lib.hid (HN1.out her)
        have q : (er == 0) = false := by simpa using her
        clear her hown HN1 HN2 HN3
        go_wp2_with fail
        go_quiet (fail)
        go_wp2_with fail
        go_ret2
        exact ⟨pair_ret (by rw [HE.out, HX.out]) (by rw [HE.out]), belowDrewN HBW.out _⟩
end Go.Proofs.YtipbgaiaoahnmaaDoor
