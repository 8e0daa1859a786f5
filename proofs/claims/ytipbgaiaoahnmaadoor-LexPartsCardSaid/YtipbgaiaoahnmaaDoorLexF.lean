/- The book's Great, Near and Glue. -/
import Derived.Test.YtipbgaiaoahnmaaDoorCutB
namespace Go.Proofs.YtipbgaiaoahnmaaDoor
open Go.RowKit Go.Shelf
attribute [local go_sem ↓] Go.wp_at_zero Go.wp_at_succ

def sumT (l : List Tok) (k : Nat) : Nat := l.length + ((l.take k).map (·.text.size)).sum
theorem sumT_succ (l : List Tok) (k : Nat) (h : k < l.length) : sumT l (k + 1) = sumT l k + (l[k]).text.size := by
  simp only [sumT, List.take_succ_eq_append_getElem h, List.map_append, List.sum_append]
  simp; omega
theorem sumT_mono (l : List Tok) (k : Nat) : ∀ d, sumT l k ≤ sumT l (k + d)
  | 0 => Nat.le_refl _
  | d + 1 => by
    refine Nat.le_trans (sumT_mono l k d) ?_
    by_cases h : k + d < l.length
    · rw [← Nat.add_assoc, sumT_succ l _ h]; omega
    · simp only [sumT, List.take_of_length_le (show l.length ≤ k + d by omega), List.take_of_length_le (show l.length ≤ k + (d + 1) by omega)]
      exact Nat.le_refl _
def greatB (l : List Tok) : Bool := decide (20000 < sumT l l.length)
theorem greatB_over (l : List Tok) (k : Nat) (hk : k ≤ l.length) (h : 20000 < sumT l k) : greatB l = true := by
  have := sumT_mono l k (l.length - k)
  rw [show k + (l.length - k) = l.length by omega] at this
  exact decide_eq_true (by omega)

set_option maxRecDepth 100000 in
set_option maxHeartbeats 4000000 in
theorem great13_any (v : Value) (l : List Tok) (w : World) (hs : Toks w w.heap.size v l) (hz : ∀ t ∈ l, t.text.size ≤ 281474976710656) (hlm : l.length ≤ 281474976710656) :
    Calls Tryd.prog 13 #[v] w fun e w' => e = .returned (.bool (greatB l)) ∧ w' = w := by
  obtain ⟨a, cap, rfl, hm, h⟩ := hs
  go_enter Tryd.func13, Tryd.ntmps13
  go_wp2
  go_loop [3, 4] (fun n i => ∃ (k : Nat) (m : Nat), k ≤ l.length ∧ i = .int .i64 k ∧ n = .int .i64 m ∧ m ≤ 562949953441312 ∧ Hid (m = sumT l k)) (fun _ i => l.length - (intOf i).toNat)
  case atStart => exact ⟨0, l.length, by omega, rfl, rfl, by omega, by simp [sumT, Hid]⟩
  case round =>
    obtain ⟨k, m, hk, rfl, rfl, hmm, HM⟩ := hrel
    by_cases hlt : k < l.length
    · by_cases hg : m ≤ 20000
      · rcases h with h | ⟨b, off, rfl, hbl, hc⟩
        · rw [h] at hlt; exact absurd hlt (by simp)
        obtain ⟨_, c2, _⟩ := hc k hlt
        have hS := sumT_succ l k hlt
        have hzz := hz _ (List.getElem_mem hlt)
        generalize (l[k]).text = t at c2 hS hzz
        have HS := Lib.hid hS
        clear hS hc hz
        have hg' : (m : Int) ≤ 20000 := by omega
        go_wp2
        refine ⟨⟨k + 1, m + t.size, by omega, by push_cast; rfl, by push_cast; rfl, by omega, by rw [Hid, HS.out, HM.out]⟩, by simp [intOf]; omega⟩
      · have HE : Hid (greatB l = true) := greatB_over l k hk (by rw [← HM.out]; omega)
        have hg' : (20000 : Int) < m := by omega
        clear h hz
        go_wp2
        all_goals go_ret
        all_goals exact ret_bool (by rw [HE.out]; first | done | rfl | (simp; omega))
    · have HE : Hid (greatB l = decide (20000 < m)) := by rw [Hid, HM.out, show k = l.length by omega]; rfl
      clear h hz
      go_wp2
      go_ret
      exact ret_bool (by rw [HE.out, Bool.eq_iff_iff]; simp; omega)

theorem kindB_ne (l : List UInt8) (h : kindB l ≠ 0) : l ≠ [] := by rintro rfl; exact h rfl
theorem mayB_ne {k p : Int} {t : List UInt8} (h : mayB k t p = true) : kindOf t ≠ 0 ∧ k = kindOf t ∧ 0 ≤ p := by
  simp only [mayB, Bool.and_eq_true, bne_iff_ne, ne_eq, beq_iff_eq, decide_eq_true_eq, kindB_eq] at h
  exact ⟨fun h0 => h.1.1 (h.1.2.trans h0), h.1.2, h.2⟩
theorem pos_of_kind {s : ByteArray} (h : kindOf s.data.toList ≠ 0) : 0 < s.size := by
  rw [← size_list]
  exact List.length_pos_iff.2 (kindOf_ne _ h)

def nearB (a b : Tok) : Bool × Int := if mayB a.kind a.text.data.toList a.place && mayB b.kind b.text.data.toList b.place then (apart a.text.data.toList b.text.data.toList, 0) else (false, 8)
theorem pair_ret {a b : Bool} {c d : Int} {k : IntKind} (h : a = b) (h2 : c = d) : Ending.returned (.tuple #[.bool a, .int k c]) = .returned (.tuple #[.bool b, .int k d]) := by rw [h, h2]

set_option maxRecDepth 100000 in
set_option maxHeartbeats 4000000 in
theorem near16_any (a b : Tok) (ha : a.text.size ≤ 1048576) (hb : b.text.size ≤ 1048576) (w : World) :
    Calls Tryd.prog 16 #[a.val, b.val] w fun e w' => e = .returned (.tuple #[.bool (nearB a b).1, .int .i64 (nearB a b).2]) ∧ Below w.heap.size w w' := by
  obtain ⟨ak, at_, ap⟩ := a
  obtain ⟨bk, bt, bp⟩ := b
  simp only [Tok.val] at ha hb ⊢
  have HA := Lib.hid (fun W => may31_any ak ap at_ (by omega) W)
  have HB := Lib.hid (fun W => may31_any bk bp bt (by omega) W)
  have HN : Hid (∀ x y, mayB ak at_.data.toList ap = x → mayB bk bt.data.toList bp = y → nearB ⟨ak, at_, ap⟩ ⟨bk, bt, bp⟩ = if x && y then (apart at_.data.toList bt.data.toList, 0) else (false, 8)) := by
    rintro x y rfl rfl; rfl
  have HC : Hid (∀ W, Below ((w.alloc (.cells #[.int .u8 ak, .string at_, .int .i64 ap] 27)).alloc (.cells #[.int .u8 bk, .string bt, .int .i64 bp] 27)).heap.size ((w.alloc (.cells #[.int .u8 ak, .string at_, .int .i64 ap] 27)).alloc (.cells #[.int .u8 bk, .string bt, .int .i64 bp] 27)) W →
      W.cell? ⟨w.heap.size, 1, none⟩ = some (.string at_) ∧ W.cell? ⟨w.heap.size + 1, 0, none⟩ = some (.int .u8 bk) ∧ W.cell? ⟨w.heap.size + 1, 1, none⟩ = some (.string bt) ∧ W.cell? ⟨w.heap.size + 1, 2, none⟩ = some (.int .i64 bp) ∧ Below w.heap.size w W) := by
    intro W hb
    have h0 : ((w.alloc (.cells #[.int .u8 ak, .string at_, .int .i64 ap] 27)).alloc (.cells #[.int .u8 bk, .string bt, .int .i64 bp] 27)).heap.size = w.heap.size + 2 := by simp
    refine ⟨?_, ?_, ?_, ?_, (((Below.refl _ w).alloc (Nat.le_refl _) _).alloc (by simp) _).trans (hb.mono (by omega))⟩
    · rw [hb.cell (p := ⟨w.heap.size, 1, none⟩) (by rw [h0]; show w.heap.size < _; omega)]; simp [World.cell?_alloc_at, World.cell?_alloc_past]
    · rw [hb.cell (p := ⟨w.heap.size + 1, 0, none⟩) (by simp)]; simp [World.cell?_alloc_at]
    · rw [hb.cell (p := ⟨w.heap.size + 1, 1, none⟩) (by simp)]; simp [World.cell?_alloc_at]
    · rw [hb.cell (p := ⟨w.heap.size + 1, 2, none⟩) (by simp)]; simp [World.cell?_alloc_at]
  cases h1 : mayB ak at_.data.toList ap with
  | false =>
    have H1 := Lib.hid h1
    clear h1
    go_enter Tryd.func16, Tryd.ntmps16
    go_wp2_with fail
    refine (HA.out _).mono ?_
    rintro e w1 ⟨rfl, hb1⟩
    rw [H1.out]
    go_wp2_with fail
    go_ret2
    exact ⟨pair_ret (by rw [HN.out _ _ H1.out rfl]; simp) (by rw [HN.out _ _ H1.out rfl]; simp), (HC.out _ hb1).2.2.2.2⟩
  | true =>
    have H1 := Lib.hid h1
    clear h1
    cases h2 : mayB bk bt.data.toList bp with
    | false =>
      have H2 := Lib.hid h2
      clear h2
      go_enter Tryd.func16, Tryd.ntmps16
      go_wp2_with fail
      refine (HA.out _).mono ?_
      rintro e w1 ⟨rfl, hb1⟩
      rw [H1.out]
      obtain ⟨_, d0, d1, d2, _⟩ := HC.out _ hb1
      go_wp2_with fail
      refine (HB.out _).mono ?_
      rintro e w2 ⟨rfl, hb2⟩
      rw [H2.out]
      go_wp2_with fail
      go_ret2
      exact ⟨pair_ret (by rw [HN.out _ _ H1.out H2.out]; simp) (by rw [HN.out _ _ H1.out H2.out]; simp), (HC.out _ (hb1.trans (hb2.mono hb1.size))).2.2.2.2⟩
    | true =>
      have H2 := Lib.hid h2
      clear h2
      have K1 := Lib.hid (mayB_ne H1.out).1
      have K2 := Lib.hid (mayB_ne H2.out).1
      have HS := Lib.hid (fun W => beside32_any at_ bt (pos_of_kind K1.out) (pos_of_kind K2.out) ha W)
      go_enter Tryd.func16, Tryd.ntmps16
      go_wp2_with fail
      refine (HA.out _).mono ?_
      rintro e w1 ⟨rfl, hb1⟩
      rw [H1.out]
      obtain ⟨_, d0, d1, d2, _⟩ := HC.out _ hb1
      go_wp2_with fail
      refine (HB.out _).mono ?_
      rintro e w2 ⟨rfl, hb2⟩
      rw [H2.out]
      clear d0 d1 d2
      obtain ⟨c1, _, d1, _, _⟩ := HC.out _ (hb1.trans (hb2.mono hb1.size))
      go_wp2_with fail
      refine (HS.out _).mono ?_
      rintro e w3 ⟨rfl, rfl⟩
      rw [besideB_eq _ _ K1.out K2.out]
      go_wp2_with fail
      go_ret2
      exact ⟨pair_ret (by rw [HN.out _ _ H1.out H2.out]; simp) (by rw [HN.out _ _ H1.out H2.out]; simp), (HC.out _ (hb1.trans (hb2.mono hb1.size))).2.2.2.2⟩

def mayT (t : Tok) : Bool := mayB t.kind t.text.data.toList t.place
/-- What the book's Glue answers. -/
def glueP (l : List Tok) : List UInt8 × Int := if l.all mayT then (if (glue (textsOf l)).length ≤ 4096 then (glue (textsOf l), 0) else ([], 3)) else ([], 8)
theorem textsOf_snoc (l : List Tok) (t : Tok) : textsOf (l ++ [t]) = textsOf l ++ [t.text.data.toList] := by simp [textsOf]
theorem bsOf_append (a b : List UInt8) : bsOf a ++ bsOf b = bsOf (a ++ b) := by
  apply ByteArray.ext
  simp [bsOf, ByteArray.data_append]
theorem bsOf_size (a : List UInt8) : (bsOf a).size = a.length := by rw [← size_list, bsOf_list]
theorem sumT_take (l : List Tok) (k : Nat) (hk : k ≤ l.length) : ((textsOf (l.take k)).map List.length).sum + l.length = sumT l k := by
  have : (textsOf (l.take k)).map List.length = (l.take k).map (·.text.size) := by
    simp only [textsOf, List.map_map]
    exact List.map_congr_left (fun t _ => size_list t.text)
  rw [this, sumT]; omega
theorem glue_take_len (l : List Tok) (k : Nat) (hk : k ≤ l.length) (hg : sumT l l.length ≤ 20000) : (glue (textsOf (l.take k))).length ≤ 20000 := by
  have h1 := glue_len (textsOf (l.take k))
  have h2 := sumT_take l k hk
  have h3 := sumT_mono l k (l.length - k)
  rw [show k + (l.length - k) = l.length by omega] at h3
  have h4 : (textsOf (l.take k)).length = k := by simp [textsOf]; omega
  omega
theorem text_len (l : List Tok) (k : Nat) (hk : k < l.length) (hg : sumT l l.length ≤ 20000) : (l[k]).text.size ≤ 20000 := by
  have h1 := sumT_succ l k hk
  have h3 := sumT_mono l (k + 1) (l.length - (k + 1))
  rw [show (k + 1) + (l.length - (k + 1)) = l.length by omega] at h3
  omega
theorem lastOf_take (l : List Tok) (k : Nat) (hk : k < l.length) : lastOf [] (textsOf (l.take (k + 1))) = (l[k]).text.data.toList := by
  rw [List.take_succ_eq_append_getElem hk, textsOf_snoc, lastOf_snoc]
theorem glue_take (l : List Tok) (k : Nat) (hk : k < l.length) : glue (textsOf (l.take (k + 1))) = glue (textsOf (l.take k)) ++ (if apart (lastOf [] (textsOf (l.take k))) (l[k]).text.data.toList then (l[k]).text.data.toList else 32 :: (l[k]).text.data.toList) := by
  rw [List.take_succ_eq_append_getElem hk, textsOf_snoc, glue_snoc]

set_option maxRecDepth 100000 in
set_option maxHeartbeats 4000000 in
theorem glue15_any (v : Value) (l : List Tok) (w : World) (hs : Toks w w.heap.size v l) (hg : sumT l l.length ≤ 20000) :
    Calls Tryd.prog 15 #[v] w fun e w' => e = .returned (.tuple #[.string (bsOf (glueP l).1), .int .i64 (glueP l).2]) ∧ Below w.heap.size w w' := by
  obtain ⟨a, cap, rfl, hm, h⟩ := hs
  go_enter Tryd.func15, Tryd.ntmps15
  go_wp2_with fail
  go_loopw [4, 5, 6] (fun s u i wr => ∃ (k : Nat) (S U : ByteArray), k ≤ l.length ∧ i = .int .i64 k ∧ s = .string S ∧ u = .string U ∧ S.size ≤ 20000 ∧ U.size ≤ 20000 ∧
    Hid (S = bsOf (glue (textsOf (l.take k))) ∧ U = bsOf (lastOf [] (textsOf (l.take k))) ∧ (l.take k).all mayT = true) ∧ Below w.heap.size w wr) (fun _ _ i _ => l.length - (intOf i).toNat)
  case atStart => exact ⟨0, _, _, by omega, rfl, rfl, rfl, by decide, by decide, ⟨rfl, rfl, rfl⟩, Below.refl _ _⟩
  case round =>
    obtain ⟨k, S, U, hk, rfl, rfl, rfl, hS, hU, HI, hbw⟩ := hrel
    by_cases hlt : k < l.length
    · rcases h with h | ⟨b, off, rfl, hbl, hc⟩
      · rw [h] at hlt; exact absurd hlt (by simp)
      obtain ⟨c1, c2, c3⟩ := (hc.below hbw hbl) k hlt
      have HX : Hid (∀ W, Below w.heap.size w W → W.cell? ⟨b, off + k * 3 + 1, none⟩ = some (.string (l[k]).text)) := fun W hW => ((hc.below hW hbl) k hlt).2.1
      have HT : Hid ((l.take (k + 1)).all mayT = ((l.take k).all mayT && mayT l[k])) := by rw [Hid, List.take_succ_eq_append_getElem hlt]; simp only [List.all_append, List.all_cons, List.all_nil, Bool.and_true]
      have HA : Hid (mayT l[k] = false → l.all mayT = false) := fun h => by
        rw [Bool.eq_false_iff]; intro h2
        rw [List.all_eq_true] at h2
        rw [h2 _ (List.getElem_mem hlt)] at h; cases h
      have HL := Lib.hid (lastOf_take l k hlt)
      have HG := Lib.hid (glue_take l k hlt)
      have HZ := Lib.hid (glue_take_len l (k + 1) hlt hg)
      have hz := text_len l k hlt hg
      generalize l[k] = t at c1 c2 c3 HX HT HA HL HG hz
      obtain ⟨tk, tt, tp⟩ := t
      dsimp only at c1 c2 c3 HX HL HG hz
      have HM := Lib.hid (fun W => may31_any tk tp tt (by omega) W)
      have HMT : Hid (mayT ⟨tk, tt, tp⟩ = mayB tk tt.data.toList tp) := rfl
      clear hc
      have hsw := hbw.size
      have hbr : b < wr.heap.size := by omega
      cases hmt : mayB tk tt.data.toList tp with
      | false =>
        have HE : Hid (glueP l = ([], 8)) := by rw [Hid, glueP, HA.out (by rw [HMT.out, hmt])]; rfl
        have HMF := Lib.hid hmt
        clear hmt
        go_wp2_with fail
        refine (HM.out _).mono ?_
        rintro e w1 ⟨rfl, hb1⟩
        rw [HMF.out]
        go_wp2_with fail
        go_ret2
        exact ⟨by rw [HE.out]; rfl, hbw.trans (hb1.mono hsw)⟩
      | true =>
        have HMF := Lib.hid hmt
        have K := Lib.hid (mayB_ne hmt).1
        clear hmt
        by_cases h0 : k = 0
        · have HN : Hid (S ++ tt = bsOf (glue (textsOf (l.take (k + 1))))) := by
            rw [Hid, HG.out, HI.out.1]
            have : apart (lastOf [] (textsOf (l.take k))) tt.data.toList = true := by rw [h0]; cases tt.data.toList <;> rfl
            rw [this, if_pos rfl, ← bsOf_append, bsOf_of]
          have d0 : decide (0 < k) = false := by simp; omega
          clear h0
          have hSt : (S ++ tt).size ≤ 20000 := by rw [HN.out, bsOf_size]; exact HZ.out
          have hadd : ∀ W, (Op.stringOp .add S tt).run Tryd.prog W = .ok (.string (S ++ tt)) W := fun W => run_string_add_sum W S tt (by omega)
          generalize S ++ tt = S2 at hadd HN hSt
          go_wp2_with fail
          refine (HM.out _).mono ?_
          rintro e w1 ⟨rfl, hb1⟩
          rw [HMF.out]
          have hb2 := hbw.trans (hb1.mono hsw)
          have c4 := HX.out _ hb2
          clear c1 c2 c3
          go_wp2_with fail
          refine ⟨⟨k + 1, S2, tt, by omega, by push_cast; rfl, rfl, rfl, hSt, hz, ⟨HN.out, by rw [HL.out, bsOf_of], by rw [HT.out, HMT.out, HMF.out, HI.out.2.2]; rfl⟩, hb2⟩, by simp [intOf]; omega⟩
        · have d0 : 0 < k := by omega
          have d1 : (0 : Int) < (k : Int) := by omega
          have KU : Hid (kindOf U.data.toList ≠ 0) := by
            obtain ⟨k1, hk1⟩ : ∃ k1, k = k1 + 1 := ⟨k - 1, by omega⟩
            have h1 := HI.out
            rw [hk1, lastOf_take l k1 (by omega)] at h1
            rw [Hid, h1.2.1, bsOf_list]
            have h2 := h1.2.2
            rw [List.all_eq_true] at h2
            have h3 := h2 (l[k1]'(by omega)) (by rw [List.mem_take_iff_getElem]; exact ⟨k1, by omega, rfl⟩)
            exact (mayB_ne h3).1
          have HB := Lib.hid (fun W => beside32_any U tt (pos_of_kind KU.out) (pos_of_kind K.out) (by omega) W)
          have HBE := Lib.hid (besideB_eq _ _ KU.out K.out)
          clear h0
          cases hap : apart U.data.toList tt.data.toList with
          | true =>
            have HAP := Lib.hid hap
            clear hap
            have HN : Hid (S ++ tt = bsOf (glue (textsOf (l.take (k + 1))))) := by
              have := HAP.out
              rw [HI.out.2.1, bsOf_list] at this
              rw [Hid, HG.out, HI.out.1, this, if_pos rfl, ← bsOf_append, bsOf_of]
            have hSt : (S ++ tt).size ≤ 20000 := by rw [HN.out, bsOf_size]; exact HZ.out
            have hadd : ∀ W, (Op.stringOp .add S tt).run Tryd.prog W = .ok (.string (S ++ tt)) W := fun W => run_string_add_sum W S tt (by omega)
            generalize S ++ tt = S2 at hadd HN hSt
            go_wp2_with fail
            refine (HM.out _).mono ?_
            rintro e w1 ⟨rfl, hb1⟩
            rw [HMF.out]
            have hb2 := hbw.trans (hb1.mono hsw)
            have c4 := HX.out _ hb2
            clear c1 c2 c3
            go_wp2_with fail
            refine (HB.out _).mono ?_
            rintro e w2 ⟨rfl, rfl⟩
            rw [HBE.out, HAP.out]
            go_wp2_with fail
            refine ⟨⟨k + 1, S2, tt, by omega, by push_cast; rfl, rfl, rfl, hSt, hz, ⟨HN.out, by rw [HL.out, bsOf_of], by rw [HT.out, HMT.out, HMF.out, HI.out.2.2]; rfl⟩, hb2⟩, by simp [intOf]; omega⟩
          | false =>
            have HAP := Lib.hid hap
            clear hap
            have HN : Hid (S ++ bsOf [32] ++ tt = bsOf (glue (textsOf (l.take (k + 1))))) := by
              have := HAP.out
              rw [HI.out.2.1, bsOf_list] at this
              rw [Hid, HG.out, HI.out.1, this]
              conv => lhs; rw [← bsOf_of tt]
              rw [bsOf_append, bsOf_append, List.append_assoc]
              rfl
            have hSt : (S ++ bsOf [32] ++ tt).size ≤ 20000 := by rw [HN.out, bsOf_size]; exact HZ.out
            have hs32 : (S ++ bsOf [32]).size ≤ 20001 := by rw [ByteArray.size_append, bsOf_size]; simp; omega
            have hadd1 : ∀ W, (Op.stringOp .add S (bsOf [32])).run Tryd.prog W = .ok (.string (S ++ bsOf [32])) W := fun W => run_string_add_sum W S _ (by rw [bsOf_size]; simp; omega)
            have hadd : ∀ W, (Op.stringOp .add (S ++ bsOf [32]) tt).run Tryd.prog W = .ok (.string (S ++ bsOf [32] ++ tt)) W := fun W => run_string_add_sum W _ tt (by omega)
            generalize S ++ bsOf [32] ++ tt = S2 at hadd HN hSt
            generalize S ++ bsOf [32] = S1 at hadd hadd1
            simp only [bsOf] at hadd1
            go_wp2_with fail
            refine (HM.out _).mono ?_
            rintro e w1 ⟨rfl, hb1⟩
            rw [HMF.out]
            have hb2 := hbw.trans (hb1.mono hsw)
            have c4 := HX.out _ hb2
            clear c1 c2 c3
            go_wp2_with fail
            refine (HB.out _).mono ?_
            rintro e w2 ⟨rfl, rfl⟩
            rw [HBE.out, HAP.out]
            go_wp2_with fail
            refine ⟨⟨k + 1, S2, tt, by omega, by push_cast; rfl, rfl, rfl, hSt, hz, ⟨HN.out, by rw [HL.out, bsOf_of], by rw [HT.out, HMT.out, HMF.out, HI.out.2.2]; rfl⟩, hb2⟩, by simp [intOf]; omega⟩
    · have hke : k = l.length := by omega
      subst hke
      have HF : Hid (bsOf (glue (textsOf l)) = S ∧ l.all mayT = true) := by
        have h1 := HI.out
        rw [List.take_length] at h1
        exact ⟨h1.1.symm, h1.2.2⟩
      clear h
      by_cases h4 : S.size ≤ 4096
      · have HE : Hid (glueP l = (glue (textsOf l), 0)) := by
          rw [Hid, glueP, HF.out.2]
          have : (glue (textsOf l)).length ≤ 4096 := by rw [← bsOf_size, HF.out.1]; exact h4
          simp [this]
        go_wp2_with fail
        go_ret2
        exact ⟨by rw [HE.out, HF.out.1]; rfl, hbw⟩
      · have HE : Hid (glueP l = ([], 3)) := by
          rw [Hid, glueP, HF.out.2]
          have : ¬ (glue (textsOf l)).length ≤ 4096 := by rw [← bsOf_size, HF.out.1]; exact h4
          simp [this]
        go_wp2_with fail
        go_ret2
        exact ⟨by rw [HE.out]; rfl, hbw⟩
end Go.Proofs.YtipbgaiaoahnmaaDoor
