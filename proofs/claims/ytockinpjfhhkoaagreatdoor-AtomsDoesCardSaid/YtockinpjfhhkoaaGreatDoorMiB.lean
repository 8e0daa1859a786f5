/- AtomsDoes: how many nodes a formula has, counted up to a bound. No program. -/
import Derived.Test.YtockinpjfhhkoaaGreatDoorMiA
import Derived.Test.YtockinpjfhhkoaaGreatDoorTreeB
import Derived.Test.YtockinpjfhhkoaaGreatDoorAtZb
import Derived.Test.YtockinpjfhhkoaaGreatDoorZoD
namespace Go.Proofs.YtockinpjfhhkoaaGreatDoor
open Go.RowKit

theorem szL_cut {α : Type} (f : α → Int → Int) (g : α → Nat) (most : Int) (hm : most ≤ 1048576) : ∀ (l : List α) (n : Int), (∀ x ∈ l, ∀ k, 0 ≤ k → k ≤ most → 0 ≤ f x k ∧ f x k ≤ g x ∧ ((g x : Int) ≤ k → f x k = g x) ∧ (k < (g x : Int) → k < f x k)) → 0 ≤ n → n + ((l.map g).sum : Nat) ≤ 1000000000 →
    (n + ((l.map g).sum : Nat) ≤ most → szL f most l n = n + ((l.map g).sum : Nat)) ∧ (most < n + ((l.map g).sum : Nat) → most < szL f most l n) ∧ 0 ≤ szL f most l n ∧ szL f most l n ≤ n + ((l.map g).sum : Nat)
  | [], n, _, h0, _ => by
    refine ⟨fun _ => by simp [szL], fun h => by simpa [szL] using h, by simpa [szL] using h0, by simp [szL]⟩
  | x :: r, n, H, h0, hs => by
    have e : (((x :: r).map g).sum : Nat) = g x + (r.map g).sum := by simp
    rw [e] at hs ⊢
    push_cast at hs ⊢
    rw [szL]
    by_cases hn : n ≤ most
    · rw [if_pos hn]
      have hw : wrap64 (most - n) = most - n := by unfold wrap64; omega
      rw [hw]
      obtain ⟨f0, f1, f2, f3⟩ := H x (by simp) (most - n) (by omega) (by omega)
      have hw2 : wrap64 (n + f x (most - n)) = n + f x (most - n) := by unfold wrap64; omega
      rw [hw2]
      obtain ⟨i1, i2, i3, i4⟩ := szL_cut f g most hm r (n + f x (most - n)) (fun y hy => H y (by simp [hy])) (by omega) (by omega)
      refine ⟨fun h => ?_, fun h => ?_, i3, by omega⟩
      · rw [i1 (by omega), f2 (by omega)]; omega
      · by_cases hk : (g x : Int) ≤ most - n
        · exact i2 (by rw [f2 hk]; omega)
        · exact i2 (by have := f3 (by omega); omega)
    · rw [if_neg hn]
      exact ⟨fun h => by omega, fun _ => by omega, h0, by omega⟩
theorem le_sumN {α : Type} (g : α → Nat) : ∀ (l : List α) (x : α), x ∈ l → g x ≤ (l.map g).sum
  | y :: r, x, h => by
    simp only [List.map_cons, List.sum_cons]
    rcases List.mem_cons.1 h with rfl | h
    · omega
    · have := le_sumN g r x h; omega
theorem nodes_cut : ∀ (n : Nat) (t : FT n) (most : Int), 0 ≤ most → most ≤ 1048576 → (nF n t : Int) ≤ 1000000 → 0 ≤ nodesF n t most ∧ nodesF n t most ≤ nF n t ∧ ((nF n t : Int) ≤ most → nodesF n t most = nF n t) ∧ (most < (nF n t : Int) → most < nodesF n t most)
  | 0, t, _, _, _, _ => nomatch t
  | n + 1, t, most, h0, hm, hs => by
    rw [nF] at hs ⊢
    rw [nodesF]
    have hle : ∀ x ∈ t.2.2, nF n x ≤ ((t.2.2.map (nF n)).sum) := fun x hx => le_sumN (nF n) t.2.2 x hx
    obtain ⟨i1, i2, i3, i4⟩ := szL_cut (nodesF n) (nF n) most hm t.2.2 1 (fun x hx k hk hk2 => nodes_cut n x k hk (by omega) (by have := hle x hx; omega)) (by omega) (by omega)
    push_cast at i1 i2 i4 hs ⊢
    exact ⟨i3, by omega, fun h => i1 h, fun h => i2 h⟩
theorem nodes_64 {n : Nat} {t : FT n} (h : (nF n t : Int) ≤ 1000000) : decide (64 < nodesF n t 64) = decide (64 < fmsC n [t]) := by
  obtain ⟨_, a, b, c⟩ := nodes_cut n t 64 (by decide) (by decide) h
  have e : fmsC n [t] = nF n t := by
    unfold fmsC foldC
    simp only [List.foldl_cons, List.foldl_nil]
    rw [cntF_n n t (by omega)]
    unfold wrap64; omega
  rw [e]
  by_cases hk : (nF n t : Int) ≤ 64
  · rw [b hk]
  · rw [decide_eq_true (c (by omega)), decide_eq_true (show (64 : Int) < nF n t by omega)]
end Go.Proofs.YtockinpjfhhkoaaGreatDoor

/- AtomsDoes: the document's Formula walked. -/
namespace Go.Proofs.YtockinpjfhhkoaaGreatDoor
open Go.RowKit

set_option maxRecDepth 100000 in
set_option maxHeartbeats 8000000 in
theorem formula91_any (names : List ByteArray) (nv : Value) (hs : ∀ s ∈ names, s.size ≤ 1048576) (n : Nat) (t : FT n) (v : Value) (w : World) (hnf : (nF n t : Int) ≤ 1000000) (hn : NRep w w.heap.size nv names) (hf : FRep w w.heap.size n t v) :
    Calls Tryz.prog 91 #[nv, v] w fun e w' => e = .returned (.int .i64 (fmlR names n t)) ∧ Below w.heap.size w w' := by
  obtain ⟨k, s, fa, fl, fc, rfl⟩ := hf.shape
  obtain ⟨W1, hW1⟩ : ∃ W1, W1 = w.alloc (.cells #[.int .u8 k, .string s, .slice fa fl fc] 25) := ⟨_, rfl⟩
  have hb1 : Below w.heap.size w W1 := by rw [hW1]; exact belowA _ _
  have k0 : W1.heap[w.heap.size]? = some (.cells #[.int .u8 k, .string s, .slice fa fl fc] 25 (0, 0)) := by rw [hW1]; exact hp_topA rfl
  have HF : Hid (∀ W, Below W1.heap.size W1 W → W.cell? ⟨w.heap.size, 0, none⟩ = some (.int .u8 k) ∧ W.cell? ⟨w.heap.size, 1, none⟩ = some (.string s) ∧ W.cell? ⟨w.heap.size, 2, none⟩ = some (.slice fa fl fc) ∧ w.heap.size < W.heap.size) := by
    intro W hW
    have a0 := (hW.block _ (Array.getElem?_eq_some_iff.1 k0).1).trans k0
    exact ⟨Lib.cell_of_heap a0 0, Lib.cell_of_heap a0 1, Lib.cell_of_heap a0 2, (Array.getElem?_eq_some_iff.1 a0).1⟩
  have HBW : Hid (∀ W, Below W1.heap.size W1 W → Below w.heap.size w W) := fun W h => hb1.trans (h.mono hb1.size)
  have HFR : Hid (∀ W, Below W1.heap.size W1 W → FRep W W.heap.size n t (.agg #[.int .u8 k, .string s, .slice fa fl fc])) := fun W h => hf.up (HBW.out W h) (HBW.out W h).size
  have HNR : Hid (∀ W, Below W1.heap.size W1 W → NRep W W.heap.size nv names) := fun W h => hn.up (HBW.out W h) (HBW.out W h).size
  have HM := fun W h => Lib.hid (mayNames46_any names nv (fun s hx => by have := hs s hx; omega) W (HNR.out W h))
  have HRT := fun W h => Lib.hid (rightF128_any n t _ W (HFR.out W h))
  have HND := fun W h => Lib.hid (nodes130_any n t _ 64 W (HFR.out W h))
  have HDC := fun W h => Lib.hid (declared131_any names nv W1 (HNR.out W1 (Below.refl _ _)) n t _ W (HFR.out W h) h)
  have H64 := Lib.hid (nodes_64 (n := n) (t := t) hnf)
  have HW1 := Lib.hid hW1.symm
  have HFM : Hid (fmlR names n t = if decide (namesR names = 0) = false then 2 else if allF rightB n t = false then 8 else if decide (64 < fmsC n [t]) = true then 160 else if allF (declB names) n t = false then 161 else 0) := by
    rw [Hid, fmlR]
    simp only [decide_eq_false_iff_not, decide_eq_true_eq]
  obtain ⟨x0, x1, x2, xl⟩ := HF.out W1 (Below.refl _ _)
  have HR0 : Hid (Below W1.heap.size W1 W1) := Below.refl _ _
  clear hnf hn hf hs hW1 hb1 k0
  go_enter Tryz.func91, Tryz.ntmps91
  go_upto_region 1 with fail
  rw [HW1.out]
  clear HW1
  go_wp2_with fail
  refine (HM W1 HR0.out).out.mono ?_
  rintro e w2 ⟨rfl, rfl⟩
  cases c1 : decide (namesR names = 0) with
  | false =>
    rw [c1, if_pos rfl] at HFM
    clear c1
    go_wp2_with fail
    all_goals go_ret
    all_goals exact ⟨by rw [HFM.out]; rfl, HBW.out _ HR0.out⟩
  | true =>
  rw [c1, if_neg (by decide)] at HFM
  clear c1
  go_wp2_with fail
  refine (HRT _ HR0.out).out.mono ?_
  rintro e w3 ⟨rfl, hb3⟩
  have HB3 := Lib.hid hb3
  clear x0 x1 x2 xl hb3
  obtain ⟨y0, y1, y2, yl⟩ := HF.out w3 HB3.out
  cases c2 : allF rightB n t with
  | false =>
    rw [c2, if_pos rfl] at HFM
    clear c2
    go_wp2_with fail
    all_goals go_ret
    all_goals exact ⟨by rw [HFM.out]; rfl, HBW.out _ HB3.out⟩
  | true =>
  rw [c2, if_neg (by decide)] at HFM
  clear c2
  go_wp2_with fail
  refine (HND _ HB3.out).out.mono ?_
  rintro e w4 ⟨rfl, hb4⟩
  have HB4 := Lib.hid (belS HB3.out hb4)
  clear y0 y1 y2 yl hb4
  obtain ⟨z0, z1, z2, zl⟩ := HF.out w4 HB4.out
  obtain ⟨m, hm⟩ : ∃ m, nodesF n t 64 = m := ⟨_, rfl⟩
  rw [hm] at H64 ⊢
  clear hm
  rw [← H64.out] at HFM
  cases c3 : decide (64 < m) with
  | true =>
    rw [c3, if_pos rfl] at HFM
    go_wp2_with fail
    all_goals go_ret
    all_goals exact ⟨by rw [HFM.out]; rfl, HBW.out _ HB4.out⟩
  | false =>
  rw [c3, if_neg (by decide)] at HFM
  go_wp2_with fail
  refine (HDC _ HB4.out).out.mono ?_
  rintro e w5 ⟨rfl, hb5⟩
  have HB5 := Lib.hid (belS HB4.out hb5)
  clear z0 z1 z2 zl hb5
  cases c4 : allF (declB names) n t with
  | false =>
    rw [c4, if_pos rfl] at HFM
    clear c4
    go_wp2_with fail
    all_goals go_ret
    all_goals exact ⟨by rw [HFM.out]; rfl, HBW.out _ HB5.out⟩
  | true =>
    rw [c4, if_neg (by decide)] at HFM
    clear c4
    go_wp2_with fail
    all_goals go_ret
    all_goals exact ⟨by rw [HFM.out]; rfl, HBW.out _ HB5.out⟩
end Go.Proofs.YtockinpjfhhkoaaGreatDoor

/- AtomsDoes: the document's On walked. -/
namespace Go.Proofs.YtockinpjfhhkoaaGreatDoor
open Go.RowKit

theorem holdsF_one (names : List ByteArray) (n : Nat) (k : Int) (s : ByteArray) (of : List (FT n)) (on : Int) : holdsF names (n + 1) (k, s, of) on =
    if k = 3 then bits .and .i64 on (bitV names s) != 0
    else if k = 4 then !((of.map fun x => holdsF names n x on).getD 0 false)
    else if k = 5 then (of.map fun x => holdsF names n x on).getD 0 false && (of.map fun x => holdsF names n x on).getD 1 false
    else if k = 6 then (of.map fun x => holdsF names n x on).getD 0 false || (of.map fun x => holdsF names n x on).getD 1 false
    else k == 1 := rfl
set_option maxRecDepth 100000 in
set_option maxHeartbeats 8000000 in
theorem on92_leaf (names : List ByteArray) (nv : Value) (hl8 : names.length ≤ 8) (on : Int) (h0 : 0 ≤ on) (h1 : on ≤ 255) (n : Nat) (k : Int) (hk : k = 1 ∨ k = 2 ∨ k = 3) (s : ByteArray) (of : List (FT n)) (fa : Option Addr) (fl fc : Nat) (w : World) (hn : NRep w w.heap.size nv names) (hd : declB names k s of.length = true) :
    Calls Tryz.prog 92 #[nv, .agg #[.int .u8 k, .string s, .slice fa fl fc], .int .u8 on] w fun e w' => e = .returned (.bool (holdsF names (n + 1) (k, s, of) on)) ∧ Below w.heap.size w w' := by
  have hb1 : Below w.heap.size w (w.alloc (.cells #[.int .u8 k, .string s, .slice fa fl fc] 25)) := belowA _ _
  have HB1 := Lib.hid hb1
  have HAT := Lib.hid (at96_any names nv s _ (hn.up hb1 hb1.size))
  rcases hk with rfl | rfl | rfl
  · have HQ : Hid (holdsF names (n + 1) (1, s, of) on = true) := rfl
    clear hb1 hn hd
    go_enter Tryz.func92, Tryz.ntmps92
    go_wp2_with fail
    all_goals go_ret
    all_goals exact ⟨by rw [HQ.out]; rfl, HB1.out⟩
  · have HQ : Hid (holdsF names (n + 1) (2, s, of) on = false) := rfl
    clear hb1 hn hd
    go_enter Tryz.func92, Tryz.ntmps92
    go_wp2_with fail
    all_goals go_ret
    all_goals exact ⟨by rw [HQ.out]; rfl, HB1.out⟩
  · have hin : inN s names = true := by unfold declB at hd; simpa using hd
    obtain ⟨i1, i2⟩ := idx_lt hin
    obtain ⟨d, hd2⟩ : ∃ d : Nat, idxN s names = (d : Int) := ⟨(idxN s names).toNat, by omega⟩
    have hd8 : d < 8 := by omega
    have HQ : Hid (holdsF names (n + 1) (3, s, of) on = (bits .and .u8 (on / 2 ^ d) 1 == 1)) := by
      rw [Hid, holdsF_one, if_pos rfl, ← bit_same' h0 h1 hd8]
      unfold bitV
      rw [hd2, Int.toNat_natCast]
    rw [hd2] at HAT
    have hdi : (d : Int) < 8 := by omega
    have hdi0 : (0 : Int) ≤ (d : Int) := by omega
    clear hb1 hn hd hin i1 i2 hd2
    go_enter Tryz.func92, Tryz.ntmps92
    go_wp2_with fail
    refine HAT.out.mono ?_
    rintro e w2 ⟨rfl, rfl⟩
    go_wp2_with fail
    all_goals go_ret
    all_goals exact ⟨by rw [HQ.out]; rfl, HB1.out⟩
set_option maxRecDepth 100000 in
set_option maxHeartbeats 16000000 in
theorem on92_any (names : List ByteArray) (nv : Value) (hl8 : names.length ≤ 8) (on : Int) (h0 : 0 ≤ on) (h1 : on ≤ 255) (w0 : World) (hn : NRep w0 w0.heap.size nv names) (n : Nat) : ∀ (t : FT n) (v : Value) (w : World), FRep w w.heap.size n t v → Below w0.heap.size w0 w → allF rightB n t = true → allF (declB names) n t = true →
    Calls Tryz.prog 92 #[nv, v, .int .u8 on] w fun e w' => e = .returned (.bool (holdsF names n t on)) ∧ Below w.heap.size w w' := by
  induction n with
  | zero => intro t v w h; exact h.elim
  | succ n ih =>
    intro t v w h hbw hR' hD
    obtain ⟨k, s, of⟩ := t
    obtain ⟨a, c, rfl, hR⟩ := h
    have hR : FRow w w.heap.size n a of := hR
    have hR2 : (rightB k s of.length && of.all (allF rightB n)) = true := hR'
    have hD2 : (declB names k s of.length && of.all (allF (declB names) n)) = true := hD
    rw [Bool.and_eq_true, List.all_eq_true] at hR2 hD2
    obtain ⟨hRk, hRa⟩ := hR2
    obtain ⟨hd1, hDa⟩ := hD2
    unfold rightB at hRk
    simp only [Bool.and_eq_true, decide_eq_true_eq] at hRk
    obtain ⟨⟨⟨hk1, hk2⟩, hRl⟩, _⟩ := hRk
    clear hR' hD
    dsimp only at hR ⊢
    have hk : (k = 1 ∨ k = 2 ∨ k = 3) ∨ k = 4 ∨ k = 5 ∨ k = 6 := by omega
    rcases hk with hk | hk
    · exact on92_leaf names nv hl8 on h0 h1 n k hk s of a of.length c w (hn.up hbw hbw.size) hd1
    · clear hk1 hk2 h0 h1
      rcases hk with rfl | rfl | rfl
      · -- one part
        have hl1 : of.length = 1 := by have : (of.length == 1) = true := hRl; simpa using this
        obtain ⟨fa0, off, ka, sa, aa, la, ca, e0, hb0, p0, p1, p2, hr0⟩ := FRow.at (w := w) (B := w.heap.size) (n := n) (a := a) (l := of) hR 0 (by omega)
        subst e0
        simp only [Nat.zero_mul, Nat.add_zero] at p0 p1 p2
        have hA := Lib.hid (fun W (h : Below w.heap.size w W) => ih of[0] _ W (hr0.up h h.size) (hbw.trans (h.mono hbw.size)) (hRa _ (List.getElem_mem _)) (hDa _ (List.getElem_mem _)))
        have HQ : Hid (holdsF names (n + 1) (4, s, of) on = !(holdsF names n of[0] on)) := by
          rw [Hid, holdsF_one]
          match of, hl1 with
          | [x], _ => rfl
        obtain ⟨va, hva⟩ : ∃ va, holdsF names n of[0] on = va := ⟨_, rfl⟩
        rw [hva] at hA HQ
        rw [hl1]
        have hi0 : (0 : Int) < 1 := by decide
        have HBX : Hid (Below w.heap.size w (w.alloc (.cells #[.int .u8 4, .string s, .slice (some ⟨fa0, off, none⟩) 1 c] 25))) := belowA _ _
        clear hR hRl hRa hDa ih hbw hr0 hva hl1 hd1
        go_enter Tryz.func92, Tryz.ntmps92
        go_wp2_with fail
        refine (hA.out _ HBX.out).mono ?_
        rintro e w2 ⟨rfl, hb2⟩
        have HB2 : Hid (Below w.heap.size w w2) := HBX.out.trans (hb2.mono HBX.out.size)
        clear hb2
        go_wp2_with fail
        all_goals go_ret
        all_goals exact ⟨by rw [HQ.out]; rfl, HB2.out⟩
      · -- two parts
        have hl2 : of.length = 2 := by have : (of.length == 2) = true := hRl; simpa using this
        obtain ⟨fa0, off, ka, sa, aa, la, ca, e0, hb0, p0, p1, p2, hr0⟩ := FRow.at (w := w) (B := w.heap.size) (n := n) (a := a) (l := of) hR 0 (by omega)
        obtain ⟨fb0, off2, kb, sb, ab, lb, cb, e1, hb2, q0, q1, q2, hr1⟩ := FRow.at (w := w) (B := w.heap.size) (n := n) (a := a) (l := of) hR 1 (by omega)
        rw [e0] at e1
        obtain ⟨rfl, rfl⟩ : fa0 = fb0 ∧ off = off2 := by simpa using e1
        subst e0
        simp only [Nat.zero_mul, Nat.one_mul, Nat.add_zero] at p0 p1 p2 q0 q1 q2
        have hA := Lib.hid (fun W (h : Below w.heap.size w W) => ih of[0] _ W (hr0.up h h.size) (hbw.trans (h.mono hbw.size)) (hRa _ (List.getElem_mem _)) (hDa _ (List.getElem_mem _)))
        have hB := Lib.hid (fun W (h : Below w.heap.size w W) => ih of[1] _ W (hr1.up h h.size) (hbw.trans (h.mono hbw.size)) (hRa _ (List.getElem_mem _)) (hDa _ (List.getElem_mem _)))
        have HQ : Hid (holdsF names (n + 1) (5, s, of) on = (holdsF names n of[0] on && holdsF names n of[1] on)) := by
          rw [Hid, holdsF_one]
          match of, hl2 with
          | [x, y], _ => rfl
        obtain ⟨va, hva⟩ : ∃ va, holdsF names n of[0] on = va := ⟨_, rfl⟩
        obtain ⟨vb, hvb⟩ : ∃ vb, holdsF names n of[1] on = vb := ⟨_, rfl⟩
        rw [hva] at hA HQ
        rw [hvb] at hB HQ
        have HC : Hid (∀ W, Below w.heap.size w W → W.cell? ⟨fa0, off + 3, none⟩ = some (.int .u8 kb) ∧ W.cell? ⟨fa0, off + 3 + 1, none⟩ = some (.string sb) ∧ W.cell? ⟨fa0, off + 3 + 2, none⟩ = some (.slice ab lb cb) ∧ fa0 < W.heap.size) := fun W h => ⟨(h.cell (p := ⟨fa0, off + 3, none⟩) hb0).trans q0, (h.cell (p := ⟨fa0, off + 3 + 1, none⟩) hb0).trans q1, (h.cell (p := ⟨fa0, off + 3 + 2, none⟩) hb0).trans q2, Nat.lt_of_lt_of_le hb0 h.size⟩
        rw [hl2]
        have hi0 : (0 : Int) < 2 := by decide
        have hi1 : (1 : Int) < 2 := by decide
        have HBX : Hid (Below w.heap.size w (w.alloc (.cells #[.int .u8 5, .string s, .slice (some ⟨fa0, off, none⟩) 2 c] 25))) := belowA _ _
        clear hR hRl hRa hDa ih hbw hr0 hr1 q0 q1 q2 hb2 hva hvb e1 hl2 hd1
        go_enter Tryz.func92, Tryz.ntmps92
        go_wp2_with fail
        refine (hA.out _ HBX.out).mono ?_
        rintro e w2 ⟨rfl, hb2⟩
        have HB2 : Hid (Below w.heap.size w w2) := HBX.out.trans (hb2.mono HBX.out.size)
        have hm2 : w2.heap[w.heap.size]? = some (.cells #[.int .u8 5, .string s, .slice (some ⟨fa0, off, none⟩) 2 c] 25 (0, 0)) := (hb2.block _ (by simp)).trans (hp_topA rfl)
        have y2 := Lib.cell_of_heap hm2 2
        simp only [List.getElem?_toArray, List.getElem?_cons_zero, List.getElem?_cons_succ] at y2
        have yl := (Array.getElem?_eq_some_iff.1 hm2).1
        obtain ⟨q0, q1, q2, ql⟩ := HC.out w2 HB2.out
        clear hb2 hm2 p0 p1 p2 hb0
        cases va with
        | false =>
          go_wp2_with fail
          all_goals go_ret
          all_goals exact ⟨by rw [HQ.out]; rfl, HB2.out⟩
        | true =>
          go_wp2_with fail
          refine (hB.out _ HB2.out).mono ?_
          rintro e w3 ⟨rfl, hb3⟩
          have HB3 := Lib.hid (HB2.out.trans (hb3.mono HB2.out.size))
          clear hb3
          go_wp2_with fail
          all_goals go_ret
          all_goals exact ⟨by rw [HQ.out]; rfl, HB3.out⟩
      · -- two parts
        have hl2 : of.length = 2 := by have : (of.length == 2) = true := hRl; simpa using this
        obtain ⟨fa0, off, ka, sa, aa, la, ca, e0, hb0, p0, p1, p2, hr0⟩ := FRow.at (w := w) (B := w.heap.size) (n := n) (a := a) (l := of) hR 0 (by omega)
        obtain ⟨fb0, off2, kb, sb, ab, lb, cb, e1, hb2, q0, q1, q2, hr1⟩ := FRow.at (w := w) (B := w.heap.size) (n := n) (a := a) (l := of) hR 1 (by omega)
        rw [e0] at e1
        obtain ⟨rfl, rfl⟩ : fa0 = fb0 ∧ off = off2 := by simpa using e1
        subst e0
        simp only [Nat.zero_mul, Nat.one_mul, Nat.add_zero] at p0 p1 p2 q0 q1 q2
        have hA := Lib.hid (fun W (h : Below w.heap.size w W) => ih of[0] _ W (hr0.up h h.size) (hbw.trans (h.mono hbw.size)) (hRa _ (List.getElem_mem _)) (hDa _ (List.getElem_mem _)))
        have hB := Lib.hid (fun W (h : Below w.heap.size w W) => ih of[1] _ W (hr1.up h h.size) (hbw.trans (h.mono hbw.size)) (hRa _ (List.getElem_mem _)) (hDa _ (List.getElem_mem _)))
        have HQ : Hid (holdsF names (n + 1) (6, s, of) on = (holdsF names n of[0] on || holdsF names n of[1] on)) := by
          rw [Hid, holdsF_one]
          match of, hl2 with
          | [x, y], _ => rfl
        obtain ⟨va, hva⟩ : ∃ va, holdsF names n of[0] on = va := ⟨_, rfl⟩
        obtain ⟨vb, hvb⟩ : ∃ vb, holdsF names n of[1] on = vb := ⟨_, rfl⟩
        rw [hva] at hA HQ
        rw [hvb] at hB HQ
        have HC : Hid (∀ W, Below w.heap.size w W → W.cell? ⟨fa0, off + 3, none⟩ = some (.int .u8 kb) ∧ W.cell? ⟨fa0, off + 3 + 1, none⟩ = some (.string sb) ∧ W.cell? ⟨fa0, off + 3 + 2, none⟩ = some (.slice ab lb cb) ∧ fa0 < W.heap.size) := fun W h => ⟨(h.cell (p := ⟨fa0, off + 3, none⟩) hb0).trans q0, (h.cell (p := ⟨fa0, off + 3 + 1, none⟩) hb0).trans q1, (h.cell (p := ⟨fa0, off + 3 + 2, none⟩) hb0).trans q2, Nat.lt_of_lt_of_le hb0 h.size⟩
        rw [hl2]
        have hi0 : (0 : Int) < 2 := by decide
        have hi1 : (1 : Int) < 2 := by decide
        have HBX : Hid (Below w.heap.size w (w.alloc (.cells #[.int .u8 6, .string s, .slice (some ⟨fa0, off, none⟩) 2 c] 25))) := belowA _ _
        clear hR hRl hRa hDa ih hbw hr0 hr1 q0 q1 q2 hb2 hva hvb e1 hl2 hd1
        go_enter Tryz.func92, Tryz.ntmps92
        go_wp2_with fail
        refine (hA.out _ HBX.out).mono ?_
        rintro e w2 ⟨rfl, hb2⟩
        have HB2 : Hid (Below w.heap.size w w2) := HBX.out.trans (hb2.mono HBX.out.size)
        have hm2 : w2.heap[w.heap.size]? = some (.cells #[.int .u8 6, .string s, .slice (some ⟨fa0, off, none⟩) 2 c] 25 (0, 0)) := (hb2.block _ (by simp)).trans (hp_topA rfl)
        have y2 := Lib.cell_of_heap hm2 2
        simp only [List.getElem?_toArray, List.getElem?_cons_zero, List.getElem?_cons_succ] at y2
        have yl := (Array.getElem?_eq_some_iff.1 hm2).1
        obtain ⟨q0, q1, q2, ql⟩ := HC.out w2 HB2.out
        clear hb2 hm2 p0 p1 p2 hb0
        cases va with
        | true =>
          go_wp2_with fail
          all_goals go_ret
          all_goals exact ⟨by rw [HQ.out]; rfl, HB2.out⟩
        | false =>
          go_wp2_with fail
          refine (hB.out _ HB2.out).mono ?_
          rintro e w3 ⟨rfl, hb3⟩
          have HB3 := Lib.hid (HB2.out.trans (hb3.mono HB2.out.size))
          clear hb3
          go_wp2_with fail
          all_goals go_ret
          all_goals exact ⟨by rw [HQ.out]; rfl, HB3.out⟩
end Go.Proofs.YtockinpjfhhkoaaGreatDoor

/- AtomsDoes: the document's Holds walked. -/
namespace Go.Proofs.YtockinpjfhhkoaaGreatDoor
open Go.RowKit

theorem pow_le {l : Nat} (h : l ≤ 8) : (1 : Int) ≤ 2 ^ l ∧ (2 : Int) ^ l ≤ 256 := by
  match l, h with
  | 0, _ | 1, _ | 2, _ | 3, _ | 4, _ | 5, _ | 6, _ | 7, _ | 8, _ => decide
set_option maxRecDepth 100000 in
set_option maxHeartbeats 8000000 in
theorem holds43_any (names : List ByteArray) (nv : Value) (hs : ∀ s ∈ names, s.size ≤ 1048576) (n : Nat) (t : FT n) (v : Value) (on : Int) (w : World) (h0 : 0 ≤ on) (h1 : on ≤ 255) (hnf : (nF n t : Int) ≤ 1000000) (hn : NRep w w.heap.size nv names) (hf : FRep w w.heap.size n t v) :
    Calls Tryz.prog 43 #[nv, v, .int .u8 on] w fun e w' => e = .returned (.tuple #[.bool (holdsR names n t on).1, .int .i64 (holdsR names n t on).2]) ∧ Below w.heap.size w w' := by
  obtain ⟨k, s, fa, fl, fc, rfl⟩ := hf.shape
  obtain ⟨na, nc, rfl, hnm, _⟩ := id hn
  obtain ⟨W1, hW1⟩ : ∃ W1, W1 = w.alloc (.cells #[.int .u8 k, .string s, .slice fa fl fc] 25) := ⟨_, rfl⟩
  have hb1 : Below w.heap.size w W1 := by rw [hW1]; exact belowA _ _
  have k0 : W1.heap[w.heap.size]? = some (.cells #[.int .u8 k, .string s, .slice fa fl fc] 25 (0, 0)) := by rw [hW1]; exact hp_topA rfl
  have HF : Hid (∀ W, Below W1.heap.size W1 W → W.cell? ⟨w.heap.size, 0, none⟩ = some (.int .u8 k) ∧ W.cell? ⟨w.heap.size, 1, none⟩ = some (.string s) ∧ W.cell? ⟨w.heap.size, 2, none⟩ = some (.slice fa fl fc) ∧ w.heap.size < W.heap.size) := by
    intro W hW
    have a0 := (hW.block _ (Array.getElem?_eq_some_iff.1 k0).1).trans k0
    exact ⟨Lib.cell_of_heap a0 0, Lib.cell_of_heap a0 1, Lib.cell_of_heap a0 2, (Array.getElem?_eq_some_iff.1 a0).1⟩
  have HBW : Hid (∀ W, Below W1.heap.size W1 W → Below w.heap.size w W) := fun W h => hb1.trans (h.mono hb1.size)
  have HFR : Hid (∀ W, Below W1.heap.size W1 W → FRep W W.heap.size n t (.agg #[.int .u8 k, .string s, .slice fa fl fc])) := fun W h => hf.up (HBW.out W h) (HBW.out W h).size
  have HNR : Hid (∀ W, Below W1.heap.size W1 W → NRep W W.heap.size (.slice na names.length nc) names) := fun W h => hn.up (HBW.out W h) (HBW.out W h).size
  have HFML := Lib.hid (formula91_any names _ hs n t _ W1 hnf (HNR.out W1 (Below.refl _ _)) (HFR.out W1 (Below.refl _ _)))
  have HON : Hid (fmlR names n t = 0 → ∀ W, Below W1.heap.size W1 W → Calls Tryz.prog 92 #[.slice na names.length nc, .agg #[.int .u8 k, .string s, .slice fa fl fc], .int .u8 on] W fun e w' => e = .returned (.bool (holdsF names n t on)) ∧ Below W.heap.size W w') := by
    intro hz W hW
    obtain ⟨g1, g2, _, g4⟩ := fmlR_zero.1 hz
    exact on92_any names _ (namesR_len g1) on h0 h1 W (HNR.out W hW) n t _ W (HFR.out W hW) (Below.refl _ _) g2 g4
  have HLEN : Hid (fmlR names n t = 0 → names.length ≤ 8) := fun hz => namesR_len (fmlR_zero.1 hz).1
  have HR : Hid (holdsR names n t on = if fmlR names n t ≠ 0 then (false, fmlR names n t) else if 0 < on / 2 ^ names.length then (false, 2) else (holdsF names n t on, 0)) := rfl
  have HI := Lib.hid (⟨h0, h1⟩ : 0 ≤ on ∧ on ≤ 255)
  have HW1 := Lib.hid hW1.symm
  obtain ⟨x0, x1, x2, xl⟩ := HF.out W1 (Below.refl _ _)
  clear hs hnf hn hf hW1 hb1 k0 h0 h1
  go_enter Tryz.func43, Tryz.ntmps43
  go_upto_region 1 with fail
  rw [HW1.out]
  clear HW1
  go_wp2_with fail
  refine HFML.out.mono ?_
  rintro e w2 ⟨rfl, hb2⟩
  have HB2 : Hid (Below W1.heap.size W1 w2) := hb2
  clear hb2 x0 x1 x2 xl
  obtain ⟨y0, y1, y2, yl⟩ := HF.out w2 HB2.out
  by_cases hz : fmlR names n t = 0
  · have HL := HLEN.out hz
    have HC := Lib.hid (HON.out hz)
    rw [hz] at HR ⊢
    rw [if_neg (by simp)] at HR
    obtain ⟨p1, p2⟩ := pow_le HL
    have hwo : wrap64 on = on := IntWalk.wrap64_in _ (by have := HI.out; omega)
    have hwo' : IntKind.i64.wrap on = on := IntWalk.i64_in _ (by have := HI.out; omega)
    obtain ⟨m, hm⟩ : ∃ m : Int, (2 : Int) ^ names.length = m := ⟨_, rfl⟩
    rw [hm] at p1 p2 HR
    have hwm : wrap64 m = m := IntWalk.wrap64_in _ (by omega)
    have hwm' : IntKind.i64.wrap m = m := IntWalk.i64_in _ (by omega)
    have hiff : 0 < on / m ↔ m ≤ on := by
      have h0 := HI.out.1
      constructor
      · intro h
        rcases Int.lt_or_le on m with h3 | h3
        · rw [Int.ediv_eq_zero_of_lt h0 h3] at h; omega
        · exact h3
      · intro h
        have := Int.ediv_le_ediv (show 0 < m by omega) h
        rw [Int.ediv_self (by omega)] at this; omega
    by_cases hc : m ≤ on
    · have hd : decide (m ≤ on) = true := by simpa using hc
      rw [if_pos (hiff.2 hc)] at HR
      clear hz HON HLEN hiff hc p1 p2
      go_wp2_with fail
      all_goals go_ret2
      all_goals exact ⟨by rw [HR.out]; rfl, HBW.out _ HB2.out⟩
    · have hd : decide (m ≤ on) = false := by simpa using hc
      rw [if_neg (fun h => hc (hiff.1 h))] at HR
      clear hz HON HLEN hiff hc p1 p2
      go_wp2_with fail
      refine (HC.out w2 HB2.out).mono ?_
      rintro e w3 ⟨rfl, hb3⟩
      have HB3 := Lib.hid (belS HB2.out hb3)
      clear hb3
      go_wp2_with fail
      all_goals go_ret2
      all_goals exact ⟨by rw [HR.out]; rfl, HBW.out _ HB3.out⟩
  · have hd : (fmlR names n t != 0) = true := by simpa using hz
    rw [if_pos hz] at HR
    clear hz
    go_wp2_with fail
    all_goals go_ret2
    all_goals exact ⟨by rw [HR.out]; rfl, HBW.out _ HB2.out⟩
end Go.Proofs.YtockinpjfhhkoaaGreatDoor
