/- rallentandoref22.Cut. -/
import Derived.Test.YtnpaoekblfflmaaSigI
import Derived.Deep.RegionLaw
import Derived.Deep.AppendLies
namespace Go.Proofs.Ytnpaoekblfflmaa
open Go.RowKit Go.Shelf
attribute [local go_sem ↓] Go.wp_at_zero Go.wp_at_succ

/-- The book's loop: what has come, the moment that is left. -/
def c22Step (st : Int × List (Int × Int)) (x : Int × Int) : Int × List (Int × Int) :=
  (wrap64 (st.1 - x.1), if 0 < st.1 ∧ st.1 < x.1 then st.2 ++ [(st.1, x.2), (wrap64 (x.1 - st.1), x.2)] else st.2 ++ [x])
def c22To (m : Int) (l : List (Int × Int)) (k : Nat) : Int × List (Int × Int) := (l.take k).foldl c22Step (m, [])
theorem c22To_succ (m : Int) (l : List (Int × Int)) (k : Nat) (h : k < l.length) : c22To m l (k + 1) = c22Step (c22To m l k) l[k] := by
  unfold c22To
  rw [List.take_succ_eq_append_getElem h, List.foldl_append]; rfl
theorem c22To_length (m : Int) (l : List (Int × Int)) : ∀ k, k ≤ l.length → (c22To m l k).2.length ≤ 2 * k
  | 0, _ => by simp [c22To]
  | k + 1, h => by
    have := c22To_length m l k (by omega)
    rw [c22To_succ m l k (by omega)]
    simp only [c22Step]
    split <;> simp <;> omega
/-- What the book's Cut answers. -/
def cut22P (l : List (Int × Int)) (m : Int) : List (Int × Int) × Int :=
  if m < 0 ∨ total22 l < m then ([], 2) else if 1024 < (c22To m l l.length).2.length then ([], 4) else ((c22To m l l.length).2, 0)
def cut22A (c : Int) (l : List (Int × Int)) (m : Int) : List (Int × Int) × Int := if c = 0 then cut22P l m else ([], c)

theorem cells_four_new (w : World) (x y z u : Value) (t : TypeId) : ∀ j q, [x, y, z, u][j]? = some q → (w.alloc (.cells #[x, y, z, u] t)).cell? ((⟨w.heap.size, 0, none⟩ : Addr).add j) = some q := by
  intro j q hj
  match j, hj with
  | 0, hj => simp at hj; subst hj; simp [Addr.add]
  | 1, hj => simp at hj; subst hj; simp [Addr.add]
  | 2, hj => simp at hj; subst hj; simp [Addr.add]
  | 3, hj => simp at hj; subst hj; simp [Addr.add]

set_option maxRecDepth 100000 in
set_option maxHeartbeats 4000000 in
theorem cut22_any (p m : Int) (v : Value) (l : List (Int × Int)) (w : World) (hs : Segs w w.heap.size v l) :
    Calls Try.prog 17 #[.int .i64 p, v, .int .i64 m] w fun e w' => (∃ v', e = .returned (.tuple #[v', .int .i64 (cut22A (check22P p l) l m).2]) ∧ OwnS w' w.heap.size v' (cut22A (check22P p l) l m).1) ∧ Below w.heap.size w w' := by
  have HC := check22_any p v l w hs
  have HS := Lib.hid hs
  obtain ⟨i0, hi, hz0, hz1, hz2⟩ := info_parts Try.info39
  obtain ⟨c, hc⟩ : ∃ c, check22P p l = c := ⟨_, rfl⟩
  rw [hc] at HC ⊢
  have HK := Lib.hid hc
  clear hc
  obtain ⟨a, cap, rfl, hm, h, hr⟩ := hs
  by_cases h0 : c = 0
  · subst h0
    have hl4 : l.length ≤ 1024 := check22P_short HK.out
    have HA : Hid (cut22A 0 l m = cut22P l m) := by rw [Hid, cut22A, if_pos rfl]
    by_cases ha : m < 0
    · have HE : Hid (cut22P l m = ([], 2)) := by rw [Hid, cut22P, if_pos (.inl ha)]
      have da : decide (m < 0) = true := by simpa using ha
      clear ha h hr
      go_enter Try.func17, Try.ntmps17
      go_wp2_with fail
      refine HC.mono ?_
      rintro e w1 ⟨rfl, hb1⟩
      clear HC
      go_wp2_with fail
      go_ret2
      exact ⟨⟨_, by rw [HA.out, HE.out]; rfl, by rw [HA.out, HE.out]; exact World.ownsRow_nil _ _ _ _⟩, hb1⟩
    have da : decide (m < 0) = false := by simpa using ha
    by_cases hb : total22 l < m
    · have HE : Hid (cut22P l m = ([], 2)) := by rw [Hid, cut22P, if_pos (.inr hb)]
      have db : decide (total22 l < m) = true := by simpa using hb
      clear ha hb h hr
      go_enter Try.func17, Try.ntmps17
      go_wp2_with fail
      refine HC.mono ?_
      rintro e w1 ⟨rfl, hb1⟩
      clear HC
      have HM := total22_any _ l w1 ((HS.out.below hb1).mono hb1.size)
      go_wp2_with fail
      refine HM.mono ?_
      rintro e w2 ⟨rfl, rfl⟩
      clear HM
      go_wp2_with fail
      go_ret2
      exact ⟨⟨_, by rw [HA.out, HE.out]; rfl, by rw [HA.out, HE.out]; exact World.ownsRow_nil _ _ _ _⟩, hb1⟩
    have db : decide (total22 l < m) = false := by simpa using hb
    have HO : Hid (¬(m < 0 ∨ total22 l < m)) := fun h => h.elim ha hb
    clear ha hb
    have HH := Lib.hid h
    have HR := Lib.hid hr
    clear h hr
    go_enter Try.func17, Try.ntmps17
    go_wp2_with fail
    refine HC.mono ?_
    rintro e w1 ⟨rfl, hb1⟩
    clear HC
    have HM := total22_any _ l w1 ((HS.out.below hb1).mono hb1.size)
    go_wp2_with fail
    refine HM.mono ?_
    rintro e w2 ⟨rfl, rfl⟩
    clear HM
    go_wp2_with fail
    go_loopw [2, 9, 10] (fun mm u i wr => ∃ (k : Nat), k ≤ l.length ∧ i = .int .i64 k ∧ mm = .int .i64 (c22To m l k).1 ∧ OwnS wr w.heap.size u (c22To m l k).2 ∧ Below w.heap.size w wr) (fun _ _ i _ => l.length - (intOf i).toNat)
    case atStart => exact ⟨0, Nat.zero_le _, rfl, rfl, World.ownsRow_nil _ _ _ _, hb1⟩
    case round =>
      obtain ⟨k, hk, rfl, rfl, hown, hbw⟩ := hrel
      have hsw := hbw.size
      by_cases hlt : k < l.length
      · rcases HH.out with h | ⟨b, off, rfl, hbl, hc⟩
        · rw [h] at hlt; exact absurd hlt (by simp)
        obtain ⟨c1, c2⟩ := (hc.below hbw hbl) k hlt
        obtain ⟨x, y, hxy⟩ : ∃ x y, l[k] = (x, y) := ⟨_, _, rfl⟩
        rw [getD_eq l k hlt, hxy] at c1 c2
        dsimp only at c1 c2
        have hT := c22To_succ m l k hlt
        have hTl := c22To_length m l k hk
        obtain ⟨⟨mk, out⟩, hst⟩ : ∃ st, c22To m l k = st := ⟨_, rfl⟩
        rw [hxy, hst] at hT
        rw [hst] at hown hTl ⊢
        simp only at hown hTl ⊢
        have HT := Lib.hid hT
        have HX : Hid (∀ w4, Below w.heap.size w w4 → w4.cell? ⟨b, off + k * 2, none⟩ = some (.int .i64 x)) := fun w4 hb4 => by
          have h1 := ((hc.below hb4 hbl) k hlt).1
          rw [getD_eq l k hlt, hxy] at h1
          exact h1
        clear hc hxy hT hst
        by_cases hcut : 0 < mk ∧ mk < x
        · have HE : Hid (c22To m l (k + 1) = (wrap64 (mk - x), out ++ [(mk, y), (wrap64 (x - mk), y)])) := by rw [Hid, HT.out, c22Step, if_pos hcut]
          have d1 : decide (0 < mk) = true := by simpa using hcut.1
          have d2 : decide (mk < x) = true := by simpa using hcut.2
          clear hcut
          go_wp2_with fail
          have ho4 : (out ++ [(mk, y), (wrap64 (x - mk), y)]).length = out.length + 2 := by simp
          have hf4 : flatS (out ++ [(mk, y), (wrap64 (x - mk), y)]) = flatS out ++ [.int .i64 mk, .int .u8 y, .int .i64 (wrap64 (x - mk)), .int .u8 y] := by rw [flatS_append]; rfl
          have HOw := Lib.hid hown
          have HF4 := Lib.hid hf4
          have HO4 := Lib.hid ho4
          have HBW := Lib.hid hbw
          clear hown hf4 ho4 hbw
          go_region_law (refine step_append_lies _ rfl _ _ 29 rfl w.heap.size 39 i0 _ 2 16 Try.underlying29 hi hz0 hz1 hz2 rfl (by decide) _ _ _ rfl (World.ownsRow.alloc (show World.ownsRow _ _ _ _ _ _ _ from HOw.out) _) _ 2 2 [.int .i64 mk, .int .u8 y, .int .i64 (IntKind.i64.wrap (x - mk)), .int .u8 y] rfl rfl (by intro j q hj; have hq := cells_four_new wr (.int .i64 mk) (.int .u8 y) (.int .i64 (IntKind.i64.wrap (x - mk))) (.int .u8 y) 39 j q hj; simpa using hq) (by intro u hu; simp at hu; rcases hu with rfl | rfl | rfl | rfl <;> rfl) (by decide) (by simp only [maxLen]; omega) (by omega) (by simp; omega) _ rfl ?_; intro g cp w4 hown' hgrow hat hltg)
          all_goals
            have hB0 := HBW.out.alloc hsw (.cells #[.int .i64 mk, .int .u8 y, .int .i64 (IntKind.i64.wrap (x - mk)), .int .u8 y] 39)
            have hb4 : Below w.heap.size w w4 := by
              refine Below.grown ?_ hgrow ?_ (fun j hj => (World.ownsRow.lt HOw.out j hj).1)
              · exact ⟨hB0.os, hB0.tape, hB0.output, hB0.size, hB0.block⟩
              · simp; omega
            have q1 := HX.out w4 hb4
            clear hB0 hgrow hat hltg
            go_wp2_with fail
            refine ⟨⟨k + 1, by omega, by push_cast; rfl, by rw [HE.out], ?_, hb4⟩, by simp [intOf]; omega⟩
            rw [HE.out]
            show World.ownsRow _ _ _ _ _ _ _
            rw [IntWalk.i64_left] at hown'
            rw [HO4.out, HF4.out]
            exact hown'
        · have HE : Hid (c22To m l (k + 1) = (wrap64 (mk - x), out ++ [(x, y)])) := by rw [Hid, HT.out, c22Step, if_neg hcut]
          have HOw := Lib.hid hown
          have HBW := Lib.hid hbw
          clear hown hbw
          by_cases e1 : 0 < mk
          · have d1 : decide (0 < mk) = true := by simpa using e1
            have d2 : decide (mk < x) = false := by simp; omega
            clear hcut e1
            go_wp2_with (at_builtin; refine wpList_append_own_at _ rfl _ _ 29 rfl w.heap.size 39 i0 _ 2 16 Try.underlying29 hi hz0 hz1 hz2 rfl (by decide) _ _ _ rfl (World.ownsRow.alloc HOw.out _) _ 1 1 [.int .i64 x, .int .u8 y] rfl rfl (cells_two_new _ _ _ _) (by intro u hu; simp at hu; rcases hu with rfl | rfl <;> rfl) (by simp only [maxLen]; omega) (by omega) (by simp; omega) ?_; intro v' w4 hown' hgrow hnil hat; have hb4 : Below w.heap.size w w4 := Below.grown (HBW.out.alloc hsw _) hgrow (by simp; omega) (fun j hj => (World.ownsRow.lt HOw.out j hj).1); have q1 := HX.out w4 hb4; clear hgrow hnil hat)
            refine ⟨⟨k + 1, by omega, by push_cast; rfl, by rw [HE.out], ?_, hb4⟩, by simp [intOf]; omega⟩
            rw [HE.out]
            show World.ownsRow _ _ _ _ _ _ _
            have hh : (out ++ [(x, y)]).length = out.length + 1 := by simp
            rw [flatS_append, hh]
            exact hown'
          · have d1 : decide (0 < mk) = false := by simpa using e1
            clear hcut e1
            go_wp2_with (at_builtin; refine wpList_append_own_at _ rfl _ _ 29 rfl w.heap.size 39 i0 _ 2 16 Try.underlying29 hi hz0 hz1 hz2 rfl (by decide) _ _ _ rfl (World.ownsRow.alloc HOw.out _) _ 1 1 [.int .i64 x, .int .u8 y] rfl rfl (cells_two_new _ _ _ _) (by intro u hu; simp at hu; rcases hu with rfl | rfl <;> rfl) (by simp only [maxLen]; omega) (by omega) (by simp; omega) ?_; intro v' w4 hown' hgrow hnil hat; have hb4 : Below w.heap.size w w4 := Below.grown (HBW.out.alloc hsw _) hgrow (by simp; omega) (fun j hj => (World.ownsRow.lt HOw.out j hj).1); have q1 := HX.out w4 hb4; clear hgrow hnil hat)
            refine ⟨⟨k + 1, by omega, by push_cast; rfl, by rw [HE.out], ?_, hb4⟩, by simp [intOf]; omega⟩
            rw [HE.out]
            show World.ownsRow _ _ _ _ _ _ _
            have hh : (out ++ [(x, y)]).length = out.length + 1 := by simp
            rw [flatS_append, hh]
            exact hown'
      · have hke : k = l.length := by omega
        subst hke
        have hTl := c22To_length m l l.length (Nat.le_refl _)
        obtain ⟨ua, uc, rfl⟩ := OwnS.shape hown
        have HOw := Lib.hid hown
        clear hown hlt hk
        by_cases hlong : 1024 < (c22To m l l.length).2.length
        · have HE : Hid (cut22P l m = ([], 4)) := by rw [Hid, cut22P, if_neg HO.out, if_pos hlong]
          have d3 : decide (1024 < ((c22To m l l.length).2.length : Int)) = true := by simp; omega
          clear hlong
          go_wp2_with fail
          go_ret2
          exact ⟨⟨_, by rw [HA.out, HE.out]; rfl, by rw [HA.out, HE.out]; exact World.ownsRow_nil _ _ _ _⟩, hbw⟩
        · have HE : Hid (cut22P l m = ((c22To m l l.length).2, 0)) := by rw [Hid, cut22P, if_neg HO.out, if_neg hlong]
          have d3 : decide (1024 < ((c22To m l l.length).2.length : Int)) = false := by simp; omega
          clear hlong
          go_wp2_with fail
          go_ret2
          exact ⟨⟨_, by rw [HA.out, HE.out]; rfl, by rw [HA.out, HE.out]; exact HOw.out⟩, hbw⟩
  · have d0 : (c != 0) = true := by simpa using h0
    have HN : Hid (cut22A c l m = ([], c)) := by rw [Hid, cut22A, if_neg h0]
    clear h0 h hr
    go_enter Try.func17, Try.ntmps17
    go_wp2_with fail
    refine HC.mono ?_
    rintro e w1 ⟨rfl, hb1⟩
    clear HC
    go_wp2_with fail
    go_ret2
    exact ⟨⟨_, by rw [HN.out]; rfl, by rw [HN.out]; exact World.ownsRow_nil _ _ _ _⟩, hb1⟩
end Go.Proofs.Ytnpaoekblfflmaa
