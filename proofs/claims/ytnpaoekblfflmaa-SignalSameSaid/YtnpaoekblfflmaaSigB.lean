/- signal.Check's closure, slices.IndexFunc and slices.ContainsFunc with it. -/
import Derived.Test.YtnpaoekblfflmaaSigA
import Derived.Test.YtnpaoekblfflmaaWitB
namespace Go.Proofs.Ytnpaoekblfflmaa
open Go.RowKit Go.Shelf

/-- Is a segment bad, of so many propositions? -/
def badB (p : Int) (s : Int × Int) : Bool := decide (s.1 < 1) || decide (2 ^ p.toNat ≤ s.2)

set_option maxHeartbeats 400000 in
theorem check1_any (a q p : Int) (Bp : Nat) (w : World) (hp0 : 0 ≤ p) (hp8 : p ≤ 8) (hq0 : 0 ≤ q) (hq : q ≤ 255) (hc : w.cell? ⟨Bp, 0, none⟩ = some (.int .i64 p)) (hB : Bp < w.heap.size) :
    Calls Try.prog 39 #[.agg #[.int .i64 a, .int .u8 q], .pointer (some ⟨Bp, 0, none⟩)] w fun e w' => e = .returned (.bool (badB p (a, q))) ∧ Below w.heap.size w w' := by
  by_cases ha : a < 1
  · have hb : Hid (badB p (a, q) = true) := by show (_ || _) = true; simp [ha]
    go_enter Try.func39, Try.ntmps39
    go_wp2_with fail
    go_ret
    exact ⟨by rw [hb.out]; rfl, (Below.refl _ _).alloc (Nat.le_refl _) _⟩
  · have hb : Hid (badB p (a, q) = decide (0 < q / 2 ^ p.toNat)) := by
      show (_ || _) = _
      have hc : (0 : Int) < 2 ^ p.toNat := Int.pow_pos (by omega)
      simp only [ha, decide_false, Bool.false_or, decide_eq_decide]
      have := Int.le_ediv_iff_mul_le (a := 1) (b := q) hc
      rw [Int.one_mul] at this
      omega
    go_enter Try.func39, Try.ntmps39
    go_wp2_with fail
    go_ret
    exact ⟨by rw [hb.out]; rfl, (Below.refl _ _).alloc (Nat.le_refl _) _⟩

def idxF {α : Type} (f : α → Bool) : List α → Int → Int
  | [], _ => -1
  | x :: r, k => if f x then k else idxF f r (k + 1)
theorem idxF_any {α : Type} (f : α → Bool) : ∀ (l : List α) (k : Int), 0 ≤ k → decide (0 ≤ idxF f l k) = l.any f
  | [], _, _ => rfl
  | x :: r, k, h => by
    rw [idxF, List.any_cons]
    cases f x
    · simpa using idxF_any f r (k + 1) (by omega)
    · simpa using h
theorem idxF_drop {α : Type} (f : α → Bool) (l : List α) (j : Nat) (h : j < l.length) : idxF f (l.drop j) j = if f l[j] then (j : Int) else idxF f (l.drop (j + 1)) ((j + 1 : Nat) : Int) := by
  rw [List.drop_eq_getElem_cons h, idxF]
  rfl

/-- Segments in memory: a slice value, below block B; each field in its kind's range. -/
def Segs (w : World) (B : Nat) (v : Value) (l : List (Int × Int)) : Prop :=
  ∃ a cap, v = .slice a l.length cap ∧ l.length ≤ 9223372036854775807 ∧ (l = [] ∨ ∃ b off, a = some ⟨b, off, none⟩ ∧ b < B ∧ SegC w b off l) ∧
    ∀ s ∈ l, -9223372036854775808 ≤ s.1 ∧ s.1 ≤ 9223372036854775807 ∧ 0 ≤ s.2 ∧ s.2 ≤ 255

theorem Segs.below {w w' : World} {B : Nat} {v : Value} {l : List (Int × Int)} (hb : Below B w w') (h : Segs w B v l) : Segs w' B v l := by
  obtain ⟨a, cap, hv, hm, h, hr⟩ := h
  refine ⟨a, cap, hv, hm, ?_, hr⟩
  rcases h with h | ⟨b, off, ha, hlt, hc⟩
  · exact .inl h
  · exact .inr ⟨b, off, ha, hlt, hc.below hb hlt⟩

theorem Segs.mono {w : World} {B B' : Nat} {v : Value} {l : List (Int × Int)} (hB : B ≤ B') (h : Segs w B v l) : Segs w B' v l := by
  obtain ⟨a, cap, hv, hm, h, hr⟩ := h
  refine ⟨a, cap, hv, hm, ?_, hr⟩
  rcases h with h | ⟨b, off, ha, hlt, hc⟩
  · exact .inl h
  · exact .inr ⟨b, off, ha, by omega, hc⟩

theorem getD_eq (l : List (Int × Int)) (j : Nat) (h : j < l.length) : l[j]?.getD (0, 0) = l[j] := by simp [h]

set_option maxHeartbeats 400000 in
theorem indexFunc_any (v : Value) (l : List (Int × Int)) (p : Int) (Bp : Nat) (w : World) (hs : Segs w w.heap.size v l) (hp0 : 0 ≤ p) (hp8 : p ≤ 8) (hc : w.cell? ⟨Bp, 0, none⟩ = some (.int .i64 p)) (hB : Bp < w.heap.size) :
    Calls Try.prog 41 #[v, .func (.func 39) #[] #[.pointer (some ⟨Bp, 0, none⟩)]] w fun e w' => e = .returned (.int .i64 (idxF (badB p) l 0)) ∧ Below w.heap.size w w' := by
  obtain ⟨a, cap, rfl, hm, h, hr⟩ := hs
  have HR := Lib.hid hr
  have HBp := Lib.hid hc
  clear hr hc
  have H0 : Hid (idxF (badB p) l 0 = idxF (badB p) (l.drop 0) ((0 : Nat) : Int)) := rfl
  go_enter Try.func41, Try.ntmps41
  go_wp2_with fail
  go_loopw [8] (fun i wr => ∃ j : Nat, j ≤ l.length ∧ i = .int .i64 j ∧ Hid (idxF (badB p) l 0 = idxF (badB p) (l.drop j) (j : Int)) ∧ Below w.heap.size w wr) (fun i _ => l.length - (intOf i).toNat)
  case atStart => exact ⟨0, Nat.zero_le _, rfl, H0, Below.refl _ _⟩
  case round =>
    obtain ⟨j, hj, rfl, hI, hbw⟩ := hrel
    by_cases hlt : j < l.length
    · rcases h with h | ⟨b, off, rfl, hbl, hc⟩
      · rw [h] at hlt; exact absurd hlt (by simp)
      · obtain ⟨c1, c2⟩ := (hc.below hbw hbl) j hlt
        obtain ⟨x, y, hxy⟩ : ∃ x y, l[j] = (x, y) := ⟨_, _, rfl⟩
        rw [getD_eq l j hlt, hxy] at c1 c2
        dsimp only at c1 c2
        have hD := idxF_drop (badB p) l j hlt
        have hrg := HR.out _ (List.getElem_mem hlt)
        rw [hxy] at hD hrg
        obtain ⟨_, _, hy0, hy1⟩ := hrg
        have HD := Lib.hid hD
        have HX := Lib.hid hxy
        have HC := Lib.hid hc
        have hcp := (hbw.cell (p := ⟨Bp, 0, none⟩) hB).trans HBp.out
        have hsw := hbw.size
        clear hxy hc hD
        dsimp only at hy0 hy1
        cases hb : badB p (x, y)
        · have HB := Lib.hid hb
          clear hb
          go_wp2_with fail
          refine (check1_any x y p Bp wr hp0 hp8 hy0 hy1 hcp (by omega)).mono ?_
          rintro e w1 ⟨rfl, hb1⟩
          rw [HB.out]
          clear c1 c2 hcp
          go_wp2_with fail
          go_roundw
          case rel => exact ⟨j + 1, by omega, by go_num, by rw [hI.out, HD.out, HB.out]; rfl, hbw.trans (hb1.mono hsw)⟩
          case measure => simp [intOf]; omega
        · have HB := Lib.hid hb
          clear hb
          go_wp2_with fail
          refine (check1_any x y p Bp wr hp0 hp8 hy0 hy1 hcp (by omega)).mono ?_
          rintro e w1 ⟨rfl, hb1⟩
          rw [HB.out]
          clear c1 c2 hcp
          go_wp2_with fail
          go_ret
          exact ⟨ret_int (by rw [hI.out, HD.out, HB.out]; rfl), hbw.trans (hb1.mono hsw)⟩
    · have hE : Hid (idxF (badB p) (l.drop j) (j : Int) = -1) := by rw [show j = l.length by omega, List.drop_length]; rfl
      clear h
      go_wp2_with fail
      go_ret
      exact ⟨ret_int (by rw [hI.out, hE.out]), hbw⟩

set_option maxHeartbeats 400000 in
theorem containsFunc_any (v : Value) (l : List (Int × Int)) (p : Int) (Bp : Nat) (w : World) (hs : Segs w w.heap.size v l) (hp0 : 0 ≤ p) (hp8 : p ≤ 8) (hc : w.cell? ⟨Bp, 0, none⟩ = some (.int .i64 p)) (hB : Bp < w.heap.size) :
    Calls Try.prog 38 #[v, .func (.func 39) #[] #[.pointer (some ⟨Bp, 0, none⟩)]] w fun e w' => e = .returned (.bool (l.any (badB p))) ∧ Below w.heap.size w w' := by
  have H := Lib.hid (indexFunc_any v l p Bp w hs hp0 hp8 hc hB)
  have HA := Lib.hid (idxF_any (badB p) l 0 (by omega))
  clear hs hc
  go_enter Try.func38, Try.ntmps38
  go_wp2_with fail
  refine H.out.mono ?_
  rintro e w1 ⟨rfl, hb1⟩
  go_wp2_with fail
  go_ret
  exact ⟨by rw [← HA.out]; rfl, hb1⟩
end Go.Proofs.Ytnpaoekblfflmaa
