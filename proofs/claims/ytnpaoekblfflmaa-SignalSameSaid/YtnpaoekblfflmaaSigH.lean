/- slices.Equal on segments; rallentandoref22.Check. -/
import Derived.Test.YtnpaoekblfflmaaSigG
namespace Go.Proofs.Ytnpaoekblfflmaa
open Go.RowKit Go.Shelf
attribute [local go_sem ↓] Go.wp_at_zero Go.wp_at_succ
attribute [local go_sem] eq39

set_option maxHeartbeats 1000000 in
theorem equal39_any (v v' : Value) (l r : List (Int × Int)) (w : World) (hs : Segs w w.heap.size v l) (hs' : Segs w w.heap.size v' r) :
    Calls Try.prog 37 #[v, v'] w fun e w' => e = .returned (.bool (decide (l = r))) ∧ Below w.heap.size w w' := by
  obtain ⟨a, cap, rfl, hm, h, hr⟩ := hs
  obtain ⟨a', cap', rfl, hm', h', hr'⟩ := hs'
  clear hr hr'
  by_cases hlen : l.length = r.length
  · have hl0 : ((l.length : Int) == (r.length : Int)) = true := by simp [hlen]
    go_enter Try.func37, Try.ntmps37
    go_wp2_with fail
    go_loopw [13] (fun i wr => ∃ (k : Nat), k ≤ l.length ∧ i = .int .i64 k ∧ l.take k = r.take k ∧ Below w.heap.size w wr) (fun i _ => l.length - (intOf i).toNat)
    case atStart => exact ⟨0, Nat.zero_le _, rfl, rfl, Below.refl _ _⟩
    case round =>
      obtain ⟨k, hk, rfl, ht, hbw⟩ := hrel
      by_cases hlt : k < l.length
      · have hlt' : k < r.length := by omega
        rcases h with h | ⟨b, off, rfl, hbl, hc⟩
        · rw [h] at hlt; exact absurd hlt (by simp)
        rcases h' with h' | ⟨b', off', rfl, hbl', hc'⟩
        · rw [h'] at hlt'; exact absurd hlt' (by simp)
        obtain ⟨x, y, hxy⟩ : ∃ x y, l[k] = (x, y) := ⟨_, _, rfl⟩
        obtain ⟨x', y', hxy'⟩ : ∃ x y, r[k] = (x, y) := ⟨_, _, rfl⟩
        obtain ⟨c1, c2⟩ := (hc.below hbw hbl) k hlt
        obtain ⟨c1', c2'⟩ := (hc'.below hbw hbl') k hlt'
        rw [getD_eq l k hlt, hxy] at c1 c2
        rw [getD_eq r k hlt', hxy'] at c1' c2'
        dsimp only at c1 c2 c1' c2'
        have HT := Lib.hid ht
        clear ht
        have hlti : (k : Int) < (r.length : Int) := by omega
        by_cases he : x = x' ∧ y = y'
        · obtain ⟨rfl, rfl⟩ := he
          have HE := Lib.hid (take_succ_eq hlt hlt' HT.out (hxy.trans hxy'.symm))
          clear hc hc' hxy hxy'
          go_wp2_with fail
          go_quiet (fail)
          go_wp2_with fail
          refine ⟨⟨k + 1, by omega, by push_cast; rfl, HE.out, below_drewN hbw _⟩, ?_⟩
          simp [intOf]; omega
        · have HE : Hid (decide (l = r) = false) := by
            refine decide_eq_false fun h => ?_
            subst h
            rw [hxy] at hxy'
            injection hxy' with h1 h2
            exact he ⟨h1, h2⟩
          by_cases h1 : x = x'
          · have h2 : (y == y') = false := by simpa using fun h2 => he ⟨h1, h2⟩
            subst h1
            clear hc hc' hxy hxy' he
            go_wp2_with fail
            go_quiet (fail)
            go_wp2_with fail
            go_ret
            exact ⟨by rw [HE.out]; rfl, below_drewN hbw _⟩
          · have h2 : (x == x') = false := by simpa using h1
            clear hc hc' hxy hxy' he h1
            go_wp2_with fail
            go_quiet (fail)
            go_wp2_with fail
            go_ret
            exact ⟨by rw [HE.out]; rfl, below_drewN hbw _⟩
      · have hke : k = l.length := by omega
        have hke' : k = r.length := by omega
        have HE : Hid (decide (l = r) = true) := by
          have h3 := ht
          rw [hke, List.take_length, hlen, List.take_length] at h3
          exact decide_eq_true h3
        subst hke
        clear h h' hlt ht hk hke'
        go_wp2_with fail
        go_ret
        exact ⟨by rw [HE.out]; rfl, hbw⟩
  · have hl0 : ((l.length : Int) == (r.length : Int)) = false := by
      simp; omega
    have hl1 : ((l.length : Int) != (r.length : Int)) = true := by simp; omega
    have HE : Hid (decide (l = r) = false) := decide_eq_false fun h => hlen (by rw [h])
    clear h h' hlen
    go_enter Try.func37, Try.ntmps37
    go_wp2_with fail
    go_ret
    exact ⟨by rw [HE.out]; rfl, Below.refl _ _⟩

def farB (s : Int × Int) : Bool := decide (288230376151711744 ≤ s.1)
/-- What the book's Check answers. -/
def check22P (p : Int) (l : List (Int × Int)) : Int :=
  if p < 0 ∨ 8 < p then 2 else if 1024 < l.length then 4 else if l.any (badB p) then 8 else if l.any farB then 220 else if 288230376151711744 ≤ total22 l then 220 else 0

theorem any_of_get {l : List (Int × Int)} {f : Int × Int → Bool} {j : Nat} (h : j < l.length) (hf : f l[j] = true) : l.any f = true := by
  simp only [List.any_eq_true]
  exact ⟨_, List.getElem_mem h, hf⟩
theorem any_take_succ {l : List (Int × Int)} {f : Int × Int → Bool} {j : Nat} (h : j < l.length) (ht : (l.take j).any f = false) (hf : f l[j] = false) : (l.take (j + 1)).any f = false := by
  rw [List.take_succ_eq_append_getElem h, List.any_append, ht]; simp [hf]

set_option maxHeartbeats 2000000 in
theorem check22_any (p : Int) (v : Value) (l : List (Int × Int)) (w : World) (hs : Segs w w.heap.size v l) :
    Calls Try.prog 26 #[.int .i64 p, v] w fun e w' => e = .returned (.int .i64 (check22P p l)) ∧ Below w.heap.size w w' := by
  by_cases hp : p < 0 ∨ 8 < p
  · have HE : Hid (check22P p l = 2) := by rw [Hid, check22P, if_pos hp]
    rw [HE.out]
    obtain ⟨a, cap, rfl, hm, h, hr⟩ := hs
    clear h hr
    by_cases hp0 : p < 0
    · have d1 : decide (p < 0) = true := by simpa using hp0
      clear hp
      go_enter Try.func26, Try.ntmps26
      go_wp2_with fail
      go_ret
      exact ⟨rfl, Below.refl _ _⟩
    · have d1 : decide (p < 0) = false := by simpa using hp0
      have d2 : decide (8 < p) = true := by simp; omega
      clear hp
      go_enter Try.func26, Try.ntmps26
      go_wp2_with fail
      go_ret
      exact ⟨rfl, Below.refl _ _⟩
  have d1 : decide (p < 0) = false := by simp; omega
  have d2 : decide (8 < p) = false := by simp; omega
  have hp0 : 0 ≤ p := by omega
  have hp8 : p ≤ 8 := by omega
  by_cases hlen : 1024 < l.length
  · have HE : Hid (check22P p l = 4) := by rw [Hid, check22P, if_neg hp, if_pos hlen]
    rw [HE.out]
    obtain ⟨a, cap, rfl, hm, h, hr⟩ := hs
    clear h hr hp
    have d3 : decide (1024 < (l.length : Int)) = true := by simp; omega
    go_enter Try.func26, Try.ntmps26
    go_wp2_with fail
    go_ret
    exact ⟨rfl, Below.refl _ _⟩
  have HP := Lib.hid hp
  have HS := Lib.hid hs
  obtain ⟨a, cap, rfl, hm, h, hr⟩ := hs
  have d3 : decide (1024 < (l.length : Int)) = false := by simp; omega
  clear hp
  go_enter Try.func26, Try.ntmps26
  go_wp2_with fail
  go_loopw [5] (fun i wr => ∃ (k : Nat), k ≤ l.length ∧ i = .int .i64 k ∧ (l.take k).any (badB p) = false ∧ Below w.heap.size w wr) (fun i _ => l.length - (intOf i).toNat)
  case atStart => exact ⟨0, Nat.zero_le _, rfl, rfl, Below.refl _ _⟩
  case round =>
    obtain ⟨k, hk, rfl, ht, hbw⟩ := hrel
    have HT := Lib.hid ht
    clear ht
    by_cases hlt : k < l.length
    · rcases h with h | ⟨b, off, rfl, hbl, hc⟩
      · rw [h] at hlt; exact absurd hlt (by simp)
      obtain ⟨x, y, hxy⟩ : ∃ x y, l[k] = (x, y) := ⟨_, _, rfl⟩
      obtain ⟨c1, c2⟩ := (hc.below hbw hbl) k hlt
      rw [getD_eq l k hlt, hxy] at c1 c2
      have hrr := hr l[k] (List.getElem_mem hlt)
      rw [hxy] at hrr
      dsimp only at c1 c2 hrr
      obtain ⟨_, _, hy0, hy1⟩ := hrr
      have HC := Lib.hid hc
      have HR := Lib.hid hr
      have hwy : IntKind.i64.wrap y = y := IntWalk.i64_in _ (by omega)
      clear hc hr
      by_cases hx : x < 1
      · have dx : decide (x < 1) = true := by simpa using hx
        have HE : Hid (check22P p l = 8) := by
          rw [Hid, check22P, if_neg HP.out, if_neg hlen, if_pos (any_of_get hlt (by rw [hxy]; simp [badB, hx]))]
        clear hxy hx
        go_wp2_with fail
        go_quiet (fail)
        go_wp2_with fail
        go_ret
        exact ⟨by rw [HE.out]; rfl, below_drewN hbw _⟩
      · have dx : decide (x < 1) = false := by simpa using hx
        have hq8 : (2 : Int) ^ p.toNat ≤ 2 ^ 8 := by
          have := Nat.pow_le_pow_right (n := 2) (by omega) (show p.toNat ≤ 8 by omega)
          exact_mod_cast this
        have hq0 : (0 : Int) < 2 ^ p.toNat := Int.pow_pos (by omega)
        have hw2 : wrap64 (2 ^ p.toNat) = 2 ^ p.toNat := IntWalk.wrap64_in _ (by omega)
        have HXY := Lib.hid hxy
        clear hxy hq8 hq0
        by_cases hy : 2 ^ p.toNat ≤ y
        · have dy : decide (2 ^ p.toNat ≤ y) = true := by simpa using hy
          have HE : Hid (check22P p l = 8) := by
            rw [Hid, check22P, if_neg HP.out, if_neg hlen, if_pos (any_of_get hlt (by rw [HXY.out]; simp [badB, hy]))]
          clear hx hy
          go_wp2_with fail
          go_quiet (fail)
          go_wp2_with fail
          go_ret
          exact ⟨by rw [HE.out]; rfl, below_drewN hbw _⟩
        · have dy : decide (2 ^ p.toNat ≤ y) = false := by simpa using hy
          have HE : Hid ((l.take (k + 1)).any (badB p) = false) := any_take_succ hlt HT.out (by rw [HXY.out]; simp [badB, hy, hx])
          clear hx hy
          go_wp2_with fail
          go_quiet (fail)
          go_wp2_with fail
          refine ⟨⟨k + 1, by omega, by push_cast; rfl, HE.out, below_drewN hbw _⟩, ?_⟩
          simp [intOf]; omega
    · have hke : k = l.length := by omega
      subst hke
      have HA : Hid (l.any (badB p) = false) := by have := HT.out; rwa [List.take_length] at this
      have HH := Lib.hid h
      have HR := Lib.hid hr
      clear HT hlt hk hr h
      go_wp2_with fail
      go_loopw [6] (fun i wr => ∃ (k : Nat), k ≤ l.length ∧ i = .int .i64 k ∧ (l.take k).any farB = false ∧ Below w.heap.size w wr) (fun i _ => l.length - (intOf i).toNat)
      case atStart => exact ⟨0, Nat.zero_le _, rfl, rfl, hbw⟩
      case round =>
        obtain ⟨k, hk, rfl, ht, hbw'⟩ := hrel
        have HT := Lib.hid ht
        clear ht
        by_cases hlt : k < l.length
        · have h := HH.out
          rcases h with h | ⟨b, off, rfl, hbl, hc⟩
          · rw [h] at hlt; exact absurd hlt (by simp)
          obtain ⟨x, y, hxy⟩ : ∃ x y, l[k] = (x, y) := ⟨_, _, rfl⟩
          obtain ⟨c1, c2⟩ := (hc.below hbw' hbl) k hlt
          rw [getD_eq l k hlt, hxy] at c1 c2
          dsimp only at c1 c2
          have HXY := Lib.hid hxy
          clear hxy hc
          by_cases hy : 288230376151711744 ≤ x
          · have dy : decide (288230376151711744 ≤ x) = true := by simpa using hy
            have HE : Hid (check22P p l = 220) := by
              rw [Hid, check22P, if_neg HP.out, if_neg hlen, HA.out, if_neg (by simp), if_pos (any_of_get hlt (by rw [HXY.out]; simp [farB, hy]))]
            clear hy
            go_wp2_with fail
            go_ret
            exact ⟨by rw [HE.out]; rfl, hbw'⟩
          · have dy : decide (288230376151711744 ≤ x) = false := by simpa using hy
            have HE : Hid ((l.take (k + 1)).any farB = false) := any_take_succ hlt HT.out (by rw [HXY.out]; simp [farB]; omega)
            clear hy
            go_wp2_with fail
            refine ⟨⟨k + 1, by omega, by push_cast; rfl, HE.out, hbw'⟩, ?_⟩
            simp [intOf]; omega
        · have hke : k = l.length := by omega
          subst hke
          have HF : Hid (l.any farB = false) := by have := HT.out; rwa [List.take_length] at this
          have hS := HS.out.below hbw'
          have HC := total22_any _ l _ (hS.mono hbw'.size)
          clear HT hlt hk hS hbw
          go_wp2_with fail
          refine HC.mono ?_
          rintro e w1 ⟨rfl, rfl⟩
          clear HC
          by_cases hy : 288230376151711744 ≤ total22 l
          · have dy : decide (288230376151711744 ≤ total22 l) = true := by simpa using hy
            have HE : Hid (check22P p l = 220) := by
              rw [Hid, check22P, if_neg HP.out, if_neg hlen, HA.out, if_neg (by simp), HF.out, if_neg (by simp), if_pos hy]
            clear hy
            go_wp2_with fail
            go_ret
            exact ⟨by rw [HE.out]; rfl, hbw'⟩
          · have dy : decide (288230376151711744 ≤ total22 l) = false := by simpa using hy
            have HE : Hid (check22P p l = 0) := by
              rw [Hid, check22P, if_neg HP.out, if_neg hlen, HA.out, if_neg (by simp), HF.out, if_neg (by simp), if_neg hy]
            clear hy
            go_wp2_with fail
            go_ret
            exact ⟨by rw [HE.out]; rfl, hbw'⟩
end Go.Proofs.Ytnpaoekblfflmaa
