/- rallentandoref22: Total, Of, SameList. -/
import Derived.Test.YtnpaoekblfflmaaSigF
namespace Go.Proofs.Ytnpaoekblfflmaa
open Go.RowKit Go.Shelf
attribute [local go_sem ↓] Go.wp_at_zero Go.wp_at_succ

def totF : List (Int × Int) → Int → Int
  | [], n => n
  | x :: r, n => if n < 288230376151711744 then totF r (wrap64 (n + x.1)) else n
theorem totF_drop (l : List (Int × Int)) (k : Nat) (n : Int) (h : k < l.length) (hn : n < 288230376151711744) : totF (l.drop k) n = totF (l.drop (k+1)) (wrap64 (n + l[k].1)) := by
  rw [List.drop_eq_getElem_cons h, totF, if_pos hn]
theorem totF_stop (l : List (Int × Int)) (k : Nat) (n : Int) (hn : ¬ n < 288230376151711744) : totF (l.drop k) n = n := by
  cases h : l.drop k with
  | nil => rfl
  | cons x r => rw [totF, if_neg hn]
/-- What the book's Total answers. -/
def total22 (l : List (Int × Int)) : Int := if 288230376151711744 < totF l 0 then 288230376151711744 else totF l 0

set_option maxHeartbeats 400000 in
theorem total22_any (v : Value) (l : List (Int × Int)) (w : World) (hs : Segs w w.heap.size v l) :
    Calls Try.prog 35 #[v] w fun e w' => e = .returned (.int .i64 (total22 l)) ∧ w = w' := by
  obtain ⟨a, cap, rfl, hm, h, hr⟩ := hs
  clear hr
  go_enter Try.func35, Try.ntmps35
  go_wp2
  go_loop [3, 4] (fun n i => ∃ (k : Nat) (m : Int), k ≤ l.length ∧ i = .int .i64 k ∧ n = .int .i64 m ∧ Hid (totF l 0 = totF (l.drop k) m)) (fun _ i => l.length - (intOf i).toNat)
  case atStart => exact ⟨0, 0, Nat.zero_le _, rfl, rfl, rfl⟩
  case round =>
    obtain ⟨k, m, hk, rfl, rfl, hH⟩ := hrel
    by_cases hlt : k < l.length
    · by_cases hm : m < 288230376151711744
      · rcases h with h | ⟨b, off, rfl, hbl, hc⟩
        · rw [h] at hlt; exact absurd hlt (by simp)
        obtain ⟨x, y, hxy⟩ : ∃ x y, l[k] = (x, y) := ⟨_, _, rfl⟩
        obtain ⟨c1, c2⟩ := hc k hlt
        rw [getD_eq l k hlt, hxy] at c1 c2
        dsimp only at c1 c2
        have hD0 := totF_drop l k m hlt hm
        rw [hxy] at hD0
        have hD := Lib.hid hD0
        clear hc hD0 hxy
        go_wp2
        go_round
        case rel => exact ⟨k + 1, _, by omega, by go_num, rfl, hH.out.trans hD.out⟩
        case measure => simp [intOf]; omega
      · have hD := Lib.hid (totF_stop l k m hm)
        clear h
        by_cases hq : 288230376151711744 < m
        · go_wp2
          go_ret
          exact ⟨ret_int (by rw [total22, hH.out, hD.out, if_pos hq]), rfl⟩
        · go_wp2
          go_ret
          exact ⟨ret_int (by rw [total22, hH.out, hD.out, if_neg (by omega)]), rfl⟩
    · have hke : k = l.length := by omega
      have hD : Hid (totF (l.drop k) m = m) := by rw [hke, List.drop_length]; rfl
      clear h
      by_cases hq : 288230376151711744 < m
      · go_wp2
        go_ret
        exact ⟨ret_int (by rw [total22, hH.out, hD.out, if_pos hq]), rfl⟩
      · go_wp2
        go_ret
        exact ⟨ret_int (by rw [total22, hH.out, hD.out, if_neg (by omega)]), rfl⟩

/-- What the book's Of answers. -/
def ofF : List (Int × Int) → Int → Int
  | [], _ => 0
  | x :: r, n => if n < x.1 then x.2 else ofF r (wrap64 (n - x.1))
theorem ofF_drop (l : List (Int × Int)) (k : Nat) (n : Int) (h : k < l.length) : ofF (l.drop k) n = if n < l[k].1 then l[k].2 else ofF (l.drop (k+1)) (wrap64 (n - l[k].1)) := by
  rw [List.drop_eq_getElem_cons h, ofF]

set_option maxHeartbeats 400000 in
theorem of22_any (v : Value) (l : List (Int × Int)) (at_ : Int) (w : World) (hs : Segs w w.heap.size v l) :
    Calls Try.prog 36 #[v, .int .i64 at_] w fun e w' => e = .returned (.int .u8 (ofF l at_)) ∧ w = w' := by
  obtain ⟨a, cap, rfl, hm, h, hr⟩ := hs
  clear hr
  go_enter Try.func36, Try.ntmps36
  go_wp2
  go_loop [1, 5] (fun n i => ∃ (k : Nat) (m : Int), k ≤ l.length ∧ i = .int .i64 k ∧ n = .int .i64 m ∧ Hid (ofF l at_ = ofF (l.drop k) m)) (fun _ i => l.length - (intOf i).toNat)
  case atStart => exact ⟨0, at_, Nat.zero_le _, rfl, rfl, rfl⟩
  case round =>
    obtain ⟨k, m, hk, rfl, rfl, hH⟩ := hrel
    by_cases hlt : k < l.length
    · rcases h with h | ⟨b, off, rfl, hbl, hc⟩
      · rw [h] at hlt; exact absurd hlt (by simp)
      obtain ⟨x, y, hxy⟩ : ∃ x y, l[k] = (x, y) := ⟨_, _, rfl⟩
      obtain ⟨c1, c2⟩ := hc k hlt
      rw [getD_eq l k hlt, hxy] at c1 c2
      dsimp only at c1 c2
      have hD0 := ofF_drop l k m hlt
      rw [hxy] at hD0
      dsimp only at hD0
      by_cases hx : m < x
      · rw [if_pos hx] at hD0
        have hD := Lib.hid hD0
        clear hc hD0 hxy
        go_wp2
        go_ret
        exact ⟨ret_int (by rw [hH.out, hD.out]), rfl⟩
      · rw [if_neg hx] at hD0
        have hD := Lib.hid hD0
        clear hc hD0 hxy
        go_wp2
        go_round
        case rel => exact ⟨k + 1, _, by omega, by go_num, rfl, hH.out.trans hD.out⟩
        case measure => simp [intOf]; omega
    · have hke : k = l.length := by omega
      have hD : Hid (ofF (l.drop k) m = 0) := by rw [hke, List.drop_length]; rfl
      clear h
      go_wp2
      go_ret
      exact ⟨ret_int (by rw [hH.out, hD.out]), rfl⟩

@[local go_sem] theorem eq39 (a b c d : Int) (w : World) : (Op.equalIn 10000 39 (.agg #[.int .i64 a, .int .u8 b]) (.agg #[.int .i64 c, .int .u8 d])).run Try.prog w = .ok (a == c && b == d) w := by
  have u3 := Try.underlying3
  have a3 := Try.isAgg3
  have z3 := Try.sizeOf3
  have u5 := Try.underlying5
  have a5 := Try.isAgg5
  have z5 := Try.sizeOf5
  have hS : Try.prog.underlying 39 = some (.struct (Try.prog.fieldsOf 39)) := by kernel_rfl
  have hp : Try.prog.stoodInHeld 39 = false := by kernel_rfl
  rw [show (10000 : Nat) = 9999 + 1 from rfl, run_equalIn_agg w 9999 39 _ _ hS hp]
  simp only [Program.fieldsOf, Try.underlying39]
  go_simp
  by_cases h1 : a = c <;> by_cases h2 : b = d <;> simp [h1, h2]
theorem take_succ_eq {l r : List (Int × Int)} {k : Nat} (h1 : k < l.length) (h2 : k < r.length) (ht : l.take k = r.take k) (he : l[k] = r[k]) : l.take (k + 1) = r.take (k + 1) := by
  rw [List.take_succ_eq_append_getElem h1, List.take_succ_eq_append_getElem h2, ht, he]

set_option maxHeartbeats 1000000 in
theorem sameList_any (v v' : Value) (l r : List (Int × Int)) (w : World) (hs : Segs w w.heap.size v l) (hs' : Segs w w.heap.size v' r) :
    Calls Try.prog 18 #[v, v'] w fun e w' => e = .returned (.bool (decide (l = r))) ∧ Below w.heap.size w w' := by
  obtain ⟨a, cap, rfl, hm, h, hr⟩ := hs
  obtain ⟨a', cap', rfl, hm', h', hr'⟩ := hs'
  clear hr hr'
  by_cases hlen : l.length = r.length
  · have hl0 : ((l.length : Int) == (r.length : Int)) = true := by simp [hlen]
    go_enter Try.func18, Try.ntmps18
    go_wp2_with fail
    go_loopw [5] (fun i wr => ∃ (k : Nat), k ≤ l.length ∧ i = .int .i64 k ∧ l.take k = r.take k ∧ Below w.heap.size w wr) (fun i _ => l.length - (intOf i).toNat)
    case atStart => exact ⟨0, Nat.zero_le _, rfl, rfl, Below.refl _ _⟩
    case round =>
      obtain ⟨k, hk, rfl, ht, hbw⟩ := hrel
      by_cases hlt : k < l.length
      · have hlt' : k < r.length := by omega
        rcases h with h | ⟨b, off, rfl, hbl, hc⟩
        · rw [h] at hlt; exact absurd hlt (by simp)
        rcases h' with h' | ⟨b', off', rfl, hbl', hc'⟩
        · rw [h'] at hlt'; exact absurd hlt' (by simp)
        obtain ⟨x, y, hxy⟩ : ∃ x y, l[k] = (x, y) := ⟨_, _, rfl⟩
        obtain ⟨x', y', hxy'⟩ : ∃ x y, r[k] = (x, y) := ⟨_, _, rfl⟩
        obtain ⟨c1, c2⟩ := (hc.below hbw hbl) k hlt
        obtain ⟨c1', c2'⟩ := (hc'.below hbw hbl') k hlt'
        rw [getD_eq l k hlt, hxy] at c1 c2
        rw [getD_eq r k hlt', hxy'] at c1' c2'
        dsimp only at c1 c2 c1' c2'
        have HT := Lib.hid ht
        clear ht
        have hlti : (k : Int) < (r.length : Int) := by omega
        by_cases he : x = x' ∧ y = y'
        · obtain ⟨rfl, rfl⟩ := he
          have HE := Lib.hid (take_succ_eq hlt hlt' HT.out (hxy.trans hxy'.symm))
          clear hc hc' hxy hxy'
          go_wp2_with fail
          go_quiet (fail)
          go_wp2_with fail
          refine ⟨⟨k + 1, by omega, by push_cast; rfl, HE.out, below_drewN hbw _⟩, ?_⟩
          simp [intOf]; omega
        · have HE : Hid (decide (l = r) = false) := by
            refine decide_eq_false fun h => ?_
            subst h
            rw [hxy] at hxy'
            injection hxy' with h1 h2
            exact he ⟨h1, h2⟩
          by_cases h1 : x = x'
          · have h2 : (y == y') = false := by simpa using fun h2 => he ⟨h1, h2⟩
            subst h1
            clear hc hc' hxy hxy' he
            go_wp2_with fail
            go_quiet (fail)
            go_wp2_with fail
            go_ret
            exact ⟨by rw [HE.out]; rfl, below_drewN hbw _⟩
          · have h2 : (x == x') = false := by simpa using h1
            clear hc hc' hxy hxy' he h1
            go_wp2_with fail
            go_quiet (fail)
            go_wp2_with fail
            go_ret
            exact ⟨by rw [HE.out]; rfl, below_drewN hbw _⟩
      · have hke : k = l.length := by omega
        have hke' : k = r.length := by omega
        have HE : Hid (decide (l = r) = true) := by
          have h3 := ht
          rw [hke, List.take_length, hlen, List.take_length] at h3
          exact decide_eq_true h3
        subst hke
        clear h h' hlt ht hk hke'
        go_wp2_with fail
        go_ret
        exact ⟨by rw [HE.out]; rfl, hbw⟩
  · have hl0 : ((l.length : Int) == (r.length : Int)) = false := by
      simp; omega
    have hl1 : ((l.length : Int) != (r.length : Int)) = true := by simp; omega
    have HE : Hid (decide (l = r) = false) := decide_eq_false fun h => hlen (by rw [h])
    clear h h' hlen
    go_enter Try.func18, Try.ntmps18
    go_wp2_with fail
    go_ret
    exact ⟨by rw [HE.out]; rfl, Below.refl _ _⟩
end Go.Proofs.Ytnpaoekblfflmaa
