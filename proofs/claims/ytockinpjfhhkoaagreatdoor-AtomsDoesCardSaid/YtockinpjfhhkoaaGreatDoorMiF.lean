/- AtomsDoes: the document's small functions walked: MayHeld, Low, Part, Number, Strict, Count, At. -/
import Derived.Test.YtockinpjfhhkoaaGreatDoorAtZb
import Derived.Test.YtockinpjfhhkoaaGreatDoorMiQ
import Derived.Test.YtockinpjfhhkoaaGreatDoorMhB
import Derived.StillTactics
namespace Go.Proofs.YtockinpjfhhkoaaGreatDoor
open Go.RowKit

set_option maxRecDepth 100000 in
theorem mayHeld44_any (on : Bool) (since at_ : Int) (w : World) : Calls Tryz.prog 44 #[.agg #[.bool on, .int .i64 since], .int .i64 at_] w fun e w' => e = .returned (.bool (mayN on since at_)) ∧ Below w.heap.size w w' := by
  have HB1 : Hid (Below w.heap.size w (w.alloc (.cells #[.bool on, .int .i64 since] 27))) := belowA _ _
  cases on with
  | true =>
    have HM : Hid (mayN true since at_ = (decide (0 ≤ since) && decide (since < at_))) := rfl
    cases h0 : decide (0 ≤ since) with
    | false =>
      rw [h0] at HM
      go_enter Tryz.func44, Tryz.ntmps44
      go_wp2_with fail
      all_goals go_ret
      all_goals exact ⟨by rw [HM.out]; rfl, HB1.out⟩
    | true =>
      rw [h0] at HM
      go_enter Tryz.func44, Tryz.ntmps44
      go_wp2_with fail
      all_goals go_ret
      all_goals exact ⟨by rw [HM.out]; rfl, HB1.out⟩
  | false =>
    have HM : Hid (mayN false since at_ = (since == 0)) := rfl
    go_enter Tryz.func44, Tryz.ntmps44
    go_wp2_with fail
    all_goals go_ret
    all_goals exact ⟨by rw [HM.out]; rfl, HB1.out⟩
set_option maxRecDepth 100000 in
set_option maxHeartbeats 2000000 in
theorem low110_any (n p : Int) (w : World) (hp : 1 ≤ p) (hp2 : p ≤ 1048576) (hn : -9223372036854775808 ≤ n) (hn2 : n ≤ 9223372036854775807) :
    Calls Tryz.prog 110 #[.int .i64 n, .int .i64 p] w fun e w' => e = .returned (.int .i64 (n / p)) ∧ w' = w := by
  obtain ⟨T1, T2⟩ := tdiv_floor (n := n) (p := p) (by omega)
  obtain ⟨d1, d2, d3, d4⟩ := div_in64 hp hn hn2
  have hneg : n.tmod p < 0 → n / p < 0 := fun h => by
    have h1 : n < 0 := by
      rcases Int.lt_or_le n 0 with h2 | h2
      · exact h2
      · have := Int.tmod_nonneg p h2; omega
    exact Int.ediv_neg_of_neg_of_pos h1 (by omega)
  obtain ⟨q, hq⟩ : ∃ q, n.tdiv p = q := ⟨_, rfl⟩
  obtain ⟨r, hr⟩ : ∃ r, n.tmod p = r := ⟨_, rfl⟩
  have hrb : -1048576 < r ∧ r < 1048576 := by
    have h1 := Int.tmod_lt_of_pos n (show 0 < p by omega)
    have h2 := Int.lt_tmod_of_pos n (show 0 < p by omega)
    omega
  have hw3 : IntKind.i64.wrap r = r := IntWalk.i64_in _ (by omega)
  have hw3' : wrap64 r = r := IntWalk.wrap64_in _ (by omega)
  rw [hq, hr] at T1 T2
  rw [hr] at hneg
  by_cases h0 : r < 0
  · obtain ⟨e1, e2⟩ := T2 h0
    have hn1 := hneg h0
    rw [← e1] at d1 d2 hn1
    rw [← e1]
    have hw1 : wrap64 q = q := IntWalk.wrap64_in q ⟨by omega, by omega⟩
    have hw2 : wrap64 (q - 1) = q - 1 := IntWalk.wrap64_in _ ⟨by omega, by omega⟩
    have hw4 : IntKind.i64.wrap q = q := IntWalk.i64_in q ⟨by omega, by omega⟩
    have hw5 : IntKind.i64.wrap (q - 1) = q - 1 := IntWalk.i64_in _ ⟨by omega, by omega⟩
    have hd : decide (r < 0) = true := by simpa using h0
    have hpz : (p == 0) = false := by simp; omega
    clear T1 T2 e1 e2 hneg hn1 d1 d2 d3 d4 hrb
    go_enter Tryz.func110, Tryz.ntmps110
    go_wp2_with fail
    all_goals go_ret
    all_goals exact ⟨rfl, rfl⟩
  · obtain ⟨e1, e2⟩ := T1 (by omega)
    rw [← e1] at d1 d2
    rw [← e1]
    have hw1 : wrap64 q = q := IntWalk.wrap64_in q ⟨by omega, by omega⟩
    have hw4 : IntKind.i64.wrap q = q := IntWalk.i64_in q ⟨by omega, by omega⟩
    have hd : decide (r < 0) = false := by simpa using h0
    have hpz : (p == 0) = false := by simp; omega
    clear T1 T2 e1 e2 d1 d2 d3 d4 hneg hrb
    go_enter Tryz.func110, Tryz.ntmps110
    go_wp2_with fail
    all_goals go_ret
    all_goals exact ⟨rfl, rfl⟩
set_option maxRecDepth 100000 in
set_option maxHeartbeats 2000000 in
theorem part111_any (n p : Int) (w : World) (hp : 1 ≤ p) (hp2 : p ≤ 1048576) :
    Calls Tryz.prog 111 #[.int .i64 n, .int .i64 p] w fun e w' => e = .returned (.int .i64 (n % p)) ∧ w' = w := by
  obtain ⟨T1, T2⟩ := tdiv_floor (n := n) (p := p) (by omega)
  have d3 := Int.emod_nonneg n (show p ≠ 0 by omega)
  have d4 := Int.emod_lt_of_pos n (show 0 < p by omega)
  obtain ⟨q, hq⟩ : ∃ q, n.tdiv p = q := ⟨_, rfl⟩
  obtain ⟨r, hr⟩ : ∃ r, n.tmod p = r := ⟨_, rfl⟩
  have hrb : -1048576 < r ∧ r < 1048576 := by
    have h1 := Int.tmod_lt_of_pos n (show 0 < p by omega)
    have h2 := Int.lt_tmod_of_pos n (show 0 < p by omega)
    omega
  have hw3 : IntKind.i64.wrap r = r := IntWalk.i64_in _ (by omega)
  have hw3' : wrap64 r = r := IntWalk.wrap64_in _ (by omega)
  rw [hq, hr] at T1 T2
  have hpz : (p == 0) = false := by simp; omega
  by_cases h0 : r < 0
  · obtain ⟨e1, e2⟩ := T2 h0
    rw [← e2] at d3 d4
    rw [← e2]
    have hw1 : wrap64 (r + p) = r + p := IntWalk.wrap64_in _ ⟨by omega, by omega⟩
    have hw2 : IntKind.i64.wrap (r + p) = r + p := IntWalk.i64_in _ ⟨by omega, by omega⟩
    have hd : decide (r < 0) = true := by simpa using h0
    clear T1 T2 e1 e2 d3 d4 hrb hq
    go_enter Tryz.func111, Tryz.ntmps111
    go_wp2_with fail
    all_goals go_ret
    all_goals exact ⟨rfl, rfl⟩
  · obtain ⟨e1, e2⟩ := T1 (by omega)
    rw [← e2]
    have hd : decide (r < 0) = false := by simpa using h0
    clear T1 T2 e1 e2 d3 d4 hrb hq
    go_enter Tryz.func111, Tryz.ntmps111
    go_wp2_with fail
    all_goals go_ret
    all_goals exact ⟨rfl, rfl⟩
theorem two_floor (b : Int) : (b.tmod 2 = 0 → b.tdiv 2 = b / 2 ∧ b % 2 = 0) ∧ (b.tmod 2 ≠ 0 → (b - 1).tdiv 2 = b / 2 ∧ b % 2 = 1) := by
  obtain ⟨T1, T2⟩ := tdiv_floor (n := b) (p := 2) (by omega)
  obtain ⟨U1, U2⟩ := tdiv_floor (n := b - 1) (p := 2) (by omega)
  have h1 := Int.tmod_lt_of_pos b (show (0 : Int) < 2 by omega)
  have h2 := Int.lt_tmod_of_pos b (show (0 : Int) < 2 by omega)
  have h3 := Int.tmod_lt_of_pos (b - 1) (show (0 : Int) < 2 by omega)
  have h4 := Int.lt_tmod_of_pos (b - 1) (show (0 : Int) < 2 by omega)
  refine ⟨fun h => ?_, fun h => ?_⟩
  · obtain ⟨e1, e2⟩ := T1 (by omega)
    exact ⟨e1, by omega⟩
  · have hb : b % 2 = 1 := by
      rcases Int.lt_or_le (b.tmod 2) 0 with h5 | h5
      · obtain ⟨_, e2⟩ := T2 h5; omega
      · obtain ⟨_, e2⟩ := T1 h5; omega
    refine ⟨?_, hb⟩
    rcases Int.lt_or_le ((b - 1).tmod 2) 0 with h5 | h5
    · obtain ⟨_, e2⟩ := U2 h5; omega
    · obtain ⟨e1, _⟩ := U1 h5; omega
set_option maxRecDepth 100000 in
set_option maxHeartbeats 2000000 in
theorem number213_any (b : Int) (w : World) (h : -9223372036854775807 ≤ b) (h' : b ≤ 9223372036854775807) :
    Calls Tryz.prog 213 #[.int .i64 b] w fun e w' => e = .returned (.int .i64 (b / 2)) ∧ w' = w := by
  obtain ⟨T1, T2⟩ := two_floor b
  have h3 := Int.tmod_lt_of_pos b (show (0 : Int) < 2 by omega)
  have h4 := Int.lt_tmod_of_pos b (show (0 : Int) < 2 by omega)
  obtain ⟨r, hr⟩ : ∃ r, b.tmod 2 = r := ⟨_, rfl⟩
  rw [hr] at T1 T2 h3 h4
  have hw3 : IntKind.i64.wrap r = r := IntWalk.i64_in _ (by omega)
  have hw3' : wrap64 r = r := IntWalk.wrap64_in _ (by omega)
  obtain ⟨q, hq⟩ : ∃ q, b / 2 = q := ⟨_, rfl⟩
  have hqb : -4611686018427387904 ≤ q ∧ q ≤ 4611686018427387904 := by omega
  have hw4 : IntKind.i64.wrap q = q := IntWalk.i64_in _ (by omega)
  have hw4' : wrap64 q = q := IntWalk.wrap64_in _ (by omega)
  have hw5 : IntKind.i64.wrap (b - 1) = b - 1 := IntWalk.i64_in _ (by omega)
  have hw5' : wrap64 (b - 1) = b - 1 := IntWalk.wrap64_in _ (by omega)
  rw [hq] at T1 T2 ⊢
  by_cases h0 : r = 0
  · obtain ⟨e1, _⟩ := T1 h0
    have hd : (r != 0) = false := by simpa using h0
    clear T1 T2 h h' h3 h4 hq hqb h0
    go_enter Tryz.func213, Tryz.ntmps213
    go_wp2_with fail
    all_goals go_ret
    all_goals exact ⟨rfl, rfl⟩
  · obtain ⟨e1, _⟩ := T2 h0
    have hd : (r != 0) = true := by simpa using h0
    clear T1 T2 h h' h3 h4 hq hqb h0
    go_enter Tryz.func213, Tryz.ntmps213
    go_wp2_with fail
    all_goals go_ret
    all_goals exact ⟨rfl, rfl⟩
set_option maxRecDepth 100000 in
theorem strict214_any (b : Int) (w : World) :
    Calls Tryz.prog 214 #[.int .i64 b] w fun e w' => e = .returned (.bool (b % 2 == 0)) ∧ w' = w := by
  obtain ⟨T1, T2⟩ := two_floor b
  have h3 := Int.tmod_lt_of_pos b (show (0 : Int) < 2 by omega)
  have h4 := Int.lt_tmod_of_pos b (show (0 : Int) < 2 by omega)
  obtain ⟨r, hr⟩ : ∃ r, b.tmod 2 = r := ⟨_, rfl⟩
  rw [hr] at T1 T2 h3 h4
  have hw3 : IntKind.i64.wrap r = r := IntWalk.i64_in _ (by omega)
  have hw3' : wrap64 r = r := IntWalk.wrap64_in _ (by omega)
  have HE : Hid ((b % 2 == 0) = (r == 0)) := by
    rw [Hid]
    by_cases h0 : r = 0
    · rw [(T1 h0).2, h0]
    · rw [(T2 h0).2]; simp [h0]
  clear T1 T2 h3 h4
  go_enter Tryz.func214, Tryz.ntmps214
  go_wp2_with fail
  all_goals go_ret
  all_goals exact ⟨by rw [HE.out]; rfl, rfl⟩
end Go.Proofs.YtockinpjfhhkoaaGreatDoor

/- AtomsDoes: the document's Same walked. -/
namespace Go.Proofs.YtockinpjfhhkoaaGreatDoor
open Go.RowKit

/-- A row of numbers that came to be somewhere: its slice, and its cells. -/
def NumS (w : World) (v : Value) (L : List Int) : Prop := ∃ a c, v = .slice a L.length c ∧ (L = [] ∨ ∃ b, a = some ⟨b, 0, none⟩ ∧ b < w.heap.size ∧ ∀ k (h : k < L.length), w.cell? ⟨b, k, none⟩ = some (.int .i64 L[k]))
theorem same_end {L M : List Int} (hl : L.length = M.length) (h : L.take L.length = M.take L.length) : L = M := by
  rw [List.take_length, hl, List.take_length] at h; exact h
set_option maxRecDepth 100000 in
set_option maxHeartbeats 8000000 in
theorem same18_any (v v' : Value) (L M : List Int) (w : World) (h : NumS w v L) (h' : NumS w v' M) (hl : L.length ≤ 1000) (hm : M.length ≤ 1000) :
    Calls Tryz.prog 18 #[v, v'] w fun e w' => e = .returned (.bool (decide (L = M))) ∧ Below w.heap.size w w' := by
  obtain ⟨a, c, rfl, hc⟩ := h
  obtain ⟨a', c', rfl, hc'⟩ := h'
  by_cases hlen : L.length = M.length
  · have hd : ((L.length : Int) != (M.length : Int)) = false := by simp [hlen]
    have HLEN := Lib.hid hlen
    have HC := Lib.hid hc
    have HC' := Lib.hid hc'
    clear hc hc' hlen
    go_enter Tryz.func18, Tryz.ntmps18
    go_wp2_with fail
    go_loopw [5] (fun i wr => ∃ k : Nat, k ≤ L.length ∧ i = .int .i64 k ∧ Hid (L.take k = M.take k) ∧ Hid (wr.heap = w.heap ∧ Below w.heap.size w wr)) (fun i _ => L.length - (intOf i).toNat)
    case atStart => exact ⟨0, Nat.zero_le _, rfl, rfl, rfl, Below.refl _ _⟩
    case round =>
      obtain ⟨k, hk, rfl, HT, HH⟩ := hrel
      by_cases hlt : k < L.length
      · have hlm : k < M.length := by rw [← HLEN.out]; exact hlt
        obtain ⟨b, rfl, hb, hcl⟩ := HC.out.resolve_left (by intro e; rw [e] at hlt; simp at hlt)
        obtain ⟨b', rfl, hb', hcl'⟩ := HC'.out.resolve_left (by intro e; rw [e] at hlm; simp at hlm)
        obtain ⟨x, hx⟩ : ∃ x, L[k] = x := ⟨_, rfl⟩
        obtain ⟨y, hy⟩ : ∃ y, M[k] = y := ⟨_, rfl⟩
        have e0 : wr.cell? ⟨b, k, none⟩ = some (.int .i64 x) := by rw [← hx, ← hcl k hlt]; simp [World.cell?, HH.out.1]
        have e1 : wr.cell? ⟨b', k, none⟩ = some (.int .i64 y) := by rw [← hy, ← hcl' k hlm]; simp [World.cell?, HH.out.1]
        have hi : (k : Int) < (L.length : Int) := by omega
        have hi' : (k : Int) < (M.length : Int) := by omega
        have hi0 : (0 : Int) ≤ (k : Int) := by omega
        have HLT := Lib.hid hlt
        have HXY : Hid (L.take (k + 1) = L.take k ++ [x] ∧ M.take (k + 1) = M.take k ++ [y]) := by
          refine ⟨?_, ?_⟩
          · rw [List.take_succ_eq_append_getElem hlt, hx]
          · rw [List.take_succ_eq_append_getElem hlm, hy]
        have HNE : Hid (x ≠ y → decide (L = M) = false) := by
          intro hne
          rw [decide_eq_false_iff_not]
          intro e
          subst e
          exact hne (hx.symm.trans hy)
        clear hx hy hcl hcl' hb hb'
        by_cases hxy : x = y
        · have hd2 : (x != y) = false := by simpa using hxy
          have HE := Lib.hid hxy
          clear hxy
          go_wp2_with fail
          go_quiet (fail)
          go_wp2_with fail
          go_roundw
          case rel => exact ⟨k + 1, by have := HLT.out; omega, by go_num, by rw [Hid, HXY.out.1, HXY.out.2, HT.out, HE.out], HH.out.1, ⟨HH.out.2.os, HH.out.2.tape, HH.out.2.output, HH.out.2.size, HH.out.2.block⟩⟩
          case measure => simp [intOf]; have := HLT.out; omega
        · have hd2 : (x != y) = true := by simpa using hxy
          have HF := Lib.hid (HNE.out hxy)
          clear hxy
          go_wp2_with fail
          go_quiet (fail)
          go_wp2_with fail
          all_goals go_ret
          all_goals exact ⟨by rw [HF.out]; rfl, ⟨HH.out.2.os, HH.out.2.tape, HH.out.2.output, HH.out.2.size, HH.out.2.block⟩⟩
      · obtain rfl : k = L.length := by omega
        have HE : Hid (decide (L = M) = true) := by
          rw [Hid, decide_eq_true_iff]
          exact same_end HLEN.out HT.out
        go_wp2_with fail
        all_goals go_ret
        all_goals exact ⟨by rw [HE.out]; rfl, HH.out.2⟩
  · have hd : ((L.length : Int) != (M.length : Int)) = true := by simpa using fun e => hlen (by omega)
    have HF : Hid (decide (L = M) = false) := by
      rw [Hid, decide_eq_false_iff_not]
      intro e; exact hlen (by rw [e])
    clear hc hc' hlen
    go_enter Tryz.func18, Tryz.ntmps18
    go_wp2_with fail
    all_goals go_ret
    all_goals exact ⟨by rw [HF.out]; rfl, Below.refl _ _⟩
end Go.Proofs.YtockinpjfhhkoaaGreatDoor
