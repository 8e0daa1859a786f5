/- AtomsDoes: the document's Compared walked. (Printed by gen_dok.py.) -/
import Derived.Deep.RegionHeld
import Derived.Deep.Cut
import Derived.Test.YtockinpjfhhkoaaGreatDoorMiF
import Derived.Test.YtockinpjfhhkoaaGreatDoorMiM
import Derived.Test.YtockinpjfhhkoaaGreatDoorAtV
import Derived.LoopTactic
namespace Go.Proofs.YtockinpjfhhkoaaGreatDoor
open Go.RowKit

def sgn2 (u v : Int) : Int := if u < v then -1 else if u > v then 1 else 0
set_option maxRecDepth 100000 in
set_option maxHeartbeats 8000000 in
theorem compared166_any {a p b q : Int} (w : World) (ia : in64 a) (ib : in64 b) (a1 : 1 ≤ p) (a2 : p ≤ 1048576) (b1 : 1 ≤ q) (b2 : q ≤ 1048576) :
    Calls Tryz.prog 166 #[.agg #[.int .i64 a, .int .i64 p], .agg #[.int .i64 b, .int .i64 q]] w fun e w' => e = .returned (.int .i64 (cmpR (a, p) (b, q))) ∧ Below w.heap.size w w' := by
  obtain ⟨W2, hW2⟩ : ∃ W2, W2 = (w.alloc (.cells #[.int .i64 a, .int .i64 p] 50)).alloc (.cells #[.int .i64 b, .int .i64 q] 50) := ⟨_, rfl⟩
  have hb2 : Below w.heap.size w W2 := by rw [hW2]; exact (belowA _ _).alloc (by simp) _
  have k0 : W2.heap[w.heap.size]? = some (.cells #[.int .i64 a, .int .i64 p] 50 (0, 0)) := by rw [hW2]; exact (Below.heap_alloc _ _ _ (by simp)).trans (hp_topA rfl)
  have k1 : W2.heap[w.heap.size + 1]? = some (.cells #[.int .i64 b, .int .i64 q] 50 (0, 0)) := by rw [hW2]; exact hp_topA (by simp)
  have HS : Hid (∀ W, Below W2.heap.size W2 W → W.cell? ⟨w.heap.size, 0, none⟩ = some (.int .i64 a) ∧ W.cell? ⟨w.heap.size, 1, none⟩ = some (.int .i64 p) ∧ W.cell? ⟨w.heap.size + 1, 0, none⟩ = some (.int .i64 b) ∧ W.cell? ⟨w.heap.size + 1, 1, none⟩ = some (.int .i64 q) ∧ w.heap.size < W.heap.size ∧ w.heap.size + 1 < W.heap.size) := by
    intro W hW
    have m0 := (hW.block _ (Array.getElem?_eq_some_iff.1 k0).1).trans k0
    have m1 := (hW.block _ (Array.getElem?_eq_some_iff.1 k1).1).trans k1
    exact ⟨Lib.cell_of_heap m0 0, Lib.cell_of_heap m0 1, Lib.cell_of_heap m1 0, Lib.cell_of_heap m1 1, (Array.getElem?_eq_some_iff.1 m0).1, (Array.getElem?_eq_some_iff.1 m1).1⟩
  have HB := Lib.hid hb2
  have HW2 := Lib.hid hW2.symm
  clear hW2 hb2 k0 k1
  have H1 := fun W => Lib.hid ((low110_any a p W a1 a2 ia.1 ia.2).mono fun e w' h => (⟨h.1, h.2 ▸ Below.refl _ _⟩ : _ ∧ Below W.heap.size W w'))
  have H2 := fun W => Lib.hid ((low110_any b q W b1 b2 ib.1 ib.2).mono fun e w' h => (⟨h.1, h.2 ▸ Below.refl _ _⟩ : _ ∧ Below W.heap.size W w'))
  have H3 := fun W => Lib.hid ((part111_any a p W a1 a2).mono fun e w' h => (⟨h.1, h.2 ▸ Below.refl _ _⟩ : _ ∧ Below W.heap.size W w'))
  have H4 := fun W => Lib.hid ((part111_any b q W b1 b2).mono fun e w' h => (⟨h.1, h.2 ▸ Below.refl _ _⟩ : _ ∧ Below W.heap.size W w'))
  have hw1 := part_small (a := a) a1 a2 b1 b2
  have hw2 := part_small (a := b) b1 b2 a1 a2
  have HQ : Hid (cmpR (a, p) (b, q) = if a / p = b / q then sgn2 ((a % p) * q) ((b % q) * p) else sgn2 (a / p) (b / q)) := rfl
  obtain ⟨s, hs⟩ : ∃ s, a / p = s := ⟨_, rfl⟩
  obtain ⟨t, ht⟩ : ∃ t, b / q = t := ⟨_, rfl⟩
  obtain ⟨m, hm⟩ : ∃ m, a % p = m := ⟨_, rfl⟩
  obtain ⟨k, hk⟩ : ∃ k, b % q = k := ⟨_, rfl⟩
  rw [hs] at H1 HQ
  rw [ht] at H2 HQ
  rw [hm] at H3 hw1 HQ
  rw [hk] at H4 hw2 HQ
  obtain ⟨u, hu⟩ : ∃ u, m * q = u := ⟨_, rfl⟩
  obtain ⟨v, hv⟩ : ∃ v, k * p = v := ⟨_, rfl⟩
  rw [hu] at hw1 HQ
  rw [hv] at hw2 HQ
  have hw1' : wrap64 (m * q) = u := by rw [hu]; exact (IntWalk.i64_left u).symm.trans hw1
  have hw2' : wrap64 (k * p) = v := by rw [hv]; exact (IntWalk.i64_left v).symm.trans hw2
  have hv1 : IntKind.i64.wrap (m * q) = u := by rw [hu]; exact hw1
  have hv2 : IntKind.i64.wrap (k * p) = v := by rw [hv]; exact hw2
  clear ia ib a1 a2 b1 b2 hs ht hm hk hu hv
  go_enter Tryz.func166, Tryz.ntmps166
  go_upto_region 1 with fail
  rw [HW2.out]
  clear HW2
  obtain ⟨x0, x1, x2, x3, xl, xm⟩ := HS.out W2 (Below.refl _ _)
  go_wp2_with fail
  refine (H1 _).out.mono ?_
  rintro e w1 ⟨rfl, hb1⟩
  have HB1 : Hid (Below W2.heap.size W2 w1) := hb1
  clear hb1 x0 x1 x2 x3 xl xm
  obtain ⟨x0, x1, x2, x3, xl, xm⟩ := HS.out w1 HB1.out
  go_wp2_with fail
  refine (H2 _).out.mono ?_
  rintro e w2 ⟨rfl, hb2⟩
  have HB2 : Hid (Below W2.heap.size W2 w2) := belS HB1.out hb2
  clear hb2 x0 x1 x2 x3 xl xm
  by_cases hst : s = t
  · have hd : (s == t) = true := by simpa using hst
    rw [if_pos hst] at HQ
    clear hst
    go_upto_region 4 with fail
    refine wp_region_held_drew (S := fun W => W.cell? ⟨w.heap.size, 0, none⟩ = some (.int .i64 a) ∧ W.cell? ⟨w.heap.size, 1, none⟩ = some (.int .i64 p) ∧ W.cell? ⟨w.heap.size + 1, 0, none⟩ = some (.int .i64 b) ∧ W.cell? ⟨w.heap.size + 1, 1, none⟩ = some (.int .i64 q) ∧ w.heap.size < W.heap.size ∧ w.heap.size + 1 < W.heap.size) (by kernel_rfl) (HS.out _ HB2.out.drew) (fun hHeld => ?_)
    refine wpAnyH_take (i := 0) (v := ?_) rfl (by kernel_rfl) (by kernel_rfl) (by kernel_rfl) (fun _ _ _ h => h) (Or.inl ⟨by kernel_rfl, ?_⟩) (by assumption) ?_
    rotate_left
    · (intro w hSw; (try dsimp only at hSw); go_simp)
      try with_reducible rfl
    try simp only [Act.put, List.setIfInBounds_toArray, List.set_cons_zero, List.set_cons_succ, List.getElem_toArray, List.getElem_cons_zero]
    refine wpAnyH_take (i := 1) (v := ?_) rfl (by kernel_rfl) (by kernel_rfl) (by kernel_rfl) (fun _ _ _ h => h) (Or.inl ⟨by kernel_rfl, ?_⟩) (by assumption) ?_
    rotate_left
    · (intro w hSw; (try dsimp only at hSw); go_simp)
      try with_reducible rfl
    try simp only [Act.put, List.setIfInBounds_toArray, List.set_cons_zero, List.set_cons_succ, List.getElem_toArray, List.getElem_cons_zero, List.getElem_cons_succ]
    refine wpAnyH_take (i := 2) (v := ?_) rfl (by kernel_rfl) (by kernel_rfl) (by kernel_rfl) (fun _ _ _ h => h) (Or.inl ⟨by kernel_rfl, ?_⟩) (by assumption) ?_
    rotate_left
    · (intro w hSw; (try dsimp only at hSw); go_simp)
      try with_reducible rfl
    try simp only [Act.put, List.setIfInBounds_toArray, List.set_cons_zero, List.set_cons_succ, List.getElem_toArray, List.getElem_cons_zero, List.getElem_cons_succ]
    refine wpAnyH_take (i := 3) (v := ?_) rfl (by kernel_rfl) (by kernel_rfl) (by kernel_rfl) (fun _ _ _ h => h) (Or.inl ⟨by kernel_rfl, ?_⟩) (by assumption) ?_
    rotate_left
    · (intro w hSw; (try dsimp only at hSw); go_simp)
      try with_reducible rfl
    try simp only [Act.put, List.setIfInBounds_toArray, List.set_cons_zero, List.set_cons_succ, List.getElem_toArray, List.getElem_cons_zero, List.getElem_cons_succ]
    refine wpAnyH_take (i := 5) (v := ?_) rfl (by kernel_rfl) (by kernel_rfl) (by kernel_rfl) (fun _ _ _ h => h) (Or.inl ⟨by kernel_rfl, ?_⟩) (by assumption) ?_
    rotate_left
    · (intro w hSw; (try dsimp only at hSw); go_simp)
      try with_reducible rfl
    try simp only [Act.put, List.setIfInBounds_toArray, List.set_cons_zero, List.set_cons_succ, List.getElem_toArray, List.getElem_cons_zero, List.getElem_cons_succ]
    refine wpAnyH_take (i := 6) (v := ?_) rfl (by kernel_rfl) (by kernel_rfl) (by kernel_rfl) (fun _ _ _ h => h) (Or.inl ⟨by kernel_rfl, ?_⟩) (by assumption) ?_
    rotate_left
    · (intro w hSw; (try dsimp only at hSw); go_simp)
      try with_reducible rfl
    try simp only [Act.put, List.setIfInBounds_toArray, List.set_cons_zero, List.set_cons_succ, List.getElem_toArray, List.getElem_cons_zero, List.getElem_cons_succ]
    refine wpAnyH_ready (rs := [4]) (by kernel_rfl) (by simp) ?_
    refine AllReadyH.cons rfl (fun K hK => ?_) AllReadyH.nil
    go_simp
    go_at_call 111
    refine (H3 _).out.mono ?_
    rintro e wc ⟨rfl, hbc⟩
    have HBc : Hid (Below W2.heap.size W2 wc) := belS HB2.out.drew hbc
    clear hbc
    try dsimp only
    refine hK.out _ _ (HS.out _ HBc.out) (fun hHeld => ?_)
    clear hK K
    try simp only [Act.put, List.setIfInBounds_toArray, List.set_cons_zero, List.set_cons_succ, List.getElem_toArray, List.getElem_cons_zero, List.getElem_cons_succ]
    refine wpAnyH_take (i := 7) (v := ?_) rfl (by kernel_rfl) (by kernel_rfl) (by kernel_rfl) (fun _ _ _ h => h) (Or.inl ⟨by kernel_rfl, ?_⟩) (by assumption) ?_
    rotate_left
    · (intro w hSw; (try dsimp only at hSw); go_simp)
      try with_reducible rfl
    try simp only [Act.put, List.setIfInBounds_toArray, List.set_cons_zero, List.set_cons_succ, List.getElem_toArray, List.getElem_cons_zero, List.getElem_cons_succ]
    refine wpAnyH_take (i := 8) (v := ?_) rfl (by kernel_rfl) (by kernel_rfl) (by kernel_rfl) (fun _ _ _ h => h) (Or.inl ⟨by kernel_rfl, ?_⟩) (by assumption) ?_
    rotate_left
    · (intro w hSw; (try dsimp only at hSw); go_simp)
      try with_reducible rfl
    try simp only [Act.put, List.setIfInBounds_toArray, List.set_cons_zero, List.set_cons_succ, List.getElem_toArray, List.getElem_cons_zero, List.getElem_cons_succ]
    refine wpAnyH_done (by kernel_rfl) ?_ _
    clear hHeld
    go_upto_region 5 with fail
    refine wp_region_held_drew (S := fun W => W.cell? ⟨w.heap.size, 0, none⟩ = some (.int .i64 a) ∧ W.cell? ⟨w.heap.size, 1, none⟩ = some (.int .i64 p) ∧ W.cell? ⟨w.heap.size + 1, 0, none⟩ = some (.int .i64 b) ∧ W.cell? ⟨w.heap.size + 1, 1, none⟩ = some (.int .i64 q) ∧ w.heap.size < W.heap.size ∧ w.heap.size + 1 < W.heap.size) (by kernel_rfl) (HS.out _ HBc.out.drew) (fun hHeld => ?_)
    refine wpAnyH_take (i := 0) (v := ?_) rfl (by kernel_rfl) (by kernel_rfl) (by kernel_rfl) (fun _ _ _ h => h) (Or.inl ⟨by kernel_rfl, ?_⟩) (by assumption) ?_
    rotate_left
    · (intro w hSw; (try dsimp only at hSw); go_simp)
      try with_reducible rfl
    try simp only [Act.put, List.setIfInBounds_toArray, List.set_cons_zero, List.set_cons_succ, List.getElem_toArray, List.getElem_cons_zero]
    refine wpAnyH_take (i := 1) (v := ?_) rfl (by kernel_rfl) (by kernel_rfl) (by kernel_rfl) (fun _ _ _ h => h) (Or.inl ⟨by kernel_rfl, ?_⟩) (by assumption) ?_
    rotate_left
    · (intro w hSw; (try dsimp only at hSw); go_simp)
      try with_reducible rfl
    try simp only [Act.put, List.setIfInBounds_toArray, List.set_cons_zero, List.set_cons_succ, List.getElem_toArray, List.getElem_cons_zero, List.getElem_cons_succ]
    refine wpAnyH_take (i := 2) (v := ?_) rfl (by kernel_rfl) (by kernel_rfl) (by kernel_rfl) (fun _ _ _ h => h) (Or.inl ⟨by kernel_rfl, ?_⟩) (by assumption) ?_
    rotate_left
    · (intro w hSw; (try dsimp only at hSw); go_simp)
      try with_reducible rfl
    try simp only [Act.put, List.setIfInBounds_toArray, List.set_cons_zero, List.set_cons_succ, List.getElem_toArray, List.getElem_cons_zero, List.getElem_cons_succ]
    refine wpAnyH_take (i := 3) (v := ?_) rfl (by kernel_rfl) (by kernel_rfl) (by kernel_rfl) (fun _ _ _ h => h) (Or.inl ⟨by kernel_rfl, ?_⟩) (by assumption) ?_
    rotate_left
    · (intro w hSw; (try dsimp only at hSw); go_simp)
      try with_reducible rfl
    try simp only [Act.put, List.setIfInBounds_toArray, List.set_cons_zero, List.set_cons_succ, List.getElem_toArray, List.getElem_cons_zero, List.getElem_cons_succ]
    refine wpAnyH_take (i := 5) (v := ?_) rfl (by kernel_rfl) (by kernel_rfl) (by kernel_rfl) (fun _ _ _ h => h) (Or.inl ⟨by kernel_rfl, ?_⟩) (by assumption) ?_
    rotate_left
    · (intro w hSw; (try dsimp only at hSw); go_simp)
      try with_reducible rfl
    try simp only [Act.put, List.setIfInBounds_toArray, List.set_cons_zero, List.set_cons_succ, List.getElem_toArray, List.getElem_cons_zero, List.getElem_cons_succ]
    refine wpAnyH_take (i := 6) (v := ?_) rfl (by kernel_rfl) (by kernel_rfl) (by kernel_rfl) (fun _ _ _ h => h) (Or.inl ⟨by kernel_rfl, ?_⟩) (by assumption) ?_
    rotate_left
    · (intro w hSw; (try dsimp only at hSw); go_simp)
      try with_reducible rfl
    try simp only [Act.put, List.setIfInBounds_toArray, List.set_cons_zero, List.set_cons_succ, List.getElem_toArray, List.getElem_cons_zero, List.getElem_cons_succ]
    refine wpAnyH_ready (rs := [4]) (by kernel_rfl) (by simp) ?_
    refine AllReadyH.cons rfl (fun K hK => ?_) AllReadyH.nil
    go_simp
    go_at_call 111
    refine (H4 _).out.mono ?_
    rintro e wd ⟨rfl, hbd⟩
    have HBd : Hid (Below W2.heap.size W2 wd) := belS HBc.out.drew hbd
    clear hbd
    try dsimp only
    refine hK.out _ _ (HS.out _ HBd.out) (fun hHeld => ?_)
    clear hK K
    try simp only [Act.put, List.setIfInBounds_toArray, List.set_cons_zero, List.set_cons_succ, List.getElem_toArray, List.getElem_cons_zero, List.getElem_cons_succ]
    refine wpAnyH_take (i := 7) (v := ?_) rfl (by kernel_rfl) (by kernel_rfl) (by kernel_rfl) (fun _ _ _ h => h) (Or.inl ⟨by kernel_rfl, ?_⟩) (by assumption) ?_
    rotate_left
    · (intro w hSw; (try dsimp only at hSw); go_simp)
      try with_reducible rfl
    try simp only [Act.put, List.setIfInBounds_toArray, List.set_cons_zero, List.set_cons_succ, List.getElem_toArray, List.getElem_cons_zero, List.getElem_cons_succ]
    refine wpAnyH_take (i := 8) (v := ?_) rfl (by kernel_rfl) (by kernel_rfl) (by kernel_rfl) (fun _ _ _ h => h) (Or.inl ⟨by kernel_rfl, ?_⟩) (by assumption) ?_
    rotate_left
    · (intro w hSw; (try dsimp only at hSw); go_simp)
      try with_reducible rfl
    try simp only [Act.put, List.setIfInBounds_toArray, List.set_cons_zero, List.set_cons_succ, List.getElem_toArray, List.getElem_cons_zero, List.getElem_cons_succ]
    refine wpAnyH_done (by kernel_rfl) ?_ _
    clear hHeld
    by_cases h1 : u < v
    · have e1 : decide (u < v) = true := by simpa using h1
      have HV : Hid (sgn2 u v = -1) := if_pos h1
      clear h1
      go_wp2_with fail
      all_goals go_ret
      all_goals exact ⟨by rw [HQ.out, HV.out]; rfl, HB.out.trans (HBd.out.mono HB.out.size)⟩
    · have e1 : decide (u < v) = false := by simpa using h1
      by_cases h2 : v < u
      · have e2 : decide (v < u) = true := by simpa using h2
        have HV : Hid (sgn2 u v = 1) := by rw [Hid, sgn2, if_neg h1, if_pos h2]
        clear h1 h2
        go_wp2_with fail
        all_goals go_ret
        all_goals exact ⟨by rw [HQ.out, HV.out]; rfl, HB.out.trans (HBd.out.mono HB.out.size)⟩
      · have e2 : decide (v < u) = false := by simpa using h2
        have HV : Hid (sgn2 u v = 0) := by rw [Hid, sgn2, if_neg h1, if_neg h2]
        clear h1 h2
        go_wp2_with fail
        all_goals go_ret
        all_goals exact ⟨by rw [HQ.out, HV.out]; rfl, HB.out.trans (HBd.out.mono HB.out.size)⟩
  · have hd : (s == t) = false := by simpa using hst
    rw [if_neg hst] at HQ
    clear hst
    by_cases h1 : s < t
    · have e1 : decide (s < t) = true := by simpa using h1
      have HV : Hid (sgn2 s t = -1) := if_pos h1
      clear h1
      go_wp2_with fail
      all_goals go_ret
      all_goals exact ⟨by rw [HQ.out, HV.out]; rfl, HB.out.trans (HB2.out.mono HB.out.size)⟩
    · have e1 : decide (s < t) = false := by simpa using h1
      by_cases h2 : t < s
      · have e2 : decide (t < s) = true := by simpa using h2
        have HV : Hid (sgn2 s t = 1) := by rw [Hid, sgn2, if_neg h1, if_pos h2]
        clear h1 h2
        go_wp2_with fail
        all_goals go_ret
        all_goals exact ⟨by rw [HQ.out, HV.out]; rfl, HB.out.trans (HB2.out.mono HB.out.size)⟩
      · have e2 : decide (t < s) = false := by simpa using h2
        have HV : Hid (sgn2 s t = 0) := by rw [Hid, sgn2, if_neg h1, if_neg h2]
        clear h1 h2
        go_wp2_with fail
        all_goals go_ret
        all_goals exact ⟨by rw [HQ.out, HV.out]; rfl, HB.out.trans (HB2.out.mono HB.out.size)⟩
end Go.Proofs.YtockinpjfhhkoaaGreatDoor

/- AtomsDoes: the document's fractions walked: common, alone, May, Floor. (Printed by gen_dom.py.) -/
namespace Go.Proofs.YtockinpjfhhkoaaGreatDoor
open Go.RowKit

set_option maxRecDepth 100000 in
set_option maxHeartbeats 16000000 in
theorem common180_any (a b : Nat) (w : World) (ha : a < 9223372036854775808) (hb : b < 9223372036854775808) :
    Calls Tryz.prog 180 #[.int .i64 (a : Nat), .int .i64 (b : Nat)] w fun e w' => e = .returned (.int .i64 (Nat.gcd a b : Nat)) ∧ Below w.heap.size w w' := by
  obtain ⟨G, hG0⟩ : ∃ G, Nat.gcd a b = G := ⟨_, rfl⟩
  have H0 := Lib.hid hG0
  rw [hG0]
  clear hG0
  go_enter Tryz.func180, Tryz.ntmps180
  go_wp2_with fail
  go_loopw [0, 1] (fun x y wr => ∃ c d : Nat, x = .int .i64 c ∧ y = .int .i64 d ∧ c < 9223372036854775808 ∧ d < 9223372036854775808 ∧ Hid (Nat.gcd c d = G) ∧ Below w.heap.size w wr) (fun _ y _ => (intOf y).toNat)
  case atStart => exact ⟨a, b, rfl, rfl, ha, hb, H0, Below.refl _ _⟩
  case round =>
    obtain ⟨c, d, rfl, rfl, hc, hd, hG, hbw⟩ := hrel
    by_cases h0 : 0 < d
    · have hl := Nat.mod_lt c h0
      have hG2 : Hid (Nat.gcd d (c % d) = G) := by rw [Hid, ← hG.out, Nat.gcd_comm c d, Nat.gcd_rec d c, Nat.gcd_comm]
      have hm : (c : Int).tmod (d : Int) = ((c % d : Nat) : Int) := by rw [Int.tmod_eq_emod_of_nonneg (by omega)]; omega
      obtain ⟨m, hm2⟩ : ∃ m, c % d = m := ⟨_, rfl⟩
      rw [hm2] at hl hG2 hm
      have hw1 : IntKind.i64.wrap (m : Int) = m := IntWalk.i64_in _ (by omega)
      have hw2 : wrap64 (m : Int) = m := IntWalk.wrap64_in _ (by omega)
      have hne : ((d : Int) != 0) = true := by simp; omega
      have hz : ((d : Int) == 0) = false := by simp; omega
      clear hG H0 hm2
      go_wp2_with fail
      go_quiet (fail)
      go_wp2_with fail
      refine ⟨⟨d, m, rfl, rfl, hd, by omega, hG2, below_drewN hbw _⟩, ?_⟩
      simp [intOf]
      omega
    · have hd0 : d = 0 := by omega
      subst hd0
      have hc0 : Hid (c = G) := by rw [Hid, ← hG.out]; simp
      clear hG H0
      go_wp2_with fail
      go_ret
      exact ⟨by rw [hc0.out]; rfl, hbw⟩
set_option maxRecDepth 100000 in
set_option maxHeartbeats 16000000 in
theorem alone109_any (a : Int) (p : Nat) (w : World) (hp : 1 ≤ p) (hp2 : p ≤ 1048576) :
    Calls Tryz.prog 109 #[.agg #[.int .i64 a, .int .i64 (p : Nat)]] w fun e w' => e = .returned (.bool (Nat.gcd a.natAbs p == 1)) ∧ Below w.heap.size w w' := by
  obtain ⟨WB, hWWB⟩ : ∃ WB, WB = w.alloc (.cells #[.int .i64 a, .int .i64 (p : Nat)] 50) := ⟨_, rfl⟩
  have hbWB : Below w.heap.size w WB := by rw [hWWB]; exact belowA _ _
  have hx0 : WB.heap[w.heap.size]? = some (.cells #[.int .i64 a, .int .i64 (p : Nat)] 50 (0, 0)) := by rw [hWWB]; exact hp_topA rfl
  have HX : Hid (∀ W, Below WB.heap.size WB W → W.heap[w.heap.size]? = some (.cells #[.int .i64 a, .int .i64 (p : Nat)] 50 (0, 0))) := fun W hW => (hW.block _ (Array.getElem?_eq_some_iff.1 hx0).1).trans hx0
  have HF : Hid (∀ W, Below WB.heap.size WB W → W.cell? ⟨w.heap.size, 0, none⟩ = some (.int .i64 a) ∧ W.cell? ⟨w.heap.size, 1, none⟩ = some (.int .i64 (p : Nat)) ∧ w.heap.size < W.heap.size) := by
    intro W hW
    have k0 := HX.out W hW
    exact ⟨Lib.cell_of_heap k0 0, Lib.cell_of_heap k0 1, (Array.getElem?_eq_some_iff.1 k0).1⟩
  have HBB := Lib.hid hbWB
  have HWB := Lib.hid hWWB.symm
  clear hWWB hbWB hx0
  have h0 := Int.emod_nonneg a (show (p : Int) ≠ 0 by omega)
  have h1 := Int.emod_lt_of_pos a (show (0 : Int) < p by omega)
  obtain ⟨r, hr⟩ : ∃ r : Nat, a % p = r := ⟨(a % p).toNat, by omega⟩
  have hgp := gcd_part a p
  rw [hr, Int.natAbs_natCast, Int.natAbs_natCast] at hgp
  obtain ⟨G, hG⟩ : ∃ G, Nat.gcd r p = G := ⟨_, rfl⟩
  have H1 := fun W => Lib.hid ((part111_any a p W (by omega) (by omega)).mono fun e w' h => (⟨h.1, h.2 ▸ Below.refl _ _⟩ : _ ∧ Below W.heap.size W w'))
  have H2 := fun W => Lib.hid (common180_any r p W (by omega) (by omega))
  rw [hr] at H1
  rw [hG] at H2 hgp
  have HP : Hid ((Nat.gcd a.natAbs p == 1) = ((G : Int) == 1)) := by
    rw [Hid, ← hgp, Bool.eq_iff_iff]; simp; omega
  clear h0 h1 hr hgp hG hp hp2
  go_enter Tryz.func109, Tryz.ntmps109
  go_upto_region 1 with fail
  rw [HWB.out]
  refine wp_region_held_drew (S := fun W => W.cell? ⟨w.heap.size, 0, none⟩ = some (.int .i64 a) ∧ W.cell? ⟨w.heap.size, 1, none⟩ = some (.int .i64 (p : Nat)) ∧ w.heap.size < W.heap.size) (by kernel_rfl) (HF.out _ (Below.refl WB.heap.size WB).drew) (fun hHeld => ?_)
  refine wpAnyH_take (i := 0) (v := ?_) rfl (by kernel_rfl) (by kernel_rfl) (by kernel_rfl) (fun _ _ _ h => h) (Or.inl ⟨by kernel_rfl, ?_⟩) (by assumption) ?_
  rotate_left
  · (intro w hSw; (try dsimp only at hSw); go_simp)
    try with_reducible rfl
  try simp only [Act.put, List.setIfInBounds_toArray, List.set_cons_zero, List.set_cons_succ, List.getElem_toArray, List.getElem_cons_zero]
  refine wpAnyH_take (i := 1) (v := ?_) rfl (by kernel_rfl) (by kernel_rfl) (by kernel_rfl) (fun _ _ _ h => h) (Or.inl ⟨by kernel_rfl, ?_⟩) (by assumption) ?_
  rotate_left
  · (intro w hSw; (try dsimp only at hSw); go_simp)
    try with_reducible rfl
  try simp only [Act.put, List.setIfInBounds_toArray, List.set_cons_zero, List.set_cons_succ, List.getElem_toArray, List.getElem_cons_zero, List.getElem_cons_succ]
  refine wpAnyH_take (i := 2) (v := ?_) rfl (by kernel_rfl) (by kernel_rfl) (by kernel_rfl) (fun _ _ _ h => h) (Or.inl ⟨by kernel_rfl, ?_⟩) (by assumption) ?_
  rotate_left
  · (intro w hSw; (try dsimp only at hSw); go_simp)
    try with_reducible rfl
  try simp only [Act.put, List.setIfInBounds_toArray, List.set_cons_zero, List.set_cons_succ, List.getElem_toArray, List.getElem_cons_zero, List.getElem_cons_succ]
  refine wpAnyH_take (i := 3) (v := ?_) rfl (by kernel_rfl) (by kernel_rfl) (by kernel_rfl) (fun _ _ _ h => h) (Or.inl ⟨by kernel_rfl, ?_⟩) (by assumption) ?_
  rotate_left
  · (intro w hSw; (try dsimp only at hSw); go_simp)
    try with_reducible rfl
  try simp only [Act.put, List.setIfInBounds_toArray, List.set_cons_zero, List.set_cons_succ, List.getElem_toArray, List.getElem_cons_zero, List.getElem_cons_succ]
  refine wpAnyH_take (i := 5) (v := ?_) rfl (by kernel_rfl) (by kernel_rfl) (by kernel_rfl) (fun _ _ _ h => h) (Or.inl ⟨by kernel_rfl, ?_⟩) (by assumption) ?_
  rotate_left
  · (intro w hSw; (try dsimp only at hSw); go_simp)
    try with_reducible rfl
  try simp only [Act.put, List.setIfInBounds_toArray, List.set_cons_zero, List.set_cons_succ, List.getElem_toArray, List.getElem_cons_zero, List.getElem_cons_succ]
  refine wpAnyH_take (i := 6) (v := ?_) rfl (by kernel_rfl) (by kernel_rfl) (by kernel_rfl) (fun _ _ _ h => h) (Or.inl ⟨by kernel_rfl, ?_⟩) (by assumption) ?_
  rotate_left
  · (intro w hSw; (try dsimp only at hSw); go_simp)
    try with_reducible rfl
  try simp only [Act.put, List.setIfInBounds_toArray, List.set_cons_zero, List.set_cons_succ, List.getElem_toArray, List.getElem_cons_zero, List.getElem_cons_succ]
  refine wpAnyH_ready (rs := [4]) (by kernel_rfl) (by simp) ?_
  refine AllReadyH.cons rfl (fun K hK => ?_) AllReadyH.nil
  go_simp
  go_at_call 111
  refine (H1 _).out.mono ?_
  rintro e wc ⟨rfl, hbc⟩
  have HBc : Hid (Below WB.heap.size WB wc) := belS ((Below.refl WB.heap.size WB).drew) hbc
  clear hbc
  try dsimp only
  refine hK.out _ _ (HF.out _ HBc.out) (fun hHeld => ?_)
  clear hK K
  try simp only [Act.put, List.setIfInBounds_toArray, List.set_cons_zero, List.set_cons_succ, List.getElem_toArray, List.getElem_cons_zero, List.getElem_cons_succ]
  refine wpAnyH_ready (rs := [7]) (by kernel_rfl) (by simp) ?_
  refine AllReadyH.cons rfl (fun K hK => ?_) AllReadyH.nil
  go_simp
  go_at_call 180
  refine (H2 _).out.mono ?_
  rintro e wd ⟨rfl, hbd⟩
  have HBd : Hid (Below WB.heap.size WB wd) := belS (HBc.out) hbd
  clear hbd
  try dsimp only
  refine hK.out _ _ (HF.out _ HBd.out) (fun hHeld => ?_)
  clear hK K
  try simp only [Act.put, List.setIfInBounds_toArray, List.set_cons_zero, List.set_cons_succ, List.getElem_toArray, List.getElem_cons_zero, List.getElem_cons_succ]
  refine wpAnyH_take (i := 8) (v := ?_) rfl (by kernel_rfl) (by kernel_rfl) (by kernel_rfl) (fun _ _ _ h => h) (Or.inl ⟨by kernel_rfl, ?_⟩) (by assumption) ?_
  rotate_left
  · (intro w hSw; (try dsimp only at hSw); go_simp)
    try with_reducible rfl
  try simp only [Act.put, List.setIfInBounds_toArray, List.set_cons_zero, List.set_cons_succ, List.getElem_toArray, List.getElem_cons_zero, List.getElem_cons_succ]
  refine wpAnyH_take (i := 9) (v := ?_) rfl (by kernel_rfl) (by kernel_rfl) (by kernel_rfl) (fun _ _ _ h => h) (Or.inl ⟨by kernel_rfl, ?_⟩) (by assumption) ?_
  rotate_left
  · (intro w hSw; (try dsimp only at hSw); go_simp)
    try with_reducible rfl
  try simp only [Act.put, List.setIfInBounds_toArray, List.set_cons_zero, List.set_cons_succ, List.getElem_toArray, List.getElem_cons_zero, List.getElem_cons_succ]
  refine wpAnyH_done (by kernel_rfl) ?_ _
  clear hHeld
  go_wp2_with fail
  all_goals go_ret
  all_goals exact ⟨by rw [HP.out]; rfl, HBB.out.trans (HBd.out.mono HBB.out.size)⟩
theorem mayQ_alone (a : Int) (p : Nat) (h1 : 1 ≤ p) (h2 : p ≤ 1048576) : mayQ a p = (withinQ a p && (Nat.gcd a.natAbs p == 1)) := by
  rw [mayQ_eq, decide_eq_true (by omega : 1 ≤ (p : Int)), decide_eq_true (by omega : (p : Int) ≤ 1048576), Int.natAbs_natCast]; rfl
set_option maxRecDepth 100000 in
set_option maxHeartbeats 16000000 in
theorem may56_any (a p : Int) (w : World) (ha : in64 a) :
    Calls Tryz.prog 56 #[.agg #[.int .i64 a, .int .i64 p]] w fun e w' => e = .returned (.bool (mayQ a p)) ∧ Below w.heap.size w w' := by
  obtain ⟨WB, hWWB⟩ : ∃ WB, WB = w.alloc (.cells #[.int .i64 a, .int .i64 p] 50) := ⟨_, rfl⟩
  have hbWB : Below w.heap.size w WB := by rw [hWWB]; exact belowA _ _
  have hx0 : WB.heap[w.heap.size]? = some (.cells #[.int .i64 a, .int .i64 p] 50 (0, 0)) := by rw [hWWB]; exact hp_topA rfl
  have HX : Hid (∀ W, Below WB.heap.size WB W → W.heap[w.heap.size]? = some (.cells #[.int .i64 a, .int .i64 p] 50 (0, 0))) := fun W hW => (hW.block _ (Array.getElem?_eq_some_iff.1 hx0).1).trans hx0
  have HF : Hid (∀ W, Below WB.heap.size WB W → W.cell? ⟨w.heap.size, 0, none⟩ = some (.int .i64 a) ∧ W.cell? ⟨w.heap.size, 1, none⟩ = some (.int .i64 p) ∧ w.heap.size < W.heap.size) := by
    intro W hW
    have k0 := HX.out W hW
    exact ⟨Lib.cell_of_heap k0 0, Lib.cell_of_heap k0 1, (Array.getElem?_eq_some_iff.1 k0).1⟩
  have HBB := Lib.hid hbWB
  have HWB := Lib.hid hWWB.symm
  clear hWWB hbWB hx0
  obtain ⟨xf0, xf1, xf2⟩ := HF.out WB (Below.refl _ _)
  by_cases c1 : p < 1
  · have d1 : decide (p < 1) = true := by simpa using c1
    have HE : Hid (mayQ a p = false) := by rw [Hid, mayQ_eq, decide_eq_false (by omega)]; rfl
    clear c1 ha
    go_enter Tryz.func56, Tryz.ntmps56
    go_upto_region 1 with fail
    rw [HWB.out]
    clear HWB
    go_wp2_with fail
    all_goals go_ret
    all_goals exact ⟨by rw [HE.out]; rfl, HBB.out⟩
  have d1 : decide (p < 1) = false := by simpa using c1
  by_cases c2 : 1048576 < p
  · have d2 : decide (1048576 < p) = true := by simpa using c2
    have HE : Hid (mayQ a p = false) := by rw [Hid, mayQ_eq, decide_eq_false (show ¬ p ≤ 1048576 by omega)]; simp
    clear c1 c2 ha
    go_enter Tryz.func56, Tryz.ntmps56
    go_upto_region 1 with fail
    rw [HWB.out]
    clear HWB
    go_wp2_with fail
    all_goals go_ret
    all_goals exact ⟨by rw [HE.out]; rfl, HBB.out⟩
  have d2 : decide (1048576 < p) = false := by simpa using c2
  obtain ⟨k, rfl⟩ : ∃ k : Nat, p = k := ⟨p.toNat, by omega⟩
  have hk1 : 1 ≤ k := by omega
  have hk2 : k ≤ 1048576 := by omega
  have HA := fun W => Lib.hid (alone109_any a k W hk1 hk2)
  have HM := Lib.hid (mayQ_alone a k hk1 hk2)
  have HL := fun W => Lib.hid ((low110_any a k W (by omega) (by omega) ha.1 ha.2).mono fun e w' h => (⟨h.1, h.2 ▸ Below.refl _ _⟩ : _ ∧ Below W.heap.size W w'))
  have HR := fun W => Lib.hid ((part111_any a k W (by omega) (by omega)).mono fun e w' h => (⟨h.1, h.2 ▸ Below.refl _ _⟩ : _ ∧ Below W.heap.size W w'))
  obtain ⟨g, hg⟩ : ∃ g, (Nat.gcd a.natAbs k == 1) = g := ⟨_, rfl⟩
  rw [hg] at HA HM
  clear c1 c2 hk1 hk2 ha hg
  cases g with
  | false =>
    have HE : Hid (mayQ a k = false) := by rw [Hid, HM.out]; simp
    go_enter Tryz.func56, Tryz.ntmps56
    go_upto_region 1 with fail
    rw [HWB.out]
    clear HWB
    go_wp2_with fail
    refine (HA _).out.mono ?_
    rintro e w1 ⟨rfl, hb1⟩
    have HB1 := Lib.hid hb1
    clear hb1
    clear xf0 xf1 xf2
    go_wp2_with fail
    all_goals go_ret
    all_goals exact ⟨by rw [HE.out]; rfl, HBB.out.trans (HB1.out.mono HBB.out.size)⟩
  | true =>
    have HE : Hid (mayQ a k = withinQ a k) := by rw [Hid, HM.out]; simp
    obtain ⟨q, hq⟩ : ∃ q, a / (k : Int) = q := ⟨_, rfl⟩
    obtain ⟨r, hr⟩ : ∃ r, a % (k : Int) = r := ⟨_, rfl⟩
    rw [hq] at HL
    rw [hr] at HR
    have HW : Hid (withinQ a k = (decide (-2305843009213693952 ≤ q) && (decide (q < 2305843009213693952) || (q == 2305843009213693952 && r == 0)))) := by rw [Hid, withinQ, hq, hr]
    clear hq hr
    go_enter Tryz.func56, Tryz.ntmps56
    go_upto_region 1 with fail
    rw [HWB.out]
    clear HWB
    go_wp2_with fail
    refine (HA _).out.mono ?_
    rintro e w1 ⟨rfl, hb1⟩
    have HB1 := Lib.hid hb1
    clear hb1
    clear xf0 xf1 xf2
    obtain ⟨xf0, xf1, xf2⟩ := HF.out w1 (HB1.out)
    go_wp2_with fail
    refine (HL _).out.mono ?_
    rintro e w2 ⟨rfl, hb2⟩
    have HB2 : Hid (Below WB.heap.size WB w2) := belS HB1.out hb2
    clear hb2
    clear xf0 xf1 xf2
    obtain ⟨xf0, xf1, xf2⟩ := HF.out w2 (HB2.out)
    by_cases e1 : -2305843009213693952 ≤ q
    rotate_left
    · have f1 : decide (-2305843009213693952 ≤ q) = false := by simpa using e1
      have HV : Hid (withinQ a k = false) := by rw [Hid, HW.out, f1]; rfl
      clear e1
      go_wp2_with fail
      all_goals go_ret
      all_goals exact ⟨by rw [HE.out, HV.out]; rfl, HBB.out.trans (HB2.out.mono HBB.out.size)⟩
    have f1 : decide (-2305843009213693952 ≤ q) = true := by simpa using e1
    by_cases e2 : q < 2305843009213693952
    · have f2 : decide (q < 2305843009213693952) = true := by simpa using e2
      have HV : Hid (withinQ a k = true) := by rw [Hid, HW.out, f1, f2]; rfl
      clear e1 e2
      go_wp2_with fail
      all_goals go_ret
      all_goals exact ⟨by rw [HE.out, HV.out]; rfl, HBB.out.trans (HB2.out.mono HBB.out.size)⟩
    have f2 : decide (q < 2305843009213693952) = false := by simpa using e2
    by_cases e3 : q = 2305843009213693952
    rotate_left
    · have f3 : (q == 2305843009213693952) = false := by simpa using e3
      have HV : Hid (withinQ a k = false) := by rw [Hid, HW.out, f1, f2, f3]; rfl
      clear e1 e2 e3
      go_wp2_with fail
      all_goals go_ret
      all_goals exact ⟨by rw [HE.out, HV.out]; rfl, HBB.out.trans (HB2.out.mono HBB.out.size)⟩
    have f3 : (q == 2305843009213693952) = true := by simpa using e3
    have HV : Hid (withinQ a k = (r == 0)) := by rw [Hid, HW.out, f1, f2, f3]; rfl
    clear e1 e2 e3
    go_wp2_with fail
    refine (HR _).out.mono ?_
    rintro e w3 ⟨rfl, hb3⟩
    have HB3 : Hid (Below WB.heap.size WB w3) := belS HB2.out hb3
    clear hb3
    clear xf0 xf1 xf2
    go_wp2_with fail
    all_goals go_ret
    all_goals exact ⟨by rw [HE.out, HV.out]; rfl, HBB.out.trans (HB3.out.mono HBB.out.size)⟩
set_option maxRecDepth 100000 in
set_option maxHeartbeats 16000000 in
theorem floor234_any (a p : Int) (w : World) (ha : in64 a) (h : mayQ a p = true) :
    Calls Tryz.prog 234 #[.agg #[.int .i64 a, .int .i64 p]] w fun e w' => e = .returned (.tuple #[.int .i64 (a / p), .bool (p == 1), .int .i64 0]) ∧ Below w.heap.size w w' := by
  obtain ⟨WB, hWWB⟩ : ∃ WB, WB = w.alloc (.cells #[.int .i64 a, .int .i64 p] 50) := ⟨_, rfl⟩
  have hbWB : Below w.heap.size w WB := by rw [hWWB]; exact belowA _ _
  have hx0 : WB.heap[w.heap.size]? = some (.cells #[.int .i64 a, .int .i64 p] 50 (0, 0)) := by rw [hWWB]; exact hp_topA rfl
  have HX : Hid (∀ W, Below WB.heap.size WB W → W.heap[w.heap.size]? = some (.cells #[.int .i64 a, .int .i64 p] 50 (0, 0))) := fun W hW => (hW.block _ (Array.getElem?_eq_some_iff.1 hx0).1).trans hx0
  have HF : Hid (∀ W, Below WB.heap.size WB W → W.cell? ⟨w.heap.size, 0, none⟩ = some (.int .i64 a) ∧ W.cell? ⟨w.heap.size, 1, none⟩ = some (.int .i64 p) ∧ w.heap.size < W.heap.size) := by
    intro W hW
    have k0 := HX.out W hW
    exact ⟨Lib.cell_of_heap k0 0, Lib.cell_of_heap k0 1, (Array.getElem?_eq_some_iff.1 k0).1⟩
  have HBB := Lib.hid hbWB
  have HWB := Lib.hid hWWB.symm
  clear hWWB hbWB hx0
  obtain ⟨xf0, xf1, xf2⟩ := HF.out WB (Below.refl _ _)
  obtain ⟨a1, a2, _, _⟩ := mayQ_parts h
  have HM := fun W => Lib.hid (may56_any a p W ha)
  have HL := fun W => Lib.hid ((low110_any a p W a1 a2 ha.1 ha.2).mono fun e w' h => (⟨h.1, h.2 ▸ Below.refl _ _⟩ : _ ∧ Below W.heap.size W w'))
  obtain ⟨q, hq⟩ : ∃ q, a / p = q := ⟨_, rfl⟩
  rw [hq] at HL ⊢
  rw [h] at HM
  clear hq ha h a1 a2
  go_enter Tryz.func234, Tryz.ntmps234
  go_upto_region 1 with fail
  rw [HWB.out]
  clear HWB
  go_wp2_with fail
  refine (HM _).out.mono ?_
  rintro e w1 ⟨rfl, hb1⟩
  have HB1 := Lib.hid hb1
  clear hb1
  clear xf0 xf1 xf2
  go_upto_region 3 with fail
  refine wp_region_held_drew (S := fun W => W.cell? ⟨w.heap.size, 0, none⟩ = some (.int .i64 a) ∧ W.cell? ⟨w.heap.size, 1, none⟩ = some (.int .i64 p) ∧ w.heap.size < W.heap.size) (by kernel_rfl) (HF.out _ (HB1.out).drew) (fun hHeld => ?_)
  refine wpAnyH_take (i := 0) (v := ?_) rfl (by kernel_rfl) (by kernel_rfl) (by kernel_rfl) (fun _ _ _ h => h) (Or.inl ⟨by kernel_rfl, ?_⟩) (by assumption) ?_
  rotate_left
  · (intro w hSw; (try dsimp only at hSw); go_simp)
    try with_reducible rfl
  try simp only [Act.put, List.setIfInBounds_toArray, List.set_cons_zero, List.set_cons_succ, List.getElem_toArray, List.getElem_cons_zero]
  refine wpAnyH_take (i := 1) (v := ?_) rfl (by kernel_rfl) (by kernel_rfl) (by kernel_rfl) (fun _ _ _ h => h) (Or.inl ⟨by kernel_rfl, ?_⟩) (by assumption) ?_
  rotate_left
  · (intro w hSw; (try dsimp only at hSw); go_simp)
    try with_reducible rfl
  try simp only [Act.put, List.setIfInBounds_toArray, List.set_cons_zero, List.set_cons_succ, List.getElem_toArray, List.getElem_cons_zero, List.getElem_cons_succ]
  refine wpAnyH_take (i := 2) (v := ?_) rfl (by kernel_rfl) (by kernel_rfl) (by kernel_rfl) (fun _ _ _ h => h) (Or.inl ⟨by kernel_rfl, ?_⟩) (by assumption) ?_
  rotate_left
  · (intro w hSw; (try dsimp only at hSw); go_simp)
    try with_reducible rfl
  try simp only [Act.put, List.setIfInBounds_toArray, List.set_cons_zero, List.set_cons_succ, List.getElem_toArray, List.getElem_cons_zero, List.getElem_cons_succ]
  refine wpAnyH_take (i := 3) (v := ?_) rfl (by kernel_rfl) (by kernel_rfl) (by kernel_rfl) (fun _ _ _ h => h) (Or.inl ⟨by kernel_rfl, ?_⟩) (by assumption) ?_
  rotate_left
  · (intro w hSw; (try dsimp only at hSw); go_simp)
    try with_reducible rfl
  try simp only [Act.put, List.setIfInBounds_toArray, List.set_cons_zero, List.set_cons_succ, List.getElem_toArray, List.getElem_cons_zero, List.getElem_cons_succ]
  refine wpAnyH_take (i := 5) (v := ?_) rfl (by kernel_rfl) (by kernel_rfl) (by kernel_rfl) (fun _ _ _ h => h) (Or.inl ⟨by kernel_rfl, ?_⟩) (by assumption) ?_
  rotate_left
  · (intro w hSw; (try dsimp only at hSw); go_simp)
    try with_reducible rfl
  try simp only [Act.put, List.setIfInBounds_toArray, List.set_cons_zero, List.set_cons_succ, List.getElem_toArray, List.getElem_cons_zero, List.getElem_cons_succ]
  refine wpAnyH_take (i := 6) (v := ?_) rfl (by kernel_rfl) (by kernel_rfl) (by kernel_rfl) (fun _ _ _ h => h) (Or.inl ⟨by kernel_rfl, ?_⟩) (by assumption) ?_
  rotate_left
  · (intro w hSw; (try dsimp only at hSw); go_simp)
    try with_reducible rfl
  try simp only [Act.put, List.setIfInBounds_toArray, List.set_cons_zero, List.set_cons_succ, List.getElem_toArray, List.getElem_cons_zero, List.getElem_cons_succ]
  refine wpAnyH_take (i := 7) (v := ?_) rfl (by kernel_rfl) (by kernel_rfl) (by kernel_rfl) (fun _ _ _ h => h) (Or.inl ⟨by kernel_rfl, ?_⟩) (by assumption) ?_
  rotate_left
  · (intro w hSw; (try dsimp only at hSw); go_simp)
    try with_reducible rfl
  try simp only [Act.put, List.setIfInBounds_toArray, List.set_cons_zero, List.set_cons_succ, List.getElem_toArray, List.getElem_cons_zero, List.getElem_cons_succ]
  refine wpAnyH_ready (rs := [4]) (by kernel_rfl) (by simp) ?_
  refine AllReadyH.cons rfl (fun K hK => ?_) AllReadyH.nil
  go_simp
  go_at_call 110
  refine (HL _).out.mono ?_
  rintro e wc ⟨rfl, hbc⟩
  have HBc : Hid (Below WB.heap.size WB wc) := belS (HB1.out.drew) hbc
  clear hbc
  try dsimp only
  refine hK.out _ _ (HF.out _ HBc.out) (fun hHeld => ?_)
  clear hK K
  try simp only [Act.put, List.setIfInBounds_toArray, List.set_cons_zero, List.set_cons_succ, List.getElem_toArray, List.getElem_cons_zero, List.getElem_cons_succ]
  refine wpAnyH_take (i := 8) (v := ?_) rfl (by kernel_rfl) (by kernel_rfl) (by kernel_rfl) (fun _ _ _ h => h) (Or.inl ⟨by kernel_rfl, ?_⟩) (by assumption) ?_
  rotate_left
  · (intro w hSw; (try dsimp only at hSw); go_simp)
    try with_reducible rfl
  try simp only [Act.put, List.setIfInBounds_toArray, List.set_cons_zero, List.set_cons_succ, List.getElem_toArray, List.getElem_cons_zero, List.getElem_cons_succ]
  refine wpAnyH_take (i := 9) (v := ?_) rfl (by kernel_rfl) (by kernel_rfl) (by kernel_rfl) (fun _ _ _ h => h) (Or.inl ⟨by kernel_rfl, ?_⟩) (by assumption) ?_
  rotate_left
  · (intro w hSw; (try dsimp only at hSw); go_simp)
    try with_reducible rfl
  try simp only [Act.put, List.setIfInBounds_toArray, List.set_cons_zero, List.set_cons_succ, List.getElem_toArray, List.getElem_cons_zero, List.getElem_cons_succ]
  refine wpAnyH_take (i := 10) (v := ?_) rfl (by kernel_rfl) (by kernel_rfl) (by kernel_rfl) (fun _ _ _ h => h) (Or.inl ⟨by kernel_rfl, ?_⟩) (by assumption) ?_
  rotate_left
  · (intro w hSw; (try dsimp only at hSw); go_simp)
    try with_reducible rfl
  try simp only [Act.put, List.setIfInBounds_toArray, List.set_cons_zero, List.set_cons_succ, List.getElem_toArray, List.getElem_cons_zero, List.getElem_cons_succ]
  refine wpAnyH_done (by kernel_rfl) ?_ _
  clear hHeld
  go_wp2_with fail
  all_goals go_ret3
  all_goals exact ⟨rfl, HBB.out.trans (HBc.out.mono HBB.out.size)⟩
set_option maxRecDepth 100000 in
set_option maxHeartbeats 16000000 in
theorem whole212_any (a p : Int) (w : World) (ha : in64 a) (h : mayQ a p = true) :
    Calls Tryz.prog 212 #[.agg #[.int .i64 a, .int .i64 p]] w fun e w' => e = .returned (.int .i64 (a / p)) ∧ Below w.heap.size w w' := by
  have HB := Lib.hid (belowA w (.cells #[.int .i64 a, .int .i64 p] 50))
  have HFl := fun W => Lib.hid (floor234_any a p W ha h)
  obtain ⟨q, hq⟩ : ∃ q, a / p = q := ⟨_, rfl⟩
  rw [hq] at HFl ⊢
  clear ha h hq
  go_enter Tryz.func212, Tryz.ntmps212
  go_wp2_with fail
  refine (HFl _).out.mono ?_
  rintro e w1 ⟨rfl, hb1⟩
  have HB1 := Lib.hid (HB.out.trans (hb1.mono HB.out.size))
  clear hb1
  go_wp2_with fail
  all_goals go_ret
  all_goals exact ⟨rfl, HB1.out⟩
end Go.Proofs.YtockinpjfhhkoaaGreatDoor

/- AtomsDoes: the document's place, part, Number walked. (Printed by gen_don.py.) -/
namespace Go.Proofs.YtockinpjfhhkoaaGreatDoor
open Go.RowKit

theorem place_in {a p : Int} (h0 : 0 ≤ a) (h1 : a ≤ 1000) (hp : 1 ≤ p) : 0 ≤ placeR (a, p) ∧ placeR (a, p) ≤ 2001 := by
  unfold placeR
  dsimp only
  have h2 : 0 ≤ a / p := Int.ediv_nonneg h0 (by omega)
  have h3 : a / p ≤ a := by
    have := Int.ediv_le_self p h0
    exact this
  split <;> omega
set_option maxRecDepth 100000 in
set_option maxHeartbeats 16000000 in
theorem place168_any (a p : Int) (w : World) (h0 : 0 ≤ a) (h1 : a ≤ 1000) (h : mayQ a p = true) :
    Calls Tryz.prog 168 #[.agg #[.int .i64 a, .int .i64 p]] w fun e w' => e = .returned (.int .i64 (placeR (a, p))) ∧ Below w.heap.size w w' := by
  obtain ⟨WB, hWWB⟩ : ∃ WB, WB = w.alloc (.cells #[.int .i64 a, .int .i64 p] 50) := ⟨_, rfl⟩
  have hbWB : Below w.heap.size w WB := by rw [hWWB]; exact belowA _ _
  have hx0 : WB.heap[w.heap.size]? = some (.cells #[.int .i64 a, .int .i64 p] 50 (0, 0)) := by rw [hWWB]; exact hp_topA rfl
  have HX : Hid (∀ W, Below WB.heap.size WB W → W.heap[w.heap.size]? = some (.cells #[.int .i64 a, .int .i64 p] 50 (0, 0))) := fun W hW => (hW.block _ (Array.getElem?_eq_some_iff.1 hx0).1).trans hx0
  have HF : Hid (∀ W, Below WB.heap.size WB W → W.cell? ⟨w.heap.size, 0, none⟩ = some (.int .i64 a) ∧ W.cell? ⟨w.heap.size, 1, none⟩ = some (.int .i64 p) ∧ w.heap.size < W.heap.size) := by
    intro W hW
    have k0 := HX.out W hW
    exact ⟨Lib.cell_of_heap k0 0, Lib.cell_of_heap k0 1, (Array.getElem?_eq_some_iff.1 k0).1⟩
  have HBB := Lib.hid hbWB
  have HWB := Lib.hid hWWB.symm
  clear hWWB hbWB hx0
  obtain ⟨xf0, xf1, xf2⟩ := HF.out WB (Below.refl _ _)
  have HWh := fun W => Lib.hid (whole212_any a p W ⟨by omega, by omega⟩ h)
  obtain ⟨a1, a2, _, _⟩ := mayQ_parts h
  have hq0 : 0 ≤ a / p := Int.ediv_nonneg h0 (by omega)
  have hq1 : a / p ≤ a := Int.ediv_le_self p h0
  have HPL : Hid (placeR (a, p) = if p = 1 then 2 * a else 2 * (a / p) + 1) := rfl
  obtain ⟨q, hq⟩ : ∃ q, a / p = q := ⟨_, rfl⟩
  rw [hq] at HWh hq0 hq1 HPL
  have w1 : IntKind.i64.wrap (2 * a) = 2 * a := IntWalk.i64_in _ (by omega)
  have w1' : wrap64 (2 * a) = 2 * a := IntWalk.wrap64_in _ (by omega)
  have w2 : IntKind.i64.wrap (2 * q) = 2 * q := IntWalk.i64_in _ (by omega)
  have w2' : wrap64 (2 * q) = 2 * q := IntWalk.wrap64_in _ (by omega)
  have w3 : IntKind.i64.wrap (2 * q + 1) = 2 * q + 1 := IntWalk.i64_in _ (by omega)
  have w3' : wrap64 (2 * q + 1) = 2 * q + 1 := IntWalk.wrap64_in _ (by omega)
  clear hq h0 h1 h a1 a2 hq0 hq1
  by_cases c : p = 1
  · have d : (p == 1) = true := by simpa using c
    rw [if_pos c] at HPL
    clear c
    go_enter Tryz.func168, Tryz.ntmps168
    go_upto_region 1 with fail
    rw [HWB.out]
    clear HWB
    go_wp2_with fail
    all_goals go_ret
    all_goals exact ⟨by rw [HPL.out]; rfl, HBB.out⟩
  · have d : (p == 1) = false := by simpa using c
    rw [if_neg c] at HPL
    clear c
    go_enter Tryz.func168, Tryz.ntmps168
    go_upto_region 1 with fail
    rw [HWB.out]
    clear HWB
    go_wp2_with fail
    refine (HWh _).out.mono ?_
    rintro e w1 ⟨rfl, hb1⟩
    have HB1 := Lib.hid hb1
    clear hb1
    clear xf0 xf1 xf2
    go_wp2_with fail
    all_goals go_ret
    all_goals exact ⟨by rw [HPL.out]; rfl, HBB.out.trans (HB1.out.mono HBB.out.size)⟩
set_option maxRecDepth 100000 in
set_option maxHeartbeats 16000000 in
theorem part167_any (a p : Int) (w : World) (h0 : 0 ≤ a) (h1 : a ≤ 1000) (h : mayQ a p = true) :
    Calls Tryz.prog 167 #[.agg #[.int .i64 a, .int .i64 p]] w fun e w' => e = .returned (.agg #[.int .i64 (partR (a, p)).1, .int .i64 (partR (a, p)).2]) ∧ Below w.heap.size w w' := by
  obtain ⟨WB, hWWB⟩ : ∃ WB, WB = (w.alloc (.cells #[.int .i64 a, .int .i64 p] 50)).alloc (.cells #[.int .i64 0, .int .i64 0] 50) := ⟨_, rfl⟩
  have hbWB : Below w.heap.size w WB := by rw [hWWB]; exact (belowA _ _).alloc (by simp) _
  have hx0 : WB.heap[w.heap.size]? = some (.cells #[.int .i64 a, .int .i64 p] 50 (0, 0)) := by rw [hWWB]; exact (Below.heap_alloc _ _ _ (by simp)).trans (hp_topA rfl)
  have hx1 : WB.heap[w.heap.size + 1]? = some (.cells #[.int .i64 0, .int .i64 0] 50 (0, 0)) := by rw [hWWB]; exact hp_topA (by simp)
  have HX : Hid (∀ W, Below WB.heap.size WB W → W.heap[w.heap.size]? = some (.cells #[.int .i64 a, .int .i64 p] 50 (0, 0)) ∧ W.heap[w.heap.size + 1]? = some (.cells #[.int .i64 0, .int .i64 0] 50 (0, 0))) := fun W hW => ⟨(hW.block _ (Array.getElem?_eq_some_iff.1 hx0).1).trans hx0, (hW.block _ (Array.getElem?_eq_some_iff.1 hx1).1).trans hx1⟩
  have HF : Hid (∀ W, Below WB.heap.size WB W → W.cell? ⟨w.heap.size, 0, none⟩ = some (.int .i64 a) ∧ W.cell? ⟨w.heap.size, 1, none⟩ = some (.int .i64 p) ∧ W.cell? ⟨w.heap.size + 1, 0, none⟩ = some (.int .i64 0) ∧ W.cell? ⟨w.heap.size + 1, 1, none⟩ = some (.int .i64 0) ∧ W.frozen? ⟨w.heap.size + 1, 0, none⟩ = false ∧ W.frozen? ⟨w.heap.size + 1, 1, none⟩ = false ∧ w.heap.size < W.heap.size ∧ w.heap.size + 1 < W.heap.size) := by
    intro W hW
    obtain ⟨k0, k1⟩ := HX.out W hW
    exact ⟨Lib.cell_of_heap k0 0, Lib.cell_of_heap k0 1, Lib.cell_of_heap k1 0, Lib.cell_of_heap k1 1, Lib.frozen_of_heap k1 0, Lib.frozen_of_heap k1 1, (Array.getElem?_eq_some_iff.1 k0).1, (Array.getElem?_eq_some_iff.1 k1).1⟩
  have HBB := Lib.hid hbWB
  have HWB := Lib.hid hWWB.symm
  clear hWWB hbWB hx0 hx1
  have HS : Hid (∀ W, Below WB.heap.size WB W → W.cell? ⟨w.heap.size, 0, none⟩ = some (.int .i64 a) ∧ W.cell? ⟨w.heap.size, 1, none⟩ = some (.int .i64 p) ∧ w.heap.size < W.heap.size) := by
    intro W hW
    have k0 := (HX.out W hW).1
    exact ⟨Lib.cell_of_heap k0 0, Lib.cell_of_heap k0 1, (Array.getElem?_eq_some_iff.1 k0).1⟩
  have HS2 : Hid (∀ W x y, Below WB.heap.size WB W → (set2 W (w.heap.size + 1) x y).cell? ⟨w.heap.size, 0, none⟩ = some (.int .i64 a) ∧ (set2 W (w.heap.size + 1) x y).cell? ⟨w.heap.size, 1, none⟩ = some (.int .i64 p) ∧ w.heap.size < (set2 W (w.heap.size + 1) x y).heap.size) := by
    intro W x y hW
    have k0 := (set2_other W (w.heap.size + 1) x y w.heap.size (by omega)).trans (HX.out W hW).1
    exact ⟨Lib.cell_of_heap k0 0, Lib.cell_of_heap k0 1, (Array.getElem?_eq_some_iff.1 k0).1⟩
  have HWh := fun W => Lib.hid (whole212_any a p W ⟨by omega, by omega⟩ h)
  obtain ⟨a1, a2, _, _⟩ := mayQ_parts h
  have e1 := Int.mul_ediv_add_emod a p
  have e2 := Int.emod_nonneg a (show p ≠ 0 by omega)
  have e3 := Int.emod_lt_of_pos a (show 0 < p by omega)
  rw [Int.mul_comm] at e1
  have HPR : Hid (partR (a, p) = (a - a / p * p, p)) := rfl
  obtain ⟨q, hq⟩ : ∃ q, a / p = q := ⟨_, rfl⟩
  obtain ⟨x, hx⟩ : ∃ x, q * p = x := ⟨_, rfl⟩
  obtain ⟨y, hy⟩ : ∃ y, a % p = y := ⟨_, rfl⟩
  rw [hq] at HWh HPR e1
  rw [hx] at HPR e1
  rw [hy] at e1 e2 e3
  have w1 : IntKind.i64.wrap (q * p) = x := by rw [hx]; exact IntWalk.i64_in _ (by omega)
  have w1' : wrap64 (q * p) = x := by rw [hx]; exact IntWalk.wrap64_in _ (by omega)
  have w2 : IntKind.i64.wrap (a - x) = a - x := IntWalk.i64_in _ (by omega)
  have w2' : wrap64 (a - x) = a - x := IntWalk.wrap64_in _ (by omega)
  rw [HPR.out]
  clear hq hx hy h0 h1 h a1 a2 e1 e2 e3 HPR
  go_enter Tryz.func167, Tryz.ntmps167
  go_upto_region 1 with fail
  rw [HWB.out]
  refine wp_region_held_drew (S := fun W => W.cell? ⟨w.heap.size, 0, none⟩ = some (.int .i64 a) ∧ W.cell? ⟨w.heap.size, 1, none⟩ = some (.int .i64 p) ∧ w.heap.size < W.heap.size) (by kernel_rfl) (HS.out _ (Below.refl WB.heap.size WB).drew) (fun hHeld => ?_)
  refine wpAnyH_take (i := 0) (v := ?_) rfl (by kernel_rfl) (by kernel_rfl) (by kernel_rfl) (fun _ _ _ h => h) (Or.inl ⟨by kernel_rfl, ?_⟩) (by assumption) ?_
  rotate_left
  · (intro w hSw; (try dsimp only at hSw); go_simp)
    try with_reducible rfl
  try simp only [Act.put, List.setIfInBounds_toArray, List.set_cons_zero, List.set_cons_succ, List.getElem_toArray, List.getElem_cons_zero]
  refine wpAnyH_take (i := 1) (v := ?_) rfl (by kernel_rfl) (by kernel_rfl) (by kernel_rfl) (fun _ _ _ h => h) (Or.inl ⟨by kernel_rfl, ?_⟩) (by assumption) ?_
  rotate_left
  · (intro w hSw; (try dsimp only at hSw); go_simp)
    try with_reducible rfl
  try simp only [Act.put, List.setIfInBounds_toArray, List.set_cons_zero, List.set_cons_succ, List.getElem_toArray, List.getElem_cons_zero, List.getElem_cons_succ]
  refine wpAnyH_take (i := 2) (v := ?_) rfl (by kernel_rfl) (by kernel_rfl) (by kernel_rfl) (fun _ _ _ h => h) (Or.inl ⟨by kernel_rfl, ?_⟩) (by assumption) ?_
  rotate_left
  · (intro w hSw; (try dsimp only at hSw); go_simp)
    try with_reducible rfl
  try simp only [Act.put, List.setIfInBounds_toArray, List.set_cons_zero, List.set_cons_succ, List.getElem_toArray, List.getElem_cons_zero, List.getElem_cons_succ]
  refine wpAnyH_take (i := 4) (v := ?_) rfl (by kernel_rfl) (by kernel_rfl) (by kernel_rfl) (fun _ _ _ h => h) (Or.inl ⟨by kernel_rfl, ?_⟩) (by assumption) ?_
  rotate_left
  · (intro w hSw; (try dsimp only at hSw); go_simp)
    try with_reducible rfl
  try simp only [Act.put, List.setIfInBounds_toArray, List.set_cons_zero, List.set_cons_succ, List.getElem_toArray, List.getElem_cons_zero, List.getElem_cons_succ]
  refine wpAnyH_take (i := 5) (v := ?_) rfl (by kernel_rfl) (by kernel_rfl) (by kernel_rfl) (fun _ _ _ h => h) (Or.inl ⟨by kernel_rfl, ?_⟩) (by assumption) ?_
  rotate_left
  · (intro w hSw; (try dsimp only at hSw); go_simp)
    try with_reducible rfl
  try simp only [Act.put, List.setIfInBounds_toArray, List.set_cons_zero, List.set_cons_succ, List.getElem_toArray, List.getElem_cons_zero, List.getElem_cons_succ]
  refine wpAnyH_take (i := 8) (v := ?_) rfl (by kernel_rfl) (by kernel_rfl) (by kernel_rfl) (fun _ _ _ h => h) (Or.inl ⟨by kernel_rfl, ?_⟩) (by assumption) ?_
  rotate_left
  · (intro w hSw; (try dsimp only at hSw); go_simp)
    try with_reducible rfl
  try simp only [Act.put, List.setIfInBounds_toArray, List.set_cons_zero, List.set_cons_succ, List.getElem_toArray, List.getElem_cons_zero, List.getElem_cons_succ]
  refine wpAnyH_take (i := 9) (v := ?_) rfl (by kernel_rfl) (by kernel_rfl) (by kernel_rfl) (fun _ _ _ h => h) (Or.inl ⟨by kernel_rfl, ?_⟩) (by assumption) ?_
  rotate_left
  · (intro w hSw; (try dsimp only at hSw); go_simp)
    try with_reducible rfl
  try simp only [Act.put, List.setIfInBounds_toArray, List.set_cons_zero, List.set_cons_succ, List.getElem_toArray, List.getElem_cons_zero, List.getElem_cons_succ]
  refine wpAnyH_ready (rs := [3]) (by kernel_rfl) (by simp) ?_
  refine AllReadyH.cons rfl (fun K hK => ?_) AllReadyH.nil
  go_simp
  go_at_call 212
  refine (HWh _).out.mono ?_
  rintro e wc ⟨rfl, hbc⟩
  have HBc : Hid (Below WB.heap.size WB wc) := belS ((Below.refl WB.heap.size WB).drew) hbc
  clear hbc
  try dsimp only
  refine hK.out _ _ (HS.out _ HBc.out) (fun hHeld => ?_)
  clear hK K
  try simp only [Act.put, List.setIfInBounds_toArray, List.set_cons_zero, List.set_cons_succ, List.getElem_toArray, List.getElem_cons_zero, List.getElem_cons_succ]
  refine wpAnyH_take (i := 6) (v := ?_) rfl (by kernel_rfl) (by kernel_rfl) (by kernel_rfl) (fun _ _ _ h => h) (Or.inl ⟨by kernel_rfl, ?_⟩) (by assumption) ?_
  rotate_left
  · (intro w hSw; (try dsimp only at hSw); go_simp)
    try with_reducible rfl
  try simp only [Act.put, List.setIfInBounds_toArray, List.set_cons_zero, List.set_cons_succ, List.getElem_toArray, List.getElem_cons_zero, List.getElem_cons_succ]
  refine wpAnyH_take (i := 7) (v := ?_) rfl (by kernel_rfl) (by kernel_rfl) (by kernel_rfl) (fun _ _ _ h => h) (Or.inl ⟨by kernel_rfl, ?_⟩) (by assumption) ?_
  rotate_left
  · (intro w hSw; (try dsimp only at hSw); go_simp)
    try with_reducible rfl
  try simp only [Act.put, List.setIfInBounds_toArray, List.set_cons_zero, List.set_cons_succ, List.getElem_toArray, List.getElem_cons_zero, List.getElem_cons_succ]
  refine wpAnyH_take (i := 10) (v := ?_) rfl (by kernel_rfl) (by kernel_rfl) (by kernel_rfl) (fun _ _ _ h => h) (Or.inl ⟨by kernel_rfl, ?_⟩) (by assumption) ?_
  rotate_left
  · (intro w hSw; (try dsimp only at hSw); go_simp)
    try with_reducible rfl
  try simp only [Act.put, List.setIfInBounds_toArray, List.set_cons_zero, List.set_cons_succ, List.getElem_toArray, List.getElem_cons_zero, List.getElem_cons_succ]
  obtain ⟨xf0, xf1, xf2, xf3, xf4, xf5, xf6, xf7⟩ := HF.out wc (HBc.out)
  refine wpAnyH_ready (rs := [11]) (by kernel_rfl) (by simp) ?_
  refine AllReadyH.cons rfl (fun K hK => ?_) AllReadyH.nil
  go_simp
  refine hK.out _ _ (HS2.out wc _ _ HBc.out) (fun hHeld => ?_)
  clear hK K
  try simp only [Act.put, List.setIfInBounds_toArray, List.set_cons_zero, List.set_cons_succ]
  refine wpAnyH_done (by kernel_rfl) ?_ _
  clear hHeld
  clear xf0 xf1 xf2 xf3 xf4 xf5 xf6 xf7
  go_wp2_with fail
  refine bodyPost_ret (results_cell_row rfl _ _ _ _ _ _ _ rfl (set2_at (HX.out wc HBc.out).2 _ _) Tryz.underlying50 rfl (by kernel_rfl)) rfl ?_
  exact ⟨rfl, set2_below (HBB.out.trans (HBc.out.mono HBB.out.size)) (by omega) _ _⟩
theorem cmp_in (a b : Int × Int) : -1 ≤ cmpR a b ∧ cmpR a b ≤ 1 := by
  unfold cmpR
  repeat' split
  all_goals omega
theorem part_den (a : Int × Int) : (partR a).2 = a.2 := rfl
theorem part_small' {a p : Int} (h0 : 0 ≤ a) (h1 : a ≤ 1000) (hp : 1 ≤ p) : in64 (partR (a, p)).1 := by
  have e1 := Int.mul_ediv_add_emod a p
  have e2 := Int.emod_nonneg a (show p ≠ 0 by omega)
  rw [Int.mul_comm] at e1
  unfold partR
  dsimp only
  have e3 : a / p * p ≤ a := by omega
  have e5 : 0 ≤ a / p * p := Int.mul_nonneg (Int.ediv_nonneg h0 (by omega)) (by omega)
  exact ⟨by omega, by omega⟩
set_option maxRecDepth 100000 in
set_option maxHeartbeats 16000000 in
theorem number94_any (a p b q t : Int) (w : World) (ha : 0 ≤ a) (ha2 : a ≤ 1000) (hb : 0 ≤ b) (hb2 : b ≤ 1000) (hm : mayQ a p = true) (hm2 : mayQ b q = true) (ht : 0 ≤ t) (ht2 : t ≤ 6) :
    Calls Tryz.prog 94 #[.agg #[.int .i64 a, .int .i64 p, .int .i64 b, .int .i64 q], .int .i64 t] w fun e w' => e = .returned (.int .i64 (numR (a, p) (b, q) t)) ∧ Below w.heap.size w w' := by
  obtain ⟨WB, hWWB⟩ : ∃ WB, WB = w.alloc (.cells #[.int .i64 a, .int .i64 p, .int .i64 b, .int .i64 q] 52) := ⟨_, rfl⟩
  have hbWB : Below w.heap.size w WB := by rw [hWWB]; exact belowA _ _
  have hx0 : WB.heap[w.heap.size]? = some (.cells #[.int .i64 a, .int .i64 p, .int .i64 b, .int .i64 q] 52 (0, 0)) := by rw [hWWB]; exact hp_topA rfl
  have HX : Hid (∀ W, Below WB.heap.size WB W → W.heap[w.heap.size]? = some (.cells #[.int .i64 a, .int .i64 p, .int .i64 b, .int .i64 q] 52 (0, 0))) := fun W hW => (hW.block _ (Array.getElem?_eq_some_iff.1 hx0).1).trans hx0
  have HF : Hid (∀ W, Below WB.heap.size WB W → W.cell? ⟨w.heap.size, 0, none⟩ = some (.int .i64 a) ∧ W.cell? ⟨w.heap.size, 1, none⟩ = some (.int .i64 p) ∧ W.cell? ⟨w.heap.size, 2, none⟩ = some (.int .i64 b) ∧ W.cell? ⟨w.heap.size, 3, none⟩ = some (.int .i64 q) ∧ w.heap.size < W.heap.size) := by
    intro W hW
    have k0 := HX.out W hW
    exact ⟨Lib.cell_of_heap k0 0, Lib.cell_of_heap k0 1, Lib.cell_of_heap k0 2, Lib.cell_of_heap k0 3, (Array.getElem?_eq_some_iff.1 k0).1⟩
  have HBB := Lib.hid hbWB
  have HWB := Lib.hid hWWB.symm
  clear hWWB hbWB hx0
  obtain ⟨xf0, xf1, xf2, xf3, xf4⟩ := HF.out WB (Below.refl _ _)
  obtain ⟨a1, a2, _, _⟩ := mayQ_parts hm
  obtain ⟨b1, b2, _, _⟩ := mayQ_parts hm2
  have HC1 := fun W => Lib.hid (compared166_any (a := a) (p := p) (b := b) (q := q) W ⟨by omega, by omega⟩ ⟨by omega, by omega⟩ a1 a2 b1 b2)
  have HC2 := fun W => Lib.hid (compared166_any (a := b) (p := q) (b := t) (q := 1) W ⟨by omega, by omega⟩ ⟨by omega, by omega⟩ b1 b2 (by omega) (by omega))
  have HC3 := fun W => Lib.hid (compared166_any (a := (partR (a, p)).1) (p := (partR (a, p)).2) (b := (partR (b, q)).1) (q := (partR (b, q)).2) W (part_small' ha ha2 a1) (part_small' hb hb2 b1) a1 a2 b1 b2)
  have HP1 := fun W => Lib.hid (place168_any a p W ha ha2 hm)
  have HP2 := fun W => Lib.hid (place168_any b q W hb hb2 hm2)
  have HT1 := fun W => Lib.hid (part167_any a p W ha ha2 hm)
  have HT2 := fun W => Lib.hid (part167_any b q W hb hb2 hm2)
  obtain ⟨g1, g2⟩ := place_in ha ha2 a1
  obtain ⟨g3, g4⟩ := place_in hb hb2 b1
  obtain ⟨g5, g6⟩ := cmp_in (partR (a, p)) (partR (b, q))
  have HN : Hid (numR (a, p) (b, q) t = if 0 ≤ cmpR (a, p) (b, q) ∨ a < 0 ∨ 0 < cmpR (b, q) (t, 1) then -1 else 3 * (placeR (a, p) * (2 * t + 1) + placeR (b, q)) + (if p ≠ 1 ∧ q ≠ 1 then 1 + cmpR (partR (a, p)) (partR (b, q)) else 1)) := rfl
  obtain ⟨c1, hc1⟩ : ∃ c, cmpR (a, p) (b, q) = c := ⟨_, rfl⟩
  obtain ⟨c2, hc2⟩ : ∃ c, cmpR (b, q) (t, 1) = c := ⟨_, rfl⟩
  have hc3' : cmpR ((partR (a, p)).1, (partR (a, p)).2) ((partR (b, q)).1, (partR (b, q)).2) = cmpR (partR (a, p)) (partR (b, q)) := rfl
  obtain ⟨c3, hc3⟩ : ∃ c, cmpR (partR (a, p)) (partR (b, q)) = c := ⟨_, rfl⟩
  obtain ⟨x, hx⟩ : ∃ x, placeR (a, p) = x := ⟨_, rfl⟩
  obtain ⟨y, hy⟩ : ∃ y, placeR (b, q) = y := ⟨_, rfl⟩
  obtain ⟨r1, hr1⟩ : ∃ r, (partR (a, p)).1 = r := ⟨_, rfl⟩
  obtain ⟨r2, hr2⟩ : ∃ r, (partR (b, q)).1 = r := ⟨_, rfl⟩
  rw [hc3', hc3] at HC3
  rw [hc1] at HC1 HN
  rw [hc2] at HC2 HN
  rw [hc3] at g5 g6 HN
  rw [hx] at g1 g2 HP1 HN
  rw [hy] at g3 g4 HP2 HN
  rw [part_den, part_den, hr1, hr2] at HC3
  rw [part_den, hr1] at HT1
  rw [part_den, hr2] at HT2
  have hk : 0 ≤ 2 * t + 1 ∧ 2 * t + 1 ≤ 13 := by omega
  have v1 : IntKind.i64.wrap (2 * t) = 2 * t := IntWalk.i64_in _ (by omega)
  have v1' : wrap64 (2 * t) = 2 * t := IntWalk.wrap64_in _ (by omega)
  obtain ⟨k, hk2⟩ : ∃ k, 2 * t + 1 = k := ⟨_, rfl⟩
  rw [hk2] at hk HN
  have v2 : IntKind.i64.wrap (2 * t + 1) = k := by rw [hk2]; exact IntWalk.i64_in _ (by omega)
  have v2' : wrap64 (2 * t + 1) = k := by rw [hk2]; exact IntWalk.wrap64_in _ (by omega)
  have hm1 : 0 ≤ x * k := Int.mul_nonneg g1 hk.1
  have hm3 : x * k ≤ 2001 * 13 := Int.mul_le_mul g2 hk.2 hk.1 (by omega)
  obtain ⟨m, hmm⟩ : ∃ m, x * k = m := ⟨_, rfl⟩
  rw [hmm] at hm1 hm3 HN
  have v3 : IntKind.i64.wrap (x * k) = m := by rw [hmm]; exact IntWalk.i64_in _ (by omega)
  have v3' : wrap64 (x * k) = m := by rw [hmm]; exact IntWalk.wrap64_in _ (by omega)
  have v4 : IntKind.i64.wrap (m + y) = m + y := IntWalk.i64_in _ (by omega)
  have v4' : wrap64 (m + y) = m + y := IntWalk.wrap64_in _ (by omega)
  have v5 : IntKind.i64.wrap (3 * (m + y)) = 3 * (m + y) := IntWalk.i64_in _ (by omega)
  have v5' : wrap64 (3 * (m + y)) = 3 * (m + y) := IntWalk.wrap64_in _ (by omega)
  have v6 : IntKind.i64.wrap (1 + c3) = 1 + c3 := IntWalk.i64_in _ (by omega)
  have v6' : wrap64 (1 + c3) = 1 + c3 := IntWalk.wrap64_in _ (by omega)
  have v7 : IntKind.i64.wrap (3 * (m + y) + 1) = 3 * (m + y) + 1 := IntWalk.i64_in _ (by omega)
  have v7' : wrap64 (3 * (m + y) + 1) = 3 * (m + y) + 1 := IntWalk.wrap64_in _ (by omega)
  have v8 : IntKind.i64.wrap (3 * (m + y) + (1 + c3)) = 3 * (m + y) + (1 + c3) := IntWalk.i64_in _ (by omega)
  have v8' : wrap64 (3 * (m + y) + (1 + c3)) = 3 * (m + y) + (1 + c3) := IntWalk.wrap64_in _ (by omega)
  have v9 : IntKind.i64.wrap (-1) = -1 := by decide
  have da : decide (a < 0) = false := by simpa using ha
  have HA0 := Lib.hid ha
  clear ha ha2 hb hb2 hm hm2 ht ht2 a1 a2 b1 b2 g1 g2 g3 g4 g5 g6 hc1 hc2 hc3 hc3' hx hy hr1 hr2 hk hk2 hm1 hm3 hmm
  by_cases k1 : 0 ≤ c1
  · have d1 : decide (0 ≤ c1) = true := by simpa using k1
    have HV : Hid (numR (a, p) (b, q) t = -1) := by rw [Hid, HN.out, if_pos (.inl k1)]
    clear k1 HN
    go_enter Tryz.func94, Tryz.ntmps94
    go_upto_region 1 with fail
    rw [HWB.out]
    clear HWB
    go_wp2_with fail
    refine (HC1 _).out.mono ?_
    rintro e w1 ⟨rfl, hb1⟩
    have HB1 := Lib.hid hb1
    clear hb1
    clear xf0 xf1 xf2 xf3 xf4
    go_wp2_with fail
    all_goals go_ret
    all_goals exact ⟨by rw [HV.out]; rfl, HBB.out.trans (HB1.out.mono HBB.out.size)⟩
  have d1 : decide (0 ≤ c1) = false := by simpa using k1
  by_cases k2 : 0 < c2
  · have d2 : decide (0 < c2) = true := by simpa using k2
    have HV : Hid (numR (a, p) (b, q) t = -1) := by rw [Hid, HN.out, if_pos (.inr (.inr k2))]
    clear k1 k2 HN
    go_enter Tryz.func94, Tryz.ntmps94
    go_upto_region 1 with fail
    rw [HWB.out]
    clear HWB
    go_wp2_with fail
    refine (HC1 _).out.mono ?_
    rintro e w1 ⟨rfl, hb1⟩
    have HB1 := Lib.hid hb1
    clear hb1
    clear xf0 xf1 xf2 xf3 xf4
    obtain ⟨xf0, xf1, xf2, xf3, xf4⟩ := HF.out w1 (HB1.out)
    go_wp2_with fail
    refine (HC2 _).out.mono ?_
    rintro e w2 ⟨rfl, hb2⟩
    have HB2 : Hid (Below WB.heap.size WB w2) := belS HB1.out hb2
    clear hb2
    clear xf0 xf1 xf2 xf3 xf4
    go_wp2_with fail
    all_goals go_ret
    all_goals exact ⟨by rw [HV.out]; rfl, HBB.out.trans (HB2.out.mono HBB.out.size)⟩
  have d2 : decide (0 < c2) = false := by simpa using k2
  have HN2 : Hid (numR (a, p) (b, q) t = 3 * (m + y) + (if p ≠ 1 ∧ q ≠ 1 then 1 + c3 else 1)) := by
    rw [Hid, HN.out, if_neg]
    rintro (h | h | h)
    · exact k1 h
    · have := HA0.out; omega
    · exact k2 h
  clear k1 k2 HN
  by_cases k3 : p ≠ 1 ∧ q ≠ 1
  · have d3 : (p != 1) = true := by simpa using k3.1
    have d4 : (q != 1) = true := by simpa using k3.2
    rw [if_pos k3] at HN2
    clear k3
    go_enter Tryz.func94, Tryz.ntmps94
    go_upto_region 1 with fail
    rw [HWB.out]
    clear HWB
    go_wp2_with fail
    refine (HC1 _).out.mono ?_
    rintro e w1 ⟨rfl, hb1⟩
    have HB1 := Lib.hid hb1
    clear hb1
    clear xf0 xf1 xf2 xf3 xf4
    obtain ⟨xf0, xf1, xf2, xf3, xf4⟩ := HF.out w1 (HB1.out)
    go_wp2_with fail
    refine (HC2 _).out.mono ?_
    rintro e w2 ⟨rfl, hb2⟩
    have HB2 : Hid (Below WB.heap.size WB w2) := belS HB1.out hb2
    clear hb2
    clear xf0 xf1 xf2 xf3 xf4
    obtain ⟨xf0, xf1, xf2, xf3, xf4⟩ := HF.out w2 (HB2.out)
    go_upto_region 5 with fail
    clear xf0 xf1 xf2 xf3 xf4
    refine wp_region_held_drew (S := fun W => W.cell? ⟨w.heap.size, 0, none⟩ = some (.int .i64 a) ∧ W.cell? ⟨w.heap.size, 1, none⟩ = some (.int .i64 p) ∧ W.cell? ⟨w.heap.size, 2, none⟩ = some (.int .i64 b) ∧ W.cell? ⟨w.heap.size, 3, none⟩ = some (.int .i64 q) ∧ w.heap.size < W.heap.size) (by kernel_rfl) (HF.out _ (HB2.out).drew) (fun hHeld => ?_)
    refine wpAnyH_take (i := 0) (v := ?_) rfl (by kernel_rfl) (by kernel_rfl) (by kernel_rfl) (fun _ _ _ h => h) (Or.inl ⟨by kernel_rfl, ?_⟩) (by assumption) ?_
    rotate_left
    · (intro w hSw; (try dsimp only at hSw); go_simp)
      try with_reducible rfl
    try simp only [Act.put, List.setIfInBounds_toArray, List.set_cons_zero, List.set_cons_succ, List.getElem_toArray, List.getElem_cons_zero]
    refine wpAnyH_take (i := 1) (v := ?_) rfl (by kernel_rfl) (by kernel_rfl) (by kernel_rfl) (fun _ _ _ h => h) (Or.inl ⟨by kernel_rfl, ?_⟩) (by assumption) ?_
    rotate_left
    · (intro w hSw; (try dsimp only at hSw); go_simp)
      try with_reducible rfl
    try simp only [Act.put, List.setIfInBounds_toArray, List.set_cons_zero, List.set_cons_succ, List.getElem_toArray, List.getElem_cons_zero, List.getElem_cons_succ]
    refine wpAnyH_take (i := 3) (v := ?_) rfl (by kernel_rfl) (by kernel_rfl) (by kernel_rfl) (fun _ _ _ h => h) (Or.inl ⟨by kernel_rfl, ?_⟩) (by assumption) ?_
    rotate_left
    · (intro w hSw; (try dsimp only at hSw); go_simp)
      try with_reducible rfl
    try simp only [Act.put, List.setIfInBounds_toArray, List.set_cons_zero, List.set_cons_succ, List.getElem_toArray, List.getElem_cons_zero, List.getElem_cons_succ]
    refine wpAnyH_take (i := 4) (v := ?_) rfl (by kernel_rfl) (by kernel_rfl) (by kernel_rfl) (fun _ _ _ h => h) (Or.inl ⟨by kernel_rfl, ?_⟩) (by assumption) ?_
    rotate_left
    · (intro w hSw; (try dsimp only at hSw); go_simp)
      try with_reducible rfl
    try simp only [Act.put, List.setIfInBounds_toArray, List.set_cons_zero, List.set_cons_succ, List.getElem_toArray, List.getElem_cons_zero, List.getElem_cons_succ]
    refine wpAnyH_ready (rs := [2]) (by kernel_rfl) (by simp) ?_
    refine AllReadyH.cons rfl (fun K hK => ?_) AllReadyH.nil
    go_simp
    go_at_call 167
    refine (HT1 _).out.mono ?_
    rintro e wc ⟨rfl, hbc⟩
    have HBc : Hid (Below WB.heap.size WB wc) := belS (HB2.out.drew) hbc
    clear hbc
    try dsimp only
    refine hK.out _ _ (HF.out _ HBc.out) (fun hHeld => ?_)
    clear hK K
    try simp only [Act.put, List.setIfInBounds_toArray, List.set_cons_zero, List.set_cons_succ, List.getElem_toArray, List.getElem_cons_zero, List.getElem_cons_succ]
    refine wpAnyH_ready (rs := [5]) (by kernel_rfl) (by simp) ?_
    refine AllReadyH.cons rfl (fun K hK => ?_) AllReadyH.nil
    go_simp
    go_at_call 167
    refine (HT2 _).out.mono ?_
    rintro e wd ⟨rfl, hbd⟩
    have HBd : Hid (Below WB.heap.size WB wd) := belS (HBc.out) hbd
    clear hbd
    try dsimp only
    refine hK.out _ _ (HF.out _ HBd.out) (fun hHeld => ?_)
    clear hK K
    try simp only [Act.put, List.setIfInBounds_toArray, List.set_cons_zero, List.set_cons_succ, List.getElem_toArray, List.getElem_cons_zero, List.getElem_cons_succ]
    refine wpAnyH_ready (rs := [6]) (by kernel_rfl) (by simp) ?_
    refine AllReadyH.cons rfl (fun K hK => ?_) AllReadyH.nil
    go_simp
    go_at_call 166
    refine (HC3 _).out.mono ?_
    rintro e wf ⟨rfl, hbf⟩
    have HBf : Hid (Below WB.heap.size WB wf) := belS (HBd.out) hbf
    clear hbf
    try dsimp only
    refine hK.out _ _ (HF.out _ HBf.out) (fun hHeld => ?_)
    clear hK K
    try simp only [Act.put, List.setIfInBounds_toArray, List.set_cons_zero, List.set_cons_succ, List.getElem_toArray, List.getElem_cons_zero, List.getElem_cons_succ]
    refine wpAnyH_take (i := 7) (v := ?_) rfl (by kernel_rfl) (by kernel_rfl) (by kernel_rfl) (fun _ _ _ h => h) (Or.inl ⟨by kernel_rfl, ?_⟩) (by assumption) ?_
    rotate_left
    · (intro w hSw; (try dsimp only at hSw); go_simp)
      try with_reducible rfl
    try simp only [Act.put, List.setIfInBounds_toArray, List.set_cons_zero, List.set_cons_succ, List.getElem_toArray, List.getElem_cons_zero, List.getElem_cons_succ]
    refine wpAnyH_take (i := 8) (v := ?_) rfl (by kernel_rfl) (by kernel_rfl) (by kernel_rfl) (fun _ _ _ h => h) (Or.inl ⟨by kernel_rfl, ?_⟩) (by assumption) ?_
    rotate_left
    · (intro w hSw; (try dsimp only at hSw); go_simp)
      try with_reducible rfl
    try simp only [Act.put, List.setIfInBounds_toArray, List.set_cons_zero, List.set_cons_succ, List.getElem_toArray, List.getElem_cons_zero, List.getElem_cons_succ]
    refine wpAnyH_done (by kernel_rfl) ?_ _
    clear hHeld
    go_upto_region 6 with fail
    refine wp_region_held_drew (S := fun W => W.cell? ⟨w.heap.size, 0, none⟩ = some (.int .i64 a) ∧ W.cell? ⟨w.heap.size, 1, none⟩ = some (.int .i64 p) ∧ W.cell? ⟨w.heap.size, 2, none⟩ = some (.int .i64 b) ∧ W.cell? ⟨w.heap.size, 3, none⟩ = some (.int .i64 q) ∧ w.heap.size < W.heap.size) (by kernel_rfl) (HF.out _ (HBf.out).drew) (fun hHeld => ?_)
    refine wpAnyH_take (i := 0) (v := ?_) rfl (by kernel_rfl) (by kernel_rfl) (by kernel_rfl) (fun _ _ _ h => h) (Or.inl ⟨by kernel_rfl, ?_⟩) (by assumption) ?_
    rotate_left
    · (intro w hSw; (try dsimp only at hSw); go_simp)
      try with_reducible rfl
    try simp only [Act.put, List.setIfInBounds_toArray, List.set_cons_zero, List.set_cons_succ, List.getElem_toArray, List.getElem_cons_zero]
    refine wpAnyH_take (i := 1) (v := ?_) rfl (by kernel_rfl) (by kernel_rfl) (by kernel_rfl) (fun _ _ _ h => h) (Or.inl ⟨by kernel_rfl, ?_⟩) (by assumption) ?_
    rotate_left
    · (intro w hSw; (try dsimp only at hSw); go_simp)
      try with_reducible rfl
    try simp only [Act.put, List.setIfInBounds_toArray, List.set_cons_zero, List.set_cons_succ, List.getElem_toArray, List.getElem_cons_zero, List.getElem_cons_succ]
    refine wpAnyH_take (i := 3) (v := ?_) rfl (by kernel_rfl) (by kernel_rfl) (by kernel_rfl) (fun _ _ _ h => h) (Or.inl ⟨by kernel_rfl, ?_⟩) (by assumption) ?_
    rotate_left
    · (intro w hSw; (try dsimp only at hSw); go_simp)
      try with_reducible rfl
    try simp only [Act.put, List.setIfInBounds_toArray, List.set_cons_zero, List.set_cons_succ, List.getElem_toArray, List.getElem_cons_zero, List.getElem_cons_succ]
    refine wpAnyH_take (i := 4) (v := ?_) rfl (by kernel_rfl) (by kernel_rfl) (by kernel_rfl) (fun _ _ _ h => h) (Or.inl ⟨by kernel_rfl, ?_⟩) (by assumption) ?_
    rotate_left
    · (intro w hSw; (try dsimp only at hSw); go_simp)
      try with_reducible rfl
    try simp only [Act.put, List.setIfInBounds_toArray, List.set_cons_zero, List.set_cons_succ, List.getElem_toArray, List.getElem_cons_zero, List.getElem_cons_succ]
    refine wpAnyH_take (i := 5) (v := ?_) rfl (by kernel_rfl) (by kernel_rfl) (by kernel_rfl) (fun _ _ _ h => h) (Or.inl ⟨by kernel_rfl, ?_⟩) (by assumption) ?_
    rotate_left
    · (intro w hSw; (try dsimp only at hSw); go_simp)
      try with_reducible rfl
    try simp only [Act.put, List.setIfInBounds_toArray, List.set_cons_zero, List.set_cons_succ, List.getElem_toArray, List.getElem_cons_zero, List.getElem_cons_succ]
    refine wpAnyH_take (i := 7) (v := ?_) rfl (by kernel_rfl) (by kernel_rfl) (by kernel_rfl) (fun _ _ _ h => h) (Or.inl ⟨by kernel_rfl, ?_⟩) (by assumption) ?_
    rotate_left
    · (intro w hSw; (try dsimp only at hSw); go_simp)
      try with_reducible rfl
    try simp only [Act.put, List.setIfInBounds_toArray, List.set_cons_zero, List.set_cons_succ, List.getElem_toArray, List.getElem_cons_zero, List.getElem_cons_succ]
    refine wpAnyH_take (i := 8) (v := ?_) rfl (by kernel_rfl) (by kernel_rfl) (by kernel_rfl) (fun _ _ _ h => h) (Or.inl ⟨by kernel_rfl, ?_⟩) (by assumption) ?_
    rotate_left
    · (intro w hSw; (try dsimp only at hSw); go_simp)
      try with_reducible rfl
    try simp only [Act.put, List.setIfInBounds_toArray, List.set_cons_zero, List.set_cons_succ, List.getElem_toArray, List.getElem_cons_zero, List.getElem_cons_succ]
    refine wpAnyH_take (i := 12) (v := ?_) rfl (by kernel_rfl) (by kernel_rfl) (by kernel_rfl) (fun _ _ _ h => h) (Or.inl ⟨by kernel_rfl, ?_⟩) (by assumption) ?_
    rotate_left
    · (intro w hSw; (try dsimp only at hSw); go_simp)
      try with_reducible rfl
    try simp only [Act.put, List.setIfInBounds_toArray, List.set_cons_zero, List.set_cons_succ, List.getElem_toArray, List.getElem_cons_zero, List.getElem_cons_succ]
    refine wpAnyH_ready (rs := [2]) (by kernel_rfl) (by simp) ?_
    refine AllReadyH.cons rfl (fun K hK => ?_) AllReadyH.nil
    go_simp
    go_at_call 168
    refine (HP1 _).out.mono ?_
    rintro e wg ⟨rfl, hbg⟩
    have HBg : Hid (Below WB.heap.size WB wg) := belS (HBf.out.drew) hbg
    clear hbg
    try dsimp only
    refine hK.out _ _ (HF.out _ HBg.out) (fun hHeld => ?_)
    clear hK K
    try simp only [Act.put, List.setIfInBounds_toArray, List.set_cons_zero, List.set_cons_succ, List.getElem_toArray, List.getElem_cons_zero, List.getElem_cons_succ]
    refine wpAnyH_take (i := 6) (v := ?_) rfl (by kernel_rfl) (by kernel_rfl) (by kernel_rfl) (fun _ _ _ h => h) (Or.inl ⟨by kernel_rfl, ?_⟩) (by assumption) ?_
    rotate_left
    · (intro w hSw; (try dsimp only at hSw); go_simp)
      try with_reducible rfl
    try simp only [Act.put, List.setIfInBounds_toArray, List.set_cons_zero, List.set_cons_succ, List.getElem_toArray, List.getElem_cons_zero, List.getElem_cons_succ]
    refine wpAnyH_ready (rs := [9]) (by kernel_rfl) (by simp) ?_
    refine AllReadyH.cons rfl (fun K hK => ?_) AllReadyH.nil
    go_simp
    go_at_call 168
    refine (HP2 _).out.mono ?_
    rintro e wh ⟨rfl, hbh⟩
    have HBh : Hid (Below WB.heap.size WB wh) := belS (HBg.out) hbh
    clear hbh
    try dsimp only
    refine hK.out _ _ (HF.out _ HBh.out) (fun hHeld => ?_)
    clear hK K
    try simp only [Act.put, List.setIfInBounds_toArray, List.set_cons_zero, List.set_cons_succ, List.getElem_toArray, List.getElem_cons_zero, List.getElem_cons_succ]
    refine wpAnyH_take (i := 10) (v := ?_) rfl (by kernel_rfl) (by kernel_rfl) (by kernel_rfl) (fun _ _ _ h => h) (Or.inl ⟨by kernel_rfl, ?_⟩) (by assumption) ?_
    rotate_left
    · (intro w hSw; (try dsimp only at hSw); go_simp)
      try with_reducible rfl
    try simp only [Act.put, List.setIfInBounds_toArray, List.set_cons_zero, List.set_cons_succ, List.getElem_toArray, List.getElem_cons_zero, List.getElem_cons_succ]
    refine wpAnyH_take (i := 11) (v := ?_) rfl (by kernel_rfl) (by kernel_rfl) (by kernel_rfl) (fun _ _ _ h => h) (Or.inl ⟨by kernel_rfl, ?_⟩) (by assumption) ?_
    rotate_left
    · (intro w hSw; (try dsimp only at hSw); go_simp)
      try with_reducible rfl
    try simp only [Act.put, List.setIfInBounds_toArray, List.set_cons_zero, List.set_cons_succ, List.getElem_toArray, List.getElem_cons_zero, List.getElem_cons_succ]
    refine wpAnyH_take (i := 13) (v := ?_) rfl (by kernel_rfl) (by kernel_rfl) (by kernel_rfl) (fun _ _ _ h => h) (Or.inl ⟨by kernel_rfl, ?_⟩) (by assumption) ?_
    rotate_left
    · (intro w hSw; (try dsimp only at hSw); go_simp)
      try with_reducible rfl
    try simp only [Act.put, List.setIfInBounds_toArray, List.set_cons_zero, List.set_cons_succ, List.getElem_toArray, List.getElem_cons_zero, List.getElem_cons_succ]
    refine wpAnyH_take (i := 14) (v := ?_) rfl (by kernel_rfl) (by kernel_rfl) (by kernel_rfl) (fun _ _ _ h => h) (Or.inl ⟨by kernel_rfl, ?_⟩) (by assumption) ?_
    rotate_left
    · (intro w hSw; (try dsimp only at hSw); go_simp)
      try with_reducible rfl
    try simp only [Act.put, List.setIfInBounds_toArray, List.set_cons_zero, List.set_cons_succ, List.getElem_toArray, List.getElem_cons_zero, List.getElem_cons_succ]
    refine wpAnyH_done (by kernel_rfl) ?_ _
    clear hHeld
    go_wp2_with fail
    all_goals go_ret
    all_goals exact ⟨by rw [HN2.out]; rfl, HBB.out.trans (HBh.out.mono HBB.out.size)⟩
  · rw [if_neg k3] at HN2
    by_cases k4 : p = 1
    · have d3 : (p != 1) = false := by simpa using k4
      clear k3 k4
      go_enter Tryz.func94, Tryz.ntmps94
      go_upto_region 1 with fail
      rw [HWB.out]
      clear HWB
      go_wp2_with fail
      refine (HC1 _).out.mono ?_
      rintro e w1 ⟨rfl, hb1⟩
      have HB1 := Lib.hid hb1
      clear hb1
      clear xf0 xf1 xf2 xf3 xf4
      obtain ⟨xf0, xf1, xf2, xf3, xf4⟩ := HF.out w1 (HB1.out)
      go_wp2_with fail
      refine (HC2 _).out.mono ?_
      rintro e w2 ⟨rfl, hb2⟩
      have HB2 : Hid (Below WB.heap.size WB w2) := belS HB1.out hb2
      clear hb2
      clear xf0 xf1 xf2 xf3 xf4
      obtain ⟨xf0, xf1, xf2, xf3, xf4⟩ := HF.out w2 (HB2.out)
      go_upto_region 6 with fail
      clear xf0 xf1 xf2 xf3 xf4
      refine wp_region_held_drew (S := fun W => W.cell? ⟨w.heap.size, 0, none⟩ = some (.int .i64 a) ∧ W.cell? ⟨w.heap.size, 1, none⟩ = some (.int .i64 p) ∧ W.cell? ⟨w.heap.size, 2, none⟩ = some (.int .i64 b) ∧ W.cell? ⟨w.heap.size, 3, none⟩ = some (.int .i64 q) ∧ w.heap.size < W.heap.size) (by kernel_rfl) (HF.out _ (HB2.out).drew) (fun hHeld => ?_)
      refine wpAnyH_take (i := 0) (v := ?_) rfl (by kernel_rfl) (by kernel_rfl) (by kernel_rfl) (fun _ _ _ h => h) (Or.inl ⟨by kernel_rfl, ?_⟩) (by assumption) ?_
      rotate_left
      · (intro w hSw; (try dsimp only at hSw); go_simp)
        try with_reducible rfl
      try simp only [Act.put, List.setIfInBounds_toArray, List.set_cons_zero, List.set_cons_succ, List.getElem_toArray, List.getElem_cons_zero]
      refine wpAnyH_take (i := 1) (v := ?_) rfl (by kernel_rfl) (by kernel_rfl) (by kernel_rfl) (fun _ _ _ h => h) (Or.inl ⟨by kernel_rfl, ?_⟩) (by assumption) ?_
      rotate_left
      · (intro w hSw; (try dsimp only at hSw); go_simp)
        try with_reducible rfl
      try simp only [Act.put, List.setIfInBounds_toArray, List.set_cons_zero, List.set_cons_succ, List.getElem_toArray, List.getElem_cons_zero, List.getElem_cons_succ]
      refine wpAnyH_take (i := 3) (v := ?_) rfl (by kernel_rfl) (by kernel_rfl) (by kernel_rfl) (fun _ _ _ h => h) (Or.inl ⟨by kernel_rfl, ?_⟩) (by assumption) ?_
      rotate_left
      · (intro w hSw; (try dsimp only at hSw); go_simp)
        try with_reducible rfl
      try simp only [Act.put, List.setIfInBounds_toArray, List.set_cons_zero, List.set_cons_succ, List.getElem_toArray, List.getElem_cons_zero, List.getElem_cons_succ]
      refine wpAnyH_take (i := 4) (v := ?_) rfl (by kernel_rfl) (by kernel_rfl) (by kernel_rfl) (fun _ _ _ h => h) (Or.inl ⟨by kernel_rfl, ?_⟩) (by assumption) ?_
      rotate_left
      · (intro w hSw; (try dsimp only at hSw); go_simp)
        try with_reducible rfl
      try simp only [Act.put, List.setIfInBounds_toArray, List.set_cons_zero, List.set_cons_succ, List.getElem_toArray, List.getElem_cons_zero, List.getElem_cons_succ]
      refine wpAnyH_take (i := 5) (v := ?_) rfl (by kernel_rfl) (by kernel_rfl) (by kernel_rfl) (fun _ _ _ h => h) (Or.inl ⟨by kernel_rfl, ?_⟩) (by assumption) ?_
      rotate_left
      · (intro w hSw; (try dsimp only at hSw); go_simp)
        try with_reducible rfl
      try simp only [Act.put, List.setIfInBounds_toArray, List.set_cons_zero, List.set_cons_succ, List.getElem_toArray, List.getElem_cons_zero, List.getElem_cons_succ]
      refine wpAnyH_take (i := 7) (v := ?_) rfl (by kernel_rfl) (by kernel_rfl) (by kernel_rfl) (fun _ _ _ h => h) (Or.inl ⟨by kernel_rfl, ?_⟩) (by assumption) ?_
      rotate_left
      · (intro w hSw; (try dsimp only at hSw); go_simp)
        try with_reducible rfl
      try simp only [Act.put, List.setIfInBounds_toArray, List.set_cons_zero, List.set_cons_succ, List.getElem_toArray, List.getElem_cons_zero, List.getElem_cons_succ]
      refine wpAnyH_take (i := 8) (v := ?_) rfl (by kernel_rfl) (by kernel_rfl) (by kernel_rfl) (fun _ _ _ h => h) (Or.inl ⟨by kernel_rfl, ?_⟩) (by assumption) ?_
      rotate_left
      · (intro w hSw; (try dsimp only at hSw); go_simp)
        try with_reducible rfl
      try simp only [Act.put, List.setIfInBounds_toArray, List.set_cons_zero, List.set_cons_succ, List.getElem_toArray, List.getElem_cons_zero, List.getElem_cons_succ]
      refine wpAnyH_take (i := 12) (v := ?_) rfl (by kernel_rfl) (by kernel_rfl) (by kernel_rfl) (fun _ _ _ h => h) (Or.inl ⟨by kernel_rfl, ?_⟩) (by assumption) ?_
      rotate_left
      · (intro w hSw; (try dsimp only at hSw); go_simp)
        try with_reducible rfl
      try simp only [Act.put, List.setIfInBounds_toArray, List.set_cons_zero, List.set_cons_succ, List.getElem_toArray, List.getElem_cons_zero, List.getElem_cons_succ]
      refine wpAnyH_ready (rs := [2]) (by kernel_rfl) (by simp) ?_
      refine AllReadyH.cons rfl (fun K hK => ?_) AllReadyH.nil
      go_simp
      go_at_call 168
      refine (HP1 _).out.mono ?_
      rintro e wg ⟨rfl, hbg⟩
      have HBg : Hid (Below WB.heap.size WB wg) := belS (HB2.out.drew) hbg
      clear hbg
      try dsimp only
      refine hK.out _ _ (HF.out _ HBg.out) (fun hHeld => ?_)
      clear hK K
      try simp only [Act.put, List.setIfInBounds_toArray, List.set_cons_zero, List.set_cons_succ, List.getElem_toArray, List.getElem_cons_zero, List.getElem_cons_succ]
      refine wpAnyH_take (i := 6) (v := ?_) rfl (by kernel_rfl) (by kernel_rfl) (by kernel_rfl) (fun _ _ _ h => h) (Or.inl ⟨by kernel_rfl, ?_⟩) (by assumption) ?_
      rotate_left
      · (intro w hSw; (try dsimp only at hSw); go_simp)
        try with_reducible rfl
      try simp only [Act.put, List.setIfInBounds_toArray, List.set_cons_zero, List.set_cons_succ, List.getElem_toArray, List.getElem_cons_zero, List.getElem_cons_succ]
      refine wpAnyH_ready (rs := [9]) (by kernel_rfl) (by simp) ?_
      refine AllReadyH.cons rfl (fun K hK => ?_) AllReadyH.nil
      go_simp
      go_at_call 168
      refine (HP2 _).out.mono ?_
      rintro e wh ⟨rfl, hbh⟩
      have HBh : Hid (Below WB.heap.size WB wh) := belS (HBg.out) hbh
      clear hbh
      try dsimp only
      refine hK.out _ _ (HF.out _ HBh.out) (fun hHeld => ?_)
      clear hK K
      try simp only [Act.put, List.setIfInBounds_toArray, List.set_cons_zero, List.set_cons_succ, List.getElem_toArray, List.getElem_cons_zero, List.getElem_cons_succ]
      refine wpAnyH_take (i := 10) (v := ?_) rfl (by kernel_rfl) (by kernel_rfl) (by kernel_rfl) (fun _ _ _ h => h) (Or.inl ⟨by kernel_rfl, ?_⟩) (by assumption) ?_
      rotate_left
      · (intro w hSw; (try dsimp only at hSw); go_simp)
        try with_reducible rfl
      try simp only [Act.put, List.setIfInBounds_toArray, List.set_cons_zero, List.set_cons_succ, List.getElem_toArray, List.getElem_cons_zero, List.getElem_cons_succ]
      refine wpAnyH_take (i := 11) (v := ?_) rfl (by kernel_rfl) (by kernel_rfl) (by kernel_rfl) (fun _ _ _ h => h) (Or.inl ⟨by kernel_rfl, ?_⟩) (by assumption) ?_
      rotate_left
      · (intro w hSw; (try dsimp only at hSw); go_simp)
        try with_reducible rfl
      try simp only [Act.put, List.setIfInBounds_toArray, List.set_cons_zero, List.set_cons_succ, List.getElem_toArray, List.getElem_cons_zero, List.getElem_cons_succ]
      refine wpAnyH_take (i := 13) (v := ?_) rfl (by kernel_rfl) (by kernel_rfl) (by kernel_rfl) (fun _ _ _ h => h) (Or.inl ⟨by kernel_rfl, ?_⟩) (by assumption) ?_
      rotate_left
      · (intro w hSw; (try dsimp only at hSw); go_simp)
        try with_reducible rfl
      try simp only [Act.put, List.setIfInBounds_toArray, List.set_cons_zero, List.set_cons_succ, List.getElem_toArray, List.getElem_cons_zero, List.getElem_cons_succ]
      refine wpAnyH_take (i := 14) (v := ?_) rfl (by kernel_rfl) (by kernel_rfl) (by kernel_rfl) (fun _ _ _ h => h) (Or.inl ⟨by kernel_rfl, ?_⟩) (by assumption) ?_
      rotate_left
      · (intro w hSw; (try dsimp only at hSw); go_simp)
        try with_reducible rfl
      try simp only [Act.put, List.setIfInBounds_toArray, List.set_cons_zero, List.set_cons_succ, List.getElem_toArray, List.getElem_cons_zero, List.getElem_cons_succ]
      refine wpAnyH_done (by kernel_rfl) ?_ _
      clear hHeld
      go_wp2_with fail
      all_goals go_ret
      all_goals exact ⟨by rw [HN2.out]; rfl, HBB.out.trans (HBh.out.mono HBB.out.size)⟩
    · have d3 : (p != 1) = true := by simpa using k4
      have k5 : q = 1 := by
        by_cases k6 : q = 1
        · exact k6
        · exact absurd ⟨k4, k6⟩ k3
      have d4 : (q != 1) = false := by simpa using k5
      clear k3 k4 k5
      go_enter Tryz.func94, Tryz.ntmps94
      go_upto_region 1 with fail
      rw [HWB.out]
      clear HWB
      go_wp2_with fail
      refine (HC1 _).out.mono ?_
      rintro e w1 ⟨rfl, hb1⟩
      have HB1 := Lib.hid hb1
      clear hb1
      clear xf0 xf1 xf2 xf3 xf4
      obtain ⟨xf0, xf1, xf2, xf3, xf4⟩ := HF.out w1 (HB1.out)
      go_wp2_with fail
      refine (HC2 _).out.mono ?_
      rintro e w2 ⟨rfl, hb2⟩
      have HB2 : Hid (Below WB.heap.size WB w2) := belS HB1.out hb2
      clear hb2
      clear xf0 xf1 xf2 xf3 xf4
      obtain ⟨xf0, xf1, xf2, xf3, xf4⟩ := HF.out w2 (HB2.out)
      go_upto_region 6 with fail
      clear xf0 xf1 xf2 xf3 xf4
      refine wp_region_held_drew (S := fun W => W.cell? ⟨w.heap.size, 0, none⟩ = some (.int .i64 a) ∧ W.cell? ⟨w.heap.size, 1, none⟩ = some (.int .i64 p) ∧ W.cell? ⟨w.heap.size, 2, none⟩ = some (.int .i64 b) ∧ W.cell? ⟨w.heap.size, 3, none⟩ = some (.int .i64 q) ∧ w.heap.size < W.heap.size) (by kernel_rfl) (HF.out _ (HB2.out).drew) (fun hHeld => ?_)
      refine wpAnyH_take (i := 0) (v := ?_) rfl (by kernel_rfl) (by kernel_rfl) (by kernel_rfl) (fun _ _ _ h => h) (Or.inl ⟨by kernel_rfl, ?_⟩) (by assumption) ?_
      rotate_left
      · (intro w hSw; (try dsimp only at hSw); go_simp)
        try with_reducible rfl
      try simp only [Act.put, List.setIfInBounds_toArray, List.set_cons_zero, List.set_cons_succ, List.getElem_toArray, List.getElem_cons_zero]
      refine wpAnyH_take (i := 1) (v := ?_) rfl (by kernel_rfl) (by kernel_rfl) (by kernel_rfl) (fun _ _ _ h => h) (Or.inl ⟨by kernel_rfl, ?_⟩) (by assumption) ?_
      rotate_left
      · (intro w hSw; (try dsimp only at hSw); go_simp)
        try with_reducible rfl
      try simp only [Act.put, List.setIfInBounds_toArray, List.set_cons_zero, List.set_cons_succ, List.getElem_toArray, List.getElem_cons_zero, List.getElem_cons_succ]
      refine wpAnyH_take (i := 3) (v := ?_) rfl (by kernel_rfl) (by kernel_rfl) (by kernel_rfl) (fun _ _ _ h => h) (Or.inl ⟨by kernel_rfl, ?_⟩) (by assumption) ?_
      rotate_left
      · (intro w hSw; (try dsimp only at hSw); go_simp)
        try with_reducible rfl
      try simp only [Act.put, List.setIfInBounds_toArray, List.set_cons_zero, List.set_cons_succ, List.getElem_toArray, List.getElem_cons_zero, List.getElem_cons_succ]
      refine wpAnyH_take (i := 4) (v := ?_) rfl (by kernel_rfl) (by kernel_rfl) (by kernel_rfl) (fun _ _ _ h => h) (Or.inl ⟨by kernel_rfl, ?_⟩) (by assumption) ?_
      rotate_left
      · (intro w hSw; (try dsimp only at hSw); go_simp)
        try with_reducible rfl
      try simp only [Act.put, List.setIfInBounds_toArray, List.set_cons_zero, List.set_cons_succ, List.getElem_toArray, List.getElem_cons_zero, List.getElem_cons_succ]
      refine wpAnyH_take (i := 5) (v := ?_) rfl (by kernel_rfl) (by kernel_rfl) (by kernel_rfl) (fun _ _ _ h => h) (Or.inl ⟨by kernel_rfl, ?_⟩) (by assumption) ?_
      rotate_left
      · (intro w hSw; (try dsimp only at hSw); go_simp)
        try with_reducible rfl
      try simp only [Act.put, List.setIfInBounds_toArray, List.set_cons_zero, List.set_cons_succ, List.getElem_toArray, List.getElem_cons_zero, List.getElem_cons_succ]
      refine wpAnyH_take (i := 7) (v := ?_) rfl (by kernel_rfl) (by kernel_rfl) (by kernel_rfl) (fun _ _ _ h => h) (Or.inl ⟨by kernel_rfl, ?_⟩) (by assumption) ?_
      rotate_left
      · (intro w hSw; (try dsimp only at hSw); go_simp)
        try with_reducible rfl
      try simp only [Act.put, List.setIfInBounds_toArray, List.set_cons_zero, List.set_cons_succ, List.getElem_toArray, List.getElem_cons_zero, List.getElem_cons_succ]
      refine wpAnyH_take (i := 8) (v := ?_) rfl (by kernel_rfl) (by kernel_rfl) (by kernel_rfl) (fun _ _ _ h => h) (Or.inl ⟨by kernel_rfl, ?_⟩) (by assumption) ?_
      rotate_left
      · (intro w hSw; (try dsimp only at hSw); go_simp)
        try with_reducible rfl
      try simp only [Act.put, List.setIfInBounds_toArray, List.set_cons_zero, List.set_cons_succ, List.getElem_toArray, List.getElem_cons_zero, List.getElem_cons_succ]
      refine wpAnyH_take (i := 12) (v := ?_) rfl (by kernel_rfl) (by kernel_rfl) (by kernel_rfl) (fun _ _ _ h => h) (Or.inl ⟨by kernel_rfl, ?_⟩) (by assumption) ?_
      rotate_left
      · (intro w hSw; (try dsimp only at hSw); go_simp)
        try with_reducible rfl
      try simp only [Act.put, List.setIfInBounds_toArray, List.set_cons_zero, List.set_cons_succ, List.getElem_toArray, List.getElem_cons_zero, List.getElem_cons_succ]
      refine wpAnyH_ready (rs := [2]) (by kernel_rfl) (by simp) ?_
      refine AllReadyH.cons rfl (fun K hK => ?_) AllReadyH.nil
      go_simp
      go_at_call 168
      refine (HP1 _).out.mono ?_
      rintro e wg ⟨rfl, hbg⟩
      have HBg : Hid (Below WB.heap.size WB wg) := belS (HB2.out.drew) hbg
      clear hbg
      try dsimp only
      refine hK.out _ _ (HF.out _ HBg.out) (fun hHeld => ?_)
      clear hK K
      try simp only [Act.put, List.setIfInBounds_toArray, List.set_cons_zero, List.set_cons_succ, List.getElem_toArray, List.getElem_cons_zero, List.getElem_cons_succ]
      refine wpAnyH_take (i := 6) (v := ?_) rfl (by kernel_rfl) (by kernel_rfl) (by kernel_rfl) (fun _ _ _ h => h) (Or.inl ⟨by kernel_rfl, ?_⟩) (by assumption) ?_
      rotate_left
      · (intro w hSw; (try dsimp only at hSw); go_simp)
        try with_reducible rfl
      try simp only [Act.put, List.setIfInBounds_toArray, List.set_cons_zero, List.set_cons_succ, List.getElem_toArray, List.getElem_cons_zero, List.getElem_cons_succ]
      refine wpAnyH_ready (rs := [9]) (by kernel_rfl) (by simp) ?_
      refine AllReadyH.cons rfl (fun K hK => ?_) AllReadyH.nil
      go_simp
      go_at_call 168
      refine (HP2 _).out.mono ?_
      rintro e wh ⟨rfl, hbh⟩
      have HBh : Hid (Below WB.heap.size WB wh) := belS (HBg.out) hbh
      clear hbh
      try dsimp only
      refine hK.out _ _ (HF.out _ HBh.out) (fun hHeld => ?_)
      clear hK K
      try simp only [Act.put, List.setIfInBounds_toArray, List.set_cons_zero, List.set_cons_succ, List.getElem_toArray, List.getElem_cons_zero, List.getElem_cons_succ]
      refine wpAnyH_take (i := 10) (v := ?_) rfl (by kernel_rfl) (by kernel_rfl) (by kernel_rfl) (fun _ _ _ h => h) (Or.inl ⟨by kernel_rfl, ?_⟩) (by assumption) ?_
      rotate_left
      · (intro w hSw; (try dsimp only at hSw); go_simp)
        try with_reducible rfl
      try simp only [Act.put, List.setIfInBounds_toArray, List.set_cons_zero, List.set_cons_succ, List.getElem_toArray, List.getElem_cons_zero, List.getElem_cons_succ]
      refine wpAnyH_take (i := 11) (v := ?_) rfl (by kernel_rfl) (by kernel_rfl) (by kernel_rfl) (fun _ _ _ h => h) (Or.inl ⟨by kernel_rfl, ?_⟩) (by assumption) ?_
      rotate_left
      · (intro w hSw; (try dsimp only at hSw); go_simp)
        try with_reducible rfl
      try simp only [Act.put, List.setIfInBounds_toArray, List.set_cons_zero, List.set_cons_succ, List.getElem_toArray, List.getElem_cons_zero, List.getElem_cons_succ]
      refine wpAnyH_take (i := 13) (v := ?_) rfl (by kernel_rfl) (by kernel_rfl) (by kernel_rfl) (fun _ _ _ h => h) (Or.inl ⟨by kernel_rfl, ?_⟩) (by assumption) ?_
      rotate_left
      · (intro w hSw; (try dsimp only at hSw); go_simp)
        try with_reducible rfl
      try simp only [Act.put, List.setIfInBounds_toArray, List.set_cons_zero, List.set_cons_succ, List.getElem_toArray, List.getElem_cons_zero, List.getElem_cons_succ]
      refine wpAnyH_take (i := 14) (v := ?_) rfl (by kernel_rfl) (by kernel_rfl) (by kernel_rfl) (fun _ _ _ h => h) (Or.inl ⟨by kernel_rfl, ?_⟩) (by assumption) ?_
      rotate_left
      · (intro w hSw; (try dsimp only at hSw); go_simp)
        try with_reducible rfl
      try simp only [Act.put, List.setIfInBounds_toArray, List.set_cons_zero, List.set_cons_succ, List.getElem_toArray, List.getElem_cons_zero, List.getElem_cons_succ]
      refine wpAnyH_done (by kernel_rfl) ?_ _
      clear hHeld
      go_wp2_with fail
      all_goals go_ret
      all_goals exact ⟨by rw [HN2.out]; rfl, HBB.out.trans (HBh.out.mono HBB.out.size)⟩
end Go.Proofs.YtockinpjfhhkoaaGreatDoor
