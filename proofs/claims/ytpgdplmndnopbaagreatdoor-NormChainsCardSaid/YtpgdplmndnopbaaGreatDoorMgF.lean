/- The parser walked: chains of formulas. -/
import Derived.Test.YtpgdplmndnopbaaGreatDoorMgD
import Derived.Test.YtpgdplmndnopbaaGreatDoorMgE
import Derived.Deep.RegionHeld3
namespace Go.Proofs.YtpgdplmndnopbaaGreatDoor
open Go.RowKit
def pN (n : Nat) : Nat → Bool := fun b => decide (n ≤ b)
def pC (n kr kv : Nat) : Nat → Bool := fun b => decide (n ≤ b) && b != kr && b != kv
def OutF (pb tb deep : Nat) (w : World) (r : PRes F) (e : Ending) (w' : World) : Prop :=
 match r with
 | .ok (x, l') => ∃ v, e = .returned v ∧ FI (pN w.heap.size) w' x v ∧ Ps pb tb w' l' deep ∧ Bt pb w w'
 | .error c => e = .panicked (thr c.1 c.2) ∧ Bt pb w w'
theorem OutF.ok {pb tb deep : Nat} {w w' : World} {x : F} {l : List Tok} {e : Ending} (h : OutF pb tb deep w (.ok (x, l)) e w') :
 ∃ k s a n c, e = .returned (.agg #[.int .u8 k, .string s, .slice a n c]) ∧ FI (pN w.heap.size) w' x (.agg #[.int .u8 k, .string s, .slice a n c]) ∧ Ps pb tb w' l deep ∧ Bt pb w w' := by
 obtain ⟨v, h1, h2, h3⟩ := h
 obtain ⟨k, s, a, n, c, rfl⟩ := h2.shape
 exact ⟨k, s, a, n, c, h1, h2, h3⟩
def set3 (w : World) (g : Nat) (x y z : Value) : World := ((w.setCell ⟨g, 0, none⟩ x).setCell ⟨g, 1, none⟩ y).setCell ⟨g, 2, none⟩ z
theorem set3_at {w : World} {g : Nat} {x' y' z' : Value} {t : TypeId} (h : w.heap[g]? = some (.cells #[x', y', z'] t (0, 0))) (x y z : Value) : (set3 w g x y z).heap[g]? = some (.cells #[x, y, z] t (0, 0)) := by
 simp [set3, World.setCell, Array.getElem?_modify, h]
theorem set3_other (w : World) (g : Nat) (x y z : Value) (j : Nat) (hj : j ≠ g) : (set3 w g x y z).heap[j]? = w.heap[j]? := by
 unfold set3
 rw [Below.heap_setCell _ _ _ _ (by simpa using hj), Below.heap_setCell _ _ _ _ (by simpa using hj), Below.heap_setCell _ _ _ _ (by simpa using hj)]
theorem set3_size (w : World) (g : Nat) (x y z : Value) : (set3 w g x y z).heap.size = w.heap.size := by simp [set3, World.setCell]
theorem Bt.set3 {pb : Nat} {w w' : World} (h : Bt pb w w') {g : Nat} (hg : w.heap.size ≤ g) (x y z : Value) : Bt pb w (set3 w' g x y z) :=
 ⟨h.1, h.2.1, h.2.2.1, by rw [set3_size]; exact h.2.2.2.1, fun k hk hp => (set3_other _ _ _ _ _ _ (by omega)).trans (h.2.2.2.2 k hk hp)⟩
theorem Ps.set3 {pb tb deep : Nat} {w : World} {l : List Tok} (h : Ps pb tb w l deep) {g : Nat} (hg : pb ≠ g) (hT : tb ≠ g) (x y z : Value) : Ps pb tb (set3 w g x y z) l deep := by
 obtain ⟨off, cap, h1, h2, h3, h4, h5, h6⟩ := h.blk
 exact ⟨⟨off, cap, (set3_other _ _ _ _ _ _ hg).trans h1, h2, h3, h4, by rw [set3_size]; exact h5, h6.agree (set3_other _ _ _ _ _ _ hT)⟩, h.ends, h.toks⟩
end Go.Proofs.YtpgdplmndnopbaaGreatDoor

/- What a parser builds, in memory: expressions put together; eight cells laid anew. -/
namespace Go.Proofs.YtpgdplmndnopbaaGreatDoor
open Go.RowKit
theorem XI.atom {p : Nat → Bool} {w : World} {f : F} {k1 : Int} {s1 : ByteArray} {a1 : Option Addr} {l1 c1 : Nat} (h : FI p w f (.agg #[.int .u8 k1, .string s1, .slice a1 l1 c1])) (k : Int) (g c c2 : Nat) (a2 : Option Addr) (fr : Nat × Nat) (hp : p g = true)
 (hg : w.heap[g]? = some (.cells #[.int .u8 k1, .string s1, .slice a1 l1 c1] 61 fr)) :
 XI p w (.mk k [f] [] noSpan) (.agg #[.int .u8 k, .slice (some ⟨g, 0, none⟩) 1 c, .slice a2 0 c2, .int .i64 0, .bool false, .int .i64 0, .bool false, .bool false]) := by
 obtain ⟨n, t', h1, h2⟩ := h
 refine ⟨n, 1, (k, [t'], [], noSpan), by simp [toX, h1], _, c, a2, c2, rfl, ⟨by simp, .inr ⟨g, 0, rfl, (Array.getElem?_eq_some_iff.1 hg).1, fun i hi => ?_⟩⟩, by simp, .inl rfl⟩
 have hi0 : i = 0 := by simp at hi; omega
 subst hi0
 refine ⟨[.int .u8 k1, .string s1, .slice a1 l1 c1], rfl, fun j hj => ?_, h2⟩
 rw [List.getElem?_eq_getElem (by simpa using hj)]
 refine cell_cutP hp ?_
 rw [Lib.cell_of_heap hg]
 match j, hj with
 | 0, _ => rfl
 | 1, _ => rfl
 | 2, _ => rfl
theorem XI.one {p : Nat → Bool} {w : World} {t : X} {k1 lo1 hi1 : Int} {ls1 hs1 op1 : Bool} {a1 b1 : Option Addr} {l1 c1 m1 d1 : Nat}
 (h : XI p w t (.agg #[.int .u8 k1, .slice a1 l1 c1, .slice b1 m1 d1, .int .i64 lo1, .bool ls1, .int .i64 hi1, .bool hs1, .bool op1])) (k lo hi : Int) (ls hs op : Bool) (g c c2 : Nat) (a2 : Option Addr) (fr : Nat × Nat) (hp : p g = true)
 (hg : w.heap[g]? = some (.cells #[.int .u8 k1, .slice a1 l1 c1, .slice b1 m1 d1, .int .i64 lo1, .bool ls1, .int .i64 hi1, .bool hs1, .bool op1] 28 fr)) :
 XI p w (.mk k [] [t] ⟨lo, ls, hi, hs, op⟩) (.agg #[.int .u8 k, .slice a2 0 c2, .slice (some ⟨g, 0, none⟩) 1 c, .int .i64 lo, .bool ls, .int .i64 hi, .bool hs, .bool op]) := by
 obtain ⟨m, n, t', h1, h2⟩ := h
 refine ⟨m, n + 1, (k, [], [t'], ⟨lo, ls, hi, hs, op⟩), by simp [toX, h1], a2, c2, _, c, rfl, ⟨by simp, .inl rfl⟩, by simp, .inr ⟨g, 0, rfl, (Array.getElem?_eq_some_iff.1 hg).1, fun i hi => ?_⟩⟩
 have hi0 : i = 0 := by simp at hi; omega
 subst hi0
 refine ⟨[.int .u8 k1, .slice a1 l1 c1, .slice b1 m1 d1, .int .i64 lo1, .bool ls1, .int .i64 hi1, .bool hs1, .bool op1], rfl, fun j hj => ?_, h2⟩
 rw [List.getElem?_eq_getElem (by simpa using hj)]
 refine cell_cutP hp ?_
 rw [Lib.cell_of_heap hg]
 match j, hj with
 | 0, _ => rfl
 | 1, _ => rfl
 | 2, _ => rfl
 | 3, _ => rfl
 | 4, _ => rfl
 | 5, _ => rfl
 | 6, _ => rfl
 | 7, _ => rfl
set_option maxHeartbeats 4000000 in
theorem XI.two {p : Nat → Bool} {w : World} {t u : X} {k1 lo1 hi1 k2 lo2 hi2 : Int} {ls1 hs1 op1 ls2 hs2 op2 : Bool} {a1 b1 a2 b2 : Option Addr} {l1 c1 m1 d1 l2 c2 m2 d2 : Nat}
 (h : XI p w t (.agg #[.int .u8 k1, .slice a1 l1 c1, .slice b1 m1 d1, .int .i64 lo1, .bool ls1, .int .i64 hi1, .bool hs1, .bool op1]))
 (h' : XI p w u (.agg #[.int .u8 k2, .slice a2 l2 c2, .slice b2 m2 d2, .int .i64 lo2, .bool ls2, .int .i64 hi2, .bool hs2, .bool op2])) (k : Int) (g c c0 : Nat) (a0 : Option Addr) (fr : Nat × Nat) (hp : p g = true)
 (hg : w.heap[g]? = some (.cells #[.int .u8 k1, .slice a1 l1 c1, .slice b1 m1 d1, .int .i64 lo1, .bool ls1, .int .i64 hi1, .bool hs1, .bool op1, .int .u8 k2, .slice a2 l2 c2, .slice b2 m2 d2, .int .i64 lo2, .bool ls2, .int .i64 hi2, .bool hs2, .bool op2] 28 fr)) :
 XI p w (joinX k t u) (.agg #[.int .u8 k, .slice a0 0 c0, .slice (some ⟨g, 0, none⟩) 2 c, .int .i64 0, .bool false, .int .i64 0, .bool false, .bool false]) := by
 obtain ⟨m, n, t', h1, h2⟩ := h
 obtain ⟨m', n', u', h1', h2'⟩ := h'
 obtain ⟨t1, e1, e2⟩ := repM_to h2 m'
 obtain ⟨u1, e1', e2'⟩ := repM_to h2' m
 obtain ⟨t2, g1, g2⟩ := repX_to e2 n'
 obtain ⟨u2, g1', g2'⟩ := repX_to e2' n
 rw [e1, h1] at g1
 rw [e1', h1'] at g1'
 revert u2
 rw [Nat.add_comm n' n, Nat.add_comm m' m]
 intro u2 g1' g2'
 refine ⟨m + m', n + n' + 1, (k, [], [t2, u2], noSpan), by simp [toX, g1, g1', joinX], a0, c0, _, c, rfl, ⟨by simp, .inl rfl⟩, by simp, .inr ⟨g, 0, rfl, (Array.getElem?_eq_some_iff.1 hg).1, fun i hi => ?_⟩⟩
 have hi2 : i = 0 ∨ i = 1 := by simp at hi; omega
 rcases hi2 with rfl | rfl
 ·refine ⟨[.int .u8 k1, .slice a1 l1 c1, .slice b1 m1 d1, .int .i64 lo1, .bool ls1, .int .i64 hi1, .bool hs1, .bool op1], rfl, fun j hj => ?_, g2⟩
  rw [List.getElem?_eq_getElem (by simpa using hj)]
  refine cell_cutP hp ?_
  rw [Lib.cell_of_heap hg]
  match j, hj with
  | 0, _ => rfl
  | 1, _ => rfl
  | 2, _ => rfl
  | 3, _ => rfl
  | 4, _ => rfl
  | 5, _ => rfl
  | 6, _ => rfl
  | 7, _ => rfl
 ·refine ⟨[.int .u8 k2, .slice a2 l2 c2, .slice b2 m2 d2, .int .i64 lo2, .bool ls2, .int .i64 hi2, .bool hs2, .bool op2], rfl, fun j hj => ?_, g2'⟩
  rw [List.getElem?_eq_getElem (by simpa using hj)]
  refine cell_cutP hp ?_
  rw [Lib.cell_of_heap hg]
  match j, hj with
  | 0, _ => rfl
  | 1, _ => rfl
  | 2, _ => rfl
  | 3, _ => rfl
  | 4, _ => rfl
  | 5, _ => rfl
  | 6, _ => rfl
  | 7, _ => rfl
def OutX (pb tb deep : Nat) (w : World) (r : PRes X) (e : Ending) (w' : World) : Prop :=
 match r with
 | .ok (x, l') => ∃ v, e = .returned v ∧ XI (pN w.heap.size) w' x v ∧ Ps pb tb w' l' deep ∧ Bt pb w w'
 | .error c => e = .panicked (thr c.1 c.2) ∧ Bt pb w w'
theorem OutX.ok {pb tb deep : Nat} {w w' : World} {x : X} {l : List Tok} {e : Ending} (h : OutX pb tb deep w (.ok (x, l)) e w') :
 ∃ k a n c b m d lo ls hi hs op, e = .returned (.agg #[.int .u8 k, .slice a n c, .slice b m d, .int .i64 lo, .bool ls, .int .i64 hi, .bool hs, .bool op]) ∧
  XI (pN w.heap.size) w' x (.agg #[.int .u8 k, .slice a n c, .slice b m d, .int .i64 lo, .bool ls, .int .i64 hi, .bool hs, .bool op]) ∧ Ps pb tb w' l deep ∧ Bt pb w w' := by
 obtain ⟨v, h1, h2, h3⟩ := h
 obtain ⟨k, a, n, c, b, m, d, lo, ls, hi, hs, op, rfl⟩ := h2.shape
 exact ⟨k, a, n, c, b, m, d, lo, ls, hi, hs, op, h1, h2, h3⟩
def set8 (w : World) (g : Nat) (v0 v1 v2 v3 v4 v5 v6 v7 : Value) : World :=
 (((((((w.setCell ⟨g, 0, none⟩ v0).setCell ⟨g, 1, none⟩ v1).setCell ⟨g, 2, none⟩ v2).setCell ⟨g, 3, none⟩ v3).setCell ⟨g, 4, none⟩ v4).setCell ⟨g, 5, none⟩ v5).setCell ⟨g, 6, none⟩ v6).setCell ⟨g, 7, none⟩ v7
theorem set8_at {w : World} {g : Nat} {u0 u1 u2 u3 u4 u5 u6 u7 : Value} {t : TypeId} (h : w.heap[g]? = some (.cells #[u0, u1, u2, u3, u4, u5, u6, u7] t (0, 0))) (v0 v1 v2 v3 v4 v5 v6 v7 : Value) :
 (set8 w g v0 v1 v2 v3 v4 v5 v6 v7).heap[g]? = some (.cells #[v0, v1, v2, v3, v4, v5, v6, v7] t (0, 0)) := by
 simp [set8, World.setCell, Array.getElem?_modify, h]
theorem setCell_at {w : World} {g : Nat} {cs : Array Value} {t : TypeId} {fz : Nat × Nat} (h : w.heap[g]? = some (.cells cs t fz)) (j : Nat) (v : Value) : (w.setCell ⟨g, j, none⟩ v).heap[g]? = some (.cells (cs.setIfInBounds j v) t fz) := by
 simp [World.setCell, Array.getElem?_modify, h]
theorem setCell_other' (w : World) (g i : Nat) (v : Value) (j : Nat) (hj : j ≠ g) : (w.setCell ⟨g, i, none⟩ v).heap[j]? = w.heap[j]? := Below.heap_setCell _ _ _ _ (by simpa using hj)
set_option maxHeartbeats 2000000 in
theorem set8_other (w : World) (g : Nat) (v0 v1 v2 v3 v4 v5 v6 v7 : Value) (j : Nat) (hj : j ≠ g) : (set8 w g v0 v1 v2 v3 v4 v5 v6 v7).heap[j]? = w.heap[j]? := by
 unfold set8
 rw [setCell_other' _ g _ _ j hj, setCell_other' _ g _ _ j hj, setCell_other' _ g _ _ j hj, setCell_other' _ g _ _ j hj, setCell_other' _ g _ _ j hj, setCell_other' _ g _ _ j hj, setCell_other' _ g _ _ j hj, setCell_other' _ g _ _ j hj]
theorem set8_size (w : World) (g : Nat) (v0 v1 v2 v3 v4 v5 v6 v7 : Value) : (set8 w g v0 v1 v2 v3 v4 v5 v6 v7).heap.size = w.heap.size := by simp [set8, World.setCell]
theorem Bt.setCell {pb : Nat} {w w' : World} (h : Bt pb w w') {g : Nat} (hg : w.heap.size ≤ g) (i : Nat) (v : Value) : Bt pb w (w'.setCell ⟨g, i, none⟩ v) :=
 ⟨h.1, h.2.1, h.2.2.1, by simpa [World.setCell] using h.2.2.2.1, fun k hk hp => (setCell_other' _ _ _ _ _ (by omega)).trans (h.2.2.2.2 k hk hp)⟩
theorem Bt.set8 {pb : Nat} {w w' : World} (h : Bt pb w w') {g : Nat} (hg : w.heap.size ≤ g) (v0 v1 v2 v3 v4 v5 v6 v7 : Value) : Bt pb w (set8 w' g v0 v1 v2 v3 v4 v5 v6 v7) := by
 unfold Go.Proofs.YtpgdplmndnopbaaGreatDoor.set8
 exact (((((((h.setCell hg 0 v0).setCell hg 1 v1).setCell hg 2 v2).setCell hg 3 v3).setCell hg 4 v4).setCell hg 5 v5).setCell hg 6 v6).setCell hg 7 v7
theorem Ps.set8 {pb tb deep : Nat} {w : World} {l : List Tok} (h : Ps pb tb w l deep) {g : Nat} (hg : pb ≠ g) (hT : tb ≠ g) (v0 v1 v2 v3 v4 v5 v6 v7 : Value) : Ps pb tb (set8 w g v0 v1 v2 v3 v4 v5 v6 v7) l deep := by
 obtain ⟨off, cap, h1, h2, h3, h4, h5, h6⟩ := h.blk
 exact ⟨⟨off, cap, (set8_other _ _ _ _ _ _ _ _ _ _ _ hg).trans h1, h2, h3, h4, by rw [set8_size]; exact h5, h6.agree (set8_other _ _ _ _ _ _ _ _ _ _ _ hT)⟩, h.ends, h.toks⟩
end Go.Proofs.YtpgdplmndnopbaaGreatDoor
