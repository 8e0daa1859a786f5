/- Signals (slices of segments) in memory, and the iterator signal.begins over them. -/
import Derived.RangeFuncNested
import Derived.RangeFuncBound
import Derived.RangeFuncCalls
import Derived.RangeFuncLeaves
import Derived.Shelf.Abstract
import Derived.Shelf.RegionOpen
import Derived.WalkKit
import Derived.WalkSpells
import Derived.WalkLawsBesides
import Derived.OwnWalkIn
import Derived.TacticsInMore
import Derived.LoopNIn
import Derived.LoopIn
import Derived.Lib.Hide
import Derived.Test.YtnpaoekblfflmaaRows
namespace Go.Proofs.Ytnpaoekblfflmaa
open Go.RowKit Go.Shelf
attribute [local go_sem] Oper.semAt_some

/-- Segments' cells: from off on, in block b. -/
def SegC (w : World) (b off : Nat) (l : List (Int × Int)) : Prop :=
  ∀ i, i < l.length → w.cell? ⟨b, off + i * 2, none⟩ = some (.int .i64 (l[i]?.getD (0, 0)).1) ∧ w.cell? ⟨b, off + i * 2 + 1, none⟩ = some (.int .u8 (l[i]?.getD (0, 0)).2)

theorem SegC.below {w w' : World} {B b off : Nat} {l : List (Int × Int)} (hb : Below B w w') (hlt : b < B) (h : SegC w b off l) : SegC w' b off l :=
  fun i hi => ⟨(hb.cell (p := ⟨b, _, none⟩) hlt).trans (h i hi).1, (hb.cell (p := ⟨b, _, none⟩) hlt).trans (h i hi).2⟩

/-- The moment where segment j begins, as the program reckons it. -/
def atOf (l : List (Int × Int)) : Nat → Int
  | 0 => 0
  | j + 1 => wrap64 (atOf l j + (l[j]?.getD (0, 0)).1)

/-- What comes at round j. -/
def itemOf (l : List (Int × Int)) (j : Nat) : Int × Int × Int := (atOf l j, (l[j]?.getD (0, 0)).1, (l[j]?.getD (0, 0)).2)
def itemsTo (l : List (Int × Int)) (k : Nat) : List (Int × Int × Int) := (List.range k).map (itemOf l)
theorem itemsTo_succ (l : List (Int × Int)) (k : Nat) : itemsTo l (k + 1) = itemsTo l k ++ [itemOf l k] := by simp [itemsTo, List.range_succ]
theorem itemsTo_length (l : List (Int × Int)) (k : Nat) : (itemsTo l k).length = k := by simp [itemsTo]

def encItem (x : Int × Int × Int) : Array Value := #[.int .i64 x.1, .agg #[.int .i64 x.2.1, .int .u8 x.2.2]]

/-- What a round keeps: all below n₀; and from D on, each block of cells. -/
def KpD (n₀ D : Nat) (W W' : World) : Prop := Below n₀ W W' ∧ ∀ (k : Nat) (o : Obj), D ≤ k → W.heap[k]? = some o → o.isCells = true → W'.heap[k]? = some o
theorem kpD_t {n₀ D : Nat} {A B C : World} (h : KpD n₀ D A B) (k : KpD n₀ D B C) : KpD n₀ D A C :=
  ⟨h.1.trans k.1, fun i o hi ho hc => k.2 i o hi (h.2 i o hi ho hc) hc⟩
theorem kpD_b {n₀ D : Nat} {w : World} (hn : n₀ ≤ w.heap.size) (W : World) (l : Nat) (o o' : Obj) (hl : w.heap.size ≤ l) (h : W.heap[l]? = some o) (hc : o.isCells = false) (hw : o.isWalk = false) : KpD n₀ D W (W.putObj l o') :=
  ⟨belowK_b hn W l o o' hl h hc hw, fun k o2 _ h2 hc2 => by
    by_cases e : k = l
    · subst e; rw [h] at h2; cases h2; rw [hc] at hc2; cases hc2
    · exact (World.putObj_heap_other e).trans h2⟩

set_option maxRecDepth 100000 in
set_option maxHeartbeats 2000000 in
theorem begins1_in (F : Fence) (n : Nat) (h40 : F.fn 40) (hro : F.round = none) (hn : 1 ≤ n) (l Bs n₀ D b off cap : Nat) (zs : List (Int × Int)) (hm : zs.length ≤ 9223372036854775807) (hb : b < n₀) (J Jx : List (Int × Int × Int) → World → Prop)
    (W : World) (hD : D ≤ W.heap.size) (hn0 : n₀ ≤ W.heap.size) (hJ : AbidesFrom W.heap.size J)
    (hY : ∀ pre x W1, J pre W1 → pre.length < zs.length → YieldAt F (n - 1) Try.prog l (encItem x) W1 fun e W' =>
      (e = .returned (.bool true) ∧ J (pre ++ [x]) W' ∧ KpD n₀ D W1 W') ∨ (e = .returned (.bool false) ∧ Jx (pre ++ [x]) W'))
    (hBs : W.cell? ⟨Bs, 0, none⟩ = some (.slice (some ⟨b, off, none⟩) zs.length cap)) (hc : SegC W b off zs) (h0 : J [] W) :
    CallsIn F n Try.prog 40 #[.func (.yield l) #[] #[], .pointer (some ⟨Bs, 0, none⟩)] W fun e W' => (∃ v, e = .returned v) ∧
      ((∃ ys, ys = itemsTo zs zs.length ∧ J ys W') ∨ (∃ pre, (∃ k, k ≤ zs.length ∧ pre = itemsTo zs k) ∧ Jx pre W')) := by
  refine callsIn_of_wp Try.func40 rfl h40 ?_ hro
  simp only [Try.ntmps40, List.size_toArray, List.length_cons, List.length_nil, Nat.reduceAdd, Nat.reduceSub, Array.replicate_succ, Array.replicate_zero, List.push_toArray, List.append_toArray, List.nil_append, List.cons_append]
  gi_wp2
  gi_loopw [3, 8] (fun t i wr => ∃ k : Nat, k ≤ zs.length ∧ i = .int .i64 k ∧ t = .int .i64 (atOf zs k) ∧ J (itemsTo zs k) wr ∧ Below n₀ W wr ∧ D ≤ wr.heap.size ∧ W.heap.size ≤ wr.heap.size)
    (fun _ i _ => zs.length - (intOf i).toNat)
  case atStart => exact ⟨0, Nat.zero_le _, rfl, rfl, h0, Below.refl _ _, hD, Nat.le_refl _⟩
  case round =>
    obtain ⟨k, hk, rfl, rfl, hJs, hnx, hDr, hWr⟩ := hrel
    by_cases hlt : k < zs.length
    · obtain ⟨c1, c2⟩ := (hc.below hnx hb) k hlt
      obtain ⟨p, q, hpq⟩ : ∃ p q, zs[k]?.getD (0, 0) = (p, q) := ⟨_, _, rfl⟩
      rw [hpq] at c1 c2
      dsimp only at c1 c2
      have hJ1 : J (itemsTo zs k) (wr.alloc (.cells #[.int .i64 p, .int .u8 q] 39)) := hJ _ _ _ none hJs (World.grownBy_alloc _ _ _) (by intro r e; cases e)
      obtain ⟨fn, tmps, assign, body, hy, hR⟩ := hY _ (itemOf zs k) _ hJ1 (by rw [itemsTo_length]; exact hlt)
      simp only [encItem, itemOf, hpq] at hy
      have HR := Lib.hid hR
      have HC := Lib.hid hc
      have HP := Lib.hid hpq
      have HA : Hid (atOf zs (k + 1) = wrap64 (atOf zs k + p)) := by show wrap64 _ = _; rw [hpq]
      clear hR hc hY hpq
      gi_wp2
      refine HR.out.mono ?_
      rintro e W3 (⟨rfl, hJ3, hk3⟩ | ⟨rfl, hJx3⟩)
      · have hbox : W3.heap[wr.heap.size]? = some (.cells #[.int .i64 p, .int .u8 q] 39) := hk3.2 _ _ hDr (World.alloc_heap_new wr _) rfl
        have g1 : W3.cell? ⟨wr.heap.size, 0, none⟩ = some (.int .i64 p) := by simp [World.cell?, hbox]
        have hb3 : Below n₀ W W3 := (hnx.trans ((Below.refl n₀ wr).alloc (by omega) _)).trans hk3.1
        have hz := hk3.1.size
        simp only [World.size_alloc] at hz
        clear hbox
        gi_wp2
        go_roundw
        case rel => exact ⟨k + 1, by omega, by go_num, by rw [HA.out], by rw [itemsTo_succ]; exact hJ3, hb3, by omega, by omega⟩
        case measure => simp [intOf]; omega
      · gi_wp2
        refine bodyPost_ret (results_none rfl _ _ _) rfl ?_
        exact ⟨⟨_, rfl⟩, .inr ⟨_, ⟨k + 1, by omega, (itemsTo_succ _ _).symm⟩, hJx3⟩⟩
    · obtain rfl : k = zs.length := by omega
      gi_wp2
      go_end0
      exact ⟨⟨_, rfl⟩, .inl ⟨_, rfl, hJs⟩⟩
end Go.Proofs.Ytnpaoekblfflmaa
