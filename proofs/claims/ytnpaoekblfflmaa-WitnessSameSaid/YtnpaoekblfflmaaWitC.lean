import Derived.Test.YtnpaoekblfflmaaWitB
namespace Go.Proofs.Ytnpaoekblfflmaa
open Go.RowKit

/-- What Same promises at depth n. -/
def SameC (f n : Nat) : Prop := ∀ (t1 t2 : PT n) (v1 v2 : Value) (w : World) (B : Nat), PRep w B n t1 v1 → PRep w B n t2 v2 → B ≤ w.heap.size →
    Calls Try.prog f #[v1, v2] w fun e w' => e = .returned (.bool (sameT n t1 t2)) ∧ Below w.heap.size w w'

/-- Parts in memory: a slice value, below block B. -/
def PartsRep (w : World) (B n : Nat) (a : Option Addr) (of : List (PT n)) : Prop :=
  of = [] ∨ ∃ b off, a = some ⟨b, off, none⟩ ∧ b < B ∧
        ∀ i (h : i < of.length), ∃ v0 v1 v2 v3, w.cell? ⟨b, off + i * 4, none⟩ = some v0 ∧ w.cell? ⟨b, off + i * 4 + 1, none⟩ = some v1 ∧
          w.cell? ⟨b, off + i * 4 + 2, none⟩ = some v2 ∧ w.cell? ⟨b, off + i * 4 + 3, none⟩ = some v3 ∧ PRep w B n of[i] (.agg #[v0, v1, v2, v3])

theorem PartsRep.below {w w' : World} {B n : Nat} {a : Option Addr} {of : List (PT n)} (hb : Below B w w') (h : PartsRep w B n a of) : PartsRep w' B n a of := by
  rcases h with h | ⟨b, off, ha, hlt, hc⟩
  · exact .inl h
  · refine .inr ⟨b, off, ha, hlt, fun i hi => ?_⟩
    obtain ⟨v0, v1, v2, v3, c0, c1, c2, c3, hp⟩ := hc i hi
    exact ⟨v0, v1, v2, v3, (hb.cell (p := ⟨b, _, none⟩) hlt).trans c0, (hb.cell (p := ⟨b, _, none⟩) hlt).trans c1, (hb.cell (p := ⟨b, _, none⟩) hlt).trans c2, (hb.cell (p := ⟨b, _, none⟩) hlt).trans c3, PRep.below hb n hp⟩

set_option maxHeartbeats 400000 in
theorem eqfunc_any (n : Nat) (ih : SameC 12 n) (a1 a2 : Option Addr) (c1 c2 : Nat) (l r : List (PT n)) (w : World) (B : Nat) (hm1 : l.length ≤ 9223372036854775807) (_hm2 : r.length ≤ 9223372036854775807)
    (h1 : PartsRep w B n a1 l) (h2 : PartsRep w B n a2 r) (hB : B ≤ w.heap.size) :
    Calls Try.prog 31 #[.slice a1 l.length c1, .slice a2 r.length c2, .func (.func 12) #[] #[]] w fun e w' => e = .returned (.bool (sameL (sameT n) l r)) ∧ Below w.heap.size w w' := by
  have IH := Lib.hid ih
  clear ih
  by_cases hl : l.length = r.length
  · have h3 : ((l.length : Int) != (r.length : Int)) = false := by simp; omega
    have HL := Lib.hid hl
    clear hl
    have H0 : Hid (sameL (sameT n) l r = sameL (sameT n) (l.drop 0) (r.drop 0)) := rfl
    go_enter Try.func31, Try.ntmps31
    go_wp2_with fail
    go_loopw [17] (fun i wr => ∃ j : Nat, j ≤ l.length ∧ i = .int .i64 j ∧ Hid (sameL (sameT n) l r = sameL (sameT n) (l.drop j) (r.drop j)) ∧ Below w.heap.size w wr) (fun i _ => l.length - (intOf i).toNat)
    case atStart => exact ⟨0, Nat.zero_le _, rfl, H0, Below.refl _ _⟩
    case round =>
      obtain ⟨j, hj, rfl, hR, hbw⟩ := hrel
      by_cases hlt : j < l.length
      · have hlt2 : j < r.length := by have := HL.out; omega
        rcases h1 with h1 | ⟨b1, o1, rfl, hb1, hc1⟩
        · rw [h1] at hlt; exact absurd hlt (by simp)
        rcases h2 with h2 | ⟨b2, o2, rfl, hb2, hc2⟩
        · rw [h2] at hlt2; exact absurd hlt2 (by simp)
        obtain ⟨k1, s1, x1, l1, e1, y1, m1, f1, d0, d1, d2, d3, hp⟩ := part_cells hB hbw hb1 hc1 j hlt
        obtain ⟨k2, s2, x2, l2, e2, y2, m2, f2, g0, g1, g2, g3, hq⟩ := part_cells hB hbw hb2 hc2 j hlt2
        have hS := Lib.hid (sameL_drop (sameT n) l r j hlt hlt2)
        clear hc1 hc2
        have hsw := hbw.size
        have q1 : b1 < wr.heap.size := by omega
        have q2 : b2 < wr.heap.size := by omega
        have hp' := PRep.below (((Below.refl B wr).alloc (by omega) (Obj.cells #[Value.int IntKind.u8 k1, Value.int IntKind.u8 s1, Value.slice x1 l1 e1, Value.slice y1 m1 f1] 25)).alloc (by simp; omega) (Obj.cells #[Value.int IntKind.u8 k2, Value.int IntKind.u8 s2, Value.slice x2 l2 e2, Value.slice y2 m2 f2] 25)) n hp
        have hq' := PRep.below (((Below.refl B wr).alloc (by omega) (Obj.cells #[Value.int IntKind.u8 k1, Value.int IntKind.u8 s1, Value.slice x1 l1 e1, Value.slice y1 m1 f1] 25)).alloc (by simp; omega) (Obj.cells #[Value.int IntKind.u8 k2, Value.int IntKind.u8 s2, Value.slice x2 l2 e2, Value.slice y2 m2 f2] 25)) n hq
        clear hp hq
        cases hb : sameT n l[j] r[j]
        · have HB := Lib.hid hb
          clear hb
          go_wp2_with fail
          refine (IH.out _ _ _ _ _ B hp' hq' (by simp; omega)).mono ?_
          rintro e w1 ⟨rfl, hb1⟩
          clear hp' hq'
          rw [HB.out]
          go_wp2_with fail
          go_ret
          exact ⟨by rw [hR.out, hS.out, HB.out]; rfl, hbw.trans ((((Below.refl w.heap.size wr).alloc (by omega) _).alloc (by simp; omega) _).trans (hb1.mono (by simp; omega)))⟩
        · have HB := Lib.hid hb
          clear hb
          go_wp2_with fail
          refine (IH.out _ _ _ _ _ B hp' hq' (by simp; omega)).mono ?_
          rintro e w1 ⟨rfl, hb1⟩
          clear hp' hq'
          rw [HB.out]
          have hbz := hbw.trans ((((Below.refl w.heap.size wr).alloc (by omega) _).alloc (by simp; omega) _).trans (hb1.mono (by simp; omega)))
          go_wp2_with fail
          go_roundw
          case rel => exact ⟨j + 1, by omega, by go_num, by rw [hR.out, hS.out, HB.out]; rfl, hbz⟩
          case measure => simp [intOf]; omega
      · have HE : Hid (sameL (sameT n) (l.drop j) (r.drop j) = true) := by
          rw [show j = l.length by omega]; exact sameL_end _ l r HL.out
        clear h1 h2
        go_wp2_with fail
        go_ret
        exact ⟨by rw [hR.out, HE.out]; rfl, hbw⟩
  · have hne : sameL (sameT n) l r = false := sameL_len _ _ _ hl
    have h3 : ((l.length : Int) != (r.length : Int)) = true := by simp; omega
    rw [hne]
    go_enter Try.func31, Try.ntmps31
    go_wp2_with fail
    go_ret
    exact ⟨rfl, Below.refl _ _⟩
end Go.Proofs.Ytnpaoekblfflmaa
