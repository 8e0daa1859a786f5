/- AtomsDoes: the document's Kept over a matrix walked. (Printed by gen_dod.py.) -/
import Derived.Deep.RegionHeld
import Derived.Deep.Cut
import Derived.Test.YtockinpjfhhkoaaGreatDoorMiG
import Derived.Test.YtockinpjfhhkoaaGreatDoorAtX
import Derived.Test.YtockinpjfhhkoaaGreatDoorMhE
namespace Go.Proofs.YtockinpjfhhkoaaGreatDoor
open Go.RowKit

theorem row3 {i j i3 r : Nat} (hi : i < 3) (hj : j < 3) (h1 : i * 3 = i3) (h2 : i3 + j = r) : r < 9 ∧ r / 3 = i ∧ r % 3 = j ∧ (i : Int) * 3 = (i3 : Int) ∧ (i3 : Int) + (j : Int) = (r : Int) ∧ i * 3 + (j + 1) = r + 1 ∧ i3 ≤ 6 ∧ (j : Int) < 3 ∧ (0 : Int) ≤ (j : Int) ∧ (r : Int) < 9 ∧ (0 : Int) ≤ (r : Int) ∧ r < 3 * 3 := by
  refine ⟨by omega, by omega, by omega, by omega, by omega, by omega, by omega, by omega, by omega, by omega, by omega, by omega⟩
theorem wrap_small (k : Nat) (h : k < 1000) : IntKind.i64.wrap (k : Int) = (k : Int) ∧ wrap64 (k : Int) = (k : Int) := ⟨IntWalk.i64_in _ (by omega), IntWalk.wrap64_in _ (by omega)⟩
set_option maxRecDepth 100000 in
set_option maxHeartbeats 16000000 in
theorem kept95_any {g c tb tc : Nat} {L : List Int} {l : List (Int × Int)} {w : World} (h : RowB w g L) (hl : L.length = 9) (hbd : badD L = false) (ht : RatR w tb l) (hll : l.length = 2) (hr : ∀ x ∈ l, in64 x.1 ∧ mayQ x.1 x.2 = true) :
    Calls Tryz.prog 95 #[.agg #[.int .i64 3, .slice (some ⟨g, 0, none⟩) 9 c], .slice (some ⟨tb, 0, none⟩) 2 tc] w fun e w' => e = .returned (.bool (keepsD 3 L ((0, 1) :: l))) ∧ Below w.heap.size w w' := by
  obtain ⟨W1, hW1⟩ : ∃ W1, W1 = w.alloc (.cells #[.int .i64 3, .slice (some ⟨g, 0, none⟩) 9 c] 116) := ⟨_, rfl⟩
  obtain ⟨W2, hW2⟩ : ∃ W2, W2 = W1.alloc (.cells #[.int .i64 0, .int .i64 1] 50) := ⟨_, rfl⟩
  have hb1 : Below w.heap.size w W1 := by rw [hW1]; exact belowA _ _
  have hb12 : Below W1.heap.size W1 W2 := by rw [hW2]; exact belowA _ _
  have hb2 : Below w.heap.size w W2 := belS hb1 hb12
  have hz1 : W1.heap.size = w.heap.size + 1 := by rw [hW1]; simp
  have k0 : W1.heap[w.heap.size]? = some (.cells #[.int .i64 3, .slice (some ⟨g, 0, none⟩) 9 c] 116 (0, 0)) := by rw [hW1]; exact hp_topA rfl
  have k2 : W2.heap[w.heap.size]? = some (.cells #[.int .i64 3, .slice (some ⟨g, 0, none⟩) 9 c] 116 (0, 0)) := (hb12.block _ (by omega)).trans k0
  have HRUN : Hid (∃ v' w', (Builtin.append_ #[53, 53] 53 #[.slice (some ⟨w.heap.size + 1, 0, none⟩) 1 1, .slice (some ⟨tb, 0, none⟩) 2 tc]).run Tryz.prog W2 = .ok v' w' ∧ (∃ g' c', v' = .slice (some ⟨g', 0, none⟩) 3 c' ∧ RatR w' g' ((0, 1) :: l)) ∧ Below W2.heap.size W2 w') := by
    obtain ⟨v', w', e1, ⟨g', c', e2, _, e3⟩, e4⟩ := run_more53 W2 (w.heap.size + 1) tb tc 0 1 l (by rw [hW2]; exact hp_topA hz1.symm) (ht.below hb2) (by omega) (by omega)
    rw [hll] at e1 e2
    exact ⟨v', w', e1, ⟨g', c', e2, e3⟩, e4⟩
  have HMAY := Lib.hid (badD_may hbd)
  have HROW := Lib.hid (h.below hb2)
  have HK2 := Lib.hid k2
  have HB2 := Lib.hid hb2
  have HL := Lib.hid hl
  have HLL := Lib.hid hll
  have HR := Lib.hid hr
  have HW : Hid ((w.alloc (.cells #[.int .i64 3, .slice (some ⟨g, 0, none⟩) 9 c] 116)).alloc (.cells #[.int .i64 0, .int .i64 1] 50) = W2) := by rw [Hid, ← hW1, ← hW2]
  clear h hl hbd ht hll hr hb1 hb12 hb2 hz1 k0 k2 hW1 hW2
  go_enter Tryz.func95, Tryz.ntmps95
  go_wp2_with (at_builtin; rw [HW.out]; refine wpList_append_ex rfl _ _ 53 rfl _ _ rfl rfl _ HRUN.out ?_; intro v' w' hvw; obtain ⟨⟨gr, cr, rfl, hrow⟩, hb⟩ := hvw; have HB3 := Lib.hid hb; have HG3 := Lib.hid hrow; clear hb hrow)
  obtain ⟨W3, hW3⟩ : ∃ W3, W3 = w' := ⟨_, rfl⟩
  subst hW3
  have HMX : Hid (∀ W, Below W3.heap.size W3 W → W.heap[w.heap.size]? = some (.cells #[.int .i64 3, .slice (some ⟨g, 0, none⟩) 9 c] 116 (0, 0)) ∧ RowB W g L ∧ RatR W gr ((0, 1) :: l) ∧ Below w.heap.size w W) := by
    intro W hW
    have hb := belS HB3.out hW
    exact ⟨(hb.block _ (Array.getElem?_eq_some_iff.1 HK2.out).1).trans HK2.out, HROW.out.below hb, HG3.out.below hW, HB2.out.trans (hb.mono HB2.out.size)⟩
  go_loopw [6] (fun iv wr => ∃ i : Nat, i ≤ 3 ∧ iv = .int .i64 i ∧ Hid (keepsTo 3 L ((0, 1) :: l) (i * 3)) ∧ Hid (Below W3.heap.size W3 wr)) (fun iv _ => 3 - (intOf iv).toNat)
  case atStart => exact ⟨0, by omega, rfl, fun p hp => absurd hp (Nat.not_lt_zero p), Below.refl _ _⟩
  case round =>
    obtain ⟨i, hi, rfl, HKI, HBR⟩ := hrel
    obtain ⟨m0, m1, m2, m3⟩ := HMX.out wr HBR.out
    have x0 := Lib.cell_of_heap m0 0
    simp only [List.getElem?_toArray, List.getElem?_cons_zero] at x0
    have xl := (Array.getElem?_eq_some_iff.1 m0).1
    have HEND := Lib.hid m3
    clear m0 m1 m2 m3
    by_cases hlt : i < 3
    · have hi3 : (i : Int) < 3 := by omega
      have hi0 : (0 : Int) ≤ (i : Int) := by omega
      go_wp2_with fail
      go_loopw [7] (fun jv wi => ∃ j : Nat, j ≤ 3 ∧ jv = .int .i64 j ∧ Hid (keepsTo 3 L ((0, 1) :: l) (i * 3 + j)) ∧ Hid (Below W3.heap.size W3 wi)) (fun jv _ => 3 - (intOf jv).toNat)
      case atStart => exact ⟨0, by omega, rfl, HKI, HBR⟩
      case round =>
        obtain ⟨j, hj, rfl, HKJ, HBI⟩ := hrel
        by_cases hjl : j < 3
        · obtain ⟨a, p, hq1⟩ : ∃ a p, ((0, 1) :: l).getD i (0, 1) = (a, p) := ⟨_, _, rfl⟩
          obtain ⟨b, q, hq2⟩ : ∃ b q, ((0, 1) :: l).getD j (0, 1) = (b, q) := ⟨_, _, rfl⟩
          obtain ⟨i3, hi3'⟩ : ∃ i3, i * 3 = i3 := ⟨_, rfl⟩
          obtain ⟨r, hr⟩ : ∃ r, i3 + j = r := ⟨_, rfl⟩
          rw [hi3', hr] at HKJ
          obtain ⟨t1, hdi, hmi, t4, t5, t6, t7, hj3, hj0, hr9, hr0, t12⟩ := row3 hlt hjl hi3' hr
          obtain ⟨x, hx⟩ : ∃ x, L.getD r 0 = x := ⟨_, rfl⟩
          have hrL : r < L.length := by rw [HL.out]; exact t1
          have hla : i < l.length + 1 := by rw [HLL.out]; exact hlt
          have hlb : j < l.length + 1 := by rw [HLL.out]; exact hjl
          have hqa := q_ok HR.out hla hq1
          have hqb := q_ok HR.out hlb hq2
          have hxc : checkB x = true := by rw [← hx]; exact may_check (HMAY.out _ (getD_mem hrL))
          obtain ⟨z, hz⟩ : ∃ z, keepsQ a p b q x = z := ⟨_, rfl⟩
          have HKQ : ∀ W, Hid (Calls Tryz.prog 169 #[.agg #[.int .i64 a, .int .i64 p], .agg #[.int .i64 b, .int .i64 q], .int .i64 x] W fun e w' => e = .returned (.bool z) ∧ Below W.heap.size W w') := fun W => by
            have h := kept169_any W hqa.2 hqb.2 hxc hqa.1 hqb.1
            rw [hz] at h; exact h
          have HMg : Hid (∀ W, Below W3.heap.size W3 W → W.cell? ⟨w.heap.size, 0, none⟩ = some (.int .i64 3) ∧ W.cell? ⟨w.heap.size, 1, none⟩ = some (.slice (some ⟨g, 0, none⟩) 9 c) ∧ W.cell? ⟨gr, i * 2, none⟩ = some (.int .i64 a) ∧ W.cell? ⟨gr, i * 2 + 1, none⟩ = some (.int .i64 p) ∧ W.cell? ⟨gr, j * 2, none⟩ = some (.int .i64 b) ∧ W.cell? ⟨gr, j * 2 + 1, none⟩ = some (.int .i64 q) ∧ W.cell? ⟨g, r, none⟩ = some (.int .i64 x) ∧ w.heap.size < W.heap.size ∧ gr < W.heap.size ∧ g < W.heap.size) := by
            intro W hW
            obtain ⟨m0, m1, m2, m3⟩ := HMX.out W hW
            have e1 := m2.2 i (by simpa using hla)
            have e2 := m2.2 j (by simpa using hlb)
            rw [← getD_get (by simpa using hla), hq1] at e1
            rw [← getD_get (by simpa using hlb), hq2] at e2
            exact ⟨Lib.cell_of_heap m0 0, Lib.cell_of_heap m0 1, e1.1, e1.2, e2.1, e2.2, by rw [← hx]; exact m1.cellD r hrL, (Array.getElem?_eq_some_iff.1 m0).1, m2.1, m1.lt⟩
          have HYES : Hid (z = true → keepsTo 3 L ((0, 1) :: l) (r + 1)) := fun h => keepsTo_succ HKJ.out (by rw [hdi, hmi, hq1, hq2, hx, hz]; exact h)
          have HNO : Hid (z = false → keepsD 3 L ((0, 1) :: l) = false) := fun h => keeps_no t12 (by rw [hdi, hmi, hq1, hq2, hx, hz]; exact h)
          have HEQ : Hid (i * 3 + (j + 1) = r + 1) := t6
          have hwi : IntKind.i64.wrap ((i : Int) * 3) = (i3 : Int) := by rw [t4]; exact (wrap_small i3 (Nat.lt_of_le_of_lt t7 (by decide))).1
          have hwi' : wrap64 ((i : Int) * 3) = (i3 : Int) := by rw [t4]; exact (wrap_small i3 (Nat.lt_of_le_of_lt t7 (by decide))).2
          have hwr : IntKind.i64.wrap ((i3 : Int) + (j : Int)) = (r : Int) := by rw [t5]; exact (wrap_small r (Nat.lt_trans t1 (by decide))).1
          have hwr' : wrap64 ((i3 : Int) + (j : Int)) = (r : Int) := by rw [t5]; exact (wrap_small r (Nat.lt_trans t1 (by decide))).2
          obtain ⟨y0, _, _, _, _, _, _, yl, _, _⟩ := HMg.out wr HBI.out
          clear t1 t4 t5 t6 t7 t12 hq1 hq2 hi3' hr hx hrL hla hlb hqa hqb hxc hz hdi hmi x0 xl
          go_upto_region 9 with fail
          refine wp_region_held_drew (S := fun W => W.cell? ⟨w.heap.size, 0, none⟩ = some (.int .i64 3) ∧ W.cell? ⟨w.heap.size, 1, none⟩ = some (.slice (some ⟨g, 0, none⟩) 9 c) ∧ W.cell? ⟨gr, i * 2, none⟩ = some (.int .i64 a) ∧ W.cell? ⟨gr, i * 2 + 1, none⟩ = some (.int .i64 p) ∧ W.cell? ⟨gr, j * 2, none⟩ = some (.int .i64 b) ∧ W.cell? ⟨gr, j * 2 + 1, none⟩ = some (.int .i64 q) ∧ W.cell? ⟨g, r, none⟩ = some (.int .i64 x) ∧ w.heap.size < W.heap.size ∧ gr < W.heap.size ∧ g < W.heap.size) (by kernel_rfl) (HMg.out _ HBI.out.drew) (fun hHeld => ?_)
          refine wpAnyH_take (i := 0) (v := ?_) rfl (by kernel_rfl) (by kernel_rfl) (by kernel_rfl) (fun _ _ _ h => h) (Or.inl ⟨by kernel_rfl, ?_⟩) (by assumption) ?_
          rotate_left
          · (intro w hSw; (try dsimp only at hSw); go_simp)
            try with_reducible rfl
          try simp only [Act.put, List.setIfInBounds_toArray, List.set_cons_zero, List.set_cons_succ, List.getElem_toArray, List.getElem_cons_zero]
          refine wpAnyH_take (i := 1) (v := ?_) rfl (by kernel_rfl) (by kernel_rfl) (by kernel_rfl) (fun _ _ _ h => h) (Or.inl ⟨by kernel_rfl, ?_⟩) (by assumption) ?_
          rotate_left
          · (intro w hSw; (try dsimp only at hSw); go_simp)
            try with_reducible rfl
          try simp only [Act.put, List.setIfInBounds_toArray, List.set_cons_zero, List.set_cons_succ, List.getElem_toArray, List.getElem_cons_zero, List.getElem_cons_succ]
          refine wpAnyH_take (i := 2) (v := ?_) rfl (by kernel_rfl) (by kernel_rfl) (by kernel_rfl) (fun _ _ _ h => h) (Or.inl ⟨by kernel_rfl, ?_⟩) (by assumption) ?_
          rotate_left
          · (intro w hSw; (try dsimp only at hSw); go_simp)
            try with_reducible rfl
          try simp only [Act.put, List.setIfInBounds_toArray, List.set_cons_zero, List.set_cons_succ, List.getElem_toArray, List.getElem_cons_zero, List.getElem_cons_succ]
          refine wpAnyH_take (i := 3) (v := ?_) rfl (by kernel_rfl) (by kernel_rfl) (by kernel_rfl) (fun _ _ _ h => h) (Or.inl ⟨by kernel_rfl, ?_⟩) (by assumption) ?_
          rotate_left
          · (intro w hSw; (try dsimp only at hSw); go_simp)
            try with_reducible rfl
          try simp only [Act.put, List.setIfInBounds_toArray, List.set_cons_zero, List.set_cons_succ, List.getElem_toArray, List.getElem_cons_zero, List.getElem_cons_succ]
          refine wpAnyH_take (i := 4) (v := ?_) rfl (by kernel_rfl) (by kernel_rfl) (by kernel_rfl) (fun _ _ _ h => h) (Or.inl ⟨by kernel_rfl, ?_⟩) (by assumption) ?_
          rotate_left
          · (intro w hSw; (try dsimp only at hSw); go_simp)
            try with_reducible rfl
          try simp only [Act.put, List.setIfInBounds_toArray, List.set_cons_zero, List.set_cons_succ, List.getElem_toArray, List.getElem_cons_zero, List.getElem_cons_succ]
          refine wpAnyH_take (i := 5) (v := ?_) rfl (by kernel_rfl) (by kernel_rfl) (by kernel_rfl) (fun _ _ _ h => h) (Or.inl ⟨by kernel_rfl, ?_⟩) (by assumption) ?_
          rotate_left
          · (intro w hSw; (try dsimp only at hSw); go_simp)
            try with_reducible rfl
          try simp only [Act.put, List.setIfInBounds_toArray, List.set_cons_zero, List.set_cons_succ, List.getElem_toArray, List.getElem_cons_zero, List.getElem_cons_succ]
          refine wpAnyH_take (i := 6) (v := ?_) rfl (by kernel_rfl) (by kernel_rfl) (by kernel_rfl) (fun _ _ _ h => h) (Or.inl ⟨by kernel_rfl, ?_⟩) (by assumption) ?_
          rotate_left
          · (intro w hSw; (try dsimp only at hSw); go_simp)
            try with_reducible rfl
          try simp only [Act.put, List.setIfInBounds_toArray, List.set_cons_zero, List.set_cons_succ, List.getElem_toArray, List.getElem_cons_zero, List.getElem_cons_succ]
          refine wpAnyH_take (i := 7) (v := ?_) rfl (by kernel_rfl) (by kernel_rfl) (by kernel_rfl) (fun _ _ _ h => h) (Or.inl ⟨by kernel_rfl, ?_⟩) (by assumption) ?_
          rotate_left
          · (intro w hSw; (try dsimp only at hSw); go_simp)
            try with_reducible rfl
          try simp only [Act.put, List.setIfInBounds_toArray, List.set_cons_zero, List.set_cons_succ, List.getElem_toArray, List.getElem_cons_zero, List.getElem_cons_succ]
          refine wpAnyH_take (i := 8) (v := ?_) rfl (by kernel_rfl) (by kernel_rfl) (by kernel_rfl) (fun _ _ _ h => h) (Or.inl ⟨by kernel_rfl, ?_⟩) (by assumption) ?_
          rotate_left
          · (intro w hSw; (try dsimp only at hSw); go_simp)
            try with_reducible rfl
          try simp only [Act.put, List.setIfInBounds_toArray, List.set_cons_zero, List.set_cons_succ, List.getElem_toArray, List.getElem_cons_zero, List.getElem_cons_succ]
          refine wpAnyH_take (i := 9) (v := ?_) rfl (by kernel_rfl) (by kernel_rfl) (by kernel_rfl) (fun _ _ _ h => h) (Or.inl ⟨by kernel_rfl, ?_⟩) (by assumption) ?_
          rotate_left
          · (intro w hSw; (try dsimp only at hSw); go_simp)
            try with_reducible rfl
          try simp only [Act.put, List.setIfInBounds_toArray, List.set_cons_zero, List.set_cons_succ, List.getElem_toArray, List.getElem_cons_zero, List.getElem_cons_succ]
          refine wpAnyH_take (i := 10) (v := ?_) rfl (by kernel_rfl) (by kernel_rfl) (by kernel_rfl) (fun _ _ _ h => h) (Or.inl ⟨by kernel_rfl, ?_⟩) (by assumption) ?_
          rotate_left
          · (intro w hSw; (try dsimp only at hSw); go_simp)
            try with_reducible rfl
          try simp only [Act.put, List.setIfInBounds_toArray, List.set_cons_zero, List.set_cons_succ, List.getElem_toArray, List.getElem_cons_zero, List.getElem_cons_succ]
          refine wpAnyH_take (i := 11) (v := ?_) rfl (by kernel_rfl) (by kernel_rfl) (by kernel_rfl) (fun _ _ _ h => h) (Or.inl ⟨by kernel_rfl, ?_⟩) (by assumption) ?_
          rotate_left
          · (intro w hSw; (try dsimp only at hSw); go_simp)
            try with_reducible rfl
          try simp only [Act.put, List.setIfInBounds_toArray, List.set_cons_zero, List.set_cons_succ, List.getElem_toArray, List.getElem_cons_zero, List.getElem_cons_succ]
          refine wpAnyH_take (i := 12) (v := ?_) rfl (by kernel_rfl) (by kernel_rfl) (by kernel_rfl) (fun _ _ _ h => h) (Or.inl ⟨by kernel_rfl, ?_⟩) (by assumption) ?_
          rotate_left
          · (intro w hSw; (try dsimp only at hSw); go_simp)
            try with_reducible rfl
          try simp only [Act.put, List.setIfInBounds_toArray, List.set_cons_zero, List.set_cons_succ, List.getElem_toArray, List.getElem_cons_zero, List.getElem_cons_succ]
          refine wpAnyH_take (i := 13) (v := ?_) rfl (by kernel_rfl) (by kernel_rfl) (by kernel_rfl) (fun _ _ _ h => h) (Or.inl ⟨by kernel_rfl, ?_⟩) (by assumption) ?_
          rotate_left
          · (intro w hSw; (try dsimp only at hSw); go_simp)
            try with_reducible rfl
          try simp only [Act.put, List.setIfInBounds_toArray, List.set_cons_zero, List.set_cons_succ, List.getElem_toArray, List.getElem_cons_zero, List.getElem_cons_succ]
          refine wpAnyH_take (i := 14) (v := ?_) rfl (by kernel_rfl) (by kernel_rfl) (by kernel_rfl) (fun _ _ _ h => h) (Or.inl ⟨by kernel_rfl, ?_⟩) (by assumption) ?_
          rotate_left
          · (intro w hSw; (try dsimp only at hSw); go_simp)
            try with_reducible rfl
          try simp only [Act.put, List.setIfInBounds_toArray, List.set_cons_zero, List.set_cons_succ, List.getElem_toArray, List.getElem_cons_zero, List.getElem_cons_succ]
          refine wpAnyH_take (i := 15) (v := ?_) rfl (by kernel_rfl) (by kernel_rfl) (by kernel_rfl) (fun _ _ _ h => h) (Or.inl ⟨by kernel_rfl, ?_⟩) (by assumption) ?_
          rotate_left
          · (intro w hSw; (try dsimp only at hSw); go_simp)
            try with_reducible rfl
          try simp only [Act.put, List.setIfInBounds_toArray, List.set_cons_zero, List.set_cons_succ, List.getElem_toArray, List.getElem_cons_zero, List.getElem_cons_succ]
          refine wpAnyH_take (i := 16) (v := ?_) rfl (by kernel_rfl) (by kernel_rfl) (by kernel_rfl) (fun _ _ _ h => h) (Or.inl ⟨by kernel_rfl, ?_⟩) (by assumption) ?_
          rotate_left
          · (intro w hSw; (try dsimp only at hSw); go_simp)
            try with_reducible rfl
          try simp only [Act.put, List.setIfInBounds_toArray, List.set_cons_zero, List.set_cons_succ, List.getElem_toArray, List.getElem_cons_zero, List.getElem_cons_succ]
          refine wpAnyH_take (i := 17) (v := ?_) rfl (by kernel_rfl) (by kernel_rfl) (by kernel_rfl) (fun _ _ _ h => h) (Or.inl ⟨by kernel_rfl, ?_⟩) (by assumption) ?_
          rotate_left
          · (intro w hSw; (try dsimp only at hSw); go_simp)
            try with_reducible rfl
          try simp only [Act.put, List.setIfInBounds_toArray, List.set_cons_zero, List.set_cons_succ, List.getElem_toArray, List.getElem_cons_zero, List.getElem_cons_succ]
          refine wpAnyH_ready (rs := [18]) (by kernel_rfl) (by simp) ?_
          refine AllReadyH.cons rfl (fun K hK => ?_) AllReadyH.nil
          go_simp
          go_at_call 169
          refine (HKQ _).out.mono ?_
          rintro e w5 ⟨rfl, hb5⟩
          have HB5 : Hid (Below W3.heap.size W3 w5) := belS HBI.out.drew hb5
          clear hb5
          try dsimp only
          refine hK.out _ _ (HMg.out _ HB5.out) (fun hHeld => ?_)
          clear hK K
          try simp only [Act.put, List.setIfInBounds_toArray, List.set_cons_zero, List.set_cons_succ, List.getElem_toArray, List.getElem_cons_zero, List.getElem_cons_succ]
          refine wpAnyH_take (i := 19) (v := ?_) rfl (by kernel_rfl) (by kernel_rfl) (by kernel_rfl) (fun _ _ _ h => h) (Or.inl ⟨by kernel_rfl, ?_⟩) (by assumption) ?_
          rotate_left
          · (intro w hSw; (try dsimp only at hSw); go_simp)
            try with_reducible rfl
          try simp only [Act.put, List.setIfInBounds_toArray, List.set_cons_zero, List.set_cons_succ, List.getElem_toArray, List.getElem_cons_zero, List.getElem_cons_succ]
          refine wpAnyH_done (by kernel_rfl) ?_ _
          clear hHeld
          cases z with
          | true =>
            go_wp2_with fail
            go_roundw
            case rel => exact ⟨j + 1, hjl, by go_num, by rw [HEQ.out]; exact HYES.out rfl, HB5.out⟩
            case measure => simp [intOf]; omega
          | false =>
            have HF := Lib.hid (HNO.out rfl)
            go_wp2_with fail
            all_goals go_ret
            all_goals exact ⟨by rw [HF.out]; rfl, (HMX.out _ HB5.out).2.2.2⟩
        · obtain rfl : j = 3 := by omega
          obtain ⟨m0, _, _, _⟩ := HMX.out wr HBI.out
          have y0 := Lib.cell_of_heap m0 0
          simp only [List.getElem?_toArray, List.getElem?_cons_zero] at y0
          have yl := (Array.getElem?_eq_some_iff.1 m0).1
          have HEQ : Hid ((i + 1) * 3 = i * 3 + 3) := Nat.succ_mul i 3
          clear m0 x0 xl
          go_wp2_with fail
          go_roundw
          case rel => exact ⟨i + 1, hlt, by go_num, by rw [HEQ.out]; exact HKJ.out, HBI.out⟩
          case measure => simp [intOf]; omega
    · obtain rfl : i = 3 := by omega
      have HT := Lib.hid (keeps_all HKI.out)
      go_wp2_with fail
      all_goals go_ret
      all_goals exact ⟨by rw [HT.out]; rfl, HEND.out⟩
end Go.Proofs.YtockinpjfhhkoaaGreatDoor
