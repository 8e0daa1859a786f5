/- rallentandoref22.Merged: the book's merged. -/
import Derived.Test.YtnpaoekblfflmaaSigE
namespace Go.Proofs.Ytnpaoekblfflmaa
open Go.RowKit Go.Shelf
attribute [local go_sem ↓] Go.wp_at_zero Go.wp_at_succ

set_option maxHeartbeats 1000000 in
theorem merged22_any (v : Value) (l : List (Int × Int)) (w : World) (hs : Segs w w.heap.size v l) (hlen : l.length ≤ 10000) :
    Calls Try.prog 33 #[v] w fun e w' => (∃ v', e = .returned v' ∧ OwnS w' w.heap.size v' (mergedL l)) ∧ Below w.heap.size w w' := by
  obtain ⟨i0, hi, hz0, hz1, hz2⟩ := info_parts Try.info39
  obtain ⟨a, cap, rfl, hm, h, hr⟩ := hs
  clear hr
  go_enter Try.func33, Try.ntmps33
  go_wp2_with fail
  go_loopw [3, 4] (fun u i wr => ∃ j : Nat, j ≤ l.length ∧ i = .int .i64 j ∧ OwnS wr w.heap.size u (mTo l j) ∧ Below w.heap.size w wr) (fun _ i _ => l.length - (intOf i).toNat)
  case atStart => exact ⟨0, Nat.zero_le _, rfl, World.ownsRow_nil _ _ _ _, Below.refl _ _⟩
  case round =>
    obtain ⟨j, hj, rfl, hown, hbw⟩ := hrel
    by_cases hlt : j < l.length
    · rcases h with h | ⟨b, off, rfl, hbl, hc⟩
      · rw [h] at hlt; exact absurd hlt (by simp)
      · obtain ⟨c1, c2⟩ := (hc.below hbw hbl) j hlt
        obtain ⟨x, y, hxy⟩ : ∃ x y, l[j] = (x, y) := ⟨_, _, rfl⟩
        rw [getD_eq l j hlt, hxy] at c1 c2
        dsimp only at c1 c2
        have hT := mTo_succ l j hlt
        have hTl := mTo_length l j hj
        rw [hxy] at hT
        have HT := Lib.hid hT
        have HC := Lib.hid hc
        have hsw := hbw.size
        have hbr : b < wr.heap.size := by omega
        clear hxy hc hT
        rcases List.eq_nil_or_concat (mTo l j) with he | ⟨pre, t, he⟩
        · have HE := Lib.hid he
          rw [he] at hown
          obtain ⟨au, cu, rfl⟩ := hown.shape
          simp only [List.length_nil] at hown ⊢
          clear he hTl
          go_wp2_with fail
          go_quiet (fail)
          generalize (Value.slice au 0 cu) = vv at hown ⊢
          obtain ⟨Wq, hWq⟩ : ∃ Wq : World, wr.drewN nq = Wq := ⟨_, rfl⟩
          have hBq : Below wr.heap.size wr Wq := by rw [← hWq]; exact below_drewN (Below.refl _ wr) _
          have q2 : Wq.cell? ⟨b, off + j * 2, none⟩ = some (.int .i64 x) := by rw [← hWq]; simpa using c1
          have q3 : Wq.cell? ⟨b, off + j * 2 + 1, none⟩ = some (.int .u8 y) := by rw [← hWq]; simpa using c2
          rw [hWq]
          have hown := hown.below hBq
          have HB := Lib.hid hBq
          have hsq := hBq.size
          clear hWq hBq
          go_wp2_with (at_builtin; refine wpList_append_own_at _ rfl _ _ 29 rfl w.heap.size 39 i0 _ 2 16 Try.underlying29 hi hz0 hz1 hz2 rfl (by decide) _ _ _ rfl (World.ownsRow.alloc hown _) _ 1 1 [.int .i64 x, .int .u8 y] rfl rfl (cells_two_new _ _ _ _) ?c2 ?c3 ?c4 ?c5 ?_)
          case c2 => intro u hu; simp at hu; rcases hu with rfl | rfl <;> rfl
          case c3 => simp [maxLen]
          case c4 => simp
          case c5 => simp; omega
          intro v' w1 hown' hgrow hnil hat
          go_wp2_with fail
          refine ⟨⟨j + 1, by omega, by push_cast; rfl, ?_, ?_⟩, ?_⟩
          · rw [HT.out, HE.out, mstep_nil]
            show w1.ownsRow _ _ _ _ _ _
            exact hown'
          · exact ((hbw.trans (HB.out.mono hsw)).alloc (by omega) _).grown hgrow (by simp; omega) (fun k hk => (World.ownsRow.lt hown k hk).1)
          · simp [intOf]; omega
        · rw [List.concat_eq_append] at he
          have HE := Lib.hid he
          rw [he] at hown
          obtain ⟨g, cp, rfl, hg, hgl, k1, k2, k3, k4⟩ := hown.last
          have HK := Lib.hid k4
          have HO := Lib.hid hown
          have hpl : pre.length < 10000 := by rw [he] at hTl; simp at hTl; omega
          clear k4 hown he hTl
          by_cases hs : t.2 = y
          · have f1 : (t.2 == y) = true := by simpa using hs
            have HS := Lib.hid hs
            clear hs
            go_wp2_with fail
            go_quiet (fail)
            go_wp2_with fail
            obtain ⟨Wq, hWq⟩ : ∃ Wq : World, wr.drewN nq = Wq := ⟨_, rfl⟩
            have hgr : g ≠ wr.heap.size := by omega
            have q1 : Wq.cell? ⟨g, pre.length * 2, none⟩ = some (.int .i64 t.1) := by rw [← hWq]; simp [k1]
            have q2 : Wq.cell? ⟨b, off + j * 2, none⟩ = some (.int .i64 x) := by rw [← hWq]; simpa using c1
            have q3 : Wq.frozen? ⟨g, pre.length * 2, none⟩ = false := by rw [← hWq]; simp [k3]
            rw [hWq]
            have HW := Lib.hid hWq
            clear hWq
            have hw1 : IntKind.i64.wrap ((pre.length : Int) + 1 - 1) = (pre.length : Int) := by rw [IntWalk.i64_in _ (by omega)]; omega
            have hb0 : (0 : Int) ≤ (pre.length : Int) := by omega
            have hw2 : IntKind.i64.wrap (pre.length : Int) = (pre.length : Int) := IntWalk.i64_in _ (by omega)
            have hb1 : (pre.length : Int) < (pre.length : Int) + 1 := by omega
            go_still_tail 17, (by kernel_rfl)
            change wpList _ _ _ _ _ Wq.drew
            go_wp2_with fail
            have hBq : Below wr.heap.size wr Wq := by rw [← HW.out]; exact below_drewN (Below.refl _ wr) _
            have ho : OwnS Wq w.heap.size (.slice (some ⟨g, 0, none⟩) (pre.length + 1) cp) (pre ++ [t]) := HO.out.below hBq
            refine ⟨⟨j + 1, by omega, by push_cast; rfl, ?_, ?_⟩, ?_⟩
            · rw [HT.out, HE.out, mstep_same _ _ _ HS.out]
              exact World.ownsRow.drew (ho.set _)
            · exact ((hbw.trans (hBq.mono hsw)).setCell hg _).drew
            · simp [intOf]; omega
          · have f1 : (t.2 == y) = false := by simpa using hs
            have HS := Lib.hid hs
            clear hs
            go_wp2_with fail
            go_quiet (fail)
            clear HK k1 k2 k3 f1
            have hown := HO.out
            clear HO
            generalize (Value.slice (some ⟨g, 0, none⟩) (pre.length + 1) cp) = vv at hown ⊢
            obtain ⟨Wq, hWq⟩ : ∃ Wq : World, wr.drewN nq = Wq := ⟨_, rfl⟩
            have hBq : Below wr.heap.size wr Wq := by rw [← hWq]; exact below_drewN (Below.refl _ wr) _
            have q2 : Wq.cell? ⟨b, off + j * 2, none⟩ = some (.int .i64 x) := by rw [← hWq]; simpa using c1
            have q3 : Wq.cell? ⟨b, off + j * 2 + 1, none⟩ = some (.int .u8 y) := by rw [← hWq]; simpa using c2
            rw [hWq]
            have hown := hown.below hBq
            have HB := Lib.hid hBq
            have hsq := hBq.size
            clear hWq hBq
            have hpl' : (pre ++ [t]).length = pre.length + 1 := by simp
            go_wp2_with (at_builtin; refine wpList_append_own_at _ rfl _ _ 29 rfl w.heap.size 39 i0 _ 2 16 Try.underlying29 hi hz0 hz1 hz2 rfl (by decide) _ _ _ rfl (World.ownsRow.alloc hown _) _ 1 1 [.int .i64 x, .int .u8 y] rfl rfl (cells_two_new _ _ _ _) ?c2 ?c3 ?c4 ?c5 ?_)
            case c2 => intro u hu; simp at hu; rcases hu with rfl | rfl <;> rfl
            case c3 => simp only [hpl', maxLen]; omega
            case c4 => simp only [hpl']; omega
            case c5 => simp; omega
            intro v' w1 hown' hgrow hnil hat
            go_wp2_with fail
            refine ⟨⟨j + 1, by omega, by push_cast; rfl, ?_, ?_⟩, ?_⟩
            · rw [HT.out, HE.out, mstep_other _ _ _ HS.out]
              show w1.ownsRow _ _ _ _ _ _
              have hh : (pre ++ [t] ++ [(x, y)]).length = (pre ++ [t]).length + 1 := by simp
              rw [flatS_append, hh, hpl']
              exact hown'
            · exact ((hbw.trans (HB.out.mono hsw)).alloc (by omega) _).grown hgrow (by simp; omega) (fun k hk => (World.ownsRow.lt hown k hk).1)
            · simp [intOf]; omega
    · have hje : j = l.length := by omega
      subst hje
      clear h hlt
      go_wp2_with fail
      go_ret
      rw [mTo_all] at hown
      exact ⟨⟨_, rfl, hown⟩, hbw⟩
end Go.Proofs.Ytnpaoekblfflmaa
