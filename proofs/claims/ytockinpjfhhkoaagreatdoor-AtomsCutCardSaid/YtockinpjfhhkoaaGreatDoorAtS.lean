/- zone.matrix walked. -/
import Derived.Deep.Cut
import Derived.StillTailTactics
import Derived.Test.YtockinpjfhhkoaaGreatDoorAtQ
namespace Go.Proofs.YtockinpjfhhkoaaGreatDoor
open Go.RowKit

/-- A zone's matrix. -/
def matD (z0 z1 z2 z3 z4 z5 : Int) : List Int := [1, z1, z3, z0, 1, z5, z2, z4, 1]
def plcTo (z : List Int) (k : Nat) : List Int := (List.range k).foldl (fun L i => L.set (plc i) (z.getD i 0)) (topD 3)
theorem plcTo_succ (z : List Int) (k : Nat) : plcTo z (k + 1) = (plcTo z k).set (plc k) (z.getD k 0) := by
  unfold plcTo
  rw [List.range_succ, List.foldl_append]
  rfl
theorem plcTo_len (z : List Int) : ∀ k, (plcTo z k).length = 9
  | 0 => topD_len 3
  | k + 1 => by rw [plcTo_succ, List.length_set, plcTo_len z k]
theorem plcTo_six (z0 z1 z2 z3 z4 z5 : Int) : plcTo [z0, z1, z2, z3, z4, z5] 6 = matD z0 z1 z2 z3 z4 z5 := by
  simp only [plcTo_succ]
  rw [show plcTo [z0, z1, z2, z3, z4, z5] 0 = topD 3 from rfl, topD3]
  rfl
theorem plc_lt (k : Nat) (hk : k < 6) : plc k < 9 := by
  match k, hk with
  | 0, _ | 1, _ | 2, _ | 3, _ | 4, _ | 5, _ => decide
set_option maxRecDepth 100000 in
set_option maxHeartbeats 16000000 in
theorem matrix60_any (z0 z1 z2 z3 z4 z5 : Int) (w : World) :
    Calls Tryz.prog 60 #[.agg #[.int .i64 z0, .int .i64 z1, .int .i64 z2, .int .i64 z3, .int .i64 z4, .int .i64 z5]] w fun e w' =>
      (∃ g c, e = .returned (.agg #[.int .i64 3, .slice (some ⟨g, 0, none⟩) 9 c]) ∧ w.heap.size ≤ g ∧ RowB w' g (matD z0 z1 z2 z3 z4 z5)) ∧ Below w.heap.size w w' := by
  obtain ⟨W2, hW2⟩ : ∃ W2, W2 = (w.alloc (.cells #[.int .i64 z0, .int .i64 z1, .int .i64 z2, .int .i64 z3, .int .i64 z4, .int .i64 z5] 69)).alloc (.cells #[.int .i64 0, .slice none 0 0] 116) := ⟨_, rfl⟩
  have hb2 : Below w.heap.size w W2 := by rw [hW2]; exact (belowA _ _).alloc (by simp) _
  have hz2 : W2.heap.size = w.heap.size + 2 := by rw [hW2]; simp
  have hx2 : W2.heap[w.heap.size]? = some (.cells #[.int .i64 z0, .int .i64 z1, .int .i64 z2, .int .i64 z3, .int .i64 z4, .int .i64 z5] 69 (0, 0)) := by
    rw [hW2]; exact (Below.heap_alloc _ _ _ (by simp)).trans (hp_topA rfl)
  have hr2 : W2.heap[w.heap.size + 1]? = some (.cells #[.int .i64 0, .slice none 0 0] 116 (0, 0)) := by
    rw [hW2]; exact hp_topA (by simp)
  have HTP := Lib.hid (top87_any (n := 3) W2 (by decide) (by decide))
  have hl9 : (topD 3).length = 9 := topD_len 3
  rw [hl9] at HTP
  have HTP : Hid (Calls Tryz.prog 87 #[.int .i64 3] W2 fun e w' => (∃ g c, e = .returned (.tuple #[.agg #[.int .i64 3, .slice (some ⟨g, 0, none⟩) 9 c], .int .i64 0]) ∧ W2.heap.size ≤ g ∧ RowB w' g (topD 3)) ∧ Below W2.heap.size W2 w') := HTP.out
  have HW2 := Lib.hid hW2.symm
  have HB2 := Lib.hid hb2
  have HZ2 := Lib.hid hz2
  have HX2 := Lib.hid hx2
  have HR2 := Lib.hid hr2
  clear hb2 hz2 hx2 hr2 hW2 hl9
  go_enter Tryz.func60, Tryz.ntmps60
  go_wp2_with fail
  rw [HW2.out]
  clear HW2
  refine HTP.out.mono ?_
  rintro e w3 ⟨⟨g, c, rfl, hg, hrow⟩, hb3⟩
  have HB3 := Lib.hid hb3
  have HG : Hid (w.heap.size + 2 ≤ g ∧ g < w3.heap.size) := ⟨by have := HZ2.out; omega, hrow.lt⟩
  obtain ⟨W4, hW4⟩ : ∃ W4, W4 = w3.alloc (.cells #[.int .i64 3, .slice (some ⟨g, 0, none⟩) 9 c] 116) := ⟨_, rfl⟩
  have HRW : Hid (RowB W4 g (topD 3)) := by rw [Hid, hW4]; exact hrow.alloc _
  have HM4 : Hid (W4.heap[w3.heap.size]? = some (.cells #[.int .i64 3, .slice (some ⟨g, 0, none⟩) 9 c] 116 (0, 0))) := by rw [Hid, hW4]; exact hp_topA rfl
  have HB4 : Hid (Below W2.heap.size W2 W4) := by rw [Hid, hW4]; exact HB3.out.alloc HB3.out.size _
  have HW4 := Lib.hid hW4.symm
  clear hb3 hg hrow hW4
  go_wp2_with fail
  rw [HW4.out]
  clear HW4
  refine (places121_any W4).mono ?_
  rintro e w5 ⟨rfl, hb5⟩
  have HB5 : Hid (Below W2.heap.size W2 w5) := HB4.out.trans (hb5.mono HB4.out.size)
  have HRW5 := Lib.hid (HRW.out.below hb5)
  have HM5 : Hid (w5.heap[w3.heap.size]? = some (.cells #[.int .i64 3, .slice (some ⟨g, 0, none⟩) 9 c] 116 (0, 0))) := (hb5.block _ (Array.getElem?_eq_some_iff.1 HM4.out).1).trans HM4.out
  have HX5 : Hid (w5.heap[w.heap.size]? = some (.cells #[.int .i64 z0, .int .i64 z1, .int .i64 z2, .int .i64 z3, .int .i64 z4, .int .i64 z5] 69 (0, 0))) := (HB5.out.block _ (by have := HZ2.out; omega)).trans HX2.out
  have HR5 : Hid (w5.heap[w.heap.size + 1]? = some (.cells #[.int .i64 0, .slice none 0 0] 116 (0, 0))) := (HB5.out.block _ (by have := HZ2.out; omega)).trans HR2.out
  clear hb5 HM4 HRW HB4
  go_wp2_with fail
  go_loopw [12] (fun i wr => ∃ k : Nat, k ≤ 6 ∧ i = .int .i64 k ∧ Hid (RowB wr g (plcTo [z0, z1, z2, z3, z4, z5] k) ∧ Bt g w5 wr)) (fun i _ => 6 - (intOf i).toNat)
  case atStart => exact ⟨0, by omega, rfl, HRW5.out, Bt.refl _ _⟩
  case round =>
    obtain ⟨k, hk, rfl, HST⟩ := hrel
    have hmr := HST.out.2.at HM5.out (by have := HG.out; omega)
    have x0 := Lib.cell_of_heap hmr 0
    have x1 := Lib.cell_of_heap hmr 1
    simp only [List.getElem?_toArray, List.getElem?_cons_zero, List.getElem?_cons_succ] at x0 x1
    have xl := (Array.getElem?_eq_some_iff.1 hmr).1
    have hxr := HST.out.2.at HX5.out (by have := HG.out; omega)
    have zl := (Array.getElem?_eq_some_iff.1 hxr).1
    by_cases hlt : k < 6
    · have hz : wr.cell? ⟨w.heap.size, k, none⟩ = some (.int .i64 ([z0, z1, z2, z3, z4, z5].getD k 0)) := by
        rw [Lib.cell_of_heap hxr]
        match k, hlt with
        | 0, _ | 1, _ | 2, _ | 3, _ | 4, _ | 5, _ => rfl
      have HT : Hid (plcTo [z0, z1, z2, z3, z4, z5] (k + 1) = (plcTo [z0, z1, z2, z3, z4, z5] k).set (plc k) ([z0, z1, z2, z3, z4, z5].getD k 0)) := plcTo_succ _ _
      obtain ⟨z, hzz⟩ : ∃ z, [z0, z1, z2, z3, z4, z5].getD k 0 = z := ⟨_, rfl⟩
      rw [hzz] at hz HT
      have hidx := idx182 k hlt
      obtain ⟨p, hp⟩ : ∃ p, plc k = p := ⟨_, rfl⟩
      have hp9 : p < 9 := by rw [← hp]; exact plc_lt k hlt
      rw [hp] at hidx HT
      have hpi : (p : Int) < 9 := by omega
      have hp0 : (0 : Int) ≤ (p : Int) := by omega
      have hki : (k : Int) < 6 := by omega
      have hk0 : (0 : Int) ≤ (k : Int) := by omega
      have hfz := HST.out.1.frozen p
      have hcg := HST.out.1.cell p (by rw [plcTo_len]; exact hp9)
      have hgl := HST.out.1.lt
      have HPL : Hid (p < (plcTo [z0, z1, z2, z3, z4, z5] k).length) := by rw [Hid, plcTo_len]; exact hp9
      clear hzz hp hmr hxr
      go_upto_region 5 with fail
      go_still_tail 6, (by kernel_rfl)
      go_wp2_with fail
      go_roundw
      case rel => exact ⟨k + 1, by omega, by go_num, by
        rw [HT.out]
        exact ⟨(HST.out.1.set p HPL.out z).agree rfl, (HST.out.2.set p (.int .i64 z)).drew⟩⟩
      case measure => simp [intOf]; omega
    · obtain rfl : k = 6 := by omega
      have HF : Hid (RowB wr g (matD z0 z1 z2 z3 z4 z5)) := by have := HST.out.1; rw [plcTo_six] at this; exact this
      have hr7 := HST.out.2.at HR5.out (by have := HG.out; omega)
      have r0 := Lib.cell_of_heap hr7 0
      have r1 := Lib.cell_of_heap hr7 1
      simp only [List.getElem?_toArray, List.getElem?_cons_zero, List.getElem?_cons_succ] at r0 r1
      have f0 := Lib.frozen_of_heap hr7 0
      have f1 := Lib.frozen_of_heap hr7 1
      have rl := (Array.getElem?_eq_some_iff.1 hr7).1
      have HR7 := Lib.hid hr7
      clear hmr hxr hr7
      go_wp2_with fail
      refine bodyPost_ret (results_cell_row rfl _ _ _ _ _ _ _ rfl (set2_at HR7.out _ _) Tryz.underlying116 rfl (by kernel_rfl)) rfl ?_
      have HRX := Lib.hid (RowB.agree (w' := set2 wr (w.heap.size + 1) (.int .i64 3) (.slice (some ⟨g, 0, none⟩) 9 c)) HF.out (set2_other _ _ _ _ _ (by have := HG.out; omega)))
      exact ⟨⟨_, _, rfl, by have := HG.out; omega, HRX.out⟩, set2_below (bt_below (HB2.out.trans (HB5.out.mono HB2.out.size)) HST.out.2 (by have := HG.out; omega) (HB2.out.trans (HB5.out.mono HB2.out.size)).size) (by omega) _ _⟩
end Go.Proofs.YtockinpjfhhkoaaGreatDoor
