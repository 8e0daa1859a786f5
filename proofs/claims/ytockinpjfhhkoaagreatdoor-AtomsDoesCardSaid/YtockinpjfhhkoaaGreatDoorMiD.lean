/- zone.told walked. -/
import Derived.Deep.Cut
import Derived.Test.YtockinpjfhhkoaaGreatDoorMiC
namespace Go.Proofs.YtockinpjfhhkoaaGreatDoor
open Go.RowKit

/-- The zone's numbers so far. -/
def tolF (L : List Int) (k i : Nat) : Int := if i < k then L.getD (plc i) 0 else 0
def tolV (L : List Int) (k : Nat) : Array Value := #[.int .i64 (tolF L k 0), .int .i64 (tolF L k 1), .int .i64 (tolF L k 2), .int .i64 (tolF L k 3), .int .i64 (tolF L k 4), .int .i64 (tolF L k 5)]
theorem tol_step {W : World} {b k : Nat} {L : List Int} (h : W.heap[b]? = some (.cells (tolV L k) 69 (0, 0))) (hk : k < 6) : (W.setCell ⟨b, k, none⟩ (.int .i64 (L.getD (plc k) 0))).heap[b]? = some (.cells (tolV L (k + 1)) 69 (0, 0)) := by
  rw [setCell_at h k _]
  match k, hk with
  | 0, _ | 1, _ | 2, _ | 3, _ | 4, _ | 5, _ => simp [tolV, tolF]
theorem plc_lt' (k : Nat) (hk : k < 6) : plc k < 9 := by
  match k, hk with
  | 0, _ | 1, _ | 2, _ | 3, _ | 4, _ | 5, _ => decide
/-- A zone's numbers out of its matrix. -/
def zonD (L : List Int) : Array Value := #[.int .i64 (L.getD 3 0), .int .i64 (L.getD 1 0), .int .i64 (L.getD 6 0), .int .i64 (L.getD 2 0), .int .i64 (L.getD 7 0), .int .i64 (L.getD 5 0)]
theorem tolV_six (L : List Int) : tolV L 6 = zonD L := by simp [tolV, tolF, zonD, plc]
theorem tolV_zero (L : List Int) : tolV L 0 = #[.int .i64 0, .int .i64 0, .int .i64 0, .int .i64 0, .int .i64 0, .int .i64 0] := by simp [tolV, tolF]
set_option maxRecDepth 100000 in
set_option maxHeartbeats 16000000 in
theorem told161_any {g c : Nat} {L : List Int} {w : World} (h : RowB w g L) (hl : L.length = 9) (hbd : badD L = false) :
    Calls Tryz.prog 161 #[.agg #[.int .i64 3, .slice (some ⟨g, 0, none⟩) L.length c]] w fun e w' => e = .returned (.tuple #[.agg (zonD L), .int .i64 0]) ∧ Below w.heap.size w w' := by
  obtain ⟨W2, hW2⟩ : ∃ W2, W2 = (w.alloc (.cells #[.int .i64 3, .slice (some ⟨g, 0, none⟩) L.length c] 116)).alloc (.cells #[.int .i64 0, .int .i64 0, .int .i64 0, .int .i64 0, .int .i64 0, .int .i64 0] 69) := ⟨_, rfl⟩
  have hb2 : Below w.heap.size w W2 := by rw [hW2]; exact (belowA _ _).alloc (by simp) _
  have hz2 : W2.heap.size = w.heap.size + 2 := by rw [hW2]; simp
  have hx2 : W2.heap[w.heap.size]? = some (.cells #[.int .i64 3, .slice (some ⟨g, 0, none⟩) L.length c] 116 (0, 0)) := by
    rw [hW2]; exact (Below.heap_alloc _ _ _ (by simp)).trans (hp_topA rfl)
  have hr2 : W2.heap[w.heap.size + 1]? = some (.cells (tolV L 0) 69 (0, 0)) := by
    rw [hW2, tolV_zero]; exact hp_topA (by simp)
  have HCK := Lib.hid (check115_any (n := 3) (c := c) (h.below hb2) (by decide) (by decide) hl)
  have HCK : Hid (Calls Tryz.prog 115 #[.agg #[.int .i64 3, .slice (some ⟨g, 0, none⟩) L.length c]] W2 fun e w' => e = .returned (.int .i64 (checkD L)) ∧ Below W2.heap.size W2 w') := HCK.out
  have HE : Hid (checkD L = 0) := by rw [Hid, checkD, hbd]; rfl
  have HRW := Lib.hid (h.below hb2)
  have HW2 := Lib.hid hW2.symm
  have HB2 := Lib.hid hb2
  have HZ2 := Lib.hid hz2
  have HX2 := Lib.hid hx2
  have HR2 := Lib.hid hr2
  have x0 := Lib.cell_of_heap hx2 0
  have x1 := Lib.cell_of_heap hx2 1
  simp only [List.getElem?_toArray, List.getElem?_cons_zero, List.getElem?_cons_succ] at x0 x1
  have xl := (Array.getElem?_eq_some_iff.1 hx2).1
  have HL := Lib.hid hl
  have hgl := h.lt
  clear h hb2 hz2 hx2 hr2 hW2 hbd hl
  go_enter Tryz.func161, Tryz.ntmps161
  go_wp2_with fail
  rw [HW2.out]
  clear HW2
  go_wp2_with fail
  refine HCK.out.mono ?_
  rintro e w3 ⟨rfl, hb3⟩
  rw [HE.out]
  have HB3 := Lib.hid hb3
  clear hb3 x0 x1 xl
  go_wp2_with fail
  refine (places121_any w3).mono ?_
  rintro e w5 ⟨rfl, hb5⟩
  have HB5 : Hid (Below W2.heap.size W2 w5) := HB3.out.trans (hb5.mono HB3.out.size)
  clear hb5
  go_wp2_with fail
  go_loopw [11] (fun i wr => ∃ k : Nat, k ≤ 6 ∧ i = .int .i64 k ∧ Hid (wr.heap[w.heap.size + 1]? = some (.cells (tolV L k) 69 (0, 0)) ∧ Bt (w.heap.size + 1) w5 wr)) (fun i _ => 6 - (intOf i).toNat)
  case atStart => exact ⟨0, by omega, rfl, (HB5.out.block _ (by have := HZ2.out; omega)).trans HR2.out, Bt.refl _ _⟩
  case round =>
    obtain ⟨k, hk, rfl, HST⟩ := hrel
    have hx5 := HST.out.2.at ((HB5.out.block _ (by have := HZ2.out; omega)).trans HX2.out) (by omega)
    have x0 := Lib.cell_of_heap hx5 0
    have x1 := Lib.cell_of_heap hx5 1
    simp only [List.getElem?_toArray, List.getElem?_cons_zero, List.getElem?_cons_succ] at x0 x1
    have xl := (Array.getElem?_eq_some_iff.1 hx5).1
    by_cases hlt : k < 6
    · have hidx := idx182 k hlt
      have HT := Lib.hid (tol_step HST.out.1 hlt)
      obtain ⟨p, hp⟩ : ∃ p, plc k = p := ⟨_, rfl⟩
      have hp9 : p < L.length := by rw [HL.out, ← hp]; exact plc_lt' k hlt
      have hrow : RowB wr g L := (HRW.out.below HB5.out).agree (HST.out.2.2.2.2.2 g (by have := HB5.out.size; have := HZ2.out; omega) (by omega))
      have hcg := hrow.cellD p hp9
      rw [hp] at hidx HT
      obtain ⟨v, hv⟩ : ∃ v, L.getD p 0 = v := ⟨_, rfl⟩
      rw [hv] at hcg HT
      have hpi : (p : Int) < (L.length : Int) := by omega
      have hp0 : (0 : Int) ≤ (p : Int) := by omega
      have hki : (k : Int) < 6 := by omega
      have hk0 : (0 : Int) ≤ (k : Int) := by omega
      have hg2 : g < wr.heap.size := hrow.lt
      have hfz := Lib.frozen_of_heap HST.out.1 k
      have hck := Lib.cell_of_heap HST.out.1 k
      have hck2 : wr.cell? ⟨w.heap.size + 1, k, none⟩ = some (.int .i64 (tolF L k k)) := by
        rw [hck]
        match k, hlt with
        | 0, _ | 1, _ | 2, _ | 3, _ | 4, _ | 5, _ => rfl
      have hl2 := (Array.getElem?_eq_some_iff.1 HST.out.1).1
      clear hv hp hx5 hrow hck
      go_wp2_with fail
      go_roundw
      case rel => exact ⟨k + 1, by omega, by go_num, HT.out, HST.out.2.set _ _⟩
      case measure => simp [intOf]; omega
    · obtain rfl : k = 6 := by omega
      have HF : Hid (wr.heap[w.heap.size + 1]? = some (.cells (zonD L) 69 (0, 0))) := by have := HST.out.1; rw [tolV_six] at this; exact this
      have HBB : Hid (Below w.heap.size w wr) := bt_below (HB2.out.trans (HB5.out.mono HB2.out.size)) HST.out.2 (by omega) (HB2.out.trans (HB5.out.mono HB2.out.size)).size
      clear hx5
      go_wp2_with fail
      refine bodyPost_ret (results_cell_row_tmp rfl _ _ _ _ _ _ _ _ rfl rfl HF.out Tryz.underlying69 rfl (by kernel_rfl)) rfl ?_
      exact ⟨rfl, HBB.out⟩
end Go.Proofs.YtockinpjfhhkoaaGreatDoor

/- zone.Of walked. -/
namespace Go.Proofs.YtockinpjfhhkoaaGreatDoor
open Go.RowKit

def set6 (w : World) (b : Nat) (x0 x1 x2 x3 x4 x5 : Value) : World :=
  (((((w.setCell ⟨b, 0, none⟩ x0).setCell ⟨b, 1, none⟩ x1).setCell ⟨b, 2, none⟩ x2).setCell ⟨b, 3, none⟩ x3).setCell ⟨b, 4, none⟩ x4).setCell ⟨b, 5, none⟩ x5
theorem set6_at {w : World} {b : Nat} {u0 u1 u2 u3 u4 u5 : Value} {t : TypeId} (h : w.heap[b]? = some (.cells #[u0, u1, u2, u3, u4, u5] t (0, 0))) (x0 x1 x2 x3 x4 x5 : Value) : (set6 w b x0 x1 x2 x3 x4 x5).heap[b]? = some (.cells #[x0, x1, x2, x3, x4, x5] t (0, 0)) := by
  simp [set6, World.setCell, Array.getElem?_modify, h]
theorem set6_below {B : Nat} {w w' : World} (h : Below B w w') {b : Nat} (hb : B ≤ b) (x0 x1 x2 x3 x4 x5 : Value) : Below B w (set6 w' b x0 x1 x2 x3 x4 x5) :=
  (((((h.setCell (p := ⟨b, 0, none⟩) hb x0).setCell (p := ⟨b, 1, none⟩) hb x1).setCell (p := ⟨b, 2, none⟩) hb x2).setCell (p := ⟨b, 3, none⟩) hb x3).setCell (p := ⟨b, 4, none⟩) hb x4).setCell (p := ⟨b, 5, none⟩) hb x5
set_option maxRecDepth 100000 in
set_option maxHeartbeats 16000000 in
theorem of90_any {g c : Nat} {L M : List Int} {w : World} (h : RowB w g L) (hl : L.length = 9) (hbd : badD L = false) (hcl : closeD 3 L = some M) (hbm : badD M = false) :
    Calls Tryz.prog 90 #[.agg #[.int .i64 3, .slice (some ⟨g, 0, none⟩) L.length c]] w fun e w' => e = .returned (.tuple #[.agg (zonD M), .int .i64 0]) ∧ Below w.heap.size w w' := by
  obtain ⟨W2, hW2⟩ : ∃ W2, W2 = (w.alloc (.cells #[.int .i64 3, .slice (some ⟨g, 0, none⟩) L.length c] 116)).alloc (.cells #[.int .i64 0, .int .i64 0, .int .i64 0, .int .i64 0, .int .i64 0, .int .i64 0] 69) := ⟨_, rfl⟩
  have hb2 : Below w.heap.size w W2 := by rw [hW2]; exact (belowA _ _).alloc (by simp) _
  have hz2 : W2.heap.size = w.heap.size + 2 := by rw [hW2]; simp
  have hx2 : W2.heap[w.heap.size]? = some (.cells #[.int .i64 3, .slice (some ⟨g, 0, none⟩) L.length c] 116 (0, 0)) := by
    rw [hW2]; exact (Below.heap_alloc _ _ _ (by simp)).trans (hp_topA rfl)
  have hr2 : W2.heap[w.heap.size + 1]? = some (.cells #[.int .i64 0, .int .i64 0, .int .i64 0, .int .i64 0, .int .i64 0, .int .i64 0] 69 (0, 0)) := by
    rw [hW2]; exact hp_topA (by simp)
  have HCK : Hid (Calls Tryz.prog 115 #[.agg #[.int .i64 3, .slice (some ⟨g, 0, none⟩) L.length c]] W2 fun e w' => e = .returned (.int .i64 (checkD L)) ∧ Below W2.heap.size W2 w') := check115_any (n := 3) (c := c) (h.below hb2) (by decide) (by decide) hl
  have HE : Hid (checkD L = 0) := by rw [Hid, checkD, hbd]; rfl
  have HCL : Hid (∀ W, Below W2.heap.size W2 W → Calls Tryz.prog 62 #[.agg #[.int .i64 3, .slice (some ⟨g, 0, none⟩) L.length c]] W fun e w' => CloseOut 3 (some M) W.heap.size e w' ∧ Below W.heap.size W w') := by
    intro W hW
    have := close62_any (n := 3) (c := c) ((h.below hb2).below hW) hl (by decide) (by decide) hbd
    rw [hcl] at this
    exact this
  have HML : Hid (M.length = 9) := (closeD_len hcl).trans hl
  have HBM := Lib.hid hbm
  have HW2 := Lib.hid hW2.symm
  have HB2 := Lib.hid hb2
  have HZ2 := Lib.hid hz2
  have HX2 := Lib.hid hx2
  have HR2 := Lib.hid hr2
  have x0 := Lib.cell_of_heap hx2 0
  have x1 := Lib.cell_of_heap hx2 1
  simp only [List.getElem?_toArray, List.getElem?_cons_zero, List.getElem?_cons_succ] at x0 x1
  have xl := (Array.getElem?_eq_some_iff.1 hx2).1
  clear h hb2 hz2 hx2 hr2 hW2 hbd hl hcl hbm
  go_enter Tryz.func90, Tryz.ntmps90
  go_wp2_with fail
  rw [HW2.out]
  clear HW2
  refine HCK.out.mono ?_
  rintro e w3 ⟨rfl, hb3⟩
  rw [HE.out]
  have HB3 := Lib.hid hb3
  have hx3 := (hb3.block w.heap.size (by have := HZ2.out; omega)).trans HX2.out
  have y0 := Lib.cell_of_heap hx3 0
  have y1 := Lib.cell_of_heap hx3 1
  simp only [List.getElem?_toArray, List.getElem?_cons_zero, List.getElem?_cons_succ] at y0 y1
  have yl := (Array.getElem?_eq_some_iff.1 hx3).1
  clear hb3 hx3 x0 x1 xl
  go_wp2_with fail
  refine (HCL.out w3 HB3.out).mono ?_
  rintro e w4 ⟨⟨g', c', rfl, hg', hrow⟩, hb4⟩
  have HB4 : Hid (Below W2.heap.size W2 w4) := HB3.out.trans (hb4.mono HB3.out.size)
  obtain ⟨W5, hW5⟩ : ∃ W5, W5 = w4.alloc (.cells #[.int .i64 3, .slice (some ⟨g', 0, none⟩) M.length c'] 116) := ⟨_, rfl⟩
  have HB5 : Hid (Below W2.heap.size W2 W5) := by rw [Hid, hW5]; exact HB4.out.alloc HB4.out.size _
  have HTD : Hid (Calls Tryz.prog 161 #[.agg #[.int .i64 3, .slice (some ⟨g', 0, none⟩) M.length c']] W5 fun e w' => e = .returned (.tuple #[.agg (zonD M), .int .i64 0]) ∧ Below W5.heap.size W5 w') := told161_any (by rw [hW5]; exact hrow.alloc _) HML.out HBM.out
  have HW5 := Lib.hid hW5.symm
  clear hg' hrow hb4 hW5 y0 y1 yl
  go_wp2_with fail
  rw [HW5.out]
  clear HW5
  refine HTD.out.mono ?_
  rintro e w6 ⟨rfl, hb6⟩
  have HB6 : Hid (Below W2.heap.size W2 w6) := HB5.out.trans (hb6.mono HB5.out.size)
  have hr6 := (HB6.out.block (w.heap.size + 1) (by have := HZ2.out; omega)).trans HR2.out
  have r0 := Lib.cell_of_heap hr6 0
  have r1 := Lib.cell_of_heap hr6 1
  have r2 := Lib.cell_of_heap hr6 2
  have r3 := Lib.cell_of_heap hr6 3
  have r4 := Lib.cell_of_heap hr6 4
  have r5 := Lib.cell_of_heap hr6 5
  simp only [List.getElem?_toArray, List.getElem?_cons_zero, List.getElem?_cons_succ] at r0 r1 r2 r3 r4 r5
  have f0 := Lib.frozen_of_heap hr6 0
  have f1 := Lib.frozen_of_heap hr6 1
  have f2 := Lib.frozen_of_heap hr6 2
  have f3 := Lib.frozen_of_heap hr6 3
  have f4 := Lib.frozen_of_heap hr6 4
  have f5 := Lib.frozen_of_heap hr6 5
  have rl := (Array.getElem?_eq_some_iff.1 hr6).1
  have HR6 := Lib.hid hr6
  clear hb6 hr6
  unfold zonD
  go_wp2_with fail
  refine bodyPost_ret (results_cell_row_tmp rfl _ _ _ _ _ _ _ _ rfl rfl (set6_at HR6.out _ _ _ _ _ _) Tryz.underlying69 rfl (by kernel_rfl)) rfl ?_
  exact ⟨rfl, set6_below (HB2.out.trans (HB6.out.mono HB2.out.size)) (by omega) _ _ _ _ _ _⟩
end Go.Proofs.YtockinpjfhhkoaaGreatDoor
