/- zone.told walked. -/
import Derived.Deep.Cut
import Derived.Test.YtockinpjfhhkoaaGreatDoorAtQ
namespace Go.Proofs.YtockinpjfhhkoaaGreatDoor
open Go.RowKit

/-- The zone's numbers so far. -/
def tolF (L : List Int) (k i : Nat) : Int := if i < k then L.getD (plc i) 0 else 0
def tolV (L : List Int) (k : Nat) : Array Value := #[.int .i64 (tolF L k 0), .int .i64 (tolF L k 1), .int .i64 (tolF L k 2), .int .i64 (tolF L k 3), .int .i64 (tolF L k 4), .int .i64 (tolF L k 5)]
theorem tol_step {W : World} {b k : Nat} {L : List Int} (h : W.heap[b]? = some (.cells (tolV L k) 69 (0, 0))) (hk : k < 6) : (W.setCell ⟨b, k, none⟩ (.int .i64 (L.getD (plc k) 0))).heap[b]? = some (.cells (tolV L (k + 1)) 69 (0, 0)) := by
  rw [setCell_at h k _]
  match k, hk with
  | 0, _ | 1, _ | 2, _ | 3, _ | 4, _ | 5, _ => simp [tolV, tolF]
theorem plc_lt' (k : Nat) (hk : k < 6) : plc k < 9 := by
  match k, hk with
  | 0, _ | 1, _ | 2, _ | 3, _ | 4, _ | 5, _ => decide
/-- A zone's numbers out of its matrix. -/
def zonD (L : List Int) : Array Value := #[.int .i64 (L.getD 3 0), .int .i64 (L.getD 1 0), .int .i64 (L.getD 6 0), .int .i64 (L.getD 2 0), .int .i64 (L.getD 7 0), .int .i64 (L.getD 5 0)]
theorem tolV_six (L : List Int) : tolV L 6 = zonD L := by simp [tolV, tolF, zonD, plc]
theorem tolV_zero (L : List Int) : tolV L 0 = #[.int .i64 0, .int .i64 0, .int .i64 0, .int .i64 0, .int .i64 0, .int .i64 0] := by simp [tolV, tolF]
set_option maxRecDepth 100000 in
set_option maxHeartbeats 16000000 in
theorem told161_any {g c : Nat} {L : List Int} {w : World} (h : RowB w g L) (hl : L.length = 9) (hbd : badD L = false) :
    Calls Tryz.prog 161 #[.agg #[.int .i64 3, .slice (some ⟨g, 0, none⟩) L.length c]] w fun e w' => e = .returned (.tuple #[.agg (zonD L), .int .i64 0]) ∧ Below w.heap.size w w' := by
  obtain ⟨W2, hW2⟩ : ∃ W2, W2 = (w.alloc (.cells #[.int .i64 3, .slice (some ⟨g, 0, none⟩) L.length c] 116)).alloc (.cells #[.int .i64 0, .int .i64 0, .int .i64 0, .int .i64 0, .int .i64 0, .int .i64 0] 69) := ⟨_, rfl⟩
  have hb2 : Below w.heap.size w W2 := by rw [hW2]; exact (belowA _ _).alloc (by simp) _
  have hz2 : W2.heap.size = w.heap.size + 2 := by rw [hW2]; simp
  have hx2 : W2.heap[w.heap.size]? = some (.cells #[.int .i64 3, .slice (some ⟨g, 0, none⟩) L.length c] 116 (0, 0)) := by
    rw [hW2]; exact (Below.heap_alloc _ _ _ (by simp)).trans (hp_topA rfl)
  have hr2 : W2.heap[w.heap.size + 1]? = some (.cells (tolV L 0) 69 (0, 0)) := by
    rw [hW2, tolV_zero]; exact hp_topA (by simp)
  have HCK := Lib.hid (check115_any (n := 3) (c := c) (h.below hb2) (by decide) (by decide) hl)
  have HCK : Hid (Calls Tryz.prog 115 #[.agg #[.int .i64 3, .slice (some ⟨g, 0, none⟩) L.length c]] W2 fun e w' => e = .returned (.int .i64 (checkD L)) ∧ Below W2.heap.size W2 w') := HCK.out
  have HE : Hid (checkD L = 0) := by rw [Hid, checkD, hbd]; rfl
  have HRW := Lib.hid (h.below hb2)
  have HW2 := Lib.hid hW2.symm
  have HB2 := Lib.hid hb2
  have HZ2 := Lib.hid hz2
  have HX2 := Lib.hid hx2
  have HR2 := Lib.hid hr2
  have x0 := Lib.cell_of_heap hx2 0
  have x1 := Lib.cell_of_heap hx2 1
  simp only [List.getElem?_toArray, List.getElem?_cons_zero, List.getElem?_cons_succ] at x0 x1
  have xl := (Array.getElem?_eq_some_iff.1 hx2).1
  have HL := Lib.hid hl
  have hgl := h.lt
  clear h hb2 hz2 hx2 hr2 hW2 hbd hl
  go_enter Tryz.func161, Tryz.ntmps161
  go_wp2_with fail
  rw [HW2.out]
  clear HW2
  go_wp2_with fail
  refine HCK.out.mono ?_
  rintro e w3 ⟨rfl, hb3⟩
  rw [HE.out]
  have HB3 := Lib.hid hb3
  clear hb3 x0 x1 xl
  go_wp2_with fail
  refine (places121_any w3).mono ?_
  rintro e w5 ⟨rfl, hb5⟩
  have HB5 : Hid (Below W2.heap.size W2 w5) := HB3.out.trans (hb5.mono HB3.out.size)
  clear hb5
  go_wp2_with fail
  go_loopw [11] (fun i wr => ∃ k : Nat, k ≤ 6 ∧ i = .int .i64 k ∧ Hid (wr.heap[w.heap.size + 1]? = some (.cells (tolV L k) 69 (0, 0)) ∧ Bt (w.heap.size + 1) w5 wr)) (fun i _ => 6 - (intOf i).toNat)
  case atStart => exact ⟨0, by omega, rfl, (HB5.out.block _ (by have := HZ2.out; omega)).trans HR2.out, Bt.refl _ _⟩
  case round =>
    obtain ⟨k, hk, rfl, HST⟩ := hrel
    have hx5 := HST.out.2.at ((HB5.out.block _ (by have := HZ2.out; omega)).trans HX2.out) (by omega)
    have x0 := Lib.cell_of_heap hx5 0
    have x1 := Lib.cell_of_heap hx5 1
    simp only [List.getElem?_toArray, List.getElem?_cons_zero, List.getElem?_cons_succ] at x0 x1
    have xl := (Array.getElem?_eq_some_iff.1 hx5).1
    by_cases hlt : k < 6
    · have hidx := idx182 k hlt
      have HT := Lib.hid (tol_step HST.out.1 hlt)
      obtain ⟨p, hp⟩ : ∃ p, plc k = p := ⟨_, rfl⟩
      have hp9 : p < L.length := by rw [HL.out, ← hp]; exact plc_lt' k hlt
      have hrow : RowB wr g L := (HRW.out.below HB5.out).agree (HST.out.2.2.2.2.2 g (by have := HB5.out.size; have := HZ2.out; omega) (by omega))
      have hcg := hrow.cellD p hp9
      rw [hp] at hidx HT
      obtain ⟨v, hv⟩ : ∃ v, L.getD p 0 = v := ⟨_, rfl⟩
      rw [hv] at hcg HT
      have hpi : (p : Int) < (L.length : Int) := by omega
      have hp0 : (0 : Int) ≤ (p : Int) := by omega
      have hki : (k : Int) < 6 := by omega
      have hk0 : (0 : Int) ≤ (k : Int) := by omega
      have hg2 : g < wr.heap.size := hrow.lt
      have hfz := Lib.frozen_of_heap HST.out.1 k
      have hck := Lib.cell_of_heap HST.out.1 k
      have hck2 : wr.cell? ⟨w.heap.size + 1, k, none⟩ = some (.int .i64 (tolF L k k)) := by
        rw [hck]
        match k, hlt with
        | 0, _ | 1, _ | 2, _ | 3, _ | 4, _ | 5, _ => rfl
      have hl2 := (Array.getElem?_eq_some_iff.1 HST.out.1).1
      clear hv hp hx5 hrow hck
      go_wp2_with fail
      go_roundw
      case rel => exact ⟨k + 1, by omega, by go_num, HT.out, HST.out.2.set _ _⟩
      case measure => simp [intOf]; omega
    · obtain rfl : k = 6 := by omega
      have HF : Hid (wr.heap[w.heap.size + 1]? = some (.cells (zonD L) 69 (0, 0))) := by have := HST.out.1; rw [tolV_six] at this; exact this
      have HBB : Hid (Below w.heap.size w wr) := bt_below (HB2.out.trans (HB5.out.mono HB2.out.size)) HST.out.2 (by omega) (HB2.out.trans (HB5.out.mono HB2.out.size)).size
      clear hx5
      go_wp2_with fail
      refine bodyPost_ret (results_cell_row_tmp rfl _ _ _ _ _ _ _ _ rfl rfl HF.out Tryz.underlying69 rfl (by kernel_rfl)) rfl ?_
      exact ⟨rfl, HBB.out⟩
end Go.Proofs.YtockinpjfhhkoaaGreatDoor
