/- The statements' own formulas of layer 20: names, of, made walked; rows of one and two formulas. -/
import Derived.Test.YtabpfbgcdmejbaaDoorPropF
import Derived.Test.YtabpfbgcdmejbaaDoorTreeQ
import Derived.Test.YtabpfbgcdmejbaaDoorTreeR
import Derived.Test.YtabpfbgcdmejbaaDoorTreeJ
namespace Go.Proofs.YtabpfbgcdmejbaaDoor
open Go.RowKit

set_option maxRecDepth 100000 in
set_option maxHeartbeats 4000000 in
theorem names19_any (w : World) : Calls Tryd.prog 19 #[] w fun e w' => e = .returned (.slice (some ⟨w.heap.size, 0, none⟩) 2 2) ∧ w' = w.alloc (.cells #[.string ⟨#[112]⟩, .string ⟨#[113]⟩] 9) := by
  go_enter Tryd.func19, Tryd.ntmps19
  go_wp2_with fail
  all_goals go_ret
  all_goals exact ⟨rfl, rfl⟩

set_option maxRecDepth 100000 in
set_option maxHeartbeats 4000000 in
theorem of21_any (s : ByteArray) (w : World) :
    Calls Tryd.prog 21 #[.string s] w fun e w' => e = .returned (.agg #[.int .u8 3, .string s, .slice none 0 0]) ∧ w' = w.alloc (.cells #[.int .u8 3, .string s, .slice none 0 0] 39) := by
  go_enter Tryd.func21, Tryd.ntmps21
  go_wp2_with fail
  refine bodyPost_ret (results_cell_row rfl _ _ w.heap.size 39 _ (0, 0) _ rfl (heap_alloc_new _ _) Tryd.underlying39 rfl (by kernel_rfl)) rfl ⟨rfl, rfl⟩

set_option maxRecDepth 100000 in
set_option maxHeartbeats 4000000 in
theorem made20_any (k : Int) (a : Option Addr) (l c : Nat) (w : World) :
    Calls Tryd.prog 20 #[.int .u8 k, .slice a l c] w fun e w' => e = .returned (.agg #[.int .u8 k, .string ⟨#[]⟩, .slice a l c]) ∧ w' = w.alloc (.cells #[.int .u8 k, .string ⟨#[]⟩, .slice a l c] 39) := by
  go_enter Tryd.func20, Tryd.ntmps20
  go_wp2_with fail
  refine bodyPost_ret (results_cell_row rfl _ _ w.heap.size 39 _ (0, 0) _ rfl (heap_alloc_new _ _) Tryd.underlying39 rfl (by kernel_rfl)) rfl ⟨rfl, rfl⟩

theorem heap_top {W : World} {o : Obj} {n : Nat} (h : n = W.heap.size) : (W.alloc o).heap[n]? = some o := by subst h; exact Array.getElem?_push_size
theorem heap_in {W : World} {o : Obj} {n : Nat} {x : Option Obj} (h : n < W.heap.size) (h' : W.heap[n]? = x) : (W.alloc o).heap[n]? = x := (Below.heap_alloc W o n h).trans h'
theorem frow1 {w : World} {n g : Nat} {f : FT n} {x0 x1 x2 : Value} {t : TypeId} {fz : Nat × Nat} (hb : w.heap[g]? = some (.cells #[x0, x1, x2] t fz)) (hf : FRep w w.heap.size n f (.agg #[x0, x1, x2])) : FRow w w.heap.size n (some ⟨g, 0, none⟩) [f] := by
  refine frow_of (cs := [[x0, x1, x2]]) (by simp) hb rfl ?_ ?_ ?_
  · intro i hi; obtain rfl : i = 0 := by simpa using hi
    rfl
  · intro i hi; obtain rfl : i = 0 := by simpa using hi
    exact hf
  · intro i hi j hj; obtain rfl : i = 0 := by simpa using hi
    simp
theorem frow2 {w : World} {n g : Nat} {f h : FT n} {x0 x1 x2 y0 y1 y2 : Value} {t : TypeId} {fz : Nat × Nat} (hb : w.heap[g]? = some (.cells #[x0, x1, x2, y0, y1, y2] t fz)) (hf : FRep w w.heap.size n f (.agg #[x0, x1, x2])) (hh : FRep w w.heap.size n h (.agg #[y0, y1, y2])) : FRow w w.heap.size n (some ⟨g, 0, none⟩) [f, h] := by
  refine frow_of (cs := [[x0, x1, x2], [y0, y1, y2]]) (by simp) hb rfl ?_ ?_ ?_
  · intro i hi
    match i, hi with
    | 0, _ => rfl
    | 1, _ => rfl
  · intro i hi
    match i, hi with
    | 0, _ => exact hf
    | 1, _ => exact hh
  · intro i hi j hj
    match i, hi with
    | 0, _ => match j, hj with
      | 0, _ => rfl
      | 1, _ => rfl
      | 2, _ => rfl
    | 1, _ => match j, hj with
      | 0, _ => rfl
      | 1, _ => rfl
      | 2, _ => rfl
theorem rep_prop (w : World) (B n : Nat) (s : ByteArray) : FRep w B (n + 1) (3, s, []) (.agg #[.int .u8 3, .string s, .slice none 0 0]) := ⟨none, 0, rfl, by simp, .inl rfl⟩
theorem rep_one {w : World} {n g c : Nat} {f : FT n} {k : Int} {x0 x1 x2 : Value} {t : TypeId} {fz : Nat × Nat} (hb : w.heap[g]? = some (.cells #[x0, x1, x2] t fz)) (hf : FRep w w.heap.size n f (.agg #[x0, x1, x2])) :
    FRep w w.heap.size (n + 1) (k, ⟨#[]⟩, [f]) (.agg #[.int .u8 k, .string ⟨#[]⟩, .slice (some ⟨g, 0, none⟩) 1 c]) := ⟨_, c, rfl, frow1 hb hf⟩
theorem rep_two {w : World} {n g c : Nat} {f h : FT n} {k : Int} {x0 x1 x2 y0 y1 y2 : Value} {t : TypeId} {fz : Nat × Nat} (hb : w.heap[g]? = some (.cells #[x0, x1, x2, y0, y1, y2] t fz)) (hf : FRep w w.heap.size n f (.agg #[x0, x1, x2])) (hh : FRep w w.heap.size n h (.agg #[y0, y1, y2])) :
    FRep w w.heap.size (n + 1) (k, ⟨#[]⟩, [f, h]) (.agg #[.int .u8 k, .string ⟨#[]⟩, .slice (some ⟨g, 0, none⟩) 2 c]) := ⟨_, c, rfl, frow2 hb hf hh⟩
end Go.Proofs.YtabpfbgcdmejbaaDoor

/- Formulas that are great, walked; variables of formulas; a table's place. -/
namespace Go.Proofs.YtabpfbgcdmejbaaDoor
open Go.RowKit

set_option maxRecDepth 100000 in
set_option maxHeartbeats 4000000 in
theorem greatF24_any (n : Nat) (t : FT n) (v : Value) (w : World) (h : FRep w w.heap.size n t v) :
    Calls Tryd.prog 24 #[v] w fun e w' => e = .returned (.bool (decide (2000 < sizeF n t 2000))) ∧ Below w.heap.size w w' := by
  obtain ⟨k, s, a, l, c, rfl⟩ := h.shape
  have hb : Below w.heap.size w (w.alloc (.cells #[.int .u8 k, .string s, .slice a l c] 39)) := (Below.refl _ _).alloc (Nat.le_refl _) _
  have HC := Lib.hid (size49_any n t _ 2000 _ (h.up hb hb.size))
  have HB := Lib.hid hb
  clear h hb
  go_enter Tryd.func24, Tryd.ntmps24
  go_wp2_with fail
  refine HC.out.mono ?_
  rintro e w1 ⟨rfl, hb1⟩
  have HB1 := Lib.hid (HB.out.trans (hb1.mono HB.out.size))
  clear hb1
  go_wp2_with fail
  all_goals go_ret
  all_goals exact ⟨rfl, HB1.out⟩

/-- A formula's variable. -/
def VarF (w : World) (Z n : Nat) (t : FT n) : Prop := ∃ x0 x1 x2, w.heap[Z]? = some (.cells #[x0, x1, x2] 39 (0, 0)) ∧ FRep w w.heap.size n t (.agg #[x0, x1, x2])
theorem VarF.up {w w' : World} {Z n : Nat} {t : FT n} (h : VarF w Z n t) (hb : Below w.heap.size w w') : VarF w' Z n t := by
  obtain ⟨x0, x1, x2, h1, h2⟩ := h
  exact ⟨x0, x1, x2, (hb.block _ (Array.getElem?_eq_some_iff.1 h1).1).trans h1, h2.up hb hb.size⟩
theorem heap_dr {W : World} {n : Nat} {x : Option Obj} (h : W.heap[n]? = x) : W.drew.heap[n]? = x := h

theorem pow_quot {o L : Nat} (h : ¬ 0 < (o : Int) / 2 ^ L) : o < 2 ^ L := by
  have hc : ((2 : Int) ^ L) = ((2 ^ L : Nat) : Int) := by simp
  rw [hc] at h
  have hp : 0 < 2 ^ L := Nat.pos_of_ne_zero (by simp)
  rcases Nat.lt_or_ge o (2 ^ L) with hh | hh
  · exact hh
  · exfalso
    apply h
    have : 1 ≤ o / 2 ^ L := (Nat.le_div_iff_mul_le hp).2 (by omega)
    have e : (o : Int) / ((2 ^ L : Nat) : Int) = ((o / 2 ^ L : Nat) : Int) := (Int.natCast_ediv _ _).symm
    rw [e]; omega
theorem quot_pow {o L : Nat} (h : o < 2 ^ L) : ¬ 0 < (o : Int) / 2 ^ L := by
  have hc : ((2 : Int) ^ L) = ((2 ^ L : Nat) : Int) := by simp
  rw [hc]
  have e : (o : Int) / ((2 ^ L : Nat) : Int) = ((o / 2 ^ L : Nat) : Int) := (Int.natCast_ediv _ _).symm
  rw [e, Nat.div_eq_of_lt h]; simp
theorem tbl_at {w : World} {lv : Value} {names : List ByteArray} {n : Nat} {t : FT n} {P o : Nat} {b : Bool} (h : BRep w lv (tblF names n t)) (hP : P = 2 ^ names.length) (ho : o < 2 ^ names.length) (hb : b = holdsF names n t (o : Int)) :
    ∃ g cg, lv = .slice (some ⟨g, 0, none⟩) P cg ∧ w.cell? ⟨g, o, none⟩ = some (.bool b) := by
  obtain ⟨a, c, rfl, h⟩ := h
  have hl := tbl_len names n t
  rcases h with h | ⟨g, rfl, hg, hc⟩
  · rw [h] at hl
    simp at hl
    omega
  · refine ⟨g, c, by rw [hl, hP], ?_⟩
    have := hc o (by rw [hl]; exact ho)
    rw [this, hb]
    simp [tblF]
end Go.Proofs.YtabpfbgcdmejbaaDoor
