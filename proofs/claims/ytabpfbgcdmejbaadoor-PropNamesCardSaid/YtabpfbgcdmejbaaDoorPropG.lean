/- The statements' own formulas of layer 20: names, of, made walked; rows of one and two formulas. -/
import Derived.Test.YtabpfbgcdmejbaaDoorPropF
import Derived.Test.YtabpfbgcdmejbaaDoorTreeQ
namespace Go.Proofs.YtabpfbgcdmejbaaDoor
open Go.RowKit

set_option maxRecDepth 100000 in
set_option maxHeartbeats 4000000 in
theorem names19_any (w : World) : Calls Tryd.prog 19 #[] w fun e w' => e = .returned (.slice (some ⟨w.heap.size, 0, none⟩) 2 2) ∧ w' = w.alloc (.cells #[.string ⟨#[112]⟩, .string ⟨#[113]⟩] 9) := by
  go_enter Tryd.func19, Tryd.ntmps19
  go_wp2_with fail
  all_goals go_ret
  all_goals exact ⟨rfl, rfl⟩

set_option maxRecDepth 100000 in
set_option maxHeartbeats 4000000 in
theorem of21_any (s : ByteArray) (w : World) :
    Calls Tryd.prog 21 #[.string s] w fun e w' => e = .returned (.agg #[.int .u8 3, .string s, .slice none 0 0]) ∧ w' = w.alloc (.cells #[.int .u8 3, .string s, .slice none 0 0] 39) := by
  go_enter Tryd.func21, Tryd.ntmps21
  go_wp2_with fail
  refine bodyPost_ret (results_cell_row rfl _ _ w.heap.size 39 _ (0, 0) _ rfl (heap_alloc_new _ _) Tryd.underlying39 rfl (by kernel_rfl)) rfl ⟨rfl, rfl⟩

set_option maxRecDepth 100000 in
set_option maxHeartbeats 4000000 in
theorem made20_any (k : Int) (a : Option Addr) (l c : Nat) (w : World) :
    Calls Tryd.prog 20 #[.int .u8 k, .slice a l c] w fun e w' => e = .returned (.agg #[.int .u8 k, .string ⟨#[]⟩, .slice a l c]) ∧ w' = w.alloc (.cells #[.int .u8 k, .string ⟨#[]⟩, .slice a l c] 39) := by
  go_enter Tryd.func20, Tryd.ntmps20
  go_wp2_with fail
  refine bodyPost_ret (results_cell_row rfl _ _ w.heap.size 39 _ (0, 0) _ rfl (heap_alloc_new _ _) Tryd.underlying39 rfl (by kernel_rfl)) rfl ⟨rfl, rfl⟩

theorem heap_top {W : World} {o : Obj} {n : Nat} (h : n = W.heap.size) : (W.alloc o).heap[n]? = some o := by subst h; exact Array.getElem?_push_size
theorem heap_in {W : World} {o : Obj} {n : Nat} {x : Option Obj} (h : n < W.heap.size) (h' : W.heap[n]? = x) : (W.alloc o).heap[n]? = x := (Below.heap_alloc W o n h).trans h'
theorem frow1 {w : World} {n g : Nat} {f : FT n} {x0 x1 x2 : Value} {t : TypeId} {fz : Nat × Nat} (hb : w.heap[g]? = some (.cells #[x0, x1, x2] t fz)) (hf : FRep w w.heap.size n f (.agg #[x0, x1, x2])) : FRow w w.heap.size n (some ⟨g, 0, none⟩) [f] := by
  refine frow_of (cs := [[x0, x1, x2]]) (by simp) hb rfl ?_ ?_ ?_
  · intro i hi; obtain rfl : i = 0 := by simpa using hi
    rfl
  · intro i hi; obtain rfl : i = 0 := by simpa using hi
    exact hf
  · intro i hi j hj; obtain rfl : i = 0 := by simpa using hi
    simp
theorem frow2 {w : World} {n g : Nat} {f h : FT n} {x0 x1 x2 y0 y1 y2 : Value} {t : TypeId} {fz : Nat × Nat} (hb : w.heap[g]? = some (.cells #[x0, x1, x2, y0, y1, y2] t fz)) (hf : FRep w w.heap.size n f (.agg #[x0, x1, x2])) (hh : FRep w w.heap.size n h (.agg #[y0, y1, y2])) : FRow w w.heap.size n (some ⟨g, 0, none⟩) [f, h] := by
  refine frow_of (cs := [[x0, x1, x2], [y0, y1, y2]]) (by simp) hb rfl ?_ ?_ ?_
  · intro i hi
    match i, hi with
    | 0, _ => rfl
    | 1, _ => rfl
  · intro i hi
    match i, hi with
    | 0, _ => exact hf
    | 1, _ => exact hh
  · intro i hi j hj
    match i, hi with
    | 0, _ => match j, hj with
      | 0, _ => rfl
      | 1, _ => rfl
      | 2, _ => rfl
    | 1, _ => match j, hj with
      | 0, _ => rfl
      | 1, _ => rfl
      | 2, _ => rfl
theorem rep_prop (w : World) (B n : Nat) (s : ByteArray) : FRep w B (n + 1) (3, s, []) (.agg #[.int .u8 3, .string s, .slice none 0 0]) := ⟨none, 0, rfl, by simp, .inl rfl⟩
theorem rep_one {w : World} {n g c : Nat} {f : FT n} {k : Int} {x0 x1 x2 : Value} {t : TypeId} {fz : Nat × Nat} (hb : w.heap[g]? = some (.cells #[x0, x1, x2] t fz)) (hf : FRep w w.heap.size n f (.agg #[x0, x1, x2])) :
    FRep w w.heap.size (n + 1) (k, ⟨#[]⟩, [f]) (.agg #[.int .u8 k, .string ⟨#[]⟩, .slice (some ⟨g, 0, none⟩) 1 c]) := ⟨_, c, rfl, frow1 hb hf⟩
theorem rep_two {w : World} {n g c : Nat} {f h : FT n} {k : Int} {x0 x1 x2 y0 y1 y2 : Value} {t : TypeId} {fz : Nat × Nat} (hb : w.heap[g]? = some (.cells #[x0, x1, x2, y0, y1, y2] t fz)) (hf : FRep w w.heap.size n f (.agg #[x0, x1, x2])) (hh : FRep w w.heap.size n h (.agg #[y0, y1, y2])) :
    FRep w w.heap.size (n + 1) (k, ⟨#[]⟩, [f, h]) (.agg #[.int .u8 k, .string ⟨#[]⟩, .slice (some ⟨g, 0, none⟩) 2 c]) := ⟨_, c, rfl, frow2 hb hf hh⟩
end Go.Proofs.YtabpfbgcdmejbaaDoor
