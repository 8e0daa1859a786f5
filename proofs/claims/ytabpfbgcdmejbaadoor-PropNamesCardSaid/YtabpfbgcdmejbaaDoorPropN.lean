/- The law PropNames, walked. -/
import Derived.Test.YtabpfbgcdmejbaaDoorPropH
namespace Go.Proofs.YtabpfbgcdmejbaaDoor
open Go.RowKit

def orT : FT 2 := (6, ⟨#[]⟩, [(3, ⟨#[112]⟩, []), (3, ⟨#[113]⟩, [])])
def pT : FT 1 := (3, ⟨#[112]⟩, [])
theorem or_ok : fmlR pq 2 orT = 0 := by kernel_rfl
theorem or_table : tableR pq 2 orT = [false, true, true, true] := by kernel_rfl
theorem p_four : holdsR pq 1 pT 4 = (false, 2) := by kernel_rfl

set_option maxRecDepth 100000 in
set_option maxHeartbeats 4000000 in
theorem propNames6 (w : World) (hr : Rdy w) : Calls Tryd.prog 6 #[] w fun e w' => e = .returned (.bool true) ∧ Below w.heap.size w w' := by
  have HR := Lib.hid hr
  clear hr
  go_enter Tryd.func6, Tryd.ntmps6
  go_wp2_with fail
  refine (names19_any _).mono ?_
  rintro e w1 ⟨rfl, rfl⟩
  go_wp2_with fail
  refine (of21_any _ _).mono ?_
  rintro e w1 ⟨rfl, rfl⟩
  go_wp2_with fail
  refine (of21_any _ _).mono ?_
  rintro e w1 ⟨rfl, rfl⟩
  go_wp2_with fail
  refine (made20_any _ _ _ _ _).mono ?_
  rintro e w1 ⟨rfl, rfl⟩
  go_wp2_with fail
  have hbW : Below w.heap.size w (((((w.alloc (.cells #[.string ⟨#[112]⟩, .string ⟨#[113]⟩] 9)).alloc (.cells #[.int .u8 3, .string ⟨#[112]⟩, .slice none 0 0] 39)).alloc (.cells #[.int .u8 3, .string ⟨#[113]⟩, .slice none 0 0] 39)).alloc
      (.cells #[.int .u8 3, .string ⟨#[112]⟩, .slice none 0 0, .int .u8 3, .string ⟨#[113]⟩, .slice none 0 0] 39)).alloc (.cells #[.int .u8 6, .string ⟨#[]⟩, .slice (some ⟨w.heap.size + 1 + 1 + 1, 0, none⟩) 2 2] 39)) :=
    below_alloc (below_alloc (below_alloc (below_alloc (below_alloc (Below.refl _ _) _) _) _) _) _
  have HBW := Lib.hid hbW
  refine (table18_any pq _ pq_small 2 orT _ _ (HR.out.below hbW) (pq_rep (g := w.heap.size) (t := 9) (fz := (0, 0)) ?_) (rep_two (n := 1) (g := w.heap.size + 1 + 1 + 1) (t := 39) (fz := (0, 0)) ?_ (rep_prop _ _ 0 _) (rep_prop _ _ 0 _))).mono ?_
  · repeat (first | exact heap_top (by simp) | refine heap_in (by simp <;> omega) ?_)
  · repeat (first | exact heap_top (by simp) | refine heap_in (by simp <;> omega) ?_)
  clear hbW
  rintro e w2 ⟨⟨lv, rfl, hl⟩, hb2⟩
  rw [or_ok]
  rw [or_table] at hl
  have HL2 := Lib.hid hl
  have HB2 := Lib.hid (HBW.out.trans (hb2.mono HBW.out.size))
  clear hl hb2 HBW
  go_wp2_with fail
  refine (names19_any _).mono ?_
  rintro e w3 ⟨rfl, rfl⟩
  go_wp2_with fail
  refine (of21_any _ _).mono ?_
  rintro e w3 ⟨rfl, rfl⟩
  go_wp2_with fail
  have hbV : Below w2.heap.size w2 ((w2.alloc (.cells #[.string ⟨#[112]⟩, .string ⟨#[113]⟩] 9)).alloc (.cells #[.int .u8 3, .string ⟨#[112]⟩, .slice none 0 0] 39)) := below_alloc (below_alloc (Below.refl _ _) _) _
  have HBV := Lib.hid hbV
  have H22 := holds22_any pq (.slice (some ⟨w2.heap.size, 0, none⟩) 2 2) pq_small 1 pT (.agg #[.int .u8 3, .string ⟨#[112]⟩, .slice none 0 0]) 4 _ (by omega) (by omega) (HR.out.below (HB2.out.trans (hbV.mono HB2.out.size)))
    (pq_rep (g := w2.heap.size) (t := 9) (fz := (0, 0)) (heap_in (by simp) (heap_top rfl))) (rep_prop _ _ 0 _)
  rw [p_four] at H22
  refine H22.mono ?_
  clear hbV H22
  rintro e w4 ⟨rfl, hb4⟩
  have hb24 := HBV.out.trans (hb4.mono HBV.out.size)
  have HB4 := Lib.hid (HB2.out.trans (hb24.mono HB2.out.size))
  have HL4 := Lib.hid (HL2.out.up hb24)
  clear hb4 hb24 HL2 HBV
  go_wp2_with fail
  refine (alive23_any _ (HR.out.below HB4.out)).mono ?_
  rintro e w5 ⟨rfl, hb5⟩
  have HB5 := Lib.hid (HB4.out.trans (hb5.mono HB4.out.size))
  obtain ⟨a, c, rfl, hl⟩ := HL4.out.up hb5
  rcases hl with hl | ⟨g, rfl, hg, hc⟩
  · exact absurd hl (by simp)
  have c0 := hc 0 (by simp)
  have c1 := hc 1 (by simp)
  have c2 := hc 2 (by simp)
  have c3 := hc 3 (by simp)
  simp only [List.getElem_cons_zero, List.getElem_cons_succ] at c0 c1 c2 c3
  clear hc HL4 hb5
  go_wp2_with fail
  all_goals go_ret
  all_goals exact ⟨rfl, HB5.out⟩
end Go.Proofs.YtabpfbgcdmejbaaDoor
