/- rallentandolaw15.LexNames, walked: the chapter's examples; it answers true. -/
import Derived.Test.YtipbgaiaoahnmaaDoorLexW
namespace Go.Proofs.YtipbgaiaoahnmaaDoor
open Go.RowKit Go.Shelf
attribute [local go_sem ↓] Go.wp_at_zero Go.wp_at_succ

theorem names_one : (cutR ⟨#[112, 124, 124, 113, 59, 60, 114, 62, 95, 91, 49, 44, 50, 41]⟩).2 = (0, 0) ∧ (cutR ⟨#[112, 124, 124, 113, 59, 60, 114, 62, 95, 91, 49, 44, 50, 41]⟩).1.length = 13 := by decide +kernel
theorem names_two : cutR ⟨#[112, 32, 63, 32, 113]⟩ = ([], 2, 150) := by decide +kernel
theorem names_three : cutR ⟨#[112, 32, 48, 48, 55]⟩ = ([], 2, 151) := by decide +kernel
theorem names_near : nearB ⟨3, ⟨#[124]⟩, 0⟩ ⟨3, ⟨#[124]⟩, 0⟩ = (false, 0) ∧ nearB ⟨1, ⟨#[112]⟩, 0⟩ ⟨2, ⟨#[49]⟩, 0⟩ = (false, 0) ∧ nearB ⟨1, ⟨#[112]⟩, 0⟩ ⟨3, ⟨#[124]⟩, 0⟩ = (true, 0) := by decide +kernel

theorem near_at {a b : Tok} {x : Bool} {e : Int} (h : nearB a b = (x, e)) (w : World) (hr : Rdy w) :
    Calls Tryd.prog 10 #[.agg #[.int .u8 a.kind, .string a.text, .int .i64 a.place], .agg #[.int .u8 b.kind, .string b.text, .int .i64 b.place]] w fun r w' => r = .returned (.tuple #[.bool x, .int .i64 e]) ∧ Below w.heap.size w w' := by
  have h1 := near10_any a b w hr
  rw [h] at h1
  exact h1
theorem cut_at {s : ByteArray} {l : List Tok} {p e : Int} (h : cutR s = (l, p, e)) (w : World) (hr : Rdy w) : Calls Tryd.prog 9 #[.string s] w fun r w' =>
    (∃ v', r = .returned (.tuple #[v', .int .i64 p, .int .i64 e]) ∧ OwnT w' w.heap.size v' l) ∧ Below w.heap.size w w' := by
  have h1 := cut9_any s w hr
  rw [h] at h1
  exact h1
theorem nearB_snd {a b : Tok} {x : Bool} {e : Int} (h : nearB a b = (x, e)) : nearB a b = (x, e) := h

set_option maxRecDepth 100000 in
set_option maxHeartbeats 4000000 in
theorem lexNames3 (w : World) (hr : Rdy w) : Calls Tryd.prog 3 #[] w fun e w' => e = .returned (.bool true) ∧ Below w.heap.size w w' := by
  have HR := Lib.hid hr
  clear hr
  obtain ⟨l, hl⟩ : ∃ l, l = (cutR ⟨#[112, 124, 124, 113, 59, 60, 114, 62, 95, 91, 49, 44, 50, 41]⟩).1 := ⟨_, rfl⟩
  have hl13 : l.length = 13 := by rw [hl]; exact names_one.2
  have HC1 := Lib.hid (cut_at (show cutR ⟨#[112, 124, 124, 113, 59, 60, 114, 62, 95, 91, 49, 44, 50, 41]⟩ = (l, 0, 0) from Prod.ext hl.symm names_one.1))
  clear hl
  have HC2 := Lib.hid (cut_at names_two)
  have HC3 := Lib.hid (cut_at names_three)
  have HN1 := Lib.hid (near_at names_near.1)
  have HN2 := Lib.hid (near_at names_near.2.1)
  have HN3 := Lib.hid (near_at names_near.2.2)
  have HAG := Lib.hid (again_at again_three)
  have HAL := Lib.hid (fun W hW => alive11_any W hW)
  dsimp only at HN1 HN2 HN3
  go_enter Tryd.func3, Tryd.ntmps3
  go_wp2_with fail
  refine (HC1.out w HR.out).mono ?_
  rintro e w1 ⟨⟨v1, rfl, hown1⟩, hb1⟩
  obtain ⟨a1, c1, rfl⟩ := hown1.shape
  have HB1 := Lib.hid hb1
  clear hown1 hb1
  simp only [hl13]
  go_wp2_with fail
  refine (HC2.out w1 (HR.out.below HB1.out)).mono ?_
  rintro e w2 ⟨⟨v2, rfl, _⟩, hb2⟩
  have HB2 := Lib.hid (HB1.out.trans (hb2.mono HB1.out.size))
  clear hb2
  go_wp2_with fail
  refine (HC3.out w2 (HR.out.below HB2.out)).mono ?_
  rintro e w3 ⟨⟨v3, rfl, _⟩, hb3⟩
  have HB3 := Lib.hid (HB2.out.trans (hb3.mono HB2.out.size))
  clear hb3
  have HC : Hid (∀ W, Below ((w3.alloc (.cells #[.int .u8 3, .string ⟨#[124]⟩, .int .i64 0] 27)).alloc (.cells #[.int .u8 1, .string ⟨#[112]⟩, .int .i64 0] 27)).heap.size ((w3.alloc (.cells #[.int .u8 3, .string ⟨#[124]⟩, .int .i64 0] 27)).alloc (.cells #[.int .u8 1, .string ⟨#[112]⟩, .int .i64 0] 27)) W →
      (W.cell? ⟨w3.heap.size, 0, none⟩ = some (.int .u8 3) ∧ W.cell? ⟨w3.heap.size, 1, none⟩ = some (.string ⟨#[124]⟩) ∧ W.cell? ⟨w3.heap.size, 2, none⟩ = some (.int .i64 0)) ∧
      (W.cell? ⟨w3.heap.size + 1, 0, none⟩ = some (.int .u8 1) ∧ W.cell? ⟨w3.heap.size + 1, 1, none⟩ = some (.string ⟨#[112]⟩) ∧ W.cell? ⟨w3.heap.size + 1, 2, none⟩ = some (.int .i64 0)) ∧ Below w.heap.size w W) := by
    intro W hb
    have h0 : ((w3.alloc (.cells #[.int .u8 3, .string ⟨#[124]⟩, .int .i64 0] 27)).alloc (.cells #[.int .u8 1, .string ⟨#[112]⟩, .int .i64 0] 27)).heap.size = w3.heap.size + 2 := by simp
    refine ⟨⟨?_, ?_, ?_⟩, ⟨?_, ?_, ?_⟩, ((HB3.out.alloc HB3.out.size _).alloc (by have := HB3.out.size; simp; omega) _).trans (hb.mono (by have := HB3.out.size; omega))⟩
    · rw [hb.cell (p := ⟨w3.heap.size, 0, none⟩) (by rw [h0]; show w3.heap.size < _; omega)]; simp [World.cell?_alloc_at, World.cell?_alloc_past]
    · rw [hb.cell (p := ⟨w3.heap.size, 1, none⟩) (by rw [h0]; show w3.heap.size < _; omega)]; simp [World.cell?_alloc_at, World.cell?_alloc_past]
    · rw [hb.cell (p := ⟨w3.heap.size, 2, none⟩) (by rw [h0]; show w3.heap.size < _; omega)]; simp [World.cell?_alloc_at, World.cell?_alloc_past]
    · rw [hb.cell (p := ⟨w3.heap.size + 1, 0, none⟩) (by simp)]; simp [World.cell?_alloc_at]
    · rw [hb.cell (p := ⟨w3.heap.size + 1, 1, none⟩) (by simp)]; simp [World.cell?_alloc_at]
    · rw [hb.cell (p := ⟨w3.heap.size + 1, 2, none⟩) (by simp)]; simp [World.cell?_alloc_at]
  have HR0 : Hid (Rdy ((w3.alloc (.cells #[.int .u8 3, .string ⟨#[124]⟩, .int .i64 0] 27)).alloc (.cells #[.int .u8 1, .string ⟨#[112]⟩, .int .i64 0] 27))) := HR.out.below (HC.out _ (Below.refl _ _)).2.2
  go_wp2_with fail
  refine (HN1.out _ HR0.out).mono ?_
  rintro e w4 ⟨rfl, hb4⟩
  have HB4 := Lib.hid hb4
  clear hb4
  obtain ⟨⟨x0, x1, x2⟩, ⟨y0, y1, y2⟩, _⟩ := HC.out w4 HB4.out
  go_wp2_with fail
  refine (HN2.out w4 (HR0.out.below HB4.out)).mono ?_
  rintro e w5 ⟨rfl, hb5⟩
  have HB5 := Lib.hid (HB4.out.trans (hb5.mono HB4.out.size))
  clear hb5 x0 x1 x2 y0 y1 y2
  obtain ⟨⟨x0, x1, x2⟩, ⟨y0, y1, y2⟩, _⟩ := HC.out w5 HB5.out
  go_wp2_with fail
  refine (HN3.out w5 (HR0.out.below HB5.out)).mono ?_
  rintro e w6 ⟨rfl, hb6⟩
  have HB6 := Lib.hid (HC.out w6 (HB5.out.trans (hb6.mono HB5.out.size))).2.2
  clear hb6 x0 x1 x2 y0 y1 y2
  go_wp2_with fail
  refine (HAL.out w6 (HR.out.below HB6.out)).mono ?_
  rintro e w7 ⟨rfl, hb7⟩
  have HB7 := Lib.hid (HB6.out.trans (hb7.mono HB6.out.size))
  clear hb7
  go_wp2_with fail
  refine (HAG.out w7 (HR.out.below HB7.out)).mono ?_
  rintro e w8 ⟨rfl, hb8⟩
  have HB8 := Lib.hid (HB7.out.trans (hb8.mono HB7.out.size))
  clear hb8
  go_wp2_with fail
  go_ret
  exact ⟨ret_bool' (by first | rfl | decide +kernel | simp), HB8.out⟩
end Go.Proofs.YtipbgaiaoahnmaaDoor
