/- zone.places walked; slices.Contains on errors. -/
import Derived.LoopTactic
import Derived.Test.YtockinpjfhhkoaaGreatDoorMiL
import Derived.Test.YtockinpjfhhkoaaGreatDoorMiN
import Derived.Deep.Cut
import Derived.StillTailTactics
namespace Go.Proofs.YtockinpjfhhkoaaGreatDoor
open Go.RowKit

set_option maxRecDepth 100000 in
theorem places121_any (w : World) : Calls Tryz.prog 121 #[] w fun e w' => e = .returned (.agg #[.int .i64 3, .int .i64 1, .int .i64 6, .int .i64 2, .int .i64 7, .int .i64 5]) ∧ Below w.heap.size w w' := by
  go_enter Tryz.func121, Tryz.ntmps121
  go_wp2_with fail
  refine bodyPost_ret (results_cell_row rfl _ _ _ _ _ _ _ rfl (hp_topA rfl) Tryz.underlying182 rfl (by kernel_rfl)) rfl ?_
  exact ⟨rfl, belowA _ _⟩
/-- Errors in block b. -/
def ErrR (w : World) (b : Nat) (l : List Int) : Prop := b < w.heap.size ∧ ∀ k (h : k < l.length), w.cell? ⟨b, k, none⟩ = some (.int .i64 l[k])
set_option maxRecDepth 100000 in
set_option maxHeartbeats 2000000 in
theorem index160_any (b c : Nat) (l : List Int) (e0 : Int) (w : World) (h : ErrR w b l) (hl : l.length ≤ 100) (hne : ∀ x ∈ l, x ≠ e0) :
    Calls Tryz.prog 160 #[.slice (some ⟨b, 0, none⟩) l.length c, .int .i64 e0] w fun e w' => e = .returned (.int .i64 (-1)) ∧ w' = w := by
  have hbl := h.1
  have H := Lib.hid h
  have HN := Lib.hid hne
  clear h hne
  go_enter Tryz.func160, Tryz.ntmps160
  go_wp2_with fail
  go_loop [8] (fun i => ∃ k : Nat, k ≤ l.length ∧ i = .int .i64 k) (fun i => l.length - (intOf i).toNat)
  case atStart => exact ⟨0, Nat.zero_le _, rfl⟩
  case round =>
    obtain ⟨k, hk, rfl⟩ := hrel
    by_cases hlt : k < l.length
    · have c1 := H.out.2 k hlt
      have hlti : (k : Int) < (l.length : Int) := by omega
      have hx := HN.out _ (List.getElem_mem hlt)
      obtain ⟨x, hxx⟩ : ∃ x, l[k] = x := ⟨_, rfl⟩
      rw [hxx] at c1 hx
      have q : (e0 == x) = false := by simpa using Ne.symm hx
      clear hxx hx
      go_wp2_with fail
      go_round
      case rel => exact ⟨k + 1, by omega, by go_num⟩
      case measure => simp [intOf]; omega
    · go_wp2_with fail
      go_ret
      exact ⟨rfl, rfl⟩
set_option maxRecDepth 100000 in
theorem contains89_any (b c : Nat) (l : List Int) (e0 : Int) (w : World) (h : ErrR w b l) (hl : l.length ≤ 100) (hne : ∀ x ∈ l, x ≠ e0) :
    Calls Tryz.prog 89 #[.slice (some ⟨b, 0, none⟩) l.length c, .int .i64 e0] w fun e w' => e = .returned (.bool false) ∧ w' = w := by
  have H := Lib.hid (index160_any b c l e0 w h hl hne)
  clear h hne
  go_enter Tryz.func89, Tryz.ntmps89
  go_wp2_with fail
  refine H.out.mono ?_
  rintro e w1 ⟨rfl, rfl⟩
  go_wp2_with fail
  all_goals go_ret
  all_goals exact ⟨rfl, rfl⟩
def plc (i : Nat) : Nat := [3, 1, 6, 2, 7, 5].getD i 0
theorem idx182 (k : Nat) (hk : k < 6) (W : World) : (Instr.index 182 (.agg #[.int .i64 3, .int .i64 1, .int .i64 6, .int .i64 2, .int .i64 7, .int .i64 5]) (.int .i64 (k : Int))).run Tryz.prog W = .ok (.int .i64 (plc k : Nat)) W := by
  match k, hk with
  | 0, _ | 1, _ | 2, _ | 3, _ | 4, _ | 5, _ => simp [Instr.index, run_underlying Tryz.underlying182, Sem.run_bind, Result.andThen, go_sem, plc]
end Go.Proofs.YtockinpjfhhkoaaGreatDoor

/- tight.Between walked. -/
namespace Go.Proofs.YtockinpjfhhkoaaGreatDoor
open Go.RowKit

set_option maxRecDepth 100000 in
set_option maxHeartbeats 16000000 in
theorem between88_any {n g c i : Nat} {L : List Int} {lo hi : Int} {ls hs op : Bool} {w : World} (h : RowB w g L) (hl : L.length = n * n) (h1 : 1 ≤ n) (hn : n ≤ 4) (hin : i < n) (hbd : badD L = false) (hs0 : nearS ⟨lo, ls, hi, hs, op⟩) (hsp : spanB ⟨lo, ls, hi, hs, op⟩ = true)
    (hbd2 : badD (withD L [(i, lowB ⟨lo, ls, hi, hs, op⟩), (i * n, highB ⟨lo, ls, hi, hs, op⟩)]) = false) :
    Calls Tryz.prog 88 #[.agg #[.int .i64 n, .slice (some ⟨g, 0, none⟩) L.length c], .int .i64 i, .agg #[.int .i64 lo, .bool ls, .int .i64 hi, .bool hs, .bool op]] w fun e w' =>
      CloseOut n (closeD n (withD L [(i, lowB ⟨lo, ls, hi, hs, op⟩), (i * n, highB ⟨lo, ls, hi, hs, op⟩)])) w.heap.size e w' ∧ Below w.heap.size w w' := by
  obtain ⟨W3, hW3⟩ : ∃ W3, W3 = ((w.alloc (.cells #[.int .i64 n, .slice (some ⟨g, 0, none⟩) L.length c] 116)).alloc (.cells #[.int .i64 lo, .bool ls, .int .i64 hi, .bool hs, .bool op] 45)).alloc (.cells #[.int .i64 0, .slice none 0 0] 116) := ⟨_, rfl⟩
  have hb3 : Below w.heap.size w W3 := by rw [hW3]; exact ((belowA _ _).alloc (by simp) _).alloc (by simp; omega) _
  have hz3 : W3.heap.size = w.heap.size + 3 := by rw [hW3]; simp
  have hx0 : W3.heap[w.heap.size]? = some (.cells #[.int .i64 n, .slice (some ⟨g, 0, none⟩) L.length c] 116 (0, 0)) := by
    rw [hW3]; exact (Below.heap_alloc _ _ _ (by simp; omega)).trans ((Below.heap_alloc _ _ _ (by simp)).trans (hp_topA rfl))
  have hx1 : W3.heap[w.heap.size + 1]? = some (.cells #[.int .i64 lo, .bool ls, .int .i64 hi, .bool hs, .bool op] 45 (0, 0)) := by
    rw [hW3]; exact (Below.heap_alloc _ _ _ (by simp)).trans (hp_topA (by simp))
  have hx2 : W3.heap[w.heap.size + 2]? = some (.cells #[.int .i64 0, .slice none 0 0] 116 (0, 0)) := by
    rw [hW3]; exact hp_topA (by simp)
  have HX : Hid (∀ W, Below W3.heap.size W3 W → W.heap[w.heap.size]? = some (.cells #[.int .i64 n, .slice (some ⟨g, 0, none⟩) L.length c] 116 (0, 0)) ∧ W.heap[w.heap.size + 1]? = some (.cells #[.int .i64 lo, .bool ls, .int .i64 hi, .bool hs, .bool op] 45 (0, 0)) ∧ W.heap[w.heap.size + 2]? = some (.cells #[.int .i64 0, .slice none 0 0] 116 (0, 0)) ∧ RowB W g L) :=
    fun W hW => ⟨(hW.block _ (by omega)).trans hx0, (hW.block _ (by omega)).trans hx1, (hW.block _ (by omega)).trans hx2, (h.below hb3).below hW⟩
  have HF : Hid (∀ W, Below W3.heap.size W3 W → W.cell? ⟨w.heap.size, 0, none⟩ = some (.int .i64 n) ∧ W.cell? ⟨w.heap.size, 1, none⟩ = some (.slice (some ⟨g, 0, none⟩) L.length c) ∧ W.cell? ⟨w.heap.size + 1, 0, none⟩ = some (.int .i64 lo) ∧ W.cell? ⟨w.heap.size + 1, 1, none⟩ = some (.bool ls) ∧ W.cell? ⟨w.heap.size + 1, 2, none⟩ = some (.int .i64 hi) ∧ W.cell? ⟨w.heap.size + 1, 3, none⟩ = some (.bool hs) ∧ W.cell? ⟨w.heap.size + 1, 4, none⟩ = some (.bool op) ∧ w.heap.size < W.heap.size ∧ w.heap.size + 1 < W.heap.size) := by
    intro W hW
    obtain ⟨a0, a1, _, _⟩ := HX.out W hW
    exact ⟨Lib.cell_of_heap a0 0, Lib.cell_of_heap a0 1, Lib.cell_of_heap a1 0, Lib.cell_of_heap a1 1, Lib.cell_of_heap a1 2, Lib.cell_of_heap a1 3, Lib.cell_of_heap a1 4, (Array.getElem?_eq_some_iff.1 a0).1, (Array.getElem?_eq_some_iff.1 a1).1⟩
  have HCK := Lib.hid (check115_any (c := c) (h.below hb3) h1 hn hl)
  have HE : Hid (checkD L = 0) := by rw [Hid, checkD, hbd]; rfl
  have HCL := fun W => Lib.hid (clock157_any (n := n) (i := i) (.slice (some ⟨g, 0, none⟩) L.length c) W hin)
  have HSD : Hid (∀ W, Calls Tryz.prog 158 #[.agg #[.int .i64 lo, .bool ls, .int .i64 hi, .bool hs, .bool op]] W fun e w' => e = .returned (.tuple #[.int .i64 (lowB ⟨lo, ls, hi, hs, op⟩), .int .i64 (highB ⟨lo, ls, hi, hs, op⟩), .bool true]) ∧ Below W.heap.size W w') := fun W => by
    have := sides158_any ⟨lo, ls, hi, hs, op⟩ W hs0
    rw [hsp] at this
    exact this
  obtain ⟨x, hx⟩ : ∃ x, lowB ⟨lo, ls, hi, hs, op⟩ = x := ⟨_, rfl⟩
  obtain ⟨y, hy⟩ : ∃ y, highB ⟨lo, ls, hi, hs, op⟩ = y := ⟨_, rfl⟩
  rw [hx, hy] at HSD hbd2 ⊢
  have hnn : i * n ≤ 16 := Nat.mul_le_mul (show i ≤ 4 by omega) hn
  obtain ⟨q, hq⟩ : ∃ q, i * n = q := ⟨_, rfl⟩
  have hwq : IntKind.i64.wrap ((i : Int) * (n : Int)) = (q : Int) := by rw [← Int.natCast_mul, hq]; exact IntWalk.i64_in _ (by omega)
  have hqn : q < n * n := by
    rw [← hq]
    exact Nat.mul_lt_mul_of_pos_right hin (by omega)
  have hinn : i < n * n := Nat.lt_of_lt_of_le hin (Nat.le_mul_of_pos_left n (by omega))
  rw [hq] at hbd2 ⊢
  have HW : Hid (∀ W b, Below W3.heap.size W3 W → W.heap[b]? = some (.cells #[.int .i64 i, .int .i64 x, .int .i64 q, .int .i64 y] 223 (0, 0)) → Calls Tryz.prog 159 #[.agg #[.int .i64 n, .slice (some ⟨g, 0, none⟩) L.length c], .slice (some ⟨b, 0, none⟩) 2 2] W fun e w' => CloseOut n (closeD n (withD L [(i, x), (q, y)])) W.heap.size e w' ∧ Below W.heap.size W w') := by
    intro W b hW hb
    refine with159_any (l := [(i, x), (q, y)]) (HX.out W hW).2.2.2 ⟨(Array.getElem?_eq_some_iff.1 hb).1, fun k hk => ?_⟩ hl h1 hn (by simp) (by intro r hr; simp at hr; rcases hr with rfl | rfl <;> assumption) hbd2
    match k, hk with
    | 0, _ => exact ⟨by rw [Lib.cell_of_heap hb]; rfl, by rw [Lib.cell_of_heap hb]; rfl⟩
    | 1, _ => exact ⟨by rw [Lib.cell_of_heap hb]; rfl, by rw [Lib.cell_of_heap hb]; rfl⟩
  have HW3 := Lib.hid hW3.symm
  have HB3 := Lib.hid hb3
  have HZ3 := Lib.hid hz3
  obtain ⟨x0, x1, x2, x3, x4, x5, x6, xl, xm⟩ := HF.out W3 (Below.refl _ _)
  clear h hl h1 hn hin hbd hs0 hsp hbd2 hW3 hb3 hz3 hx0 hx1 hx2 hx hy hnn hq hqn hinn
  go_enter Tryz.func88, Tryz.ntmps88
  go_wp2_with fail
  rw [HW3.out]
  refine HCK.out.mono ?_
  rintro e w4 ⟨rfl, hb4⟩
  rw [HE.out]
  have HB4 := Lib.hid hb4
  obtain ⟨y0, y1, y2, y3, y4, y5, y6, yl, ym⟩ := HF.out w4 hb4
  clear HW3 hb4 x0 x1 x2 x3 x4 x5 x6 xl xm
  go_wp2_with fail
  refine (HCL _).out.mono ?_
  rintro e w5 ⟨rfl, hb5⟩
  have HB5 := Lib.hid (HB4.out.trans (hb5.mono HB4.out.size))
  clear hb5 y0 y1 y2 y3 y4 y5 y6 yl ym
  obtain ⟨z0, z1, z2, z3, z4, z5, z6, zl, zm⟩ := HF.out w5 HB5.out
  go_wp2_with fail
  refine (HSD.out _).mono ?_
  rintro e w6 ⟨rfl, hb6⟩
  have HB6 := Lib.hid (HB5.out.trans (hb6.mono HB5.out.size))
  clear hb6 z0 z1 z2 z3 z4 z5 z6 zl zm
  obtain ⟨u0, u1, u2, u3, u4, u5, u6, ul, um⟩ := HF.out w6 HB6.out
  have HB7 : Hid (Below W3.heap.size W3 (w6.alloc (.cells #[.int .i64 i, .int .i64 x, .int .i64 q, .int .i64 y] 223))) := HB6.out.alloc HB6.out.size _
  have HWC := Lib.hid (HW.out _ w6.heap.size HB7.out (hp_topA rfl))
  go_wp2_with fail
  refine HWC.out.mono ?_
  rintro e w8 ⟨hout, hb8⟩
  have HB8 := Lib.hid (HB7.out.trans (hb8.mono HB7.out.size))
  have hr7 := (HX.out w8 HB8.out).2.2.1
  have r0 := Lib.cell_of_heap hr7 0
  have r1 := Lib.cell_of_heap hr7 1
  simp only [List.getElem?_toArray, List.getElem?_cons_zero, List.getElem?_cons_succ] at r0 r1
  have f0 := Lib.frozen_of_heap hr7 0
  have f1 := Lib.frozen_of_heap hr7 1
  have rl := (Array.getElem?_eq_some_iff.1 hr7).1
  have HR7 := Lib.hid hr7
  have HZ6 : Hid (w.heap.size + 3 ≤ w6.heap.size) := by rw [Hid]; have := HB6.out.size; have := HZ3.out; omega
  have HBW : Hid (Below w.heap.size w w8) := HB3.out.trans (HB8.out.mono HB3.out.size)
  cases hcd : closeD n (withD L [(i, x), (q, y)]) with
  | none =>
    rw [hcd] at hout
    have hout : e = _ := hout
    subst hout
    have HCD := Lib.hid hcd
    clear hb8 hr7 hcd u0 u1 u2 u3 u4 u5 u6 ul um
    go_wp2_with fail
    refine bodyPost_ret (results_cell_row_tmp rfl _ _ _ _ _ _ _ _ rfl rfl (set2_at HR7.out _ _) Tryz.underlying116 rfl (by kernel_rfl)) rfl ?_
    exact ⟨by rw [HCD.out]; rfl, set2_below HBW.out (by omega) _ _⟩
  | some M =>
    rw [hcd] at hout
    obtain ⟨g2, c2, rfl, hg2, hrow2⟩ := hout
    have HCD := Lib.hid hcd
    have HRW := Lib.hid hrow2
    have HG2 : Hid (w.heap.size + 3 ≤ g2) := by rw [Hid]; have := HZ6.out; simp at hg2; omega
    clear hb8 hr7 hcd hrow2 hg2 u0 u1 u2 u3 u4 u5 u6 ul um
    go_wp2_with fail
    refine bodyPost_ret (results_cell_row_tmp rfl _ _ _ _ _ _ _ _ rfl rfl (set2_at HR7.out _ _) Tryz.underlying116 rfl (by kernel_rfl)) rfl ?_
    have HRX := Lib.hid (RowB.agree (w' := set2 w8 (w.heap.size + 2) (.int .i64 n) (.slice (some ⟨g2, 0, none⟩) M.length c2)) HRW.out (set2_other _ _ _ _ _ (by have := HG2.out; omega)))
    exact ⟨by rw [HCD.out]; exact ⟨_, _, rfl, by have := HG2.out; omega, HRX.out⟩, set2_below HBW.out (by omega) _ _⟩
end Go.Proofs.YtockinpjfhhkoaaGreatDoor

/- zone.matrix walked. -/
namespace Go.Proofs.YtockinpjfhhkoaaGreatDoor
open Go.RowKit

/-- A zone's matrix. -/
def matD (z0 z1 z2 z3 z4 z5 : Int) : List Int := [1, z1, z3, z0, 1, z5, z2, z4, 1]
def plcTo (z : List Int) (k : Nat) : List Int := (List.range k).foldl (fun L i => L.set (plc i) (z.getD i 0)) (topD 3)
theorem plcTo_succ (z : List Int) (k : Nat) : plcTo z (k + 1) = (plcTo z k).set (plc k) (z.getD k 0) := by
  unfold plcTo
  rw [List.range_succ, List.foldl_append]
  rfl
theorem plcTo_len (z : List Int) : ∀ k, (plcTo z k).length = 9
  | 0 => topD_len 3
  | k + 1 => by rw [plcTo_succ, List.length_set, plcTo_len z k]
theorem plcTo_six (z0 z1 z2 z3 z4 z5 : Int) : plcTo [z0, z1, z2, z3, z4, z5] 6 = matD z0 z1 z2 z3 z4 z5 := by
  simp only [plcTo_succ]
  rw [show plcTo [z0, z1, z2, z3, z4, z5] 0 = topD 3 from rfl, topD3]
  rfl
theorem plc_lt (k : Nat) (hk : k < 6) : plc k < 9 := by
  match k, hk with
  | 0, _ | 1, _ | 2, _ | 3, _ | 4, _ | 5, _ => decide
set_option maxRecDepth 100000 in
set_option maxHeartbeats 16000000 in
theorem matrix60_any (z0 z1 z2 z3 z4 z5 : Int) (w : World) :
    Calls Tryz.prog 60 #[.agg #[.int .i64 z0, .int .i64 z1, .int .i64 z2, .int .i64 z3, .int .i64 z4, .int .i64 z5]] w fun e w' =>
      (∃ g c, e = .returned (.agg #[.int .i64 3, .slice (some ⟨g, 0, none⟩) 9 c]) ∧ w.heap.size ≤ g ∧ RowB w' g (matD z0 z1 z2 z3 z4 z5)) ∧ Below w.heap.size w w' := by
  obtain ⟨W2, hW2⟩ : ∃ W2, W2 = (w.alloc (.cells #[.int .i64 z0, .int .i64 z1, .int .i64 z2, .int .i64 z3, .int .i64 z4, .int .i64 z5] 69)).alloc (.cells #[.int .i64 0, .slice none 0 0] 116) := ⟨_, rfl⟩
  have hb2 : Below w.heap.size w W2 := by rw [hW2]; exact (belowA _ _).alloc (by simp) _
  have hz2 : W2.heap.size = w.heap.size + 2 := by rw [hW2]; simp
  have hx2 : W2.heap[w.heap.size]? = some (.cells #[.int .i64 z0, .int .i64 z1, .int .i64 z2, .int .i64 z3, .int .i64 z4, .int .i64 z5] 69 (0, 0)) := by
    rw [hW2]; exact (Below.heap_alloc _ _ _ (by simp)).trans (hp_topA rfl)
  have hr2 : W2.heap[w.heap.size + 1]? = some (.cells #[.int .i64 0, .slice none 0 0] 116 (0, 0)) := by
    rw [hW2]; exact hp_topA (by simp)
  have HTP := Lib.hid (top87_any (n := 3) W2 (by decide) (by decide))
  have hl9 : (topD 3).length = 9 := topD_len 3
  rw [hl9] at HTP
  have HTP : Hid (Calls Tryz.prog 87 #[.int .i64 3] W2 fun e w' => (∃ g c, e = .returned (.tuple #[.agg #[.int .i64 3, .slice (some ⟨g, 0, none⟩) 9 c], .int .i64 0]) ∧ W2.heap.size ≤ g ∧ RowB w' g (topD 3)) ∧ Below W2.heap.size W2 w') := HTP.out
  have HW2 := Lib.hid hW2.symm
  have HB2 := Lib.hid hb2
  have HZ2 := Lib.hid hz2
  have HX2 := Lib.hid hx2
  have HR2 := Lib.hid hr2
  clear hb2 hz2 hx2 hr2 hW2 hl9
  go_enter Tryz.func60, Tryz.ntmps60
  go_wp2_with fail
  rw [HW2.out]
  clear HW2
  refine HTP.out.mono ?_
  rintro e w3 ⟨⟨g, c, rfl, hg, hrow⟩, hb3⟩
  have HB3 := Lib.hid hb3
  have HG : Hid (w.heap.size + 2 ≤ g ∧ g < w3.heap.size) := ⟨by have := HZ2.out; omega, hrow.lt⟩
  obtain ⟨W4, hW4⟩ : ∃ W4, W4 = w3.alloc (.cells #[.int .i64 3, .slice (some ⟨g, 0, none⟩) 9 c] 116) := ⟨_, rfl⟩
  have HRW : Hid (RowB W4 g (topD 3)) := by rw [Hid, hW4]; exact hrow.alloc _
  have HM4 : Hid (W4.heap[w3.heap.size]? = some (.cells #[.int .i64 3, .slice (some ⟨g, 0, none⟩) 9 c] 116 (0, 0))) := by rw [Hid, hW4]; exact hp_topA rfl
  have HB4 : Hid (Below W2.heap.size W2 W4) := by rw [Hid, hW4]; exact HB3.out.alloc HB3.out.size _
  have HW4 := Lib.hid hW4.symm
  clear hb3 hg hrow hW4
  go_wp2_with fail
  rw [HW4.out]
  clear HW4
  refine (places121_any W4).mono ?_
  rintro e w5 ⟨rfl, hb5⟩
  have HB5 : Hid (Below W2.heap.size W2 w5) := HB4.out.trans (hb5.mono HB4.out.size)
  have HRW5 := Lib.hid (HRW.out.below hb5)
  have HM5 : Hid (w5.heap[w3.heap.size]? = some (.cells #[.int .i64 3, .slice (some ⟨g, 0, none⟩) 9 c] 116 (0, 0))) := (hb5.block _ (Array.getElem?_eq_some_iff.1 HM4.out).1).trans HM4.out
  have HX5 : Hid (w5.heap[w.heap.size]? = some (.cells #[.int .i64 z0, .int .i64 z1, .int .i64 z2, .int .i64 z3, .int .i64 z4, .int .i64 z5] 69 (0, 0))) := (HB5.out.block _ (by have := HZ2.out; omega)).trans HX2.out
  have HR5 : Hid (w5.heap[w.heap.size + 1]? = some (.cells #[.int .i64 0, .slice none 0 0] 116 (0, 0))) := (HB5.out.block _ (by have := HZ2.out; omega)).trans HR2.out
  clear hb5 HM4 HRW HB4
  go_wp2_with fail
  go_loopw [12] (fun i wr => ∃ k : Nat, k ≤ 6 ∧ i = .int .i64 k ∧ Hid (RowB wr g (plcTo [z0, z1, z2, z3, z4, z5] k) ∧ Bt g w5 wr)) (fun i _ => 6 - (intOf i).toNat)
  case atStart => exact ⟨0, by omega, rfl, HRW5.out, Bt.refl _ _⟩
  case round =>
    obtain ⟨k, hk, rfl, HST⟩ := hrel
    have hmr := HST.out.2.at HM5.out (by have := HG.out; omega)
    have x0 := Lib.cell_of_heap hmr 0
    have x1 := Lib.cell_of_heap hmr 1
    simp only [List.getElem?_toArray, List.getElem?_cons_zero, List.getElem?_cons_succ] at x0 x1
    have xl := (Array.getElem?_eq_some_iff.1 hmr).1
    have hxr := HST.out.2.at HX5.out (by have := HG.out; omega)
    have zl := (Array.getElem?_eq_some_iff.1 hxr).1
    by_cases hlt : k < 6
    · have hz : wr.cell? ⟨w.heap.size, k, none⟩ = some (.int .i64 ([z0, z1, z2, z3, z4, z5].getD k 0)) := by
        rw [Lib.cell_of_heap hxr]
        match k, hlt with
        | 0, _ | 1, _ | 2, _ | 3, _ | 4, _ | 5, _ => rfl
      have HT : Hid (plcTo [z0, z1, z2, z3, z4, z5] (k + 1) = (plcTo [z0, z1, z2, z3, z4, z5] k).set (plc k) ([z0, z1, z2, z3, z4, z5].getD k 0)) := plcTo_succ _ _
      obtain ⟨z, hzz⟩ : ∃ z, [z0, z1, z2, z3, z4, z5].getD k 0 = z := ⟨_, rfl⟩
      rw [hzz] at hz HT
      have hidx := idx182 k hlt
      obtain ⟨p, hp⟩ : ∃ p, plc k = p := ⟨_, rfl⟩
      have hp9 : p < 9 := by rw [← hp]; exact plc_lt k hlt
      rw [hp] at hidx HT
      have hpi : (p : Int) < 9 := by omega
      have hp0 : (0 : Int) ≤ (p : Int) := by omega
      have hki : (k : Int) < 6 := by omega
      have hk0 : (0 : Int) ≤ (k : Int) := by omega
      have hfz := HST.out.1.frozen p
      have hcg := HST.out.1.cell p (by rw [plcTo_len]; exact hp9)
      have hgl := HST.out.1.lt
      have HPL : Hid (p < (plcTo [z0, z1, z2, z3, z4, z5] k).length) := by rw [Hid, plcTo_len]; exact hp9
      clear hzz hp hmr hxr
      go_upto_region 5 with fail
      go_still_tail 6, (by kernel_rfl)
      go_wp2_with fail
      go_roundw
      case rel => exact ⟨k + 1, by omega, by go_num, by
        rw [HT.out]
        exact ⟨(HST.out.1.set p HPL.out z).agree rfl, (HST.out.2.set p (.int .i64 z)).drew⟩⟩
      case measure => simp [intOf]; omega
    · obtain rfl : k = 6 := by omega
      have HF : Hid (RowB wr g (matD z0 z1 z2 z3 z4 z5)) := by have := HST.out.1; rw [plcTo_six] at this; exact this
      have hr7 := HST.out.2.at HR5.out (by have := HG.out; omega)
      have r0 := Lib.cell_of_heap hr7 0
      have r1 := Lib.cell_of_heap hr7 1
      simp only [List.getElem?_toArray, List.getElem?_cons_zero, List.getElem?_cons_succ] at r0 r1
      have f0 := Lib.frozen_of_heap hr7 0
      have f1 := Lib.frozen_of_heap hr7 1
      have rl := (Array.getElem?_eq_some_iff.1 hr7).1
      have HR7 := Lib.hid hr7
      clear hmr hxr hr7
      go_wp2_with fail
      refine bodyPost_ret (results_cell_row rfl _ _ _ _ _ _ _ rfl (set2_at HR7.out _ _) Tryz.underlying116 rfl (by kernel_rfl)) rfl ?_
      have HRX := Lib.hid (RowB.agree (w' := set2 wr (w.heap.size + 1) (.int .i64 3) (.slice (some ⟨g, 0, none⟩) 9 c)) HF.out (set2_other _ _ _ _ _ (by have := HG.out; omega)))
      exact ⟨⟨_, _, rfl, by have := HG.out; omega, HRX.out⟩, set2_below (bt_below (HB2.out.trans (HB5.out.mono HB2.out.size)) HST.out.2 (by have := HG.out; omega) (HB2.out.trans (HB5.out.mono HB2.out.size)).size) (by omega) _ _⟩
end Go.Proofs.YtockinpjfhhkoaaGreatDoor
