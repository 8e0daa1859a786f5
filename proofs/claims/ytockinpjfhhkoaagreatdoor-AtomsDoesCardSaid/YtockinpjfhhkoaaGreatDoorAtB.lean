/- Matrices of bounds in memory; dbm.Check, slices.Clone, Twin, slices.Equal, Same, at. -/
import Derived.Lib.SliceRun
import Derived.Deep.Cut
import Derived.IntWalk
import Derived.Deep.RegionHeld3
import Derived.StillTailTactics
import Derived.Test.YtockinpjfhhkoaaGreatDoorAtA
import Derived.Test.YtockinpjfhhkoaaGreatDoorMhE
namespace Go.Proofs.YtockinpjfhhkoaaGreatDoor
open Go.RowKit

theorem info67 : (Tryz.prog.info? 67).map (fun i => (i.zero, i.size, i.bytes)) = some (some (.int .i64 0), 1, 8) := by kernel_rfl
/-- A row of bounds in block g. -/
def RowB (w : World) (g : Nat) (L : List Int) : Prop := ∃ cs, w.heap[g]? = some (.cells cs 67 (0, 0)) ∧ ∀ i (h : i < L.length), cs[i]? = some (.int .i64 L[i])
theorem RowB.agree {w w' : World} {g : Nat} {L : List Int} (h : RowB w g L) (he : w'.heap[g]? = w.heap[g]?) : RowB w' g L := by
  obtain ⟨cs, h1, h2⟩ := h
  exact ⟨cs, he.trans h1, h2⟩
theorem RowB.lt {w : World} {g : Nat} {L : List Int} (h : RowB w g L) : g < w.heap.size := by
  obtain ⟨cs, h1, _⟩ := h
  exact (Array.getElem?_eq_some_iff.1 h1).1
theorem RowB.cell {w : World} {g : Nat} {L : List Int} (h : RowB w g L) (i : Nat) (hi : i < L.length) : w.cell? ⟨g, i, none⟩ = some (.int .i64 L[i]) := by
  obtain ⟨cs, h1, h2⟩ := h
  rw [Lib.cell_of_heap h1, h2 i hi]
theorem RowB.cellD {w : World} {g : Nat} {L : List Int} (h : RowB w g L) (i : Nat) (hi : i < L.length) : w.cell? ⟨g, i, none⟩ = some (.int .i64 (L.getD i 0)) := by
  rw [h.cell i hi, List.getD_eq_getElem?_getD, List.getElem?_eq_getElem hi]; rfl
theorem RowB.frozen {w : World} {g : Nat} {L : List Int} (h : RowB w g L) (i : Nat) : w.frozen? ⟨g, i, none⟩ = false := by
  obtain ⟨cs, h1, _⟩ := h
  exact Lib.frozen_of_heap h1 i
theorem RowB.below {w w' : World} {g : Nat} {L : List Int} (h : RowB w g L) (hb : Below w.heap.size w w') : RowB w' g L := h.agree (hb.block g h.lt)
theorem RowB.alloc {w : World} {g : Nat} {L : List Int} (h : RowB w g L) (o : Obj) : RowB (w.alloc o) g L := h.below ((Below.refl _ _).alloc (Nat.le_refl _) o)
theorem setCell_at {w : World} {g : Nat} {cs : Array Value} {t : TypeId} {fz : Nat × Nat} (h : w.heap[g]? = some (.cells cs t fz)) (j : Nat) (v : Value) : (w.setCell ⟨g, j, none⟩ v).heap[g]? = some (.cells (cs.setIfInBounds j v) t fz) := by
  simp [World.setCell, Array.getElem?_modify, h]
theorem setCell_other' (w : World) (g i : Nat) (v : Value) (j : Nat) (hj : j ≠ g) : (w.setCell ⟨g, i, none⟩ v).heap[j]? = w.heap[j]? := Below.heap_setCell _ _ _ _ (by simpa using hj)
theorem RowB.set {w : World} {g : Nat} {L : List Int} (h : RowB w g L) (i : Nat) (hi : i < L.length) (x : Int) : RowB (w.setCell ⟨g, i, none⟩ (.int .i64 x)) g (L.set i x) := by
  obtain ⟨cs, h1, h2⟩ := h
  refine ⟨_, setCell_at h1 i _, fun j hj => ?_⟩
  rw [List.length_set] at hj
  by_cases e : j = i
  · subst e
    have hc := (Array.getElem?_eq_some_iff.1 (h2 j hi)).1
    rw [List.getElem_set_self, Array.getElem?_setIfInBounds_self_of_lt hc]
  · rw [List.getElem_set_ne (by omega), Array.getElem?_setIfInBounds_ne (by omega)]
    exact h2 j hj
theorem RowB.setOther {w : World} {g : Nat} {L : List Int} (h : RowB w g L) (g' i : Nat) (v : Value) (hg : g ≠ g') : RowB (w.setCell ⟨g', i, none⟩ v) g L := h.agree (setCell_other' _ _ _ _ _ hg)

/-- Is one not to be in a matrix? -/
def badD (L : List Int) : Bool := L.any fun b => !mayB b
def checkD (L : List Int) : Int := if badD L = true then 8 else 0

def idxB (f : Int → Bool) : List Int → Int → Int
  | [], _ => -1
  | x :: r, k => if f x then k else idxB f r (k + 1)
theorem idxB_any (f : Int → Bool) : ∀ (l : List Int) (k : Int), 0 ≤ k → decide (0 ≤ idxB f l k) = l.any f
  | [], _, _ => rfl
  | x :: r, k, h => by
    rw [idxB, List.any_cons]
    cases f x
    · simpa using idxB_any f r (k + 1) (by omega)
    · simpa using h
theorem idxB_drop (f : Int → Bool) (l : List Int) (j : Nat) (h : j < l.length) : idxB f (l.drop j) j = if f l[j] then (j : Int) else idxB f (l.drop (j + 1)) ((j + 1 : Nat) : Int) := by
  rw [List.drop_eq_getElem_cons h, idxB]
  rfl
set_option maxRecDepth 100000 in
set_option maxHeartbeats 2000000 in
theorem index220_any (g c : Nat) (L : List Int) (w : World) (h : RowB w g L) (hlb : L.length ≤ 100) :
    Calls Tryz.prog 220 #[.slice (some ⟨g, 0, none⟩) L.length c, .func (.func 183) #[] #[]] w fun e w' => e = .returned (.int .i64 (idxB (fun b => !mayB b) L 0)) ∧ Below w.heap.size w w' := by
  have H0 : Hid (idxB (fun b => !mayB b) L 0 = idxB (fun b => !mayB b) (L.drop 0) ((0 : Nat) : Int)) := rfl
  have HL := h.lt
  have H := Lib.hid h
  clear h
  go_enter Tryz.func220, Tryz.ntmps220
  go_wp2_with fail
  go_loopw [8] (fun i wr => ∃ j : Nat, j ≤ L.length ∧ i = .int .i64 j ∧ Hid (idxB (fun b => !mayB b) L 0 = idxB (fun b => !mayB b) (L.drop j) (j : Int)) ∧ Below w.heap.size w wr) (fun i _ => L.length - (intOf i).toNat)
  case atStart => exact ⟨0, Nat.zero_le _, rfl, H0, Below.refl _ _⟩
  case round =>
    obtain ⟨j, hj, rfl, hI, hbw⟩ := hrel
    by_cases hlt : j < L.length
    · have c1 := (H.out.below hbw).cell j hlt
      obtain ⟨x, hx⟩ : ∃ x, L[j] = x := ⟨_, rfl⟩
      have HD := Lib.hid (idxB_drop (fun b => !mayB b) L j hlt)
      rw [hx] at c1 HD
      have HX := Lib.hid hx
      clear hx
      have hsw := hbw.size
      have HM := Lib.hid (clo183_any x wr)
      cases hb : mayB x
      · have HB := Lib.hid hb
        clear hb
        go_wp2_with fail
        refine HM.out.mono ?_
        rintro e w1 ⟨rfl, hb1⟩
        rw [HB.out]
        clear c1
        go_wp2_with fail
        go_ret
        exact ⟨ret_i (by rw [hI.out, HD.out, HB.out]; rfl), hbw.trans (hb1.mono hsw)⟩
      · have HB := Lib.hid hb
        clear hb
        go_wp2_with fail
        refine HM.out.mono ?_
        rintro e w1 ⟨rfl, hb1⟩
        rw [HB.out]
        clear c1
        go_wp2_with fail
        go_roundw
        case rel => exact ⟨j + 1, by omega, by go_num, by rw [Hid, hI.out, HD.out, HB.out]; rfl, hbw.trans (hb1.mono hsw)⟩
        case measure => simp [intOf]; omega
    · have hE : Hid (idxB (fun b => !mayB b) (L.drop j) (j : Int) = -1) := by rw [Hid, show j = L.length by omega, List.drop_length]; rfl
      go_wp2_with fail
      go_ret
      exact ⟨ret_i (by rw [hI.out, hE.out]), hbw⟩
theorem contains182_any (g c : Nat) (L : List Int) (w : World) (h : RowB w g L) (hlb : L.length ≤ 100) :
    Calls Tryz.prog 182 #[.slice (some ⟨g, 0, none⟩) L.length c, .func (.func 183) #[] #[]] w fun e w' => e = .returned (.bool (badD L)) ∧ Below w.heap.size w w' := by
  have H := Lib.hid (index220_any g c L w h hlb)
  have HA := Lib.hid (idxB_any (fun b => !mayB b) L 0 (by omega))
  clear h
  go_enter Tryz.func182, Tryz.ntmps182
  go_wp2_with fail
  refine H.out.mono ?_
  rintro e w1 ⟨rfl, hb1⟩
  go_wp2_with fail
  go_ret
  exact ⟨ret_bool' (by unfold badD; rw [← HA.out]), hb1⟩
set_option maxRecDepth 100000 in
set_option maxHeartbeats 2000000 in
theorem check115_any {n g c : Nat} {L : List Int} {w : World} (h : RowB w g L) (h1 : 1 ≤ n) (hn : n ≤ 4) (hl : L.length = n * n) :
    Calls Tryz.prog 115 #[.agg #[.int .i64 n, .slice (some ⟨g, 0, none⟩) L.length c]] w fun e w' => e = .returned (.int .i64 (checkD L)) ∧ Below w.heap.size w w' := by
  have hb := belowA w (.cells #[.int .i64 n, .slice (some ⟨g, 0, none⟩) L.length c] 116)
  have HC := Lib.hid (contains182_any g c L (w.alloc (.cells #[.int .i64 n, .slice (some ⟨g, 0, none⟩) L.length c] 116)) (h.alloc _) (by rw [hl]; have : n * n ≤ 16 := Nat.mul_le_mul hn hn; omega))
  have HB := Lib.hid hb
  have hnn : n * n ≤ 16 := Nat.mul_le_mul hn hn
  have hw1 : IntKind.i64.wrap ((n : Int) * (n : Int)) = (L.length : Int) := by rw [← Int.natCast_mul, ← hl]; exact IntWalk.i64_in _ (by omega)
  have d1 : decide ((n : Int) < 1) = false := by simp; omega
  have d2 : decide ((4 : Int) < (n : Int)) = false := by simp; omega
  clear h hb hl hnn
  cases hk : badD L with
  | true =>
    have HE : Hid (checkD L = 8) := by rw [Hid, checkD, if_pos hk]
    rw [HE.out]
    rw [hk] at HC
    clear hk
    go_enter Tryz.func115, Tryz.ntmps115
    go_wp2_with fail
    refine HC.out.mono ?_
    rintro e w1 ⟨rfl, hb1⟩
    have HB1 := Lib.hid (HB.out.trans (hb1.mono HB.out.size))
    clear hb1
    go_wp2_with fail
    all_goals go_ret
    all_goals exact ⟨rfl, HB1.out⟩
  | false =>
    have HE : Hid (checkD L = 0) := by rw [Hid, checkD, hk]; rfl
    rw [HE.out]
    rw [hk] at HC
    clear hk
    go_enter Tryz.func115, Tryz.ntmps115
    go_wp2_with fail
    refine HC.out.mono ?_
    rintro e w1 ⟨rfl, hb1⟩
    have HB1 := Lib.hid (HB.out.trans (hb1.mono HB.out.size))
    clear hb1
    go_wp2_with fail
    all_goals go_ret
    all_goals exact ⟨rfl, HB1.out⟩
set_option maxRecDepth 100000 in
/-- What append makes of no row and one. -/
theorem run_clone191 (w : World) (g : Nat) (L : List Int) (b c : Nat) (hn : 0 < L.length) (hn2 : L.length ≤ 100) (h : RowB w b L) :
    ∃ v' w', (Builtin.append_ #[114, 114] 114 #[.slice (some ⟨g, 0, none⟩) 0 0, .slice (some ⟨b, 0, none⟩) L.length c]).run Tryz.prog w = .ok v' w' ∧
      (∃ cap, v' = .slice (some ⟨w.heap.size, 0, none⟩) L.length cap ∧ RowB w' w.heap.size L) ∧ Below w.heap.size w w' ∧ w'.heap.size = w.heap.size + 1 := by
  obtain ⟨i0, hi, hz0, hz1, hz2⟩ := info_parts info67
  have hs : Src Tryz.prog i0.size 114 (.slice (some ⟨b, 0, none⟩) L.length c) L.length (L.map fun x => Value.int .i64 x) w := by
    refine Src.ofSlice w Tryz.underlying114 _ _ _ _ (by rw [hz1]; simp) ?_ ?_
    · intro k u hk
      have hkl : k < L.length := by have := (List.getElem?_eq_some_iff.1 hk).1; simpa using this
      rw [Addr.add_lit, Nat.zero_add, h.cell k hkl, ← hk]
      simp [hkl]
    · intro u hu
      obtain ⟨x, _, rfl⟩ := List.mem_map.1 hu
      rfl
  have hold : (Builtin.firstCells i0.size 0 (.slice (some ⟨g, 0, none⟩) 0 0)).run Tryz.prog w.drew = .ok ([] : List Value).toArray w.drew :=
    run_firstCells_some _ _ _ _ _ _ _ (by simp) (fun j u hj => by simp at hj)
  have hr := run_append_grow_src (P := Tryz.prog) w 114 114 114 67 i0 _ Tryz.underlying114 hi hz0 (some ⟨g, 0, none⟩) 0 0 [] hold _ L.length _ hs (by omega) (by omega)
    (growslice_fits (by omega) (by rw [hz2]; omega))
  rw [Nat.zero_add] at hr
  refine ⟨_, _, hr, ⟨_, rfl, ⟨_, Array.getElem?_push_size, fun i hi => ?_⟩⟩, (Below.refl _ w).drew.alloc (Nat.le_refl _) _, by simp⟩
  rw [List.nil_append, Array.getElem?_append_left (by simpa using hi), List.getElem?_toArray]
  simp [hi]
set_option maxRecDepth 100000 in
set_option maxHeartbeats 2000000 in
theorem clone191_any (b c : Nat) (L : List Int) (w : World) (hn : 0 < L.length) (hn2 : L.length ≤ 100) (h : RowB w b L) :
    Calls Tryz.prog 191 #[.slice (some ⟨b, 0, none⟩) L.length c] w fun e w' => (∃ g' c', e = .returned (.slice (some ⟨g', 0, none⟩) L.length c') ∧ w.heap.size ≤ g' ∧ RowB w' g' L) ∧ Below w.heap.size w w' := by
  have hq := fun W => Go.Lib.run_eql_slice_nil (P := Tryz.prog) W 114 67 (some ⟨b, 0, none⟩) L.length c 0 0 Tryz.underlying114
  simp only [Option.isNone_some] at hq
  obtain ⟨W1, hW1⟩ : ∃ W1, W1 = w.alloc (.cells #[] 67) := ⟨_, rfl⟩
  have hb1 : Below w.heap.size w W1 := by rw [hW1]; exact belowA _ _
  have hz : W1.heap.size = w.heap.size + 1 := by rw [hW1]; simp
  have HR : Hid (∃ v' w', (Builtin.append_ #[114, 114] 114 #[.slice (some ⟨w.heap.size, 0, none⟩) 0 0, .slice (some ⟨b, 0, none⟩) L.length c]).run Tryz.prog W1 = .ok v' w' ∧
      (∃ g' c', v' = .slice (some ⟨g', 0, none⟩) L.length c' ∧ w.heap.size ≤ g' ∧ RowB w' g' L) ∧ Below w.heap.size w w') := by
    obtain ⟨v', w', hr, ⟨cap, hv', hrow⟩, hb2, _⟩ := run_clone191 W1 w.heap.size L b c hn hn2 (h.below hb1)
    exact ⟨v', w', hr, ⟨_, cap, hv', by omega, hrow⟩, hb1.trans (hb2.mono hb1.size)⟩
  have HW1 := Lib.hid hW1.symm
  clear h hn hn2 hb1 hz hW1
  go_enter Tryz.func191, Tryz.ntmps191
  go_wp2_with (at_builtin; rw [HW1.out]; refine wpList_append_ex rfl _ _ 114 rfl _ _ rfl rfl _ HR.out ?_; intro v' w' hvw; obtain ⟨⟨g', c', rfl, hres⟩, hb⟩ := hvw; have HB := Lib.hid hb; have HRES := Lib.hid hres; clear hb hres)
  all_goals go_ret
  all_goals exact ⟨⟨_, _, rfl, HRES.out⟩, HB.out⟩
end Go.Proofs.YtockinpjfhhkoaaGreatDoor
