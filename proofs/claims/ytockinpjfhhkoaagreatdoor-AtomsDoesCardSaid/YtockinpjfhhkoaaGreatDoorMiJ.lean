/- AtomsDoes: the document's Matches walked. (Printed by gen_doq.py.) -/
import Derived.Deep.RegionHeld
import Derived.Deep.Cut
import Derived.LoopTactic
import Derived.Deep.QuietTactic
import Derived.BigQuiet
import Derived.StillTailTactics
import Derived.Deep.DrawnRows
import Derived.Maps.AppendAt
import Derived.WalkSmall
import Derived.Test.YtockinpjfhhkoaaGreatDoorMiI
import Derived.Test.YtockinpjfhhkoaaGreatDoorDoJ
import Derived.Test.YtockinpjfhhkoaaGreatDoorDoI
import Derived.Test.YtockinpjfhhkoaaGreatDoorMhD
namespace Go.Proofs.YtockinpjfhhkoaaGreatDoor
open Go.RowKit Go.Shelf
attribute [local go_sem ↓] Go.wp_at_zero Go.wp_at_succ

theorem small_mul {f p : Int} (h0 : 0 ≤ f) (h1 : f ≤ 6) (hp : 1 ≤ p) (hp2 : p ≤ 1048576) : 0 ≤ f * p ∧ f * p ≤ 6291456 := by
  refine ⟨Int.mul_nonneg h0 (by omega), ?_⟩
  have := Int.mul_le_mul h1 hp2 (by omega) (by omega : (0 : Int) ≤ 6)
  omega
set_option maxRecDepth 100000 in
set_option maxHeartbeats 16000000 in
theorem matches17_any (f a t : Int) (w : World) (N : Nat) (hN : 3 * (2 * t + 1) * (2 * t + 1) = (N : Int)) (hf : 0 ≤ f) (hf2 : f ≤ 6) (ha : 0 ≤ a) (ha2 : a ≤ 6) (ht : 1 ≤ t) (ht2 : t ≤ 6) :
    Calls Tryz.prog 17 #[.int .i64 f, .int .i64 a, .int .i64 t] w fun e w' => (∃ v', e = .returned v' ∧ OwnI w' w.heap.size v' (numTo (fun n => isR n t && decide (f * (pairR n t).1.2 ≤ (pairR n t).1.1) && decide (a * (pairR n t).2.2 < (pairR n t).2.1)) N)) ∧ Below w.heap.size w w' := by
  obtain ⟨i0, hi, hz0, hz1, hz2⟩ := info_parts info3
  have hN2 := (count_in (t := t) (by omega) ht2).1
  rw [hN] at hN2
  have H45 := fun W => Lib.hid (count45_any t W (by omega) ht2)
  rw [hN] at H45
  have HOF : Hid (∀ (j : Nat) W, j < N → Calls Tryz.prog 46 #[.int .i64 j, .int .i64 t] W fun e w' => e = .returned (.tuple #[.agg #[.int .i64 (pairR j t).1.1, .int .i64 (pairR j t).1.2, .int .i64 (pairR j t).2.1, .int .i64 (pairR j t).2.2], .bool (isR j t)]) ∧ Below W.heap.size W w') :=
    fun j W hj => of46_any j t W (by omega) (by omega) ht ht2
  have HSM : Hid (∀ j : Nat, j < N → (0 ≤ f * (pairR j t).1.2 ∧ f * (pairR j t).1.2 ≤ 6291456) ∧ (0 ≤ a * (pairR j t).2.2 ∧ a * (pairR j t).2.2 ≤ 6291456)) := by
    intro j hj
    obtain ⟨⟨_, _, h1⟩, ⟨_, _, h2⟩⟩ := pair_ok (n := j) (t := t) (by omega) (by omega) ht ht2
    obtain ⟨k1, k2, _, _⟩ := mayQ_parts h1
    obtain ⟨k3, k4, _, _⟩ := mayQ_parts h2
    exact ⟨small_mul hf hf2 k1 k2, small_mul ha ha2 k3 k4⟩
  obtain ⟨F, hF⟩ : ∃ F : Nat → Bool, F = fun n : Nat => isR n t && decide (f * (pairR n t).1.2 ≤ (pairR n t).1.1) && decide (a * (pairR n t).2.2 < (pairR n t).2.1) := ⟨_, rfl⟩
  rw [← hF]
  have HF : Hid (∀ n : Nat, F n = (isR n t && decide (f * (pairR n t).1.2 ≤ (pairR n t).1.1) && decide (a * (pairR n t).2.2 < (pairR n t).2.1))) := fun n => by rw [hF]
  clear hF hf hf2 ha ha2 hN ht ht2
  go_enter Tryz.func17, Tryz.ntmps17
  go_wp2_with fail
  go_loopw [7, 8] (fun u i wr => ∃ j : Nat, j ≤ N ∧ i = .int .i64 j ∧ OwnI wr w.heap.size u (numTo F j) ∧ Below w.heap.size w wr) (fun _ i _ => N - (intOf i).toNat)
  case atStart => exact ⟨0, Nat.zero_le _, rfl, (show OwnI w w.heap.size (Value.slice none 0 0) [] from World.ownsRow_nil _ _ _ _), Below.refl _ _⟩
  case round =>
    obtain ⟨j, hj, rfl, hown, hbw⟩ := hrel
    obtain ⟨au, cu, rfl⟩ := hown.shape
    go_wp2_with fail
    refine (H45 _).out.mono ?_
    rintro e w1 ⟨rfl, hw1⟩
    obtain rfl := hw1.symm
    by_cases hlt : j < N
    · have hi1 : (j : Int) < (N : Int) := by omega
      have HJ := Lib.hid (HOF.out j wr hlt)
      have HS := HSM.out j hlt
      have HFj := Lib.hid (HF.out j)
      have hTl := numTo_len F j
      obtain ⟨⟨⟨a1, p1⟩, ⟨b1, q1⟩⟩, hpr⟩ : ∃ P, pairR j t = P := ⟨_, rfl⟩
      obtain ⟨is, his⟩ : ∃ is, isR j t = is := ⟨_, rfl⟩
      rw [hpr, his] at HJ HFj
      rw [hpr] at HS
      dsimp only at HJ HFj HS
      obtain ⟨m1, hm1⟩ : ∃ m, f * p1 = m := ⟨_, rfl⟩
      obtain ⟨m2, hm2⟩ : ∃ m, a * q1 = m := ⟨_, rfl⟩
      rw [hm1, hm2] at HFj HS
      have v1 : IntKind.i64.wrap (f * p1) = m1 := by rw [hm1]; exact IntWalk.i64_in _ (by omega)
      have v1' : wrap64 (f * p1) = m1 := by rw [hm1]; exact IntWalk.wrap64_in _ (by omega)
      have v2 : IntKind.i64.wrap (a * q1) = m2 := by rw [hm2]; exact IntWalk.i64_in _ (by omega)
      have v2' : wrap64 (a * q1) = m2 := by rw [hm2]; exact IntWalk.wrap64_in _ (by omega)
      have HTL := Lib.hid hTl
      clear hpr his hm1 hm2 HS hTl
      go_wp2_with fail
      refine HJ.out.mono ?_
      rintro e w2 ⟨rfl, hb2⟩
      have HB2 := Lib.hid hb2
      clear hb2
      go_upto_region 6 with fail
      obtain ⟨WX, hWX⟩ : ∃ WX, WX = w2.alloc (.cells #[.int .i64 a1, .int .i64 p1, .int .i64 b1, .int .i64 q1] 52) := ⟨_, rfl⟩
      have hx0 : WX.heap[w2.heap.size]? = some (.cells #[.int .i64 a1, .int .i64 p1, .int .i64 b1, .int .i64 q1] 52 (0, 0)) := by rw [hWX]; exact hp_topA rfl
      have x0 := Lib.cell_of_heap hx0 0
      have x1 := Lib.cell_of_heap hx0 1
      have x2 := Lib.cell_of_heap hx0 2
      have x3 := Lib.cell_of_heap hx0 3
      have xl := (Array.getElem?_eq_some_iff.1 hx0).1
      have HWX : Hid (Below wr.heap.size wr WX) := by rw [Hid, hWX]; exact belA' HB2.out _
      rw [← hWX]
      clear hWX hx0
      simp only [List.getElem?_toArray, List.getElem?_cons_zero, List.getElem?_cons_succ] at x0 x1 x2 x3
      have hTl := HTL.out
      cases is with
      | false =>
        have HT := Lib.hid (numTo_no (F := F) (k := j) (by rw [HFj.out]; rfl))
        clear hTl
        have HO := Lib.hid hown
        clear hown
        go_wp2_with fail
        refine ⟨⟨j + 1, by omega, by push_cast; rfl, by rw [HT.out]; exact HO.out.below HWX.out, hbw.trans (HWX.out.mono hbw.size)⟩, ?_⟩
        simp [intOf]; omega
      | true =>
        cases d1 : decide (m1 ≤ a1) with
        | false =>
          have HT := Lib.hid (numTo_no (F := F) (k := j) (by rw [HFj.out, d1]; rfl))
          clear hTl
          have HO := Lib.hid hown
          clear hown
          go_wp2_with fail
          refine ⟨⟨j + 1, by omega, by push_cast; rfl, by rw [HT.out]; exact HO.out.below HWX.out, hbw.trans (HWX.out.mono hbw.size)⟩, ?_⟩
          simp [intOf]; omega
        | true =>
          cases d2 : decide (m2 < b1) with
          | false =>
            have HT := Lib.hid (numTo_no (F := F) (k := j) (by rw [HFj.out, d1, d2]; rfl))
            clear hTl
            have HO := Lib.hid hown
            clear hown
            go_wp2_with fail
            refine ⟨⟨j + 1, by omega, by push_cast; rfl, by rw [HT.out]; exact HO.out.below HWX.out, hbw.trans (HWX.out.mono hbw.size)⟩, ?_⟩
            simp [intOf]; omega
          | true =>
            have HT := Lib.hid (numTo_yes (F := F) (k := j) (by rw [HFj.out, d1, d2]; rfl))
            have hTl2 := hTl
            generalize (Value.slice au (numTo F j).length cu) = vv at hown ⊢
            go_wp2_with (at_builtin; refine wpList_append_own_at _ rfl _ _ 38 rfl w.heap.size 3 i0 _ 1 8 Tryz.underlying38 hi hz0 hz1 hz2 rfl (by decide) _ _ _ rfl (World.ownsRow.alloc (hown.below HWX.out) _) _ 1 1 [.int .i64 (j : Int)] rfl rfl (cells_one_new _ _ _) ?c2 ?c3 ?c4 ?c5 ?_)
            case c2 => intro u hu; simp at hu; subst hu; rfl
            case c3 => simp [maxLen]; omega
            case c4 => omega
            case c5 => have h1 := hbw.size; have h2 := HWX.out.size; simp; omega
            intro v' w5 hown' hgrow hnil hat
            go_wp2_with fail
            refine ⟨⟨j + 1, by omega, by push_cast; rfl, ?_, ?_⟩, ?_⟩
            · rw [HT.out]
              unfold OwnI
              rw [List.map_append, List.length_append]
              exact hown'
            · exact ((hbw.trans (HWX.out.mono hbw.size)).alloc (by have := hbw.size; have := HWX.out.size; omega) _).grown hgrow (by simp; have := hbw.size; have := HWX.out.size; omega) (fun k hk => (World.ownsRow.lt hown k hk).1)
            · simp [intOf]; omega
    · obtain rfl : j = N := by omega
      have HO := Lib.hid hown
      clear hown
      go_wp2_with fail
      all_goals go_ret
      all_goals exact ⟨⟨_, rfl, HO.out⟩, hbw⟩
end Go.Proofs.YtockinpjfhhkoaaGreatDoor

/- AtomsDoes: the document's List walked, of one zone. (Printed by gen_dos.py.) -/
namespace Go.Proofs.YtockinpjfhhkoaaGreatDoor
open Go.RowKit Go.Shelf

theorem info4' : (Tryz.prog.info? 4).map (fun i => (i.zero, i.size, i.bytes)) = some (some (.bool false), 1, 1) := by kernel_rfl
/-- A row of marks. -/
def SetB (w : World) (b N : Nat) (G : Nat → Bool) : Prop := ∃ cs, w.heap[b]? = some (.cells cs 4 (0, 0)) ∧ cs.size = N ∧ ∀ k, k < N → cs[k]? = some (.bool (G k))
theorem SetB.lt {w : World} {b N : Nat} {G : Nat → Bool} (h : SetB w b N G) : b < w.heap.size := by
  obtain ⟨cs, h1, _⟩ := h
  exact (Array.getElem?_eq_some_iff.1 h1).1
theorem SetB.cell {w : World} {b N : Nat} {G : Nat → Bool} (h : SetB w b N G) (k : Nat) (hk : k < N) : w.cell? ⟨b, k, none⟩ = some (.bool (G k)) := by
  obtain ⟨cs, h1, _, h2⟩ := h
  rw [Lib.cell_of_heap h1, h2 k hk]
theorem SetB.frozen {w : World} {b N : Nat} {G : Nat → Bool} (h : SetB w b N G) (k : Nat) : w.frozen? ⟨b, k, none⟩ = false := by
  obtain ⟨cs, h1, _⟩ := h
  exact Lib.frozen_of_heap h1 k
theorem SetB.below {w w' : World} {b N : Nat} {G : Nat → Bool} (h : SetB w b N G) (hb : Below w.heap.size w w') : SetB w' b N G := by
  have hl := h.lt
  obtain ⟨cs, h1, h2⟩ := h
  exact ⟨cs, (hb.block b hl).trans h1, h2⟩
theorem SetB.set {w : World} {b N : Nat} {G G' : Nat → Bool} (h : SetB w b N G) (k : Nat) (x : Bool) (he : ∀ i, G' i = if i = k then x else G i) : SetB (w.setCell ⟨b, k, none⟩ (.bool x)) b N G' := by
  obtain ⟨cs, h1, h2, h3⟩ := h
  refine ⟨_, setCell_at h1 k _, by simpa using h2, fun i hi => ?_⟩
  by_cases e : i = k
  · subst e
    rw [he, if_pos rfl, Array.getElem?_setIfInBounds_self_of_lt (by omega)]
  · rw [he, if_neg e, Array.getElem?_setIfInBounds_ne (by omega)]
    exact h3 i hi
theorem SetB.congr {w : World} {b N : Nat} {G G' : Nat → Bool} (h : SetB w b N G) (he : ∀ i, G' i = G i) : SetB w b N G' := by
  have : G' = G := funext he
  rw [this]; exact h
theorem SetB.drew {w : World} {b N : Nat} {G : Nat → Bool} (h : SetB w b N G) : SetB w.drew b N G := h
theorem next_mark {F : Nat → Bool} {j : Nat} (h : F j = false) (i : Nat) : (decide (i < j + 1) && F i) = (decide (i < j) && F i) := by
  by_cases e : i = j
  · subst e; rw [h]; simp
  · have : (i < j + 1) ↔ (i < j) := by omega
    simp [this]
theorem mark_set {F : Nat → Bool} {j : Nat} {x : Bool} (h : F j = x) (i : Nat) : (decide (i < j + 1) && F i) = if i = j then x else (decide (i < j) && F i) := by
  by_cases e : i = j
  · subst e; rw [if_pos rfl, h]; simp
  · have : (i < j + 1) ↔ (i < j) := by omega
    rw [if_neg e]; simp [this]
set_option maxRecDepth 100000 in
set_option maxHeartbeats 16000000 in
theorem list16_any {g c : Nat} {z0 z1 z2 z3 z4 z5 : Int} (t : Int) (w : World) (N : Nat) (hN : 3 * (2 * t + 1) * (2 * t + 1) = (N : Int)) (ht : 1 ≤ t) (ht2 : t ≤ 6) (hbd : badD (matD z0 z1 z2 z3 z4 z5) = false) (hg : w.heap[g]? = some (.cells #[.int .i64 z0, .int .i64 z1, .int .i64 z2, .int .i64 z3, .int .i64 z4, .int .i64 z5] 69 (0, 0))) :
    Calls Tryz.prog 16 #[.slice (some ⟨g, 0, none⟩) 1 c, .int .i64 t] w fun e w' => (∃ v', e = .returned v' ∧ OwnI w' w.heap.size v' (numTo (fun n => isR n t && keepsD 3 (matD z0 z1 z2 z3 z4 z5) [(0, 1), (pairR n t).1, (pairR n t).2]) N)) ∧ Below w.heap.size w w' := by
  have hN2 := (count_in (t := t) (by omega) ht2).1
  have hN3 := (count_in (t := t) (by omega) ht2).2
  rw [hN] at hN2 hN3
  have H45 := fun W => Lib.hid (count45_any t W (by omega) ht2)
  rw [hN] at H45
  have HOF : Hid (∀ (j : Nat) W, j < N → Calls Tryz.prog 46 #[.int .i64 j, .int .i64 t] W fun e w' => e = .returned (.tuple #[.agg #[.int .i64 (pairR j t).1.1, .int .i64 (pairR j t).1.2, .int .i64 (pairR j t).2.1, .int .i64 (pairR j t).2.2], .bool (isR j t)]) ∧ Below W.heap.size W w') :=
    fun j W hj => of46_any j t W (by omega) (by omega) ht ht2
  have HIN : Hid (∀ (j : Nat) W, j < N → Calls Tryz.prog 47 #[.agg #[.int .i64 z0, .int .i64 z1, .int .i64 z2, .int .i64 z3, .int .i64 z4, .int .i64 z5], .agg #[.int .i64 (pairR j t).1.1, .int .i64 (pairR j t).1.2, .int .i64 (pairR j t).2.1, .int .i64 (pairR j t).2.2]] W fun e w' => e = .returned (.bool (keepsD 3 (matD z0 z1 z2 z3 z4 z5) [(0, 1), (pairR j t).1, (pairR j t).2])) ∧ Below W.heap.size W w') := by
    intro j W hj
    obtain ⟨⟨h0, h1, h2⟩, ⟨h3, h4, h5⟩⟩ := pair_ok (n := j) (t := t) (by omega) (by omega) ht ht2
    exact inside47_any W hbd ⟨by omega, by omega⟩ h2 ⟨by omega, by omega⟩ h5
  obtain ⟨CS, hCS, hCF, hmk⟩ : ∃ CS : Array Value, CS.size = N ∧ (∀ k, k < N → CS[k]? = some (.bool false)) ∧ ∀ W : World, (Instr.makeSlice 96 (.int .i64 (N : Int)) (.int .i64 (N : Int))).run Tryz.prog W = .ok (.slice (some ⟨W.heap.size, 0, none⟩) N N) (W.alloc (.cells CS 4)) := by
    obtain ⟨i0, hi, hz0, hz1, hz2⟩ := info_parts info4'
    refine ⟨madeCells (Value.bool false).cells N, by rw [size_madeCells], ?_, fun W => ?_⟩
    · intro k hk
      simp [madeCells, hk, Value.cells, Nat.mod_one]
    · have hr := run_make (P := Tryz.prog) W 96 4 i0 _ Tryz.underlying96 hi hz0 .i64 .i64 (N : Int) (N : Int) (by omega) (Int.le_refl _) (by rw [hz2]; omega) (by omega)
      simp only [Int.toNat_natCast] at hr
      rw [hz1, Nat.mul_one] at hr
      exact hr
  obtain ⟨F, hF⟩ : ∃ F : Nat → Bool, F = fun n : Nat => isR n t && keepsD 3 (matD z0 z1 z2 z3 z4 z5) [(0, 1), (pairR n t).1, (pairR n t).2] := ⟨_, rfl⟩
  rw [← hF]
  have HF : Hid (∀ n : Nat, F n = (isR n t && keepsD 3 (matD z0 z1 z2 z3 z4 z5) [(0, 1), (pairR n t).1, (pairR n t).2])) := fun n => by rw [hF]
  obtain ⟨K, hK⟩ : ∃ K : Nat → Bool, ∀ n : Nat, keepsD 3 (matD z0 z1 z2 z3 z4 z5) [(0, 1), (pairR n t).1, (pairR n t).2] = K n := ⟨_, fun _ => rfl⟩
  have HFK : Hid (∀ n : Nat, F n = (isR n t && K n)) := fun n => by rw [HF.out, hK]
  have HIN : Hid (∀ (j : Nat) W, j < N → Calls Tryz.prog 47 #[.agg #[.int .i64 z0, .int .i64 z1, .int .i64 z2, .int .i64 z3, .int .i64 z4, .int .i64 z5], .agg #[.int .i64 (pairR j t).1.1, .int .i64 (pairR j t).1.2, .int .i64 (pairR j t).2.1, .int .i64 (pairR j t).2.2]] W fun e w' => e = .returned (.bool (K j)) ∧ Below W.heap.size W w') := by
    intro j W hj
    rw [← hK]; exact HIN.out j W hj
  obtain ⟨WA, hWA⟩ : ∃ WA, WA = w.alloc (.cells CS 4) := ⟨_, rfl⟩
  have hbA : Below w.heap.size w WA := by rw [hWA]; exact belowA _ _
  have HSA : Hid (SetB WA w.heap.size N (fun k => decide (k < 0) && F k)) := by
    refine ⟨CS, by rw [hWA]; exact hp_topA rfl, hCS, fun k hk => ?_⟩
    rw [hCF k hk]; rfl
  have hgl := (Array.getElem?_eq_some_iff.1 hg).1
  have HG : Hid (∀ W, Below w.heap.size w W → W.heap[g]? = some (.cells #[.int .i64 z0, .int .i64 z1, .int .i64 z2, .int .i64 z3, .int .i64 z4, .int .i64 z5] 69 (0, 0))) := fun W hW => (hW.block g hgl).trans hg
  have HBA := Lib.hid hbA
  have HWA := Lib.hid hWA.symm
  have HPK := fun (W : World) (s : Nat) (h1 : s < W.heap.size) (h2 : ∀ k, k < N → W.cell? ⟨s, k, none⟩ = some (.bool (F k))) => Lib.hid (pick48_any (c := N) F W (by omega) h1 h2)
  have HGL := Lib.hid hgl
  have HNN : Hid (N ≤ 507) := by rw [Hid]; omega
  clear hF HF hK hN hN2 hN3 ht ht2 hbd hg hCS hCF hbA hWA hgl
  go_enter Tryz.func16, Tryz.ntmps16
  go_wp2_with fail
  refine (H45 _).out.mono ?_
  rintro e w1 ⟨rfl, hw1⟩
  obtain rfl := hw1.symm
  go_upto_region 2 with fail
  rw [HWA.out]
  clear HWA hmk
  go_wp2_with fail
  go_loopw [6] (fun i wr => ∃ j : Nat, j ≤ N ∧ i = .int .i64 j ∧ Hid (SetB wr w.heap.size N (fun k => decide (k < j) && F k)) ∧ Hid (Below w.heap.size w wr)) (fun i _ => N - (intOf i).toNat)
  case atStart => exact ⟨0, Nat.zero_le _, rfl, HSA, HBA⟩
  case round =>
    obtain ⟨j, hj, rfl, HST, HBR⟩ := hrel
    by_cases hlt : j < N
    · have hi1 : (j : Int) < (N : Int) := by omega
      have hi0 : (0 : Int) ≤ (j : Int) := by omega
      have HJ := Lib.hid (HOF.out j wr hlt)
      have HK := fun W => Lib.hid (HIN.out j W hlt)
      have HFj := Lib.hid (HFK.out j)
      obtain ⟨⟨⟨a, p⟩, ⟨b, q⟩⟩, hpr⟩ : ∃ P, pairR j t = P := ⟨_, rfl⟩
      obtain ⟨is, his⟩ : ∃ is, isR j t = is := ⟨_, rfl⟩
      obtain ⟨kj, hkj⟩ : ∃ kj, K j = kj := ⟨_, rfl⟩
      rw [hpr, his] at HJ
      rw [his, hkj] at HFj
      rw [hkj] at HK
      rw [hpr] at HK
      dsimp only at HJ HK
      have HLT := Lib.hid hlt
      have hww : wrap64 ((j : Int) + 1) = (j : Int) + 1 := IntWalk.wrap64_in _ (by have := HNN.out; omega)
      have hww' : IntKind.i64.wrap ((j : Int) + 1) = (j : Int) + 1 := IntWalk.i64_in _ (by have := HNN.out; omega)
      clear hpr his hkj
      go_wp2_with fail
      refine HJ.out.mono ?_
      rintro e w2 ⟨rfl, hb2⟩
      have HB2 := Lib.hid hb2
      clear hb2
      go_upto_region 6 with fail
      obtain ⟨WX, hWX⟩ : ∃ WX, WX = w2.alloc (.cells #[.int .i64 a, .int .i64 p, .int .i64 b, .int .i64 q] 52) := ⟨_, rfl⟩
      have hx0 : WX.heap[w2.heap.size]? = some (.cells #[.int .i64 a, .int .i64 p, .int .i64 b, .int .i64 q] 52 (0, 0)) := by rw [hWX]; exact hp_topA rfl
      have hbx : Below wr.heap.size wr WX := by rw [hWX]; exact belA' HB2.out _
      have HWX := Lib.hid hbx
      have HSX : Hid (SetB WX w.heap.size N (fun k => decide (k < j) && F k)) := HST.out.below hbx
      have HSL : Hid (w.heap.size < w2.heap.size) := by have h1 := HST.out.lt; have h2 := HB2.out.size; rw [Hid]; omega
      have HX : Hid (∀ W, Below WX.heap.size WX W → W.cell? ⟨g, 0, none⟩ = some (.int .i64 z0) ∧ W.cell? ⟨g, 1, none⟩ = some (.int .i64 z1) ∧ W.cell? ⟨g, 2, none⟩ = some (.int .i64 z2) ∧ W.cell? ⟨g, 3, none⟩ = some (.int .i64 z3) ∧ W.cell? ⟨g, 4, none⟩ = some (.int .i64 z4) ∧ W.cell? ⟨g, 5, none⟩ = some (.int .i64 z5) ∧ W.cell? ⟨w2.heap.size, 0, none⟩ = some (.int .i64 a) ∧ W.cell? ⟨w2.heap.size, 1, none⟩ = some (.int .i64 p) ∧ W.cell? ⟨w2.heap.size, 2, none⟩ = some (.int .i64 b) ∧ W.cell? ⟨w2.heap.size, 3, none⟩ = some (.int .i64 q) ∧ g < W.heap.size ∧ w2.heap.size < W.heap.size) := by
        intro W hW
        have k0 := HG.out W (HBR.out.trans ((belS hbx hW).mono HBR.out.size))
        have k1 := (hW.block _ (Array.getElem?_eq_some_iff.1 hx0).1).trans hx0
        exact ⟨Lib.cell_of_heap k0 0, Lib.cell_of_heap k0 1, Lib.cell_of_heap k0 2, Lib.cell_of_heap k0 3, Lib.cell_of_heap k0 4, Lib.cell_of_heap k0 5, Lib.cell_of_heap k1 0, Lib.cell_of_heap k1 1, Lib.cell_of_heap k1 2, Lib.cell_of_heap k1 3, (Array.getElem?_eq_some_iff.1 k0).1, (Array.getElem?_eq_some_iff.1 k1).1⟩
      have HXS : Hid (∀ W x, Below WX.heap.size WX W → (W.setCell ⟨w.heap.size, j, none⟩ x).cell? ⟨g, 0, none⟩ = some (.int .i64 z0) ∧ (W.setCell ⟨w.heap.size, j, none⟩ x).cell? ⟨g, 1, none⟩ = some (.int .i64 z1) ∧ (W.setCell ⟨w.heap.size, j, none⟩ x).cell? ⟨g, 2, none⟩ = some (.int .i64 z2) ∧ (W.setCell ⟨w.heap.size, j, none⟩ x).cell? ⟨g, 3, none⟩ = some (.int .i64 z3) ∧ (W.setCell ⟨w.heap.size, j, none⟩ x).cell? ⟨g, 4, none⟩ = some (.int .i64 z4) ∧ (W.setCell ⟨w.heap.size, j, none⟩ x).cell? ⟨g, 5, none⟩ = some (.int .i64 z5) ∧ (W.setCell ⟨w.heap.size, j, none⟩ x).cell? ⟨w2.heap.size, 0, none⟩ = some (.int .i64 a) ∧ (W.setCell ⟨w.heap.size, j, none⟩ x).cell? ⟨w2.heap.size, 1, none⟩ = some (.int .i64 p) ∧ (W.setCell ⟨w.heap.size, j, none⟩ x).cell? ⟨w2.heap.size, 2, none⟩ = some (.int .i64 b) ∧ (W.setCell ⟨w.heap.size, j, none⟩ x).cell? ⟨w2.heap.size, 3, none⟩ = some (.int .i64 q) ∧ g < (W.setCell ⟨w.heap.size, j, none⟩ x).heap.size ∧ w2.heap.size < (W.setCell ⟨w.heap.size, j, none⟩ x).heap.size) := by
        intro W x hW
        have k0 := (setCell_other' W w.heap.size j x g (by have := HGL.out; omega)).trans (HG.out W (HBR.out.trans ((belS hbx hW).mono HBR.out.size)))
        have k1 := (setCell_other' W w.heap.size j x w2.heap.size (by have := HSL.out; omega)).trans ((hW.block _ (Array.getElem?_eq_some_iff.1 hx0).1).trans hx0)
        exact ⟨Lib.cell_of_heap k0 0, Lib.cell_of_heap k0 1, Lib.cell_of_heap k0 2, Lib.cell_of_heap k0 3, Lib.cell_of_heap k0 4, Lib.cell_of_heap k0 5, Lib.cell_of_heap k1 0, Lib.cell_of_heap k1 1, Lib.cell_of_heap k1 2, Lib.cell_of_heap k1 3, (Array.getElem?_eq_some_iff.1 k0).1, (Array.getElem?_eq_some_iff.1 k1).1⟩
      rw [← hWX]
      clear hWX hx0 hbx
      go_wp2_with fail
      go_loopw [9] (fun iv wi => ∃ m : Nat, m ≤ 1 ∧ iv = .int .i64 m ∧ Hid (if m = 0 then Below WX.heap.size WX wi else (SetB wi w.heap.size N (fun k => decide (k < j + 1) && F k) ∧ Below w.heap.size w wi))) (fun iv _ => 1 - (intOf iv).toNat)
      case atStart => exact ⟨0, by omega, rfl, Below.refl _ _⟩
      case round =>
        obtain ⟨m, hm, rfl, HM⟩ := hrel
        by_cases hm0 : m = 0
        · subst hm0
          have HMB : Hid (Below WX.heap.size WX wr) := HM.out
          clear HM
          cases is with
          | false =>
            have HFF : Hid (F j = false) := by rw [Hid, HFj.out]; rfl
            go_wp2_with fail
            go_roundw
            case rel => exact ⟨j + 1, by have := HLT.out; omega, by go_num, (HSX.out.below HMB.out).congr (fun i => next_mark HFF.out i), HBR.out.trans ((belS HWX.out HMB.out).mono HBR.out.size)⟩
            case measure => simp [intOf]; have := HLT.out; omega
          | true =>
            have HFF : Hid (F j = kj) := by rw [Hid, HFj.out]; rfl
            have HSI := Lib.hid (HSX.out.below HMB.out)
            have y0 := HSI.out.cell j HLT.out
            rw [show (decide (j < j) && F j) = false by simp] at y0
            have yl := HSI.out.lt
            go_upto_region 9 with fail
            clear y0 yl
            refine wp_region_held_drew (S := fun W => W.cell? ⟨g, 0, none⟩ = some (.int .i64 z0) ∧ W.cell? ⟨g, 1, none⟩ = some (.int .i64 z1) ∧ W.cell? ⟨g, 2, none⟩ = some (.int .i64 z2) ∧ W.cell? ⟨g, 3, none⟩ = some (.int .i64 z3) ∧ W.cell? ⟨g, 4, none⟩ = some (.int .i64 z4) ∧ W.cell? ⟨g, 5, none⟩ = some (.int .i64 z5) ∧ W.cell? ⟨w2.heap.size, 0, none⟩ = some (.int .i64 a) ∧ W.cell? ⟨w2.heap.size, 1, none⟩ = some (.int .i64 p) ∧ W.cell? ⟨w2.heap.size, 2, none⟩ = some (.int .i64 b) ∧ W.cell? ⟨w2.heap.size, 3, none⟩ = some (.int .i64 q) ∧ g < W.heap.size ∧ w2.heap.size < W.heap.size) (by kernel_rfl) (HX.out _ HMB.out.drew) (fun hHeld => ?_)
            refine wpAnyH_take (i := 0) (v := ?_) rfl (by kernel_rfl) (by kernel_rfl) (by kernel_rfl) (fun _ _ _ h => h) (Or.inl ⟨by kernel_rfl, ?_⟩) (by assumption) ?_
            rotate_left
            · (intro w hSw; (try dsimp only at hSw); go_simp)
              try with_reducible rfl
            try simp only [Act.put, List.setIfInBounds_toArray, List.set_cons_zero, List.set_cons_succ, List.getElem_toArray, List.getElem_cons_zero]
            refine wpAnyH_take (i := 1) (v := ?_) rfl (by kernel_rfl) (by kernel_rfl) (by kernel_rfl) (fun _ _ _ h => h) (Or.inl ⟨by kernel_rfl, ?_⟩) (by assumption) ?_
            rotate_left
            · (intro w hSw; (try dsimp only at hSw); go_simp)
              try with_reducible rfl
            try simp only [Act.put, List.setIfInBounds_toArray, List.set_cons_zero, List.set_cons_succ, List.getElem_toArray, List.getElem_cons_zero, List.getElem_cons_succ]
            refine wpAnyH_take (i := 2) (v := ?_) rfl (by kernel_rfl) (by kernel_rfl) (by kernel_rfl) (fun _ _ _ h => h) (Or.inl ⟨by kernel_rfl, ?_⟩) (by assumption) ?_
            rotate_left
            · (intro w hSw; (try dsimp only at hSw); go_simp)
              try with_reducible rfl
            try simp only [Act.put, List.setIfInBounds_toArray, List.set_cons_zero, List.set_cons_succ, List.getElem_toArray, List.getElem_cons_zero, List.getElem_cons_succ]
            refine wpAnyH_take (i := 3) (v := ?_) rfl (by kernel_rfl) (by kernel_rfl) (by kernel_rfl) (fun _ _ _ h => h) (Or.inl ⟨by kernel_rfl, ?_⟩) (by assumption) ?_
            rotate_left
            · (intro w hSw; (try dsimp only at hSw); go_simp)
              try with_reducible rfl
            try simp only [Act.put, List.setIfInBounds_toArray, List.set_cons_zero, List.set_cons_succ, List.getElem_toArray, List.getElem_cons_zero, List.getElem_cons_succ]
            refine wpAnyH_take (i := 4) (v := ?_) rfl (by kernel_rfl) (by kernel_rfl) (by kernel_rfl) (fun _ _ _ h => h) (Or.inl ⟨by kernel_rfl, ?_⟩) (by assumption) ?_
            rotate_left
            · (intro w hSw; (try dsimp only at hSw); go_simp)
              try with_reducible rfl
            try simp only [Act.put, List.setIfInBounds_toArray, List.set_cons_zero, List.set_cons_succ, List.getElem_toArray, List.getElem_cons_zero, List.getElem_cons_succ]
            refine wpAnyH_take (i := 5) (v := ?_) rfl (by kernel_rfl) (by kernel_rfl) (by kernel_rfl) (fun _ _ _ h => h) (Or.inl ⟨by kernel_rfl, ?_⟩) (by assumption) ?_
            rotate_left
            · (intro w hSw; (try dsimp only at hSw); go_simp)
              try with_reducible rfl
            try simp only [Act.put, List.setIfInBounds_toArray, List.set_cons_zero, List.set_cons_succ, List.getElem_toArray, List.getElem_cons_zero, List.getElem_cons_succ]
            refine wpAnyH_take (i := 6) (v := ?_) rfl (by kernel_rfl) (by kernel_rfl) (by kernel_rfl) (fun _ _ _ h => h) (Or.inl ⟨by kernel_rfl, ?_⟩) (by assumption) ?_
            rotate_left
            · (intro w hSw; (try dsimp only at hSw); go_simp)
              try with_reducible rfl
            try simp only [Act.put, List.setIfInBounds_toArray, List.set_cons_zero, List.set_cons_succ, List.getElem_toArray, List.getElem_cons_zero, List.getElem_cons_succ]
            refine wpAnyH_ready (rs := [7]) (by kernel_rfl) (by simp) ?_
            refine AllReadyH.cons rfl (fun K hK => ?_) AllReadyH.nil
            go_simp
            go_at_call 47
            refine (HK _).out.mono ?_
            rintro e w5 ⟨rfl, hb5⟩
            have HB5 : Hid (Below WX.heap.size WX w5) := belS HMB.out.drew hb5
            clear hb5
            try dsimp only
            refine hK.out _ _ (HX.out _ HB5.out) (fun hHeld => ?_)
            clear hK K
            try simp only [Act.put, List.setIfInBounds_toArray, List.set_cons_zero, List.set_cons_succ, List.getElem_toArray, List.getElem_cons_zero, List.getElem_cons_succ]
            have HS5 := Lib.hid (HSX.out.below HB5.out)
            have u0 := HS5.out.cell j HLT.out
            have u1 := HS5.out.frozen j
            have u2 := HS5.out.lt
            refine wpAnyH_take (i := 8) (v := ?_) rfl (by kernel_rfl) (by kernel_rfl) (by kernel_rfl) (fun _ _ _ h => h) (Or.inl ⟨by kernel_rfl, ?_⟩) (by assumption) ?_
            rotate_left
            · (intro w hSw; (try dsimp only at hSw); go_simp)
              try with_reducible rfl
            try simp only [Act.put, List.setIfInBounds_toArray, List.set_cons_zero, List.set_cons_succ, List.getElem_toArray, List.getElem_cons_zero, List.getElem_cons_succ]
            refine wpAnyH_ready (rs := [9]) (by kernel_rfl) (by simp) ?_
            refine AllReadyH.cons rfl (fun K hK => ?_) AllReadyH.nil
            go_simp
            refine hK.out _ _ (HXS.out w5 _ HB5.out) (fun hHeld => ?_)
            clear hK K
            try simp only [Act.put, List.setIfInBounds_toArray, List.set_cons_zero, List.set_cons_succ]
            refine wpAnyH_done (by kernel_rfl) ?_ _
            clear hHeld
            clear u0 u1 u2
            go_wp2_with fail
            go_roundw
            case rel => exact ⟨1, by omega, rfl, HS5.out.set j kj (fun i => mark_set HFF.out i), (HBR.out.trans ((belS HWX.out HB5.out).mono HBR.out.size)).setCell (p := ⟨w.heap.size, j, none⟩) (by simp) _⟩
            case measure => simp [intOf]
        · obtain rfl : m = 1 := by omega
          have HMB : Hid (SetB wr w.heap.size N (fun k => decide (k < j + 1) && F k) ∧ Below w.heap.size w wr) := HM.out
          clear HM hm0
          go_wp2_with fail
          go_roundw
          case rel => exact ⟨j + 1, by have := HLT.out; omega, by go_num, HMB.out.1, HMB.out.2⟩
          case measure => simp [intOf]; have := HLT.out; omega
    · obtain rfl : j = N := by omega
      have HP := HPK wr w.heap.size HST.out.lt (fun k hk => by rw [HST.out.cell k hk, decide_eq_true hk, Bool.true_and])
      go_wp2_with fail
      refine HP.out.mono ?_
      rintro e w3 ⟨⟨v', rfl, hown⟩, hb3⟩
      have HO : Hid (OwnI w3 w.heap.size v' (numTo F j)) := hown.mono HBR.out.size
      have HB3 : Hid (Below w.heap.size w w3) := HBR.out.trans (hb3.mono HBR.out.size)
      obtain ⟨ax, cx, rfl⟩ := hown.shape
      clear hown hb3
      go_wp2_with fail
      all_goals go_ret
      all_goals exact ⟨⟨_, rfl, HO.out⟩, HB3.out⟩
end Go.Proofs.YtockinpjfhhkoaaGreatDoor

/- AtomsDoes: the law walked. (Printed by gen_dot.py.) -/
namespace Go.Proofs.YtockinpjfhhkoaaGreatDoor
open Go.RowKit Go.Shelf

theorem same_lists {f a e : Int} (hf : 0 ≤ f) (ha : f ≤ a) (he : a < e) (hm : e ≤ 288230376151711744) (N : Nat) :
    numTo (fun n => isR n e && keepsD 3 (matD (2 * e) (2 * (-f) + 1) (2 * e + 1) (2 * (-a)) (2 * (e - f) + 1) 0) [(0, 1), (pairR n e).1, (pairR n e).2]) N
      = numTo (fun n => isR n e && decide (f * (pairR n e).1.2 ≤ (pairR n e).1.1) && decide (a * (pairR n e).2.2 < (pairR n e).2.1)) N :=
  congrArg (List.map fun n : Nat => (n : Int)) (atom_list hf ha he hm N)
theorem numS_ex {w : World} {v : Value} {L M : List Int} (h : NumS w v L) (e : L = M) : NumS w v M := e ▸ h
set_option maxRecDepth 100000 in
set_option maxHeartbeats 16000000 in
theorem atomsDoes3_any (names : List ByteArray) (nv : Value) (hw0 : ∀ s ∈ names, s.size ≤ 281474976710656) (n : Nat) (t : FT n) (hbd : bndF n t) (v : Value) (on : Bool) (since at_ dur bits : Int) (w : World) (hb0 : 0 ≤ bits) (hb1 : bits ≤ 255) (hat : in64 at_) (hdu : in64 dur)
    (hr : Rdy w) (hn : NRep w w.heap.size nv names) (hf : FRep w w.heap.size n t v) :
    Calls Tryz.prog 3 #[nv, v, .agg #[.bool on, .int .i64 since], .int .i64 at_, .agg #[.int .i64 dur, .int .u8 bits]] w fun e w' => e = .returned (.bool true) ∧ Below w.heap.size w w' := by
  obtain ⟨k, s, fa, fl, fc, rfl⟩ := hf.shape
  obtain ⟨WB, hWWB⟩ : ∃ WB, WB = ((w.alloc (.cells #[.int .u8 k, .string s, .slice fa fl fc] 25)).alloc (.cells #[.bool on, .int .i64 since] 27)).alloc (.cells #[.int .i64 dur, .int .u8 bits] 29) := ⟨_, rfl⟩
  have hbWB : Below w.heap.size w WB := by rw [hWWB]; exact ((belowA _ _).alloc (by simp) _).alloc (by simp; omega) _
  have hx0 : WB.heap[w.heap.size]? = some (.cells #[.int .u8 k, .string s, .slice fa fl fc] 25 (0, 0)) := by rw [hWWB]; exact (Below.heap_alloc _ _ _ (by simp; omega)).trans ((Below.heap_alloc _ _ _ (by simp)).trans (hp_topA rfl))
  have hx1 : WB.heap[w.heap.size + 1]? = some (.cells #[.bool on, .int .i64 since] 27 (0, 0)) := by rw [hWWB]; exact (Below.heap_alloc _ _ _ (by simp)).trans (hp_topA (by simp))
  have hx2 : WB.heap[w.heap.size + 1 + 1]? = some (.cells #[.int .i64 dur, .int .u8 bits] 29 (0, 0)) := by rw [hWWB]; exact hp_topA (by simp)
  have HX : Hid (∀ W, Below WB.heap.size WB W → W.heap[w.heap.size]? = some (.cells #[.int .u8 k, .string s, .slice fa fl fc] 25 (0, 0)) ∧ W.heap[w.heap.size + 1]? = some (.cells #[.bool on, .int .i64 since] 27 (0, 0)) ∧ W.heap[w.heap.size + 1 + 1]? = some (.cells #[.int .i64 dur, .int .u8 bits] 29 (0, 0))) := fun W hW => ⟨(hW.block _ (Array.getElem?_eq_some_iff.1 hx0).1).trans hx0, (hW.block _ (Array.getElem?_eq_some_iff.1 hx1).1).trans hx1, (hW.block _ (Array.getElem?_eq_some_iff.1 hx2).1).trans hx2⟩
  have HF : Hid (∀ W, Below WB.heap.size WB W → W.cell? ⟨w.heap.size, 0, none⟩ = some (.int .u8 k) ∧ W.cell? ⟨w.heap.size, 1, none⟩ = some (.string s) ∧ W.cell? ⟨w.heap.size, 2, none⟩ = some (.slice fa fl fc) ∧ W.cell? ⟨w.heap.size + 1, 0, none⟩ = some (.bool on) ∧ W.cell? ⟨w.heap.size + 1, 1, none⟩ = some (.int .i64 since) ∧ W.cell? ⟨w.heap.size + 1 + 1, 0, none⟩ = some (.int .i64 dur) ∧ W.cell? ⟨w.heap.size + 1 + 1, 1, none⟩ = some (.int .u8 bits) ∧ w.heap.size < W.heap.size ∧ w.heap.size + 1 < W.heap.size ∧ w.heap.size + 1 + 1 < W.heap.size) := by
    intro W hW
    obtain ⟨k0, k1, k2⟩ := HX.out W hW
    exact ⟨Lib.cell_of_heap k0 0, Lib.cell_of_heap k0 1, Lib.cell_of_heap k0 2, Lib.cell_of_heap k1 0, Lib.cell_of_heap k1 1, Lib.cell_of_heap k2 0, Lib.cell_of_heap k2 1, (Array.getElem?_eq_some_iff.1 k0).1, (Array.getElem?_eq_some_iff.1 k1).1, (Array.getElem?_eq_some_iff.1 k2).1⟩
  have HBB := Lib.hid hbWB
  have HWB := Lib.hid hWWB.symm
  clear hWWB hbWB hx0 hx1 hx2
  have HBW : Hid (∀ W, Below WB.heap.size WB W → Below w.heap.size w W) := fun W h => HBB.out.trans (h.mono HBB.out.size)
  have HFR : Hid (∀ W, Below WB.heap.size WB W → FRep W W.heap.size n t (.agg #[.int .u8 k, .string s, .slice fa fl fc])) := fun W h => hf.up (HBW.out W h) (HBW.out W h).size
  have HNR : Hid (∀ W, Below WB.heap.size WB W → NRep W W.heap.size nv names) := fun W h => hn.up (HBW.out W h) (HBW.out W h).size
  have HRD : Hid (∀ W, Below WB.heap.size WB W → Rdy W) := fun W h => hr.below (HBW.out W h)
  have HGN : Hid (greatN names = false → ∀ s ∈ names, s.size ≤ 1048576) := fun h => greatN_not h hw0
  have HBI : Hid (0 ≤ bits ∧ bits ≤ 255) := ⟨hb0, hb1⟩
  have HAT := Lib.hid hat
  have HDU := Lib.hid hdu
  have HNF : Hid (decide (2000 < sizeF n t 2000) = false → (nF n t : Int) ≤ 1000000) := by
    intro h
    have h1 : sizeF n t 2000 ≤ 2000 := by simpa using h
    have h2 := (sizeF_le n t hbd 2000 (by omega) (by omega)).2.2 h1
    have h3 := nF_le n t
    omega
  clear hb0 hb1 hat hdu hr hn hf hw0 hbd
  go_enter Tryz.func3, Tryz.ntmps3
  go_upto_region 1 with fail
  rw [HWB.out]
  clear HWB
  obtain ⟨xf0, xf1, xf2, xf3, xf4, xf5, xf6, xf7, xf8, xf9⟩ := HF.out WB (Below.refl _ _)
  go_wp2_with fail
  refine (greatF12_any n t _ WB (HFR.out WB (Below.refl _ _))).mono ?_
  rintro e w1 ⟨rfl, hb1⟩
  have HB1 : Hid (Below WB.heap.size WB w1) := hb1
  clear hb1
  clear xf0 xf1 xf2 xf3 xf4 xf5 xf6 xf7 xf8 xf9
  obtain ⟨xf0, xf1, xf2, xf3, xf4, xf5, xf6, xf7, xf8, xf9⟩ := HF.out w1 (HB1.out)
  cases q1 : decide (2000 < sizeF n t 2000) with
  | true =>
    go_wp2_with fail
    all_goals go_ret
    all_goals exact ⟨rfl, HBW.out _ (HB1.out)⟩
  | false =>
  have HNF2 := Lib.hid (HNF.out q1)
  clear q1 HNF
  go_wp2_with fail
  refine (greatNames12_any names _ w1 (HNR.out w1 HB1.out)).mono ?_
  rintro e w2 ⟨rfl, hw2⟩
  obtain rfl := hw2.symm
  cases q3 : greatN names with
  | true =>
    go_wp2_with fail
    all_goals go_ret
    all_goals exact ⟨rfl, HBW.out _ (HB1.out)⟩
  | false =>
  have HG := Lib.hid (HGN.out q3)
  clear q3 HGN
  have HNX := Lib.hid (next14_any names nv HG.out n t _ on since at_ dur bits w1 HBI.out.1 HBI.out.2 HAT.out HDU.out (HRD.out w1 HB1.out) (HNR.out w1 HB1.out) (HFR.out w1 HB1.out))
  have HNY := fun W hW => Lib.hid (next15_any names nv HG.out n t (.agg #[.int .u8 k, .string s, .slice fa fl fc]) on since at_ dur bits W HBI.out.1 HBI.out.2 HAT.out HDU.out HNF2.out (HNR.out W hW) (HFR.out W hW))
  have HNY := Lib.hid HNY
  rcases next_shape names n t on since at_ dur bits with ⟨er, her, hsh⟩ | hsh | ⟨f, hsh, g1, g2, g3, g4, g5⟩
  · rw [hsh] at HNX
    clear her
    go_wp2_with fail
    refine HNX.out.mono ?_
    rintro e w3 ⟨⟨zv, rfl, rfl⟩, hb3⟩
    have HB3 : Hid (Below WB.heap.size WB w3) := belS HB1.out hb3
    clear hb3
    clear xf0 xf1 xf2 xf3 xf4 xf5 xf6 xf7 xf8 xf9
    go_upto_region 4 with fail
    obtain ⟨WC, hWC⟩ : ∃ WC, WC = w3.alloc (.cells #[.bool false, .int .i64 0] 27) := ⟨_, rfl⟩
    have hbc : Below WB.heap.size WB WC := by rw [hWC]; exact belA' HB3.out _
    have hx0 : WC.heap[w3.heap.size]? = some (.cells #[.bool false, .int .i64 0] 27 (0, 0)) := by rw [hWC]; exact hp_topA rfl
    have hlt3 : w3.heap.size < WC.heap.size := by rw [hWC]; simp
    have HBC := Lib.hid hbc
    have HLT3 := Lib.hid hlt3
    have HXC := Lib.hid hx0
    rw [← hWC]
    have hny := HNY.out WC HBC.out
    rw [hsh] at hny
    clear hWC hbc hx0 hlt3
    obtain ⟨xf0, xf1, xf2, xf3, xf4, xf5, xf6, xf7, xf8, xf9⟩ := HF.out WC (HBC.out)
    go_wp2_with fail
    refine hny.out.mono ?_
    rintro e w5 ⟨rfl, hb5⟩
    have HB5 : Hid (Below WC.heap.size WC w5) := hb5
    clear hb5 hny
    clear xf0 xf1 xf2 xf3 xf4 xf5 xf6 xf7 xf8 xf9
    go_upto_region 5 with fail
    obtain ⟨WD, hWD⟩ : ∃ WD, WD = w5.alloc (.cells #[.bool false, .int .i64 0] 27) := ⟨_, rfl⟩
    have hbd : Below WC.heap.size WC WD := by rw [hWD]; exact belA' HB5.out _
    have hx1 : WD.heap[w5.heap.size]? = some (.cells #[.bool false, .int .i64 0] 27 (0, 0)) := by rw [hWD]; exact hp_topA rfl
    have hx0 : WD.heap[w3.heap.size]? = some (.cells #[.bool false, .int .i64 0] 27 (0, 0)) := (hbd.block _ HLT3.out).trans HXC.out
    have HBD := Lib.hid hbd
    have HBE : Hid (Below WB.heap.size WB WD) := belS HBC.out hbd
    have HXD : Hid (∀ W, Below WD.heap.size WD W → W.cell? ⟨w5.heap.size, 0, none⟩ = some (.bool false) ∧ W.cell? ⟨w5.heap.size, 1, none⟩ = some (.int .i64 0) ∧ w5.heap.size < W.heap.size) := fun W hW => by
      have k0 := (hW.block _ (Array.getElem?_eq_some_iff.1 hx1).1).trans hx1
      exact ⟨Lib.cell_of_heap k0 0, Lib.cell_of_heap k0 1, (Array.getElem?_eq_some_iff.1 k0).1⟩
    obtain ⟨g0, g1, g2⟩ := HXD.out WD (Below.refl _ _)
    have g3 := Lib.cell_of_heap hx0 0
    have g4 := Lib.cell_of_heap hx0 1
    have g5 := (Array.getElem?_eq_some_iff.1 hx0).1
    simp only [List.getElem?_toArray, List.getElem?_cons_zero, List.getElem?_cons_succ] at g3 g4
    rw [← hWD]
    clear hWD hbd hx0 hx1
    obtain ⟨xf0, xf1, xf2, xf3, xf4, xf5, xf6, xf7, xf8, xf9⟩ := HF.out WD (HBE.out)
    clear hsh
    go_wp2_with fail
    all_goals go_ret
    all_goals exact ⟨rfl, HBW.out _ (HBE.out)⟩
  · rw [hsh] at HNX
    go_wp2_with fail
    refine HNX.out.mono ?_
    rintro e w3 ⟨⟨zv, rfl, rfl⟩, hb3⟩
    have HB3 : Hid (Below WB.heap.size WB w3) := belS HB1.out hb3
    clear hb3
    clear xf0 xf1 xf2 xf3 xf4 xf5 xf6 xf7 xf8 xf9
    go_upto_region 4 with fail
    obtain ⟨WC, hWC⟩ : ∃ WC, WC = w3.alloc (.cells #[.bool false, .int .i64 0] 27) := ⟨_, rfl⟩
    have hbc : Below WB.heap.size WB WC := by rw [hWC]; exact belA' HB3.out _
    have hx0 : WC.heap[w3.heap.size]? = some (.cells #[.bool false, .int .i64 0] 27 (0, 0)) := by rw [hWC]; exact hp_topA rfl
    have hlt3 : w3.heap.size < WC.heap.size := by rw [hWC]; simp
    have HBC := Lib.hid hbc
    have HLT3 := Lib.hid hlt3
    have HXC := Lib.hid hx0
    rw [← hWC]
    have hny := HNY.out WC HBC.out
    rw [hsh] at hny
    clear hWC hbc hx0 hlt3
    obtain ⟨xf0, xf1, xf2, xf3, xf4, xf5, xf6, xf7, xf8, xf9⟩ := HF.out WC (HBC.out)
    go_wp2_with fail
    refine hny.out.mono ?_
    rintro e w5 ⟨rfl, hb5⟩
    have HB5 : Hid (Below WC.heap.size WC w5) := hb5
    clear hb5 hny
    clear xf0 xf1 xf2 xf3 xf4 xf5 xf6 xf7 xf8 xf9
    go_upto_region 5 with fail
    obtain ⟨WD, hWD⟩ : ∃ WD, WD = w5.alloc (.cells #[.bool false, .int .i64 0] 27) := ⟨_, rfl⟩
    have hbd : Below WC.heap.size WC WD := by rw [hWD]; exact belA' HB5.out _
    have hx1 : WD.heap[w5.heap.size]? = some (.cells #[.bool false, .int .i64 0] 27 (0, 0)) := by rw [hWD]; exact hp_topA rfl
    have hx0 : WD.heap[w3.heap.size]? = some (.cells #[.bool false, .int .i64 0] 27 (0, 0)) := (hbd.block _ HLT3.out).trans HXC.out
    have HBD := Lib.hid hbd
    have HBE : Hid (Below WB.heap.size WB WD) := belS HBC.out hbd
    have HXD : Hid (∀ W, Below WD.heap.size WD W → W.cell? ⟨w5.heap.size, 0, none⟩ = some (.bool false) ∧ W.cell? ⟨w5.heap.size, 1, none⟩ = some (.int .i64 0) ∧ w5.heap.size < W.heap.size) := fun W hW => by
      have k0 := (hW.block _ (Array.getElem?_eq_some_iff.1 hx1).1).trans hx1
      exact ⟨Lib.cell_of_heap k0 0, Lib.cell_of_heap k0 1, (Array.getElem?_eq_some_iff.1 k0).1⟩
    obtain ⟨g0, g1, g2⟩ := HXD.out WD (Below.refl _ _)
    have g3 := Lib.cell_of_heap hx0 0
    have g4 := Lib.cell_of_heap hx0 1
    have g5 := (Array.getElem?_eq_some_iff.1 hx0).1
    simp only [List.getElem?_toArray, List.getElem?_cons_zero, List.getElem?_cons_succ] at g3 g4
    rw [← hWD]
    clear hWD hbd hx0 hx1
    obtain ⟨xf0, xf1, xf2, xf3, xf4, xf5, xf6, xf7, xf8, xf9⟩ := HF.out WD (HBE.out)
    clear hsh
    go_wp2_with fail
    all_goals go_ret
    all_goals exact ⟨rfl, HBW.out _ (HBE.out)⟩
  · rw [hsh] at HNX
    have HFS := Lib.hid (And.intro g1 (And.intro g2 (And.intro g3 g4)))
    clear g1 g2 g3 g4 g5
    go_wp2_with fail
    refine HNX.out.mono ?_
    rintro e w3 ⟨⟨zv, rfl, b, rfl, hbB, hb⟩, hb3⟩
    have HB3 : Hid (Below WB.heap.size WB w3) := belS HB1.out hb3
    clear hb3
    clear xf0 xf1 xf2 xf3 xf4 xf5 xf6 xf7 xf8 xf9
    go_upto_region 4 with fail
    obtain ⟨WC, hWC⟩ : ∃ WC, WC = w3.alloc (.cells #[.bool true, .int .i64 f] 27) := ⟨_, rfl⟩
    have hbc : Below WB.heap.size WB WC := by rw [hWC]; exact belA' HB3.out _
    have hx0 : WC.heap[w3.heap.size]? = some (.cells #[.bool true, .int .i64 f] 27 (0, 0)) := by rw [hWC]; exact hp_topA rfl
    have hlt3 : w3.heap.size < WC.heap.size := by rw [hWC]; simp
    have HZC : Hid (WC.heap[b]? = some (.cells (zonD (atomM f at_ (at_ + dur))) 69 (0, 0))) := by rw [Hid, hWC]; exact (Below.heap_alloc _ _ _ (Array.getElem?_eq_some_iff.1 hb).1).trans hb
    clear hb
    have HBC := Lib.hid hbc
    have HLT3 := Lib.hid hlt3
    have HXC := Lib.hid hx0
    rw [← hWC]
    have hny := HNY.out WC HBC.out
    rw [hsh] at hny
    clear hWC hbc hx0 hlt3
    obtain ⟨xf0, xf1, xf2, xf3, xf4, xf5, xf6, xf7, xf8, xf9⟩ := HF.out WC (HBC.out)
    go_wp2_with fail
    refine hny.out.mono ?_
    rintro e w5 ⟨rfl, hb5⟩
    have HB5 : Hid (Below WC.heap.size WC w5) := hb5
    clear hb5 hny
    clear xf0 xf1 xf2 xf3 xf4 xf5 xf6 xf7 xf8 xf9
    go_upto_region 5 with fail
    obtain ⟨WD, hWD⟩ : ∃ WD, WD = w5.alloc (.cells #[.bool true, .int .i64 f] 27) := ⟨_, rfl⟩
    have hbd : Below WC.heap.size WC WD := by rw [hWD]; exact belA' HB5.out _
    have hx1 : WD.heap[w5.heap.size]? = some (.cells #[.bool true, .int .i64 f] 27 (0, 0)) := by rw [hWD]; exact hp_topA rfl
    have hx0 : WD.heap[w3.heap.size]? = some (.cells #[.bool true, .int .i64 f] 27 (0, 0)) := (hbd.block _ HLT3.out).trans HXC.out
    have HBD := Lib.hid hbd
    have HBE : Hid (Below WB.heap.size WB WD) := belS HBC.out hbd
    have HXD : Hid (∀ W, Below WD.heap.size WD W → W.cell? ⟨w5.heap.size, 0, none⟩ = some (.bool true) ∧ W.cell? ⟨w5.heap.size, 1, none⟩ = some (.int .i64 f) ∧ w5.heap.size < W.heap.size) := fun W hW => by
      have k0 := (hW.block _ (Array.getElem?_eq_some_iff.1 hx1).1).trans hx1
      exact ⟨Lib.cell_of_heap k0 0, Lib.cell_of_heap k0 1, (Array.getElem?_eq_some_iff.1 k0).1⟩
    obtain ⟨g0, g1, g2⟩ := HXD.out WD (Below.refl _ _)
    have g3 := Lib.cell_of_heap hx0 0
    have g4 := Lib.cell_of_heap hx0 1
    have g5 := (Array.getElem?_eq_some_iff.1 hx0).1
    simp only [List.getElem?_toArray, List.getElem?_cons_zero, List.getElem?_cons_succ] at g3 g4
    rw [← hWD]
    clear hWD hbd hx0 hx1
    obtain ⟨xf0, xf1, xf2, xf3, xf4, xf5, xf6, xf7, xf8, xf9⟩ := HF.out WD (HBE.out)
    clear hsh
    obtain ⟨to_, hto⟩ : ∃ to_, at_ + dur = to_ := ⟨_, rfl⟩
    rw [hto] at HZC HFS
    have v1 : IntKind.i64.wrap (at_ + dur) = to_ := by rw [hto]; exact IntWalk.i64_in _ (by have := HFS.out; omega)
    have v1' : wrap64 (at_ + dur) = to_ := by rw [hto]; exact IntWalk.wrap64_in _ (by have := HFS.out; omega)
    clear hto
    cases q5 : decide (6 < to_) with
    | true =>
      go_wp2_with fail
      all_goals go_ret
      all_goals exact ⟨rfl, HBW.out _ (HBE.out)⟩
    | false =>
    have HT6 : Hid (to_ ≤ 6) := by rw [Hid]; simpa using q5
    have hco := count_in (t := to_) (by have := HFS.out; omega) HT6.out
    obtain ⟨N, hN⟩ : ∃ N : Nat, 3 * (2 * to_ + 1) * (2 * to_ + 1) = (N : Int) := ⟨(3 * (2 * to_ + 1) * (2 * to_ + 1)).toNat, by omega⟩
    have HN := Lib.hid hN
    have HNB : Hid (N ≤ 507) := by rw [Hid]; omega
    clear hN hco
    have hfs := HFS.out
    have HLI := fun W hW c => Lib.hid (list16_any (g := b) (c := c) (z0 := 2 * to_) (z1 := 2 * (-f) + 1) (z2 := 2 * to_ + 1) (z3 := 2 * (-at_)) (z4 := 2 * (to_ - f) + 1) (z5 := 0) to_ W N HN.out (by omega) HT6.out (atom_bad hfs.1 hfs.2.1 hfs.2.2.1 hfs.2.2.2) hW)
    have HLI := Lib.hid HLI
    have HMA := fun W => Lib.hid (matches17_any f at_ to_ W N HN.out hfs.1 (by have := HT6.out; omega) (by omega) (by have := HT6.out; omega) (by omega) HT6.out)
    have HEQ := Lib.hid (same_lists hfs.1 hfs.2.1 hfs.2.2.1 hfs.2.2.2 N)
    have HZD : Hid (WD.heap[b]? = some (.cells (zonD (atomM f at_ to_)) 69 (0, 0))) := (HBD.out.block _ (Array.getElem?_eq_some_iff.1 HZC.out).1).trans HZC.out
    clear hfs
    go_wp2_with fail
    refine (HLI.out WD HZD.out _).out.mono ?_
    rintro e w6 ⟨⟨u1, rfl, hu1⟩, hb6⟩
    have HB6 : Hid (Below WD.heap.size WD w6) := hb6
    have HU1 := Lib.hid hu1
    clear hb6 hu1 g0 g1 g2 g3 g4 g5
    clear xf0 xf1 xf2 xf3 xf4 xf5 xf6 xf7 xf8 xf9
    obtain ⟨xf0, xf1, xf2, xf3, xf4, xf5, xf6, xf7, xf8, xf9⟩ := HF.out w6 (belS HBE.out HB6.out)
    obtain ⟨g0, g1, g2⟩ := HXD.out w6 HB6.out
    go_wp2_with fail
    refine (HMA w6).out.mono ?_
    rintro e w7 ⟨⟨u2, rfl, hu2⟩, hb7⟩
    have HB7 : Hid (Below w6.heap.size w6 w7) := hb7
    have HU2 := Lib.hid hu2
    clear hb7 hu2 g0 g1 g2
    clear xf0 xf1 xf2 xf3 xf4 xf5 xf6 xf7 xf8 xf9
    have hs1 : NumS w7 u1 (numTo (fun n => isR n to_ && decide (f * (pairR n to_).1.2 ≤ (pairR n to_).1.1) && decide (at_ * (pairR n to_).2.2 < (pairR n to_).2.1)) N) := numS_ex (HU1.out.below HB7.out).num HEQ.out
    have hs2 := HU2.out.num
    have hsm := same18_any u1 u2 _ _ w7 hs1 hs2 (Nat.le_trans (numTo_len _ _) (by have := HNB.out; omega)) (Nat.le_trans (numTo_len _ _) (by have := HNB.out; omega))
    rw [decide_eq_true rfl] at hsm
    have HSM := Lib.hid hsm
    obtain ⟨a1, c1, rfl⟩ := HU1.out.shape
    obtain ⟨a2, c2, rfl⟩ := HU2.out.shape
    clear hs1 hs2 hsm
    go_wp2_with fail
    refine HSM.out.mono ?_
    rintro e w8 ⟨rfl, hb8⟩
    have HB8 := Lib.hid hb8
    clear hb8
    go_wp2_with fail
    all_goals go_ret
    all_goals exact ⟨rfl, HBW.out _ (belS HBE.out (belS HB6.out (belS HB7.out HB8.out)))⟩
end Go.Proofs.YtockinpjfhhkoaaGreatDoor
