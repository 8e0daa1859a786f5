/- For any two proofs of matches, the law WitnessSame answers true and leaves both as they were: no condition. -/
import Derived.Test.YtnpaoekblfflmaaBase
import Derived.Test.YtnpaoekblfflmaaWitF
import Derived.Lib.SmallJoins
namespace Go.Proofs.Ytnpaoekblfflmaa
open Go.ChangeShapes Go.WideShapes Go.ChangeAt Go.RowKit Go.Joins

theorem Try.own : ownKnob Try.prog.godebug = none := by kernel_rfl
theorem Try.laidOut : laidOutB Try.prog = true := by kernel_rfl
theorem Try.cells25 : Try.prog.cellsOf 25 = 4 := by kernel_rfl
theorem Try.cells62 : Try.prog.cellsOf 62 = 2 := by kernel_rfl
theorem Try.cells3 : Try.prog.cellsOf 3 = 1 := by kernel_rfl
theorem Try.cells5 : Try.prog.cellsOf 5 = 1 := by kernel_rfl
theorem Try.cells22 : Try.prog.cellsOf 22 = 1 := by kernel_rfl
theorem Try.cells23 : Try.prog.cellsOf 23 = 1 := by kernel_rfl

section
variable {H : Type} {enc : TypeId × Value → H} {w : World} {base : Nat} {spare : Nat → Bool} {held : Bool}

theorem open_rat {fuel : Nat} {cs : List Value} {x : DataW H × List MemPlace} (h : DataW.trod enc Try.prog w base spare held fuel 62 cs = some x) : ∃ a b, cs = [.int .i64 a, .int .i64 b] := by
  obtain ⟨xs, n, _, _, hl, hx, hf⟩ := DataW.trod_struct Try.underlying62 h
  rw [Try.cells62] at hl
  match cs, hl with
  | [c0, c1], _ =>
    have h0 := hf 0 _ rfl
    have h1 := hf 1 _ rfl
    match xs, hx with
    | [y0, y1], _ =>
      obtain ⟨a, e0, _⟩ := DataW.trod_int (k := .i64) Try.underlying3 (by simpa [Try.cells3] using h0)
      obtain ⟨b, e1, _⟩ := DataW.trod_int (k := .i64) Try.underlying3 (by simpa [Try.cells3] using h1)
      simp at e0 e1
      exact ⟨a, b, by rw [e0, e1]⟩

theorem open_rats {fuel : Nat} {cs : List Value} {x : DataW H × List MemPlace} (h : DataW.trod enc Try.prog w base spare held fuel 22 cs = some x) : ∃ v l, cs = [v] ∧ RatsRep w w.heap.size v l := by
  obtain ⟨a, len, cap, rfl, hm, hc⟩ := slice_read Try.underlying22 Try.cells62 (by omega) h
  rcases hc with rfl | ⟨b, off, rfl, hb, hc⟩
  · exact ⟨_, [], rfl, a, cap, rfl, by simp, .inl rfl⟩
  · have key : ∀ i : Fin len, ∃ p : Int × Int, w.cell? ⟨b, off + i.1 * 2, none⟩ = some (.int .i64 p.1) ∧ w.cell? ⟨b, off + i.1 * 2 + 1, none⟩ = some (.int .i64 p.2) := fun i => by
      obtain ⟨cs', y, h1, h2, h3⟩ := hc i.1 i.2
      obtain ⟨p, q, rfl⟩ := open_rat h3
      exact ⟨(p, q), h2 0 (by omega), h2 1 (by omega)⟩
    refine ⟨_, List.ofFn fun i => Classical.choose (key i), rfl, some ⟨b, off, none⟩, cap, by simp, by simpa using hm, .inr ⟨b, off, rfl, hb, fun i hi => ?_⟩⟩
    have := Classical.choose_spec (key ⟨i, by simpa using hi⟩)
    simpa using this

theorem open_proof (n : Nat) : ∀ (fuel : Nat) (cs : List Value) (x : DataW H × List MemPlace), fuel ≤ 2 * n → DataW.trod enc Try.prog w base spare held fuel 25 cs = some x → ∃ t : PT n, PRep w w.heap.size n t (.agg cs.toArray) := by
  induction n with
  | zero =>
    intro fuel cs x hf h
    obtain rfl : fuel = 0 := by omega
    simp [DataW.trod] at h
  | succ n ih =>
    intro fuel cs x hfu h
    obtain ⟨xs, m, rfl, _, hl, hx, hf⟩ := DataW.trod_struct Try.underlying25 h
    rw [Try.cells25] at hl
    match cs, hl with
    | [c0, c1, c2, c3], _ =>
      match xs, hx with
      | [y0, y1, y2, y3], _ =>
        have h0 := hf 0 _ rfl
        have h1 := hf 1 _ rfl
        have h2 := hf 2 _ rfl
        have h3 := hf 3 _ rfl
        simp [Try.cells5, Try.cells22, Try.cells23] at h0 h1 h2 h3
        obtain ⟨a, e0, _⟩ := DataW.trod_int (k := .u8) Try.underlying5 h0
        obtain ⟨b, e1, _⟩ := DataW.trod_int (k := .u8) Try.underlying5 h1
        obtain ⟨v2, ats, e2, hr⟩ := open_rats h2
        obtain ⟨sa, len, cap, e3, hm, hc⟩ := slice_read Try.underlying23 Try.cells25 (by omega) h3
        simp at e0 e1 e2 e3
        subst e0 e1 e2 e3
        rcases hc with rfl | ⟨bb, off, rfl, hb, hc⟩
        · exact ⟨(a, b, ats, []), _, sa, cap, rfl, by simp, hr, .inl rfl⟩
        · have key : ∀ i : Fin len, ∃ t : PT n, ∃ v0 v1 v2 v3, w.cell? ⟨bb, off + i.1 * 4, none⟩ = some v0 ∧ w.cell? ⟨bb, off + i.1 * 4 + 1, none⟩ = some v1 ∧
              w.cell? ⟨bb, off + i.1 * 4 + 2, none⟩ = some v2 ∧ w.cell? ⟨bb, off + i.1 * 4 + 3, none⟩ = some v3 ∧ PRep w w.heap.size n t (.agg #[v0, v1, v2, v3]) := fun i => by
            obtain ⟨cs', y, g1, g2, g3⟩ := hc i.1 i.2
            obtain ⟨t, ht⟩ := ih _ _ _ (by omega) g3
            match cs', g1 with
            | [z0, z1, z2, z3], _ => exact ⟨t, z0, z1, z2, z3, g2 0 (by omega), g2 1 (by omega), g2 2 (by omega), g2 3 (by omega), ht⟩
          refine ⟨(a, b, ats, List.ofFn fun i => Classical.choose (key i)), _, some ⟨bb, off, none⟩, cap, by simp, by simpa using hm, hr, .inr ⟨bb, off, rfl, hb, fun i hi => ?_⟩⟩
          have := Classical.choose_spec (key ⟨i, by simpa using hi⟩)
          simpa using this
end

theorem agg_of_cells {v : Value} {cs : Array Value} (h : v = .agg cs) : Value.agg v.cells.toList.toArray = v := by rw [h]; rfl

set_option maxRecDepth 100000 in
theorem witnessSame_lifted (os : Os) (started : os.Started) (H : Type) (enc : TypeId × Value → H) :
    ReturnsInHanded {} Try.checked os 3 .any (Rows.witnessSameSpec.pre6 enc Try.prog Try.f3 Rows.witnessSameRow.domain false) (Rows.witnessSameSpec.post enc Try.prog Try.f3 false true false false) := by
  refine returnsInHanded_of_change (C := Try.checked) Try.own started (by kernel_rfl) Try.func3
    (ChangeSpec.witness6 (enc := enc) (C := Try.checked) false ⟨#[], #[.agg #[.int .u8 0, .int .u8 0, .slice none 0 0, .slice none 0 0], .agg #[.int .u8 0, .int .u8 0, .slice none 0 0, .slice none 0 0]], []⟩ 8 (by kernel_rfl) (by kernel_rfl) (by kernel_rfl) (by kernel_rfl)) ?_
  intro W base args ds gs before hval0 hW _ _
  have hval : ∀ (j : Nat) t v, Try.f3.params[j]? = some t → args[j]? = some v → Value.okWide Try.prog W .any base t v := hval0
  have hW' := hW
  obtain ⟨p, q, hA0, hV, rfl, hfz, hnd⟩ := hW
  have hA : DataW.TrodAll enc Try.prog W 0 (fun _ => true) true Try.f3.params.toList args.toList ds p := hA0
  rw [Try.params3] at hA hval
  obtain ⟨v0, v1, d0, d1, p0, p1, rfl, rfl, rfl, h0, h1⟩ := trodAll_two hA
  obtain ⟨rfl, rfl⟩ := trodVars_none hV
  obtain ⟨f0, hf0⟩ := h0
  obtain ⟨f1, hf1⟩ := h1
  obtain ⟨c0, e0, _⟩ := okWide_struct Try.underlying25 (hval 0 25 v0 rfl rfl)
  obtain ⟨c1, e1, _⟩ := okWide_struct Try.underlying25 (hval 1 25 v1 rfl rfl)
  obtain ⟨t0, ht0⟩ := open_proof (max f0 f1) f0 _ _ (by omega) hf0
  obtain ⟨t1, ht1⟩ := open_proof (max f0 f1) f1 _ _ (by omega) hf1
  rw [agg_of_cells e0] at ht0
  rw [agg_of_cells e1] at ht1
  refine (law_any _ t0 t1 v0 v1 W _ ht0 ht1 (Nat.le_refl _)).mono fun e W' ⟨he, hb⟩ => ?_
  exact ⟨_, he, law_post Try.laidOut (by rw [Try.params3]; intro t ht; simp at ht; subst ht; exact ⟨by kernel_rfl, of_decide_eq_true (by kernel_rfl)⟩) rfl rfl Try.underlying4 hW' rfl hb⟩

theorem witnessSame_holds : Rows.WitnessSameSaid :=
  OpenClaim.holds_of_wide 3 Try.f3 rfl rfl rfl rfl rfl rfl rfl ⟨rfl, rfl, rfl, rfl, rfl⟩ rfl rfl rfl rfl rfl (by kernel_rfl) Try.func3 (by kernel_rfl)
    (of_decide_eq_true (by kernel_rfl)) (by unfold Func.isWrapper; first | (rw [if_pos (by decide +kernel)]; kernel_rfl) | (rw [if_neg (by decide +kernel)]; exact ⟨rfl, rfl⟩))
    (fun os started H enc _ => witnessSame_lifted os started H enc)

end Go.Proofs.Ytnpaoekblfflmaa
