/- A signal that came in, read. -/
import Derived.Test.YtnpaoekblfflmaaBase
import Derived.Test.YtnpaoekblfflmaaSigL
import Derived.Lib.SmallJoins
namespace Go.Proofs.Ytnpaoekblfflmaa
open Go.ChangeShapes Go.WideShapes Go.ChangeAt Go.RowKit Go.Joins

theorem Try.own : ownKnob Try.prog.godebug = none := by kernel_rfl
theorem Try.laidOut : laidOutB Try.prog = true := by kernel_rfl
theorem Try.cells39 : Try.prog.cellsOf 39 = 2 := by kernel_rfl
theorem Try.cells3 : Try.prog.cellsOf 3 = 1 := by kernel_rfl
theorem Try.cells5 : Try.prog.cellsOf 5 = 1 := by kernel_rfl

theorem wf_i64 {n : Int} (h : (Lit.int .i64 n).wf = true) : -9223372036854775808 ≤ n ∧ n ≤ 9223372036854775807 := by
  simp [Lit.wf] at h
  exact h
theorem wf_u8 {n : Int} (h : (Lit.int .u8 n).wf = true) : 0 ≤ n ∧ n ≤ 255 := by
  simp [Lit.wf] at h
  exact h

section
variable {H : Type} {enc : TypeId × Value → H} {w : World} {base : Nat} {spare : Nat → Bool} {held : Bool}

theorem open_seg {fuel : Nat} {cs : List Value} {x : DataW H × List MemPlace} (h : DataW.trod enc Try.prog w base spare held fuel 39 cs = some x) : ∃ s : Int × Int, cs = [.int .i64 s.1, .int .u8 s.2] ∧ InR s := by
  obtain ⟨xs, n, _, _, hl, hx, hf⟩ := DataW.trod_struct Try.underlying39 h
  rw [Try.cells39] at hl
  match cs, hl with
  | [c0, c1], _ =>
    have h0 := hf 0 _ rfl
    have h1 := hf 1 _ rfl
    match xs, hx with
    | [y0, y1], _ =>
      obtain ⟨a, e0, _, wa⟩ := DataW.trod_int (k := .i64) Try.underlying3 (by simpa [Try.cells3] using h0)
      obtain ⟨b, e1, _, wb⟩ := DataW.trod_int (k := .u8) Try.underlying5 (by simpa [Try.cells3, Try.cells5] using h1)
      simp at e0 e1
      exact ⟨(a, b), by rw [e0, e1], (wf_i64 wa).1, (wf_i64 wa).2, (wf_u8 wb).1, (wf_u8 wb).2⟩

theorem open_segs {v : Value} {d : DataW H} {ps : List MemPlace} {W : World} {r : Reach} {b0 : Nat} (hval : Value.okWide Try.prog W r b0 29 v) (h : DataW.Trod enc Try.prog w base spare held 29 v d ps) : ∃ l, Segs w w.heap.size v l := by
  obtain ⟨fuel, h⟩ := h
  obtain ⟨a, len, cap, hv, hm, hc⟩ := slice_read Try.underlying29 Try.cells39 (by omega) h
  have hv' : v = .slice a len cap := by
    obtain ⟨a', len', cap', rfl⟩ := okWide_slice Try.underlying29 hval
    simpa [Value.cells] using hv
  subst hv'
  rcases hc with rfl | ⟨b, off, rfl, hb, hc⟩
  · exact ⟨[], a, cap, rfl, by simp, .inl rfl, by simp⟩
  · have key : ∀ i : Fin len, ∃ p : Int × Int, w.cell? ⟨b, off + i.1 * 2, none⟩ = some (.int .i64 p.1) ∧ w.cell? ⟨b, off + i.1 * 2 + 1, none⟩ = some (.int .u8 p.2) ∧ InR p := fun i => by
      obtain ⟨cs', y, h1, h2, h3⟩ := hc i.1 i.2
      obtain ⟨p, rfl, hp⟩ := open_seg h3
      exact ⟨p, h2 0 (by omega), h2 1 (by omega), hp⟩
    refine ⟨List.ofFn fun i => Classical.choose (key i), some ⟨b, off, none⟩, cap, by simp, by simpa using hm, .inr ⟨b, off, rfl, hb, fun i hi => ?_⟩, ?_⟩
    · have := Classical.choose_spec (key ⟨i, by simpa using hi⟩)
      have hi' : i < len := by simpa using hi
      exact ⟨by simpa [hi'] using this.1, by simpa [hi'] using this.2.1⟩
    · intro s hs
      rw [List.mem_ofFn] at hs
      obtain ⟨i, rfl⟩ := hs
      exact (Classical.choose_spec (key i)).2.2
end

set_option maxRecDepth 100000 in
theorem signalTells_lifted (os : Os) (started : os.Started) (H : Type) (enc : TypeId × Value → H) :
    ReturnsInHanded {} Try.checked os 5 .any (Rows.signalTellsSpec.pre6 enc Try.prog Try.f5 Rows.signalTellsRow.domain false) (Rows.signalTellsSpec.post enc Try.prog Try.f5 false true false false) := by
  refine returnsInHanded_of_change (C := Try.checked) Try.own started (by kernel_rfl) Try.func5
    (ChangeSpec.witness6 (enc := enc) (C := Try.checked) false ⟨#[], #[.int .i64 0, .slice none 0 0, .slice none 0 0, .int .i64 0], []⟩ 8 (by kernel_rfl) (by kernel_rfl) (by kernel_rfl) (by kernel_rfl)) ?_
  intro W base args ds gs before hval0 hW _ _
  have hval : ∀ (j : Nat) t v, Try.f5.params[j]? = some t → args[j]? = some v → Value.okWide Try.prog W .any base t v := hval0
  have hW' := hW
  obtain ⟨p, q, hA0, hV, rfl, hfz, hnd⟩ := hW
  have hA : DataW.TrodAll enc Try.prog W 0 (fun _ => true) true Try.f5.params.toList args.toList ds p := hA0
  rw [Try.params5] at hA hval
  obtain ⟨v0, v1, v2, v3, d0, d1, d2, d3, p0, p1, p2, p3, rfl, rfl, rfl, h0, h1, h2, h3⟩ := trodAll_four hA
  obtain ⟨rfl, rfl⟩ := trodVars_none hV
  obtain ⟨n, rfl, _, _, wn⟩ := open_int Try.underlying3 (hval 0 3 v0 rfl rfl) h0
  obtain ⟨l, hl⟩ := open_segs (hval 1 29 v1 rfl rfl) h1
  obtain ⟨r, hr⟩ := open_segs (hval 2 29 v2 rfl rfl) h2
  obtain ⟨m, rfl, _, _, wm⟩ := open_int Try.underlying3 (hval 3 3 v3 rfl rfl) h3
  refine (tells_any n m v1 v2 l r W hl hr (wf_i64 wm).2).mono fun e W' ⟨he, hb⟩ => ?_
  exact ⟨_, he, law_post Try.laidOut (by rw [Try.params5]; intro t ht; simp at ht; rcases ht with rfl | rfl | rfl <;> exact ⟨by kernel_rfl, of_decide_eq_true (by kernel_rfl)⟩) rfl rfl Try.underlying4 hW' rfl hb⟩

theorem signalTells_holds : Rows.SignalTellsSaid :=
  OpenClaim.holds_of_wide 5 Try.f5 rfl rfl rfl rfl rfl rfl rfl ⟨rfl, rfl, rfl, rfl, rfl⟩ rfl rfl rfl rfl rfl (by kernel_rfl) Try.func5 (by kernel_rfl)
    (of_decide_eq_true (by kernel_rfl)) (by unfold Func.isWrapper; first | (rw [if_pos (by decide +kernel)]; kernel_rfl) | (rw [if_neg (by decide +kernel)]; exact ⟨rfl, rfl⟩))
    (fun os started H enc _ => signalTells_lifted os started H enc)

end Go.Proofs.Ytnpaoekblfflmaa
