/- Tokens that came in, read: a slice of them, one of them; how long their texts are. -/
import Derived.SizedLaws
import Derived.Test.YtipbgaiaoahnmaaDoorBase
namespace Go.Proofs.YtipbgaiaoahnmaaDoor
open Go.ChangeShapes Go.WideShapes Go.ChangeAt Go.RowKit Go.Joins

theorem Tryd.bytes27 : Tryd.prog.bytesOf 27 = 32 := by kernel_rfl
section
variable {H : Type} {enc : TypeId × Value → H} {w : World} {base : Nat} {spare : Nat → Bool} {held : Bool}

theorem weightsAll_in {P : Program} {e : TypeId} : ∀ {l : List (DataW H)} {d : DataW H}, d ∈ l → ∀ n ∈ d.weights P e, n ∈ DataW.weightsAll P e l
  | d' :: r, d, hd, n, hn => by
    simp only [DataW.weightsAll, List.mem_append]
    rcases List.mem_cons.1 hd with rfl | h
    · exact Or.inl hn
    · exact Or.inr (weightsAll_in h n hn)

set_option maxRecDepth 100000 in
theorem open_tok {fuel : Nat} {cs : List Value} {x : DataW H × List MemPlace} (h : DataW.trod enc Tryd.prog w base spare held fuel 27 cs = some x) :
    ∃ t : Tok, cs = t.cells ∧ t.text.size ∈ x.1.weights Tryd.prog 27 := by
  obtain ⟨xs, n, _, hx0, hl, hx, hf⟩ := DataW.trod_struct Tryd.underlying27 h
  rw [Tryd.cells27] at hl
  match cs, hl with
  | [c0, c1, c2], _ =>
    have h0 := hf 0 _ rfl
    have h1 := hf 1 _ rfl
    have h2 := hf 2 _ rfl
    match xs, hx with
    | [y0, y1, y2], _ =>
      obtain ⟨a, e0, _, _⟩ := DataW.trod_int (k := .u8) Tryd.underlying5 (by simpa [Tryd.cells5] using h0)
      obtain ⟨s, e1, x1, _⟩ := DataW.trod_string Tryd.underlying9 (by simpa [Tryd.cells9] using h1)
      obtain ⟨c, e2, _, _⟩ := DataW.trod_int (k := .i64) Tryd.underlying3 (by simpa [Tryd.cells3] using h2)
      simp at e0 e1 e2
      refine ⟨⟨a, s, c⟩, by rw [e0, e1, e2]; rfl, ?_⟩
      subst hx0
      refine (show _ ∈ DataW.weights Tryd.prog 27 (.agg [y0.1, y1.1, y2.1]) from ?_)
      simp only [DataW.weights, Tryd.underlying27]
      refine DataW.weights_mem_each (j := 1) (t := 9) rfl rfl _ ?_
      rw [x1]
      simp [DataW.weights]

set_option maxRecDepth 100000 in
theorem open_toks {v : Value} {d : DataW H} {ps : List MemPlace} {W : World} {r : Reach} {b0 : Nat} (hval : Value.okWide Tryd.prog W r b0 22 v) (h : DataW.Trod enc Tryd.prog w base spare held 22 v d ps) :
    ∃ l, Toks w w.heap.size v l ∧ ((∀ n ∈ d.weights Tryd.prog 22, n ≤ reachBytes) → (∀ t ∈ l, t.text.size ≤ 281474976710656) ∧ l.length ≤ 281474976710656) := by
  obtain ⟨fuel, h⟩ := h
  obtain ⟨a9, len9, cap9, rfl⟩ := okWide_slice Tryd.underlying22 hval
  have hv0 : (Value.slice a9 len9 cap9).cells.toList = [Value.slice a9 len9 cap9] := by simp [Value.cells]
  rw [hv0] at h
  rcases DataW.trod_slice Tryd.underlying22 h with ⟨hv, _⟩ | ⟨a, len, cap, elems, rest, n, rfl, hv, hx, _, hl, hm, hel, hat, _⟩
  · obtain ⟨rfl, rfl, rfl⟩ : a9 = none ∧ len9 = 0 ∧ cap9 = 0 := by simpa using hv
    exact ⟨[], ⟨none, 0, rfl, by simp, .inl rfl⟩, fun _ => ⟨by simp, by simp⟩⟩
  · obtain ⟨rfl, rfl, rfl⟩ : a9 = some a ∧ len9 = len ∧ cap9 = cap := by simpa using hv
    have hd : d = .slice (elems.map (·.1)) (rest.map (·.1)) := (Prod.mk.inj hx).1
    have hml : cap9 ≤ 9223372036854775807 := hm
    have hlen : (∀ n ∈ d.weights Tryd.prog 22, n ≤ reachBytes) → len9 ≤ 281474976710656 := by
      intro hw
      have h1 := hw ((elems.map (·.1) : List (DataW H)).length + (rest.map (·.1)).length |> (· * Tryd.prog.bytesOf 27)) (by rw [hd]; simp [DataW.weights, Tryd.underlying22])
      rw [Tryd.bytes27, List.length_map] at h1
      simp only [reachBytes] at h1
      omega
    by_cases h0 : len9 = 0
    · subst h0
      exact ⟨[], ⟨some a, cap9, rfl, by simp, .inl rfl⟩, fun _ => ⟨by simp, by simp⟩⟩
    · have key : ∀ i : Fin len9, ∃ t : Tok, (∀ j, j < 3 → w.cell? (a.add (i.1 * 3 + j)) = t.cells[j]?) ∧ ((∀ n ∈ d.weights Tryd.prog 22, n ≤ reachBytes) → t.text.size ≤ 281474976710656) := by
        intro i
        have hi := i.2
        have h1 := hat i.1 i.2
        rw [Tryd.cells27, List.getElem?_eq_getElem (by omega)] at h1
        obtain ⟨cs', h2, h3⟩ := Option.bind_eq_some_iff.1 h1
        obtain ⟨_, h4, h5⟩ := World.cells?_some h2
        obtain ⟨t, rfl, ht⟩ := open_tok h3
        refine ⟨t, fun j hj => by rw [← Go.Deep.add_add]; exact h5 j hj, fun hw => ?_⟩
        have h6 := hw t.text.size (by
          rw [hd]
          simp only [DataW.weights, Tryd.underlying22, List.mem_cons, List.mem_append]
          exact .inr (.inl (weightsAll_in (List.mem_map.2 ⟨_, List.getElem_mem (by omega), rfl⟩) _ ht)))
        simp only [reachBytes] at h6
        omega
      obtain ⟨b, off, sp⟩ := a
      obtain ⟨t0, hc0, _⟩ := key ⟨0, by omega⟩
      have hz := hc0 0 (by omega)
      have hsp : sp = none ∧ b < w.heap.size := by
        simp only [Nat.zero_mul, Nat.add_zero, Addr.add, if_true] at hz
        unfold World.cell? at hz
        cases sp with
        | some s => cases hh : w.heap[b]? <;> rw [hh] at hz <;> try (cases hz)
                    rename_i o; cases o <;> simp [Tok.cells] at hz
        | none => exact ⟨rfl, by
            rcases Nat.lt_or_ge b w.heap.size with h | h
            · exact h
            · simp [Array.getElem?_eq_none h, Tok.cells] at hz⟩
      obtain ⟨rfl, hb⟩ := hsp
      have hadd : ∀ k, (⟨b, off, none⟩ : Addr).add k = ⟨b, off + k, none⟩ := fun k => by
        unfold Addr.add
        split
        · rename_i h; simp_all
        · simp
      refine ⟨List.ofFn fun i => Classical.choose (key i), ⟨some ⟨b, off, none⟩, cap9, by simp, by simp; omega, .inr ⟨b, off, rfl, hb, fun i hi => ?_⟩⟩, fun hw => ⟨?_, by simpa using hlen hw⟩⟩
      · have hi' : i < len9 := by simpa using hi
        have h6 := (Classical.choose_spec (key ⟨i, hi'⟩)).1
        have e : (List.ofFn fun i => Classical.choose (key i))[i] = Classical.choose (key ⟨i, hi'⟩) := by simp
        rw [e]
        generalize Classical.choose (key ⟨i, hi'⟩) = t at h6
        have g0 := h6 0 (by omega)
        have g1 := h6 1 (by omega)
        have g2 := h6 2 (by omega)
        rw [hadd] at g0 g1 g2
        exact ⟨by simpa [Tok.cells] using g0, by simpa [Tok.cells, Nat.add_assoc] using g1, by simpa [Tok.cells, Nat.add_assoc] using g2⟩
      · intro t ht
        rw [List.mem_ofFn] at ht
        obtain ⟨i, rfl⟩ := ht
        exact (Classical.choose_spec (key i)).2 hw
end
end Go.Proofs.YtipbgaiaoahnmaaDoor
