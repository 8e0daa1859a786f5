/- Two things that every statement of this seat wants: what is read again behind a call that only made memory of its own; a slice of structs that came in, cell by cell. Over any program. -/
import Derived.ProofKit
import Derived.Deep.Slices
namespace Go.Proofs.Ytnpaoekblfflmaa
open Go.ChangeShapes Go.WideShapes Go.ChangeAt Go.RowKit

theorem below_trodAll {H : Type} {enc : TypeId × Value → H} {P : Program} {W W' : World} (hl : laidOutB P = true) (hb : Below W.heap.size W W') :
    ∀ {ts : List TypeId} {vs : List Value} {ds : List (DataW H)} {ps : List MemPlace}, (∀ t ∈ ts, P.readableRec t = true ∧ t < P.types.size) → DataW.TrodAll enc P W 0 (fun _ => true) true ts vs ds ps →
      (∀ x ∈ ps, x.block < W.heap.size) → DataW.TrodAll enc P W' 0 (fun b => decide (b < W.heap.size)) true ts vs ds ps
  | [], [], [], _, _, h, _ => h
  | t :: ts, v :: vs, d :: ds, ps, hr, ⟨p, q, h1, h2, e⟩, hlt =>
    ⟨p, q, Below.trod hl (hr t (by simp)).1 (hr t (by simp)).2 h1 hb (fun x hx => hlt x (by rw [e]; exact List.mem_append_left _ hx)),
      below_trodAll hl hb (fun t' ht' => hr t' (by simp [ht'])) h2 (fun x hx => hlt x (by rw [e]; exact List.mem_append_right _ hx)), e⟩

/-- What a law's row asks behind the call: true; each argument reads as it read. -/
theorem law_post {H : Type} {enc : TypeId × Value → H} {P : Program} {f : Func} {s : ChangeSpec} {apart : Bool} {W W' : World} {args : Array Value} {ds : List (DataW H)} {before : List MemPlace} {tb : TypeId}
    (hl : laidOutB P = true) (hr : ∀ t ∈ f.params.toList, P.readableRec t = true ∧ t < P.types.size) (hsv : s.vars = []) (hrt : f.resultTypes = #[tb]) (htb : P.underlying tb = some .bool)
    (hW : DataW.Whole enc P f.params.toList s.vars apart W args.toList ds [] before)
    (hspec : s.fn H (ds ++ []) = { results := [.lit (.bool true)], args := ds }) (hb : Below W.heap.size W W') :
    s.post enc P f apart true false false W args (.bool true) W' := by
  have hlt := hW.lt
  have hW' := hW
  obtain ⟨p, q, hA, hV, rfl, _, _⟩ := hW'
  rw [hsv] at hV
  obtain ⟨_, rfl⟩ := trodVars_none hV
  refine ⟨ds, [], _, [], p, [], hW, ?_, ?_, ?_, hb.frame _, fun h => by cases h⟩
  · rw [hspec, hrt]
    exact trodAll_mk1 (shut_bool htb true)
  · rw [hspec]
    exact below_trodAll hl hb hr hA (fun x hx => hlt x (by simpa using hx))
  · rw [hspec, hsv]
    exact rfl

/-- A slice of structs that came in, cell by cell. -/
theorem slice_read {H : Type} {enc : TypeId × Value → H} {P : Program} {w : World} {base : Nat} {spare : Nat → Bool} {held : Bool} {t e : TypeId} {C fuel : Nat} {cs : List Value} {x : DataW H × List MemPlace}
    (ht : P.underlying t = some (.slice e)) (hC : P.cellsOf e = C) (hC0 : 0 < C) (h : DataW.trod enc P w base spare held fuel t cs = some x) :
    ∃ a len cap, cs = [.slice a len cap] ∧ len ≤ 9223372036854775807 ∧ (len = 0 ∨ ∃ b off, a = some ⟨b, off, none⟩ ∧ b < w.heap.size ∧
      ∀ i, i < len → ∃ cs' y, cs'.length = C ∧ (∀ j, j < C → w.cell? ⟨b, off + i * C + j, none⟩ = cs'[j]?) ∧ DataW.trod enc P w base spare held (fuel - 1) e cs' = some y) := by
  rcases DataW.trod_slice ht h with ⟨rfl, _⟩ | ⟨a, len, cap, elems, rest, n, rfl, rfl, rfl, _, hl, hm, hel, hat, _⟩
  · exact ⟨none, 0, 0, rfl, by omega, .inl rfl⟩
  · have hml : cap ≤ 9223372036854775807 := hm
    refine ⟨some a, len, cap, rfl, by omega, ?_⟩
    by_cases h0 : len = 0
    · exact .inl h0
    · have key : ∀ i, i < len → ∃ cs' y, cs'.length = C ∧ (∀ j, j < C → w.cell? (a.add (i * C + j)) = cs'[j]?) ∧ DataW.trod enc P w base spare held n e cs' = some y := by
        intro i hi
        have h1 := hat i hi
        rw [hC, List.getElem?_eq_getElem (by omega)] at h1
        obtain ⟨cs', h2, h3⟩ := Option.bind_eq_some_iff.1 h1
        obtain ⟨_, h4, h5⟩ := World.cells?_some h2
        exact ⟨cs', _, h4, fun j hj => by rw [← Go.Deep.add_add]; exact h5 j hj, h3⟩
      obtain ⟨b, off, sp⟩ := a
      obtain ⟨cs0, _, hl0, hc0, _⟩ := key 0 (by omega)
      have hz := hc0 0 hC0
      rw [List.getElem?_eq_getElem (by omega)] at hz
      have hsp : sp = none ∧ b < w.heap.size := by
        simp only [Nat.zero_mul, Nat.add_zero, Addr.add, if_true] at hz
        unfold World.cell? at hz
        cases sp with
        | some s => cases hh : w.heap[b]? <;> rw [hh] at hz <;> try (cases hz)
                    rename_i o; cases o <;> simp at hz
        | none => exact ⟨rfl, by
            rcases Nat.lt_or_ge b w.heap.size with h | h
            · exact h
            · simp [Array.getElem?_eq_none h] at hz⟩
      obtain ⟨rfl, hb⟩ := hsp
      refine .inr ⟨b, off, rfl, hb, fun i hi => ?_⟩
      obtain ⟨cs', y, h1, h2, h3⟩ := key i hi
      refine ⟨cs', y, h1, fun j hj => ?_, h3⟩
      have := h2 j hj
      rw [← this]
      congr 1
      unfold Addr.add
      split
      · simp; omega
      · simp; omega

end Go.Proofs.Ytnpaoekblfflmaa
