/- One token that came in, read. -/
import Derived.Test.YtipbgaiaoahnmaaDoorBaseT
namespace Go.Proofs.YtipbgaiaoahnmaaDoor
open Go.ChangeShapes Go.WideShapes Go.ChangeAt Go.RowKit Go.Joins
section
variable {H : Type} {enc : TypeId × Value → H} {w : World} {base : Nat} {spare : Nat → Bool} {held : Bool}
set_option maxRecDepth 100000 in
theorem open_one {v : Value} {d : DataW H} {ps : List MemPlace} {W : World} {r : Reach} {b0 : Nat} (hval : Value.okWide Tryd.prog W r b0 27 v) (h : DataW.Trod enc Tryd.prog w base spare held 27 v d ps) :
    ∃ t : Tok, v = t.val := by
  obtain ⟨fuel, h⟩ := h
  obtain ⟨cs, rfl, _⟩ := okWide_struct Tryd.underlying27 hval
  obtain ⟨t, ht, _⟩ := open_tok h
  refine ⟨t, ?_⟩
  have h2 : cs.toList = t.cells := by simpa [Value.cells] using ht
  have h3 : cs = t.cells.toArray := by rw [← h2]
  rw [h3]; rfl
end
end Go.Proofs.YtipbgaiaoahnmaaDoor
