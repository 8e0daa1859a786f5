/- Plain laws of layer 20: De Morgan. No program in sight. -/
import Derived.Test.YtabpfbgcdmejbaaDoorPropF
import Derived.Deep.RegionHeld3
import Derived.Test.YtabpfbgcdmejbaaDoorPropH
namespace Go.Proofs.YtabpfbgcdmejbaaDoor
open Go.RowKit

def notT {n : Nat} (f : FT n) : FT (n + 1) := (4, ⟨#[]⟩, [f])
def andT2 {n : Nat} (f g : FT n) : FT (n + 1) := (5, ⟨#[]⟩, [f, g])
def orT2 {n : Nat} (f g : FT n) : FT (n + 1) := (6, ⟨#[]⟩, [f, g])
theorem holds_not (names : List ByteArray) {n : Nat} (f : FT n) (on : Int) : holdsF names (n + 1) (notT f) on = !holdsF names n f on := rfl
theorem holds_and (names : List ByteArray) {n : Nat} (f g : FT n) (on : Int) : holdsF names (n + 1) (andT2 f g) on = (holdsF names n f on && holdsF names n g on) := rfl
theorem holds_or (names : List ByteArray) {n : Nat} (f g : FT n) (on : Int) : holdsF names (n + 1) (orT2 f g) on = (holdsF names n f on || holdsF names n g on) := rfl
theorem tbl_congr {names : List ByteArray} {n m : Nat} {f : FT n} {g : FT m} (h : ∀ on, holdsF names n f on = holdsF names m g on) : tblF names n f = tblF names m g := by
  unfold tblF
  exact List.map_congr_left fun i _ => h i
theorem alike_same {names : List ByteArray} {n m : Nat} {f : FT n} {g : FT m} (h : ∀ on, holdsF names n f on = holdsF names m g on) : (alikeR names n m f g).2 ≠ 0 ∨ (alikeR names n m f g).1 = true := by
  unfold alikeR
  split
  · rename_i h1
    exact .inl h1
  · by_cases h2 : fmlR names m g = 0
    · right
      have : tableR names m g = tblF names m g := by rw [tableR, if_neg (by simpa using h2)]
      simp [h2, this, tbl_congr h]
    · exact .inl h2
theorem tbl_first (names : List ByteArray) {n m : Nat} {f : FT n} {g : FT m} (h : tblF names n f = tblF names m g) : holdsF names n f 0 = holdsF names m g 0 := by
  have hp : 0 < 2 ^ names.length := Nat.pos_of_ne_zero (by simp)
  have h1 : (tblF names n f)[0]? = some (holdsF names n f 0) := by
    unfold tblF
    rw [List.getElem?_map, List.getElem?_range hp]; rfl
  have h2 : (tblF names m g)[0]? = some (holdsF names m g 0) := by
    unfold tblF
    rw [List.getElem?_map, List.getElem?_range hp]; rfl
  rw [h, h2] at h1
  exact (Option.some.inj h1).symm
theorem alike_apart {names : List ByteArray} {n m : Nat} {f : FT n} {g : FT m} (h : holdsF names n f 0 ≠ holdsF names m g 0) : (alikeR names n m f g).2 ≠ 0 ∨ (alikeR names n m f g).1 = false := by
  unfold alikeR
  split
  · rename_i h1
    exact .inl h1
  · by_cases h2 : fmlR names m g = 0
    · right
      have e : tableR names m g = tblF names m g := by rw [tableR, if_neg (by simpa using h2)]
      have : tblF names n f ≠ tblF names m g := fun hh => h (tbl_first names hh)
      simp [h2, e, this]
    · exact .inl h2
theorem morgan_one (names : List ByteArray) {n : Nat} (f g : FT n) : (alikeR names (n + 2) (n + 2) (notT (andT2 f g)) (orT2 (notT f) (notT g))).2 ≠ 0 ∨ (alikeR names (n + 2) (n + 2) (notT (andT2 f g)) (orT2 (notT f) (notT g))).1 = true :=
  alike_same fun on => by simp only [holds_not, holds_and, holds_or, Bool.not_and]
theorem morgan_two (names : List ByteArray) {n : Nat} (f g : FT n) : (alikeR names (n + 2) (n + 2) (notT (orT2 f g)) (andT2 (notT f) (notT g))).2 ≠ 0 ∨ (alikeR names (n + 2) (n + 2) (notT (orT2 f g)) (andT2 (notT f) (notT g))).1 = true :=
  alike_same fun on => by simp only [holds_not, holds_and, holds_or, Bool.not_or]
theorem morgan_three (names : List ByteArray) {n : Nat} (f : FT n) : (alikeR names n (n + 2) f (notT (notT f))).2 ≠ 0 ∨ (alikeR names n (n + 2) f (notT (notT f))).1 = true :=
  alike_same fun on => by simp only [holds_not, Bool.not_not]
theorem morgan_four (names : List ByteArray) {n : Nat} (f : FT n) : (alikeR names n (n + 1) f (notT f)).2 ≠ 0 ∨ (alikeR names n (n + 1) f (notT f)).1 = false :=
  alike_apart (by rw [holds_not]; cases holdsF names n f 0 <;> simp)
end Go.Proofs.YtabpfbgcdmejbaaDoor

/- The operations of a region of a text; the two formulas of De Morgan in memory. -/
namespace Go.Proofs.YtabpfbgcdmejbaaDoor
open Go.RowKit

def regionOf (n : Nat) : Code → Option (Array Oper)
  | .region id ops _ => if id = n then some ops else none
  | .seq a b => match regionOf n a with
    | some x => some x
    | none => regionOf n b
  | .cond _ a b => match regionOf n a with
    | some x => some x
    | none => regionOf n b
  | .block _ b => regionOf n b
  | .loop b => regionOf n b
  | .scope b => regionOf n b
  | _ => none
def bodyRegion (fn : Func) (n : Nat) : Option (Array Oper) := match fn.body with
  | some b => regionOf n b
  | none => none

theorem leaf_two {wc wf : World} {Z A B C n : Nat} {f g : FT n} {k : Int} {f0 f1 f2 g0 g1 g2 : Value} (hb : Below wc.heap.size wc wf) (hZ : wf.heap[Z]? = some (.cells #[.int .u8 k, .string ⟨#[]⟩, .slice (some ⟨C, 0, none⟩) 2 2] 39 (0, 0)))
    (hC : wf.heap[C]? = some (.cells #[.int .u8 4, .string ⟨#[]⟩, .slice (some ⟨A, 0, none⟩) 1 1, .int .u8 4, .string ⟨#[]⟩, .slice (some ⟨B, 0, none⟩) 1 1] 39 (0, 0)))
    (hA : wf.heap[A]? = some (.cells #[f0, f1, f2] 39 (0, 0))) (hB : wf.heap[B]? = some (.cells #[g0, g1, g2] 39 (0, 0)))
    (HF : ∀ W, Below wc.heap.size wc W → FRep W W.heap.size n f (.agg #[f0, f1, f2])) (HG : ∀ W, Below wc.heap.size wc W → FRep W W.heap.size n g (.agg #[g0, g1, g2])) :
    Hid (Below wc.heap.size wc wf ∧ VarF wf Z (n + 2) ((k, ⟨#[]⟩, [notT f, notT g]) : FT (n + 2))) :=
  ⟨hb, _, _, _, hZ, rep_two (n := n + 1) hC (rep_one hA (HF wf hb)) (rep_one hB (HG wf hb))⟩
end Go.Proofs.YtabpfbgcdmejbaaDoor
