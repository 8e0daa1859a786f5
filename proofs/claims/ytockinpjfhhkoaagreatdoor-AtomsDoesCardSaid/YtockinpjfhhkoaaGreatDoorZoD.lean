/- A number's bit, as the program and as the document ask for it. No program. -/
import Derived.Test.YtockinpjfhhkoaaGreatDoorMgB
namespace Go.Proofs.YtockinpjfhhkoaaGreatDoor
open Go.RowKit

theorem bit_same : ∀ (on : Fin 256) (d : Fin 8), (bits .and .i64 (on.val : Int) (wrap64 (2 ^ d.val)) != 0) = (bits .and .u8 ((on.val : Int) / 2 ^ d.val) 1 == 1) := by decide +kernel
theorem bit_same' {on : Int} (h0 : 0 ≤ on) (h1 : on ≤ 255) {d : Nat} (hd : d < 8) : (bits .and .i64 on (wrap64 (2 ^ d)) != 0) = (bits .and .u8 (on / 2 ^ d) 1 == 1) := by
  have h := bit_same ⟨on.toNat, by omega⟩ ⟨d, hd⟩
  have e : ((on.toNat : Nat) : Int) = on := by omega
  dsimp only at h
  rw [e] at h
  exact h
/-- What is the first of a list's places with a name. -/
theorem idx_lt {s : ByteArray} {l : List ByteArray} (h : inN s l = true) : 0 ≤ idxN s l ∧ idxN s l < l.length := by
  have h1 := idxN_in s l
  rw [h] at h1
  simp only [decide_eq_true_eq] at h1
  refine ⟨h1, ?_⟩
  unfold idxN at h1 ⊢
  cases q : l.findIdx? (fun x => s.toList == x.toList) with
  | none => rw [q] at h1; simp at h1
  | some i =>
    have := List.findIdx?_eq_some_iff_getElem.1 q
    obtain ⟨hi, _⟩ := this
    show ((i : Nat) : Int) < l.length
    omega
end Go.Proofs.YtockinpjfhhkoaaGreatDoor
