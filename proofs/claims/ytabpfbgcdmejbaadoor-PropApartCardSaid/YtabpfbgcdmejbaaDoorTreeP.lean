/- Plain: names that are not great are short ones. No program. -/
import Derived.Test.YtabpfbgcdmejbaaDoorTreeA
namespace Go.Proofs.YtabpfbgcdmejbaaDoor
open Go.RowKit

/-- How much names are, up to a bound. -/
def gnGo : List ByteArray → Int → Int
  | [], n => n
  | s :: r, n => if n < 10000 then gnGo r (wrap64 (wrap64 (n + 1) + s.size)) else n
def greatN (l : List ByteArray) : Bool := decide (5000 < gnGo l 0)
theorem gnGo_drop (l : List ByteArray) (k : Nat) (n : Int) (h : k < l.length) (hn : n < 10000) : gnGo (l.drop k) n = gnGo (l.drop (k + 1)) (wrap64 (wrap64 (n + 1) + l[k].size)) := by
  rw [List.drop_eq_getElem_cons h, gnGo, if_pos hn]
theorem gnGo_stop (l : List ByteArray) (n : Int) (hn : ¬ n < 10000) : gnGo l n = n := by
  cases l with
  | nil => rfl
  | cons x r => rw [gnGo, if_neg hn]
theorem gnGo_end (l : List ByteArray) (n : Int) : gnGo (l.drop l.length) n = n := by rw [List.drop_length]; rfl
theorem gnGo_le : ∀ (l : List ByteArray) (n : Int), (∀ s ∈ l, s.size ≤ 281474976710656) → 0 ≤ n → n ≤ 300000000000000 → n ≤ gnGo l n ∧ (gnGo l n ≤ 5000 → ∀ s ∈ l, s.size ≤ 5000)
  | [], n, _, _, _ => ⟨by simp [gnGo], fun _ s hs => absurd hs (by simp)⟩
  | x :: r, n, H, h0, h1 => by
    rw [gnGo]
    split
    · rename_i hn
      have hx := H x (by simp)
      have hw : wrap64 (wrap64 (n + 1) + x.size) = n + 1 + x.size := by unfold wrap64; omega
      rw [hw]
      obtain ⟨a, b⟩ := gnGo_le r (n + 1 + x.size) (fun s hs => H s (by simp [hs])) (by omega) (by omega)
      refine ⟨by omega, fun h s hs => ?_⟩
      rcases List.mem_cons.1 hs with rfl | hs
      · omega
      · exact b h s hs
    · rename_i hn
      exact ⟨Int.le_refl _, fun h => absurd h (by omega)⟩
theorem greatN_not {l : List ByteArray} (h : greatN l = false) (H : ∀ s ∈ l, s.size ≤ 281474976710656) : ∀ s ∈ l, s.size ≤ 1048576 := by
  intro s hs
  have h1 : gnGo l 0 ≤ 5000 := by unfold greatN at h; simpa using h
  have := (gnGo_le l 0 H (by omega) (by omega)).2 h1 s hs
  omega
end Go.Proofs.YtabpfbgcdmejbaaDoor
