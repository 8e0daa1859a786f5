/- What Parse answers of a text with an error, of the text cut ahead of the error, and of the text up to the token there with another one behind. No program. -/
import Derived.Test.YtpgdplmndnopbaaGreatDoorPrX
import Derived.Test.YtpgdplmndnopbaaGreatDoorPrV
namespace Go.Proofs.YtpgdplmndnopbaaGreatDoor
open Go.RowKit

theorem rowKind_code {l : List UInt8} {e : Int} (h : rowKind l = .error e) : e = 151 ∨ e = 152 := by
  cases l with
  | nil => simp [rowKind] at h; exact .inl h.symm
  | cons b r =>
    simp only [rowKind] at h
    split at h
    · split at h <;> simp at h; exact .inr h.symm
    · split at h <;> simp at h; exact .inl h.symm
theorem cons_bad {t : Tok} {r : Res} {p : Nat} {e : Int} (h : Res.cons t r = .bad p e) : r = .bad p e := by
  cases r with
  | ok l => cases h
  | bad a b => exact h
theorem cutS_code : ∀ (l : List UInt8) (k a p : Nat) (e : Int), cutS k a l = .bad p e → e = 150 ∨ e = 151 ∨ e = 152
  | [], k, a, p, e, h => by cases k <;> cases h
  | b :: r, k + 1, a, p, e, h => cutS_code r k (a + 1) p e (by rw [cutS] at h; exact h)
  | b :: r, 0, a, p, e, h => by
    rw [cutS] at h
    split at h
    · split at h
      · rename_i e2 hk
        cases h
        exact .inr (rowKind_code hk)
      · exact cutS_code r _ _ _ _ (cons_bad h)
    · split at h
      · exact cutS_code r _ _ _ _ h
      · split at h
        · split at h
          · exact cutS_code r _ _ _ _ (cons_bad h)
          · exact cutS_code r _ _ _ _ (cons_bad h)
        · cases h
          exact .inl rfl
theorem cutR_code {s : ByteArray} (h : (cutR s).2.2 ≠ 0) : (cutR s).2.2 ≠ 170 ∧ (cutR s).2.2 ≠ 171 ∧ 0 ≤ (cutR s).2.1 ∧ (cutR s).2.1 ≤ s.size := by
  unfold cutR at h ⊢
  split at h
  · rename_i h4
    rw [if_pos h4]
    exact ⟨by decide, by decide, by decide, show (0 : Int) ≤ s.size by omega⟩
  · rename_i h4
    rw [if_neg h4]
    cases hq : cut 0 s.data.toList with
    | ok l => rw [hq] at h; exact absurd rfl h
    | bad a e =>
      have h1 := cutS_code _ _ _ _ _ hq
      obtain ⟨k, h2, h3, _⟩ := cut_parts_bad _ _ _ _ hq
      rw [size_list] at h3
      show e ≠ 170 ∧ e ≠ 171 ∧ (0 : Int) ≤ (a : Int) ∧ (a : Int) ≤ s.size
      refine ⟨?_, ?_, by omega, by omega⟩
      · rcases h1 with rfl | rfl | rfl <;> decide
      · rcases h1 with rfl | rfl | rfl <;> decide
theorem checkR_code {m n : Nat} (names : List ByteArray) (t : XT m n) : checkR names n t ≠ 170 ∧ checkR names n t ≠ 171 := by
  unfold checkR
  split
  · exact ⟨by decide, by decide⟩
  · split
    · exact ⟨by decide, by decide⟩
    · split
      · exact ⟨by decide, by decide⟩
      · split
        · exact ⟨by decide, by decide⟩
        · split <;> exact ⟨by decide, by decide⟩
theorem namesR_code (names : List ByteArray) : namesR names ≠ 170 ∧ namesR names ≠ 171 := by
  unfold namesR
  split <;> exact ⟨by decide, by decide⟩
/-- What is asked of the text ahead of the error, and of the token there. -/
def WrongAt (names : List ByteArray) (s : ByteArray) (cd : Int) (k : Nat) : Prop :=
  (∀ (w : World) (v : Value) (at' cd' : Int), ParseIs names (byt (s.data.toList.take k)) w v at' cd' → cd' ≠ 171 ∧ (cd' = 170 → at' = k)) ∧
    ∃ t ts, cut 0 (s.data.toList.drop k) = .ok (t :: ts) ∧ ∀ other lo, cut 0 other = .ok lo → ∀ (w : World) (v : Value) (at' cd' : Int), (byt (s.data.toList.take k ++ (t.text.data.toList ++ 32 :: other))).size ≤ 4096 →
      ParseIs names (byt (s.data.toList.take k ++ (t.text.data.toList ++ 32 :: other))) w v at' cd' → cd' = cd ∧ at' = k
theorem ParseIs.sorts {names : List ByteArray} {s : ByteArray} {w : World} {v : Value} {at_ cd : Int} (h : ParseIs names s w v at_ cd) (h4 : s.size ≤ 4096) :
    (cd = 0 ∧ at_ = 0 ∧ ∃ (m n : Nat) (t : XT m n), checkR names n t = 0 ∧ XRep w w.heap.size m n t v) ∨
      (cd ≠ 0 ∧ v = noX ∧ 0 ≤ at_ ∧ at_ ≤ s.size ∧ ((cd ≠ 170 ∧ cd ≠ 171) ∨ ((cd = 170 ∨ cd = 171) ∧ (at_ < s.size → ∃ k : Nat, at_ = k ∧ k < s.size ∧ WrongAt names s cd k)))) := by
  cases h with
  | names h => exact .inr ⟨h, rfl, by decide, by omega, .inl (namesR_code names)⟩
  | cut _ h =>
    obtain ⟨h1, h2, h3, h5⟩ := cutR_code h
    exact .inr ⟨h, rfl, h3, h5, .inl ⟨h1, h2⟩⟩
  | wrong hn hc c p he =>
    obtain ⟨_, h2, _⟩ := cutR_ok hc
    obtain ⟨g1, g2, g3, g4⟩ := wrong_at h2 (by rw [size_list]; exact he)
    rw [size_list] at g2 g4
    refine .inr ⟨by rcases g3 with rfl | rfl <;> decide, rfl, g1, g2, .inr ⟨g3, fun hlt => ?_⟩⟩
    obtain ⟨k, rfl, hk, ⟨l1, c1, c2⟩, t, ts, c3, c4⟩ := g4 hlt
    refine ⟨k, rfl, hk, fun w v at' cd' hp => ?_, t, ts, c3, fun other lo ho w v at' cd' hsz hp => ?_⟩
    · have hlen : (byt (s.data.toList.take k)).size = k := by rw [byt_size, List.length_take, size_list]; omega
      have hcr := cutR_of (s := byt (s.data.toList.take k)) (by rw [byt_list]; exact c1) (by rw [hlen]; omega)
      rcases c2 with ⟨x, c2⟩ | c2
      · cases hp with
        | names h => exact absurd hn h
        | cut _ h => rw [hcr] at h; exact absurd rfl h
        | wrong _ _ c p he' => rw [hcr, hlen, c2] at he'; cases he'
        | check _ _ m n t he' hk' => exact ⟨(checkR_code names t).2, fun h => absurd h (checkR_code names t).1⟩
        | ok => exact ⟨by decide, fun h => absurd h (by decide)⟩
      · obtain ⟨rfl, rfl, _⟩ := hp.at_wrong hn (by rw [hcr]) (by rw [hcr, hlen]; exact c2)
        exact ⟨by decide, fun _ => rfl⟩
    · obtain ⟨l2, d1, d2⟩ := c4 other lo ho
      have hcr := cutR_of (s := byt (s.data.toList.take k ++ (t.text.data.toList ++ 32 :: other))) (by rw [byt_list]; exact d1) hsz
      obtain ⟨rfl, rfl, _⟩ := hp.at_wrong hn (by rw [hcr]) (by rw [hcr]; exact d2 _)
      exact ⟨rfl, rfl⟩
  | check _ _ m n t _ hk => exact .inr ⟨hk, rfl, by decide, by omega, .inl (checkR_code names t)⟩
  | ok _ _ m n t _ hk v hv => exact .inl ⟨rfl, rfl, m, n, t, hk, hv⟩
end Go.Proofs.YtpgdplmndnopbaaGreatDoor
