/- The plain law of LexParts: a text is cut in two where a token begins, or where what is wrong stands. -/
import Derived.Test.YtipbgaiaoahnmaaDoorBackA
namespace Go.Proofs.YtipbgaiaoahnmaaDoor

theorem extract_take (s : ByteArray) (k : Nat) : (s.extract 0 k).data.toList = s.data.toList.take k := by
  simp [ByteArray.data_extract]
theorem extract_drop (s : ByteArray) (k : Nat) : (s.extract k s.size).data.toList = s.data.toList.drop k := by
  simp only [ByteArray.data_extract, Array.toList_extract, List.extract_eq_take_drop]
  rw [List.take_of_length_le]
  simp
theorem cutR_of {s : ByteArray} {l : List Tok} (h4 : s.size ≤ 4096) (h : cut 0 s.data.toList = .ok l) : cutR s = (l, 0, 0) := by
  rw [cutR, if_neg (by omega), h]
theorem cutR_bad {s : ByteArray} {p : Nat} {e : Int} (h4 : s.size ≤ 4096) (h : cut 0 s.data.toList = .bad p e) : cutR s = ([], (p : Int), e) := by
  rw [cutR, if_neg (by omega), h]

theorem parts_bad {s : ByteArray} (h4 : s.size ≤ 4096) (h : (cutR s).2.2 ≠ 0) :
    ∃ (k : Nat) (ts : List Tok), (cutR s).1 = [] ∧ (cutR s).2.1 = (k : Int) ∧ k ≤ s.size ∧ cutR (s.extract 0 k) = (ts, 0, 0) ∧ cutR (s.extract k s.size) = ([], 0, (cutR s).2.2) := by
  cases hc : cut 0 s.data.toList with
  | ok l => rw [cutR_of h4 hc] at h; exact absurd rfl h
  | bad p e =>
    obtain ⟨k, hp, hk, ⟨ts, ht⟩, hd⟩ := cut_parts_bad _ _ _ _ hc
    rw [Nat.zero_add] at hp
    subst hp
    rw [size_list] at hk
    have hs := cut_shift p (s.data.toList.drop p) 0
    rw [Nat.zero_add, hd] at hs
    refine ⟨p, ts, by rw [cutR_bad h4 hc], by rw [cutR_bad h4 hc], by omega, ?_, ?_⟩
    · exact cutR_of (by rw [ByteArray.size_extract]; omega) (by rw [extract_take]; exact ht)
    · rw [cutR_bad h4 hc]
      cases hq : cut 0 (s.data.toList.drop p) with
      | ok us => rw [hq] at hs; cases hs
      | bad p' e' =>
        rw [hq] at hs
        simp only [Res.shift, Res.bad.injEq] at hs
        obtain ⟨h1, h2⟩ := hs
        have h3 : p' = 0 := by omega
        subst h3
        rw [cutR_bad (by rw [ByteArray.size_extract]; omega) (by rw [extract_drop]; exact hq), h2]
        rfl

theorem parts_ok {s : ByteArray} (h : (cutR s).2.2 = 0) (n : Nat) (hn : n < (cutR s).1.length) :
    ∃ (k : Nat) (us : List Tok), ((cutR s).1[n]).place = (k : Int) ∧ k ≤ s.size ∧ cutR (s.extract 0 k) = ((cutR s).1.take n, 0, 0) ∧ cutR (s.extract k s.size) = (us, 0, 0) ∧
      us.length + n = (cutR s).1.length ∧ ∀ i (h1 : i < us.length) (h2 : n + i < (cutR s).1.length), (cutR s).1[n + i] = { us[i] with place := us[i].place + k } ∧ 0 ≤ us[i].place ∧ us[i].place + k ≤ 4096 := by
  obtain ⟨h4, hc, _⟩ := cutR_ok h
  generalize (cutR s).1 = l at hc hn
  obtain ⟨k, hp, hk, ht, hd⟩ := cut_parts _ _ _ hc n hn
  rw [size_list] at hk
  rw [Nat.zero_add] at hp hd
  have hs := cut_shift k (s.data.toList.drop k) 0
  rw [Nat.zero_add, hd] at hs
  cases hq : cut 0 (s.data.toList.drop k) with
  | bad p e => rw [hq] at hs; cases hs
  | ok us =>
    rw [hq] at hs
    simp only [Res.shift, Res.ok.injEq] at hs
    have hlen : us.length + n = l.length := by
      have := congrArg List.length hs
      simp only [List.length_drop, List.length_map] at this
      omega
    refine ⟨k, us, hp, by omega, cutR_of (by rw [ByteArray.size_extract]; omega) (by rw [extract_take]; exact ht), cutR_of (by rw [ByteArray.size_extract]; omega) (by rw [extract_drop]; exact hq), hlen, fun i h1 h2 => ?_⟩
    have he : l[n + i] = (us[i]).shift k := by
      have h5 : (l.drop n)[i]? = (us.map (Tok.shift k))[i]? := by rw [hs]
      rw [List.getElem?_drop, List.getElem?_map, List.getElem?_eq_getElem h2, List.getElem?_eq_getElem h1] at h5
      simpa using h5
    obtain ⟨k2, hp2, hk2, _⟩ := cut_parts _ _ _ hc (n + i) h2
    rw [size_list] at hk2
    have h6 := (cut_kinds _ _ _ hq us[i] (List.getElem_mem h1)).2.2
    refine ⟨he, h6, ?_⟩
    have h7 : us[i].place + k = (k2 : Int) := by
      rw [he] at hp2
      simpa [Tok.shift] using hp2
    omega
end Go.Proofs.YtipbgaiaoahnmaaDoor
