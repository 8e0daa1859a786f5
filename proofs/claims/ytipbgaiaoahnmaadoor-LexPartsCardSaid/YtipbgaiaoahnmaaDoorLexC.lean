/- The book of layer 15: numbers, kinds, names, how long a token is. -/
import Derived.Test.YtipbgaiaoahnmaaDoorLexB
namespace Go.Proofs.YtipbgaiaoahnmaaDoor
open Go.RowKit Go.Shelf

theorem digVal_snoc (l : List UInt8) (c : UInt8) : ∀ a, digVal a (l ++ [c]) = 10 * digVal a l + (c.toNat - 48) := by
  induction l with
  | nil => intro a; rfl
  | cons b r ih => intro a; rw [List.cons_append, digVal_cons, digVal_cons, ih]
theorem digVal_lt (l : List UInt8) (h : l.all isDig = true) : ∀ a, digVal a l < (a + 1) * 10 ^ l.length := by
  induction l with
  | nil => intro a; simp [digVal]
  | cons b r ih =>
    intro a
    simp only [List.all_cons, Bool.and_eq_true] at h
    have h1 := h.1
    simp only [isDig, Bool.and_eq_true, decide_eq_true_eq] at h1
    have := ih h.2 (10 * a + (b.toNat - 48))
    rw [digVal_cons, List.length_cons, Nat.pow_succ]
    refine Nat.lt_of_lt_of_le this ?_
    calc (10 * a + (b.toNat - 48) + 1) * 10 ^ r.length ≤ ((a + 1) * 10) * 10 ^ r.length := Nat.mul_le_mul_right _ (by omega)
      _ = (a + 1) * (10 ^ r.length * 10) := by rw [Nat.mul_assoc, Nat.mul_comm 10]
theorem digVal_take_lt (l : List UInt8) (k : Nat) (hk : k ≤ 17) (h : (l.take k).all isDig = true) : digVal 0 (l.take k) < 100000000000000000 := by
  have := digVal_lt _ h 0
  have h2 : (l.take k).length ≤ 17 := by rw [List.length_take]; omega
  have h3 : 10 ^ (l.take k).length ≤ 10 ^ 17 := Nat.pow_le_pow_right (by decide) h2
  omega

/-- What the book takes for a number. -/
def numB (l : List UInt8) : Bool := decide (1 ≤ l.length) && numOk l

set_option maxRecDepth 100000 in
set_option maxHeartbeats 4000000 in
theorem number_any (s : ByteArray) (hs : s.size ≤ 4611686018427387904) (w : World) : Calls Tryd.prog 47 #[.string s] w fun e w' => e = .returned (.bool (numB s.data.toList)) ∧ w' = w := by
  have HS := size_list s
  by_cases h1 : 1 ≤ s.size
  · by_cases h8 : s.size ≤ 18
    · have hg := get_list s 0 (by omega)
      generalize hc0 : s[0]'(by omega) = c0 at hg
      have hhd : s.data.toList.head? = some c0 := by rw [hg, List.head?_eq_getElem?, List.getElem?_eq_getElem]
      by_cases hz : 1 < s.size ∧ c0.toNat = 48
      · have HV : Hid (numB s.data.toList = false) := by
          have h48 : c0 = 48 := UInt8.toNat.inj hz.2
          have : ¬ s.size ≤ 1 := by omega
          simp [Hid, numB, numOk, HS, hhd, h48, this]
        obtain ⟨hz1, hz2⟩ := hz
        clear hg hhd
        go_enter Tryd.func47, Tryd.ntmps47
        go_wp2
        go_ret
        exact ret_bool HV.out.symm
      · have HV : Hid (numB s.data.toList = (s.data.toList.all isDig && decide (digVal 0 s.data.toList < 288230376151711744))) := by
          have : (decide (s.size ≤ 1) || (some c0 != some 48)) = true := by
            by_cases h : s.size ≤ 1
            · simp [h]
            · have h48 : c0 ≠ 48 := fun h48 => hz ⟨by omega, by rw [h48]; rfl⟩
              simp [h48]
          simp only [Hid, numB, numOk, HS, hhd, this]
          simp [h1, h8]
        have hz' : decide (1 < (s.size : Int)) = false ∨ (decide (1 < (s.size : Int)) = true ∧ ((c0.toNat : Int) == 48) = false) := by simp; omega
        clear hg hhd hz
        rcases hz' with hz' | ⟨hz', hz2⟩
        all_goals
          go_enter Tryd.func47, Tryd.ntmps47
          go_wp2
          go_loop [3, 4] (fun n i => ∃ (k : Nat) (a : Int), k ≤ s.size ∧ i = .int .i64 k ∧ n = .int .i64 a ∧ Hid (a = (digVal 0 (s.data.toList.take k) : Nat) ∧ (s.data.toList.take k).all isDig = true)) (fun _ i => s.size - (intOf i).toNat)
          case atStart => exact ⟨0, 0, by omega, rfl, rfl, rfl, rfl⟩
          case round =>
            obtain ⟨k, a, hk, rfl, rfl, HA⟩ := hrel
            by_cases hlt : k < s.size
            · have ha1 : 0 ≤ a := by rw [HA.out.1]; omega
              have ha2 : a < 100000000000000000 := by rw [HA.out.1]; have := digVal_take_lt _ k (by omega) HA.out.2; omega
              have hg := get_list s k hlt
              generalize hck : s[k]'hlt = c at hg
              have HT : Hid (s.data.toList.take (k + 1) = s.data.toList.take k ++ [c]) := by
                rw [Hid, List.take_succ_eq_append_getElem (by rw [HS]; exact hlt), ← hg]
              have HC : Hid (s.data.toList.all isDig = true → isDig c = true) := fun h => by
                rw [List.all_eq_true] at h; exact h c (by rw [hg]; exact List.getElem_mem _)
              have hc256 : c.toNat < 256 := c.toNat_lt
              clear hg
              cases hd : isDig c with
              | false =>
                have HD := Lib.hid hd
                clear hd
                go_wp2_with (go_at_call 37; refine (digit_any c _).mono ?_; rintro e w' ⟨rfl, rfl⟩; rw [HD.out])
                go_ret
                refine ret_bool ?_
                rw [HV.out]
                cases hx : s.data.toList.all isDig with
                | false => rfl
                | true => exact absurd (HC.out hx) (by rw [HD.out]; decide)
              | true =>
                have HD := Lib.hid hd
                have hd2 := hd
                simp only [isDig, Bool.and_eq_true, decide_eq_true_eq] at hd2
                obtain ⟨hd2, hd3⟩ := hd2
                clear hd
                go_wp2_with (go_at_call 37; refine (digit_any c _).mono ?_; rintro e w' ⟨rfl, rfl⟩; rw [HD.out])
                refine ⟨⟨k + 1, 10 * a + (c.toNat : Int) - 48, by omega, by push_cast; rfl, rfl, ?_, ?_⟩, by simp [intOf]; omega⟩
                · rw [HT.out, digVal_snoc, HA.out.1]; omega
                · rw [HT.out]; simp only [List.all_append, HA.out.2, List.all_cons, HD.out, List.all_nil, Bool.and_self]
            · have HE : Hid (s.data.toList.take k = s.data.toList) := by rw [Hid, List.take_of_length_le (by omega)]
              go_wp2
              go_ret
              refine ret_bool ?_
              have h := HA.out
              rw [HE.out] at h
              rw [HV.out, h.1, h.2, Bool.eq_iff_iff]
              simp
              omega
    · go_enter Tryd.func47, Tryd.ntmps47
      go_wp2
      go_ret
      exact ret_bool (by simp [numB, numOk, HS, h8])
  · go_enter Tryd.func47, Tryd.ntmps47
    go_wp2
    go_ret
    exact ret_bool (by simp [numB, HS, h1])
end Go.Proofs.YtipbgaiaoahnmaaDoor
