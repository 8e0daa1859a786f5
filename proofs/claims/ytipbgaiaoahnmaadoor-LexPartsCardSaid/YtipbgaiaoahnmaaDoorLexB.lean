/- The book of layer 15: words, numbers, signs, kinds; rows of letters and digits. -/
import Derived.LoopTactic
import Derived.Test.YtipbgaiaoahnmaaDoorLexA
namespace Go.Proofs.YtipbgaiaoahnmaaDoor
open Go.RowKit Go.Shelf

theorem get_list (s : ByteArray) (k : Nat) (h : k < s.size) : s[k]'h = s.data.toList[k]'(by simpa using h) := by simp; rfl
theorem size_list (s : ByteArray) : s.data.toList.length = s.size := by simp

def wordB (l : List UInt8) : Bool := decide (1 ≤ l.length) && decide (l.length ≤ 8) && (l.head?.map isLow == some true) && (l.drop 1).all isRow

set_option maxRecDepth 100000 in
set_option maxHeartbeats 2000000 in
theorem word_any (s : ByteArray) (hs : s.size ≤ 4611686018427387904) (w : World) : Calls Tryd.prog 40 #[.string s] w fun e w' => e = .returned (.bool (wordB s.data.toList)) ∧ w' = w := by
  have HS := size_list s
  by_cases h1 : 1 ≤ s.size
  · by_cases h8 : s.size ≤ 8
    · have hg := get_list s 0 (by omega)
      generalize hc0 : s[0]'(by omega) = c0 at hg
      have HV : Hid (wordB s.data.toList = (isLow c0 && (s.data.toList.drop 1).all isRow)) := by
        rw [Hid, wordB, HS]
        have : s.data.toList.head? = some c0 := by rw [hg, List.head?_eq_getElem?, List.getElem?_eq_getElem]
        simp [h1, h8, this]
      clear hg
      cases hl : isLow c0 with
      | false =>
        have HL := Lib.hid hl
        clear hl
        go_enter Tryd.func40, Tryd.ntmps40
        go_wp2_with (go_at_call 36; refine (letter_any c0 _).mono ?_; rintro e w' ⟨rfl, rfl⟩; rw [HL.out])
        go_ret
        exact ret_bool (by rw [HV.out, HL.out]; rfl)
      | true =>
        have HL := Lib.hid hl
        clear hl
        go_enter Tryd.func40, Tryd.ntmps40
        go_wp2_with (go_at_call 36; refine (letter_any c0 _).mono ?_; rintro e w' ⟨rfl, rfl⟩; rw [HL.out])
        go_loop [3] (fun i => ∃ k : Nat, 1 ≤ k ∧ k ≤ s.size ∧ i = .int .i64 k ∧ Hid ((s.data.toList.drop 1).all isRow = (s.data.toList.drop k).all isRow)) (fun i => s.size - (intOf i).toNat)
        case atStart => exact ⟨1, by omega, by omega, rfl, rfl⟩
        case round =>
          obtain ⟨k, hk1, hk, rfl, HA⟩ := hrel
          by_cases hlt : k < s.size
          · have hg := get_list s k hlt
            generalize hck : s[k]'hlt = c at hg
            have HD : Hid ((s.data.toList.drop k).all isRow = (isRow c && (s.data.toList.drop (k + 1)).all isRow)) := by
              rw [Hid, List.drop_eq_getElem_cons (by rw [HS]; exact hlt), ← hg]; rfl
            clear hg
            go_wp2_with (first
              | (go_at_call 36; refine (letter_any c _).mono ?_; rintro e w' ⟨rfl, rfl⟩)
              | (go_at_call 37; refine (digit_any c _).mono ?_; rintro e w' ⟨rfl, rfl⟩))
            · have hr : isRow c = true := by simp_all [isRow]
              exact ⟨⟨k + 1, by omega, by omega, by push_cast; rfl, by rw [Hid, HA.out, HD.out, hr]; rfl⟩, by simp [intOf]; omega⟩
            · have hr : isRow c = false := by simp_all [isRow]
              go_ret
              exact ret_bool (by rw [HV.out, HL.out, HA.out, HD.out, hr]; rfl)
            · have hr : isRow c = true := by simp_all [isRow]
              exact ⟨⟨k + 1, by omega, by omega, by push_cast; rfl, by rw [Hid, HA.out, HD.out, hr]; rfl⟩, by simp [intOf]; omega⟩
          · have HE : Hid ((s.data.toList.drop k).all isRow = true) := by rw [Hid, List.drop_of_length_le (by omega)]; rfl
            go_wp2
            go_ret
            exact ret_bool (by rw [HV.out, HL.out, HA.out, HE.out]; rfl)
    · go_enter Tryd.func40, Tryd.ntmps40
      go_wp2
      go_ret
      exact ret_bool (by simp [wordB, HS, h8])
  · go_enter Tryd.func40, Tryd.ntmps40
    go_wp2
    go_ret
    exact ret_bool (by simp [wordB, HS, h1])

def signB (l : List UInt8) : Bool := [[124], [124, 124], [38], [38, 38], [59], [43], [60], [62], [95], [91], [93], [40], [41], [44], [33], [123], [125]].contains l

set_option maxRecDepth 100000 in
set_option maxHeartbeats 4000000 in
theorem sign_any (s : ByteArray) (w : World) : Calls Tryd.prog 45 #[.string s] w fun e w' => e = .returned (.bool (signB s.data.toList)) ∧ w' = w := by
  go_enter Tryd.func45, Tryd.ntmps45
  go_wp2
  all_goals go_ret
  all_goals (refine ret_bool ?_; rw [← ByteArray.toList_eq]; simp_all [signB])

/-- How many letters and digits stand from a place on. -/
def rowN (l : List UInt8) : Nat := (rowOf l).length

set_option maxRecDepth 100000 in
set_option maxHeartbeats 2000000 in
theorem row46_any (s : ByteArray) (at_ : Nat) (hs : s.size ≤ 4611686018427387904) (ha : at_ ≤ s.size) (w : World) : Calls Tryd.prog 46 #[.string s, .int .i64 at_] w fun e w' => e = .returned (.int .i64 (rowN (s.data.toList.drop at_))) ∧ w' = w := by
  have HS := size_list s
  go_enter Tryd.func46, Tryd.ntmps46
  go_wp2
  go_loop [5] (fun i => ∃ k : Nat, at_ + k ≤ s.size ∧ i = .int .i64 k ∧ Hid (rowN (s.data.toList.drop at_) = k + rowN (s.data.toList.drop (at_ + k)))) (fun i => s.size - (intOf i).toNat)
  case atStart => exact ⟨0, by omega, rfl, by simp [Hid]⟩
  case round =>
    obtain ⟨k, hk, rfl, HA⟩ := hrel
    by_cases hlt : at_ + k < s.size
    · have hg := get_list s (at_ + k) hlt
      generalize hck : s[at_ + k]'hlt = c at hg
      have HD : Hid (rowN (s.data.toList.drop (at_ + k)) = if isRow c then 1 + rowN (s.data.toList.drop (at_ + (k + 1))) else 0) := by
        rw [Hid, List.drop_eq_getElem_cons (by rw [HS]; exact hlt), ← hg]
        simp only [rowN, rowOf, List.takeWhile_cons]
        rw [show at_ + (k + 1) = at_ + k + 1 by omega]
        split
        · rw [List.length_cons]; omega
        · rfl
      clear hg
      have hii : ∀ W, (Instr.index 9 (.string s) (.int .i64 ((at_ : Int) + k))).run Tryd.prog W = .ok (.int .u8 c.toNat) W := by
        intro W
        rw [run_index_string W 9 s .i64 _ Tryd.underlying9, dif_pos (by omega)]
        have : ((at_ : Int) + k).toNat = at_ + k := by omega
        simp only [this, hck]
      go_wp2_with (first
        | (go_at_call 36; refine (letter_any c _).mono ?_; rintro e w' ⟨rfl, rfl⟩)
        | (go_at_call 37; refine (digit_any c _).mono ?_; rintro e w' ⟨rfl, rfl⟩))
      · have hr : isRow c = true := by simp_all [isRow]
        rw [if_pos hr] at HD
        exact ⟨⟨k + 1, by omega, by push_cast; rfl, by rw [Hid, HA.out, HD.out]; omega⟩, by simp [intOf]; omega⟩
      · have hr : isRow c = true := by simp_all [isRow]
        rw [if_pos hr] at HD
        exact ⟨⟨k + 1, by omega, by push_cast; rfl, by rw [Hid, HA.out, HD.out]; omega⟩, by simp [intOf]; omega⟩
      · have hr : isRow c = false := by simp_all [isRow]
        go_ret
        exact ret_int (by rw [HA.out, HD.out, hr]; rfl)
    · have HE : Hid (rowN (s.data.toList.drop (at_ + k)) = 0) := by rw [Hid, List.drop_of_length_le (by omega)]; rfl
      go_wp2
      go_ret
      exact ret_int (by rw [HA.out, HE.out]; rfl)
end Go.Proofs.YtipbgaiaoahnmaaDoor
