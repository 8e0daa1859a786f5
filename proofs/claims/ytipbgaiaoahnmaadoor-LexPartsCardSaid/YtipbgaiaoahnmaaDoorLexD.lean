/- The book of layer 15: kinds, names, how long a token is, what may stand beside what. -/
import Derived.Deep.QuietTactic
import Derived.BigQuiet
import Derived.Test.YtipbgaiaoahnmaaDoorLexC
import Derived.Test.YtipbgaiaoahnmaaDoorLexE
namespace Go.Proofs.YtipbgaiaoahnmaaDoor
open Go.RowKit Go.Shelf

def kindB (l : List UInt8) : Int := if wordB l then 1 else if numB l then 2 else if signB l then 3 else 0

set_option maxRecDepth 100000 in
set_option maxHeartbeats 2000000 in
theorem kind35_any (s : ByteArray) (hs : s.size ≤ 4611686018427387904) (w : World) : Calls Tryd.prog 35 #[.string s] w fun e w' => e = .returned (.int .u8 (kindB s.data.toList)) ∧ w' = w := by
  go_enter Tryd.func35, Tryd.ntmps35
  go_wp2_with (first
    | (go_at_call 40; refine (word_any _ hs _).mono ?_; rintro e w' ⟨rfl, rfl⟩)
    | (go_at_call 47; refine (number_any _ hs _).mono ?_; rintro e w' ⟨rfl, rfl⟩)
    | (go_at_call 45; refine (sign_any _ _).mono ?_; rintro e w' ⟨rfl, rfl⟩))
  all_goals go_ret
  all_goals (refine ret_int ?_; simp_all [kindB])

def nameB (l : List UInt8) : Bool := wordB l && l != [116, 114, 117, 101] && l != [102, 97, 108, 115, 101] && l != [111, 111]

set_option maxRecDepth 100000 in
set_option maxHeartbeats 2000000 in
theorem name20_any (s : ByteArray) (hs : s.size ≤ 4611686018427387904) (w : World) : Calls Tryd.prog 20 #[.string s] w fun e w' => e = .returned (.bool (nameB s.data.toList)) ∧ w' = w := by
  go_enter Tryd.func20, Tryd.ntmps20
  go_wp2_with (go_at_call 40; refine (word_any _ hs _).mono ?_; rintro e w' ⟨rfl, rfl⟩)
  all_goals go_ret
  all_goals (refine ret_bool ?_; rw [← ByteArray.toList_eq] at *; simp_all [nameB, bne])

/-- How long what stands at a place is, that is to be a token. -/
def longN (l : List UInt8) : Nat := if rowN l = 0 ∧ 2 ≤ l.length ∧ signB (l.take 2) = true then 2 else max 1 (rowN l)

set_option maxRecDepth 100000 in
set_option maxHeartbeats 2000000 in
theorem long_any (s : ByteArray) (at_ : Nat) (hs : s.size ≤ 4611686018427387904) (ha : at_ ≤ s.size) (w : World) : Calls Tryd.prog 34 #[.string s, .int .i64 at_] w fun e w' => e = .returned (.int .i64 (longN (s.data.toList.drop at_))) ∧ w' = w := by
  have HS := size_list s
  have HR := row46_any s at_ hs ha
  obtain ⟨n, hn⟩ : ∃ n, rowN (s.data.toList.drop at_) = n := ⟨_, rfl⟩
  have hn2 : n ≤ s.size := by
    have := rowOf_len (s.data.toList.drop at_)
    rw [List.length_drop, HS] at this
    rw [← hn, rowN]; omega
  rw [hn] at HR
  by_cases h0 : n = 0
  · subst h0
    by_cases h2 : at_ + 2 ≤ s.size
    · have HX : Hid ((s.extract at_ (at_ + 2)).data.toList = (s.data.toList.drop at_).take 2) := by rw [Hid, Lib.extract_data]; congr 1; omega
      have hsl : ∀ W, (Instr.slice 9 (.string s) (some (.int .i64 (at_ : Int))) (some (.int .i64 ((at_ : Int) + 2))) none).run Tryd.prog W = .ok (.string (s.extract at_ (at_ + 2))) W := fun W => by
        rw [run_slice_string W 9 s .i64 .i64 _ _ Tryd.underlying9 (by omega) (by omega) (by omega)]
        rfl
      have HV : Hid (longN (s.data.toList.drop at_) = if signB ((s.data.toList.drop at_).take 2) = true then 2 else 1) := by
        have : 2 ≤ s.size - at_ := by omega
        simp [Hid, longN, hn, this]
      have HN := Lib.hid hn
      clear hn
      generalize s.extract at_ (at_ + 2) = x at hsl HX
      go_enter Tryd.func34, Tryd.ntmps34
      go_wp2_with (first
        | (go_at_call 46; refine (HR _).mono ?_; rintro e w' ⟨rfl, rfl⟩)
        | (go_at_call 45; refine (sign_any _ _).mono ?_; rintro e w' ⟨rfl, rfl⟩; rw [HX.out]))
      all_goals go_ret
      all_goals (refine ret_int ?_; rw [HV.out]; simp_all)
    · have HV : Hid (longN (s.data.toList.drop at_) = 1) := by
        have : ¬ 2 ≤ (s.data.toList.drop at_).length := by rw [List.length_drop, HS]; omega
        rw [Hid, longN, hn, if_neg (fun h => this h.2.1)]
        rfl
      have HN := Lib.hid hn
      clear hn
      go_enter Tryd.func34, Tryd.ntmps34
      go_wp2_with (go_at_call 46; refine (HR _).mono ?_; rintro e w' ⟨rfl, rfl⟩)
      go_ret
      exact ret_int (by rw [HV.out]; rfl)
  · have HV : Hid (longN (s.data.toList.drop at_) = n) := by
      simp [Hid, longN, hn, h0]
      omega
    have HN := Lib.hid hn
    have hm : max 1 (n : Int) = n := by omega
    have h0' : ((n : Int) == 0) = false := by simp; omega
    clear hn h0
    go_enter Tryd.func34, Tryd.ntmps34
    go_wp2_with (go_at_call 46; refine (HR _).mono ?_; rintro e w' ⟨rfl, rfl⟩)
    all_goals go_ret
    all_goals (refine ret_int ?_; rw [HV.out]; try omega)

/-- May a token be? -/
def mayB (k : Int) (t : List UInt8) (p : Int) : Bool := (k != 0) && (k == kindB t) && decide (0 ≤ p)

set_option maxRecDepth 100000 in
set_option maxHeartbeats 4000000 in
theorem may31_any (k p : Int) (s : ByteArray) (hs : s.size ≤ 4611686018427387904) (w : World) : Calls Tryd.prog 31 #[.agg #[.int .u8 k, .string s, .int .i64 p]] w fun e w' => e = .returned (.bool (mayB k s.data.toList p)) ∧ Below w.heap.size w w' := by
  by_cases h0 : k = 0
  · subst h0
    go_enter Tryd.func31, Tryd.ntmps31
    go_wp2_with fail
    go_quiet (fail)
    go_wp2_with fail
    go_ret
    exact ⟨ret_bool' (by simp [mayB]), belowDrewN ((Below.refl _ w).alloc (Nat.le_refl _) _) _⟩
  · have h0' : (k != 0) = true := by simpa using h0
    cases h1 : k == kindB s.data.toList with
    | false =>
      go_enter Tryd.func31, Tryd.ntmps31
      go_wp2_with fail
      go_quiet (first | (go_at_call 35; refine Calls.quiet_of_same (kind35_any _ hs _)))
      go_wp2_with fail
      go_ret
      exact ⟨ret_bool' (by rw [mayB, h0', h1]; rfl), belowDrewN ((Below.refl _ w).alloc (Nat.le_refl _) _) _⟩
    | true =>
      go_enter Tryd.func31, Tryd.ntmps31
      go_wp2_with fail
      go_quiet (first | (go_at_call 35; refine Calls.quiet_of_same (kind35_any _ hs _)))
      go_wp2_with fail
      go_ret
      exact ⟨ret_bool' (by rw [mayB, h0', h1]; rfl), belowDrewN ((Below.refl _ w).alloc (Nat.le_refl _) _) _⟩

/-- May one stand right behind another one? -/
def besideB (a b : List UInt8) : Bool :=
  if (a.head?.map isRow == some true) || (b.head?.map isRow == some true) then !((a.head?.map isRow == some true) && (b.head?.map isRow == some true)) else !signB (a ++ b.take 1)

theorem head_list (s : ByteArray) (h : 0 < s.size) : s.data.toList.head? = some (s[0]'h) := by
  rw [get_list s 0 h, List.head?_eq_getElem?, List.getElem?_eq_getElem]

set_option maxRecDepth 100000 in
set_option maxHeartbeats 4000000 in
theorem beside32_any (a b : ByteArray) (ha0 : 0 < a.size) (hb0 : 0 < b.size) (has : a.size ≤ 1048576) (w : World) : Calls Tryd.prog 32 #[.string a, .string b] w fun e w' => e = .returned (.bool (besideB a.data.toList b.data.toList)) ∧ w' = w := by
  have h1 := head_list a ha0
  have h2 := head_list b hb0
  generalize hx : a[0]'ha0 = x at h1
  generalize hy : b[0]'hb0 = y at h2
  have HV : Hid (besideB a.data.toList b.data.toList = if isRow x || isRow y then !(isRow x && isRow y) else !signB (a.data.toList ++ b.data.toList.take 1)) := by
    simp [Hid, besideB, h1, h2]
  clear h1 h2
  have HX : Hid ((a ++ b.extract 0 1).data.toList = a.data.toList ++ b.data.toList.take 1) := by
    simp [Hid, ByteArray.data_append, ByteArray.data_extract]
  have hadd : ∀ W, (Op.stringOp .add a (b.extract 0 1)).run Tryd.prog W = .ok (.string (a ++ b.extract 0 1)) W := fun W => run_string_add_sum W a _ (by
    have : (b.extract 0 1).size ≤ 1 := by rw [ByteArray.size_extract]; omega
    omega)
  generalize a ++ b.extract 0 1 = z at hadd HX
  go_enter Tryd.func32, Tryd.ntmps32
  go_wp2_with (first
    | (go_at_call 36; refine (letter_any x _).mono ?_; rintro e w' ⟨rfl, rfl⟩)
    | (go_at_call 37; refine (digit_any x _).mono ?_; rintro e w' ⟨rfl, rfl⟩)
    | (go_at_call 36; refine (letter_any y _).mono ?_; rintro e w' ⟨rfl, rfl⟩)
    | (go_at_call 37; refine (digit_any y _).mono ?_; rintro e w' ⟨rfl, rfl⟩)
    | (go_at_call 45; refine (sign_any z _).mono ?_; rintro e w' ⟨rfl, rfl⟩; rw [HX.out]))
  all_goals go_ret
  all_goals (refine ret_bool ?_; rw [HV.out]; simp_all [isRow])
end Go.Proofs.YtipbgaiaoahnmaaDoor
