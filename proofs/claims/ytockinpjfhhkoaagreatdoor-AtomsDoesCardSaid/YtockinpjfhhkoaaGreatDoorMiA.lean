/- The book of layer 15: letters, digits, words, names. -/
import Derived.Deep.QuietTactic
import Derived.Test.YtockinpjfhhkoaaGreatDoorMgA
import Derived.Test.YtockinpjfhhkoaaGreatDoorMgC
import Derived.Test.YtockinpjfhhkoaaGreatDoorMgN
import Derived.Test.YtockinpjfhhkoaaGreatDoorMgB
import Derived.Test.YtockinpjfhhkoaaGreatDoorMgM
import Derived.Test.YtockinpjfhhkoaaGreatDoorMhE
namespace Go.Proofs.YtockinpjfhhkoaaGreatDoor
open Go.RowKit Go.Shelf

set_option maxRecDepth 100000 in
set_option maxHeartbeats 2000000 in
theorem letter_any (b : UInt8) (w : World) : Calls Tryz.prog 235 #[.int .u8 b.toNat] w fun e w' => e = .returned (.bool (isLow b)) ∧ w' = w := by
  go_enter Tryz.func235, Tryz.ntmps235
  go_wp2
  all_goals go_ret
  all_goals (refine ret_bool ?_; rw [Bool.eq_iff_iff]; simp [isLow]; try omega)
set_option maxRecDepth 100000 in
set_option maxHeartbeats 2000000 in
theorem digit_any (b : UInt8) (w : World) : Calls Tryz.prog 236 #[.int .u8 b.toNat] w fun e w' => e = .returned (.bool (isDig b)) ∧ w' = w := by
  go_enter Tryz.func236, Tryz.ntmps236
  go_wp2
  all_goals go_ret
  all_goals (refine ret_bool ?_; rw [Bool.eq_iff_iff]; simp [isDig]; try omega)
set_option maxRecDepth 100000 in
set_option maxHeartbeats 2000000 in
theorem word_any (s : ByteArray) (hs : s.size ≤ 4611686018427387904) (w : World) : Calls Tryz.prog 219 #[.string s] w fun e w' => e = .returned (.bool (wordB s.data.toList)) ∧ w' = w := by
  have HS := size_list s
  by_cases h1 : 1 ≤ s.size
  · by_cases h8 : s.size ≤ 8
    · have hg := get_list s 0 (by omega)
      generalize hc0 : s[0]'(by omega) = c0 at hg
      have HV : Hid (wordB s.data.toList = (isLow c0 && (s.data.toList.drop 1).all isRow)) := by
        rw [Hid, wordB, HS]
        have : s.data.toList.head? = some c0 := by rw [hg, List.head?_eq_getElem?, List.getElem?_eq_getElem]
        simp [h1, h8, this]
      clear hg
      cases hl : isLow c0 with
      | false =>
        have HL := Lib.hid hl
        clear hl
        go_enter Tryz.func219, Tryz.ntmps219
        go_wp2_with (go_at_call 235; refine (letter_any c0 _).mono ?_; rintro e w' ⟨rfl, rfl⟩; rw [HL.out])
        go_ret
        exact ret_bool (by rw [HV.out, HL.out]; rfl)
      | true =>
        have HL := Lib.hid hl
        clear hl
        go_enter Tryz.func219, Tryz.ntmps219
        go_wp2_with (go_at_call 235; refine (letter_any c0 _).mono ?_; rintro e w' ⟨rfl, rfl⟩; rw [HL.out])
        go_loop [3] (fun i => ∃ k : Nat, 1 ≤ k ∧ k ≤ s.size ∧ i = .int .i64 k ∧ Hid ((s.data.toList.drop 1).all isRow = (s.data.toList.drop k).all isRow)) (fun i => s.size - (intOf i).toNat)
        case atStart => exact ⟨1, by omega, by omega, rfl, rfl⟩
        case round =>
          obtain ⟨k, hk1, hk, rfl, HA⟩ := hrel
          by_cases hlt : k < s.size
          · have hg := get_list s k hlt
            generalize hck : s[k]'hlt = c at hg
            have HD : Hid ((s.data.toList.drop k).all isRow = (isRow c && (s.data.toList.drop (k + 1)).all isRow)) := by
              rw [Hid, List.drop_eq_getElem_cons (by rw [HS]; exact hlt), ← hg]; rfl
            clear hg
            go_wp2_with (first
              | (go_at_call 235; refine (letter_any c _).mono ?_; rintro e w' ⟨rfl, rfl⟩)
              | (go_at_call 236; refine (digit_any c _).mono ?_; rintro e w' ⟨rfl, rfl⟩))
            · have hr : isRow c = true := by simp_all [isRow]
              exact ⟨⟨k + 1, by omega, by omega, by push_cast; rfl, by rw [Hid, HA.out, HD.out, hr]; rfl⟩, by simp [intOf]; omega⟩
            · have hr : isRow c = false := by simp_all [isRow]
              go_ret
              exact ret_bool (by rw [HV.out, HL.out, HA.out, HD.out, hr]; rfl)
            · have hr : isRow c = true := by simp_all [isRow]
              exact ⟨⟨k + 1, by omega, by omega, by push_cast; rfl, by rw [Hid, HA.out, HD.out, hr]; rfl⟩, by simp [intOf]; omega⟩
          · have HE : Hid ((s.data.toList.drop k).all isRow = true) := by rw [Hid, List.drop_of_length_le (by omega)]; rfl
            go_wp2
            go_ret
            exact ret_bool (by rw [HV.out, HL.out, HA.out, HE.out]; rfl)
    · go_enter Tryz.func219, Tryz.ntmps219
      go_wp2
      go_ret
      exact ret_bool (by simp [wordB, HS, h8])
  · go_enter Tryz.func219, Tryz.ntmps219
    go_wp2
    go_ret
    exact ret_bool (by simp [wordB, HS, h1])
set_option maxRecDepth 100000 in
set_option maxHeartbeats 2000000 in
theorem name95_any (s : ByteArray) (hs : s.size ≤ 4611686018427387904) (w : World) : Calls Tryz.prog 177 #[.string s] w fun e w' => e = .returned (.bool (nameB s.data.toList)) ∧ w' = w := by
  go_enter Tryz.func177, Tryz.ntmps177
  go_wp2_with (go_at_call 219; refine (word_any _ hs _).mono ?_; rintro e w' ⟨rfl, rfl⟩)
  all_goals go_ret
  all_goals (refine ret_bool ?_; rw [← ByteArray.toList_eq] at *; simp_all [nameB, bne])
end Go.Proofs.YtockinpjfhhkoaaGreatDoor

/- The book of layer 16: where a name stands, whether names may be, intervals. -/
namespace Go.Proofs.YtockinpjfhhkoaaGreatDoor
open Go.RowKit

theorem beqT (a b : List UInt8) : (a == b) = (b == a) := by
  rw [Bool.eq_iff_iff, beq_iff_eq, beq_iff_eq]
  exact eq_comm
set_option maxRecDepth 100000 in
set_option maxHeartbeats 4000000 in
theorem at96_any (l : List ByteArray) (v : Value) (s : ByteArray) (w : World) (hn : NRep w w.heap.size v l) :
    Calls Tryz.prog 165 #[v, .string s] w fun e w' => e = .returned (.int .i64 (idxN s l)) ∧ w' = w := by
  obtain ⟨a, c, rfl, hm, hn⟩ := hn
  have HA : Hid (∀ j (h : j < l.length), (∀ i (hi : i < l.length), i < j → ((l[i]).toList == s.toList) = false) → ((l[j]).toList == s.toList) = true → idxN s l = j) := by
    intro j h h0 h1
    exact idxN_at s l j h (fun i hi hlt => by rw [beqT]; exact h0 i hi hlt) (by rw [beqT]; exact h1)
  have HN : Hid ((∀ i (hi : i < l.length), i < l.length → ((l[i]).toList == s.toList) = false) → idxN s l = -1) := by
    intro h0
    exact idxN_none s l (fun i hi hlt => by rw [beqT]; exact h0 i hi hlt)
  go_enter Tryz.func165, Tryz.ntmps165
  go_wp2_with fail
  go_loopw [5] (fun i wr => ∃ j : Nat, j ≤ l.length ∧ i = .int .i64 j ∧ Hid (∀ i (hi : i < l.length), i < j → ((l[i]).toList == s.toList) = false) ∧ wr = w) (fun i _ => l.length - (intOf i).toNat)
  case atStart => exact ⟨0, Nat.zero_le _, rfl, fun _ _ h => absurd h (by omega), rfl⟩
  case round =>
    obtain ⟨j, hj, rfl, HT, rfl⟩ := hrel
    by_cases hlt : j < l.length
    · rcases hn with hn | ⟨b, off, rfl, hb, hc⟩
      · rw [hn] at hlt; exact absurd hlt (by simp)
      · have c0 := hc j hlt
        have HC := Lib.hid hc
        clear hc
        have HAj := Lib.hid (HA.out j hlt HT.out)
        have hltI : ((j : Nat) : Int) < ((l.length : Nat) : Int) := by omega
        cases q : ((l[j]).toList == s.toList) with
        | true =>
          have HR := Lib.hid (HAj.out q)
          go_wp2_with fail
          all_goals go_ret
          all_goals exact ⟨ret_i (by rw [HR.out]), rfl⟩
        | false =>
          have HT' : Hid (∀ i (hi : i < l.length), i < j + 1 → ((l[i]).toList == s.toList) = false) := by
            intro i hi hlt2
            by_cases he : i = j
            · subst he; exact q
            · exact HT.out i hi (by omega)
          go_wp2_with fail
          go_roundw
          case rel => exact ⟨j + 1, by omega, by go_num, HT', by first | trivial | rfl⟩
          case measure => simp [intOf]; omega
    · have hje : j = l.length := by omega
      have HR : Hid (idxN s l = -1) := HN.out (fun i hi _ => HT.out i hi (by omega))
      have hltI : ¬ ((j : Nat) : Int) < ((l.length : Nat) : Int) := by omega
      go_wp2_with fail
      all_goals go_ret
      all_goals exact ⟨ret_i (by rw [HR.out]), rfl⟩
/-- Each name may be one, and stands first where it stands. -/
def mayGo (l : List ByteArray) (j : Nat) : Bool := (List.range j).all fun i => match l[i]? with
  | some x => nameB x.data.toList && (idxN x l == (i : Int))
  | none => true
theorem mayGo_succ (l : List ByteArray) (j : Nat) (h : j < l.length) : mayGo l (j + 1) = (mayGo l j && (nameB l[j].data.toList && (idxN l[j] l == (j : Int)))) := by
  unfold mayGo
  rw [List.range_succ, List.all_append]
  simp [h]
theorem idxN_first (l : List ByteArray) (j : Nat) (h : j < l.length) : (idxN l[j] l == (j : Int)) = !inN l[j] (l.take j) := by
  by_cases hin : inN l[j] (l.take j) = true
  · rw [hin]
    unfold inN at hin
    rw [List.any_eq_true] at hin
    obtain ⟨x, hx, he⟩ := hin
    obtain ⟨i, hi, rfl⟩ := List.getElem_of_mem hx
    rw [List.length_take] at hi
    rw [List.getElem_take] at he
    have hlt : idxN l[j] l ≠ (j : Int) := by
      intro e
      unfold idxN at e
      cases hf : l.findIdx? (fun x => l[j].toList == x.toList) with
      | none =>
        rw [List.findIdx?_eq_none_iff] at hf
        have := hf l[j] (List.getElem_mem _)
        simp at this
      | some k =>
        rw [hf] at e
        rw [List.findIdx?_eq_some_iff_getElem] at hf
        obtain ⟨hk, _, h2⟩ := hf
        have hkj : k = j := by
          have e' : (k : Int) = (j : Int) := e
          omega
        have := h2 i (by omega)
        rw [he] at this
        simp at this
    simpa using hlt
  · have hin' : inN l[j] (l.take j) = false := by simpa using hin
    rw [hin']
    have := idxN_at l[j] l j h (fun i hi hlt => by
      by_cases hq : (l[j].toList == (l[i]).toList) = true
      · exfalso
        apply hin
        unfold inN
        rw [List.any_eq_true]
        exact ⟨l[i], by rw [List.mem_take_iff_getElem]; exact ⟨i, by omega, rfl⟩, hq⟩
      · simpa using hq) (by simp)
    rw [this]
    simp
theorem namesGo_cons (l : List ByteArray) : ∀ (r p : List ByteArray), p ++ r = l → namesGo p.reverse r = ((List.range r.length).all fun i => match r[i]? with
    | some x => nameB x.data.toList && !inN x (l.take (p.length + i))
    | none => true)
  | [], p, _ => rfl
  | x :: r, p, h => by
    have hx : inN x p.reverse = inN x p := by unfold inN; rw [List.any_reverse]
    have ht : l.take p.length = p := by rw [← h]; simp
    have ih := namesGo_cons l r (p ++ [x]) (by rw [← h]; simp)
    rw [List.reverse_append] at ih
    have ih' : namesGo (x :: p.reverse) r = _ := ih
    rw [namesGo, ih', hx, List.length_cons, List.range_succ_eq_map, List.all_cons, List.all_map]
    simp only [List.getElem?_cons_zero, Nat.add_zero, ht]
    rw [Bool.and_comm (!inN x p)]
    congr 1
    apply congrArg
    funext i
    simp only [Function.comp, List.getElem?_cons_succ, List.length_append, List.length_cons, List.length_nil]
    rw [show p.length + (0 + 1) + i = p.length + (i + 1) by omega]
theorem mayGo_all (l : List ByteArray) : mayGo l l.length = namesGo [] l := by
  rw [show ([] : List ByteArray) = ([] : List ByteArray).reverse from rfl, namesGo_cons l l [] rfl]
  unfold mayGo
  rw [List.all_eq, List.all_eq]
  congr 1
  apply propext
  constructor
  · intro h i hi
    have := h i hi
    rw [List.mem_range] at hi
    rw [List.getElem?_eq_getElem hi] at this ⊢
    dsimp only at this ⊢
    rw [idxN_first l i hi] at this
    simpa using this
  · intro h i hi
    have := h i hi
    rw [List.mem_range] at hi
    rw [List.getElem?_eq_getElem hi] at this ⊢
    dsimp only at this ⊢
    rw [idxN_first l i hi]
    simpa using this
end Go.Proofs.YtockinpjfhhkoaaGreatDoor

/- The book of layer 16: whether names may be, intervals. -/
namespace Go.Proofs.YtockinpjfhhkoaaGreatDoor
open Go.RowKit

theorem mayR_eq (l : List ByteArray) : decide (namesR l = 0) = (mayGo l l.length && decide (l.length ≤ 8)) := by
  rw [mayGo_all]
  unfold namesR
  cases namesGo [] l <;> by_cases h : 8 < l.length <;> simp [h] <;> omega
theorem mayGo_false (l : List ByteArray) (j : Nat) (h : j < l.length) (hn : mayGo l (j + 1) = false) : decide (namesR l = 0) = false := by
  rw [mayR_eq]
  have : mayGo l l.length = false := by
    unfold mayGo at hn ⊢
    rw [List.all_eq_false] at hn ⊢
    obtain ⟨i, hi, hx⟩ := hn
    exact ⟨i, by rw [List.mem_range] at hi ⊢; omega, hx⟩
  rw [this]; rfl
set_option maxRecDepth 100000 in
set_option maxHeartbeats 4000000 in
theorem mayNames46_any (l : List ByteArray) (v : Value) (hs : ∀ s ∈ l, s.size ≤ 4611686018427387904) (w : World) (hn : NRep w w.heap.size v l) :
    Calls Tryz.prog 103 #[v] w fun e w' => e = .returned (.bool (decide (namesR l = 0))) ∧ w' = w := by
  have HN := Lib.hid hn
  obtain ⟨a, c, rfl, hm, hn⟩ := hn
  have HS := Lib.hid hs
  have HF := Lib.hid (mayGo_false l)
  have HG := Lib.hid (mayGo_succ l)
  have HE := Lib.hid (mayR_eq l)
  clear hs
  go_enter Tryz.func103, Tryz.ntmps103
  go_wp2_with fail
  go_loopw [3] (fun i wr => ∃ j : Nat, j ≤ l.length ∧ i = .int .i64 j ∧ Hid (mayGo l j = true) ∧ wr = w) (fun i _ => l.length - (intOf i).toNat)
  case atStart => exact ⟨0, Nat.zero_le _, rfl, rfl, rfl⟩
  case round =>
    obtain ⟨j, hj, rfl, HT, rfl⟩ := hrel
    by_cases hlt : j < l.length
    · rcases hn with hn | ⟨b, off, rfl, hb, hc⟩
      · rw [hn] at hlt; exact absurd hlt (by simp)
      · have c0 := hc j hlt
        have hltI : ((j : Nat) : Int) < ((l.length : Nat) : Int) := by omega
        have HC1 := Lib.hid (name95_any l[j] (HS.out _ (List.getElem_mem hlt)) wr)
        have HC2 := Lib.hid (at96_any l _ l[j] wr HN.out)
        have HJ := Lib.hid (HG.out j hlt)
        have HX := Lib.hid (HF.out j hlt)
        clear hc
        cases qn : nameB l[j].data.toList with
        | false =>
          have HR : Hid (decide (namesR l = 0) = false) := HX.out (by rw [HJ.out, qn]; simp)
          rw [qn] at HC1
          clear qn
          go_wp2_with fail
          refine HC1.out.mono ?_
          rintro e w' ⟨rfl, rfl⟩
          go_wp2_with fail
          all_goals go_ret
          all_goals exact ⟨ret_bool' (by rw [HR.out]), rfl⟩
        | true =>
          by_cases qi : idxN l[j] l = (j : Int)
          · have HT' : Hid (mayGo l (j + 1) = true) := by rw [Hid, HJ.out, HT.out, qn, qi]; simp
            rw [qn] at HC1
            rw [qi] at HC2
            clear qn qi
            go_wp2_with fail
            refine HC1.out.mono ?_
            rintro e w' ⟨rfl, rfl⟩
            go_wp2_with fail
            refine HC2.out.mono ?_
            rintro e w' ⟨rfl, rfl⟩
            go_wp2_with fail
            go_roundw
            case rel => exact ⟨j + 1, by omega, by go_num, HT', by first | trivial | rfl⟩
            case measure => simp [intOf]; omega
          · have HR : Hid (decide (namesR l = 0) = false) := HX.out (by rw [HJ.out]; simp [qi])
            have q1 : (idxN l[j] l != (j : Int)) = true := by simp [qi]
            rw [qn] at HC1
            generalize idxN l[j] l = z at HC2 q1
            clear qn qi
            go_wp2_with fail
            refine HC1.out.mono ?_
            rintro e w' ⟨rfl, rfl⟩
            go_wp2_with fail
            refine HC2.out.mono ?_
            rintro e w' ⟨rfl, rfl⟩
            go_wp2_with fail
            all_goals go_ret
            all_goals exact ⟨ret_bool' (by rw [HR.out]), rfl⟩
    · have hje : j = l.length := by omega
      subst hje
      have hltI : ¬ ((l.length : Nat) : Int) < ((l.length : Nat) : Int) := by omega
      clear hn
      go_wp2_with fail
      all_goals go_ret
      all_goals exact ⟨ret_bool' (by rw [HE.out, HT.out, Bool.true_and]; rw [Bool.eq_iff_iff]; simp; try omega), rfl⟩
def mayI (i : Spn) : Bool := !(i.op && (i.high != 0 || i.hs)) && (belowC i.low && belowC i.high)
def empI (i : Spn) : Bool := !i.op && (decide (i.high < i.low) || (i.low == i.high && (i.ls || i.hs)))
theorem mayI_iv (i : Spn) : mayI i = !(ivR i == 8) := by
  unfold mayI ivR
  generalize belowC i.low = a
  generalize belowC i.high = b
  generalize (i.op && (i.high != 0 || i.hs)) = c
  generalize (!i.op && (decide (i.high < i.low) || (i.low == i.high && (i.ls || i.hs)))) = d
  cases a <;> cases b <;> cases c <;> cases d <;> rfl
theorem ivR_two (i : Spn) : ivR i = if mayI i then (if empI i then 162 else 0) else 8 := by
  unfold mayI ivR empI
  generalize belowC i.low = a
  generalize belowC i.high = b
  generalize (i.op && (i.high != 0 || i.hs)) = c
  generalize (!i.op && (decide (i.high < i.low) || (i.low == i.high && (i.ls || i.hs)))) = d
  cases a <;> cases b <;> cases c <;> cases d <;> rfl
set_option maxRecDepth 100000 in
set_option maxHeartbeats 8000000 in
theorem mayInterval129_any (i : Spn) (w : World) : Calls Tryz.prog 178 #[i.val] w fun e w' => e = .returned (.bool (mayI i)) ∧ Below w.heap.size w w' := by
  obtain ⟨lo, ls, hi, hs, op⟩ := i
  unfold Spn.val
  dsimp only
  go_enter Tryz.func178, Tryz.ntmps178
  go_wp2_with fail
  all_goals go_ret
  all_goals (refine ⟨?_, (Below.refl _ _).alloc (Nat.le_refl _) _⟩; refine ret_bool' ?_; unfold mayI belowC; dsimp only; simp_all; try omega)
set_option maxRecDepth 100000 in
set_option maxHeartbeats 8000000 in
theorem empty132_any (i : Spn) (w : World) : Calls Tryz.prog 179 #[i.val] w fun e w' => e = .returned (.bool (empI i)) ∧ Below w.heap.size w w' := by
  obtain ⟨lo, ls, hi, hs, op⟩ := i
  unfold Spn.val
  dsimp only
  go_enter Tryz.func179, Tryz.ntmps179
  go_wp2_with fail
  all_goals go_ret
  all_goals (refine ⟨?_, (Below.refl _ _).alloc (Nat.le_refl _) _⟩; refine ret_bool' ?_; unfold empI; dsimp only; rw [Bool.eq_iff_iff]; simp_all; first | done | omega | (rw [show lo = hi by omega]; simp))
end Go.Proofs.YtockinpjfhhkoaaGreatDoor

/- The book of layer 16: formulas that are made right. (Printed by gen_bkd.py.) -/
namespace Go.Proofs.YtockinpjfhhkoaaGreatDoor
open Go.RowKit

theorem bk_top {w : World} {o : Obj} {k : Nat} (h : k = w.heap.size) : (w.alloc o).heap[k]? = some o := by subst h; exact Array.getElem?_push_size
theorem all_take_succ {α : Type} (p : α → Bool) (l : List α) (j : Nat) (h : j < l.length) : (l.take (j + 1)).all p = ((l.take j).all p && p l[j]) := by
  rw [List.take_succ_eq_append_getElem h, List.all_append]; simp
set_option maxRecDepth 100000 in
set_option maxHeartbeats 8000000 in
theorem rightF128_any (n : Nat) : ∀ (t : FT n) (v : Value) (w : World), FRep w w.heap.size n t v →
    Calls Tryz.prog 162 #[v] w fun e w' => e = .returned (.bool (allF rightB n t)) ∧ Below w.heap.size w w' := by
  induction n with
  | zero => intro t v w h; exact h.elim
  | succ n ih =>
    intro t v w h
    obtain ⟨k, s, of⟩ := t
    obtain ⟨a, c, rfl, hR⟩ := h
    have hR : FRow w w.heap.size n a of := hR
    dsimp only
    have HIH := Lib.hid ih
    have HR := Lib.hid hR
    have hm := hR.1
    have HS := Lib.hid (empty_size s)
    have hb0 : Below w.heap.size w (w.alloc (.cells #[.int .u8 k, .string s, .slice a of.length c] 25)) := (Below.refl _ w).alloc (Nat.le_refl _) _
    have HB0 := Lib.hid hb0
    have HA : Hid (allF rightB (n + 1) (k, s, of) = (rightB k s of.length && of.all (allF rightB n))) := rfl
    clear hR ih hb0
    have hk : k < 1 ∨ k = 1 ∨ k = 2 ∨ k = 3 ∨ k = 4 ∨ k = 5 ∨ k = 6 ∨ 6 < k := by omega
    rcases hk with h | rfl | rfl | rfl | rfl | rfl | rfl | h
    · have HRB : Hid (rightB k s of.length = false) := by
        have : decide (1 ≤ k) = false := by simp; omega
        rw [Hid]; unfold rightB; rw [this]; simp
      have q4 : (k == 4) = false := by simp; omega
      have q5 : (k == 5) = false := by simp; omega
      have q6 : (k == 6) = false := by simp; omega
      have HRES : Hid (allF rightB (n + 1) (k, s, of) = false) := by rw [Hid, HA.out, HRB.out, Bool.false_and]
      go_enter Tryz.func162, Tryz.ntmps162
      go_wp2_with fail
      all_goals go_ret
      all_goals exact ⟨ret_bool' (by rw [HRES.out]), HB0.out⟩
    · by_cases hl : of.length = 0
      · have hl1 : (((of.length : Nat) : Int) != 0) = false := by rw [bne_eq_false_iff_eq]; omega
        have hl2 : ((of.length : Nat) : Int) = 0 := by omega
        have HL := Lib.hid hl
        clear hl
        cases qs : s.toList.isEmpty with
        | true =>
          have HRB : Hid (rightB 1 s of.length = true) := by
            have h := HS.out
            have h0 : s.toList = [] := List.isEmpty_iff.1 qs
            rw [h0] at h
            have h1 : decide (s.size = 0) = true := by rw [← h]; rfl
            rw [Hid]; unfold rightB manyOf; rw [HL.out, h1]; rfl
          clear hl2
          go_enter Tryz.func162, Tryz.ntmps162
          go_wp2_with fail
          go_loopw [4] (fun i wr => ∃ j : Nat, j ≤ of.length ∧ i = .int .i64 j ∧ Hid ((of.take j).all (allF rightB n) = true) ∧ Hid (Below (w.alloc (.cells #[.int .u8 1, .string s, .slice a of.length c] 25)).heap.size (w.alloc (.cells #[.int .u8 1, .string s, .slice a of.length c] 25)) wr)) (fun i _ => of.length - (intOf i).toNat)
          case atStart => exact ⟨0, Nat.zero_le _, rfl, by simp [Hid], Below.refl _ _⟩
          case round =>
            obtain ⟨j, hj, rfl, HT, HBW⟩ := hrel
            have hkb : wr.heap[w.heap.size]? = some (.cells #[.int .u8 1, .string s, .slice a of.length c] 25 (0, 0)) := (HBW.out.block _ (by simp)).trans (bk_top rfl)
            have HBF : Hid (Below w.heap.size w wr) := HB0.out.trans (HBW.out.mono HB0.out.size)
            have HKB := Lib.hid hkb
            have x2 := Lib.cell_of_heap hkb 2
            simp only [List.getElem?_toArray, List.getElem?_cons_zero, List.getElem?_cons_succ] at x2
            clear hkb
            by_cases hlt : j < of.length
            · have hltI : ((j : Nat) : Int) < ((of.length : Nat) : Int) := by omega
              obtain ⟨b, off, k', s', sa, sl, sc, rfl, hbl, c0, c1, c2, hr⟩ := (HR.out.up HBF.out (Nat.le_refl _)).at j hlt
              have hz := HBF.out.size
              have hbl' : b < wr.heap.size := by omega
              have HC := Lib.hid (HIH.out of[j] _ wr (hr.up (Below.refl _ _) hz))
              have HTK := Lib.hid (all_take_succ (allF rightB n) of j hlt)
              have HF : Hid (allF rightB n of[j] = false → of.all (allF rightB n) = false) := fun h => List.all_eq_false.2 ⟨_, List.getElem_mem hlt, by rw [h]; simp⟩
              clear hr hz
              cases qq : allF rightB n of[j] with
              | true =>
                have HT' : Hid ((of.take (j + 1)).all (allF rightB n) = true) := by rw [Hid, HTK.out, HT.out, qq]; rfl
                rw [qq] at HC
                clear qq
                go_wp2_with fail
                refine HC.out.mono ?_
                rintro e w3 ⟨rfl, hb3⟩
                have HB3 := Lib.hid (HBW.out.trans (hb3.mono HBW.out.size))
                clear hb3 c0 c1 c2 hbl hbl' x2
                go_wp2_with fail
                go_roundw
                case rel => exact ⟨j + 1, by omega, by go_num, HT', HB3⟩
                case measure => simp [intOf]; omega
              | false =>
                have HRES : Hid (allF rightB (n + 1) (1, s, of) = false) := by rw [Hid, HA.out, HF.out qq, Bool.and_false]
                rw [qq] at HC
                clear qq
                go_wp2_with fail
                refine HC.out.mono ?_
                rintro e w3 ⟨rfl, hb3⟩
                have HB3 := Lib.hid (HBF.out.trans (hb3.mono HBF.out.size))
                clear hb3 c0 c1 c2 hbl hbl' x2
                go_wp2_with fail
                all_goals go_ret
                all_goals exact ⟨ret_bool' (by rw [HRES.out]), HB3.out⟩
            · have hje : j = of.length := by omega
              subst hje
              have hltI : ¬ ((of.length : Nat) : Int) < ((of.length : Nat) : Int) := by omega
              have HRES : Hid (allF rightB (n + 1) (1, s, of) = true) := by
                have h := HT.out
                rw [List.take_length] at h
                rw [Hid, HA.out, h, HRB.out]; rfl
              go_wp2_with fail
              all_goals go_ret
              all_goals exact ⟨ret_bool' (by rw [HRES.out]), HBF.out⟩
        | false =>
          have HS0 : Hid (decide (s.size = 0) = false) := by
            rw [Hid, ← HS.out]
            cases hh : s.toList with
            | nil => rw [hh] at qs; simp at qs
            | cons b r => rfl
          have HRB : Hid (rightB 1 s of.length = false) := by rw [Hid]; unfold rightB manyOf; rw [HL.out, HS0.out]; rfl
          clear hl2
          have HRES : Hid (allF rightB (n + 1) (1, s, of) = false) := by rw [Hid, HA.out, HRB.out, Bool.false_and]
          go_enter Tryz.func162, Tryz.ntmps162
          go_wp2_with fail
          all_goals go_ret
          all_goals exact ⟨ret_bool' (by rw [HRES.out]), HB0.out⟩
      · have hl1 : (((of.length : Nat) : Int) != 0) = true := by rw [bne_iff_ne]; omega
        have HRB : Hid (rightB 1 s of.length = false) := by
          have : (of.length == manyOf 1) = false := by rw [show manyOf 1 = 0 from rfl, beq_eq_false_iff_ne]; exact hl
          rw [Hid]; unfold rightB; rw [this]; simp
        clear hl
        have HRES : Hid (allF rightB (n + 1) (1, s, of) = false) := by rw [Hid, HA.out, HRB.out, Bool.false_and]
        go_enter Tryz.func162, Tryz.ntmps162
        go_wp2_with fail
        all_goals go_ret
        all_goals exact ⟨ret_bool' (by rw [HRES.out]), HB0.out⟩
    · by_cases hl : of.length = 0
      · have hl1 : (((of.length : Nat) : Int) != 0) = false := by rw [bne_eq_false_iff_eq]; omega
        have hl2 : ((of.length : Nat) : Int) = 0 := by omega
        have HL := Lib.hid hl
        clear hl
        cases qs : s.toList.isEmpty with
        | true =>
          have HRB : Hid (rightB 2 s of.length = true) := by
            have h := HS.out
            have h0 : s.toList = [] := List.isEmpty_iff.1 qs
            rw [h0] at h
            have h1 : decide (s.size = 0) = true := by rw [← h]; rfl
            rw [Hid]; unfold rightB manyOf; rw [HL.out, h1]; rfl
          clear hl2
          go_enter Tryz.func162, Tryz.ntmps162
          go_wp2_with fail
          go_loopw [4] (fun i wr => ∃ j : Nat, j ≤ of.length ∧ i = .int .i64 j ∧ Hid ((of.take j).all (allF rightB n) = true) ∧ Hid (Below (w.alloc (.cells #[.int .u8 2, .string s, .slice a of.length c] 25)).heap.size (w.alloc (.cells #[.int .u8 2, .string s, .slice a of.length c] 25)) wr)) (fun i _ => of.length - (intOf i).toNat)
          case atStart => exact ⟨0, Nat.zero_le _, rfl, by simp [Hid], Below.refl _ _⟩
          case round =>
            obtain ⟨j, hj, rfl, HT, HBW⟩ := hrel
            have hkb : wr.heap[w.heap.size]? = some (.cells #[.int .u8 2, .string s, .slice a of.length c] 25 (0, 0)) := (HBW.out.block _ (by simp)).trans (bk_top rfl)
            have HBF : Hid (Below w.heap.size w wr) := HB0.out.trans (HBW.out.mono HB0.out.size)
            have HKB := Lib.hid hkb
            have x2 := Lib.cell_of_heap hkb 2
            simp only [List.getElem?_toArray, List.getElem?_cons_zero, List.getElem?_cons_succ] at x2
            clear hkb
            by_cases hlt : j < of.length
            · have hltI : ((j : Nat) : Int) < ((of.length : Nat) : Int) := by omega
              obtain ⟨b, off, k', s', sa, sl, sc, rfl, hbl, c0, c1, c2, hr⟩ := (HR.out.up HBF.out (Nat.le_refl _)).at j hlt
              have hz := HBF.out.size
              have hbl' : b < wr.heap.size := by omega
              have HC := Lib.hid (HIH.out of[j] _ wr (hr.up (Below.refl _ _) hz))
              have HTK := Lib.hid (all_take_succ (allF rightB n) of j hlt)
              have HF : Hid (allF rightB n of[j] = false → of.all (allF rightB n) = false) := fun h => List.all_eq_false.2 ⟨_, List.getElem_mem hlt, by rw [h]; simp⟩
              clear hr hz
              cases qq : allF rightB n of[j] with
              | true =>
                have HT' : Hid ((of.take (j + 1)).all (allF rightB n) = true) := by rw [Hid, HTK.out, HT.out, qq]; rfl
                rw [qq] at HC
                clear qq
                go_wp2_with fail
                refine HC.out.mono ?_
                rintro e w3 ⟨rfl, hb3⟩
                have HB3 := Lib.hid (HBW.out.trans (hb3.mono HBW.out.size))
                clear hb3 c0 c1 c2 hbl hbl' x2
                go_wp2_with fail
                go_roundw
                case rel => exact ⟨j + 1, by omega, by go_num, HT', HB3⟩
                case measure => simp [intOf]; omega
              | false =>
                have HRES : Hid (allF rightB (n + 1) (2, s, of) = false) := by rw [Hid, HA.out, HF.out qq, Bool.and_false]
                rw [qq] at HC
                clear qq
                go_wp2_with fail
                refine HC.out.mono ?_
                rintro e w3 ⟨rfl, hb3⟩
                have HB3 := Lib.hid (HBF.out.trans (hb3.mono HBF.out.size))
                clear hb3 c0 c1 c2 hbl hbl' x2
                go_wp2_with fail
                all_goals go_ret
                all_goals exact ⟨ret_bool' (by rw [HRES.out]), HB3.out⟩
            · have hje : j = of.length := by omega
              subst hje
              have hltI : ¬ ((of.length : Nat) : Int) < ((of.length : Nat) : Int) := by omega
              have HRES : Hid (allF rightB (n + 1) (2, s, of) = true) := by
                have h := HT.out
                rw [List.take_length] at h
                rw [Hid, HA.out, h, HRB.out]; rfl
              go_wp2_with fail
              all_goals go_ret
              all_goals exact ⟨ret_bool' (by rw [HRES.out]), HBF.out⟩
        | false =>
          have HS0 : Hid (decide (s.size = 0) = false) := by
            rw [Hid, ← HS.out]
            cases hh : s.toList with
            | nil => rw [hh] at qs; simp at qs
            | cons b r => rfl
          have HRB : Hid (rightB 2 s of.length = false) := by rw [Hid]; unfold rightB manyOf; rw [HL.out, HS0.out]; rfl
          clear hl2
          have HRES : Hid (allF rightB (n + 1) (2, s, of) = false) := by rw [Hid, HA.out, HRB.out, Bool.false_and]
          go_enter Tryz.func162, Tryz.ntmps162
          go_wp2_with fail
          all_goals go_ret
          all_goals exact ⟨ret_bool' (by rw [HRES.out]), HB0.out⟩
      · have hl1 : (((of.length : Nat) : Int) != 0) = true := by rw [bne_iff_ne]; omega
        have HRB : Hid (rightB 2 s of.length = false) := by
          have : (of.length == manyOf 2) = false := by rw [show manyOf 2 = 0 from rfl, beq_eq_false_iff_ne]; exact hl
          rw [Hid]; unfold rightB; rw [this]; simp
        clear hl
        have HRES : Hid (allF rightB (n + 1) (2, s, of) = false) := by rw [Hid, HA.out, HRB.out, Bool.false_and]
        go_enter Tryz.func162, Tryz.ntmps162
        go_wp2_with fail
        all_goals go_ret
        all_goals exact ⟨ret_bool' (by rw [HRES.out]), HB0.out⟩
    · by_cases hl : of.length = 0
      · have hl1 : (((of.length : Nat) : Int) != 0) = false := by rw [bne_eq_false_iff_eq]; omega
        have hl2 : ((of.length : Nat) : Int) = 0 := by omega
        have HL := Lib.hid hl
        clear hl
        cases qs : s.toList.isEmpty with
        | true =>
          have HRB : Hid (rightB 3 s of.length = true) := by
            have h := HS.out
            have h0 : s.toList = [] := List.isEmpty_iff.1 qs
            rw [h0] at h
            have h1 : decide (s.size = 0) = true := by rw [← h]; rfl
            rw [Hid]; unfold rightB manyOf; rw [HL.out, h1]; rfl
          clear hl2
          go_enter Tryz.func162, Tryz.ntmps162
          go_wp2_with fail
          go_loopw [4] (fun i wr => ∃ j : Nat, j ≤ of.length ∧ i = .int .i64 j ∧ Hid ((of.take j).all (allF rightB n) = true) ∧ Hid (Below (w.alloc (.cells #[.int .u8 3, .string s, .slice a of.length c] 25)).heap.size (w.alloc (.cells #[.int .u8 3, .string s, .slice a of.length c] 25)) wr)) (fun i _ => of.length - (intOf i).toNat)
          case atStart => exact ⟨0, Nat.zero_le _, rfl, by simp [Hid], Below.refl _ _⟩
          case round =>
            obtain ⟨j, hj, rfl, HT, HBW⟩ := hrel
            have hkb : wr.heap[w.heap.size]? = some (.cells #[.int .u8 3, .string s, .slice a of.length c] 25 (0, 0)) := (HBW.out.block _ (by simp)).trans (bk_top rfl)
            have HBF : Hid (Below w.heap.size w wr) := HB0.out.trans (HBW.out.mono HB0.out.size)
            have HKB := Lib.hid hkb
            have x2 := Lib.cell_of_heap hkb 2
            simp only [List.getElem?_toArray, List.getElem?_cons_zero, List.getElem?_cons_succ] at x2
            clear hkb
            by_cases hlt : j < of.length
            · have hltI : ((j : Nat) : Int) < ((of.length : Nat) : Int) := by omega
              obtain ⟨b, off, k', s', sa, sl, sc, rfl, hbl, c0, c1, c2, hr⟩ := (HR.out.up HBF.out (Nat.le_refl _)).at j hlt
              have hz := HBF.out.size
              have hbl' : b < wr.heap.size := by omega
              have HC := Lib.hid (HIH.out of[j] _ wr (hr.up (Below.refl _ _) hz))
              have HTK := Lib.hid (all_take_succ (allF rightB n) of j hlt)
              have HF : Hid (allF rightB n of[j] = false → of.all (allF rightB n) = false) := fun h => List.all_eq_false.2 ⟨_, List.getElem_mem hlt, by rw [h]; simp⟩
              clear hr hz
              cases qq : allF rightB n of[j] with
              | true =>
                have HT' : Hid ((of.take (j + 1)).all (allF rightB n) = true) := by rw [Hid, HTK.out, HT.out, qq]; rfl
                rw [qq] at HC
                clear qq
                go_wp2_with fail
                refine HC.out.mono ?_
                rintro e w3 ⟨rfl, hb3⟩
                have HB3 := Lib.hid (HBW.out.trans (hb3.mono HBW.out.size))
                clear hb3 c0 c1 c2 hbl hbl' x2
                go_wp2_with fail
                go_roundw
                case rel => exact ⟨j + 1, by omega, by go_num, HT', HB3⟩
                case measure => simp [intOf]; omega
              | false =>
                have HRES : Hid (allF rightB (n + 1) (3, s, of) = false) := by rw [Hid, HA.out, HF.out qq, Bool.and_false]
                rw [qq] at HC
                clear qq
                go_wp2_with fail
                refine HC.out.mono ?_
                rintro e w3 ⟨rfl, hb3⟩
                have HB3 := Lib.hid (HBF.out.trans (hb3.mono HBF.out.size))
                clear hb3 c0 c1 c2 hbl hbl' x2
                go_wp2_with fail
                all_goals go_ret
                all_goals exact ⟨ret_bool' (by rw [HRES.out]), HB3.out⟩
            · have hje : j = of.length := by omega
              subst hje
              have hltI : ¬ ((of.length : Nat) : Int) < ((of.length : Nat) : Int) := by omega
              have HRES : Hid (allF rightB (n + 1) (3, s, of) = true) := by
                have h := HT.out
                rw [List.take_length] at h
                rw [Hid, HA.out, h, HRB.out]; rfl
              go_wp2_with fail
              all_goals go_ret
              all_goals exact ⟨ret_bool' (by rw [HRES.out]), HBF.out⟩
        | false =>
          have HS0 : Hid (decide (s.size = 0) = false) := by
            rw [Hid, ← HS.out]
            cases hh : s.toList with
            | nil => rw [hh] at qs; simp at qs
            | cons b r => rfl
          have HRB : Hid (rightB 3 s of.length = true) := by rw [Hid]; unfold rightB manyOf; rw [HL.out]; simp
          clear hl2
          go_enter Tryz.func162, Tryz.ntmps162
          go_wp2_with fail
          go_loopw [4] (fun i wr => ∃ j : Nat, j ≤ of.length ∧ i = .int .i64 j ∧ Hid ((of.take j).all (allF rightB n) = true) ∧ Hid (Below (w.alloc (.cells #[.int .u8 3, .string s, .slice a of.length c] 25)).heap.size (w.alloc (.cells #[.int .u8 3, .string s, .slice a of.length c] 25)) wr)) (fun i _ => of.length - (intOf i).toNat)
          case atStart => exact ⟨0, Nat.zero_le _, rfl, by simp [Hid], Below.refl _ _⟩
          case round =>
            obtain ⟨j, hj, rfl, HT, HBW⟩ := hrel
            have hkb : wr.heap[w.heap.size]? = some (.cells #[.int .u8 3, .string s, .slice a of.length c] 25 (0, 0)) := (HBW.out.block _ (by simp)).trans (bk_top rfl)
            have HBF : Hid (Below w.heap.size w wr) := HB0.out.trans (HBW.out.mono HB0.out.size)
            have HKB := Lib.hid hkb
            have x2 := Lib.cell_of_heap hkb 2
            simp only [List.getElem?_toArray, List.getElem?_cons_zero, List.getElem?_cons_succ] at x2
            clear hkb
            by_cases hlt : j < of.length
            · have hltI : ((j : Nat) : Int) < ((of.length : Nat) : Int) := by omega
              obtain ⟨b, off, k', s', sa, sl, sc, rfl, hbl, c0, c1, c2, hr⟩ := (HR.out.up HBF.out (Nat.le_refl _)).at j hlt
              have hz := HBF.out.size
              have hbl' : b < wr.heap.size := by omega
              have HC := Lib.hid (HIH.out of[j] _ wr (hr.up (Below.refl _ _) hz))
              have HTK := Lib.hid (all_take_succ (allF rightB n) of j hlt)
              have HF : Hid (allF rightB n of[j] = false → of.all (allF rightB n) = false) := fun h => List.all_eq_false.2 ⟨_, List.getElem_mem hlt, by rw [h]; simp⟩
              clear hr hz
              cases qq : allF rightB n of[j] with
              | true =>
                have HT' : Hid ((of.take (j + 1)).all (allF rightB n) = true) := by rw [Hid, HTK.out, HT.out, qq]; rfl
                rw [qq] at HC
                clear qq
                go_wp2_with fail
                refine HC.out.mono ?_
                rintro e w3 ⟨rfl, hb3⟩
                have HB3 := Lib.hid (HBW.out.trans (hb3.mono HBW.out.size))
                clear hb3 c0 c1 c2 hbl hbl' x2
                go_wp2_with fail
                go_roundw
                case rel => exact ⟨j + 1, by omega, by go_num, HT', HB3⟩
                case measure => simp [intOf]; omega
              | false =>
                have HRES : Hid (allF rightB (n + 1) (3, s, of) = false) := by rw [Hid, HA.out, HF.out qq, Bool.and_false]
                rw [qq] at HC
                clear qq
                go_wp2_with fail
                refine HC.out.mono ?_
                rintro e w3 ⟨rfl, hb3⟩
                have HB3 := Lib.hid (HBF.out.trans (hb3.mono HBF.out.size))
                clear hb3 c0 c1 c2 hbl hbl' x2
                go_wp2_with fail
                all_goals go_ret
                all_goals exact ⟨ret_bool' (by rw [HRES.out]), HB3.out⟩
            · have hje : j = of.length := by omega
              subst hje
              have hltI : ¬ ((of.length : Nat) : Int) < ((of.length : Nat) : Int) := by omega
              have HRES : Hid (allF rightB (n + 1) (3, s, of) = true) := by
                have h := HT.out
                rw [List.take_length] at h
                rw [Hid, HA.out, h, HRB.out]; rfl
              go_wp2_with fail
              all_goals go_ret
              all_goals exact ⟨ret_bool' (by rw [HRES.out]), HBF.out⟩
      · have hl1 : (((of.length : Nat) : Int) != 0) = true := by rw [bne_iff_ne]; omega
        have HRB : Hid (rightB 3 s of.length = false) := by
          have : (of.length == manyOf 3) = false := by rw [show manyOf 3 = 0 from rfl, beq_eq_false_iff_ne]; exact hl
          rw [Hid]; unfold rightB; rw [this]; simp
        clear hl
        have HRES : Hid (allF rightB (n + 1) (3, s, of) = false) := by rw [Hid, HA.out, HRB.out, Bool.false_and]
        go_enter Tryz.func162, Tryz.ntmps162
        go_wp2_with fail
        all_goals go_ret
        all_goals exact ⟨ret_bool' (by rw [HRES.out]), HB0.out⟩
    · by_cases hl : of.length = 1
      · have hl1 : (((of.length : Nat) : Int) != 1) = false := by rw [bne_eq_false_iff_eq]; omega
        have hl2 : ((of.length : Nat) : Int) = 1 := by omega
        have HL := Lib.hid hl
        clear hl
        cases qs : s.toList.isEmpty with
        | true =>
          have HRB : Hid (rightB 4 s of.length = true) := by
            have h := HS.out
            have h0 : s.toList = [] := List.isEmpty_iff.1 qs
            rw [h0] at h
            have h1 : decide (s.size = 0) = true := by rw [← h]; rfl
            rw [Hid]; unfold rightB manyOf; rw [HL.out, h1]; rfl
          clear hl2
          go_enter Tryz.func162, Tryz.ntmps162
          go_wp2_with fail
          go_loopw [4] (fun i wr => ∃ j : Nat, j ≤ of.length ∧ i = .int .i64 j ∧ Hid ((of.take j).all (allF rightB n) = true) ∧ Hid (Below (w.alloc (.cells #[.int .u8 4, .string s, .slice a of.length c] 25)).heap.size (w.alloc (.cells #[.int .u8 4, .string s, .slice a of.length c] 25)) wr)) (fun i _ => of.length - (intOf i).toNat)
          case atStart => exact ⟨0, Nat.zero_le _, rfl, by simp [Hid], Below.refl _ _⟩
          case round =>
            obtain ⟨j, hj, rfl, HT, HBW⟩ := hrel
            have hkb : wr.heap[w.heap.size]? = some (.cells #[.int .u8 4, .string s, .slice a of.length c] 25 (0, 0)) := (HBW.out.block _ (by simp)).trans (bk_top rfl)
            have HBF : Hid (Below w.heap.size w wr) := HB0.out.trans (HBW.out.mono HB0.out.size)
            have HKB := Lib.hid hkb
            have x2 := Lib.cell_of_heap hkb 2
            simp only [List.getElem?_toArray, List.getElem?_cons_zero, List.getElem?_cons_succ] at x2
            clear hkb
            by_cases hlt : j < of.length
            · have hltI : ((j : Nat) : Int) < ((of.length : Nat) : Int) := by omega
              obtain ⟨b, off, k', s', sa, sl, sc, rfl, hbl, c0, c1, c2, hr⟩ := (HR.out.up HBF.out (Nat.le_refl _)).at j hlt
              have hz := HBF.out.size
              have hbl' : b < wr.heap.size := by omega
              have HC := Lib.hid (HIH.out of[j] _ wr (hr.up (Below.refl _ _) hz))
              have HTK := Lib.hid (all_take_succ (allF rightB n) of j hlt)
              have HF : Hid (allF rightB n of[j] = false → of.all (allF rightB n) = false) := fun h => List.all_eq_false.2 ⟨_, List.getElem_mem hlt, by rw [h]; simp⟩
              clear hr hz
              cases qq : allF rightB n of[j] with
              | true =>
                have HT' : Hid ((of.take (j + 1)).all (allF rightB n) = true) := by rw [Hid, HTK.out, HT.out, qq]; rfl
                rw [qq] at HC
                clear qq
                go_wp2_with fail
                refine HC.out.mono ?_
                rintro e w3 ⟨rfl, hb3⟩
                have HB3 := Lib.hid (HBW.out.trans (hb3.mono HBW.out.size))
                clear hb3 c0 c1 c2 hbl hbl' x2
                go_wp2_with fail
                go_roundw
                case rel => exact ⟨j + 1, by omega, by go_num, HT', HB3⟩
                case measure => simp [intOf]; omega
              | false =>
                have HRES : Hid (allF rightB (n + 1) (4, s, of) = false) := by rw [Hid, HA.out, HF.out qq, Bool.and_false]
                rw [qq] at HC
                clear qq
                go_wp2_with fail
                refine HC.out.mono ?_
                rintro e w3 ⟨rfl, hb3⟩
                have HB3 := Lib.hid (HBF.out.trans (hb3.mono HBF.out.size))
                clear hb3 c0 c1 c2 hbl hbl' x2
                go_wp2_with fail
                all_goals go_ret
                all_goals exact ⟨ret_bool' (by rw [HRES.out]), HB3.out⟩
            · have hje : j = of.length := by omega
              subst hje
              have hltI : ¬ ((of.length : Nat) : Int) < ((of.length : Nat) : Int) := by omega
              have HRES : Hid (allF rightB (n + 1) (4, s, of) = true) := by
                have h := HT.out
                rw [List.take_length] at h
                rw [Hid, HA.out, h, HRB.out]; rfl
              go_wp2_with fail
              all_goals go_ret
              all_goals exact ⟨ret_bool' (by rw [HRES.out]), HBF.out⟩
        | false =>
          have HS0 : Hid (decide (s.size = 0) = false) := by
            rw [Hid, ← HS.out]
            cases hh : s.toList with
            | nil => rw [hh] at qs; simp at qs
            | cons b r => rfl
          have HRB : Hid (rightB 4 s of.length = false) := by rw [Hid]; unfold rightB manyOf; rw [HL.out, HS0.out]; rfl
          clear hl2
          have HRES : Hid (allF rightB (n + 1) (4, s, of) = false) := by rw [Hid, HA.out, HRB.out, Bool.false_and]
          go_enter Tryz.func162, Tryz.ntmps162
          go_wp2_with fail
          all_goals go_ret
          all_goals exact ⟨ret_bool' (by rw [HRES.out]), HB0.out⟩
      · have hl1 : (((of.length : Nat) : Int) != 1) = true := by rw [bne_iff_ne]; omega
        have HRB : Hid (rightB 4 s of.length = false) := by
          have : (of.length == manyOf 4) = false := by rw [show manyOf 4 = 1 from rfl, beq_eq_false_iff_ne]; exact hl
          rw [Hid]; unfold rightB; rw [this]; simp
        clear hl
        have HRES : Hid (allF rightB (n + 1) (4, s, of) = false) := by rw [Hid, HA.out, HRB.out, Bool.false_and]
        go_enter Tryz.func162, Tryz.ntmps162
        go_wp2_with fail
        all_goals go_ret
        all_goals exact ⟨ret_bool' (by rw [HRES.out]), HB0.out⟩
    · by_cases hl : of.length = 2
      · have hl1 : (((of.length : Nat) : Int) != 2) = false := by rw [bne_eq_false_iff_eq]; omega
        have hl2 : ((of.length : Nat) : Int) = 2 := by omega
        have HL := Lib.hid hl
        clear hl
        cases qs : s.toList.isEmpty with
        | true =>
          have HRB : Hid (rightB 5 s of.length = true) := by
            have h := HS.out
            have h0 : s.toList = [] := List.isEmpty_iff.1 qs
            rw [h0] at h
            have h1 : decide (s.size = 0) = true := by rw [← h]; rfl
            rw [Hid]; unfold rightB manyOf; rw [HL.out, h1]; rfl
          clear hl2
          go_enter Tryz.func162, Tryz.ntmps162
          go_wp2_with fail
          go_loopw [4] (fun i wr => ∃ j : Nat, j ≤ of.length ∧ i = .int .i64 j ∧ Hid ((of.take j).all (allF rightB n) = true) ∧ Hid (Below (w.alloc (.cells #[.int .u8 5, .string s, .slice a of.length c] 25)).heap.size (w.alloc (.cells #[.int .u8 5, .string s, .slice a of.length c] 25)) wr)) (fun i _ => of.length - (intOf i).toNat)
          case atStart => exact ⟨0, Nat.zero_le _, rfl, by simp [Hid], Below.refl _ _⟩
          case round =>
            obtain ⟨j, hj, rfl, HT, HBW⟩ := hrel
            have hkb : wr.heap[w.heap.size]? = some (.cells #[.int .u8 5, .string s, .slice a of.length c] 25 (0, 0)) := (HBW.out.block _ (by simp)).trans (bk_top rfl)
            have HBF : Hid (Below w.heap.size w wr) := HB0.out.trans (HBW.out.mono HB0.out.size)
            have HKB := Lib.hid hkb
            have x2 := Lib.cell_of_heap hkb 2
            simp only [List.getElem?_toArray, List.getElem?_cons_zero, List.getElem?_cons_succ] at x2
            clear hkb
            by_cases hlt : j < of.length
            · have hltI : ((j : Nat) : Int) < ((of.length : Nat) : Int) := by omega
              obtain ⟨b, off, k', s', sa, sl, sc, rfl, hbl, c0, c1, c2, hr⟩ := (HR.out.up HBF.out (Nat.le_refl _)).at j hlt
              have hz := HBF.out.size
              have hbl' : b < wr.heap.size := by omega
              have HC := Lib.hid (HIH.out of[j] _ wr (hr.up (Below.refl _ _) hz))
              have HTK := Lib.hid (all_take_succ (allF rightB n) of j hlt)
              have HF : Hid (allF rightB n of[j] = false → of.all (allF rightB n) = false) := fun h => List.all_eq_false.2 ⟨_, List.getElem_mem hlt, by rw [h]; simp⟩
              clear hr hz
              cases qq : allF rightB n of[j] with
              | true =>
                have HT' : Hid ((of.take (j + 1)).all (allF rightB n) = true) := by rw [Hid, HTK.out, HT.out, qq]; rfl
                rw [qq] at HC
                clear qq
                go_wp2_with fail
                refine HC.out.mono ?_
                rintro e w3 ⟨rfl, hb3⟩
                have HB3 := Lib.hid (HBW.out.trans (hb3.mono HBW.out.size))
                clear hb3 c0 c1 c2 hbl hbl' x2
                go_wp2_with fail
                go_roundw
                case rel => exact ⟨j + 1, by omega, by go_num, HT', HB3⟩
                case measure => simp [intOf]; omega
              | false =>
                have HRES : Hid (allF rightB (n + 1) (5, s, of) = false) := by rw [Hid, HA.out, HF.out qq, Bool.and_false]
                rw [qq] at HC
                clear qq
                go_wp2_with fail
                refine HC.out.mono ?_
                rintro e w3 ⟨rfl, hb3⟩
                have HB3 := Lib.hid (HBF.out.trans (hb3.mono HBF.out.size))
                clear hb3 c0 c1 c2 hbl hbl' x2
                go_wp2_with fail
                all_goals go_ret
                all_goals exact ⟨ret_bool' (by rw [HRES.out]), HB3.out⟩
            · have hje : j = of.length := by omega
              subst hje
              have hltI : ¬ ((of.length : Nat) : Int) < ((of.length : Nat) : Int) := by omega
              have HRES : Hid (allF rightB (n + 1) (5, s, of) = true) := by
                have h := HT.out
                rw [List.take_length] at h
                rw [Hid, HA.out, h, HRB.out]; rfl
              go_wp2_with fail
              all_goals go_ret
              all_goals exact ⟨ret_bool' (by rw [HRES.out]), HBF.out⟩
        | false =>
          have HS0 : Hid (decide (s.size = 0) = false) := by
            rw [Hid, ← HS.out]
            cases hh : s.toList with
            | nil => rw [hh] at qs; simp at qs
            | cons b r => rfl
          have HRB : Hid (rightB 5 s of.length = false) := by rw [Hid]; unfold rightB manyOf; rw [HL.out, HS0.out]; rfl
          clear hl2
          have HRES : Hid (allF rightB (n + 1) (5, s, of) = false) := by rw [Hid, HA.out, HRB.out, Bool.false_and]
          go_enter Tryz.func162, Tryz.ntmps162
          go_wp2_with fail
          all_goals go_ret
          all_goals exact ⟨ret_bool' (by rw [HRES.out]), HB0.out⟩
      · have hl1 : (((of.length : Nat) : Int) != 2) = true := by rw [bne_iff_ne]; omega
        have HRB : Hid (rightB 5 s of.length = false) := by
          have : (of.length == manyOf 5) = false := by rw [show manyOf 5 = 2 from rfl, beq_eq_false_iff_ne]; exact hl
          rw [Hid]; unfold rightB; rw [this]; simp
        clear hl
        have HRES : Hid (allF rightB (n + 1) (5, s, of) = false) := by rw [Hid, HA.out, HRB.out, Bool.false_and]
        go_enter Tryz.func162, Tryz.ntmps162
        go_wp2_with fail
        all_goals go_ret
        all_goals exact ⟨ret_bool' (by rw [HRES.out]), HB0.out⟩
    · by_cases hl : of.length = 2
      · have hl1 : (((of.length : Nat) : Int) != 2) = false := by rw [bne_eq_false_iff_eq]; omega
        have hl2 : ((of.length : Nat) : Int) = 2 := by omega
        have HL := Lib.hid hl
        clear hl
        cases qs : s.toList.isEmpty with
        | true =>
          have HRB : Hid (rightB 6 s of.length = true) := by
            have h := HS.out
            have h0 : s.toList = [] := List.isEmpty_iff.1 qs
            rw [h0] at h
            have h1 : decide (s.size = 0) = true := by rw [← h]; rfl
            rw [Hid]; unfold rightB manyOf; rw [HL.out, h1]; rfl
          clear hl2
          go_enter Tryz.func162, Tryz.ntmps162
          go_wp2_with fail
          go_loopw [4] (fun i wr => ∃ j : Nat, j ≤ of.length ∧ i = .int .i64 j ∧ Hid ((of.take j).all (allF rightB n) = true) ∧ Hid (Below (w.alloc (.cells #[.int .u8 6, .string s, .slice a of.length c] 25)).heap.size (w.alloc (.cells #[.int .u8 6, .string s, .slice a of.length c] 25)) wr)) (fun i _ => of.length - (intOf i).toNat)
          case atStart => exact ⟨0, Nat.zero_le _, rfl, by simp [Hid], Below.refl _ _⟩
          case round =>
            obtain ⟨j, hj, rfl, HT, HBW⟩ := hrel
            have hkb : wr.heap[w.heap.size]? = some (.cells #[.int .u8 6, .string s, .slice a of.length c] 25 (0, 0)) := (HBW.out.block _ (by simp)).trans (bk_top rfl)
            have HBF : Hid (Below w.heap.size w wr) := HB0.out.trans (HBW.out.mono HB0.out.size)
            have HKB := Lib.hid hkb
            have x2 := Lib.cell_of_heap hkb 2
            simp only [List.getElem?_toArray, List.getElem?_cons_zero, List.getElem?_cons_succ] at x2
            clear hkb
            by_cases hlt : j < of.length
            · have hltI : ((j : Nat) : Int) < ((of.length : Nat) : Int) := by omega
              obtain ⟨b, off, k', s', sa, sl, sc, rfl, hbl, c0, c1, c2, hr⟩ := (HR.out.up HBF.out (Nat.le_refl _)).at j hlt
              have hz := HBF.out.size
              have hbl' : b < wr.heap.size := by omega
              have HC := Lib.hid (HIH.out of[j] _ wr (hr.up (Below.refl _ _) hz))
              have HTK := Lib.hid (all_take_succ (allF rightB n) of j hlt)
              have HF : Hid (allF rightB n of[j] = false → of.all (allF rightB n) = false) := fun h => List.all_eq_false.2 ⟨_, List.getElem_mem hlt, by rw [h]; simp⟩
              clear hr hz
              cases qq : allF rightB n of[j] with
              | true =>
                have HT' : Hid ((of.take (j + 1)).all (allF rightB n) = true) := by rw [Hid, HTK.out, HT.out, qq]; rfl
                rw [qq] at HC
                clear qq
                go_wp2_with fail
                refine HC.out.mono ?_
                rintro e w3 ⟨rfl, hb3⟩
                have HB3 := Lib.hid (HBW.out.trans (hb3.mono HBW.out.size))
                clear hb3 c0 c1 c2 hbl hbl' x2
                go_wp2_with fail
                go_roundw
                case rel => exact ⟨j + 1, by omega, by go_num, HT', HB3⟩
                case measure => simp [intOf]; omega
              | false =>
                have HRES : Hid (allF rightB (n + 1) (6, s, of) = false) := by rw [Hid, HA.out, HF.out qq, Bool.and_false]
                rw [qq] at HC
                clear qq
                go_wp2_with fail
                refine HC.out.mono ?_
                rintro e w3 ⟨rfl, hb3⟩
                have HB3 := Lib.hid (HBF.out.trans (hb3.mono HBF.out.size))
                clear hb3 c0 c1 c2 hbl hbl' x2
                go_wp2_with fail
                all_goals go_ret
                all_goals exact ⟨ret_bool' (by rw [HRES.out]), HB3.out⟩
            · have hje : j = of.length := by omega
              subst hje
              have hltI : ¬ ((of.length : Nat) : Int) < ((of.length : Nat) : Int) := by omega
              have HRES : Hid (allF rightB (n + 1) (6, s, of) = true) := by
                have h := HT.out
                rw [List.take_length] at h
                rw [Hid, HA.out, h, HRB.out]; rfl
              go_wp2_with fail
              all_goals go_ret
              all_goals exact ⟨ret_bool' (by rw [HRES.out]), HBF.out⟩
        | false =>
          have HS0 : Hid (decide (s.size = 0) = false) := by
            rw [Hid, ← HS.out]
            cases hh : s.toList with
            | nil => rw [hh] at qs; simp at qs
            | cons b r => rfl
          have HRB : Hid (rightB 6 s of.length = false) := by rw [Hid]; unfold rightB manyOf; rw [HL.out, HS0.out]; rfl
          clear hl2
          have HRES : Hid (allF rightB (n + 1) (6, s, of) = false) := by rw [Hid, HA.out, HRB.out, Bool.false_and]
          go_enter Tryz.func162, Tryz.ntmps162
          go_wp2_with fail
          all_goals go_ret
          all_goals exact ⟨ret_bool' (by rw [HRES.out]), HB0.out⟩
      · have hl1 : (((of.length : Nat) : Int) != 2) = true := by rw [bne_iff_ne]; omega
        have HRB : Hid (rightB 6 s of.length = false) := by
          have : (of.length == manyOf 6) = false := by rw [show manyOf 6 = 2 from rfl, beq_eq_false_iff_ne]; exact hl
          rw [Hid]; unfold rightB; rw [this]; simp
        clear hl
        have HRES : Hid (allF rightB (n + 1) (6, s, of) = false) := by rw [Hid, HA.out, HRB.out, Bool.false_and]
        go_enter Tryz.func162, Tryz.ntmps162
        go_wp2_with fail
        all_goals go_ret
        all_goals exact ⟨ret_bool' (by rw [HRES.out]), HB0.out⟩
    · have HRB : Hid (rightB k s of.length = false) := by
        have : decide (k ≤ 6) = false := by simp; omega
        rw [Hid]; unfold rightB; rw [this]; simp
      have q4 : (k == 4) = false := by simp; omega
      have q5 : (k == 5) = false := by simp; omega
      have q6 : (k == 6) = false := by simp; omega
      have q1 : ¬ k < 1 := by omega
      have HRES : Hid (allF rightB (n + 1) (k, s, of) = false) := by rw [Hid, HA.out, HRB.out, Bool.false_and]
      go_enter Tryz.func162, Tryz.ntmps162
      go_wp2_with fail
      all_goals go_ret
      all_goals exact ⟨ret_bool' (by rw [HRES.out]), HB0.out⟩
end Go.Proofs.YtockinpjfhhkoaaGreatDoor

/- The book of layer 16: names that are declared, how many nodes there are, what is empty. (Printed by gen_bke.py.) -/
namespace Go.Proofs.YtockinpjfhhkoaaGreatDoor
open Go.RowKit

theorem idx_neg (s : ByteArray) (l : List ByteArray) : decide (idxN s l < 0) = !inN s l := by
  unfold idxN inN
  cases hf : l.findIdx? (fun x => s.toList == x.toList) with
  | none =>
    rw [List.findIdx?_eq_none_iff] at hf
    have : (l.any fun x => s.toList == x.toList) = false := by
      rw [List.any_eq_false]; intro x hx; simpa using hf x hx
    rw [this]; rfl
  | some k =>
    rw [List.findIdx?_eq_some_iff_getElem] at hf
    obtain ⟨hk, h1, _⟩ := hf
    have : (l.any fun x => s.toList == x.toList) = true := List.any_eq_true.2 ⟨_, List.getElem_mem hk, h1⟩
    rw [this]
    show decide (((k : Nat) : Int) < 0) = _
    simp
set_option maxRecDepth 100000 in
set_option maxHeartbeats 8000000 in
theorem declared131_any (names : List ByteArray) (nv : Value) (w0 : World) (hn : NRep w0 w0.heap.size nv names) (n : Nat) : ∀ (t : FT n) (v : Value) (w : World), FRep w w.heap.size n t v → Below w0.heap.size w0 w →
    Calls Tryz.prog 164 #[nv, v] w fun e w' => e = .returned (.bool (allF (declB names) n t)) ∧ Below w.heap.size w w' := by
  have HN := Lib.hid hn
  clear hn
  induction n with
  | zero => intro t v w h; exact h.elim
  | succ n ih =>
    intro t v w h hw0
    obtain ⟨k, s, of⟩ := t
    obtain ⟨a, c, rfl, hR⟩ := h
    have hR : FRow w w.heap.size n a of := hR
    dsimp only
    have HIH := Lib.hid ih
    have HR := Lib.hid hR
    have HW0 := Lib.hid hw0
    have hm := hR.1
    have hb0 : Below w.heap.size w (w.alloc (.cells #[.int .u8 k, .string s, .slice a of.length c] 25)) := (Below.refl _ w).alloc (Nat.le_refl _) _
    have HB0 := Lib.hid hb0
    have HA : Hid (allF (declB names) (n + 1) (k, s, of) = (declB names k s of.length && of.all (allF (declB names) n))) := rfl
    have HAT := Lib.hid (at96_any names nv s (w.alloc (.cells #[.int .u8 k, .string s, .slice a of.length c] 25)) (HN.out.up (hw0.trans (hb0.mono hw0.size)) (by have := hw0.size; simp; omega)))
    clear hR ih hb0 hw0
    by_cases hk : k = 3
    · subst hk
      have HI := Lib.hid (idx_neg s names)
      cases qi : inN s names with
      | true =>
        have HD : Hid (declB names 3 s of.length = true) := by rw [Hid]; unfold declB; rw [qi]; rfl
        have q1 : ¬ idxN s names < 0 := by have h := HI.out; rw [qi] at h; simpa using h
        clear qi
        generalize idxN s names = z at HAT q1
        clear HI
        go_enter Tryz.func164, Tryz.ntmps164
        go_wp2_with fail
        refine HAT.out.mono ?_
        rintro e w' ⟨rfl, rfl⟩
        go_wp2_with fail
        go_loopw [5] (fun i wr => ∃ j : Nat, j ≤ of.length ∧ i = .int .i64 j ∧ Hid ((of.take j).all (allF (declB names) n) = true) ∧ Below w.heap.size w wr ∧ w.heap.size < wr.heap.size ∧ wr.cell? ⟨w.heap.size, 2, none⟩ = some (.slice a of.length c)) (fun i _ => of.length - (intOf i).toNat)
        case atStart => exact ⟨0, Nat.zero_le _, rfl, by simp [Hid], HB0.out, by simp, by simp [World.cell?_alloc_at]⟩
        case round =>
          obtain ⟨j, hj, rfl, HT, hbw, hsz, hbox2⟩ := hrel
          have HBW := Lib.hid hbw
          by_cases hlt : j < of.length
          · have hltI : ((j : Nat) : Int) < ((of.length : Nat) : Int) := by omega
            obtain ⟨b, off, k', s', sa, sl, sc, rfl, hbl, c0, c1, c2, hr⟩ := (FRow.up HR.out hbw (Nat.le_refl _)).at j hlt
            have hz := hbw.size
            have hbl' : b < wr.heap.size := by omega
            have HC := Lib.hid (HIH.out of[j] _ wr (hr.up (Below.refl _ _) hz) (HW0.out.trans (HBW.out.mono HW0.out.size)))
            have HTK := Lib.hid (all_take_succ (allF (declB names) n) of j hlt)
            have HF : Hid ((allF (declB names) n) of[j] = false → of.all (allF (declB names) n) = false) := fun h => List.all_eq_false.2 ⟨_, List.getElem_mem hlt, by simp [h]⟩
            clear hr hbw
            cases qq : (allF (declB names) n) of[j] with
            | true =>
              have HT' : Hid ((of.take (j + 1)).all (allF (declB names) n) = true) := by rw [Hid, HTK.out, HT.out]; simp [qq]
              rw [qq] at HC
              clear qq
              go_wp2_with fail
              refine HC.out.mono ?_
              rintro e w3 ⟨rfl, hb3⟩
              have HB3 := Lib.hid (HBW.out.trans (hb3.mono hz))
              have hsz3 : w.heap.size < w3.heap.size := by have := hb3.size; omega
              have gbox2 := (hb3.cell (p := ⟨w.heap.size, 2, none⟩) hsz).trans hbox2
              clear hb3
              go_wp2_with fail
              go_roundw
              case rel => exact ⟨j + 1, by omega, by go_num, HT', HB3.out, hsz3, gbox2⟩
              case measure => simp [intOf]; omega
            | false =>
              have HNO := Lib.hid (HF.out qq)
              rw [qq] at HC
              clear qq
              go_wp2_with fail
              refine HC.out.mono ?_
              rintro e w3 ⟨rfl, hb3⟩
              have HB3 := Lib.hid (HBW.out.trans (hb3.mono hz))
              clear hb3
              go_wp2_with fail
              all_goals go_ret
              all_goals exact ⟨ret_bool' (by rw [HA.out, HNO.out, Bool.and_false]), HB3.out⟩
          · have hje : j = of.length := by omega
            subst hje
            have hltI : ¬ ((of.length : Nat) : Int) < ((of.length : Nat) : Int) := by omega
            have HALL : Hid (of.all (allF (declB names) n) = true) := by have h := HT.out; rw [List.take_length] at h; exact h
            clear HT
            go_wp2_with fail
            all_goals go_ret
            all_goals exact ⟨ret_bool' (by rw [HA.out, HD.out, HALL.out]; rfl), HBW.out⟩
      | false =>
        have HD : Hid (declB names 3 s of.length = false) := by rw [Hid]; unfold declB; rw [qi]; rfl
        have q1 : idxN s names < 0 := by have h := HI.out; rw [qi] at h; simpa using h
        clear qi
        generalize idxN s names = z at HAT q1
        clear HI
        go_enter Tryz.func164, Tryz.ntmps164
        go_wp2_with fail
        refine HAT.out.mono ?_
        rintro e w' ⟨rfl, rfl⟩
        go_wp2_with fail
        all_goals go_ret
        all_goals exact ⟨ret_bool' (by rw [HA.out, HD.out, Bool.false_and]), HB0.out⟩
    · have q1 : (k == 3) = false := by simpa using hk
      have HD : Hid (declB names k s of.length = true) := by rw [Hid]; unfold declB; simp [hk]
      clear hk
      go_enter Tryz.func164, Tryz.ntmps164
      go_wp2_with fail
      go_loopw [5] (fun i wr => ∃ j : Nat, j ≤ of.length ∧ i = .int .i64 j ∧ Hid ((of.take j).all (allF (declB names) n) = true) ∧ Below w.heap.size w wr ∧ w.heap.size < wr.heap.size ∧ wr.cell? ⟨w.heap.size, 2, none⟩ = some (.slice a of.length c)) (fun i _ => of.length - (intOf i).toNat)
      case atStart => exact ⟨0, Nat.zero_le _, rfl, by simp [Hid], HB0.out, by simp, by simp [World.cell?_alloc_at]⟩
      case round =>
        obtain ⟨j, hj, rfl, HT, hbw, hsz, hbox2⟩ := hrel
        have HBW := Lib.hid hbw
        by_cases hlt : j < of.length
        · have hltI : ((j : Nat) : Int) < ((of.length : Nat) : Int) := by omega
          obtain ⟨b, off, k', s', sa, sl, sc, rfl, hbl, c0, c1, c2, hr⟩ := (FRow.up HR.out hbw (Nat.le_refl _)).at j hlt
          have hz := hbw.size
          have hbl' : b < wr.heap.size := by omega
          have HC := Lib.hid (HIH.out of[j] _ wr (hr.up (Below.refl _ _) hz) (HW0.out.trans (HBW.out.mono HW0.out.size)))
          have HTK := Lib.hid (all_take_succ (allF (declB names) n) of j hlt)
          have HF : Hid ((allF (declB names) n) of[j] = false → of.all (allF (declB names) n) = false) := fun h => List.all_eq_false.2 ⟨_, List.getElem_mem hlt, by simp [h]⟩
          clear hr hbw
          cases qq : (allF (declB names) n) of[j] with
          | true =>
            have HT' : Hid ((of.take (j + 1)).all (allF (declB names) n) = true) := by rw [Hid, HTK.out, HT.out]; simp [qq]
            rw [qq] at HC
            clear qq
            go_wp2_with fail
            refine HC.out.mono ?_
            rintro e w3 ⟨rfl, hb3⟩
            have HB3 := Lib.hid (HBW.out.trans (hb3.mono hz))
            have hsz3 : w.heap.size < w3.heap.size := by have := hb3.size; omega
            have gbox2 := (hb3.cell (p := ⟨w.heap.size, 2, none⟩) hsz).trans hbox2
            clear hb3
            go_wp2_with fail
            go_roundw
            case rel => exact ⟨j + 1, by omega, by go_num, HT', HB3.out, hsz3, gbox2⟩
            case measure => simp [intOf]; omega
          | false =>
            have HNO := Lib.hid (HF.out qq)
            rw [qq] at HC
            clear qq
            go_wp2_with fail
            refine HC.out.mono ?_
            rintro e w3 ⟨rfl, hb3⟩
            have HB3 := Lib.hid (HBW.out.trans (hb3.mono hz))
            clear hb3
            go_wp2_with fail
            all_goals go_ret
            all_goals exact ⟨ret_bool' (by rw [HA.out, HNO.out, Bool.and_false]), HB3.out⟩
        · have hje : j = of.length := by omega
          subst hje
          have hltI : ¬ ((of.length : Nat) : Int) < ((of.length : Nat) : Int) := by omega
          have HALL : Hid (of.all (allF (declB names) n) = true) := by have h := HT.out; rw [List.take_length] at h; exact h
          clear HT
          go_wp2_with fail
          all_goals go_ret
          all_goals exact ⟨ret_bool' (by rw [HA.out, HD.out, HALL.out]; rfl), HBW.out⟩
set_option maxRecDepth 100000 in
set_option maxHeartbeats 8000000 in
theorem known83_any (names : List ByteArray) (nv : Value) (w0 : World) (hn : NRep w0 w0.heap.size nv names) (m n : Nat) : ∀ (t : XT m n) (v : Value) (w : World), XRep w w.heap.size m n t v → Below w0.heap.size w0 w →
    Calls Tryz.prog 106 #[nv, v] w fun e w' => e = .returned (.bool (allX (namesX names) n t)) ∧ Below w.heap.size w w' := by
  have HN := Lib.hid hn
  clear hn
  induction n with
  | zero => intro t v w h; exact h.elim
  | succ n ih =>
    intro t v w h hw0
    obtain ⟨k, is, of, lo, ls, hi, hs, op⟩ := t
    obtain ⟨a1, c1, a, c, rfl, hR1, hR⟩ := h
    dsimp only at hR hR1 ⊢
    have hm := hR.1
    have hm1 := hR1.1
    have HR := Lib.hid hR
    have HR1 := Lib.hid hR1
    have HIH := Lib.hid ih
    have hb0 : Below w.heap.size w (w.alloc (.cells #[.int .u8 k, .slice a1 is.length c1, .slice a of.length c, .int .i64 lo, .bool ls, .int .i64 hi, .bool hs, .bool op] 47)) := (Below.refl _ w).alloc (Nat.le_refl _) _
    have HB0 := Lib.hid hb0
    have HW0 := Lib.hid hw0
    have HA : Hid (allX (namesX names) (n + 1) ((k, is, of, ⟨lo, ls, hi, hs, op⟩) : XT m (n + 1)) = (is.all (allF (declB names) m) && of.all (allX (namesX names) n))) := rfl
    clear hR hR1 ih hb0 hw0
    go_enter Tryz.func106, Tryz.ntmps106
    go_wp2_with fail
    go_loopw [5] (fun i wr => ∃ j : Nat, j ≤ is.length ∧ i = .int .i64 j ∧ Hid ((is.take j).all (allF (declB names) m) = true) ∧ Below w.heap.size w wr ∧ w.heap.size < wr.heap.size ∧ wr.cell? ⟨w.heap.size, 1, none⟩ = some (.slice a1 is.length c1) ∧ wr.cell? ⟨w.heap.size, 2, none⟩ = some (.slice a of.length c)) (fun i _ => is.length - (intOf i).toNat)
    case atStart => exact ⟨0, Nat.zero_le _, rfl, by simp [Hid], HB0.out, by simp, by simp [World.cell?_alloc_at], by simp [World.cell?_alloc_at]⟩
    case round =>
      obtain ⟨j, hj, rfl, HT, hbw, hsz, hbox1, hbox2⟩ := hrel
      have HBW := Lib.hid hbw
      by_cases hlt : j < is.length
      · have hltI : ((j : Nat) : Int) < ((is.length : Nat) : Int) := by omega
        obtain ⟨b, off, k', s', sa, sl, sc, rfl, hbl, c0, c1, c2, hr⟩ := (FRow.up HR1.out hbw (Nat.le_refl _)).at j hlt
        have hz := hbw.size
        have hbl' : b < wr.heap.size := by omega
        have HC := Lib.hid (declared131_any names nv w0 HN.out m is[j] _ wr (hr.up (Below.refl _ _) hz) (HW0.out.trans (HBW.out.mono HW0.out.size)))
        have HTK := Lib.hid (all_take_succ (allF (declB names) m) is j hlt)
        have HF : Hid ((allF (declB names) m) is[j] = false → is.all (allF (declB names) m) = false) := fun h => List.all_eq_false.2 ⟨_, List.getElem_mem hlt, by simp [h]⟩
        clear hr hbw
        cases qq : (allF (declB names) m) is[j] with
        | true =>
          have HT' : Hid ((is.take (j + 1)).all (allF (declB names) m) = true) := by rw [Hid, HTK.out, HT.out]; simp [qq]
          rw [qq] at HC
          clear qq
          go_wp2_with fail
          refine HC.out.mono ?_
          rintro e w3 ⟨rfl, hb3⟩
          have HB3 := Lib.hid (HBW.out.trans (hb3.mono hz))
          have hsz3 : w.heap.size < w3.heap.size := by have := hb3.size; omega
          have gbox1 := (hb3.cell (p := ⟨w.heap.size, 1, none⟩) hsz).trans hbox1
          have gbox2 := (hb3.cell (p := ⟨w.heap.size, 2, none⟩) hsz).trans hbox2
          clear hb3
          go_wp2_with fail
          go_roundw
          case rel => exact ⟨j + 1, by omega, by go_num, HT', HB3.out, hsz3, gbox1, gbox2⟩
          case measure => simp [intOf]; omega
        | false =>
          have HNO := Lib.hid (HF.out qq)
          rw [qq] at HC
          clear qq
          go_wp2_with fail
          refine HC.out.mono ?_
          rintro e w3 ⟨rfl, hb3⟩
          have HB3 := Lib.hid (HBW.out.trans (hb3.mono hz))
          clear hb3
          go_wp2_with fail
          all_goals go_ret
          all_goals exact ⟨ret_bool' (by rw [HA.out, HNO.out, Bool.false_and]), HB3.out⟩
      · have hje : j = is.length := by omega
        subst hje
        have hltI : ¬ ((is.length : Nat) : Int) < ((is.length : Nat) : Int) := by omega
        have HALL : Hid (is.all (allF (declB names) m) = true) := by have h := HT.out; rw [List.take_length] at h; exact h
        clear HT
        have HALL1 := HALL
        clear HALL hbw
        go_wp2_with fail
        go_loopw [6] (fun i wr => ∃ j : Nat, j ≤ of.length ∧ i = .int .i64 j ∧ Hid ((of.take j).all (allX (namesX names) n) = true) ∧ Below w.heap.size w wr ∧ w.heap.size < wr.heap.size ∧ wr.cell? ⟨w.heap.size, 2, none⟩ = some (.slice a of.length c)) (fun i _ => of.length - (intOf i).toNat)
        case atStart => exact ⟨0, Nat.zero_le _, rfl, by simp [Hid], HBW.out, hsz, hbox2⟩
        case round =>
          clear HBW hsz hbox1 hbox2 hj hltI
          obtain ⟨j, hj, rfl, HT, hbw, hsz, hbox2⟩ := hrel
          have HBW := Lib.hid hbw
          by_cases hlt : j < of.length
          · have hltI : ((j : Nat) : Int) < ((of.length : Nat) : Int) := by omega
            obtain ⟨b, off, k', a1', l1', c1', a2', l2', c2', lo', ls', hi', hs', op', rfl, hbl, c0, d1, c2, c3, c4, c5, c6, c7, hr⟩ := (XRow.up HR.out hbw (Nat.le_refl _)).at j hlt
            have hz := hbw.size
            have hbl' : b < wr.heap.size := by omega
            have HC := Lib.hid (HIH.out of[j] _ wr (hr.up (Below.refl _ _) hz) (HW0.out.trans (HBW.out.mono HW0.out.size)))
            have HTK := Lib.hid (all_take_succ (allX (namesX names) n) of j hlt)
            have HF : Hid ((allX (namesX names) n) of[j] = false → of.all (allX (namesX names) n) = false) := fun h => List.all_eq_false.2 ⟨_, List.getElem_mem hlt, by simp [h]⟩
            clear hr hbw
            cases qq : (allX (namesX names) n) of[j] with
            | true =>
              have HT' : Hid ((of.take (j + 1)).all (allX (namesX names) n) = true) := by rw [Hid, HTK.out, HT.out]; simp [qq]
              rw [qq] at HC
              clear qq
              go_wp2_with fail
              refine HC.out.mono ?_
              rintro e w3 ⟨rfl, hb3⟩
              have HB3 := Lib.hid (HBW.out.trans (hb3.mono hz))
              have hsz3 : w.heap.size < w3.heap.size := by have := hb3.size; omega
              have gbox2 := (hb3.cell (p := ⟨w.heap.size, 2, none⟩) hsz).trans hbox2
              clear hb3
              go_wp2_with fail
              go_roundw
              case rel => exact ⟨j + 1, by omega, by go_num, HT', HB3.out, hsz3, gbox2⟩
              case measure => simp [intOf]; omega
            | false =>
              have HNO := Lib.hid (HF.out qq)
              rw [qq] at HC
              clear qq
              go_wp2_with fail
              refine HC.out.mono ?_
              rintro e w3 ⟨rfl, hb3⟩
              have HB3 := Lib.hid (HBW.out.trans (hb3.mono hz))
              clear hb3
              go_wp2_with fail
              all_goals go_ret
              all_goals exact ⟨ret_bool' (by rw [HA.out, HNO.out, Bool.and_false]), HB3.out⟩
          · have hje : j = of.length := by omega
            subst hje
            have hltI : ¬ ((of.length : Nat) : Int) < ((of.length : Nat) : Int) := by omega
            have HALL : Hid (of.all (allX (namesX names) n) = true) := by have h := HT.out; rw [List.take_length] at h; exact h
            clear HT
            go_wp2_with fail
            all_goals go_ret
            all_goals exact ⟨ret_bool' (by rw [HA.out, HALL1.out, HALL.out]; rfl), HBW.out⟩
def emptyX {m : Nat} : (n : Nat) → XT m n → Bool
  | 0, _ => false
  | n + 1, t => (t.1 == 6 && empI t.2.2.2) || t.2.2.1.any (emptyX n)
theorem any_of_no {α : Type} {p : α → Bool} {l : List α} (h : l.all (fun x => !p x) = false) : l.any p = true := by
  rw [List.all_eq_false] at h
  obtain ⟨x, hx, hp⟩ := h
  exact List.any_eq_true.2 ⟨x, hx, by simpa using hp⟩
theorem any_of_all {α : Type} {p : α → Bool} {l : List α} (h : l.all (fun x => !p x) = true) : l.any p = false := by
  rw [List.all_eq_true] at h
  rw [List.any_eq_false]
  intro x hx
  simpa using h x hx
set_option maxRecDepth 100000 in
set_option maxHeartbeats 8000000 in
theorem empty84_any (m n : Nat) : ∀ (t : XT m n) (v : Value) (w : World), XRep w w.heap.size m n t v →
    Calls Tryz.prog 107 #[v] w fun e w' => e = .returned (.bool (emptyX n t)) ∧ Below w.heap.size w w' := by
  induction n with
  | zero => intro t v w h; exact h.elim
  | succ n ih =>
    intro t v w h
    obtain ⟨k, is, of, lo, ls, hi, hs, op⟩ := t
    obtain ⟨a1, c1, a, c, rfl, hR1, hR⟩ := h
    dsimp only at hR hR1 ⊢
    have hm := hR.1
    have hm1 := hR1.1
    have HR := Lib.hid hR
    have HR1 := Lib.hid hR1
    have HIH := Lib.hid ih
    have hb0 : Below w.heap.size w (w.alloc (.cells #[.int .u8 k, .slice a1 is.length c1, .slice a of.length c, .int .i64 lo, .bool ls, .int .i64 hi, .bool hs, .bool op] 47)) := (Below.refl _ w).alloc (Nat.le_refl _) _
    have HB0 := Lib.hid hb0
    have HA : Hid (emptyX (n + 1) ((k, is, of, ⟨lo, ls, hi, hs, op⟩) : XT m (n + 1)) = ((k == 6 && empI ⟨lo, ls, hi, hs, op⟩) || of.any (emptyX n))) := rfl
    clear hR hR1 ih hb0
    have hbx : (w.alloc (.cells #[.int .u8 k, .slice a1 is.length c1, .slice a of.length c, .int .i64 lo, .bool ls, .int .i64 hi, .bool hs, .bool op] 47)).cell? ⟨w.heap.size, 2, none⟩ = some (.slice a of.length c) := by simp [World.cell?_alloc_at]
    have hsz : w.heap.size < (w.alloc (.cells #[.int .u8 k, .slice a1 is.length c1, .slice a of.length c, .int .i64 lo, .bool ls, .int .i64 hi, .bool hs, .bool op] 47)).heap.size := by simp
    have HBX := Lib.hid hbx
    have HSZ := Lib.hid hsz
    have HEM := Lib.hid (empty132_any ⟨lo, ls, hi, hs, op⟩ (w.alloc (.cells #[.int .u8 k, .slice a1 is.length c1, .slice a of.length c, .int .i64 lo, .bool ls, .int .i64 hi, .bool hs, .bool op] 47)))
    clear hbx hsz
    by_cases hk : k = 6
    · subst hk
      cases qe : empI ⟨lo, ls, hi, hs, op⟩ with
      | true =>
        have HQ : Hid (empI ⟨lo, ls, hi, hs, op⟩ = true) := qe
        rw [qe] at HEM
        clear qe
        go_enter Tryz.func107, Tryz.ntmps107
        go_wp2_with fail
        refine HEM.out.mono ?_
        rintro e w1 ⟨rfl, hb1⟩
        have HB1 := Lib.hid (HB0.out.trans (hb1.mono HB0.out.size))
        clear hb1
        go_wp2_with fail
        all_goals go_ret
        all_goals exact ⟨ret_bool' (by rw [HA.out, HQ.out]; rfl), HB1.out⟩
      | false =>
        have HQ : Hid (((6 : Int) == 6 && empI ⟨lo, ls, hi, hs, op⟩) = false) := by rw [Hid, qe]; rfl
        rw [qe] at HEM
        clear qe
        go_enter Tryz.func107, Tryz.ntmps107
        go_wp2_with fail
        refine HEM.out.mono ?_
        rintro e w1 ⟨rfl, hb1⟩
        have HBW0 := Lib.hid (HB0.out.trans (hb1.mono HB0.out.size))
        have hsz0 : w.heap.size < w1.heap.size := by have := hb1.size; have := HSZ.out; omega
        have hbx0 := (hb1.cell (p := ⟨w.heap.size, 2, none⟩) HSZ.out).trans HBX.out
        clear hb1
        go_wp2_with fail
        go_loopw [3] (fun i wr => ∃ j : Nat, j ≤ of.length ∧ i = .int .i64 j ∧ Hid ((of.take j).all (fun x => !(emptyX n) x) = true) ∧ Below w.heap.size w wr ∧ w.heap.size < wr.heap.size ∧ wr.cell? ⟨w.heap.size, 2, none⟩ = some (.slice a of.length c)) (fun i _ => of.length - (intOf i).toNat)
        case atStart => exact ⟨0, Nat.zero_le _, rfl, by simp [Hid], HBW0.out, hsz0, hbx0⟩
        case round =>
          obtain ⟨j, hj, rfl, HT, hbw, hsz, hbox2⟩ := hrel
          have HBW := Lib.hid hbw
          by_cases hlt : j < of.length
          · have hltI : ((j : Nat) : Int) < ((of.length : Nat) : Int) := by omega
            obtain ⟨b, off, k', a1', l1', c1', a2', l2', c2', lo', ls', hi', hs', op', rfl, hbl, c0, d1, c2, c3, c4, c5, c6, c7, hr⟩ := (XRow.up HR.out hbw (Nat.le_refl _)).at j hlt
            have hz := hbw.size
            have hbl' : b < wr.heap.size := by omega
            have HC := Lib.hid (HIH.out of[j] _ wr (hr.up (Below.refl _ _) hz))
            have HTK := Lib.hid (all_take_succ (fun x => !(emptyX n) x) of j hlt)
            have HF : Hid ((emptyX n) of[j] = true → of.all (fun x => !(emptyX n) x) = false) := fun h => List.all_eq_false.2 ⟨_, List.getElem_mem hlt, by simp [h]⟩
            clear hr hbw
            cases qq : (emptyX n) of[j] with
            | false =>
              have HT' : Hid ((of.take (j + 1)).all (fun x => !(emptyX n) x) = true) := by rw [Hid, HTK.out, HT.out]; simp [qq]
              rw [qq] at HC
              clear qq
              go_wp2_with fail
              refine HC.out.mono ?_
              rintro e w3 ⟨rfl, hb3⟩
              have HB3 := Lib.hid (HBW.out.trans (hb3.mono hz))
              have hsz3 : w.heap.size < w3.heap.size := by have := hb3.size; omega
              have gbox2 := (hb3.cell (p := ⟨w.heap.size, 2, none⟩) hsz).trans hbox2
              clear hb3
              go_wp2_with fail
              go_roundw
              case rel => exact ⟨j + 1, by omega, by go_num, HT', HB3.out, hsz3, gbox2⟩
              case measure => simp [intOf]; omega
            | true =>
              have HNO := Lib.hid (HF.out qq)
              rw [qq] at HC
              clear qq
              go_wp2_with fail
              refine HC.out.mono ?_
              rintro e w3 ⟨rfl, hb3⟩
              have HB3 := Lib.hid (HBW.out.trans (hb3.mono hz))
              clear hb3
              go_wp2_with fail
              all_goals go_ret
              all_goals exact ⟨ret_bool' (by rw [HA.out, any_of_no HNO.out, Bool.or_true]), HB3.out⟩
          · have hje : j = of.length := by omega
            subst hje
            have hltI : ¬ ((of.length : Nat) : Int) < ((of.length : Nat) : Int) := by omega
            have HALL : Hid (of.all (fun x => !(emptyX n) x) = true) := by have h := HT.out; rw [List.take_length] at h; exact h
            clear HT
            go_wp2_with fail
            all_goals go_ret
            all_goals exact ⟨ret_bool' (by rw [HA.out, HQ.out, any_of_all HALL.out]; rfl), HBW.out⟩
    · have q1 : (k == 6) = false := by simpa using hk
      have HQ : Hid ((k == 6 && empI ⟨lo, ls, hi, hs, op⟩) = false) := by rw [Hid, q1]; rfl
      have HBW0 := HB0
      have hsz0 := HSZ.out
      have hbx0 := HBX.out
      clear hk
      go_enter Tryz.func107, Tryz.ntmps107
      go_wp2_with fail
      go_loopw [3] (fun i wr => ∃ j : Nat, j ≤ of.length ∧ i = .int .i64 j ∧ Hid ((of.take j).all (fun x => !(emptyX n) x) = true) ∧ Below w.heap.size w wr ∧ w.heap.size < wr.heap.size ∧ wr.cell? ⟨w.heap.size, 2, none⟩ = some (.slice a of.length c)) (fun i _ => of.length - (intOf i).toNat)
      case atStart => exact ⟨0, Nat.zero_le _, rfl, by simp [Hid], HBW0.out, hsz0, hbx0⟩
      case round =>
        obtain ⟨j, hj, rfl, HT, hbw, hsz, hbox2⟩ := hrel
        have HBW := Lib.hid hbw
        by_cases hlt : j < of.length
        · have hltI : ((j : Nat) : Int) < ((of.length : Nat) : Int) := by omega
          obtain ⟨b, off, k', a1', l1', c1', a2', l2', c2', lo', ls', hi', hs', op', rfl, hbl, c0, d1, c2, c3, c4, c5, c6, c7, hr⟩ := (XRow.up HR.out hbw (Nat.le_refl _)).at j hlt
          have hz := hbw.size
          have hbl' : b < wr.heap.size := by omega
          have HC := Lib.hid (HIH.out of[j] _ wr (hr.up (Below.refl _ _) hz))
          have HTK := Lib.hid (all_take_succ (fun x => !(emptyX n) x) of j hlt)
          have HF : Hid ((emptyX n) of[j] = true → of.all (fun x => !(emptyX n) x) = false) := fun h => List.all_eq_false.2 ⟨_, List.getElem_mem hlt, by simp [h]⟩
          clear hr hbw
          cases qq : (emptyX n) of[j] with
          | false =>
            have HT' : Hid ((of.take (j + 1)).all (fun x => !(emptyX n) x) = true) := by rw [Hid, HTK.out, HT.out]; simp [qq]
            rw [qq] at HC
            clear qq
            go_wp2_with fail
            refine HC.out.mono ?_
            rintro e w3 ⟨rfl, hb3⟩
            have HB3 := Lib.hid (HBW.out.trans (hb3.mono hz))
            have hsz3 : w.heap.size < w3.heap.size := by have := hb3.size; omega
            have gbox2 := (hb3.cell (p := ⟨w.heap.size, 2, none⟩) hsz).trans hbox2
            clear hb3
            go_wp2_with fail
            go_roundw
            case rel => exact ⟨j + 1, by omega, by go_num, HT', HB3.out, hsz3, gbox2⟩
            case measure => simp [intOf]; omega
          | true =>
            have HNO := Lib.hid (HF.out qq)
            rw [qq] at HC
            clear qq
            go_wp2_with fail
            refine HC.out.mono ?_
            rintro e w3 ⟨rfl, hb3⟩
            have HB3 := Lib.hid (HBW.out.trans (hb3.mono hz))
            clear hb3
            go_wp2_with fail
            all_goals go_ret
            all_goals exact ⟨ret_bool' (by rw [HA.out, any_of_no HNO.out, Bool.or_true]), HB3.out⟩
        · have hje : j = of.length := by omega
          subst hje
          have hltI : ¬ ((of.length : Nat) : Int) < ((of.length : Nat) : Int) := by omega
          have HALL : Hid (of.all (fun x => !(emptyX n) x) = true) := by have h := HT.out; rw [List.take_length] at h; exact h
          clear HT
          go_wp2_with fail
          all_goals go_ret
          all_goals exact ⟨ret_bool' (by rw [HA.out, HQ.out, any_of_all HALL.out]; rfl), HBW.out⟩
def nodesF : (n : Nat) → FT n → Int → Int
  | 0, _, _ => 1
  | n + 1, t, most => szL (nodesF n) most t.2.2 1
set_option maxRecDepth 100000 in
set_option maxHeartbeats 8000000 in
theorem nodes130_any (n : Nat) : ∀ (t : FT n) (v : Value) (most : Int) (w : World), FRep w w.heap.size n t v →
    Calls Tryz.prog 163 #[v, .int .i64 most] w fun e w' => e = .returned (.int .i64 (nodesF n t most)) ∧ Below w.heap.size w w' := by
  induction n with
  | zero => intro t v most w h; exact h.elim
  | succ n ih =>
    intro t v most w h
    obtain ⟨k, s, of⟩ := t
    obtain ⟨a, c, rfl, hR⟩ := h
    dsimp only at hR ⊢
    have hm := hR.1
    have HR := Lib.hid hR
    have IH := Lib.hid ih
    have HE : Hid (nodesF (n + 1) (k, s, of) most = szL (nodesF n) most (of.drop 0) 1) := rfl
    have HZ : Hid (Below w.heap.size w (w.alloc (.cells #[.int .u8 k, .string s, .slice a of.length c] 25))) := (Below.refl _ _).alloc (Nat.le_refl _) _
    clear hR ih
    go_enter Tryz.func163, Tryz.ntmps163
    go_wp2_with fail
    go_loopw [5, 6] (fun q i wr => ∃ (j : Nat) (z : Int), j ≤ of.length ∧ i = .int .i64 j ∧ q = .int .i64 z ∧ Hid (nodesF (n + 1) (k, s, of) most = szL (nodesF n) most (of.drop j) z) ∧ Below w.heap.size w wr ∧ w.heap.size < wr.heap.size ∧ wr.cell? ⟨w.heap.size, 2, none⟩ = some (.slice a of.length c)) (fun _ i _ => of.length - (intOf i).toNat)
    case atStart => exact ⟨0, _, Nat.zero_le _, rfl, rfl, HE, HZ.out, by simp, by simp [World.cell?_alloc_at]⟩
    case round =>
      obtain ⟨j, z, hj, rfl, rfl, HT, hbw, hsz, hbox⟩ := hrel
      have HBW := Lib.hid hbw
      by_cases hlt : j < of.length
      · by_cases hq : z ≤ most
        · obtain ⟨b, off, k', s', sa, sl, sc, rfl, hbl, c0, c1, c2, hr⟩ := (FRow.up HR.out hbw (Nat.le_refl _)).at j hlt
          have hz := hbw.size
          have hbl' : b < wr.heap.size := by omega
          have hS := Lib.hid (szL_drop (nodesF n) most of j z hlt hq)
          have HC := Lib.hid (IH.out of[j] _ (wrap64 (most - z)) wr (hr.up (Below.refl _ _) hz))
          clear hr hbw
          go_wp2_with fail
          refine HC.out.mono ?_
          rintro e w3 ⟨rfl, hb4⟩
          have HB4 := Lib.hid (HBW.out.trans (hb4.mono hz))
          have hbox3 := (hb4.cell (p := ⟨w.heap.size, 2, none⟩) hsz).trans hbox
          have hsz3 : w.heap.size < w3.heap.size := by have := hb4.size; omega
          clear hb4
          go_wp2_with fail
          go_roundw
          case rel => exact ⟨j + 1, _, by omega, by go_num, rfl, HT.out.trans hS.out, HB4.out, hsz3, hbox3⟩
          case measure => simp [intOf]; omega
        · have hS := Lib.hid (szL_stop (nodesF n) most (of.drop j) z hq)
          clear hbw
          go_wp2_with fail
          all_goals go_ret
          all_goals exact ⟨ret_i (by rw [HT.out, hS.out]), HBW.out⟩
      · have hje : j = of.length := by omega
        subst hje
        have hS := Lib.hid (szL_end (nodesF n) most z of)
        clear hbw
        go_wp2_with fail
        all_goals go_ret
        all_goals exact ⟨ret_i (by rw [HT.out, hS.out]), HBW.out⟩
end Go.Proofs.YtockinpjfhhkoaaGreatDoor
