/- Layer 16 walked: strings sought in a row of names; names of a formula that are declared; formulas that are made right. -/
import Derived.Test.YtabpfbgcdmejbaaDoorTreeF
namespace Go.Proofs.YtabpfbgcdmejbaaDoor
open Go.RowKit

def idxN (s : ByteArray) (l : List ByteArray) : Int := match l.findIdx? (fun x => s.toList == x.toList) with
  | some k => k
  | none => -1
theorem idxN_at (s : ByteArray) (l : List ByteArray) (j : Nat) (h : j < l.length) (h0 : ∀ i (hi : i < l.length), i < j → (s.toList == (l[i]).toList) = false) (h1 : (s.toList == (l[j]).toList) = true) : idxN s l = j := by
  have : l.findIdx? (fun x => s.toList == x.toList) = some j := by
    rw [List.findIdx?_eq_some_iff_getElem]
    exact ⟨h, h1, fun i hi => by rw [h0 i (by omega) hi]; simp⟩
  unfold idxN; rw [this]
theorem idxN_none (s : ByteArray) (l : List ByteArray) (h0 : ∀ i (hi : i < l.length), i < l.length → (s.toList == (l[i]).toList) = false) : idxN s l = -1 := by
  have : l.findIdx? (fun x => s.toList == x.toList) = none := by
    rw [List.findIdx?_eq_none_iff]
    intro x hx
    obtain ⟨i, hi, rfl⟩ := List.getElem_of_mem hx
    exact h0 i hi hi
  unfold idxN; rw [this]
theorem idxN_in (s : ByteArray) (l : List ByteArray) : decide (0 ≤ idxN s l) = inN s l := by
  unfold idxN inN
  cases h : l.findIdx? (fun x => s.toList == x.toList) with
  | none =>
    rw [List.findIdx?_eq_none_iff] at h
    have : l.any (fun x => s.toList == x.toList) = false := by
      rw [List.any_eq_false]; intro x hx; rw [h x hx]; simp
    rw [this]; rfl
  | some k =>
    rw [List.findIdx?_eq_some_iff_getElem] at h
    obtain ⟨hk, hp, _⟩ := h
    have : l.any (fun x => s.toList == x.toList) = true := List.any_eq_true.2 ⟨_, List.getElem_mem hk, hp⟩
    rw [this]; simp

set_option maxRecDepth 100000 in
set_option maxHeartbeats 4000000 in
theorem index63_any (l : List ByteArray) (v : Value) (s : ByteArray) (w : World) (hn : NRep w w.heap.size v l) :
    Calls Tryd.prog 63 #[v, .string s] w fun e w' => e = .returned (.int .i64 (idxN s l)) ∧ w' = w := by
  obtain ⟨a, c, rfl, hm, hn⟩ := hn
  have HA := Lib.hid (idxN_at s l)
  have HN := Lib.hid (idxN_none s l)
  go_enter Tryd.func63, Tryd.ntmps63
  go_wp2_with fail
  go_loopw [8] (fun i wr => ∃ j : Nat, j ≤ l.length ∧ i = .int .i64 j ∧ Hid (∀ i (hi : i < l.length), i < j → (s.toList == (l[i]).toList) = false) ∧ wr = w) (fun i _ => l.length - (intOf i).toNat)
  case atStart => exact ⟨0, Nat.zero_le _, rfl, fun _ _ h => absurd h (by omega), rfl⟩
  case round =>
    obtain ⟨j, hj, rfl, HT, rfl⟩ := hrel
    by_cases hlt : j < l.length
    · rcases hn with hn | ⟨b, off, rfl, hb, hc⟩
      · rw [hn] at hlt; exact absurd hlt (by simp)
      · have c0 := hc j hlt
        have HC := Lib.hid hc
        clear hc
        have HAj := Lib.hid (HA.out j hlt HT.out)
        cases q : (s.toList == (l[j]).toList) with
        | true =>
          have HR := Lib.hid (HAj.out q)
          go_wp2_with fail
          all_goals go_ret
          all_goals exact ⟨ret_i (by rw [HR.out]), rfl⟩
        | false =>
          have HR := Lib.hid q
          go_wp2_with fail
          go_roundw
          case rel => exact ⟨j + 1, by omega, by go_num, fun i hi hij => by
            rcases Nat.lt_or_ge i j with h | h
            · exact HT.out i hi h
            · obtain rfl : i = j := by omega
              exact HR.out, trivial⟩
          case measure => simp [intOf]; omega
    · have hje : j = l.length := by omega
      have HR := Lib.hid (HN.out (fun i hi _ => HT.out i hi (by omega)))
      clear HT hn
      go_wp2_with fail
      all_goals go_ret
      all_goals exact ⟨ret_i (by rw [HR.out]), rfl⟩

set_option maxRecDepth 100000 in
set_option maxHeartbeats 4000000 in
theorem contains53_any (l : List ByteArray) (v : Value) (s : ByteArray) (w : World) (hn : NRep w w.heap.size v l) :
    Calls Tryd.prog 53 #[v, .string s] w fun e w' => e = .returned (.bool (inN s l)) ∧ w' = w := by
  have HI := Lib.hid (index63_any l v s w hn)
  have HE := Lib.hid (idxN_in s l)
  obtain ⟨a, c, rfl, hm, hn⟩ := hn
  clear hn
  go_enter Tryd.func53, Tryd.ntmps53
  go_wp2_with fail
  refine HI.out.mono ?_
  rintro e w1 ⟨rfl, rfl⟩
  go_wp2_with fail
  all_goals go_ret
  all_goals exact ⟨ret_bool' HE.out, rfl⟩

set_option maxRecDepth 100000 in
set_option maxHeartbeats 4000000 in
theorem so52 (names : List ByteArray) (nv : Value) (b : Nat) (w : World) (hb : b < w.heap.size) (hc : w.cell? ⟨b, 0, none⟩ = some nv) (hn : NRep w w.heap.size nv names) :
    SoF w 52 #[.pointer (some ⟨b, 0, none⟩)] (declB names) := by
  intro n
  refine ⟨ent_of Tryd.func52 (by kernel_rfl) (by kernel_rfl), fun t v w' hb' hr => ?_⟩
  obtain ⟨k, s, of⟩ := t
  obtain ⟨a, c, rfl, _⟩ := hr
  dsimp only
  have hz := hb'.size
  have hb1 : Below w.heap.size w (w'.alloc (.cells #[.int .u8 k, .string s, .slice a of.length c] 39)) := hb'.alloc hz _
  have HC := Lib.hid (contains53_any names nv s _ (hn.up hb1 hb1.size))
  have c0 : w'.cell? ⟨b, 0, none⟩ = some nv := (hb'.cell (p := ⟨b, 0, none⟩) hb).trans hc
  have hbz : b < w'.heap.size := by omega
  obtain ⟨na, nc, rfl, _⟩ := hn
  clear hb1 hc
  have hD : declB names k s of.length = (k != 3 || inN s names) := rfl
  have HB : Hid (∀ o, Below w'.heap.size w' (w'.alloc o)) := fun o => (Below.refl _ _).alloc (Nat.le_refl _) o
  rw [hD]
  clear hD hb'
  show Calls Tryd.prog 52 #[_, _] w' _
  cases q : k != 3 with
  | true =>
    go_enter Tryd.func52, Tryd.ntmps52
    go_wp2_with fail
    all_goals go_ret
    all_goals exact ⟨rfl, HB.out _⟩
  | false =>
    go_enter Tryd.func52, Tryd.ntmps52
    go_wp2_with fail
    refine HC.out.mono ?_
    rintro e w1 ⟨rfl, rfl⟩
    go_wp2_with fail
    all_goals go_ret
    all_goals exact ⟨rfl, HB.out _⟩

set_option maxRecDepth 100000 in
set_option maxHeartbeats 4000000 in
theorem declared51_any (names : List ByteArray) (nv : Value) (b : Nat) (n : Nat) (t : FT n) (v : Value) (w : World) (hb : b < w.heap.size) (hc : w.cell? ⟨b, 0, none⟩ = some nv) (hn : NRep w w.heap.size nv names) (hr : FRep w w.heap.size n t v) :
    Calls Tryd.prog 51 #[v, .pointer (some ⟨b, 0, none⟩)] w fun e w' => e = .returned (.bool (allF (declB names) n t)) ∧ Below w.heap.size w w' := by
  obtain ⟨k, s, a, l, c, rfl⟩ := hr.shape
  have hmf : ∀ (fn : Fn) (first cap : Array Value) (w : World), (Instr.makeFunc fn first cap).run Tryd.prog w = .ok (.func fn first cap) w := fun _ _ _ _ => rfl
  have hbw : Below w.heap.size w (w.alloc (.cells #[.int .u8 k, .string s, .slice a l c] 39)) := (Below.refl _ _).alloc (Nat.le_refl _) _
  have HA := Lib.hid (all42_any (declB names) 52 #[.pointer (some ⟨b, 0, none⟩)] n t _ _ (hr.up hbw hbw.size) ((so52 names nv b w hb hc hn).up hbw))
  have HB := Lib.hid hbw
  clear hbw hn hr hc
  go_enter Tryd.func51, Tryd.ntmps51
  go_wp2_with fail
  refine HA.out.mono ?_
  rintro e w1 ⟨rfl, hb1⟩
  have HB1 := Lib.hid (HB.out.trans (hb1.mono HB.out.size))
  clear hb1
  go_wp2_with fail
  all_goals go_ret
  all_goals exact ⟨rfl, HB1.out⟩

set_option maxRecDepth 100000 in
set_option maxHeartbeats 4000000 in
theorem declared31_any (a : Option Addr) (l c : Nat) (w : World) :
    Calls Tryd.prog 31 #[.slice a l c] w fun e w' => e = .returned (.func (.func 51) #[] #[.pointer (some ⟨w.heap.size, 0, none⟩)]) ∧ w' = w.alloc (.cells #[.slice a l c] 28) := by
  have hmf : ∀ (fn : Fn) (first cap : Array Value) (w : World), (Instr.makeFunc fn first cap).run Tryd.prog w = .ok (.func fn first cap) w := fun _ _ _ _ => rfl
  go_enter Tryd.func31, Tryd.ntmps31
  go_wp2_with fail
  all_goals go_ret
  all_goals exact ⟨rfl, rfl⟩
end Go.Proofs.YtabpfbgcdmejbaaDoor
