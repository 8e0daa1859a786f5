/- Plain laws of layer 20: a proposition that a formula does not name turns nothing. No program. -/
import Derived.Test.YtabpfbgcdmejbaaDoorPropE
namespace Go.Proofs.YtabpfbgcdmejbaaDoor
open Go.RowKit

/-- Has a formula a name? -/
def hasF : (n : Nat) → FT n → ByteArray → Bool
  | 0, _, _ => false
  | n + 1, t, s => (t.1 == 3 && t.2.1.toList == s.toList) || t.2.2.any fun x => hasF n x s

theorem holdsF_succ (names : List ByteArray) (n : Nat) (k : Int) (s : ByteArray) (of : List (FT n)) (on : Int) : holdsF names (n + 1) (k, s, of) on =
    if k = 3 then bits .and .i64 on (bitV names s) != 0
    else if k = 4 then !((of.map fun x => holdsF names n x on).getD 0 false)
    else if k = 5 then (of.map fun x => holdsF names n x on).getD 0 false && (of.map fun x => holdsF names n x on).getD 1 false
    else if k = 6 then (of.map fun x => holdsF names n x on).getD 0 false || (of.map fun x => holdsF names n x on).getD 1 false
    else k == 1 := rfl

theorem and_bit : ∀ on : Fin 256, ∀ d : Fin 8, (bits .and .i64 ((on.1 : Nat) : Int) (wrap64 (2 ^ d.1)) != 0) = on.1.testBit d.1 := by decide +kernel
theorem xor_bit : ∀ on : Fin 256, ∀ d : Fin 8, bits .xor .u8 ((on.1 : Nat) : Int) (IntKind.u8.wrap (2 ^ d.1)) = ((on.1 ^^^ 2 ^ d.1 : Nat) : Int) := by decide +kernel

theorem bit_apart {on at_ d : Nat} (h : d ≠ at_) : (on ^^^ 2 ^ at_).testBit d = on.testBit d := by
  rw [Nat.testBit_xor, Nat.testBit_two_pow_of_ne (fun h' => h h'.symm), Bool.xor_false]
theorem xor_small {on at_ L : Nat} (h : on < 2 ^ L) (ha : at_ < L) : on ^^^ 2 ^ at_ < 2 ^ L := Nat.xor_lt_two_pow h (Nat.pow_lt_pow_right (by omega) ha)

theorem idx_name {names : List ByteArray} {s : ByteArray} {d : Nat} (h : idxN s names = d) (hd : d < names.length) : s.toList = (names[d]).toList := by
  unfold idxN at h
  cases q : names.findIdx? (fun x => s.toList == x.toList) with
  | none => rw [q] at h; simp at h
  | some k =>
    rw [q] at h
    obtain rfl : k = d := by
      have h' : (k : Int) = (d : Int) := h
      omega
    have := (List.findIdx?_eq_some_iff_getElem.1 q).2.1
    simpa using this

theorem holds_apart (names : List ByteArray) (hl : names.length ≤ 8) (at_ : Nat) (hat : at_ < names.length) (on : Nat) (hon : on < 2 ^ names.length) : ∀ (n : Nat) (f : FT n), allF (declB names) n f = true → hasF n f names[at_] = false → holdsF names n f ((on ^^^ 2 ^ at_ : Nat) : Int) = holdsF names n f (on : Int)
  | 0, f, _, _ => nomatch f
  | n + 1, f, hd, hh => by
    obtain ⟨k, s, of⟩ := f
    rw [allF_succ, Bool.and_eq_true, List.all_eq_true] at hd
    obtain ⟨hd1, hd2⟩ := hd
    have hh' : ((k == 3 && s.toList == (names[at_]).toList) || of.any fun x => hasF n x names[at_]) = false := hh
    rw [Bool.or_eq_false_iff, List.any_eq_false] at hh'
    obtain ⟨h1, h2⟩ := hh'
    have hm : (of.map fun x => holdsF names n x ((on ^^^ 2 ^ at_ : Nat) : Int)) = of.map fun x => holdsF names n x (on : Int) :=
      List.map_congr_left fun x hx => holds_apart names hl at_ hat on hon n x (hd2 x hx) (by simpa using h2 x hx)
    have h256 : (2 : Nat) ^ names.length ≤ 256 := by
      have := Nat.pow_le_pow_right (n := 2) (by omega) hl
      simpa using this
    rw [holdsF_succ, holdsF_succ, hm]
    by_cases hk : k = 3
    · subst hk
      rw [if_pos rfl, if_pos rfl]
      have hin : inN s names = true := by unfold declB at hd1; simpa using hd1
      obtain ⟨d, hd, hdl⟩ := idx_found hin
      have hne : d ≠ at_ := by
        intro e
        subst e
        have := idx_name hd hdl
        rw [this] at h1
        simp at h1
      unfold bitV
      rw [hd, Int.toNat_natCast]
      have hx := xor_small hon hat
      rw [and_bit ⟨on ^^^ 2 ^ at_, by omega⟩ ⟨d, by omega⟩, and_bit ⟨on, by omega⟩ ⟨d, by omega⟩]
      exact bit_apart hne
    · rw [if_neg hk, if_neg hk]
end Go.Proofs.YtabpfbgcdmejbaaDoor

/- law20.has walked: whether a formula has a name. -/
namespace Go.Proofs.YtabpfbgcdmejbaaDoor
open Go.RowKit

set_option maxRecDepth 100000 in
set_option maxHeartbeats 4000000 in
theorem has25_any (s : ByteArray) (n : Nat) : ∀ (t : FT n) (v : Value) (w : World), FRep w w.heap.size n t v →
    Calls Tryd.prog 25 #[v, .string s] w fun e w' => e = .returned (.bool (hasF n t s)) ∧ Below w.heap.size w w' := by
  induction n with
  | zero => intro t v w h; exact h.elim
  | succ n ih =>
    intro t v w h
    obtain ⟨k, sn, of⟩ := t
    obtain ⟨a, c, rfl, hR⟩ := h
    dsimp only at hR ⊢
    have hm := hR.1
    have HR := Lib.hid hR
    have IH := Lib.hid ih
    have HE : Hid (hasF (n + 1) (k, sn, of) s = ((k == 3 && sn.toList == s.toList) || of.any fun x => hasF n x s)) := rfl
    have HZ : Hid (Below w.heap.size w (w.alloc (.cells #[.int .u8 k, .string sn, .slice a of.length c] 39))) := (Below.refl _ _).alloc (Nat.le_refl _) _
    clear hR ih
    by_cases hq : (k == 3) = true ∧ (sn.toList == s.toList) = true
    · obtain ⟨q1, q2⟩ := hq
      have HO : Hid (hasF (n + 1) (k, sn, of) s = true) := by rw [Hid, HE.out, q1, q2]; rfl
      go_enter Tryd.func25, Tryd.ntmps25
      go_wp2_with fail
      all_goals go_ret
      all_goals exact ⟨ret_bool' (by rw [HO.out]), HZ.out⟩
    · have HO : Hid (hasF (n + 1) (k, sn, of) s = of.any fun x => hasF n x s) := by
        rw [Hid, HE.out]
        cases q1 : (k == 3) <;> cases q2 : (sn.toList == s.toList) <;> simp_all
      have hq2 : (k == 3) = false ∨ ((k == 3) = true ∧ (sn.toList == s.toList) = false) := by
        cases q1 : (k == 3) <;> cases q2 : (sn.toList == s.toList) <;> simp_all
      clear hq HE
      rcases hq2 with q1 | ⟨q1, q2⟩
      all_goals
        go_enter Tryd.func25, Tryd.ntmps25
        go_wp2_with fail
        clear q1
        try clear q2
        go_loopw [5] (fun i wr => ∃ j : Nat, j ≤ of.length ∧ i = .int .i64 j ∧ Hid ((of.take j).any (fun x => hasF n x s) = false) ∧ Below w.heap.size w wr ∧ w.heap.size < wr.heap.size ∧ wr.cell? ⟨w.heap.size, 2, none⟩ = some (.slice a of.length c)) (fun i _ => of.length - (intOf i).toNat)
        case atStart => exact ⟨0, Nat.zero_le _, rfl, by simp [Hid], HZ.out, by simp, by simp [World.cell?_alloc_at]⟩
        case round =>
          obtain ⟨j, hj, rfl, HT, hbw, hsz, hbox⟩ := hrel
          have HBW := Lib.hid hbw
          by_cases hlt : j < of.length
          · obtain ⟨b, off, k', s', sa, sl, sc, rfl, hbl, c0, c1, c2, hr⟩ := (FRow.up HR.out hbw (Nat.le_refl _)).at j hlt
            have hz := hbw.size
            have hbl' : b < wr.heap.size := by omega
            have HC := Lib.hid (IH.out of[j] _ wr (hr.up (Below.refl _ _) hz))
            have HS := Lib.hid (any_take (fun x => hasF n x s) of j hlt HT.out)
            have HA := Lib.hid (any_of_at (fun x => hasF n x s) of j hlt)
            clear hr hbw
            go_wp2_with fail
            refine HC.out.mono ?_
            rintro e w3 ⟨rfl, hb4⟩
            have HB4 := Lib.hid (HBW.out.trans (hb4.mono hz))
            have hbox3 := (hb4.cell (p := ⟨w.heap.size, 2, none⟩) hsz).trans hbox
            have hsz3 : w.heap.size < w3.heap.size := by have := hb4.size; omega
            clear hb4
            cases hg : hasF n of[j] s with
            | true =>
              have HG := Lib.hid hg
              clear hg
              go_wp2_with fail
              all_goals go_ret
              all_goals exact ⟨ret_bool' (by rw [HO.out, HA.out HG.out]), HB4.out⟩
            | false =>
              have HG := Lib.hid hg
              clear hg
              go_wp2_with fail
              go_roundw
              case rel => exact ⟨j + 1, by omega, by go_num, by rw [Hid, HS.out, HG.out], HB4.out, hsz3, hbox3⟩
              case measure => simp [intOf]; omega
          · have hje : j = of.length := by omega
            have HF : Hid (of.any (fun x => hasF n x s) = false) := by rw [Hid]; have := HT.out; rw [hje, List.take_length] at this; exact this
            clear hbw
            go_wp2_with fail
            all_goals go_ret
            all_goals exact ⟨ret_bool' (by rw [HO.out, HF.out]), HBW.out⟩
end Go.Proofs.YtabpfbgcdmejbaaDoor
