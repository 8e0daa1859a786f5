/- rat.checked, first, Keeps walked. -/
import Derived.Deep.Cut
import Derived.LoopTactic
import Derived.Test.YtockinpjfhhkoaaGreatDoorAtK
namespace Go.Proofs.YtockinpjfhhkoaaGreatDoor
open Go.RowKit

/-- Fractions in block b, one behind the other. -/
def RatR (w : World) (b : Nat) (l : List (Int × Int)) : Prop := b < w.heap.size ∧ ∀ k (h : k < l.length), w.cell? ⟨b, k * 2, none⟩ = some (.int .i64 (l[k]).1) ∧ w.cell? ⟨b, k * 2 + 1, none⟩ = some (.int .i64 (l[k]).2)
theorem RatR.below {w w' : World} {b : Nat} {l : List (Int × Int)} (h : RatR w b l) (hb : Below w.heap.size w w') : RatR w' b l :=
  ⟨Nat.lt_of_lt_of_le h.1 hb.size, fun k hk => ⟨(hb.cell (p := ⟨b, _, none⟩) h.1).trans (h.2 k hk).1, (hb.cell (p := ⟨b, _, none⟩) h.1).trans (h.2 k hk).2⟩⟩
def ratsE (l : List (Int × Int)) : Int := if l.all (fun a => mayQ a.1 a.2) = true then 0 else 8
theorem ratsE_at {l : List (Int × Int)} {k : Nat} (h : k < l.length) (hf : mayQ (l[k]).1 (l[k]).2 = false) : ratsE l = 8 := by
  unfold ratsE
  have : l.all (fun a => mayQ a.1 a.2) = false := by
    rw [List.all_eq_false]
    exact ⟨_, List.getElem_mem h, by simp [hf]⟩
  rw [this]
  rfl
theorem ratsE_all {l : List (Int × Int)} (h : ∀ k (hk : k < l.length), mayQ (l[k]).1 (l[k]).2 = true) : ratsE l = 0 := by
  unfold ratsE
  rw [if_pos]
  rw [List.all_eq_true]
  intro x hx
  obtain ⟨k, hk, rfl⟩ := List.mem_iff_getElem.1 hx
  exact h k hk
set_option maxRecDepth 100000 in
set_option maxHeartbeats 8000000 in
theorem checked80_any {b c : Nat} {l : List (Int × Int)} {w : World} (h : RatR w b l) (hl : l.length ≤ 100) (hr : ∀ x ∈ l, in64 x.1) :
    Calls Tryz.prog 80 #[.slice (some ⟨b, 0, none⟩) l.length c] w fun e w' => e = .returned (.int .i64 (ratsE l)) ∧ Below w.heap.size w w' := by
  have H := Lib.hid h
  have HR := Lib.hid hr
  have hbl := h.1
  clear h hr
  go_enter Tryz.func80, Tryz.ntmps80
  go_wp2_with fail
  go_loopw [8] (fun i wr => ∃ k : Nat, k ≤ l.length ∧ i = .int .i64 k ∧ Hid (∀ i (h : i < k) (h' : i < l.length), mayQ (l[i]).1 (l[i]).2 = true) ∧ Hid (Below w.heap.size w wr)) (fun i _ => l.length - (intOf i).toNat)
  case atStart => exact ⟨0, Nat.zero_le _, rfl, fun i h => absurd h (Nat.not_lt_zero i), Below.refl _ _⟩
  case round =>
    obtain ⟨k, hk, rfl, HP, HB⟩ := hrel
    have hz := HB.out.size
    by_cases hlt : k < l.length
    · obtain ⟨c1, c2⟩ := (H.out.below HB.out).2 k hlt
      obtain ⟨a, p, hap⟩ : ∃ a p, l[k] = (a, p) := ⟨_, _, rfl⟩
      have ha : in64 a := by have := HR.out _ (List.getElem_mem hlt); rw [hap] at this; exact this
      rw [hap] at c1 c2
      dsimp only at c1 c2
      have HAP := Lib.hid hap
      have HC := Lib.hid (check52_any a p (wr.alloc (.cells #[.int .i64 a, .int .i64 p] 50)) ha)
      have hbl2 : b < wr.heap.size := by omega
      have hlti : (k : Int) < (l.length : Int) := by omega
      clear hap ha
      cases hm : mayQ a p with
      | true =>
        have HM := Lib.hid hm
        have HE := Lib.hid (ratE_ok hm)
        rw [HE.out] at HC
        clear hm HE
        go_wp2_with fail
        refine HC.out.mono ?_
        rintro e w1 ⟨rfl, hb1⟩
        have HB1 := Lib.hid ((HB.out.alloc hz (.cells #[.int .i64 a, .int .i64 p] 50)).trans (hb1.mono (by simp; omega)))
        clear hb1 c1 c2
        go_wp2_with fail
        go_roundw
        case rel => exact ⟨k + 1, by omega, by go_num, fun i hi hi' => (by
          rcases Nat.lt_or_ge i k with h | h
          · exact HP.out i h hi'
          · obtain rfl : i = k := by omega
            rw [HAP.out]; exact HM.out), HB1⟩
        case measure => simp [intOf]; omega
      | false =>
        have HM : Hid (ratsE l = 8) := ratsE_at hlt (by rw [HAP.out]; exact hm)
        have HE := Lib.hid (ratE_no hm)
        rw [HE.out] at HC
        clear hm HE
        go_wp2_with fail
        refine HC.out.mono ?_
        rintro e w1 ⟨rfl, hb1⟩
        have HB1 := Lib.hid ((HB.out.alloc hz (.cells #[.int .i64 a, .int .i64 p] 50)).trans (hb1.mono (by simp; omega)))
        clear hb1 c1 c2
        go_wp2_with fail
        go_ret
        exact ⟨ret_i (by rw [HM.out]), HB1.out⟩
    · have HM : Hid (ratsE l = 0) := ratsE_all fun k' hk' => HP.out k' (by omega) hk'
      go_wp2_with fail
      go_ret
      exact ⟨ret_i (by rw [HM.out]), HB.out⟩
set_option maxRecDepth 100000 in
set_option maxHeartbeats 4000000 in
theorem first146_any (x y v : Int) (K : Nat) (caps : Array Value) (w : World) (hK : Ent K) (hC : Calls Tryz.prog K caps w fun e w' => e = .returned (.int .i64 v) ∧ Below w.heap.size w w') :
    Calls Tryz.prog 146 #[.int .i64 x, .int .i64 y, .func (.func K) #[] caps] w fun e w' => e = .returned (.int .i64 (if cmpI x y = 0 then v else cmpI x y)) ∧ Below w.heap.size w w' := by
  unfold Ent at hK
  have HC := Lib.hid hC
  clear hC
  have HP := Lib.hid (cmp190_any x y w)
  obtain ⟨c, hc⟩ : ∃ c, cmpI x y = c := ⟨_, rfl⟩
  rw [hc] at HP ⊢
  clear hc
  by_cases h0 : c = 0
  · have HE : Hid ((if c = 0 then v else c) = v) := if_pos h0
    rw [HE.out]
    have q : (c != 0) = false := by simpa using h0
    clear h0
    go_enter Tryz.func146, Tryz.ntmps146
    go_wp2_with fail
    refine HP.out.mono ?_
    rintro e w1 ⟨rfl, rfl⟩
    go_wp2_with fail
    refine HC.out.mono ?_
    rintro e w2 ⟨rfl, hb2⟩
    go_wp2_with fail
    all_goals go_ret
    all_goals exact ⟨rfl, hb2⟩
  · have HE : Hid ((if c = 0 then v else c) = c) := if_neg h0
    rw [HE.out]
    have q : (c != 0) = true := by simpa using h0
    clear h0
    go_enter Tryz.func146, Tryz.ntmps146
    go_wp2_with fail
    refine HP.out.mono ?_
    rintro e w1 ⟨rfl, rfl⟩
    go_wp2_with fail
    all_goals go_ret
    all_goals exact ⟨rfl, Below.refl _ _⟩
end Go.Proofs.YtockinpjfhhkoaaGreatDoor
