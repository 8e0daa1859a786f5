/- zone.places walked; slices.Contains on errors. -/
import Derived.LoopTactic
import Derived.Test.YtockinpjfhhkoaaGreatDoorAtJ
namespace Go.Proofs.YtockinpjfhhkoaaGreatDoor
open Go.RowKit

set_option maxRecDepth 100000 in
theorem places121_any (w : World) : Calls Tryz.prog 121 #[] w fun e w' => e = .returned (.agg #[.int .i64 3, .int .i64 1, .int .i64 6, .int .i64 2, .int .i64 7, .int .i64 5]) ∧ Below w.heap.size w w' := by
  go_enter Tryz.func121, Tryz.ntmps121
  go_wp2_with fail
  refine bodyPost_ret (results_cell_row rfl _ _ _ _ _ _ _ rfl (hp_topA rfl) Tryz.underlying182 rfl (by kernel_rfl)) rfl ?_
  exact ⟨rfl, belowA _ _⟩
/-- Errors in block b. -/
def ErrR (w : World) (b : Nat) (l : List Int) : Prop := b < w.heap.size ∧ ∀ k (h : k < l.length), w.cell? ⟨b, k, none⟩ = some (.int .i64 l[k])
set_option maxRecDepth 100000 in
set_option maxHeartbeats 2000000 in
theorem index160_any (b c : Nat) (l : List Int) (e0 : Int) (w : World) (h : ErrR w b l) (hl : l.length ≤ 100) (hne : ∀ x ∈ l, x ≠ e0) :
    Calls Tryz.prog 160 #[.slice (some ⟨b, 0, none⟩) l.length c, .int .i64 e0] w fun e w' => e = .returned (.int .i64 (-1)) ∧ w' = w := by
  have hbl := h.1
  have H := Lib.hid h
  have HN := Lib.hid hne
  clear h hne
  go_enter Tryz.func160, Tryz.ntmps160
  go_wp2_with fail
  go_loop [8] (fun i => ∃ k : Nat, k ≤ l.length ∧ i = .int .i64 k) (fun i => l.length - (intOf i).toNat)
  case atStart => exact ⟨0, Nat.zero_le _, rfl⟩
  case round =>
    obtain ⟨k, hk, rfl⟩ := hrel
    by_cases hlt : k < l.length
    · have c1 := H.out.2 k hlt
      have hlti : (k : Int) < (l.length : Int) := by omega
      have hx := HN.out _ (List.getElem_mem hlt)
      obtain ⟨x, hxx⟩ : ∃ x, l[k] = x := ⟨_, rfl⟩
      rw [hxx] at c1 hx
      have q : (e0 == x) = false := by simpa using Ne.symm hx
      clear hxx hx
      go_wp2_with fail
      go_round
      case rel => exact ⟨k + 1, by omega, by go_num⟩
      case measure => simp [intOf]; omega
    · go_wp2_with fail
      go_ret
      exact ⟨rfl, rfl⟩
set_option maxRecDepth 100000 in
theorem contains89_any (b c : Nat) (l : List Int) (e0 : Int) (w : World) (h : ErrR w b l) (hl : l.length ≤ 100) (hne : ∀ x ∈ l, x ≠ e0) :
    Calls Tryz.prog 89 #[.slice (some ⟨b, 0, none⟩) l.length c, .int .i64 e0] w fun e w' => e = .returned (.bool false) ∧ w' = w := by
  have H := Lib.hid (index160_any b c l e0 w h hl hne)
  clear h hne
  go_enter Tryz.func89, Tryz.ntmps89
  go_wp2_with fail
  refine H.out.mono ?_
  rintro e w1 ⟨rfl, rfl⟩
  go_wp2_with fail
  all_goals go_ret
  all_goals exact ⟨rfl, rfl⟩
def plc (i : Nat) : Nat := [3, 1, 6, 2, 7, 5].getD i 0
theorem idx182 (k : Nat) (hk : k < 6) (W : World) : (Instr.index 182 (.agg #[.int .i64 3, .int .i64 1, .int .i64 6, .int .i64 2, .int .i64 7, .int .i64 5]) (.int .i64 (k : Int))).run Tryz.prog W = .ok (.int .i64 (plc k : Nat)) W := by
  match k, hk with
  | 0, _ | 1, _ | 2, _ | 3, _ | 4, _ | 5, _ => simp [Instr.index, run_underlying Tryz.underlying182, Sem.run_bind, Result.andThen, go_sem, plc]
end Go.Proofs.YtockinpjfhhkoaaGreatDoor
