/- prop.made walked: a formula as what it says of a number: the function values that are made of one. -/
import Derived.Deep.RegionLaw
import Derived.Deep.AppendLies
import Derived.Test.YtabpfbgcdmejbaaDoorTreeG
namespace Go.Proofs.YtabpfbgcdmejbaaDoor
open Go.RowKit

/-- The bit of a name. -/
def bitV (names : List ByteArray) (s : ByteArray) : Int := wrap64 (2 ^ (idxN s names).toNat)
/-- What a formula says of a number. -/
def holdsF (names : List ByteArray) : (n : Nat) → FT n → Int → Bool
  | 0, _, _ => false
  | n + 1, t, on =>
    if t.1 = 3 then bits .and .i64 on (bitV names t.2.1) != 0
    else if t.1 = 4 then !((t.2.2.map fun x => holdsF names n x on).getD 0 false)
    else if t.1 = 5 then (t.2.2.map fun x => holdsF names n x on).getD 0 false && (t.2.2.map fun x => holdsF names n x on).getD 1 false
    else if t.1 = 6 then (t.2.2.map fun x => holdsF names n x on).getD 0 false || (t.2.2.map fun x => holdsF names n x on).getD 1 false
    else t.1 == 1

/-- A function value of numbers answers as g does, now, and leaves all as it is. -/
def FnAt (w : World) (v : Value) (g : Int → Bool) : Prop :=
  ∃ K caps, v = .func (.func K) #[] caps ∧ Ent K ∧ ∀ on : Int, Calls Tryd.prog K (#[.int .i64 on] ++ caps) w fun e w' => e = .returned (.bool (g on)) ∧ w' = w
/-- It answers so wherever the blocks from lo below hi are as they are. -/
def FnI (w : World) (lo hi : Nat) (v : Value) (g : Int → Bool) : Prop :=
  ∀ w' : World, (∀ b, lo ≤ b → b < hi → w'.heap[b]? = w.heap[b]?) → FnAt w' v g
theorem FnI.agree {w w1 : World} {lo hi : Nat} {v : Value} {g : Int → Bool} (h : FnI w lo hi v g) (ha : ∀ b, lo ≤ b → b < hi → w1.heap[b]? = w.heap[b]?) : FnI w1 lo hi v g :=
  fun w' h' => h w' fun b h1 h2 => (h' b h1 h2).trans (ha b h1 h2)

set_option maxRecDepth 100000 in
set_option maxHeartbeats 2000000 in
theorem clo64_any (b : Nat) (bit on : Int) (w : World) (hb : b < w.heap.size) (hc : w.cell? ⟨b, 0, none⟩ = some (.int .i64 bit)) :
    Calls Tryd.prog 64 #[.int .i64 on, .pointer (some ⟨b, 0, none⟩)] w fun e w' => e = .returned (.bool (bits .and .i64 on bit != 0)) ∧ w' = w := by
  go_enter Tryd.func64, Tryd.ntmps64
  go_wp2_with fail
  all_goals go_ret
  all_goals exact ⟨rfl, rfl⟩

set_option maxRecDepth 100000 in
set_option maxHeartbeats 2000000 in
theorem clo68_any (b : Nat) (k : Int) (on : Int) (w : World) (hb : b < w.heap.size) (hc : w.cell? ⟨b, 0, none⟩ = some (.int .u8 k)) :
    Calls Tryd.prog 68 #[.int .i64 on, .pointer (some ⟨b, 0, none⟩)] w fun e w' => e = .returned (.bool (k == 1)) ∧ w' = w := by
  go_enter Tryd.func68, Tryd.ntmps68
  go_wp2_with fail
  all_goals go_ret
  all_goals exact ⟨rfl, rfl⟩

set_option maxRecDepth 100000 in
set_option maxHeartbeats 2000000 in
theorem clo65_any (b g : Nat) (l c : Nat) (v0 : Value) (h0 : Int → Bool) (on : Int) (w : World) (hb : b < w.heap.size) (hg : g < w.heap.size) (hl : 0 < l) (hc : w.cell? ⟨b, 0, none⟩ = some (.slice (some ⟨g, 0, none⟩) l c)) (d0 : w.cell? ⟨g, 0, none⟩ = some v0) (hf : FnAt w v0 h0) :
    Calls Tryd.prog 65 #[.int .i64 on, .pointer (some ⟨b, 0, none⟩)] w fun e w' => e = .returned (.bool (!h0 on)) ∧ w' = w := by
  obtain ⟨K, caps, rfl, hK, hC⟩ := hf
  unfold Ent at hK
  have HC := Lib.hid (hC on)
  clear hC
  go_enter Tryd.func65, Tryd.ntmps65
  go_wp2_with fail
  refine HC.out.mono ?_
  rintro e w1 ⟨rfl, rfl⟩
  go_wp2_with fail
  all_goals go_ret
  all_goals exact ⟨rfl, rfl⟩

set_option maxRecDepth 100000 in
set_option maxHeartbeats 4000000 in
theorem clo66_any (b g : Nat) (l c : Nat) (v0 v1 : Value) (h0 h1 : Int → Bool) (on : Int) (w : World) (hb : b < w.heap.size) (hg : g < w.heap.size) (hl : 1 < l) (hc : w.cell? ⟨b, 0, none⟩ = some (.slice (some ⟨g, 0, none⟩) l c)) (d0 : w.cell? ⟨g, 0, none⟩ = some v0) (d1 : w.cell? ⟨g, 1, none⟩ = some v1) (hf0 : FnAt w v0 h0) (hf1 : FnAt w v1 h1) :
    Calls Tryd.prog 66 #[.int .i64 on, .pointer (some ⟨b, 0, none⟩)] w fun e w' => e = .returned (.bool (h0 on && h1 on)) ∧ w' = w := by
  obtain ⟨K, caps, rfl, hK, hC⟩ := hf0
  obtain ⟨K1, caps1, rfl, hK1, hC1⟩ := hf1
  unfold Ent at hK hK1
  have HC := Lib.hid (hC on)
  have HC1 := Lib.hid (hC1 on)
  clear hC hC1
  cases q : h0 on with
  | true =>
    rw [q] at HC
    go_enter Tryd.func66, Tryd.ntmps66
    go_wp2_with fail
    refine HC.out.mono ?_
    rintro e w1 ⟨rfl, rfl⟩
    go_wp2_with fail
    refine HC1.out.mono ?_
    rintro e w1 ⟨rfl, rfl⟩
    go_wp2_with fail
    all_goals go_ret
    all_goals exact ⟨by simp, rfl⟩
  | false =>
    rw [q] at HC
    go_enter Tryd.func66, Tryd.ntmps66
    go_wp2_with fail
    refine HC.out.mono ?_
    rintro e w1 ⟨rfl, rfl⟩
    go_wp2_with fail
    all_goals go_ret
    all_goals exact ⟨by simp, rfl⟩

set_option maxRecDepth 100000 in
set_option maxHeartbeats 4000000 in
theorem clo67_any (b g : Nat) (l c : Nat) (v0 v1 : Value) (h0 h1 : Int → Bool) (on : Int) (w : World) (hb : b < w.heap.size) (hg : g < w.heap.size) (hl : 1 < l) (hc : w.cell? ⟨b, 0, none⟩ = some (.slice (some ⟨g, 0, none⟩) l c)) (d0 : w.cell? ⟨g, 0, none⟩ = some v0) (d1 : w.cell? ⟨g, 1, none⟩ = some v1) (hf0 : FnAt w v0 h0) (hf1 : FnAt w v1 h1) :
    Calls Tryd.prog 67 #[.int .i64 on, .pointer (some ⟨b, 0, none⟩)] w fun e w' => e = .returned (.bool (h0 on || h1 on)) ∧ w' = w := by
  obtain ⟨K, caps, rfl, hK, hC⟩ := hf0
  obtain ⟨K1, caps1, rfl, hK1, hC1⟩ := hf1
  unfold Ent at hK hK1
  have HC := Lib.hid (hC on)
  have HC1 := Lib.hid (hC1 on)
  clear hC hC1
  cases q : h0 on with
  | false =>
    rw [q] at HC
    go_enter Tryd.func67, Tryd.ntmps67
    go_wp2_with fail
    refine HC.out.mono ?_
    rintro e w1 ⟨rfl, rfl⟩
    go_wp2_with fail
    refine HC1.out.mono ?_
    rintro e w1 ⟨rfl, rfl⟩
    go_wp2_with fail
    all_goals go_ret
    all_goals exact ⟨by simp, rfl⟩
  | true =>
    rw [q] at HC
    go_enter Tryd.func67, Tryd.ntmps67
    go_wp2_with fail
    refine HC.out.mono ?_
    rintro e w1 ⟨rfl, rfl⟩
    go_wp2_with fail
    all_goals go_ret
    all_goals exact ⟨by simp, rfl⟩
end Go.Proofs.YtabpfbgcdmejbaaDoor
