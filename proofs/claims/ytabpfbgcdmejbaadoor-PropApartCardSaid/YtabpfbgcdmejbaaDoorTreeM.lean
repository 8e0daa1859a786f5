/- Layer 16 walked: what Check hands on; Formula; Check. -/
import Derived.Test.YtabpfbgcdmejbaaDoorTreeK
import Derived.Test.YtabpfbgcdmejbaaDoorTreeL
namespace Go.Proofs.YtabpfbgcdmejbaaDoor
open Go.RowKit

set_option maxRecDepth 100000 in
set_option maxHeartbeats 4000000 in
theorem open38_any (m : Nat) (k : Int) (is : List (FT m)) (a1 : Option Addr) (c1 : Nat) (a : Option Addr) (l c : Nat) (lo hi : Int) (ls hs op : Bool) (w : World) :
    Calls Tryd.prog 38 #[.agg #[.int .u8 k, .slice a1 is.length c1, .slice a l c, .int .i64 lo, .bool ls, .int .i64 hi, .bool hs, .bool op]] w fun e w' => e = .returned (.bool (openX k is l ⟨lo, ls, hi, hs, op⟩)) ∧ Below w.heap.size w w' := by
  have hb : Below w.heap.size w (w.alloc (.cells #[.int .u8 k, .slice a1 is.length c1, .slice a l c, .int .i64 lo, .bool ls, .int .i64 hi, .bool hs, .bool op] 32)) := (Below.refl _ _).alloc (Nat.le_refl _) _
  have HI := Lib.hid (interval9_any ⟨lo, ls, hi, hs, op⟩)
  have HE : Hid (openX k is l ⟨lo, ls, hi, hs, op⟩ = (k != 6 || ivR ⟨lo, ls, hi, hs, op⟩ == 0)) := rfl
  unfold Spn.val at HI
  dsimp only at HI
  generalize ivR ⟨lo, ls, hi, hs, op⟩ = iv at HI HE
  have HB := Lib.hid hb
  clear hb
  cases q : k != 6 with
  | true =>
    have HQ := Lib.hid q
    go_enter Tryd.func38, Tryd.ntmps38
    go_wp2_with fail
    all_goals go_ret
    all_goals exact ⟨ret_bool' (by rw [HE.out, HQ.out]; rfl), HB.out⟩
  | false =>
    have HQ := Lib.hid q
    go_enter Tryd.func38, Tryd.ntmps38
    go_wp2_with fail
    refine (HI.out _).mono ?_
    rintro e w1 ⟨rfl, hb1⟩
    have HB1 := Lib.hid (HB.out.trans (hb1.mono HB.out.size))
    clear hb1
    go_wp2_with fail
    all_goals go_ret
    all_goals exact ⟨ret_bool' (by rw [HE.out, HQ.out]; rfl), HB1.out⟩
theorem so38 {m : Nat} (w : World) : SoX (m := m) w 38 #[] openX := by
  intro n
  refine ⟨ent_of Tryd.func38 (by kernel_rfl) (by kernel_rfl), fun t v w' hb' hr => ?_⟩
  obtain ⟨k, is, of, lo, ls, hi, hs, op⟩ := t
  obtain ⟨a1, c1, a, c, rfl, _, _⟩ := hr
  exact open38_any m k is a1 c1 a of.length c lo hi ls hs op w'

/-- The variable at block b bears the function value that tells whether a formula's names are declared: its own variable, at block b0, bears the names. -/
def Known (w : World) (names : List ByteArray) (b b0 : Nat) : Prop :=
  ∃ nv, b < w.heap.size ∧ b0 < w.heap.size ∧ w.cell? ⟨b, 0, none⟩ = some (.func (.func 51) #[] #[.pointer (some ⟨b0, 0, none⟩)]) ∧ w.cell? ⟨b0, 0, none⟩ = some nv ∧ NRep w w.heap.size nv names
theorem Known.up {w w' : World} {names : List ByteArray} {b b0 : Nat} (h : Known w names b b0) (hb : Below w.heap.size w w') : Known w' names b b0 := by
  obtain ⟨nv, h1, h2, h3, h4, h5⟩ := h
  have hz := hb.size
  exact ⟨nv, by omega, by omega, (hb.cell (p := ⟨b, 0, none⟩) h1).trans h3, (hb.cell (p := ⟨b0, 0, none⟩) h2).trans h4, h5.up hb hz⟩

set_option maxRecDepth 100000 in
set_option maxHeartbeats 4000000 in
theorem not37_any (names : List ByteArray) (b b0 n : Nat) (t : FT n) (v : Value) (w : World) (h : Known w names b b0) (hr : FRep w w.heap.size n t v) :
    Calls Tryd.prog 37 #[v, .pointer (some ⟨b, 0, none⟩)] w fun e w' => e = .returned (.bool (!allF (declB names) n t)) ∧ Below w.heap.size w w' := by
  obtain ⟨k, s, a, l, c, rfl⟩ := hr.shape
  have hbw : Below w.heap.size w (w.alloc (.cells #[.int .u8 k, .string s, .slice a l c] 39)) := (Below.refl _ _).alloc (Nat.le_refl _) _
  obtain ⟨nv, h1, h2, h3, h4, h5⟩ := h.up hbw
  have HD := Lib.hid (declared51_any names nv b0 n t _ _ h2 h4 h5 (hr.up hbw hbw.size))
  obtain ⟨_, g1, _, g3, _, _⟩ := h
  have HB := Lib.hid hbw
  clear h5 hr hbw h1 h2 h3 h4
  go_enter Tryd.func37, Tryd.ntmps37
  go_wp2_with fail
  refine HD.out.mono ?_
  rintro e w1 ⟨rfl, hb1⟩
  have HB1 := Lib.hid (HB.out.trans (hb1.mono HB.out.size))
  clear hb1
  go_wp2_with fail
  all_goals go_ret
  all_goals exact ⟨rfl, HB1.out⟩

set_option maxRecDepth 100000 in
set_option maxHeartbeats 4000000 in
theorem names35_any (m : Nat) (names : List ByteArray) (b b0 : Nat) (k : Int) (is : List (FT m)) (a1 : Option Addr) (c1 : Nat) (a : Option Addr) (l c : Nat) (lo hi : Int) (ls hs op : Bool) (w : World) (h : Known w names b b0) (hR : FRow w w.heap.size m a1 is) :
    Calls Tryd.prog 35 #[.agg #[.int .u8 k, .slice a1 is.length c1, .slice a l c, .int .i64 lo, .bool ls, .int .i64 hi, .bool hs, .bool op], .pointer (some ⟨b, 0, none⟩)] w fun e w' => e = .returned (.bool (namesX names k is l ⟨lo, ls, hi, hs, op⟩)) ∧ Below w.heap.size w w' := by
  have hmf : ∀ (fn : Fn) (first cap : Array Value) (w : World), (Instr.makeFunc fn first cap).run Tryd.prog w = .ok (.func fn first cap) w := fun _ _ _ _ => rfl
  have hb : Below w.heap.size w (w.alloc (.cells #[.int .u8 k, .slice a1 is.length c1, .slice a l c, .int .i64 lo, .bool ls, .int .i64 hi, .bool hs, .bool op] 32)) := (Below.refl _ _).alloc (Nat.le_refl _) _
  have HC := Lib.hid (contains36_any m is a1 c1 37 #[.pointer (some ⟨b, 0, none⟩)] (fun f => !allF (declB names) m f) _ (FRow.up hR hb hb.size)
    ⟨ent_of Tryd.func37 (by kernel_rfl) (by kernel_rfl), fun t v w' hb' hr => not37_any names b b0 m t v w' ((h.up hb).up hb') hr⟩)
  have HE : Hid (namesX names k is l ⟨lo, ls, hi, hs, op⟩ = !(is.any fun f => !allF (declB names) m f)) := by rw [Hid]; unfold namesX; rw [List.all_eq_not_any_not]
  have HB := Lib.hid hb
  clear hb hR h
  go_enter Tryd.func35, Tryd.ntmps35
  go_wp2_with fail
  refine HC.out.mono ?_
  rintro e w1 ⟨rfl, hb1⟩
  have HB1 := Lib.hid (HB.out.trans (hb1.mono HB.out.size))
  clear hb1
  go_wp2_with fail
  all_goals go_ret
  all_goals exact ⟨ret_bool' (by rw [HE.out]), HB1.out⟩
theorem so35 {m : Nat} (names : List ByteArray) (b b0 : Nat) (w : World) (h : Known w names b b0) : SoX (m := m) w 35 #[.pointer (some ⟨b, 0, none⟩)] (namesX names) := by
  intro n
  refine ⟨ent_of Tryd.func35 (by kernel_rfl) (by kernel_rfl), fun t v w' hb' hr => ?_⟩
  obtain ⟨k, is, of, lo, ls, hi, hs, op⟩ := t
  obtain ⟨a1, c1, a, c, rfl, hR, _⟩ := hr
  exact names35_any m names b b0 k is a1 c1 a of.length c lo hi ls hs op w' (h.up hb') hR
end Go.Proofs.YtabpfbgcdmejbaaDoor
