/- Layer 16 on expressions, walked: whether something holds of an expression and of all its parts, whatever the function value is that is asked. -/
import Derived.Test.YtabpfbgcdmejbaaDoorTreeD
namespace Go.Proofs.YtabpfbgcdmejbaaDoor
open Go.RowKit

set_option maxRecDepth 100000 in
set_option maxHeartbeats 2000000 in
theorem ofTre33_any (k : Int) (a1 : Option Addr) (l1 c1 : Nat) (a : Option Addr) (l c : Nat) (lo hi : Int) (ls hs op : Bool) (w : World) :
    Calls Tryd.prog 33 #[.agg #[.int .u8 k, .slice a1 l1 c1, .slice a l c, .int .i64 lo, .bool ls, .int .i64 hi, .bool hs, .bool op]] w fun e w' => e = .returned (.slice a l c) ∧ Below w.heap.size w w' := by
  go_enter Tryd.func33, Tryd.ntmps33
  go_wp2_with fail
  all_goals go_ret
  all_goals exact ⟨rfl, (Below.refl _ _).alloc (Nat.le_refl _) _⟩

/-- A function value of expressions answers as g does, now and later. -/
def FnX {m : Nat} (w : World) (n : Nat) (K : Nat) (caps : Array Value) (g : XT m n → Bool) : Prop :=
  Ent K ∧ ∀ (t : XT m n) (v : Value) (w' : World), Below w.heap.size w w' → XRep w' w'.heap.size m n t v → Calls Tryd.prog K (#[v] ++ caps) w' fun e w'' => e = .returned (.bool (g t)) ∧ Below w'.heap.size w' w''
theorem FnX.up {m : Nat} {w w1 : World} {n K : Nat} {caps : Array Value} {g : XT m n → Bool} (h : FnX w n K caps g) (hb : Below w.heap.size w w1) : FnX w1 n K caps g :=
  ⟨h.1, fun t v w' hb' hr => h.2 t v w' (hb.trans (hb'.mono hb.size)) hr⟩

set_option maxRecDepth 100000 in
set_option maxHeartbeats 4000000 in
theorem index69_any {m : Nat} (n : Nat) (l : List (XT m n)) (a : Option Addr) (c K : Nat) (caps : Array Value) (g : XT m n → Bool) (w : World) (hR : XRow w w.heap.size m n a l) (hG : FnX w n K caps g) :
    Calls Tryd.prog 69 #[.slice a l.length c, .func (.func K) #[] caps] w fun e w' => (∃ r : Int, e = .returned (.int .i64 r) ∧ Hid (decide (0 ≤ r) = l.any g)) ∧ Below w.heap.size w w' := by
  have hK := hG.1
  unfold Ent at hK
  have HG := Lib.hid hG
  have HR := Lib.hid hR
  have hm := hR.1
  clear hG hR
  go_enter Tryd.func69, Tryd.ntmps69
  go_wp2_with fail
  go_loopw [8] (fun i wr => ∃ j : Nat, j ≤ l.length ∧ i = .int .i64 j ∧ Hid ((l.take j).any g = false) ∧ Below w.heap.size w wr) (fun i _ => l.length - (intOf i).toNat)
  case atStart => exact ⟨0, Nat.zero_le _, rfl, by simp [Hid], Below.refl _ _⟩
  case round =>
    obtain ⟨j, hj, rfl, HT, hbw⟩ := hrel
    have HB := Lib.hid hbw
    by_cases hlt : j < l.length
    · obtain ⟨b, off, k, a1, l1, cc1, a2, l2, cc2, lo, ls, hi, hs, op, rfl, hbl, c0, c1, c2, c3, c4, c5, c6, c7, hr⟩ := (HR.out.up hbw (Nat.le_refl _)).at j hlt
      have hz := hbw.size
      have hbl' : b < wr.heap.size := by omega
      have HC := Lib.hid (HG.out.2 l[j] _ wr hbw (hr.up (Below.refl _ _) hz))
      have HS := Lib.hid (any_take g l j hlt HT.out)
      have HA := Lib.hid (any_of_at g l j hlt)
      clear hr hbw
      go_wp2_with fail
      refine HC.out.mono ?_
      rintro e w1 ⟨rfl, hb1⟩
      have hbz := Lib.hid (HB.out.trans (hb1.mono hz))
      clear hb1
      cases hg : g l[j] with
      | true =>
        have HG1 := Lib.hid hg
        clear hg
        go_wp2_with fail
        all_goals go_ret
        all_goals exact ⟨⟨_, rfl, by rw [Hid, HA.out HG1.out]; simp⟩, hbz.out⟩
      | false =>
        have HG1 := Lib.hid hg
        clear hg
        go_wp2_with fail
        go_roundw
        case rel => exact ⟨j + 1, by omega, by go_num, by rw [Hid, HS.out, HG1.out], hbz.out⟩
        case measure => simp [intOf]; omega
    · have hje : j = l.length := by omega
      have HE : Hid (l.any g = false) := by rw [Hid]; have := HT.out; rw [hje, List.take_length] at this; exact this
      clear HT
      go_wp2_with fail
      all_goals go_ret
      all_goals exact ⟨⟨_, rfl, by rw [Hid, HE.out]; rfl⟩, HB.out⟩

set_option maxRecDepth 100000 in
set_option maxHeartbeats 4000000 in
theorem contains54_any {m : Nat} (n : Nat) (l : List (XT m n)) (a : Option Addr) (c K : Nat) (caps : Array Value) (g : XT m n → Bool) (w : World) (hR : XRow w w.heap.size m n a l) (hG : FnX w n K caps g) :
    Calls Tryd.prog 54 #[.slice a l.length c, .func (.func K) #[] caps] w fun e w' => e = .returned (.bool (l.any g)) ∧ Below w.heap.size w w' := by
  have HI := Lib.hid (index69_any n l a c K caps g w hR hG)
  clear hR hG
  go_enter Tryd.func54, Tryd.ntmps54
  go_wp2_with fail
  refine HI.out.mono ?_
  rintro e w1 ⟨⟨r, rfl, hr⟩, hb1⟩
  go_wp2_with fail
  all_goals go_ret
  all_goals exact ⟨ret_bool' (by rw [← hr.out]), hb1⟩

/-- A function value that is asked of expressions one by one (their parts aside) answers as so does. -/
def SoX {m : Nat} (w : World) (K : Nat) (caps : Array Value) (so : Int → List (FT m) → Nat → Spn → Bool) : Prop := ∀ n, FnX w (n + 1) K caps fun t => so t.1 t.2.1 t.2.2.1.length t.2.2.2

theorem SoX.up {m : Nat} {w w1 : World} {K : Nat} {caps : Array Value} {so : Int → List (FT m) → Nat → Spn → Bool} (h : SoX w K caps so) (hb : Below w.heap.size w w1) : SoX w1 K caps so := fun n => (h n).up hb
theorem allX_succ {m : Nat} (so : Int → List (FT m) → Nat → Spn → Bool) (n : Nat) (k : Int) (is : List (FT m)) (of : List (XT m n)) (lo : Int) (ls : Bool) (hi : Int) (hs op : Bool) : allX so (n + 1) (k, is, of, ⟨lo, ls, hi, hs, op⟩) = (so k is of.length ⟨lo, ls, hi, hs, op⟩ && of.all (allX so n)) := rfl

def AllX {m : Nat} (so : Int → List (FT m) → Nat → Spn → Bool) (K : Nat) (caps : Array Value) (n : Nat) : Prop := ∀ (t : XT m n) (v : Value) (w : World), XRep w w.heap.size m n t v → SoX w K caps so →
    Calls Tryd.prog 32 #[v, .func (.func 33) #[] #[], .func (.func K) #[] caps] w fun e w' => e = .returned (.bool (allX so n t)) ∧ Below w.heap.size w w'

set_option maxRecDepth 100000 in
set_option maxHeartbeats 4000000 in
theorem clo55_any {m : Nat} (so : Int → List (FT m) → Nat → Spn → Bool) (K : Nat) (caps : Array Value) (n : Nat) (ih : AllX so K caps n) (b1 b2 : Nat) (t : XT m n) (v : Value) (w : World) (h : XRep w w.heap.size m n t v) (hso' : SoX w K caps so)
    (h1 : b1 < w.heap.size) (h2 : b2 < w.heap.size) (c1 : w.cell? ⟨b1, 0, none⟩ = some (.func (.func 33) #[] #[])) (c2 : w.cell? ⟨b2, 0, none⟩ = some (.func (.func K) #[] caps)) :
    Calls Tryd.prog 55 #[v, .pointer (some ⟨b1, 0, none⟩), .pointer (some ⟨b2, 0, none⟩)] w fun e w' => e = .returned (.bool (!allX so n t)) ∧ Below w.heap.size w w' := by
  obtain ⟨k, a1, l1, c1, a, l, c, lo, ls, hi, hs, op, rfl⟩ := h.shape
  have hb : Below w.heap.size w (w.alloc (.cells #[.int .u8 k, .slice a1 l1 c1, .slice a l c, .int .i64 lo, .bool ls, .int .i64 hi, .bool hs, .bool op] 32)) := (Below.refl _ w).alloc (Nat.le_refl _) _
  have HI := Lib.hid (ih t _ (w.alloc (.cells #[.int .u8 k, .slice a1 l1 c1, .slice a l c, .int .i64 lo, .bool ls, .int .i64 hi, .bool hs, .bool op] 32)) (h.up hb (by simp)) (hso'.up hb))
  have HB := Lib.hid hb
  clear h hso' ih hb
  go_enter Tryd.func55, Tryd.ntmps55
  go_wp2_with fail
  refine HI.out.mono ?_
  rintro e w1 ⟨rfl, hb1⟩
  have HB1 := Lib.hid (HB.out.trans (hb1.mono (by simp)))
  clear hb1
  go_wp2_with fail
  all_goals go_ret
  all_goals exact ⟨rfl, HB1.out⟩

set_option maxRecDepth 100000 in
set_option maxHeartbeats 4000000 in
theorem all32_any {m : Nat} (so : Int → List (FT m) → Nat → Spn → Bool) (K : Nat) (caps : Array Value) (n : Nat) : AllX so K caps n := by
  induction n with
  | zero => intro t v w h; exact h.elim
  | succ n ih =>
    intro t v w h hso'
    obtain ⟨k, is, of, lo, ls, hi, hs, op⟩ := t
    have hfr := h
    obtain ⟨a1, c1, a, c, rfl, hR1, hR⟩ := h
    dsimp only at hR hfr ⊢
    clear hR1
    have hmf : ∀ (fn : Fn) (first cap : Array Value) (w : World), (Instr.makeFunc fn first cap).run Tryd.prog w = .ok (.func fn first cap) w := fun _ _ _ _ => rfl
    have hb3 : Below w.heap.size w (((w.alloc (.cells #[.int .u8 k, .slice a1 is.length c1, .slice a of.length c, .int .i64 lo, .bool ls, .int .i64 hi, .bool hs, .bool op] 32)).alloc (.cells #[.func (.func 33) #[] #[]] 61)).alloc (.cells #[.func (.func K) #[] caps] 33)) :=
      (((Below.refl _ w).alloc (Nat.le_refl _) _).alloc (by simp) _).alloc (by simp; omega) _
    have hK := (hso' n).1
    unfold Ent at hK
    have HSO := Lib.hid ((hso' n).2 ⟨k, is, of, lo, ls, hi, hs, op⟩ (.agg #[.int .u8 k, .slice a1 is.length c1, .slice a of.length c, .int .i64 lo, .bool ls, .int .i64 hi, .bool hs, .bool op]) _ hb3 (hfr.up hb3 (by simp; omega)))
    have HS := Lib.hid hso'
    have HR := Lib.hid hR
    have IH := Lib.hid ih
    have HB3 : Hid (∀ w1, Below (((w.alloc (.cells #[.int .u8 k, .slice a1 is.length c1, .slice a of.length c, .int .i64 lo, .bool ls, .int .i64 hi, .bool hs, .bool op] 32)).alloc (.cells #[.func (.func 33) #[] #[]] 61)).alloc (.cells #[.func (.func K) #[] caps] 33)).heap.size (((w.alloc (.cells #[.int .u8 k, .slice a1 is.length c1, .slice a of.length c, .int .i64 lo, .bool ls, .int .i64 hi, .bool hs, .bool op] 32)).alloc (.cells #[.func (.func 33) #[] #[]] 61)).alloc (.cells #[.func (.func K) #[] caps] 33)) w1 → _) := fun w1 hb => blocks3 hb
    clear hso' hfr hR hb3 ih
    cases hso : so k is of.length ⟨lo, ls, hi, hs, op⟩ with
    | false =>
      have HO : Hid (allX so (n + 1) (k, is, of, ⟨lo, ls, hi, hs, op⟩) = false) := by rw [Hid, allX_succ, hso]; rfl
      simp only [hso] at HSO
      clear hso
      go_enter Tryd.func32, Tryd.ntmps32
      go_wp2_with fail
      refine HSO.out.mono ?_
      rintro e w1 ⟨rfl, hb1⟩
      obtain ⟨d1, d2, d3, hbw, hsz⟩ := HB3.out w1 hb1
      have HBW := Lib.hid hbw
      clear hbw hb1
      go_wp2_with fail
      all_goals go_ret
      all_goals exact ⟨ret_bool' (by rw [HO.out]), HBW.out⟩
    | true =>
      have HO : Hid (allX so (n + 1) (k, is, of, ⟨lo, ls, hi, hs, op⟩) = !(of.any fun x => !allX so n x)) := by
        rw [Hid, allX_succ, hso, Bool.true_and, List.all_eq_not_any_not]
      simp only [hso] at HSO
      clear hso
      go_enter Tryd.func32, Tryd.ntmps32
      go_wp2_with fail
      refine HSO.out.mono ?_
      rintro e w1 ⟨rfl, hb1⟩
      obtain ⟨d1, d2, d3, hbw, hsz⟩ := HB3.out w1 hb1
      have HBW := Lib.hid hbw
      clear hbw hb1
      have x1 := Lib.cell_of_heap d1 0
      have x2 := Lib.cell_of_heap d1 1
      have x3 := Lib.cell_of_heap d1 2
      have y3 := Lib.cell_of_heap d1 3
      have y4 := Lib.cell_of_heap d1 4
      have y5 := Lib.cell_of_heap d1 5
      have y6 := Lib.cell_of_heap d1 6
      have y7 := Lib.cell_of_heap d1 7
      have x4 := Lib.cell_of_heap d2 0
      have x5 := Lib.cell_of_heap d3 0
      simp only [List.getElem?_toArray, List.getElem?_cons_zero, List.getElem?_cons_succ] at x1 x2 x3 x4 x5 y3 y4 y5 y6 y7
      go_wp2_with fail
      refine (ofTre33_any k a1 is.length c1 a of.length c lo hi ls hs op w1).mono ?_
      rintro e w2 ⟨rfl, hb2⟩
      have hbw2 : Below w.heap.size w w2 := HBW.out.trans (hb2.mono (by omega))
      have HCON := Lib.hid (contains54_any n of a c 55 #[.pointer (some ⟨w.heap.size + 1, 0, none⟩), .pointer (some ⟨w.heap.size + 2, 0, none⟩)] (fun x => !allX so n x) w2 (XRow.up HR.out hbw2 hbw2.size)
        ⟨ent_of Tryd.func55 (by kernel_rfl) (by kernel_rfl), fun t v w' hb' hr => by
          have hz2 := hb2.size
          have hz' := hb'.size
          refine clo55_any so K caps n IH.out (w.heap.size + 1) (w.heap.size + 2) t v w' hr (SoX.up HS.out (hbw2.trans (hb'.mono hbw2.size))) (by omega) (by omega) ?_ ?_
          · exact (hb'.cell (p := ⟨w.heap.size + 1, 0, none⟩) (by show w.heap.size + 1 < _; omega)).trans ((hb2.cell (p := ⟨w.heap.size + 1, 0, none⟩) (by show w.heap.size + 1 < _; omega)).trans (Lib.cell_of_heap d2 0))
          · exact (hb'.cell (p := ⟨w.heap.size + 2, 0, none⟩) (by show w.heap.size + 2 < _; omega)).trans ((hb2.cell (p := ⟨w.heap.size + 2, 0, none⟩) (by show w.heap.size + 2 < _; omega)).trans (Lib.cell_of_heap d3 0))⟩)
      have HBW2 := Lib.hid hbw2
      clear hbw2 hb2
      go_wp2_with fail
      refine HCON.out.mono ?_
      rintro e w3 ⟨rfl, hb3⟩
      have HBW3 := Lib.hid (HBW2.out.trans (hb3.mono HBW2.out.size))
      clear hb3
      go_wp2_with fail
      all_goals go_ret
      all_goals exact ⟨ret_bool' (by rw [HO.out]), HBW3.out⟩
end Go.Proofs.YtabpfbgcdmejbaaDoor
