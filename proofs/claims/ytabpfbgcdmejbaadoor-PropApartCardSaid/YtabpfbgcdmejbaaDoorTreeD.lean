/- Layer 16 on formulas, walked: whether something holds of a formula and of all its parts, whatever the function value is that is asked. -/
import Derived.Test.YtabpfbgcdmejbaaDoorTreeC
namespace Go.Proofs.YtabpfbgcdmejbaaDoor
open Go.RowKit
theorem ret_bool' {a b : Bool} (h : a = b) : Ending.returned (.bool a) = .returned (.bool b) := by rw [h]

set_option maxRecDepth 100000 in
set_option maxHeartbeats 2000000 in
theorem ofFormula43_any (k : Int) (s : ByteArray) (a : Option Addr) (l c : Nat) (w : World) :
    Calls Tryd.prog 43 #[.agg #[.int .u8 k, .string s, .slice a l c]] w fun e w' => e = .returned (.slice a l c) ∧ Below w.heap.size w w' := by
  go_enter Tryd.func43, Tryd.ntmps43
  go_wp2_with fail
  all_goals go_ret
  all_goals exact ⟨rfl, (Below.refl _ _).alloc (Nat.le_refl _) _⟩

/-- Function K is entered where it is called. -/
def Ent (K : Nat) : Prop := ∀ (args : Array Value) (W : World), (callFunc K args).run Tryd.prog W = .ok (.enter K args) W
theorem ent_of {K : Nat} {fn : Func} (hf : Tryd.prog.funcs[K]? = some fn) (hn : (fn.name == "runtime.NumGoroutine") = false) (hb : fn.body.isNone = false) : Ent K := by
  intro args W
  have h1 : fn.name ≠ "runtime.NumGoroutine" := by simpa using hn
  have h3 : ¬ fn.body = none := by intro h; simp [h] at hb
  simp [callFunc, hf, h1, Sem.run, program, h3]

/-- A function value of formulas answers as g does, now and later. -/
def FnF (w : World) (n : Nat) (K : Nat) (caps : Array Value) (g : FT n → Bool) : Prop :=
  Ent K ∧ ∀ (t : FT n) (v : Value) (w' : World), Below w.heap.size w w' → FRep w' w'.heap.size n t v → Calls Tryd.prog K (#[v] ++ caps) w' fun e w'' => e = .returned (.bool (g t)) ∧ Below w'.heap.size w' w''
theorem FnF.up {w w1 : World} {n K : Nat} {caps : Array Value} {g : FT n → Bool} (h : FnF w n K caps g) (hb : Below w.heap.size w w1) : FnF w1 n K caps g :=
  ⟨h.1, fun t v w' hb' hr => h.2 t v w' (hb.trans (hb'.mono hb.size)) hr⟩

theorem any_take {α : Type} (g : α → Bool) (l : List α) (k : Nat) (h : k < l.length) (h0 : (l.take k).any g = false) : (l.take (k + 1)).any g = g l[k] := by
  rw [List.take_succ_eq_append_getElem h, List.any_append, h0]; simp
theorem any_of_at {α : Type} (g : α → Bool) (l : List α) (k : Nat) (h : k < l.length) (h0 : g l[k] = true) : l.any g = true := List.any_eq_true.2 ⟨_, List.getElem_mem h, h0⟩

set_option maxRecDepth 100000 in
set_option maxHeartbeats 4000000 in
theorem index56_any (n : Nat) (l : List (FT n)) (a : Option Addr) (c K : Nat) (caps : Array Value) (g : FT n → Bool) (w : World) (hR : FRow w w.heap.size n a l) (hG : FnF w n K caps g) :
    Calls Tryd.prog 56 #[.slice a l.length c, .func (.func K) #[] caps] w fun e w' => (∃ r : Int, e = .returned (.int .i64 r) ∧ Hid (decide (0 ≤ r) = l.any g)) ∧ Below w.heap.size w w' := by
  have hK := hG.1
  unfold Ent at hK
  have HG := Lib.hid hG
  have HR := Lib.hid hR
  have hm := hR.1
  clear hG hR
  go_enter Tryd.func56, Tryd.ntmps56
  go_wp2_with fail
  go_loopw [8] (fun i wr => ∃ j : Nat, j ≤ l.length ∧ i = .int .i64 j ∧ Hid ((l.take j).any g = false) ∧ Below w.heap.size w wr) (fun i _ => l.length - (intOf i).toNat)
  case atStart => exact ⟨0, Nat.zero_le _, rfl, by simp [Hid], Below.refl _ _⟩
  case round =>
    obtain ⟨j, hj, rfl, HT, hbw⟩ := hrel
    have HB := Lib.hid hbw
    by_cases hlt : j < l.length
    · obtain ⟨b, off, k, s, sa, sl, sc, rfl, hbl, c0, c1, c2, hr⟩ := (HR.out.up hbw (Nat.le_refl _)).at j hlt
      have hz := hbw.size
      have hbl' : b < wr.heap.size := by omega
      have HC := Lib.hid (HG.out.2 l[j] _ wr hbw (hr.up (Below.refl _ _) hz))
      have HS := Lib.hid (any_take g l j hlt HT.out)
      have HA := Lib.hid (any_of_at g l j hlt)
      clear hr hbw
      go_wp2_with fail
      refine HC.out.mono ?_
      rintro e w1 ⟨rfl, hb1⟩
      have hbz := Lib.hid (HB.out.trans (hb1.mono hz))
      clear hb1
      cases hg : g l[j] with
      | true =>
        have HG1 := Lib.hid hg
        clear hg
        go_wp2_with fail
        all_goals go_ret
        all_goals exact ⟨⟨_, rfl, by rw [Hid, HA.out HG1.out]; simp⟩, hbz.out⟩
      | false =>
        have HG1 := Lib.hid hg
        clear hg
        go_wp2_with fail
        go_roundw
        case rel => exact ⟨j + 1, by omega, by go_num, by rw [Hid, HS.out, HG1.out], hbz.out⟩
        case measure => simp [intOf]; omega
    · have hje : j = l.length := by omega
      have HE : Hid (l.any g = false) := by rw [Hid]; have := HT.out; rw [hje, List.take_length] at this; exact this
      clear HT
      go_wp2_with fail
      all_goals go_ret
      all_goals exact ⟨⟨_, rfl, by rw [Hid, HE.out]; rfl⟩, HB.out⟩

set_option maxRecDepth 100000 in
set_option maxHeartbeats 4000000 in
theorem contains36_any (n : Nat) (l : List (FT n)) (a : Option Addr) (c K : Nat) (caps : Array Value) (g : FT n → Bool) (w : World) (hR : FRow w w.heap.size n a l) (hG : FnF w n K caps g) :
    Calls Tryd.prog 36 #[.slice a l.length c, .func (.func K) #[] caps] w fun e w' => e = .returned (.bool (l.any g)) ∧ Below w.heap.size w w' := by
  have HI := Lib.hid (index56_any n l a c K caps g w hR hG)
  clear hR hG
  go_enter Tryd.func36, Tryd.ntmps36
  go_wp2_with fail
  refine HI.out.mono ?_
  rintro e w1 ⟨⟨r, rfl, hr⟩, hb1⟩
  go_wp2_with fail
  all_goals go_ret
  all_goals exact ⟨ret_bool' (by rw [← hr.out]), hb1⟩

/-- A function value that is asked of formulas one by one (their parts aside) answers as so does. -/
def SoF (w : World) (K : Nat) (caps : Array Value) (so : Int → ByteArray → Nat → Bool) : Prop := ∀ n, FnF w (n + 1) K caps fun t => so t.1 t.2.1 t.2.2.length

theorem SoF.up {w w1 : World} {K : Nat} {caps : Array Value} {so : Int → ByteArray → Nat → Bool} (h : SoF w K caps so) (hb : Below w.heap.size w w1) : SoF w1 K caps so := fun n => (h n).up hb
theorem blocks3 {w w1 : World} {C1 C2 C3 : Array Value} {t1 t2 t3 : TypeId} (hb : Below (((w.alloc (.cells C1 t1)).alloc (.cells C2 t2)).alloc (.cells C3 t3)).heap.size (((w.alloc (.cells C1 t1)).alloc (.cells C2 t2)).alloc (.cells C3 t3)) w1) :
    w1.heap[w.heap.size]? = some (.cells C1 t1 (0, 0)) ∧ w1.heap[w.heap.size + 1]? = some (.cells C2 t2 (0, 0)) ∧ w1.heap[w.heap.size + 2]? = some (.cells C3 t3 (0, 0)) ∧ Below w.heap.size w w1 ∧ w.heap.size + 3 ≤ w1.heap.size := by
  have hz : (((w.alloc (.cells C1 t1)).alloc (.cells C2 t2)).alloc (.cells C3 t3)).heap.size = w.heap.size + 3 := by simp
  refine ⟨?_, ?_, ?_, ?_, ?_⟩
  · rw [hb.block _ (by omega)]; simp only [World.alloc, Array.getElem?_push, Array.size_push]
    rw [if_neg (by omega), if_neg (by omega), if_pos trivial]
  · rw [hb.block _ (by omega)]; simp only [World.alloc, Array.getElem?_push, Array.size_push]
    rw [if_neg (by omega), if_pos trivial]
  · rw [hb.block _ (by omega)]; simp only [World.alloc, Array.getElem?_push, Array.size_push]
    rw [if_pos trivial]
  · exact ((((Below.refl _ w).alloc (Nat.le_refl _) _).alloc (by simp) _).alloc (by simp; omega) _).trans (hb.mono (by omega))
  · have := hb.size; omega

theorem allF_succ (so : Int → ByteArray → Nat → Bool) (n : Nat) (k : Int) (s : ByteArray) (of : List (FT n)) : allF so (n + 1) (k, s, of) = (so k s of.length && of.all (allF so n)) := rfl

def AllF (so : Int → ByteArray → Nat → Bool) (K : Nat) (caps : Array Value) (n : Nat) : Prop := ∀ (t : FT n) (v : Value) (w : World), FRep w w.heap.size n t v → SoF w K caps so →
    Calls Tryd.prog 42 #[v, .func (.func 43) #[] #[], .func (.func K) #[] caps] w fun e w' => e = .returned (.bool (allF so n t)) ∧ Below w.heap.size w w'

set_option maxRecDepth 100000 in
set_option maxHeartbeats 4000000 in
theorem clo59_any (so : Int → ByteArray → Nat → Bool) (K : Nat) (caps : Array Value) (n : Nat) (ih : AllF so K caps n) (b1 b2 : Nat) (t : FT n) (v : Value) (w : World) (h : FRep w w.heap.size n t v) (hs : SoF w K caps so)
    (h1 : b1 < w.heap.size) (h2 : b2 < w.heap.size) (c1 : w.cell? ⟨b1, 0, none⟩ = some (.func (.func 43) #[] #[])) (c2 : w.cell? ⟨b2, 0, none⟩ = some (.func (.func K) #[] caps)) :
    Calls Tryd.prog 59 #[v, .pointer (some ⟨b1, 0, none⟩), .pointer (some ⟨b2, 0, none⟩)] w fun e w' => e = .returned (.bool (!allF so n t)) ∧ Below w.heap.size w w' := by
  obtain ⟨k, s, a, l, c, rfl⟩ := h.shape
  have hb : Below w.heap.size w (w.alloc (.cells #[.int .u8 k, .string s, .slice a l c] 39)) := (Below.refl _ w).alloc (Nat.le_refl _) _
  have HI := Lib.hid (ih t _ (w.alloc (.cells #[.int .u8 k, .string s, .slice a l c] 39)) (h.up hb (by simp)) (hs.up hb))
  have HB := Lib.hid hb
  clear h hs ih hb
  go_enter Tryd.func59, Tryd.ntmps59
  go_wp2_with fail
  refine HI.out.mono ?_
  rintro e w1 ⟨rfl, hb1⟩
  have HB1 := Lib.hid (HB.out.trans (hb1.mono (by simp)))
  clear hb1
  go_wp2_with fail
  all_goals go_ret
  all_goals exact ⟨rfl, HB1.out⟩

set_option maxRecDepth 100000 in
set_option maxHeartbeats 4000000 in
theorem all42_any (so : Int → ByteArray → Nat → Bool) (K : Nat) (caps : Array Value) (n : Nat) : AllF so K caps n := by
  induction n with
  | zero => intro t v w h; exact h.elim
  | succ n ih =>
    intro t v w h hs
    obtain ⟨k, s, of⟩ := t
    have hfr := h
    obtain ⟨a, c, rfl, hR⟩ := h
    dsimp only at hR hfr ⊢
    have hmf : ∀ (fn : Fn) (first cap : Array Value) (w : World), (Instr.makeFunc fn first cap).run Tryd.prog w = .ok (.func fn first cap) w := fun _ _ _ _ => rfl
    have hb3 : Below w.heap.size w (((w.alloc (.cells #[.int .u8 k, .string s, .slice a of.length c] 39)).alloc (.cells #[.func (.func 43) #[] #[]] 66)).alloc (.cells #[.func (.func K) #[] caps] 50)) :=
      (((Below.refl _ w).alloc (Nat.le_refl _) _).alloc (by simp) _).alloc (by simp; omega) _
    have hK := (hs n).1
    unfold Ent at hK
    have HSO := Lib.hid ((hs n).2 ⟨k, s, of⟩ (.agg #[.int .u8 k, .string s, .slice a of.length c]) _ hb3 (hfr.up hb3 (by simp; omega)))
    have HS := Lib.hid hs
    have HR := Lib.hid hR
    have IH := Lib.hid ih
    have HB3 : Hid (∀ w1, Below (((w.alloc (.cells #[.int .u8 k, .string s, .slice a of.length c] 39)).alloc (.cells #[.func (.func 43) #[] #[]] 66)).alloc (.cells #[.func (.func K) #[] caps] 50)).heap.size (((w.alloc (.cells #[.int .u8 k, .string s, .slice a of.length c] 39)).alloc (.cells #[.func (.func 43) #[] #[]] 66)).alloc (.cells #[.func (.func K) #[] caps] 50)) w1 → _) := fun w1 hb => blocks3 hb
    clear hs hfr hR hb3 ih
    cases hso : so k s of.length with
    | false =>
      have HO : Hid (allF so (n + 1) (k, s, of) = false) := by rw [Hid, allF_succ, hso]; rfl
      simp only [hso] at HSO
      clear hso
      go_enter Tryd.func42, Tryd.ntmps42
      go_wp2_with fail
      refine HSO.out.mono ?_
      rintro e w1 ⟨rfl, hb1⟩
      obtain ⟨d1, d2, d3, hbw, hsz⟩ := HB3.out w1 hb1
      have HBW := Lib.hid hbw
      clear hbw hb1
      go_wp2_with fail
      all_goals go_ret
      all_goals exact ⟨ret_bool' (by rw [HO.out]), HBW.out⟩
    | true =>
      have HO : Hid (allF so (n + 1) (k, s, of) = !(of.any fun x => !allF so n x)) := by
        rw [Hid, allF_succ, hso, Bool.true_and, List.all_eq_not_any_not]
      simp only [hso] at HSO
      clear hso
      go_enter Tryd.func42, Tryd.ntmps42
      go_wp2_with fail
      refine HSO.out.mono ?_
      rintro e w1 ⟨rfl, hb1⟩
      obtain ⟨d1, d2, d3, hbw, hsz⟩ := HB3.out w1 hb1
      have HBW := Lib.hid hbw
      clear hbw hb1
      have x1 := Lib.cell_of_heap d1 0
      have x2 := Lib.cell_of_heap d1 1
      have x3 := Lib.cell_of_heap d1 2
      have x4 := Lib.cell_of_heap d2 0
      have x5 := Lib.cell_of_heap d3 0
      simp only [List.getElem?_toArray, List.getElem?_cons_zero, List.getElem?_cons_succ] at x1 x2 x3 x4 x5
      go_wp2_with fail
      refine (ofFormula43_any k s a of.length c w1).mono ?_
      rintro e w2 ⟨rfl, hb2⟩
      have hbw2 : Below w.heap.size w w2 := HBW.out.trans (hb2.mono (by omega))
      have HCON := Lib.hid (contains36_any n of a c 59 #[.pointer (some ⟨w.heap.size + 1, 0, none⟩), .pointer (some ⟨w.heap.size + 2, 0, none⟩)] (fun x => !allF so n x) w2 (FRow.up HR.out hbw2 hbw2.size)
        ⟨ent_of Tryd.func59 (by kernel_rfl) (by kernel_rfl), fun t v w' hb' hr => by
          have hz2 := hb2.size
          have hz' := hb'.size
          refine clo59_any so K caps n IH.out (w.heap.size + 1) (w.heap.size + 2) t v w' hr (SoF.up HS.out (hbw2.trans (hb'.mono hbw2.size))) (by omega) (by omega) ?_ ?_
          · exact (hb'.cell (p := ⟨w.heap.size + 1, 0, none⟩) (by show w.heap.size + 1 < _; omega)).trans ((hb2.cell (p := ⟨w.heap.size + 1, 0, none⟩) (by show w.heap.size + 1 < _; omega)).trans (Lib.cell_of_heap d2 0))
          · exact (hb'.cell (p := ⟨w.heap.size + 2, 0, none⟩) (by show w.heap.size + 2 < _; omega)).trans ((hb2.cell (p := ⟨w.heap.size + 2, 0, none⟩) (by show w.heap.size + 2 < _; omega)).trans (Lib.cell_of_heap d3 0))⟩)
      have HBW2 := Lib.hid hbw2
      clear hbw2 hb2
      go_wp2_with fail
      refine HCON.out.mono ?_
      rintro e w3 ⟨rfl, hb3⟩
      have HBW3 := Lib.hid (HBW2.out.trans (hb3.mono HBW2.out.size))
      clear hb3
      go_wp2_with fail
      all_goals go_ret
      all_goals exact ⟨ret_bool' (by rw [HO.out]), HBW3.out⟩
end Go.Proofs.YtabpfbgcdmejbaaDoor
