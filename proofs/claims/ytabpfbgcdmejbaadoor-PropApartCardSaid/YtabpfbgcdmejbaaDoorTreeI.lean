/- Layer 16 walked: nodes counted. -/
import Derived.Test.YtabpfbgcdmejbaaDoorTreeG
namespace Go.Proofs.YtabpfbgcdmejbaaDoor
open Go.RowKit

set_option maxRecDepth 100000 in
set_option maxHeartbeats 2000000 in
theorem one58_any (k : Int) (s : ByteArray) (a : Option Addr) (l c : Nat) (w : World) :
    Calls Tryd.prog 58 #[.agg #[.int .u8 k, .string s, .slice a l c]] w fun e w' => e = .returned (.int .i64 1) ∧ Below w.heap.size w w' := by
  go_enter Tryd.func58, Tryd.ntmps58
  go_wp2_with fail
  all_goals go_ret
  all_goals exact ⟨rfl, (Below.refl _ _).alloc (Nat.le_refl _) _⟩

set_option maxRecDepth 100000 in
set_option maxHeartbeats 4000000 in
theorem count57_any (n : Nat) : ∀ (t : FT n) (v : Value) (w : World), FRep w w.heap.size n t v →
    Calls Tryd.prog 57 #[v, .func (.func 43) #[] #[], .func (.func 58) #[] #[]] w fun e w' => e = .returned (.int .i64 (cntF n t)) ∧ Below w.heap.size w w' := by
  induction n with
  | zero => intro t v w h; exact h.elim
  | succ n ih =>
    intro t v w h
    obtain ⟨k, s, of⟩ := t
    obtain ⟨a, c, rfl, hR⟩ := h
    dsimp only at hR ⊢
    have hm := hR.1
    have HR := Lib.hid hR
    have IH := Lib.hid ih
    have HE : Hid (cntF (n + 1) (k, s, of) = foldC (cntF n) 1 of) := rfl
    clear hR ih
    go_enter Tryd.func57, Tryd.ntmps57
    go_wp2_with fail
    refine (one58_any _ _ _ _ _ _).mono ?_
    rintro e w1 ⟨rfl, hb1⟩
    have hbl : w1.heap[w.heap.size]? = some (.cells #[.int .u8 k, .string s, .slice a of.length c] 39 (0, 0)) := by
      rw [hb1.block _ (by simp)]; exact Array.getElem?_push_size
    have hb2 : Below w.heap.size w w1 := ((Below.refl _ w).alloc (Nat.le_refl _) _).trans (hb1.mono (by simp))
    have HB2 := Lib.hid hb2
    have x1 := Lib.cell_of_heap hbl 0
    have x2 := Lib.cell_of_heap hbl 1
    have x3 := Lib.cell_of_heap hbl 2
    simp only [List.getElem?_toArray, List.getElem?_cons_zero, List.getElem?_cons_succ] at x1 x2 x3
    clear hb1 hb2 hbl
    go_wp2_with fail
    refine (ofFormula43_any _ _ _ _ _ _).mono ?_
    rintro e w2 ⟨rfl, hb3⟩
    have HB3 := Lib.hid (HB2.out.trans (hb3.mono HB2.out.size))
    clear hb3 x1 x2 x3
    go_wp2_with fail
    go_loopw [6, 16] (fun m i wr => ∃ j : Nat, j ≤ of.length ∧ i = .int .i64 j ∧ m = .int .i64 (foldC (cntF n) 1 (of.take j)) ∧ Below w.heap.size w wr) (fun _ i _ => of.length - (intOf i).toNat)
    case atStart => exact ⟨0, Nat.zero_le _, rfl, rfl, HB3.out⟩
    case round =>
      obtain ⟨j, hj, rfl, rfl, hbw⟩ := hrel
      have HBW := Lib.hid hbw
      by_cases hlt : j < of.length
      · obtain ⟨b, off, k', s', sa, sl, sc, rfl, hbl, c0, c1, c2, hr⟩ := (FRow.up HR.out hbw (Nat.le_refl _)).at j hlt
        have hz := hbw.size
        have hbl' : b < wr.heap.size := by omega
        have hS := Lib.hid (foldC_succ (cntF n) 1 of j hlt)
        have HC := Lib.hid (IH.out of[j] _ (wr.alloc (.cells #[.int .u8 k', .string s', .slice sa sl sc] 39)) (hr.up ((Below.refl _ wr).alloc (by omega) _) (by simp; omega)))
        have hba : Below w.heap.size w (wr.alloc (.cells #[.int .u8 k', .string s', .slice sa sl sc] 39)) := hbw.alloc hz _
        have HBA := Lib.hid hba
        clear hr hbw hba
        go_wp2_with fail
        refine HC.out.mono ?_
        rintro e w3 ⟨rfl, hb4⟩
        have HB4 := Lib.hid (HBA.out.trans (hb4.mono HBA.out.size))
        clear hb4
        go_wp2_with fail
        go_roundw
        case rel => exact ⟨j + 1, by omega, by go_num, by rw [hS.out], HB4.out⟩
        case measure => simp [intOf]; omega
      · have hje : j = of.length := by omega
        subst hje
        have HA := Lib.hid (foldC_all (cntF n) 1 of)
        clear hbw
        go_wp2_with fail
        all_goals go_ret
        all_goals exact ⟨ret_i (by rw [HE.out, HA.out]), HBW.out⟩

set_option maxRecDepth 100000 in
set_option maxHeartbeats 4000000 in
theorem formulas41_any (n : Nat) (of : List (FT n)) (a : Option Addr) (c : Nat) (w : World) (hR : FRow w w.heap.size n a of) :
    Calls Tryd.prog 41 #[.slice a of.length c] w fun e w' => e = .returned (.int .i64 (fmsC n of)) ∧ Below w.heap.size w w' := by
  have hm := hR.1
  have HR := Lib.hid hR
  have HE : Hid (fmsC n of = foldC (cntF n) 0 of) := rfl
  clear hR
  go_enter Tryd.func41, Tryd.ntmps41
  go_wp2_with fail
  go_loopw [2, 7] (fun m i wr => ∃ j : Nat, j ≤ of.length ∧ i = .int .i64 j ∧ m = .int .i64 (foldC (cntF n) 0 (of.take j)) ∧ Below w.heap.size w wr) (fun _ i _ => of.length - (intOf i).toNat)
  case atStart => exact ⟨0, Nat.zero_le _, rfl, rfl, Below.refl _ _⟩
  case round =>
    obtain ⟨j, hj, rfl, rfl, hbw⟩ := hrel
    have HBW := Lib.hid hbw
    by_cases hlt : j < of.length
    · obtain ⟨b, off, k', s', sa, sl, sc, rfl, hbl, c0, c1, c2, hr⟩ := (FRow.up HR.out hbw (Nat.le_refl _)).at j hlt
      have hz := hbw.size
      have hbl' : b < wr.heap.size := by omega
      have hS := Lib.hid (foldC_succ (cntF n) 0 of j hlt)
      have HC := Lib.hid (count57_any n of[j] _ (wr.alloc (.cells #[.int .u8 k', .string s', .slice sa sl sc] 39)) (hr.up ((Below.refl _ wr).alloc (by omega) _) (by simp; omega)))
      have hba : Below w.heap.size w (wr.alloc (.cells #[.int .u8 k', .string s', .slice sa sl sc] 39)) := hbw.alloc hz _
      have HBA := Lib.hid hba
      clear hr hbw hba
      go_wp2_with fail
      refine HC.out.mono ?_
      rintro e w3 ⟨rfl, hb4⟩
      have HB4 := Lib.hid (HBA.out.trans (hb4.mono HBA.out.size))
      clear hb4
      go_wp2_with fail
      go_roundw
      case rel => exact ⟨j + 1, by omega, by go_num, by rw [hS.out], HB4.out⟩
      case measure => simp [intOf]; omega
    · have hje : j = of.length := by omega
      subst hje
      have HA := Lib.hid (foldC_all (cntF n) 0 of)
      clear hbw
      go_wp2_with fail
      all_goals go_ret
      all_goals exact ⟨ret_i (by rw [HE.out, HA.out]), HBW.out⟩

set_option maxRecDepth 100000 in
set_option maxHeartbeats 4000000 in
theorem many40_any (m : Nat) (k : Int) (is : List (FT m)) (a1 : Option Addr) (c1 : Nat) (a : Option Addr) (l c : Nat) (lo hi : Int) (ls hs op : Bool) (w : World) (hR : FRow w w.heap.size m a1 is) :
    Calls Tryd.prog 40 #[.agg #[.int .u8 k, .slice a1 is.length c1, .slice a l c, .int .i64 lo, .bool ls, .int .i64 hi, .bool hs, .bool op]] w fun e w' => e = .returned (.int .i64 (oneX k is)) ∧ Below w.heap.size w w' := by
  have hb : Below w.heap.size w (w.alloc (.cells #[.int .u8 k, .slice a1 is.length c1, .slice a l c, .int .i64 lo, .bool ls, .int .i64 hi, .bool hs, .bool op] 32)) := (Below.refl _ _).alloc (Nat.le_refl _) _
  have HF := Lib.hid (formulas41_any m is a1 c1 _ (hR.up hb hb.size))
  have HB := Lib.hid hb
  have HE : Hid (oneX k is = if k = 1 then fmsC m is else 1) := rfl
  clear hb hR
  cases q : k == 1 with
  | true =>
    have HQ := Lib.hid q
    go_enter Tryd.func40, Tryd.ntmps40
    go_wp2_with fail
    refine HF.out.mono ?_
    rintro e w1 ⟨rfl, hb1⟩
    have HB1 := Lib.hid (HB.out.trans (hb1.mono HB.out.size))
    clear hb1
    go_wp2_with fail
    all_goals go_ret
    all_goals exact ⟨ret_i (by rw [HE.out, if_pos (by simpa using HQ.out)]), HB1.out⟩
  | false =>
    have HQ := Lib.hid q
    go_enter Tryd.func40, Tryd.ntmps40
    go_wp2_with fail
    all_goals go_ret
    all_goals exact ⟨ret_i (by rw [HE.out, if_neg (by simpa using HQ.out)]), HB.out⟩

set_option maxRecDepth 100000 in
set_option maxHeartbeats 4000000 in
theorem count39_any (m n : Nat) : ∀ (t : XT m n) (v : Value) (w : World), XRep w w.heap.size m n t v →
    Calls Tryd.prog 39 #[v, .func (.func 33) #[] #[], .func (.func 40) #[] #[]] w fun e w' => e = .returned (.int .i64 (cntX oneX n t)) ∧ Below w.heap.size w w' := by
  induction n with
  | zero => intro t v w h; exact h.elim
  | succ n ih =>
    intro t v w h
    obtain ⟨k, is, of, lo, ls, hi, hs, op⟩ := t
    obtain ⟨a1, c1, a, c, rfl, hR1, hR⟩ := h
    dsimp only at hR hR1 ⊢
    have hm := hR.1
    have HR := Lib.hid hR
    have IH := Lib.hid ih
    have HE : Hid (cntX oneX (n + 1) ((k, is, of, ⟨lo, ls, hi, hs, op⟩) : XT m (n + 1)) = foldC (cntX oneX n) (oneX k is) of) := rfl
    have hbx : Below w.heap.size w (w.alloc (.cells #[.int .u8 k, .slice a1 is.length c1, .slice a of.length c, .int .i64 lo, .bool ls, .int .i64 hi, .bool hs, .bool op] 32)) := (Below.refl _ _).alloc (Nat.le_refl _) _
    have HONE := Lib.hid (many40_any m k is a1 c1 a of.length c lo hi ls hs op _ (hR1.up hbx hbx.size))
    clear hR ih hR1 hbx
    go_enter Tryd.func39, Tryd.ntmps39
    go_wp2_with fail
    refine HONE.out.mono ?_
    rintro e w1 ⟨rfl, hb1⟩
    have hbl : w1.heap[w.heap.size]? = some (.cells #[.int .u8 k, .slice a1 is.length c1, .slice a of.length c, .int .i64 lo, .bool ls, .int .i64 hi, .bool hs, .bool op] 32 (0, 0)) := by
      rw [hb1.block _ (by simp)]; exact Array.getElem?_push_size
    have hb2 : Below w.heap.size w w1 := ((Below.refl _ w).alloc (Nat.le_refl _) _).trans (hb1.mono (by simp))
    have HB2 := Lib.hid hb2
    have x0 := Lib.cell_of_heap hbl 0
    have x1 := Lib.cell_of_heap hbl 1
    have x2 := Lib.cell_of_heap hbl 2
    have x3 := Lib.cell_of_heap hbl 3
    have x4 := Lib.cell_of_heap hbl 4
    have x5 := Lib.cell_of_heap hbl 5
    have x6 := Lib.cell_of_heap hbl 6
    have x7 := Lib.cell_of_heap hbl 7
    simp only [List.getElem?_toArray, List.getElem?_cons_zero, List.getElem?_cons_succ] at x0 x1 x2 x3 x4 x5 x6 x7
    clear hb1 hb2 hbl
    generalize oneX k is = N1 at HE
    go_wp2_with fail
    refine (ofTre33_any _ _ _ _ _ _ _ _ _ _ _ _ _).mono ?_
    rintro e w2 ⟨rfl, hb3⟩
    have HB3 := Lib.hid (HB2.out.trans (hb3.mono HB2.out.size))
    clear hb3 x0 x1 x2 x3 x4 x5 x6 x7
    go_wp2_with fail
    go_loopw [6, 16] (fun m_ i wr => ∃ j : Nat, j ≤ of.length ∧ i = .int .i64 j ∧ m_ = .int .i64 (foldC (cntX oneX n) N1 (of.take j)) ∧ Below w.heap.size w wr) (fun _ i _ => of.length - (intOf i).toNat)
    case atStart => exact ⟨0, Nat.zero_le _, rfl, rfl, HB3.out⟩
    case round =>
      obtain ⟨j, hj, rfl, rfl, hbw⟩ := hrel
      have HBW := Lib.hid hbw
      by_cases hlt : j < of.length
      · obtain ⟨b, off, k', a1', l1', c1', a2', l2', c2', lo', ls', hi', hs', op', rfl, hbl, c0, d1, c2, c3, c4, c5, c6, c7, hr⟩ := (XRow.up HR.out hbw (Nat.le_refl _)).at j hlt
        have hz := hbw.size
        have hbl' : b < wr.heap.size := by omega
        have hS := Lib.hid (foldC_succ (cntX oneX n) N1 of j hlt)
        have HC := Lib.hid (IH.out of[j] _ (wr.alloc (.cells #[.int .u8 k', .slice a1' l1' c1', .slice a2' l2' c2', .int .i64 lo', .bool ls', .int .i64 hi', .bool hs', .bool op'] 32)) (hr.up ((Below.refl _ wr).alloc (by omega) _) (by simp; omega)))
        have HBA : Hid (∀ o, Below w.heap.size w (wr.alloc o)) := fun o => hbw.alloc hz o
        clear hr hbw
        go_wp2_with fail
        refine HC.out.mono ?_
        rintro e w3 ⟨rfl, hb4⟩
        have HB4 := Lib.hid ((HBA.out _).trans (hb4.mono (HBA.out _).size))
        clear hb4
        go_wp2_with fail
        go_roundw
        case rel => exact ⟨j + 1, by omega, by go_num, by rw [hS.out], HB4.out⟩
        case measure => simp [intOf]; omega
      · have hje : j = of.length := by omega
        subst hje
        have HA := Lib.hid (foldC_all (cntX oneX n) N1 of)
        clear hbw
        go_wp2_with fail
        all_goals go_ret
        all_goals exact ⟨ret_i (by rw [HE.out, HA.out]), HBW.out⟩

set_option maxRecDepth 100000 in
set_option maxHeartbeats 4000000 in
theorem many14_any (m n : Nat) (t : XT m n) (v : Value) (w : World) (h : XRep w w.heap.size m n t v) :
    Calls Tryd.prog 14 #[v] w fun e w' => e = .returned (.int .i64 (manyX n t)) ∧ Below w.heap.size w w' := by
  obtain ⟨k, a1, l1, c1, a, l, c, lo, ls, hi, hs, op, rfl⟩ := h.shape
  have hb : Below w.heap.size w (w.alloc (.cells #[.int .u8 k, .slice a1 l1 c1, .slice a l c, .int .i64 lo, .bool ls, .int .i64 hi, .bool hs, .bool op] 32)) := (Below.refl _ _).alloc (Nat.le_refl _) _
  have HC := Lib.hid (count39_any m n t _ _ (h.up hb hb.size))
  have HB := Lib.hid hb
  clear h hb
  go_enter Tryd.func14, Tryd.ntmps14
  go_wp2_with fail
  refine HC.out.mono ?_
  rintro e w1 ⟨rfl, hb1⟩
  have HB1 := Lib.hid (HB.out.trans (hb1.mono HB.out.size))
  clear hb1
  go_wp2_with fail
  all_goals go_ret
  all_goals exact ⟨rfl, HB1.out⟩
end Go.Proofs.YtabpfbgcdmejbaaDoor
