/- tree.Check walked: whether an expression may be; the examples' expressions; alive. -/
import Derived.Test.YtabpfbgcdmejbaaDoorTreeM
namespace Go.Proofs.YtabpfbgcdmejbaaDoor
open Go.RowKit

@[local go_sem] theorem run_store_func {P : Program} {w : World} {a : Addr} {m : Mode} (fn : Fn) (x y : Array Value) : (store a (.func fn x y) m).run P w = stored P w a (.func fn x y) m := run_store P w a _ m rfl

theorem cells8 {W w1 : World} {N : Nat} {x0 x1 x2 x3 x4 x5 x6 x7 : Value} {t : TypeId} {fz : Nat × Nat} (h : W.heap[N]? = some (.cells #[x0, x1, x2, x3, x4, x5, x6, x7] t fz)) (hb : Below W.heap.size W w1) :
    w1.heap[N]? = some (.cells #[x0, x1, x2, x3, x4, x5, x6, x7] t fz) ∧ w1.cell? ⟨N, 0, none⟩ = some x0 ∧ w1.cell? ⟨N, 1, none⟩ = some x1 ∧ w1.cell? ⟨N, 2, none⟩ = some x2 ∧ w1.cell? ⟨N, 3, none⟩ = some x3 ∧
      w1.cell? ⟨N, 4, none⟩ = some x4 ∧ w1.cell? ⟨N, 5, none⟩ = some x5 ∧ w1.cell? ⟨N, 6, none⟩ = some x6 ∧ w1.cell? ⟨N, 7, none⟩ = some x7 ∧ N < w1.heap.size := by
  have h1 : w1.heap[N]? = some (.cells #[x0, x1, x2, x3, x4, x5, x6, x7] t fz) := by rw [hb.block N (Array.getElem?_eq_some_iff.1 h).1]; exact h
  exact ⟨h1, Lib.cell_of_heap h1 0, Lib.cell_of_heap h1 1, Lib.cell_of_heap h1 2, Lib.cell_of_heap h1 3, Lib.cell_of_heap h1 4, Lib.cell_of_heap h1 5, Lib.cell_of_heap h1 6, Lib.cell_of_heap h1 7, (Array.getElem?_eq_some_iff.1 h1).1⟩

/-- What a round of Check leaves: the expression's variable, the function value of the names, everything older. -/
def ChkW (w0 w : World) (cs : Array Value) (names : List ByteArray) (b : Nat) : Prop :=
  Below w0.heap.size w0 w ∧ w.heap[w0.heap.size]? = some (.cells cs 32 (0, 0)) ∧ Known w names b (w0.heap.size + 1)
theorem ChkW.up {w0 w w' : World} {cs : Array Value} {names : List ByteArray} {b : Nat} (h : ChkW w0 w cs names b) (hb : Below w.heap.size w w') : ChkW w0 w' cs names b :=
  ⟨h.1.trans (hb.mono h.1.size), by rw [hb.block _ (Array.getElem?_eq_some_iff.1 h.2.1).1]; exact h.2.1, h.2.2.up hb⟩

set_option maxRecDepth 100000 in
set_option maxHeartbeats 16000000 in
theorem check13_any (names : List ByteArray) (nv : Value) (hs : ∀ s ∈ names, s.size ≤ 1048576) (m n : Nat) (t : XT m n) (v : Value) (w : World) (hr : Rdy w) (hn : NRep w w.heap.size nv names) (hf : XRep w w.heap.size m n t v) :
    Calls Tryd.prog 13 #[nv, v] w fun e w' => e = .returned (.int .i64 (checkR names n t)) ∧ Below w.heap.size w w' := by
  obtain ⟨k, a1, l1, c1, a, l, c, lo, ls, hi, hs', op, rfl⟩ := hf.shape
  obtain ⟨na, nc, hnv, hnr⟩ := id hn
  have hmf : ∀ (fn : Fn) (first cap : Array Value) (w : World), (Instr.makeFunc fn first cap).run Tryd.prog w = .ok (.func fn first cap) w := fun _ _ _ _ => rfl
  subst hnv
  have HC0 : Hid (∀ w1 : World, w1 = (w.alloc (.cells #[.int .u8 k, .slice a1 l1 c1, .slice a l c, .int .i64 lo, .bool ls, .int .i64 hi, .bool hs', .bool op] 32)).alloc (.cells #[.slice na names.length nc] 28) → ChkW w (w1.alloc (.cells #[.func (.func 51) #[] #[.pointer (some ⟨w.heap.size + 1, 0, none⟩)]] 50)) #[.int .u8 k, .slice a1 l1 c1, .slice a l c, .int .i64 lo, .bool ls, .int .i64 hi, .bool hs', .bool op] names w1.heap.size) := by
    rintro w1 rfl
    have hb3 : Below w.heap.size w (((w.alloc (.cells #[.int .u8 k, .slice a1 l1 c1, .slice a l c, .int .i64 lo, .bool ls, .int .i64 hi, .bool hs', .bool op] 32)).alloc (.cells #[.slice na names.length nc] 28)).alloc (.cells #[.func (.func 51) #[] #[.pointer (some ⟨w.heap.size + 1, 0, none⟩)]] 50)) :=
      (((Below.refl _ w).alloc (Nat.le_refl _) _).alloc (by simp) _).alloc (by simp; omega) _
    obtain ⟨d1, d2, d3, _, hz⟩ := blocks3 (Below.refl _ (((w.alloc (.cells #[.int .u8 k, .slice a1 l1 c1, .slice a l c, .int .i64 lo, .bool ls, .int .i64 hi, .bool hs', .bool op] 32)).alloc (.cells #[.slice na names.length nc] 28)).alloc (.cells #[.func (.func 51) #[] #[.pointer (some ⟨w.heap.size + 1, 0, none⟩)]] 50)))
    have hzz : ((w.alloc (.cells #[.int .u8 k, .slice a1 l1 c1, .slice a l c, .int .i64 lo, .bool ls, .int .i64 hi, .bool hs', .bool op] 32)).alloc (.cells #[.slice na names.length nc] 28)).heap.size = w.heap.size + 2 := by simp
    rw [hzz]
    exact ⟨hb3, d1, _, by omega, by omega, Lib.cell_of_heap d3 0, Lib.cell_of_heap d2 0, hn.up hb3 (by omega)⟩
  have HF := Lib.hid hf
  have HN : Hid (∀ w1 b, ChkW w w1 #[.int .u8 k, .slice a1 l1 c1, .slice a l c, .int .i64 lo, .bool ls, .int .i64 hi, .bool hs', .bool op] names b → Calls Tryd.prog 17 #[.slice na names.length nc] w1 fun e w' => e = .returned (.int .i64 (namesR names)) ∧ Below w1.heap.size w1 w') :=
    fun w1 _ h => names17_any names _ hs w1 (hr.below h.1) (hn.up h.1 h.1.size)
  have HX : Hid (∀ w1 b, ChkW w w1 #[.int .u8 k, .slice a1 l1 c1, .slice a l c, .int .i64 lo, .bool ls, .int .i64 hi, .bool hs', .bool op] names b → XRep w1 w1.heap.size m n t (.agg #[.int .u8 k, .slice a1 l1 c1, .slice a l c, .int .i64 lo, .bool ls, .int .i64 hi, .bool hs', .bool op])) :=
    fun w1 _ h => hf.up h.1 h.1.size
  have HE : Hid (checkR names n t = if namesR names ≠ 0 then 2 else if allX rightX n t = false then 8 else if 64 < manyX n t then 160 else if allX (namesX names) n t = false then 161 else if allX openX n t = false then 162 else 0) := rfl
  clear hr hs hf hn hnr
  go_enter Tryd.func13, Tryd.ntmps13
  go_wp2_with fail
  refine (declared31_any _ _ _ _).mono ?_
  rintro e w1 ⟨rfl, hw1⟩
  have hc0 := HC0.out w1 hw1
  have HC1 := Lib.hid hc0
  have hbl := hc0.2.1
  clear hw1 HC0 hc0 hbl
  have HC := HC1
  clear HC1
  go_wp2_with fail
  refine (HN.out _ _ HC.out).mono ?_
  rintro e w2 ⟨rfl, hbq⟩
  have HC2 := Lib.hid (HC.out.up hbq)
  clear hbq HC
  have HC := HC2
  clear HC2
  by_cases h1 : namesR names = 0
  · rw [if_neg (by simp [h1])] at HE
    have q1 : (namesR names != 0) = false := by simp [h1]
    clear h1
    obtain ⟨_, x0, x1, x2, x3, x4, x5, x6, x7, hNlt⟩ := cells8 HC.out.2.1 (Below.refl _ _)
    go_wp2_with fail
    clear q1
    refine (all32_any rightX 34 #[] n t _ _ (HX.out _ _ HC.out) (so34 _)).mono ?_
    rintro e w3 ⟨rfl, hbq⟩
    have HC2 := Lib.hid (HC.out.up hbq)
    clear hbq HC
    have HC := HC2
    clear HC2
    clear x0 x1 x2 x3 x4 x5 x6 x7 hNlt
    cases h2 : allX rightX n t with
    | false =>
      have H2 : Hid (checkR names n t = 8) := by rw [Hid, HE.out, if_pos h2]
      clear h2
      go_wp2_with fail
      all_goals go_ret
      all_goals exact ⟨ret_i (by rw [H2.out]), HC.out.1⟩

    | true =>
      rw [if_neg (by simp [h2])] at HE
      clear h2
      obtain ⟨_, x0, x1, x2, x3, x4, x5, x6, x7, hNlt⟩ := cells8 HC.out.2.1 (Below.refl _ _)
      go_wp2_with fail
      refine (many14_any m n t _ _ (HX.out _ _ HC.out)).mono ?_
      rintro e w4 ⟨rfl, hbq⟩
      have HC2 := Lib.hid (HC.out.up hbq)
      clear hbq HC
      have HC := HC2
      clear HC2
      clear x0 x1 x2 x3 x4 x5 x6 x7 hNlt
      by_cases h3 : 64 < manyX n t
      · have H3 : Hid (checkR names n t = 160) := by rw [Hid, HE.out, if_pos h3]
        go_wp2_with fail
        all_goals go_ret
        all_goals exact ⟨ret_i (by rw [H3.out]), HC.out.1⟩

      · rw [if_neg h3] at HE
        obtain ⟨_, x0, x1, x2, x3, x4, x5, x6, x7, hNlt⟩ := cells8 HC.out.2.1 (Below.refl _ _)
        go_wp2_with fail
        refine (all32_any (namesX names) 35 _ n t _ _ (HX.out _ _ HC.out) (so35 names _ _ _ HC.out.2.2)).mono ?_
        rintro e w5 ⟨rfl, hbq⟩
        have HC2 := Lib.hid (HC.out.up hbq)
        clear hbq HC
        have HC := HC2
        clear HC2
        clear x0 x1 x2 x3 x4 x5 x6 x7 hNlt
        cases h4 : allX (namesX names) n t with
        | false =>
          have H4 : Hid (checkR names n t = 161) := by rw [Hid, HE.out, if_pos h4]
          clear h4
          go_wp2_with fail
          all_goals go_ret
          all_goals exact ⟨ret_i (by rw [H4.out]), HC.out.1⟩

        | true =>
          rw [if_neg (by simp [h4])] at HE
          clear h4
          obtain ⟨_, x0, x1, x2, x3, x4, x5, x6, x7, hNlt⟩ := cells8 HC.out.2.1 (Below.refl _ _)
          go_wp2_with fail
          refine (all32_any openX 38 #[] n t _ _ (HX.out _ _ HC.out) (so38 _)).mono ?_
          rintro e w6 ⟨rfl, hbq⟩
          have HC2 := Lib.hid (HC.out.up hbq)
          clear hbq HC
          have HC := HC2
          clear HC2
          clear x0 x1 x2 x3 x4 x5 x6 x7 hNlt
          cases h5 : allX openX n t with
          | false =>
            have H5 : Hid (checkR names n t = 162) := by rw [Hid, HE.out, if_pos h5]
            clear h5
            go_wp2_with fail
            all_goals go_ret
            all_goals exact ⟨ret_i (by rw [H5.out]), HC.out.1⟩

          | true =>
            have H5 : Hid (checkR names n t = 0) := by rw [Hid, HE.out, if_neg (by simp [h5])]
            clear h5
            go_wp2_with fail
            all_goals go_ret
            all_goals exact ⟨ret_i (by rw [H5.out]), HC.out.1⟩

  · have H1 : Hid (checkR names n t = 2) := by rw [Hid, HE.out, if_pos h1]
    have q1 : (namesR names != 0) = true := by simp [h1]
    clear h1
    go_wp2_with fail
    all_goals go_ret
    all_goals exact ⟨ret_i (by rw [H1.out]), HC.out.1⟩

end Go.Proofs.YtabpfbgcdmejbaaDoor
