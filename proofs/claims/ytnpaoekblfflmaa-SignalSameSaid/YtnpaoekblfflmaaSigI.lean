/- signal.Merge, Same; rallentandoref22 Merge, Long, On, Same. -/
import Derived.Test.YtnpaoekblfflmaaSigH
namespace Go.Proofs.Ytnpaoekblfflmaa
open Go.RowKit Go.Shelf
attribute [local go_sem ↓] Go.wp_at_zero Go.wp_at_succ

def InR (s : Int × Int) : Prop := -9223372036854775808 ≤ s.1 ∧ s.1 ≤ 9223372036854775807 ∧ 0 ≤ s.2 ∧ s.2 ≤ 255
theorem mstep_range {out : List (Int × Int)} {s : Int × Int} (ho : ∀ x ∈ out, InR x) (hs : InR s) : ∀ x ∈ mstep out s, InR x := by
  rcases List.eq_nil_or_concat out with rfl | ⟨pre, t, rfl⟩
  · rw [mstep_nil]; simpa using hs
  · rw [List.concat_eq_append] at ho ⊢
    have ht := ho t (by simp)
    by_cases h : t.2 = s.2
    · rw [mstep_same _ _ _ h]
      intro x hx
      simp only [List.mem_append, List.mem_singleton] at hx
      rcases hx with hx | rfl
      · exact ho x (by simp [hx])
      · refine ⟨?_, ?_, ht.2.2.1, ht.2.2.2⟩ <;> (unfold wrap64; omega)
    · rw [mstep_other _ _ _ h]
      intro x hx
      rw [List.mem_append] at hx
      rcases hx with hx | hx
      · exact ho x hx
      · rw [List.mem_singleton] at hx; rw [hx]; exact hs
theorem foldl_mstep_range (l : List (Int × Int)) : ∀ (out : List (Int × Int)), (∀ x ∈ out, InR x) → (∀ x ∈ l, InR x) → ∀ x ∈ l.foldl mstep out, InR x := by
  induction l with
  | nil => intro out ho _; exact ho
  | cons s r ih => intro out ho hl; exact ih _ (mstep_range ho (hl s (by simp))) (fun x hx => hl x (by simp [hx]))
theorem mergedL_range {l : List (Int × Int)} (hl : ∀ x ∈ l, InR x) : ∀ x ∈ mergedL l, InR x := foldl_mstep_range l [] (by simp) hl
theorem mergedL_length (l : List (Int × Int)) : (mergedL l).length ≤ l.length := by rw [← mTo_all]; exact mTo_length l _ (Nat.le_refl _)

theorem flatS_getI0 : ∀ (l : List (Int × Int)) (i : Nat), i < l.length → (flatS l)[i * 2]? = some (.int .i64 (l[i]?.getD (0, 0)).1) ∧ (flatS l)[i * 2 + 1]? = some (.int .u8 (l[i]?.getD (0, 0)).2)
  | [], i, h => by simp at h
  | s :: l, 0, _ => by simp [flatS]
  | s :: l, i + 1, h => by
    have := flatS_getI0 l i (by simpa using h)
    have h2 : flatS (s :: l) = [.int .i64 s.1, .int .u8 s.2] ++ flatS l := by simp [flatS]
    rw [h2, List.getElem?_append_right (by simp; omega), List.getElem?_append_right (by simp; omega)]
    simp only [List.length_cons, List.length_nil]
    rw [show (i + 1) * 2 - (0 + 1 + 1) = i * 2 by omega, show (i + 1) * 2 + 1 - (0 + 1 + 1) = i * 2 + 1 by omega]
    simpa using this

theorem OwnS.segs {w : World} {B : Nat} {v : Value} {l : List (Int × Int)} (h : OwnS w B v l) (hm : l.length ≤ 9223372036854775807) (hr : ∀ s ∈ l, InR s) : Segs w w.heap.size v l := by
  have h' := h
  obtain ⟨_, hh⟩ := h
  rcases hh with ⟨rfl, h0⟩ | ⟨g, cap, cur, rfl, hg, hb, _, _, _, _⟩
  · exact ⟨none, 0, by rw [h0], hm, .inl (List.eq_nil_of_length_eq_zero h0), hr⟩
  · refine ⟨_, cap, rfl, hm, .inr ⟨g, 0, rfl, (Array.getElem?_eq_some_iff.1 hb).1, fun i hi => ?_⟩, hr⟩
    have h3 := flatS_getI0 l i hi
    refine ⟨?_, ?_⟩
    · rw [Nat.zero_add, h'.cellAt _ (by omega)]; exact h3.1
    · rw [Nat.zero_add, h'.cellAt _ (by omega)]; exact h3.2

theorem OwnS.mono {w : World} {B B' : Nat} {v : Value} {l : List (Int × Int)} (h : OwnS w B v l) (hb : B' ≤ B) : OwnS w B' v l := by
  obtain ⟨h1, hh⟩ := h
  refine ⟨h1, ?_⟩
  rcases hh with h2 | ⟨g, cap, cur, h2, hg, hr⟩
  · exact .inl h2
  · exact .inr ⟨g, cap, cur, h2, by omega, hr⟩

/-- What Merge answers. -/
def mergeL (c : Int) (l : List (Int × Int)) : List (Int × Int) := if c = 0 then mergedL l else []
theorem checkP_short {p : Int} {l : List (Int × Int)} (h : checkP p l = 0) : l.length ≤ 1024 := by
  unfold checkP at h
  split at h
  · simp at h
  · split at h
    · simp at h
    · omega
theorem check22P_short {p : Int} {l : List (Int × Int)} (h : check22P p l = 0) : l.length ≤ 1024 := by
  unfold check22P at h
  split at h
  · simp at h
  · split at h
    · simp at h
    · omega

set_option maxHeartbeats 1000000 in
theorem merge_any (p : Int) (v : Value) (l : List (Int × Int)) (w : World) (hs : Segs w w.heap.size v l) :
    Calls Try.prog 14 #[.int .i64 p, v] w fun e w' => (∃ v', e = .returned (.tuple #[v', .int .i64 (checkP p l)]) ∧ OwnS w' w.heap.size v' (mergeL (checkP p l) l)) ∧ Below w.heap.size w w' := by
  have HC := check_any p v l w hs
  have HS := Lib.hid hs
  obtain ⟨c, hc⟩ : ∃ c, checkP p l = c := ⟨_, rfl⟩
  rw [hc] at HC ⊢
  have HK := Lib.hid hc
  clear hc
  obtain ⟨a, cap, rfl, hm, h, hr⟩ := hs
  clear h hr
  by_cases h0 : c = 0
  · subst h0
    have hlen : l.length ≤ 1024 := checkP_short HK.out
    go_enter Try.func14, Try.ntmps14
    go_wp2_with fail
    refine HC.mono ?_
    rintro e w1 ⟨rfl, hb1⟩
    clear HC
    have HM := merged_any _ l w1 ((HS.out.below hb1).mono hb1.size) (by omega)
    go_wp2_with fail
    refine HM.mono ?_
    rintro e w2 ⟨⟨v', rfl, ho⟩, hb2⟩
    clear HM
    have hn : mergeL 0 l = mergedL l := by rw [mergeL, if_pos rfl]
    have HN := Lib.hid hn
    clear hn
    go_wp2_with fail
    go_ret2
    exact ⟨⟨v', rfl, by rw [HN.out]; exact ho.mono hb1.size⟩, hb1.trans (hb2.mono hb1.size)⟩
  · have d0 : (c != 0) = true := by simpa using h0
    have HN : Hid (mergeL c l = []) := by rw [Hid, mergeL, if_neg h0]
    clear h0
    go_enter Try.func14, Try.ntmps14
    go_wp2_with fail
    refine HC.mono ?_
    rintro e w1 ⟨rfl, hb1⟩
    clear HC
    go_wp2_with fail
    go_ret2
    exact ⟨⟨_, rfl, by rw [HN.out]; exact World.ownsRow_nil _ _ _ _⟩, hb1⟩
set_option maxHeartbeats 1000000 in
theorem merge22_any (p : Int) (v : Value) (l : List (Int × Int)) (w : World) (hs : Segs w w.heap.size v l) :
    Calls Try.prog 15 #[.int .i64 p, v] w fun e w' => (∃ v', e = .returned (.tuple #[v', .int .i64 (check22P p l)]) ∧ OwnS w' w.heap.size v' (mergeL (check22P p l) l)) ∧ Below w.heap.size w w' := by
  have HC := check22_any p v l w hs
  have HS := Lib.hid hs
  obtain ⟨c, hc⟩ : ∃ c, check22P p l = c := ⟨_, rfl⟩
  rw [hc] at HC ⊢
  have HK := Lib.hid hc
  clear hc
  obtain ⟨a, cap, rfl, hm, h, hr⟩ := hs
  clear h hr
  by_cases h0 : c = 0
  · subst h0
    have hlen : l.length ≤ 1024 := check22P_short HK.out
    go_enter Try.func15, Try.ntmps15
    go_wp2_with fail
    refine HC.mono ?_
    rintro e w1 ⟨rfl, hb1⟩
    clear HC
    have HM := merged22_any _ l w1 ((HS.out.below hb1).mono hb1.size) (by omega)
    go_wp2_with fail
    refine HM.mono ?_
    rintro e w2 ⟨⟨v', rfl, ho⟩, hb2⟩
    clear HM
    have hn : mergeL 0 l = mergedL l := by rw [mergeL, if_pos rfl]
    have HN := Lib.hid hn
    clear hn
    go_wp2_with fail
    go_ret2
    exact ⟨⟨v', rfl, by rw [HN.out]; exact ho.mono hb1.size⟩, hb1.trans (hb2.mono hb1.size)⟩
  · have d0 : (c != 0) = true := by simpa using h0
    have HN : Hid (mergeL c l = []) := by rw [Hid, mergeL, if_neg h0]
    clear h0
    go_enter Try.func15, Try.ntmps15
    go_wp2_with fail
    refine HC.mono ?_
    rintro e w1 ⟨rfl, hb1⟩
    clear HC
    go_wp2_with fail
    go_ret2
    exact ⟨⟨_, rfl, by rw [HN.out]; exact World.ownsRow_nil _ _ _ _⟩, hb1⟩

/-- What the book's Long answers. -/
def long22 (c : Int) (l : List (Int × Int)) : Int := if c = 0 then total22 l else 0
set_option maxHeartbeats 1000000 in
theorem long22_any (p : Int) (v : Value) (l : List (Int × Int)) (w : World) (hs : Segs w w.heap.size v l) :
    Calls Try.prog 20 #[.int .i64 p, v] w fun e w' => e = .returned (.tuple #[.int .i64 (long22 (check22P p l) l), .int .i64 (check22P p l)]) ∧ Below w.heap.size w w' := by
  have HC := check22_any p v l w hs
  have HS := Lib.hid hs
  obtain ⟨c, hc⟩ : ∃ c, check22P p l = c := ⟨_, rfl⟩
  rw [hc] at HC ⊢
  clear hc
  obtain ⟨a, cap, rfl, hm, h, hr⟩ := hs
  clear h hr
  by_cases h0 : c = 0
  · subst h0
    have HN : Hid (long22 0 l = total22 l) := by rw [Hid, long22, if_pos rfl]
    rw [HN.out]
    go_enter Try.func20, Try.ntmps20
    go_wp2_with fail
    refine HC.mono ?_
    rintro e w1 ⟨rfl, hb1⟩
    clear HC
    have HM := total22_any _ l w1 ((HS.out.below hb1).mono hb1.size)
    go_wp2_with fail
    refine HM.mono ?_
    rintro e w2 ⟨rfl, rfl⟩
    clear HM
    go_wp2_with fail
    go_ret2
    exact ⟨rfl, hb1⟩
  · have d0 : (c != 0) = true := by simpa using h0
    have HN : Hid (long22 c l = 0) := by rw [Hid, long22, if_neg h0]
    rw [HN.out]
    clear h0
    go_enter Try.func20, Try.ntmps20
    go_wp2_with fail
    refine HC.mono ?_
    rintro e w1 ⟨rfl, hb1⟩
    clear HC
    go_wp2_with fail
    go_ret2
    exact ⟨rfl, hb1⟩

/-- What the book's On answers. -/
def on22 (c : Int) (l : List (Int × Int)) (at_ : Int) : Int × Int := if c = 0 then (if at_ < 0 ∨ total22 l ≤ at_ then (0, 2) else (ofF l at_, 0)) else (0, c)
set_option maxHeartbeats 1000000 in
theorem on22_any (p at_ : Int) (v : Value) (l : List (Int × Int)) (w : World) (hs : Segs w w.heap.size v l) :
    Calls Try.prog 22 #[.int .i64 p, v, .int .i64 at_] w fun e w' => e = .returned (.tuple #[.int .u8 (on22 (check22P p l) l at_).1, .int .i64 (on22 (check22P p l) l at_).2]) ∧ Below w.heap.size w w' := by
  have HC := check22_any p v l w hs
  have HS := Lib.hid hs
  obtain ⟨c, hc⟩ : ∃ c, check22P p l = c := ⟨_, rfl⟩
  rw [hc] at HC ⊢
  clear hc
  obtain ⟨a, cap, rfl, hm, h, hr⟩ := hs
  clear h hr
  by_cases h0 : c = 0
  · subst h0
    by_cases ha : at_ < 0
    · have HN : Hid (on22 0 l at_ = (0, 2)) := by rw [Hid, on22, if_pos rfl, if_pos (.inl ha)]
      rw [HN.out]
      have da : decide (at_ < 0) = true := by simpa using ha
      clear ha
      go_enter Try.func22, Try.ntmps22
      go_wp2_with fail
      refine HC.mono ?_
      rintro e w1 ⟨rfl, hb1⟩
      clear HC
      go_wp2_with fail
      go_ret2
      exact ⟨rfl, hb1⟩
    have da : decide (at_ < 0) = false := by simpa using ha
    by_cases hb : total22 l ≤ at_
    · have HN : Hid (on22 0 l at_ = (0, 2)) := by rw [Hid, on22, if_pos rfl, if_pos (.inr hb)]
      rw [HN.out]
      have db : decide (total22 l ≤ at_) = true := by simpa using hb
      clear ha hb
      go_enter Try.func22, Try.ntmps22
      go_wp2_with fail
      refine HC.mono ?_
      rintro e w1 ⟨rfl, hb1⟩
      clear HC
      have HM := total22_any _ l w1 ((HS.out.below hb1).mono hb1.size)
      go_wp2_with fail
      refine HM.mono ?_
      rintro e w2 ⟨rfl, rfl⟩
      clear HM
      go_wp2_with fail
      go_ret2
      exact ⟨rfl, hb1⟩
    · have HN : Hid (on22 0 l at_ = (ofF l at_, 0)) := by rw [Hid, on22, if_pos rfl, if_neg (by omega)]
      rw [HN.out]
      have db : decide (total22 l ≤ at_) = false := by simpa using hb
      clear ha hb
      go_enter Try.func22, Try.ntmps22
      go_wp2_with fail
      refine HC.mono ?_
      rintro e w1 ⟨rfl, hb1⟩
      clear HC
      have HM := total22_any _ l w1 ((HS.out.below hb1).mono hb1.size)
      have HO := of22_any _ l at_ w1 ((HS.out.below hb1).mono hb1.size)
      go_wp2_with fail
      refine HM.mono ?_
      rintro e w2 ⟨rfl, rfl⟩
      clear HM
      go_wp2_with fail
      refine HO.mono ?_
      rintro e w2 ⟨rfl, rfl⟩
      clear HO
      go_wp2_with fail
      go_ret2
      exact ⟨rfl, hb1⟩
  · have d0 : (c != 0) = true := by simpa using h0
    have HN : Hid (on22 c l at_ = (0, c)) := by rw [Hid, on22, if_neg h0]
    rw [HN.out]
    clear h0
    go_enter Try.func22, Try.ntmps22
    go_wp2_with fail
    refine HC.mono ?_
    rintro e w1 ⟨rfl, hb1⟩
    clear HC
    go_wp2_with fail
    go_ret2
    exact ⟨rfl, hb1⟩

/-- What the book's Same answers. -/
def same22 (c d : Int) (l r : List (Int × Int)) : Bool × Int := if c = 0 then (if d = 0 then (decide (mergedL l = mergedL r), 0) else (false, d)) else (false, c)
set_option maxHeartbeats 1000000 in
theorem same22_any (p : Int) (v v' : Value) (l r : List (Int × Int)) (w : World) (hs : Segs w w.heap.size v l) (hs' : Segs w w.heap.size v' r) (hr : ∀ s ∈ l, InR s) (hr' : ∀ s ∈ r, InR s) :
    Calls Try.prog 24 #[.int .i64 p, v, v'] w fun e w' => e = .returned (.tuple #[.bool (same22 (check22P p l) (check22P p r) l r).1, .int .i64 (same22 (check22P p l) (check22P p r) l r).2]) ∧ Below w.heap.size w w' := by
  have HC := check22_any p v l w hs
  have HS := Lib.hid hs
  have HS' := Lib.hid hs'
  have HR := Lib.hid hr
  have HR' := Lib.hid hr'
  clear hr hr'
  have hd0 : ∀ w1, Below w.heap.size w w1 → Calls Try.prog 26 #[.int .i64 p, v'] w1 fun e w' => e = .returned (.int .i64 (check22P p r)) ∧ Below w1.heap.size w1 w' := fun w1 hb => check22_any p v' r w1 ((HS'.out.below hb).mono hb.size)
  obtain ⟨c, hc⟩ : ∃ c, check22P p l = c := ⟨_, rfl⟩
  obtain ⟨d, hd⟩ : ∃ d, check22P p r = d := ⟨_, rfl⟩
  rw [hc] at HC ⊢
  simp only [hd] at hd0 ⊢
  have HD := Lib.hid hd0
  have HKc := Lib.hid hc
  have HKd := Lib.hid hd
  clear hd0 hc hd
  obtain ⟨a, cap, rfl, hm, h, hr⟩ := hs
  obtain ⟨a', cap', rfl, hm', h', hr'⟩ := hs'
  clear h hr h' hr'
  by_cases h0 : c = 0
  · subst h0
    by_cases h1 : d = 0
    · subst h1
      have HN : Hid (same22 0 0 l r = (decide (mergedL l = mergedL r), 0)) := by rw [Hid, same22, if_pos rfl, if_pos rfl]
      rw [HN.out]
      have hl1 := check22P_short HKc.out
      have hl2 := check22P_short HKd.out
      go_enter Try.func24, Try.ntmps24
      go_wp2_with fail
      refine HC.mono ?_
      rintro e w1 ⟨rfl, hb1⟩
      clear HC
      have HD1 := HD.out w1 hb1
      go_wp2_with fail
      refine HD1.mono ?_
      rintro e w2 ⟨rfl, hb2⟩
      clear HD1
      have hb2' : Below w.heap.size w w2 := hb1.trans (hb2.mono hb1.size)
      have HM := merged22_any _ l w2 ((HS.out.below hb2').mono hb2'.size) (by omega)
      go_wp2_with fail
      refine HM.mono ?_
      rintro e w3 ⟨⟨v3, rfl, ho3⟩, hb3⟩
      clear HM
      have hb3' : Below w.heap.size w w3 := hb2'.trans (hb3.mono hb2'.size)
      have HM := merged22_any _ r w3 ((HS'.out.below hb3').mono hb3'.size) (by omega)
      have HO3 := Lib.hid ho3
      clear ho3
      go_wp2_with fail
      refine HM.mono ?_
      rintro e w4 ⟨⟨v4, rfl, ho4⟩, hb4⟩
      clear HM
      have hb4' : Below w.heap.size w w4 := hb3'.trans (hb4.mono hb3'.size)
      have hg3 := (HO3.out.below hb4).segs (by have := mergedL_length l; omega) (mergedL_range HR.out)
      have hg4 := ho4.segs (by have := mergedL_length r; omega) (mergedL_range HR'.out)
      have HQ := sameList_any _ _ _ _ w4 hg3 hg4
      clear hg3 hg4 ho4
      go_wp2_with fail
      refine HQ.mono ?_
      rintro e w5 ⟨rfl, hb5⟩
      clear HQ
      go_wp2_with fail
      go_ret2
      exact ⟨rfl, hb4'.trans (hb5.mono hb4'.size)⟩
    · have d1 : (d != 0) = true := by simpa using h1
      have HN : Hid (same22 0 d l r = (false, d)) := by rw [Hid, same22, if_pos rfl, if_neg h1]
      rw [HN.out]
      clear h1
      go_enter Try.func24, Try.ntmps24
      go_wp2_with fail
      refine HC.mono ?_
      rintro e w1 ⟨rfl, hb1⟩
      clear HC
      have HD1 := HD.out w1 hb1
      go_wp2_with fail
      refine HD1.mono ?_
      rintro e w2 ⟨rfl, hb2⟩
      clear HD1
      go_wp2_with fail
      go_ret2
      exact ⟨rfl, hb1.trans (hb2.mono hb1.size)⟩
  · have d0 : (c != 0) = true := by simpa using h0
    have HN : Hid (same22 c d l r = (false, c)) := by rw [Hid, same22, if_neg h0]
    rw [HN.out]
    clear h0
    go_enter Try.func24, Try.ntmps24
    go_wp2_with fail
    refine HC.mono ?_
    rintro e w1 ⟨rfl, hb1⟩
    clear HC
    go_wp2_with fail
    go_ret2
    exact ⟨rfl, hb1⟩
end Go.Proofs.Ytnpaoekblfflmaa
