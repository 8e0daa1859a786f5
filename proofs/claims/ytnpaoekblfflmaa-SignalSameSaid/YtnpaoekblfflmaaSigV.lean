/- The law SignalTurns, walked. -/
import Derived.Test.YtnpaoekblfflmaaSigU
namespace Go.Proofs.Ytnpaoekblfflmaa
open Go.RowKit Go.Shelf
attribute [local go_sem ↓] Go.wp_at_zero Go.wp_at_succ

theorem mergeL_range {c : Int} {l : List (Int × Int)} (hl : ∀ x ∈ l, InR x) : ∀ x ∈ mergeL c l, InR x := by
  unfold mergeL
  split
  · exact mergedL_range hl
  · simp
theorem mergeL_length (c : Int) (l : List (Int × Int)) : (mergeL c l).length ≤ l.length := by
  unfold mergeL
  split
  · exact mergedL_length l
  · simp
theorem wrap64_range (n : Int) : -9223372036854775808 ≤ wrap64 n ∧ wrap64 n ≤ 9223372036854775807 := by unfold wrap64; omega
theorem itemOf_range {l : List (Int × Int)} (hl : ∀ x ∈ l, InR x) (k : Nat) : InR ((itemOf l k).2.1, (itemOf l k).2.2) := by
  simp only [itemOf]
  by_cases h : k < l.length
  · rw [List.getElem?_eq_getElem h]; exact hl _ (List.getElem_mem h)
  · rw [List.getElem?_eq_none (by omega)]; simp [InR]
theorem cutTo_range {m : Int} {l : List (Int × Int)} (hl : ∀ x ∈ l, InR x) : ∀ k, ∀ x ∈ cutTo m l k, InR x
  | 0 => by simp [cutTo, itemsTo]
  | k + 1 => by
    have ih := cutTo_range (m := m) hl k
    have hi := itemOf_range hl k
    rw [cutTo_succ, cutStep]
    intro x hx
    split at hx
    · simp only [List.mem_append, List.mem_singleton] at hx
      rcases hx with (hx | rfl) | rfl
      · exact ih x hx
      · exact ⟨(wrap64_range _).1, (wrap64_range _).2, hi.2.2.1, hi.2.2.2⟩
      · exact ⟨(wrap64_range _).1, (wrap64_range _).2, hi.2.2.1, hi.2.2.2⟩
    · simp only [List.mem_append, List.mem_singleton] at hx
      rcases hx with hx | rfl
      · exact ih x hx
      · exact hi
theorem cutA_range {c m : Int} {l : List (Int × Int)} (hl : ∀ x ∈ l, InR x) : ∀ x ∈ (cutA c l m).1, InR x := by
  unfold cutA cutP
  split
  · split
    · simp
    · split
      · simp
      · exact cutTo_range hl _
  · simp
theorem cutA_length (c m : Int) (l : List (Int × Int)) : (cutA c l m).1.length ≤ 2 * l.length := by
  unfold cutA cutP
  split
  · split
    · simp
    · split
      · simp
      · exact cutTo_length m l _
  · simp

/-- The four calls, at a world behind. -/
structure Turned (w : World) (B : Nat) (p m : Int) (vo v : Value) (l : List (Int × Int)) (c : Int) (A : List (Int × Int)) (C : List (Int × Int)) (d : Int) : Prop where
  merge1 : ∀ w1, OwnS w1 B vo l → Calls Try.prog 14 #[.int .i64 p, vo] w1 fun e w' => (∃ v', e = .returned (.tuple #[v', .int .i64 c]) ∧ OwnS w' w1.heap.size v' A) ∧ Below w1.heap.size w1 w'
  merge2 : ∀ w1, Below w.heap.size w w1 → Calls Try.prog 15 #[.int .i64 p, v] w1 fun e w' => (∃ v', e = .returned (.tuple #[v', .int .i64 c]) ∧ OwnS w' w1.heap.size v' A) ∧ Below w1.heap.size w1 w'
  cut1 : ∀ w1, OwnS w1 B vo l → Calls Try.prog 16 #[.int .i64 p, vo, .int .i64 m] w1 fun e w' => (∃ v', e = .returned (.tuple #[v', .int .i64 d]) ∧ OwnS w' w1.heap.size v' C) ∧ Below w1.heap.size w1 w'
  cut2 : ∀ w1, Below w.heap.size w w1 → Calls Try.prog 17 #[.int .i64 p, v, .int .i64 m] w1 fun e w' => (∃ v', e = .returned (.tuple #[v', .int .i64 d]) ∧ OwnS w' w1.heap.size v' C) ∧ Below w1.heap.size w1 w'
  hA : (∀ x ∈ A, InR x) ∧ A.length ≤ 100000
  hC : (∀ x ∈ C, InR x) ∧ C.length ≤ 100000

theorem turned_of (p m : Int) (vo v : Value) (l : List (Int × Int)) (w : World) (B : Nat) (hs : Segs w w.heap.size v l) (hlen : l.length ≤ 10000) : ∃ c A C d, Turned w B p m vo v l c A C d := by
  refine ⟨checkP p l, mergeL (checkP p l) l, (cutA (checkP p l) l m).1, (cutA (checkP p l) l m).2, ?_, ?_, ?_, ?_, ⟨mergeL_range hs.inR, by have := mergeL_length (checkP p l) l; omega⟩, ⟨cutA_range hs.inR, by have := cutA_length (checkP p l) m l; omega⟩⟩
  · exact fun w1 ho => merge_any p vo l w1 (ho.segs (by omega) hs.inR)
  · intro w1 hb
    rw [check_eq hs.inR]
    exact merge22_any p v l w1 (hs.at hb)
  · exact fun w1 ho => cut_any p m vo l w1 (ho.segs (by omega) hs.inR)
  · intro w1 hb
    have := cut22_any p m v l w1 (hs.at hb)
    rw [← check_eq hs.inR, ← cut_eq hs.inR] at this
    exact this

theorem ownsRow_any {w : World} {B : Nat} {v : Value} {n : Nat} {xs : List Value} (h : w.ownsRow B 39 2 v n xs) (hn : 0 < n) : ∃ g cap, v = .slice (some ⟨g, 0, none⟩) n cap := by
  rcases h.2 with ⟨_, h0⟩ | ⟨g, cap, cur, hv, _⟩
  · omega
  · exact ⟨g, cap, hv⟩

set_option maxRecDepth 100000 in
set_option maxHeartbeats 8000000 in
theorem turns_any (p m : Int) (v : Value) (l : List (Int × Int)) (w : World) (hs : Segs w w.heap.size v l) :
    Calls Try.prog 4 #[.int .i64 p, v, .int .i64 m] w fun e w' => e = .returned (.bool true) ∧ Below w.heap.size w w' := by
  by_cases h1 : 10000 < l.length
  · obtain ⟨a, cap, rfl, hm, h, hr⟩ := hs
    have d1 : decide (10000 < (l.length : Int)) = true := by simp; omega
    clear h1 h hr
    go_enter Try.func4, Try.ntmps4
    go_wp2_with fail
    go_ret
    exact ⟨rfl, Below.refl _ _⟩
  have d1 : decide (10000 < (l.length : Int)) = false := by simp; omega
  have hlen : l.length ≤ 10000 := by omega
  have HS := Lib.hid hs
  have hT : ∀ vo, ∃ c A C d, Turned w w.heap.size p m vo v l c A C d := fun vo => turned_of p m vo v l w w.heap.size hs hlen
  have HT := Lib.hid hT
  obtain ⟨i0, hi, hz0, hz1, hz2⟩ := info_parts Try.info39
  obtain ⟨a, cap, rfl, hm, h, hr⟩ := hs
  have HR := Lib.hid hr
  clear h1 hr hT
  rcases h with rfl | ⟨b, off, rfl, hbl, hc⟩
  · rcases a with _ | ad
    · go_enter Try.func4, Try.ntmps4
      go_wp2_with fail
      have hb1 : Below w.heap.size w w := Below.refl _ _
      have ho : OwnS w w.heap.size (.slice none 0 0) [] := World.ownsRow_nil _ _ _ _
      have HBo : Hid (Below w.heap.size w w) := hb1
      obtain ⟨c, A, C, d, hTu⟩ := HT.out (Value.slice none 0 0)
      have HTu := Lib.hid hTu
      have HOo := Lib.hid ho
      clear hTu hb1 ho
      have q := HTu.out.merge1 w HOo.out
      go_wp2_with fail
      refine q.mono ?_
      clear q
      rintro e w2 ⟨⟨va, rfl, hoa⟩, hb⟩
      have hk2 : Hid (Below w.heap.size w w2) := HBo.out.trans (hb.mono HBo.out.size)
      have ho2 : Hid (OwnS w2 w.heap.size (Value.slice none 0 0) ([] : List (Int × Int))) := HOo.out.below hb
      have hA2 : Hid (OwnS w2 w.heap.size va A) := hoa
      have z12 : Hid (w.heap.size ≤ w2.heap.size) := hb.size
      clear hb hoa
      have q := HTu.out.merge2 w2 hk2.out
      go_wp2_with fail
      refine q.mono ?_
      clear q
      rintro e w3 ⟨⟨vb, rfl, hob⟩, hb⟩
      have hk3 : Hid (Below w.heap.size w w3) := hk2.out.trans (hb.mono hk2.out.size)
      have ho3 : Hid (OwnS w3 w.heap.size (Value.slice none 0 0) ([] : List (Int × Int))) := ho2.out.below hb
      have hA3 : Hid (OwnS w3 w.heap.size va A) := hA2.out.below hb
      have hB3 : Hid (OwnS w3 w2.heap.size vb A) := hob
      have hs3 : Hid (w2.heap.size ≤ w3.heap.size) := hb.size
      clear hb hob
      have q := HTu.out.cut1 w3 ho3.out
      go_wp2_with fail
      refine q.mono ?_
      clear q
      rintro e w4 ⟨⟨vc, rfl, hoc⟩, hb⟩
      have hk4 : Hid (Below w.heap.size w w4) := hk3.out.trans (hb.mono hk3.out.size)
      have ho4 : Hid (OwnS w4 w.heap.size (Value.slice none 0 0) ([] : List (Int × Int))) := ho3.out.below hb
      have hA4 : Hid (OwnS w4 w.heap.size va A) := hA3.out.below hb
      have hB4 : Hid (OwnS w4 w2.heap.size vb A) := hB3.out.below hb
      have hC4 : Hid (OwnS w4 w3.heap.size vc C) := hoc
      clear hb hoc
      have q := HTu.out.cut2 w4 hk4.out
      go_wp2_with fail
      refine q.mono ?_
      clear q
      rintro e w5 ⟨⟨vd, rfl, hod⟩, hb⟩
      have hk5 : Hid (Below w.heap.size w w5) := hk4.out.trans (hb.mono hk4.out.size)
      have ho5 : Hid (OwnS w5 w.heap.size (Value.slice none 0 0) ([] : List (Int × Int))) := ho4.out.below hb
      have hA5 : Hid (OwnS w5 w.heap.size va A) := hA4.out.below hb
      have hB5 : Hid (OwnS w5 w2.heap.size vb A) := hB4.out.below hb
      have hC5 : Hid (OwnS w5 w3.heap.size vc C) := hC4.out.below hb
      have hD5 : Hid (OwnS w5 w4.heap.size vd C) := hod
      clear hb hod
      have q := sameList_any va vb A A w5 (hA5.out.segs (by have := HTu.out.hA.2; omega) HTu.out.hA.1) (hB5.out.segs (by have := HTu.out.hA.2; omega) HTu.out.hA.1)
      simp only [decide_true] at q
      go_wp2_with fail
      refine q.mono ?_
      clear q
      rintro e w6 ⟨rfl, hb⟩
      have hk6 : Hid (Below w.heap.size w w6) := hk5.out.trans (hb.mono hk5.out.size)
      have ho6 : Hid (OwnS w6 w.heap.size (Value.slice none 0 0) ([] : List (Int × Int))) := ho5.out.below hb
      have hA6 : Hid (OwnS w6 w.heap.size va A) := hA5.out.below hb
      have hC6 : Hid (OwnS w6 w3.heap.size vc C) := hC5.out.below hb
      have hD6 : Hid (OwnS w6 w4.heap.size vd C) := hD5.out.below hb
      clear hb
      have q := sameList_any vc vd C C w6 (hC6.out.segs (by have := HTu.out.hC.2; omega) HTu.out.hC.1) (hD6.out.segs (by have := HTu.out.hC.2; omega) HTu.out.hC.1)
      simp only [decide_true] at q
      go_wp2_with fail
      refine q.mono ?_
      clear q
      rintro e w7 ⟨rfl, hb⟩
      have hk7 : Hid (Below w.heap.size w w7) := hk6.out.trans (hb.mono hk6.out.size)
      have ho7 : Hid (OwnS w7 w.heap.size (Value.slice none 0 0) ([] : List (Int × Int))) := ho6.out.below hb
      have hA7 : Hid (OwnS w7 w.heap.size va A) := hA6.out.below hb
      have hC7 : Hid (OwnS w7 w3.heap.size vc C) := hC6.out.below hb
      clear hb
      have lO : Hid (∀ g, (Value.slice none 0 0).ownBlock = some g → w.heap.size ≤ g ∧ g < w.heap.size) := fun g hg => World.ownsRow.lt HOo.out g hg
      have lA : Hid (∀ g, va.ownBlock = some g → w.heap.size ≤ g ∧ g < w2.heap.size) := fun g hg => World.ownsRow.lt hA2.out g hg
      have lC : Hid (∀ g, vc.ownBlock = some g → w3.heap.size ≤ g) := fun g hg => (World.ownsRow.lt hC4.out g hg).1
      have z1 : Hid (w.heap.size ≤ w.heap.size) := HBo.out.size
      have z2 : Hid (w.heap.size ≤ w2.heap.size) := z12.out
      clear ho2 ho3 ho4 ho5 ho6 hA2 hA3 hA4 hA5 hA6 hB3 hB4 hB5 hC4 hC5 hC6 hD5 hD6 hk2 hk3 hk4 hk5 hk6
      obtain ⟨aa, ca, hva⟩ : ∃ aa ca, va = .slice aa A.length ca := OwnS.shape hA7.out
      obtain ⟨ac, cc, hvc⟩ : ∃ ac cc, vc = .slice ac C.length cc := OwnS.shape hC7.out
      have hAl := HTu.out.hA.2
      have hCl := HTu.out.hC.2
      subst hva hvc
      go_wp2_with fail
      go_loopw [16] (fun i wr => ∃ (j : Nat) (xs : List Value), j ≤ A.length ∧ i = .int .i64 j ∧ wr.ownsRow w.heap.size 39 2 (.slice aa A.length ca) A.length xs ∧ w7.grownBy wr (Value.slice aa A.length ca).ownBlock) (fun i _ => A.length - (intOf i).toNat)
      case atStart => exact ⟨0, _, Nat.zero_le _, rfl, hA7.out, ⟨rfl, rfl, rfl, Nat.le_refl _, fun _ _ _ => rfl⟩⟩
      case round =>
        obtain ⟨j, xs, hj, rfl, hox, hgx⟩ := hrel
        by_cases hlt : j < A.length
        · obtain ⟨g, cap', hv⟩ := ownsRow_any hox (by omega)
          injection hv with h1 _ h3
          subst h1
          have hxl : xs.length = A.length * 2 := hox.1
          have c0 : wr.cell? ⟨g, j * 2, none⟩ = some xs[j * 2] := by rw [hox.cellAt _ (by omega), List.getElem?_eq_getElem (by omega)]
          have f0 := hox.frozenAt (j * 2)
          have st := hox.stored (j * 2) (.int .i64 7)
          have HST := Lib.hid st
          have HGX := Lib.hid hgx
          clear st hox hgx h3
          obtain ⟨x0, hx0⟩ : ∃ x0, xs[j * 2] = x0 := ⟨_, rfl⟩
          rw [hx0] at c0
          clear hx0
          go_wp2_with fail
          refine ⟨⟨j + 1, _, by omega, by push_cast; rfl, HST.out.1, ?_⟩, by simp [intOf]; omega⟩
          exact HGX.out.trans HST.out.2
        · have hje : j = A.length := by omega
          subst hje
          have HGX := Lib.hid hgx
          have hk8 : Hid (Below w.heap.size w wr) := hk7.out.grown HGX.out (by have := hk7.out.size; omega) (fun g hg => by have := (lA.out g hg).1; have := z1.out; omega)
          have ho8 : Hid (OwnS wr w.heap.size (Value.slice none 0 0) ([] : List (Int × Int))) := World.ownsRow.kept ho7.out HGX.out (by
            cases hv : (Value.slice none 0 0).ownBlock with
            | none => exact .inl rfl
            | some g => exact .inr fun e => by have := (lO.out g hv).2; have := (lA.out g e.symm).1; omega)
          have hC8 : Hid (OwnS wr w3.heap.size (.slice ac C.length cc) C) := World.ownsRow.kept hC7.out HGX.out (by
            cases hv : (Value.slice ac C.length cc).ownBlock with
            | none => exact .inl rfl
            | some g => exact .inr fun e => by have := lC.out g hv; have := (lA.out g e.symm).2; have := hs3.out; omega)
          clear hox hgx hlt hj
          go_wp2_with fail
          go_loopw [17] (fun i ws => ∃ (j : Nat) (xs : List Value), j ≤ C.length ∧ i = .int .i64 j ∧ ws.ownsRow w3.heap.size 39 2 (.slice ac C.length cc) C.length xs ∧ wr.grownBy ws (Value.slice ac C.length cc).ownBlock) (fun i _ => C.length - (intOf i).toNat)
          case atStart => exact ⟨0, _, Nat.zero_le _, rfl, hC8.out, ⟨rfl, rfl, rfl, Nat.le_refl _, fun _ _ _ => rfl⟩⟩
          case round =>
            obtain ⟨j, xs, hj, rfl, hox, hgx⟩ := hrel
            by_cases hlt : j < C.length
            · obtain ⟨g, cap', hv⟩ := ownsRow_any hox (by omega)
              injection hv with h1 _ h3
              subst h1
              have hxl : xs.length = C.length * 2 := hox.1
              have c0 := hox.cellAt (j * 2) (by omega)
              rw [List.getElem?_eq_getElem (by omega)] at c0
              have f0 := hox.frozenAt (j * 2)
              have st := hox.stored (j * 2) (.int .i64 7)
              have HST := Lib.hid st
              have HGY := Lib.hid hgx
              clear st hox hgx h3
              obtain ⟨x0, hx0⟩ : ∃ x0, xs[j * 2] = x0 := ⟨_, rfl⟩
              rw [hx0] at c0
              clear hx0
              go_wp2_with fail
              refine ⟨⟨j + 1, _, by omega, by push_cast; rfl, HST.out.1, ?_⟩, by simp [intOf]; omega⟩
              exact HGY.out.trans HST.out.2
            · have hje : j = C.length := by omega
              subst hje
              have HGY := Lib.hid hgx
              have hk9 := Below.grown hk8.out HGY.out (by have := hk8.out.size; omega) (fun g hg => by have := lC.out g hg; have := hs3.out; have := (hk8.out.size); have := z1.out; have := z2.out; omega)
              have ho9 := World.ownsRow.kept ho8.out HGY.out (by
                cases hv : (Value.slice none 0 0).ownBlock with
                | none => exact .inl rfl
                | some g => exact .inr fun e => by have := (lO.out g hv).2; have := lC.out g e.symm; have := hs3.out; have := z2.out; omega)
              have q := sameList_any (Value.slice none 0 0) _ ([] : List (Int × Int)) ([] : List (Int × Int)) _ ((show OwnS _ _ _ _ from ho9).segs (by omega) HR.out) (HS.out.at hk9)
              simp only [decide_true] at q
              have HK9 := Lib.hid hk9
              clear hox hgx hlt hj ho9 hk9
              go_wp2_with fail
              refine q.mono ?_
              clear q
              rintro e wf ⟨rfl, hb⟩
              have hkf := HK9.out.trans (hb.mono HK9.out.size)
              clear hb
              go_wp2_with fail
              go_ret
              exact ⟨rfl, hkf⟩
    · go_enter Try.func4, Try.ntmps4
      go_wp2_with (at_builtin; refine wpList_append_own_at _ rfl _ _ 29 rfl w.heap.size 39 i0 _ 2 16 Try.underlying29 hi hz0 hz1 hz2 rfl (by decide) (.slice none 0 0) 0 [] rfl (World.ownsRow_nil _ _ _ _) ad 0 cap [] rfl rfl (by simp) (by simp) (by simp [maxLen]) (by omega) (Nat.le_refl _) ?_; intro vo w1 hown' hgrow hnil hat; have ho : OwnS w1 w.heap.size vo [] := (by simpa [OwnS, flatS] using hown'); have hb1 : Below w.heap.size w w1 := (Below.refl _ _).grown hgrow (Nat.le_refl _) (fun j hj => by cases hj); clear hown' hgrow hnil hat)
      have HBo : Hid (Below w.heap.size w w1) := hb1
      obtain ⟨c, A, C, d, hTu⟩ := HT.out vo
      have HTu := Lib.hid hTu
      have HOo := Lib.hid ho
      clear hTu hb1 ho
      have q := HTu.out.merge1 w1 HOo.out
      go_wp2_with fail
      refine q.mono ?_
      clear q
      rintro e w2 ⟨⟨va, rfl, hoa⟩, hb⟩
      have hk2 : Hid (Below w.heap.size w w2) := HBo.out.trans (hb.mono HBo.out.size)
      have ho2 : Hid (OwnS w2 w.heap.size vo ([] : List (Int × Int))) := HOo.out.below hb
      have hA2 : Hid (OwnS w2 w1.heap.size va A) := hoa
      have z12 : Hid (w1.heap.size ≤ w2.heap.size) := hb.size
      clear hb hoa
      have q := HTu.out.merge2 w2 hk2.out
      go_wp2_with fail
      refine q.mono ?_
      clear q
      rintro e w3 ⟨⟨vb, rfl, hob⟩, hb⟩
      have hk3 : Hid (Below w.heap.size w w3) := hk2.out.trans (hb.mono hk2.out.size)
      have ho3 : Hid (OwnS w3 w.heap.size vo ([] : List (Int × Int))) := ho2.out.below hb
      have hA3 : Hid (OwnS w3 w1.heap.size va A) := hA2.out.below hb
      have hB3 : Hid (OwnS w3 w2.heap.size vb A) := hob
      have hs3 : Hid (w2.heap.size ≤ w3.heap.size) := hb.size
      clear hb hob
      have q := HTu.out.cut1 w3 ho3.out
      go_wp2_with fail
      refine q.mono ?_
      clear q
      rintro e w4 ⟨⟨vc, rfl, hoc⟩, hb⟩
      have hk4 : Hid (Below w.heap.size w w4) := hk3.out.trans (hb.mono hk3.out.size)
      have ho4 : Hid (OwnS w4 w.heap.size vo ([] : List (Int × Int))) := ho3.out.below hb
      have hA4 : Hid (OwnS w4 w1.heap.size va A) := hA3.out.below hb
      have hB4 : Hid (OwnS w4 w2.heap.size vb A) := hB3.out.below hb
      have hC4 : Hid (OwnS w4 w3.heap.size vc C) := hoc
      clear hb hoc
      have q := HTu.out.cut2 w4 hk4.out
      go_wp2_with fail
      refine q.mono ?_
      clear q
      rintro e w5 ⟨⟨vd, rfl, hod⟩, hb⟩
      have hk5 : Hid (Below w.heap.size w w5) := hk4.out.trans (hb.mono hk4.out.size)
      have ho5 : Hid (OwnS w5 w.heap.size vo ([] : List (Int × Int))) := ho4.out.below hb
      have hA5 : Hid (OwnS w5 w1.heap.size va A) := hA4.out.below hb
      have hB5 : Hid (OwnS w5 w2.heap.size vb A) := hB4.out.below hb
      have hC5 : Hid (OwnS w5 w3.heap.size vc C) := hC4.out.below hb
      have hD5 : Hid (OwnS w5 w4.heap.size vd C) := hod
      clear hb hod
      have q := sameList_any va vb A A w5 (hA5.out.segs (by have := HTu.out.hA.2; omega) HTu.out.hA.1) (hB5.out.segs (by have := HTu.out.hA.2; omega) HTu.out.hA.1)
      simp only [decide_true] at q
      go_wp2_with fail
      refine q.mono ?_
      clear q
      rintro e w6 ⟨rfl, hb⟩
      have hk6 : Hid (Below w.heap.size w w6) := hk5.out.trans (hb.mono hk5.out.size)
      have ho6 : Hid (OwnS w6 w.heap.size vo ([] : List (Int × Int))) := ho5.out.below hb
      have hA6 : Hid (OwnS w6 w1.heap.size va A) := hA5.out.below hb
      have hC6 : Hid (OwnS w6 w3.heap.size vc C) := hC5.out.below hb
      have hD6 : Hid (OwnS w6 w4.heap.size vd C) := hD5.out.below hb
      clear hb
      have q := sameList_any vc vd C C w6 (hC6.out.segs (by have := HTu.out.hC.2; omega) HTu.out.hC.1) (hD6.out.segs (by have := HTu.out.hC.2; omega) HTu.out.hC.1)
      simp only [decide_true] at q
      go_wp2_with fail
      refine q.mono ?_
      clear q
      rintro e w7 ⟨rfl, hb⟩
      have hk7 : Hid (Below w.heap.size w w7) := hk6.out.trans (hb.mono hk6.out.size)
      have ho7 : Hid (OwnS w7 w.heap.size vo ([] : List (Int × Int))) := ho6.out.below hb
      have hA7 : Hid (OwnS w7 w1.heap.size va A) := hA6.out.below hb
      have hC7 : Hid (OwnS w7 w3.heap.size vc C) := hC6.out.below hb
      clear hb
      have lO : Hid (∀ g, vo.ownBlock = some g → w.heap.size ≤ g ∧ g < w1.heap.size) := fun g hg => World.ownsRow.lt HOo.out g hg
      have lA : Hid (∀ g, va.ownBlock = some g → w1.heap.size ≤ g ∧ g < w2.heap.size) := fun g hg => World.ownsRow.lt hA2.out g hg
      have lC : Hid (∀ g, vc.ownBlock = some g → w3.heap.size ≤ g) := fun g hg => (World.ownsRow.lt hC4.out g hg).1
      have z1 : Hid (w.heap.size ≤ w1.heap.size) := HBo.out.size
      have z2 : Hid (w1.heap.size ≤ w2.heap.size) := z12.out
      clear ho2 ho3 ho4 ho5 ho6 hA2 hA3 hA4 hA5 hA6 hB3 hB4 hB5 hC4 hC5 hC6 hD5 hD6 hk2 hk3 hk4 hk5 hk6
      obtain ⟨aa, ca, hva⟩ : ∃ aa ca, va = .slice aa A.length ca := OwnS.shape hA7.out
      obtain ⟨ac, cc, hvc⟩ : ∃ ac cc, vc = .slice ac C.length cc := OwnS.shape hC7.out
      have hAl := HTu.out.hA.2
      have hCl := HTu.out.hC.2
      subst hva hvc
      go_wp2_with fail
      go_loopw [16] (fun i wr => ∃ (j : Nat) (xs : List Value), j ≤ A.length ∧ i = .int .i64 j ∧ wr.ownsRow w1.heap.size 39 2 (.slice aa A.length ca) A.length xs ∧ w7.grownBy wr (Value.slice aa A.length ca).ownBlock) (fun i _ => A.length - (intOf i).toNat)
      case atStart => exact ⟨0, _, Nat.zero_le _, rfl, hA7.out, ⟨rfl, rfl, rfl, Nat.le_refl _, fun _ _ _ => rfl⟩⟩
      case round =>
        obtain ⟨j, xs, hj, rfl, hox, hgx⟩ := hrel
        by_cases hlt : j < A.length
        · obtain ⟨g, cap', hv⟩ := ownsRow_any hox (by omega)
          injection hv with h1 _ h3
          subst h1
          have hxl : xs.length = A.length * 2 := hox.1
          have c0 : wr.cell? ⟨g, j * 2, none⟩ = some xs[j * 2] := by rw [hox.cellAt _ (by omega), List.getElem?_eq_getElem (by omega)]
          have f0 := hox.frozenAt (j * 2)
          have st := hox.stored (j * 2) (.int .i64 7)
          have HST := Lib.hid st
          have HGX := Lib.hid hgx
          clear st hox hgx h3
          obtain ⟨x0, hx0⟩ : ∃ x0, xs[j * 2] = x0 := ⟨_, rfl⟩
          rw [hx0] at c0
          clear hx0
          go_wp2_with fail
          refine ⟨⟨j + 1, _, by omega, by push_cast; rfl, HST.out.1, ?_⟩, by simp [intOf]; omega⟩
          exact HGX.out.trans HST.out.2
        · have hje : j = A.length := by omega
          subst hje
          have HGX := Lib.hid hgx
          have hk8 : Hid (Below w.heap.size w wr) := hk7.out.grown HGX.out (by have := hk7.out.size; omega) (fun g hg => by have := (lA.out g hg).1; have := z1.out; omega)
          have ho8 : Hid (OwnS wr w.heap.size vo ([] : List (Int × Int))) := World.ownsRow.kept ho7.out HGX.out (by
            cases hv : vo.ownBlock with
            | none => exact .inl rfl
            | some g => exact .inr fun e => by have := (lO.out g hv).2; have := (lA.out g e.symm).1; omega)
          have hC8 : Hid (OwnS wr w3.heap.size (.slice ac C.length cc) C) := World.ownsRow.kept hC7.out HGX.out (by
            cases hv : (Value.slice ac C.length cc).ownBlock with
            | none => exact .inl rfl
            | some g => exact .inr fun e => by have := lC.out g hv; have := (lA.out g e.symm).2; have := hs3.out; omega)
          clear hox hgx hlt hj
          go_wp2_with fail
          go_loopw [17] (fun i ws => ∃ (j : Nat) (xs : List Value), j ≤ C.length ∧ i = .int .i64 j ∧ ws.ownsRow w3.heap.size 39 2 (.slice ac C.length cc) C.length xs ∧ wr.grownBy ws (Value.slice ac C.length cc).ownBlock) (fun i _ => C.length - (intOf i).toNat)
          case atStart => exact ⟨0, _, Nat.zero_le _, rfl, hC8.out, ⟨rfl, rfl, rfl, Nat.le_refl _, fun _ _ _ => rfl⟩⟩
          case round =>
            obtain ⟨j, xs, hj, rfl, hox, hgx⟩ := hrel
            by_cases hlt : j < C.length
            · obtain ⟨g, cap', hv⟩ := ownsRow_any hox (by omega)
              injection hv with h1 _ h3
              subst h1
              have hxl : xs.length = C.length * 2 := hox.1
              have c0 := hox.cellAt (j * 2) (by omega)
              rw [List.getElem?_eq_getElem (by omega)] at c0
              have f0 := hox.frozenAt (j * 2)
              have st := hox.stored (j * 2) (.int .i64 7)
              have HST := Lib.hid st
              have HGY := Lib.hid hgx
              clear st hox hgx h3
              obtain ⟨x0, hx0⟩ : ∃ x0, xs[j * 2] = x0 := ⟨_, rfl⟩
              rw [hx0] at c0
              clear hx0
              go_wp2_with fail
              refine ⟨⟨j + 1, _, by omega, by push_cast; rfl, HST.out.1, ?_⟩, by simp [intOf]; omega⟩
              exact HGY.out.trans HST.out.2
            · have hje : j = C.length := by omega
              subst hje
              have HGY := Lib.hid hgx
              have hk9 := Below.grown hk8.out HGY.out (by have := hk8.out.size; omega) (fun g hg => by have := lC.out g hg; have := hs3.out; have := (hk8.out.size); have := z1.out; have := z2.out; omega)
              have ho9 := World.ownsRow.kept ho8.out HGY.out (by
                cases hv : vo.ownBlock with
                | none => exact .inl rfl
                | some g => exact .inr fun e => by have := (lO.out g hv).2; have := lC.out g e.symm; have := hs3.out; have := z2.out; omega)
              have q := sameList_any vo _ ([] : List (Int × Int)) ([] : List (Int × Int)) _ ((show OwnS _ _ _ _ from ho9).segs (by omega) HR.out) (HS.out.at hk9)
              simp only [decide_true] at q
              have HK9 := Lib.hid hk9
              clear hox hgx hlt hj ho9 hk9
              go_wp2_with fail
              refine q.mono ?_
              clear q
              rintro e wf ⟨rfl, hb⟩
              have hkf := HK9.out.trans (hb.mono HK9.out.size)
              clear hb
              go_wp2_with fail
              go_ret
              exact ⟨rfl, hkf⟩
  · have hnews : ∀ j u, (flatS l)[j]? = some u → w.cell? ((⟨b, off, none⟩ : Addr).add j) = some u := by
      intro j u hj
      have hj2 : j < l.length * 2 := by
        have := (List.getElem?_eq_some_iff.1 hj).1
        rwa [flatS_length] at this
      have hc' := hc (j / 2) (by omega)
      have hf := flatS_getI0 l (j / 2) (by omega)
      rcases (by omega : j = j / 2 * 2 ∨ j = j / 2 * 2 + 1) with e | e
      · rw [e] at hj ⊢
        rw [hf.1] at hj
        rw [← hj, ← hc'.1, Addr.add]
        split
        · rename_i h0; rw [h0]; rfl
        · rfl
      · rw [e] at hj ⊢
        rw [hf.2] at hj
        rw [← hj, ← hc'.2, Addr.add]
        split
        · rename_i h0; omega
        · rw [Nat.add_assoc]
    have hone : ∀ u ∈ flatS l, u.oneCell' = true := by
      intro u hu
      simp only [flatS, List.mem_flatMap] at hu
      obtain ⟨s, _, hu⟩ := hu
      simp at hu
      rcases hu with rfl | rfl <;> rfl
    have HN := Lib.hid hnews
    have HO1 := Lib.hid hone
    clear hc hnews hone
    go_enter Try.func4, Try.ntmps4
    go_wp2_with (at_builtin; refine wpList_append_own_at _ rfl _ _ 29 rfl w.heap.size 39 i0 _ 2 16 Try.underlying29 hi hz0 hz1 hz2 rfl (by decide) (.slice none 0 0) 0 [] rfl (World.ownsRow_nil _ _ _ _) ⟨b, off, none⟩ l.length cap (flatS l) rfl (flatS_length l) HN.out HO1.out (by simp only [maxLen]; omega) (by omega) (Nat.le_refl _) ?_; intro vo w1 hown' hgrow hnil hat; have ho : OwnS w1 w.heap.size vo l := (by simpa [OwnS] using hown'); have hb1 : Below w.heap.size w w1 := (Below.refl _ _).grown hgrow (Nat.le_refl _) (fun j hj => by cases hj); clear hown' hgrow hnil hat)
    have HBo : Hid (Below w.heap.size w w1) := hb1
    obtain ⟨c, A, C, d, hTu⟩ := HT.out vo
    have HTu := Lib.hid hTu
    have HOo := Lib.hid ho
    clear hTu hb1 ho
    have q := HTu.out.merge1 w1 HOo.out
    go_wp2_with fail
    refine q.mono ?_
    clear q
    rintro e w2 ⟨⟨va, rfl, hoa⟩, hb⟩
    have hk2 : Hid (Below w.heap.size w w2) := HBo.out.trans (hb.mono HBo.out.size)
    have ho2 : Hid (OwnS w2 w.heap.size vo l) := HOo.out.below hb
    have hA2 : Hid (OwnS w2 w1.heap.size va A) := hoa
    have z12 : Hid (w1.heap.size ≤ w2.heap.size) := hb.size
    clear hb hoa
    have q := HTu.out.merge2 w2 hk2.out
    go_wp2_with fail
    refine q.mono ?_
    clear q
    rintro e w3 ⟨⟨vb, rfl, hob⟩, hb⟩
    have hk3 : Hid (Below w.heap.size w w3) := hk2.out.trans (hb.mono hk2.out.size)
    have ho3 : Hid (OwnS w3 w.heap.size vo l) := ho2.out.below hb
    have hA3 : Hid (OwnS w3 w1.heap.size va A) := hA2.out.below hb
    have hB3 : Hid (OwnS w3 w2.heap.size vb A) := hob
    have hs3 : Hid (w2.heap.size ≤ w3.heap.size) := hb.size
    clear hb hob
    have q := HTu.out.cut1 w3 ho3.out
    go_wp2_with fail
    refine q.mono ?_
    clear q
    rintro e w4 ⟨⟨vc, rfl, hoc⟩, hb⟩
    have hk4 : Hid (Below w.heap.size w w4) := hk3.out.trans (hb.mono hk3.out.size)
    have ho4 : Hid (OwnS w4 w.heap.size vo l) := ho3.out.below hb
    have hA4 : Hid (OwnS w4 w1.heap.size va A) := hA3.out.below hb
    have hB4 : Hid (OwnS w4 w2.heap.size vb A) := hB3.out.below hb
    have hC4 : Hid (OwnS w4 w3.heap.size vc C) := hoc
    clear hb hoc
    have q := HTu.out.cut2 w4 hk4.out
    go_wp2_with fail
    refine q.mono ?_
    clear q
    rintro e w5 ⟨⟨vd, rfl, hod⟩, hb⟩
    have hk5 : Hid (Below w.heap.size w w5) := hk4.out.trans (hb.mono hk4.out.size)
    have ho5 : Hid (OwnS w5 w.heap.size vo l) := ho4.out.below hb
    have hA5 : Hid (OwnS w5 w1.heap.size va A) := hA4.out.below hb
    have hB5 : Hid (OwnS w5 w2.heap.size vb A) := hB4.out.below hb
    have hC5 : Hid (OwnS w5 w3.heap.size vc C) := hC4.out.below hb
    have hD5 : Hid (OwnS w5 w4.heap.size vd C) := hod
    clear hb hod
    have q := sameList_any va vb A A w5 (hA5.out.segs (by have := HTu.out.hA.2; omega) HTu.out.hA.1) (hB5.out.segs (by have := HTu.out.hA.2; omega) HTu.out.hA.1)
    simp only [decide_true] at q
    go_wp2_with fail
    refine q.mono ?_
    clear q
    rintro e w6 ⟨rfl, hb⟩
    have hk6 : Hid (Below w.heap.size w w6) := hk5.out.trans (hb.mono hk5.out.size)
    have ho6 : Hid (OwnS w6 w.heap.size vo l) := ho5.out.below hb
    have hA6 : Hid (OwnS w6 w1.heap.size va A) := hA5.out.below hb
    have hC6 : Hid (OwnS w6 w3.heap.size vc C) := hC5.out.below hb
    have hD6 : Hid (OwnS w6 w4.heap.size vd C) := hD5.out.below hb
    clear hb
    have q := sameList_any vc vd C C w6 (hC6.out.segs (by have := HTu.out.hC.2; omega) HTu.out.hC.1) (hD6.out.segs (by have := HTu.out.hC.2; omega) HTu.out.hC.1)
    simp only [decide_true] at q
    go_wp2_with fail
    refine q.mono ?_
    clear q
    rintro e w7 ⟨rfl, hb⟩
    have hk7 : Hid (Below w.heap.size w w7) := hk6.out.trans (hb.mono hk6.out.size)
    have ho7 : Hid (OwnS w7 w.heap.size vo l) := ho6.out.below hb
    have hA7 : Hid (OwnS w7 w1.heap.size va A) := hA6.out.below hb
    have hC7 : Hid (OwnS w7 w3.heap.size vc C) := hC6.out.below hb
    clear hb
    have lO : Hid (∀ g, vo.ownBlock = some g → w.heap.size ≤ g ∧ g < w1.heap.size) := fun g hg => World.ownsRow.lt HOo.out g hg
    have lA : Hid (∀ g, va.ownBlock = some g → w1.heap.size ≤ g ∧ g < w2.heap.size) := fun g hg => World.ownsRow.lt hA2.out g hg
    have lC : Hid (∀ g, vc.ownBlock = some g → w3.heap.size ≤ g) := fun g hg => (World.ownsRow.lt hC4.out g hg).1
    have z1 : Hid (w.heap.size ≤ w1.heap.size) := HBo.out.size
    have z2 : Hid (w1.heap.size ≤ w2.heap.size) := z12.out
    clear ho2 ho3 ho4 ho5 ho6 hA2 hA3 hA4 hA5 hA6 hB3 hB4 hB5 hC4 hC5 hC6 hD5 hD6 hk2 hk3 hk4 hk5 hk6
    obtain ⟨aa, ca, hva⟩ : ∃ aa ca, va = .slice aa A.length ca := OwnS.shape hA7.out
    obtain ⟨ac, cc, hvc⟩ : ∃ ac cc, vc = .slice ac C.length cc := OwnS.shape hC7.out
    have hAl := HTu.out.hA.2
    have hCl := HTu.out.hC.2
    subst hva hvc
    go_wp2_with fail
    go_loopw [16] (fun i wr => ∃ (j : Nat) (xs : List Value), j ≤ A.length ∧ i = .int .i64 j ∧ wr.ownsRow w1.heap.size 39 2 (.slice aa A.length ca) A.length xs ∧ w7.grownBy wr (Value.slice aa A.length ca).ownBlock) (fun i _ => A.length - (intOf i).toNat)
    case atStart => exact ⟨0, _, Nat.zero_le _, rfl, hA7.out, ⟨rfl, rfl, rfl, Nat.le_refl _, fun _ _ _ => rfl⟩⟩
    case round =>
      obtain ⟨j, xs, hj, rfl, hox, hgx⟩ := hrel
      by_cases hlt : j < A.length
      · obtain ⟨g, cap', hv⟩ := ownsRow_any hox (by omega)
        injection hv with h1 _ h3
        subst h1
        have hxl : xs.length = A.length * 2 := hox.1
        have c0 : wr.cell? ⟨g, j * 2, none⟩ = some xs[j * 2] := by rw [hox.cellAt _ (by omega), List.getElem?_eq_getElem (by omega)]
        have f0 := hox.frozenAt (j * 2)
        have st := hox.stored (j * 2) (.int .i64 7)
        have HST := Lib.hid st
        have HGX := Lib.hid hgx
        clear st hox hgx h3
        obtain ⟨x0, hx0⟩ : ∃ x0, xs[j * 2] = x0 := ⟨_, rfl⟩
        rw [hx0] at c0
        clear hx0
        go_wp2_with fail
        refine ⟨⟨j + 1, _, by omega, by push_cast; rfl, HST.out.1, ?_⟩, by simp [intOf]; omega⟩
        exact HGX.out.trans HST.out.2
      · have hje : j = A.length := by omega
        subst hje
        have HGX := Lib.hid hgx
        have hk8 : Hid (Below w.heap.size w wr) := hk7.out.grown HGX.out (by have := hk7.out.size; omega) (fun g hg => by have := (lA.out g hg).1; have := z1.out; omega)
        have ho8 : Hid (OwnS wr w.heap.size vo l) := World.ownsRow.kept ho7.out HGX.out (by
          cases hv : vo.ownBlock with
          | none => exact .inl rfl
          | some g => exact .inr fun e => by have := (lO.out g hv).2; have := (lA.out g e.symm).1; omega)
        have hC8 : Hid (OwnS wr w3.heap.size (.slice ac C.length cc) C) := World.ownsRow.kept hC7.out HGX.out (by
          cases hv : (Value.slice ac C.length cc).ownBlock with
          | none => exact .inl rfl
          | some g => exact .inr fun e => by have := lC.out g hv; have := (lA.out g e.symm).2; have := hs3.out; omega)
        clear hox hgx hlt hj
        go_wp2_with fail
        go_loopw [17] (fun i ws => ∃ (j : Nat) (xs : List Value), j ≤ C.length ∧ i = .int .i64 j ∧ ws.ownsRow w3.heap.size 39 2 (.slice ac C.length cc) C.length xs ∧ wr.grownBy ws (Value.slice ac C.length cc).ownBlock) (fun i _ => C.length - (intOf i).toNat)
        case atStart => exact ⟨0, _, Nat.zero_le _, rfl, hC8.out, ⟨rfl, rfl, rfl, Nat.le_refl _, fun _ _ _ => rfl⟩⟩
        case round =>
          obtain ⟨j, xs, hj, rfl, hox, hgx⟩ := hrel
          by_cases hlt : j < C.length
          · obtain ⟨g, cap', hv⟩ := ownsRow_any hox (by omega)
            injection hv with h1 _ h3
            subst h1
            have hxl : xs.length = C.length * 2 := hox.1
            have c0 := hox.cellAt (j * 2) (by omega)
            rw [List.getElem?_eq_getElem (by omega)] at c0
            have f0 := hox.frozenAt (j * 2)
            have st := hox.stored (j * 2) (.int .i64 7)
            have HST := Lib.hid st
            have HGY := Lib.hid hgx
            clear st hox hgx h3
            obtain ⟨x0, hx0⟩ : ∃ x0, xs[j * 2] = x0 := ⟨_, rfl⟩
            rw [hx0] at c0
            clear hx0
            go_wp2_with fail
            refine ⟨⟨j + 1, _, by omega, by push_cast; rfl, HST.out.1, ?_⟩, by simp [intOf]; omega⟩
            exact HGY.out.trans HST.out.2
          · have hje : j = C.length := by omega
            subst hje
            have HGY := Lib.hid hgx
            have hk9 := Below.grown hk8.out HGY.out (by have := hk8.out.size; omega) (fun g hg => by have := lC.out g hg; have := hs3.out; have := (hk8.out.size); have := z1.out; have := z2.out; omega)
            have ho9 := World.ownsRow.kept ho8.out HGY.out (by
              cases hv : vo.ownBlock with
              | none => exact .inl rfl
              | some g => exact .inr fun e => by have := (lO.out g hv).2; have := lC.out g e.symm; have := hs3.out; have := z2.out; omega)
            have q := sameList_any vo _ l l _ ((show OwnS _ _ _ _ from ho9).segs (by omega) HR.out) (HS.out.at hk9)
            simp only [decide_true] at q
            have HK9 := Lib.hid hk9
            clear hox hgx hlt hj ho9 hk9
            go_wp2_with fail
            refine q.mono ?_
            clear q
            rintro e wf ⟨rfl, hb⟩
            have hkf := HK9.out.trans (hb.mono HK9.out.size)
            clear hb
            go_wp2_with fail
            go_ret
            exact ⟨rfl, hkf⟩
end Go.Proofs.Ytnpaoekblfflmaa
