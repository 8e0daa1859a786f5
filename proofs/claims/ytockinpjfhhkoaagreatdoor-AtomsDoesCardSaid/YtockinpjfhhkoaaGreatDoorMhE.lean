/- Layer 16 walked: how much a formula, and an expression, is (the book's sizes); the greatest number. -/
import Derived.Test.YtockinpjfhhkoaaGreatDoorMgB
import Derived.Test.YtockinpjfhhkoaaGreatDoorTreeB
import Derived.Deep.AppendSrc
import Derived.Deep.AppendLies
import Derived.Test.YtockinpjfhhkoaaGreatDoorMgC
namespace Go.Proofs.YtockinpjfhhkoaaGreatDoor
open Go.RowKit

theorem szL_end {α : Type} (f : α → Int → Int) (most n : Int) (l : List α) : szL f most (l.drop l.length) n = n := by rw [List.drop_length]; rfl

set_option maxRecDepth 100000 in
set_option maxHeartbeats 4000000 in
theorem size49_any (n : Nat) : ∀ (t : FT n) (v : Value) (most : Int) (w : World), FRep w w.heap.size n t v →
    Calls Tryz.prog 39 #[v, .int .i64 most] w fun e w' => e = .returned (.int .i64 (sizeF n t most)) ∧ Below w.heap.size w w' := by
  induction n with
  | zero => intro t v most w h; exact h.elim
  | succ n ih =>
    intro t v most w h
    obtain ⟨k, s, of⟩ := t
    obtain ⟨a, c, rfl, hR⟩ := h
    dsimp only at hR ⊢
    have hm := hR.1
    have HR := Lib.hid hR
    have IH := Lib.hid ih
    have HE : Hid (sizeF (n + 1) (k, s, of) most = szL (sizeF n) most (of.drop 0) (wrap64 (1 + s.size))) := rfl
    have HZ : Hid (Below w.heap.size w (w.alloc (.cells #[.int .u8 k, .string s, .slice a of.length c] 25))) := (Below.refl _ _).alloc (Nat.le_refl _) _
    clear hR ih
    go_enter Tryz.func39, Tryz.ntmps39
    go_wp2_with fail
    go_loopw [5, 6] (fun q i wr => ∃ (j : Nat) (z : Int), j ≤ of.length ∧ i = .int .i64 j ∧ q = .int .i64 z ∧ Hid (sizeF (n + 1) (k, s, of) most = szL (sizeF n) most (of.drop j) z) ∧ Below w.heap.size w wr ∧ w.heap.size < wr.heap.size ∧ wr.cell? ⟨w.heap.size, 2, none⟩ = some (.slice a of.length c)) (fun _ i _ => of.length - (intOf i).toNat)
    case atStart => exact ⟨0, _, Nat.zero_le _, rfl, rfl, HE, HZ.out, by simp, by simp [World.cell?_alloc_at]⟩
    case round =>
      obtain ⟨j, z, hj, rfl, rfl, HT, hbw, hsz, hbox⟩ := hrel
      have HBW := Lib.hid hbw
      by_cases hlt : j < of.length
      · by_cases hq : z ≤ most
        · obtain ⟨b, off, k', s', sa, sl, sc, rfl, hbl, c0, c1, c2, hr⟩ := (FRow.up HR.out hbw (Nat.le_refl _)).at j hlt
          have hz := hbw.size
          have hbl' : b < wr.heap.size := by omega
          have hS := Lib.hid (szL_drop (sizeF n) most of j z hlt hq)
          have HC := Lib.hid (IH.out of[j] _ (wrap64 (most - z)) wr (hr.up (Below.refl _ _) hz))
          clear hr hbw
          go_wp2_with fail
          refine HC.out.mono ?_
          rintro e w3 ⟨rfl, hb4⟩
          have HB4 := Lib.hid (HBW.out.trans (hb4.mono hz))
          have hbox3 := (hb4.cell (p := ⟨w.heap.size, 2, none⟩) hsz).trans hbox
          have hsz3 : w.heap.size < w3.heap.size := by have := hb4.size; omega
          clear hb4
          go_wp2_with fail
          go_roundw
          case rel => exact ⟨j + 1, _, by omega, by go_num, rfl, HT.out.trans hS.out, HB4.out, hsz3, hbox3⟩
          case measure => simp [intOf]; omega
        · have hS := Lib.hid (szL_stop (sizeF n) most (of.drop j) z hq)
          clear hbw
          go_wp2_with fail
          all_goals go_ret
          all_goals exact ⟨ret_i (by rw [HT.out, hS.out]), HBW.out⟩
      · have hje : j = of.length := by omega
        subst hje
        have hS := Lib.hid (szL_end (sizeF n) most z of)
        clear hbw
        go_wp2_with fail
        all_goals go_ret
        all_goals exact ⟨ret_i (by rw [HT.out, hS.out]), HBW.out⟩

set_option maxRecDepth 100000 in
set_option maxHeartbeats 8000000 in
theorem size30_any (m n : Nat) : ∀ (t : XT m n) (v : Value) (most : Int) (w : World), XRep w w.heap.size m n t v →
    Calls Tryz.prog 49 #[v, .int .i64 most] w fun e w' => e = .returned (.int .i64 (sizeX n t most)) ∧ Below w.heap.size w w' := by
  induction n with
  | zero => intro t v most w h; exact h.elim
  | succ n ih =>
    intro t v most w h
    obtain ⟨k, is, of, lo, ls, hi, hs, op⟩ := t
    obtain ⟨a1, c1, a, c, rfl, hR1, hR⟩ := h
    dsimp only at hR hR1 ⊢
    have hm := hR.1
    have hm1 := hR1.1
    have HR := Lib.hid hR
    have HR1 := Lib.hid hR1
    have IH := Lib.hid ih
    have HE : Hid (szL (sizeF m) most is 1 = szL (sizeF m) most (is.drop 0) 1) := rfl
    have HE2 : Hid (sizeX (n + 1) ((k, is, of, ⟨lo, ls, hi, hs, op⟩) : XT m (n + 1)) most = szL (sizeX n) most (of.drop 0) (szL (sizeF m) most is 1)) := rfl
    have HZ : Hid (Below w.heap.size w (w.alloc (.cells #[.int .u8 k, .slice a1 is.length c1, .slice a of.length c, .int .i64 lo, .bool ls, .int .i64 hi, .bool hs, .bool op] 47))) := (Below.refl _ _).alloc (Nat.le_refl _) _
    clear hR hR1 ih
    go_enter Tryz.func49, Tryz.ntmps49
    go_wp2_with fail
    go_loopw [5, 6] (fun q i wr => ∃ (j : Nat) (z : Int), j ≤ is.length ∧ i = .int .i64 j ∧ q = .int .i64 z ∧ Hid (szL (sizeF m) most is 1 = szL (sizeF m) most (is.drop j) z) ∧ Below w.heap.size w wr ∧ w.heap.size < wr.heap.size ∧ wr.cell? ⟨w.heap.size, 1, none⟩ = some (.slice a1 is.length c1) ∧ wr.cell? ⟨w.heap.size, 2, none⟩ = some (.slice a of.length c)) (fun _ i _ => is.length - (intOf i).toNat)
    case atStart => exact ⟨0, _, Nat.zero_le _, rfl, rfl, HE, HZ.out, by simp, by simp [World.cell?_alloc_at], by simp [World.cell?_alloc_at]⟩
    case round =>
      obtain ⟨j, z, hj, rfl, rfl, HT, hbw, hsz, hbox, hbox2⟩ := hrel
      have HBW := Lib.hid hbw
      have HSTOP : Hid (∀ N1 : Int, szL (sizeF m) most is 1 = N1 → sizeX (n + 1) ((k, is, of, ⟨lo, ls, hi, hs, op⟩) : XT m (n + 1)) most = szL (sizeX n) most (of.drop 0) N1) := fun N1 h => by rw [HE2.out, h]
      by_cases hgo : j < is.length ∧ z ≤ most
      · obtain ⟨hlt, hq⟩ := hgo
        obtain ⟨b, off, k', s', sa, sl, sc, rfl, hbl, c0, c1, c2, hr⟩ := (FRow.up HR1.out hbw (Nat.le_refl _)).at j hlt
        have hz := hbw.size
        have hbl' : b < wr.heap.size := by omega
        have hS := Lib.hid (szL_drop (sizeF m) most is j z hlt hq)
        have HC := Lib.hid (size49_any m is[j] _ (wrap64 (most - z)) wr (hr.up (Below.refl _ _) hz))
        clear hr hbw
        go_wp2_with fail
        refine HC.out.mono ?_
        rintro e w3 ⟨rfl, hb4⟩
        have HB4 := Lib.hid (HBW.out.trans (hb4.mono hz))
        have hbox3 := (hb4.cell (p := ⟨w.heap.size, 1, none⟩) hsz).trans hbox
        have hbox4 := (hb4.cell (p := ⟨w.heap.size, 2, none⟩) hsz).trans hbox2
        have hsz3 : w.heap.size < w3.heap.size := by have := hb4.size; omega
        clear hb4
        go_wp2_with fail
        go_roundw
        case rel => exact ⟨j + 1, _, by omega, by go_num, rfl, HT.out.trans hS.out, HB4.out, hsz3, hbox3, hbox4⟩
        case measure => simp [intOf]; omega
      · have hS : Hid (szL (sizeF m) most (is.drop j) z = z) := by
          by_cases hlt : j < is.length
          · exact szL_stop _ _ _ _ (fun hq => hgo ⟨hlt, hq⟩)
          · obtain rfl : j = is.length := by omega
            exact szL_end _ _ _ _
        have HE3 := Lib.hid (HSTOP.out z (HT.out.trans hS.out))
        have hq : ¬ j < is.length ∨ (j < is.length ∧ ¬ z ≤ most) := by omega
        clear HE HE2 HSTOP HT hS hgo
        rcases hq with hq | ⟨hq, hq2⟩
        all_goals
          clear hbw
          go_wp2_with fail
          go_loopw [5, 7] (fun q i wr => ∃ (j : Nat) (z : Int), j ≤ of.length ∧ i = .int .i64 j ∧ q = .int .i64 z ∧ Hid (sizeX (n + 1) ((k, is, of, ⟨lo, ls, hi, hs, op⟩) : XT m (n + 1)) most = szL (sizeX n) most (of.drop j) z) ∧ Below w.heap.size w wr ∧ w.heap.size < wr.heap.size ∧ wr.cell? ⟨w.heap.size, 2, none⟩ = some (.slice a of.length c)) (fun _ i _ => of.length - (intOf i).toNat)
          case atStart => exact ⟨0, _, Nat.zero_le _, rfl, rfl, HE3, HBW.out, hsz, hbox2⟩
          case round =>
            clear hq hj
            try clear hq2
            clear HBW hsz hbox hbox2 HE3
            obtain ⟨j, z, hj, rfl, rfl, HT, hbw, hsz, hbox⟩ := hrel
            have HBW := Lib.hid hbw
            by_cases hlt : j < of.length
            · by_cases hq : z ≤ most
              · obtain ⟨b, off, k', a1', l1', c1', a2', l2', c2', lo', ls', hi', hs', op', rfl, hbl, c0, d1, c2, c3, c4, c5, c6, c7, hr⟩ := (XRow.up HR.out hbw (Nat.le_refl _)).at j hlt
                have hz := hbw.size
                have hbl' : b < wr.heap.size := by omega
                have hS := Lib.hid (szL_drop (sizeX n) most of j z hlt hq)
                have HC := Lib.hid (IH.out of[j] _ (wrap64 (most - z)) _ (hr.up (Below.refl _ _) hz))
                clear hr hbw
                go_wp2_with fail
                refine HC.out.mono ?_
                rintro e w3 ⟨rfl, hb4⟩
                have HB4 := Lib.hid (HBW.out.trans (hb4.mono hz))
                have hbox3 := (hb4.cell (p := ⟨w.heap.size, 2, none⟩) hsz).trans hbox
                have hsz3 : w.heap.size < w3.heap.size := by have := hb4.size; omega
                clear hb4
                go_wp2_with fail
                go_roundw
                case rel => exact ⟨j + 1, _, by omega, by go_num, rfl, HT.out.trans hS.out, HB4.out, hsz3, hbox3⟩
                case measure => simp [intOf]; omega
              · have hS := Lib.hid (szL_stop (sizeX n) most (of.drop j) z hq)
                clear hbw
                go_wp2_with fail
                all_goals go_ret
                all_goals exact ⟨ret_i (by rw [HT.out, hS.out]), HBW.out⟩
            · have hje : j = of.length := by omega
              subst hje
              have hS := Lib.hid (szL_end (sizeX n) most z of)
              clear hbw
              go_wp2_with fail
              all_goals go_ret
              all_goals exact ⟨ret_i (by rw [HT.out, hS.out]), HBW.out⟩

set_option maxRecDepth 100000 in
set_option maxHeartbeats 4000000 in
theorem great11_any (m n : Nat) (t : XT m n) (v : Value) (w : World) (h : XRep w w.heap.size m n t v) :
    Calls Tryz.prog 19 #[v] w fun e w' => e = .returned (.bool (decide (2000 < sizeX n t 2000))) ∧ Below w.heap.size w w' := by
  obtain ⟨k, a1, l1, c1, a, l, c, lo, ls, hi, hs, op, rfl⟩ := h.shape
  have hb : Below w.heap.size w (w.alloc (.cells #[.int .u8 k, .slice a1 l1 c1, .slice a l c, .int .i64 lo, .bool ls, .int .i64 hi, .bool hs, .bool op] 47)) := (Below.refl _ _).alloc (Nat.le_refl _) _
  have HC := Lib.hid (size30_any m n t _ 2000 _ (h.up hb hb.size))
  have HB := Lib.hid hb
  clear h hb
  go_enter Tryz.func19, Tryz.ntmps19
  go_wp2_with fail
  refine HC.out.mono ?_
  rintro e w1 ⟨rfl, hb1⟩
  have HB1 := Lib.hid (HB.out.trans (hb1.mono HB.out.size))
  clear hb1
  go_wp2_with fail
  all_goals go_ret
  all_goals exact ⟨rfl, HB1.out⟩
end Go.Proofs.YtockinpjfhhkoaaGreatDoor

/- Layer 16 walked: names that are great (the book's sizes); the greatest number of an expression. -/
namespace Go.Proofs.YtockinpjfhhkoaaGreatDoor
open Go.RowKit

set_option maxRecDepth 100000 in
set_option maxHeartbeats 4000000 in
theorem greatNames12_any (l : List ByteArray) (v : Value) (w : World) (hn : NRep w w.heap.size v l) :
    Calls Tryz.prog 13 #[v] w fun e w' => e = .returned (.bool (greatN l)) ∧ w' = w := by
  obtain ⟨a, c, rfl, hm, hn⟩ := hn
  have HD := Lib.hid (gnGo_drop l)
  have HS := Lib.hid gnGo_stop
  have HE := Lib.hid (gnGo_end l)
  have HF : Hid (∀ z, gnGo (l.drop 0) 0 = z → greatN l = decide (5000 < z)) := fun z h => by unfold greatN; rw [← h]; rfl
  go_enter Tryz.func13, Tryz.ntmps13
  go_wp2_with fail
  go_loopw [3, 4] (fun q i wr => ∃ (j : Nat) (z : Int), j ≤ l.length ∧ i = .int .i64 j ∧ q = .int .i64 z ∧ Hid (gnGo (l.drop 0) 0 = gnGo (l.drop j) z) ∧ wr = w) (fun _ i _ => l.length - (intOf i).toNat)
  case atStart => exact ⟨0, 0, Nat.zero_le _, rfl, rfl, rfl, rfl⟩
  case round =>
    obtain ⟨j, z, hj, rfl, rfl, HT, rfl⟩ := hrel
    by_cases hlt : j < l.length
    · by_cases hq : z < 10000
      · rcases hn with hn | ⟨b, off, rfl, hb, hc⟩
        · rw [hn] at hlt; exact absurd hlt (by simp)
        · have c0 := hc j hlt
          have HC := Lib.hid hc
          have HSS := Lib.hid (HD.out j z hlt hq)
          clear hc
          go_wp2_with fail
          go_roundw
          case rel => exact ⟨j + 1, _, by omega, by go_num, rfl, HT.out.trans HSS.out, trivial⟩
          case measure => simp [intOf]; omega
      · have HSS := Lib.hid (HF.out z (HT.out.trans (HS.out (l.drop j) z (by omega))))
        clear hn
        go_wp2_with fail
        all_goals go_ret
        all_goals exact ⟨ret_bool' HSS.out.symm, rfl⟩
    · have hje : j = l.length := by omega
      subst hje
      have HSS := Lib.hid (HF.out z (HT.out.trans (HE.out z)))
      clear hn
      go_wp2_with fail
      all_goals go_ret
      all_goals exact ⟨ret_bool' HSS.out.symm, rfl⟩

theorem max_if (x y : Int) : (if y > x then y else x) = max x y := by
  rw [Int.max_def]
  split <;> split <;> omega
@[local go_sem high] theorem run_max_two {P : Program} (w : World) (ts : Array TypeId) (t : TypeId) (k k' : IntKind) (x y : Int) :
    (Builtin.max_ ts t #[.int k x, .int k' y]).run P w = .ok (.int k (max x y)) w := by
  simp [Builtin.max_, Builtin.max2, max_if]
@[local go_sem high] theorem run_max_three {P : Program} (w : World) (ts : Array TypeId) (t : TypeId) (k k' k'' : IntKind) (x y z : Int) :
    (Builtin.max_ ts t #[.int k x, .int k' y, .int k'' z]).run P w = .ok (.int k (max (max x y) z)) w := by
  simp [Builtin.max_, Builtin.max2, max_if]

def maxC {α : Type} (f : α → Int) (a : Int) (l : List α) : Int := l.foldl (fun a y => max a (f y)) a
theorem maxC_succ {α : Type} (f : α → Int) (a : Int) (l : List α) (k : Nat) (h : k < l.length) : maxC f a (l.take (k + 1)) = max (maxC f a (l.take k)) (f l[k]) := by
  unfold maxC
  rw [List.take_succ_eq_append_getElem h, List.foldl_append]
  rfl
theorem maxC_all {α : Type} (f : α → Int) (a : Int) (l : List α) : maxC f a (l.take l.length) = maxC f a l := by rw [List.take_length]

end Go.Proofs.YtockinpjfhhkoaaGreatDoor

/- One more name ahead of names: what append makes of them. -/
namespace Go.Proofs.YtockinpjfhhkoaaGreatDoor
open Go.RowKit

theorem gnGo_len : ∀ (l : List ByteArray) (n : Int), (∀ s ∈ l, s.size ≤ 281474976710656) → 0 ≤ n → n ≤ 300000000000000 → gnGo l n ≤ 5000 → n + l.length ≤ 5000
  | [], n, _, _, _, h => by simp [gnGo] at h ⊢; omega
  | x :: r, n, H, h0, h1, h => by
    rw [gnGo] at h
    split at h
    · rename_i hn
      have hx := H x (by simp)
      have hw : wrap64 (wrap64 (n + 1) + x.size) = n + 1 + x.size := by unfold wrap64; omega
      rw [hw] at h
      have := gnGo_len r (n + 1 + x.size) (fun s hs => H s (by simp [hs])) (by omega) (by omega) h
      simp only [List.length_cons]; omega
    · omega
theorem greatN_len {l : List ByteArray} (h : greatN l = false) (H : ∀ s ∈ l, s.size ≤ 281474976710656) : l.length ≤ 5000 := by
  have h1 : gnGo l 0 ≤ 5000 := by unfold greatN at h; simpa using h
  have := gnGo_len l 0 H (by omega) (by omega) h1
  omega

theorem info9 : (Tryz.prog.info? 9).map (fun i => (i.zero, i.size, i.bytes)) = some (some (.string ⟨#[]⟩), 1, 16) := by kernel_rfl

/-- An append whose run is known. -/
theorem wpList_append_ex {P : Program} {w : World} {ops : Array Oper} {rest : List Oper} {o : Oper} {a : Act} {Q : Exit → Act → World → Prop} (hgd : o.guard = none) (s x : Operand) (t : TypeId)
    (ho : o.op = .call { callee := .builtin .append, args := #[s, x], argTypes := #[t, t] }) (v xv : Value) (hs : a.eval s = v) (hx : a.eval x = xv) (R : Value → World → Prop)
    (hrun : ∃ v' w', (Builtin.append_ #[t, t] o.type #[v, xv]).run P w = .ok v' w' ∧ R v' w')
    (h : ∀ v' w', R v' w' → wpList P ops Q rest (a.put o.dst v') w') : wpList P ops Q (o :: rest) a w := by
  refine wpList_plain hgd fun K hK => ?_
  obtain ⟨v', w', hr, h2⟩ := hrun
  unfold Oper.wp execOp
  simp only [ho, resolve, invoke, builtin, Sem.run_bind, Sem.run_pure, Result.andThen_ok, List.map_toArray, List.map_cons, List.map_nil, hs, hx, hr]
  exact hK _ _ (h v' w' h2)

set_option maxRecDepth 100000 in
theorem run_more (w : World) (nv : Value) (l : List ByteArray) (g : Nat) (s : ByteArray) (hl : NRep w w.heap.size nv l) (hlen : l.length ≤ 5000) (hb : w.heap[g]? = some (.cells #[.string s] 9 (0, 0))) :
    ∃ v' w', (Builtin.append_ #[22, 22] 22 #[.slice (some ⟨g, 0, none⟩) 1 1, nv]).run Tryz.prog w = .ok v' w' ∧ (∃ a' c', v' = .slice (some a') (s :: l).length c') ∧ NRep w' w'.heap.size v' (s :: l) ∧ Below w.heap.size w w' := by
  obtain ⟨a, cap, rfl, hm, hc⟩ := hl
  obtain ⟨i0, hi, hz0, hz1, hz2⟩ := info_parts info9
  have hgl := (Array.getElem?_eq_some_iff.1 hb).1
  by_cases h0 : l = []
  · subst h0
    have hs : Src Tryz.prog i0.size 22 (.slice a 0 cap) 0 [] w := by
      cases a with
      | none => exact Src.ofNil w Tryz.underlying22 cap
      | some a => exact Src.ofSlice w Tryz.underlying22 a 0 cap [] (by simp) (by simp) (by simp)
    have hr := run_append_room_src (P := Tryz.prog) w 22 22 22 9 i0 Tryz.underlying22 hi g 0 1 1 _ 0 [] hs (by omega) (by simp) (by simp)
    refine ⟨_, _, hr, ⟨_, _, rfl⟩, ⟨_, 1, rfl, by simp, .inr ⟨g, 0, rfl, hgl, fun i hi => ?_⟩⟩, Below.refl _ _⟩
    obtain rfl : i = 0 := by simpa using hi
    exact Lib.cell_of_heap hb 0
  · rcases hc with hc | ⟨b, off, rfl, hbl, hc⟩
    · exact absurd hc h0
    · have hpos : 0 < l.length := List.length_pos_iff.2 h0
      have hs : Src Tryz.prog i0.size 22 (.slice (some ⟨b, off, none⟩) l.length cap) l.length (l.map .string) w := by
        refine Src.ofSlice w Tryz.underlying22 _ _ _ _ (by simp [hz1]) ?_ ?_
        · intro j u hj
          rw [List.getElem?_map] at hj
          cases hq : l[j]? with
          | none => rw [hq] at hj; simp at hj
          | some y =>
            rw [hq] at hj
            obtain ⟨hlt, rfl⟩ := List.getElem?_eq_some_iff.1 hq
            obtain rfl : Value.string l[j] = u := by simpa using hj
            rw [Addr.add_lit]
            exact hc j hlt
        · intro u hu
          obtain ⟨y, _, rfl⟩ := List.mem_map.1 hu
          rfl
      have hold : (Builtin.firstCells i0.size 1 (.slice (some ⟨g, 0, none⟩) 1 1)).run Tryz.prog w.drew = .ok ([Value.string s]).toArray w.drew := by
        refine run_firstCells_some _ _ _ _ _ _ _ (by simp [hz1]) ?_
        intro j u hj
        obtain rfl : j = 0 := by
          have := (List.getElem?_eq_some_iff.1 hj).1
          simpa using this
        obtain rfl : Value.string s = u := by simpa using hj
        rw [Addr.add_lit]
        exact Lib.cell_of_heap (w := w) hb 0
      have hr := run_append_grow_src (P := Tryz.prog) w 22 22 22 9 i0 _ Tryz.underlying22 hi hz0 (some ⟨g, 0, none⟩) 1 1 [.string s] hold _ l.length _ hs (by omega) (by omega)
        (growslice_fits (by omega) (by rw [hz2]; omega))
      refine ⟨_, _, hr, ⟨_, _, by rw [List.length_cons, Nat.add_comm]⟩, ⟨_, _, by rw [List.length_cons, Nat.add_comm], by simp; omega, .inr ⟨w.heap.size, 0, rfl, by simp, fun i hi => ?_⟩⟩, (Below.refl _ w).drew.alloc (Nat.le_refl _) _⟩
      have hh := heap_alloc_new w.drew (.cells ((([Value.string s] ++ l.map Value.string).toArray) ++ Builtin.zeroCells (Value.string ⟨#[]⟩).cells (grownCap w (1 + l.length) 1 9 - (1 + l.length))) 9)
      have := Lib.cell_of_heap hh (0 + i)
      refine this.trans ?_
      have hi' : i < ([Value.string s] ++ l.map Value.string).length := by simpa using hi
      rw [Nat.zero_add, Array.getElem?_append_left (by simpa using hi')]
      rw [List.getElem?_toArray, List.getElem?_eq_getElem hi']
      congr 1
      cases i <;> simp
end Go.Proofs.YtockinpjfhhkoaaGreatDoor
