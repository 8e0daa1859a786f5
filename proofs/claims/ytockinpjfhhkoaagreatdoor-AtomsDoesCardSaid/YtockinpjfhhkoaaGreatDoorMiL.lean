/- dbm.Top walked; slices.Equal on bounds, Same. -/
import Derived.Deep.Cut
import Derived.LoopTactic
import Derived.LoopIn
import Derived.Maps.OwnIn
import Derived.Deep.QuietTactic
import Derived.Test.YtockinpjfhhkoaaGreatDoorMiK
import Derived.Test.YtockinpjfhhkoaaGreatDoorMhC
namespace Go.Proofs.YtockinpjfhhkoaaGreatDoor
open Go.RowKit Go.Shelf
attribute [local go_sem ↓] Go.wp_at_zero Go.wp_at_succ

set_option maxRecDepth 100000 in
set_option maxHeartbeats 4000000 in
theorem equal124_any (g g' c c' : Nat) (L M : List Int) (w : World) (h : RowB w g L) (h' : RowB w g' M) (hlb : L.length ≤ 100) (hlm : M.length ≤ 100) :
    Calls Tryz.prog 124 #[.slice (some ⟨g, 0, none⟩) L.length c, .slice (some ⟨g', 0, none⟩) M.length c'] w fun e w' => e = .returned (.bool (decide (L = M))) ∧ Below w.heap.size w w' := by
  by_cases hlen : L.length = M.length
  · have hl0 : ((L.length : Int) == (M.length : Int)) = true := by simp [hlen]
    have hl1 : ((L.length : Int) != (M.length : Int)) = false := by simp [hlen]
    have H := Lib.hid h
    have H' := Lib.hid h'
    have HLEN := Lib.hid hlen
    have hgl := h.lt
    have hgl' := h'.lt
    clear h h' hlen
    go_enter Tryz.func124, Tryz.ntmps124
    go_wp2_with fail
    go_loopw [13] (fun i wr => ∃ k : Nat, k ≤ L.length ∧ i = .int .i64 k ∧ Hid (L.take k = M.take k) ∧ Hid (Below w.heap.size w wr)) (fun i _ => L.length - (intOf i).toNat)
    case atStart => exact ⟨0, Nat.zero_le _, rfl, rfl, Below.refl _ _⟩
    case round =>
      obtain ⟨k, hk, rfl, HT, HB⟩ := hrel
      have hz := HB.out.size
      by_cases hlt : k < L.length
      · have hlt' : k < M.length := by have := HLEN.out; omega
        have c1 := (H.out.below HB.out).cell k hlt
        have c2 := (H'.out.below HB.out).cell k hlt'
        obtain ⟨x, hx⟩ : ∃ x, L[k] = x := ⟨_, rfl⟩
        obtain ⟨y, hy⟩ : ∃ y, M[k] = y := ⟨_, rfl⟩
        rw [hx] at c1
        rw [hy] at c2
        have hlti : (k : Int) < (M.length : Int) := by omega
        have hg1 : g < wr.heap.size := by omega
        have hg2 : g' < wr.heap.size := by omega
        by_cases he : x = y
        · have HE : Hid (L.take (k + 1) = M.take (k + 1)) := by rw [Hid, List.take_succ_eq_append_getElem hlt, List.take_succ_eq_append_getElem hlt', HT.out, hx, hy, he]
          have q1 : (x == y) = true := by simpa using he
          have q2 : (x != y) = false := by simpa using he
          clear hx hy he HT
          go_wp2_with fail
          go_quiet (fail)
          go_wp2_with fail
          refine ⟨⟨k + 1, by omega, by push_cast; rfl, HE, below_drewN HB.out _⟩, ?_⟩
          simp [intOf]; omega
        · have HE : Hid (decide (L = M) = false) := by
            refine decide_eq_false fun h => ?_
            subst h
            exact he (hx.symm.trans hy)
          have q1 : (x == y) = false := by simpa using he
          have q2 : (x != y) = true := by simpa using he
          clear hx hy he HT
          go_wp2_with fail
          go_quiet (fail)
          go_wp2_with fail
          go_ret
          exact ⟨by rw [HE.out]; rfl, below_drewN HB.out _⟩
      · have HE : Hid (decide (L = M) = true) := by
          have h3 := HT.out
          have h4 := HLEN.out
          obtain rfl : k = L.length := by omega
          rw [List.take_length, h4, List.take_length] at h3
          exact decide_eq_true h3
        have hlt2 : decide ((k : Int) < (M.length : Int)) = false := by have := HLEN.out; simp; omega
        clear HT
        go_wp2_with fail
        go_ret
        exact ⟨by rw [HE.out]; rfl, HB.out⟩
  · have hl0 : ((L.length : Int) == (M.length : Int)) = false := by simp; omega
    have hl1 : ((L.length : Int) != (M.length : Int)) = true := by simp; omega
    have HE : Hid (decide (L = M) = false) := decide_eq_false fun h => hlen (by rw [h])
    clear h h' hlen
    go_enter Tryz.func124, Tryz.ntmps124
    go_wp2_with fail
    go_ret
    exact ⟨by rw [HE.out]; rfl, Below.refl _ _⟩
set_option maxRecDepth 100000 in
set_option maxHeartbeats 4000000 in
theorem same63_any {n m g g' c c' : Nat} {L M : List Int} {w : World} (h : RowB w g L) (h' : RowB w g' M) (hlb : L.length ≤ 100) (hlm : M.length ≤ 100) :
    Calls Tryz.prog 63 #[.agg #[.int .i64 n, .slice (some ⟨g, 0, none⟩) L.length c], .agg #[.int .i64 m, .slice (some ⟨g', 0, none⟩) M.length c']] w fun e w' => e = .returned (.bool (decide (n = m) && decide (L = M))) ∧ Below w.heap.size w w' := by
  obtain ⟨W2, hW2⟩ : ∃ W2, W2 = (w.alloc (.cells #[.int .i64 n, .slice (some ⟨g, 0, none⟩) L.length c] 116)).alloc (.cells #[.int .i64 m, .slice (some ⟨g', 0, none⟩) M.length c'] 116) := ⟨_, rfl⟩
  have hb2 : Below w.heap.size w W2 := by rw [hW2]; exact (belowA _ _).alloc (by simp) _
  have HEQ := Lib.hid (equal124_any g g' c c' L M W2 (h.below hb2) (h'.below hb2) hlb hlm)
  have HB := Lib.hid hb2
  have HW2 := Lib.hid hW2.symm
  clear h h' hlb hlm hb2 hW2
  by_cases hnm : n = m
  · have q1 : ((n : Int) == (m : Int)) = true := by rw [hnm]; simp
    have HD : Hid ((decide (n = m) && decide (L = M)) = decide (L = M)) := by rw [Hid, decide_eq_true hnm]; rfl
    rw [HD.out]
    clear hnm
    go_enter Tryz.func63, Tryz.ntmps63
    go_wp2_with fail
    rw [HW2.out]
    refine HEQ.out.mono ?_
    rintro e w1 ⟨rfl, hb1⟩
    go_wp2_with fail
    all_goals go_ret
    all_goals exact ⟨rfl, HB.out.trans (hb1.mono HB.out.size)⟩
  · have q1 : ((n : Int) == (m : Int)) = false := by simp; omega
    have HD : Hid ((decide (n = m) && decide (L = M)) = false) := by rw [Hid, decide_eq_false hnm]; rfl
    rw [HD.out]
    clear hnm
    go_enter Tryz.func63, Tryz.ntmps63
    go_wp2_with fail
    all_goals go_ret
    all_goals exact ⟨rfl, by rw [HW2.out]; exact HB.out⟩
end Go.Proofs.YtockinpjfhhkoaaGreatDoor

/- dbm.Top walked. -/
namespace Go.Proofs.YtockinpjfhhkoaaGreatDoor
open Go.RowKit Go.Shelf
attribute [local go_sem] Oper.semAt_some

theorem newOne (w : World) (x : Value) (t : TypeId) : ∀ j u, ([x] : List Value)[j]? = some u → (w.alloc (.cells #[x] t)).cell? (Addr.add ⟨w.heap.size, 0, none⟩ j) = some u := by
  intro j u hj
  have h : (w.alloc (.cells #[x] t)).heap[w.heap.size]? = some (.cells #[x] t (0, 0)) := hp_topA rfl
  rw [Addr.add_lit, Nat.zero_add, Lib.cell_of_heap h]
  simpa using hj
def vInt (L : List Int) : List Value := L.map fun x => .int .i64 x
theorem vInt_one (L : List Int) (x : Int) : vInt (L ++ [x]) = vInt L ++ [.int .i64 x] := by simp [vInt]
theorem own_rowB {w : World} {B n : Nat} {v : Value} {L : List Int} (h : w.ownsRow B 67 1 v n (vInt L)) (hn : 0 < n) (hl : L.length = n) : ∃ g c, v = .slice (some ⟨g, 0, none⟩) n c ∧ B ≤ g ∧ RowB w g L := by
  rcases h.2 with ⟨_, h0⟩ | ⟨g, cap, cur, rfl, hB, hg, hn1, hn2, hn3, hn4⟩
  · omega
  · refine ⟨g, cap, rfl, hB, cur, hg, fun i hi => ?_⟩
    have h1 : (vInt L)[i]? = some (.int .i64 L[i]) := by simp [vInt, hi]
    rw [← hn4, List.getElem?_take, if_pos (by omega), Array.getElem?_toList] at h1
    exact h1

/-- The matrix under way: its block, and its row of so many. -/
def TopI (w0 : World) (B tb n : Nat) (M : List Int) (W : World) : Prop := Bt tb w0 W ∧ ∃ v, W.heap[tb]? = some (.cells #[.int .i64 n, v] 116 (0, 0)) ∧ W.ownsRow B 67 1 v M.length (vInt M) ∧ v.ownBlock ≠ some tb

theorem own_agree {w w' : World} {B n : Nat} {v : Value} {xs : List Value} (h : w.ownsRow B 67 1 v n xs) (he : ∀ g, v.ownBlock = some g → w'.heap[g]? = w.heap[g]?) : w'.ownsRow B 67 1 v n xs := by
  rcases h.2 with h0 | ⟨g, cap, cur, rfl, hB, hg, h3⟩
  · exact ⟨h.1, .inl h0⟩
  · exact ⟨h.1, .inr ⟨g, cap, cur, rfl, hB, (he g rfl).trans hg, h3⟩⟩
theorem own_form {w : World} {B n : Nat} {v : Value} {xs : List Value} (h : w.ownsRow B 67 1 v (n + 1) xs) : ∃ g c, v = .slice (some ⟨g, 0, none⟩) (n + 1) c := by
  rcases h.2 with ⟨_, h0⟩ | ⟨g, cap, cur, rfl, _⟩
  · omega
  · exact ⟨g, cap, rfl⟩
/-- What an append and a store leave. -/
theorem top_step {w0 W w4 : World} {B tb n : Nat} {M : List Int} {x : Int} {v : Value} {g c : Nat} (hB : w0.heap.size + 2 = B) (htb : tb < w0.heap.size) (hbt : Bt tb w0 W) (hz : B ≤ W.heap.size) (hv : w4.heap[tb]? = some (.cells #[.int .i64 n, v] 116 (0, 0)))
    (hown : W.ownsRow B 67 1 v M.length (vInt M)) (hown' : w4.ownsRow B 67 1 (.slice (some ⟨g, 0, none⟩) (M.length + 1) c) (M.length + 1) (vInt M ++ [.int .i64 x])) (hg : (W.alloc (.cells #[.int .i64 x] 67)).grownBy w4 v.ownBlock) (ha : (Value.slice (some ⟨g, 0, none⟩) (M.length + 1) c).ownBlock = v.ownBlock ∨ (Value.slice (some ⟨g, 0, none⟩) (M.length + 1) c).ownBlock = some (W.alloc (.cells #[.int .i64 x] 67)).heap.size) :
    KeptL w0.heap.size W (w4.setCell ⟨tb, 1, none⟩ (.slice (some ⟨g, 0, none⟩) (M.length + 1) c)) ∧ TopI w0 B tb n (M ++ [x]) (w4.setCell ⟨tb, 1, none⟩ (.slice (some ⟨g, 0, none⟩) (M.length + 1) c)) := by
  have hlo : ∀ b, v.ownBlock = some b → B ≤ b := fun b e => (World.ownsRow.lt hown b e).1
  have hsz := hg.size
  simp only [World.size_alloc] at hsz
  have hk : ∀ b, b < W.heap.size → b < B → w4.heap[b]? = W.heap[b]? := fun b h1 h2 =>
    (hg.block b (by simp; omega) (fun e => by have := hlo b e.symm; omega)).trans (Below.heap_alloc _ _ _ h1)
  have hgB : B ≤ g := by
    rcases ha with h | h
    · exact hlo g h.symm
    · have h' : g = (W.alloc (.cells #[.int .i64 x] 67)).heap.size := by simpa [Value.ownBlock] using h
      rw [h']; simp; omega
  refine ⟨⟨by simp; omega, fun b h1 h2 => ?_⟩, ?_, _, setCell_at hv 1 _, ?_, ?_⟩
  · rw [setCell_other' _ _ _ _ _ (by omega)]
    exact hk b (by omega) (by omega)
  · exact Bt.set ⟨hg.os.trans hbt.1, hg.tape.trans hbt.2.1, hg.output.trans hbt.2.2.1, by have := hbt.2.2.2.1; omega, fun k h1 h2 => (hk k (by omega) (by omega)).trans (hbt.2.2.2.2 k h1 h2)⟩ 1 _
  · rw [vInt_one, List.length_append]
    exact hown'.kept (row := some tb) ⟨rfl, rfl, rfl, by simp, fun k _ hk => setCell_other' _ _ _ _ _ (fun e => hk (by rw [e]))⟩ (.inr (by simp [Value.ownBlock]; omega))
  · simp [Value.ownBlock]; omega
set_option maxRecDepth 100000 in
set_option maxHeartbeats 16000000 in
theorem top87_any {n : Nat} (w : World) (h1 : 1 ≤ n) (hn : n ≤ 4) :
    Calls Tryz.prog 87 #[.int .i64 n] w fun e w' => (∃ g c, e = .returned (.tuple #[.agg #[.int .i64 n, .slice (some ⟨g, 0, none⟩) (topD n).length c], .int .i64 0]) ∧ w.heap.size ≤ g ∧ RowB w' g (topD n)) ∧ Below w.heap.size w w' := by
  have d1 : decide ((n : Int) < 1) = false := by simp; omega
  have d2 : decide ((4 : Int) < (n : Int)) = false := by simp; omega
  obtain ⟨i0, hi, hz0, hz1, hz2⟩ := info_parts info67
  obtain ⟨W3, hW3⟩ : ∃ W3, W3 = ((w.alloc (.cells #[.int .i64 0, .slice none 0 0] 116)).alloc (.cells #[.int .i64 n, .slice none 0 0] 116)).alloc (.cells #[.int .i64 n] 3) := ⟨_, rfl⟩
  have hb3 : Below w.heap.size w W3 := by rw [hW3]; exact ((belowA _ _).alloc (by simp) _).alloc (by simp; omega) _
  have hz3 : W3.heap.size = w.heap.size + 3 := by rw [hW3]; simp
  have hr3 : W3.heap[w.heap.size]? = some (.cells #[.int .i64 0, .slice none 0 0] 116 (0, 0)) := by
    rw [hW3]; exact (Below.heap_alloc _ _ _ (by simp; omega)).trans ((Below.heap_alloc _ _ _ (by simp)).trans (hp_topA rfl))
  have hx3 : W3.heap[w.heap.size + 1]? = some (.cells #[.int .i64 n, .slice none 0 0] 116 (0, 0)) := by
    rw [hW3]; exact (Below.heap_alloc _ _ _ (by simp)).trans (hp_topA (by simp))
  have hy3 : W3.heap[w.heap.size + 2]? = some (.cells #[.int .i64 n] 3 (0, 0)) := by
    rw [hW3]; exact hp_topA (by simp)
  have HB3 := Lib.hid hb3
  have HW3 := Lib.hid hW3.symm
  have HZ3 := Lib.hid hz3
  have HX3 := Lib.hid hx3
  have HY3 := Lib.hid hy3
  have HR3 := Lib.hid hr3
  have h118 : Fence.wide.fn 118 := trivial
  clear hW3 hz3 hb3 hx3 hy3 hr3
  refine (callsIn_wide (n := 4)).1 ?_
  refine callsIn_of_wp_marks Tryz.func87 rfl trivial ?_ rfl
  simp only [Tryz.ntmps87, List.size_toArray, List.length_cons, List.length_nil, Nat.reduceAdd, Nat.reduceSub, Array.replicate_succ, Array.replicate_zero, List.push_toArray, List.append_toArray, List.nil_append, List.cons_append]
  gi_wp2_with fail
  refine (callsIn_wide.2 (pairs118_any _ _)).mono ?_
  rintro e w3 ⟨rfl, rfl⟩
  have hsz : ((w.alloc (.cells #[.int .i64 0, .slice none 0 0] 116)).alloc (.cells #[.int .i64 n, .slice none 0 0] 116)).heap.size = w.heap.size + 2 := by simp
  rw [HW3.out, hsz]
  clear HW3 hsz
  gi_wp2_with fail
  refine rangePairs (n := n) (Bs := w.heap.size + 2) rfl rfl h1 hn (fun j W => TopI W3 (W3.heap.size + 2) (w.heap.size + 1) n ((topD n).take j) W) (fun _ => False) ?hI ?hIx ?hrd ?h0 ?round ?done ?stop
  case hIx =>
    intro W W' h
    exact h.elim
  case stop =>
    intro W h
    exact h.elim
  case h0 => exact ⟨Bt.refl _ _, _, HX3.out, World.ownsRow_nil _ _ _ _, by simp [Value.ownBlock]⟩
  case hI =>
    intro j W W' ⟨hb, v, hv, hown, hne⟩ h1 h2 h3 h4 h5 h6
    have hz := HZ3.out
    have hzW := hb.2.2.2.1
    have hlo : ∀ b, v.ownBlock = some b → W3.heap.size + 2 ≤ b ∧ b < W.heap.size := fun b e => World.ownsRow.lt hown b e
    refine ⟨⟨h3.trans hb.1, h4.trans hb.2.1, h5.trans hb.2.2.1, by omega, fun b hb1 hb2 => (h6 b (by omega) (by omega) (by omega)).trans (hb.2.2.2.2 b hb1 hb2)⟩, v, (h6 _ (by omega) (by omega) (by omega)).trans hv, own_agree hown fun b e => h6 b (hlo b e).2 (by have := (hlo b e).1; omega) (by have := (hlo b e).1; omega), hne⟩
  case hrd =>
    intro j W h
    have hy := h.1.at HY3.out (by omega)
    exact ⟨Lib.cell_of_heap hy 0, (Array.getElem?_eq_some_iff.1 hy).1⟩
  case done =>
    intro W hJ hlt hK
    have hfull : (topD n).take (n * n) = topD n := List.take_of_length_le (by rw [topD_len]; exact Nat.le_refl _)
    rw [hfull] at hJ
    obtain ⟨hbt, v, hv, hown, hne⟩ := hJ
    obtain ⟨g, c, rfl, hgB, hrow⟩ := own_rowB hown (by rw [topD_len]; exact Nat.mul_pos h1 h1) rfl
    have x0 := Lib.cell_of_heap hv 0
    have x1 := Lib.cell_of_heap hv 1
    simp only [List.getElem?_toArray, List.getElem?_cons_zero, List.getElem?_cons_succ] at x0 x1
    have xl := (Array.getElem?_eq_some_iff.1 hv).1
    have hr := hbt.at HR3.out (by omega)
    have r0 := Lib.cell_of_heap hr 0
    have r1 := Lib.cell_of_heap hr 1
    simp only [List.getElem?_toArray, List.getElem?_cons_zero, List.getElem?_cons_succ] at r0 r1
    have f0 := Lib.frozen_of_heap hr 0
    have f1 := Lib.frozen_of_heap hr 1
    have rl := (Array.getElem?_eq_some_iff.1 hr).1
    have HR := Lib.hid hr
    have HROW := Lib.hid hrow
    have HG := Lib.hid hgB
    have HBT := Lib.hid hbt
    have HK := Lib.hid hK
    clear hfull hbt hv hown hne hgB hrow hr hK
    gi_wp2
    have HK4 : Hid ((set2 W w.heap.size (.int .i64 n) (.slice (some ⟨g, 0, none⟩) (topD n).length c)).heap[W3.heap.size]? = some (.deferred (some []))) := (set2_other _ _ _ _ _ (by have := HZ3.out; omega)).trans HK.out
    refine ⟨by simp, .inl ⟨_, _, rfl, run_takeDeferred HK4.out, ?_⟩⟩
    refine ⟨_, results_cell_row_tmp rfl _ _ _ _ _ _ _ _ rfl rfl ((World.putObj_heap_other (by have := HZ3.out; omega)).trans (set2_at HR.out _ _)) Tryz.underlying116 rfl (by kernel_rfl), ⟨_, _, rfl, by have := HG.out; have := HZ3.out; omega, HROW.out.agree ((World.putObj_heap_other (by have := HG.out; omega)).trans (set2_other _ _ _ _ _ (by have := HG.out; have := HZ3.out; omega)))⟩, ?_⟩
    have h1 : Below w.heap.size w W := HB3.out.trans (HBT.out.below (by omega) HB3.out.size)
    have h2 := set2_below h1 (Nat.le_refl _) (.int .i64 n) (.slice (some ⟨g, 0, none⟩) (topD n).length c)
    exact ⟨h2.os, h2.tape, h2.output, by have := HZ3.out; simp; omega, fun k hk => (World.putObj_heap_other (by have := HZ3.out; omega)).trans (h2.block k hk)⟩
  case round =>
    intro m r wr hr hJ hwr
    have hlen : ((topD n).take r).length = r := by rw [List.length_take, topD_len]; omega
    obtain ⟨i, hir⟩ : ∃ i, r / n = i := ⟨_, rfl⟩
    obtain ⟨j, hjr⟩ : ∃ j, r % n = j := ⟨_, rfl⟩
    have hci : ((r : Int) / (n : Int)) = (i : Int) := by rw [← hir]; rfl
    have hcj : ((r : Int) % (n : Int)) = (j : Int) := by rw [← hjr]; rfl
    have hx : (topD n)[r]'(by rw [topD_len]; exact hr) = if i = j then 1 else noneB := by simp [topD, hir, hjr]
    have HT : Hid ((topD n).take (r + 1) = (topD n).take r ++ [if i = j then 1 else noneB]) := by rw [Hid, List.take_succ_eq_append_getElem (by rw [topD_len]; exact hr), hx]
    obtain ⟨M, hM⟩ : ∃ M, (topD n).take r = M := ⟨_, rfl⟩
    rw [hM] at hJ hlen HT
    have HLEN := Lib.hid hlen
    have hnn : n * n ≤ 16 := Nat.mul_le_mul hn hn
    have HRN : Hid (r < 16) := by rw [Hid]; omega
    have HWR := Lib.hid hwr
    have HJ := Lib.hid hJ
    have HM := Lib.hid hM
    clear hlen hx hM hir hjr hr hnn hwr hJ
    gi_wp2
    refine ⟨trivial, ?_⟩
    intro o' hJ2
    obtain ⟨XA, hXA⟩ : ∃ XA, XA = wr.putObj (W3.heap.size + 1) (.loop o') := ⟨_, rfl⟩
    rw [← hXA] at hJ2 ⊢
    have HZX : Hid (W3.heap.size + 2 ≤ XA.heap.size) := by rw [Hid, hXA]; simpa using HWR.out
    have HXA := Lib.hid hXA.symm
    rw [HM.out] at hJ2
    obtain ⟨hbX, v, hv, hown, hne⟩ := hJ2
    have x0 := Lib.cell_of_heap hv 0
    have x1 := Lib.cell_of_heap hv 1
    simp only [List.getElem?_toArray, List.getElem?_cons_zero, List.getElem?_cons_succ] at x0 x1
    have f1 := Lib.frozen_of_heap hv 1
    have xl := (Array.getElem?_eq_some_iff.1 hv).1
    have HV := Lib.hid hv
    have HOWN := Lib.hid hown
    have HNE := Lib.hid hne
    have HBX := Lib.hid hbX
    clear hv hown hne hbX hXA
    by_cases hij : i = j
    · have q1 : ((i : Int) == (j : Int)) = true := by rw [hij]; simp
      have HT1 : Hid ((topD n).take (r + 1) = M ++ [1]) := by rw [Hid, HT.out, if_pos hij]
      clear hij
      gi_wp2_with (gi_at_builtin; refine wpListIn_append_own_at _ rfl _ _ 114 rfl (W3.heap.size + 2) 67 i0 _ 1 8 Tryz.underlying114 hi hz0 hz1 hz2 rfl (by decide) _ _ _ rfl (World.ownsRow.alloc HOWN.out _) _ 1 1 [.int .i64 1] rfl rfl (newOne _ _ _) (by intro u hu; simp at hu; subst hu; rfl) (by simp only [maxLen]; have := HLEN.out; have := HRN.out; omega) (by have := HLEN.out; have := HRN.out; omega) (by have := HZX.out; simp; omega) ?_; intro v' w4 hown' hgrow hnil hat; clear hnil; have hv4 := (hgrow.block (w.heap.size + 1) (by simp; omega) (Ne.symm HNE.out)).trans ((Below.heap_alloc _ _ _ xl).trans HV.out); have g1 := Lib.cell_of_heap hv4 1; have g2 := Lib.frozen_of_heap hv4 1; simp only [List.getElem?_toArray, List.getElem?_cons_zero, List.getElem?_cons_succ] at g1; have gl := (Array.getElem?_eq_some_iff.1 hv4).1; have HV4 := Lib.hid hv4; obtain ⟨g4, c4, rfl⟩ := own_form hown'; have HO4 := Lib.hid hown'; have HG4 := Lib.hid hgrow; have HA4 := Lib.hid hat; clear hv4 hown' hgrow hat x0 x1 f1)
      obtain ⟨k1, k2⟩ := top_step rfl (by have := HZ3.out; omega) HBX.out HZX.out HV4.out HOWN.out HO4.out HG4.out HA4.out
      exact ⟨k1, by rw [HT1.out]; exact k2⟩
    · have q1 : ((i : Int) == (j : Int)) = false := by simp; omega
      have HT1 : Hid ((topD n).take (r + 1) = M ++ [9223372036854775807]) := by rw [Hid, HT.out, if_neg hij]; rfl
      clear hij
      gi_wp2_with (gi_at_builtin; refine wpListIn_append_own_at _ rfl _ _ 114 rfl (W3.heap.size + 2) 67 i0 _ 1 8 Tryz.underlying114 hi hz0 hz1 hz2 rfl (by decide) _ _ _ rfl (World.ownsRow.alloc HOWN.out _) _ 1 1 [.int .i64 9223372036854775807] rfl rfl (newOne _ _ _) (by intro u hu; simp at hu; subst hu; rfl) (by simp only [maxLen]; have := HLEN.out; have := HRN.out; omega) (by have := HLEN.out; have := HRN.out; omega) (by have := HZX.out; simp; omega) ?_; intro v' w4 hown' hgrow hnil hat; clear hnil; have hv4 := (hgrow.block (w.heap.size + 1) (by simp; omega) (Ne.symm HNE.out)).trans ((Below.heap_alloc _ _ _ xl).trans HV.out); have g1 := Lib.cell_of_heap hv4 1; have g2 := Lib.frozen_of_heap hv4 1; simp only [List.getElem?_toArray, List.getElem?_cons_zero, List.getElem?_cons_succ] at g1; have gl := (Array.getElem?_eq_some_iff.1 hv4).1; have HV4 := Lib.hid hv4; obtain ⟨g4, c4, rfl⟩ := own_form hown'; have HO4 := Lib.hid hown'; have HG4 := Lib.hid hgrow; have HA4 := Lib.hid hat; clear hv4 hown' hgrow hat x0 x1 f1)
      obtain ⟨k1, k2⟩ := top_step rfl (by have := HZ3.out; omega) HBX.out HZX.out HV4.out HOWN.out HO4.out HG4.out HA4.out
      exact ⟨k1, by rw [HT1.out]; exact k2⟩
end Go.Proofs.YtockinpjfhhkoaaGreatDoor
