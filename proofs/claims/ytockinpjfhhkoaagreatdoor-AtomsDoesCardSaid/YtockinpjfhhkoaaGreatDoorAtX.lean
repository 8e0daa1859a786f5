/- dbm.Keeps walked, its loop. (Printed by gen_atx.py.) -/
import Derived.Test.YtockinpjfhhkoaaGreatDoorAtW
import Derived.Test.YtockinpjfhhkoaaGreatDoorAtD
namespace Go.Proofs.YtockinpjfhhkoaaGreatDoor
open Go.RowKit Go.Shelf
attribute [local go_sem] Oper.semAt_some

theorem may_check {b : Int} (h : mayB b = true) : checkB b = true := by
  unfold mayB at h
  unfold checkB
  cases hb : (b == noneB) with
  | true => rfl
  | false => rw [hb] at h; simp at h; simp [h.1.1]
theorem badD_may {L : List Int} (h : badD L = false) : ∀ x ∈ L, mayB x = true := by
  intro x hx
  unfold badD at h
  rw [List.any_eq_false] at h
  simpa using h x hx
theorem q_ok {l : List (Int × Int)} (h : ∀ x ∈ l, in64 x.1 ∧ mayQ x.1 x.2 = true) {i : Nat} (hi : i < l.length + 1) {a p : Int} (hq : ((0, 1) :: l).getD i (0, 1) = (a, p)) : in64 a ∧ mayQ a p = true := by
  have : (a, p) ∈ (0, 1) :: l := by
    rw [← hq, List.getD_eq_getElem?_getD, List.getElem?_eq_getElem (by simpa using hi)]
    exact List.getElem_mem _
  rcases List.mem_cons.1 this with h1 | h1
  · cases h1; exact ⟨⟨by decide, by decide⟩, by decide⟩
  · exact h _ h1
def keepsTo (n : Nat) (L : List Int) (q : List (Int × Int)) (k : Nat) : Prop := ∀ p, p < k → keepsQ (q.getD (p / n) (0, 1)).1 (q.getD (p / n) (0, 1)).2 (q.getD (p % n) (0, 1)).1 (q.getD (p % n) (0, 1)).2 (L.getD p 0) = true
theorem keepsTo_succ {n : Nat} {L : List Int} {q : List (Int × Int)} {r : Nat} (h : keepsTo n L q r) (hr : keepsQ (q.getD (r / n) (0, 1)).1 (q.getD (r / n) (0, 1)).2 (q.getD (r % n) (0, 1)).1 (q.getD (r % n) (0, 1)).2 (L.getD r 0) = true) : keepsTo n L q (r + 1) := by
  intro p hp
  rcases Nat.lt_or_ge p r with h1 | h1
  · exact h p h1
  · obtain rfl : p = r := by omega
    exact hr
theorem keeps_all {n : Nat} {L : List Int} {q : List (Int × Int)} (h : keepsTo n L q (n * n)) : keepsD n L q = true := by
  unfold keepsD
  rw [List.all_eq_true]
  intro p hp
  exact h p (List.mem_range.1 hp)
theorem keeps_no {n : Nat} {L : List Int} {q : List (Int × Int)} {p : Nat} (hp : p < n * n) (h : keepsQ (q.getD (p / n) (0, 1)).1 (q.getD (p / n) (0, 1)).2 (q.getD (p % n) (0, 1)).1 (q.getD (p % n) (0, 1)).2 (L.getD p 0) = false) : keepsD n L q = false := by
  unfold keepsD
  rw [List.all_eq_false]
  exact ⟨p, List.mem_range.2 hp, by rw [h]; simp⟩
theorem getD_get {α : Type} {l : List α} {i : Nat} (h : i < l.length) {d : α} : l.getD i d = l[i] := by
  rw [List.getD_eq_getElem?_getD, List.getElem?_eq_getElem h, Option.getD_some]
theorem getD_mem {l : List Int} {i : Nat} (h : i < l.length) : l.getD i 0 ∈ l := by
  rw [getD_get h]; exact List.getElem_mem _
theorem two_set {w : World} {A B ta tb : Nat} {x y u v : Value} {fa fb : Nat × Nat} (ha : w.heap[A]? = some (.cells #[u] ta fa)) (hb : w.heap[B]? = some (.cells #[v] tb fb)) (hn : A ≠ B) :
    ((w.setCell ⟨A, 0, none⟩ x).setCell ⟨B, 0, none⟩ y).heap[A]? = some (.cells #[x] ta fa) ∧ ((w.setCell ⟨A, 0, none⟩ x).setCell ⟨B, 0, none⟩ y).heap[B]? = some (.cells #[y] tb fb) ∧ (∀ k, k ≠ A → k ≠ B → ((w.setCell ⟨A, 0, none⟩ x).setCell ⟨B, 0, none⟩ y).heap[k]? = w.heap[k]?) ∧ ((w.setCell ⟨A, 0, none⟩ x).setCell ⟨B, 0, none⟩ y).heap.size = w.heap.size := by
  refine ⟨?_, ?_, fun k h1 h2 => (setCell_other' _ _ _ _ _ h2).trans (setCell_other' _ _ _ _ _ h1), by simp [World.setCell]⟩
  · rw [setCell_other' _ _ _ _ _ hn, setCell_at ha]; rfl
  · rw [setCell_at ((setCell_other' _ _ _ _ _ (Ne.symm hn)).trans hb)]; rfl
theorem below_two {m : Nat} {w0 w : World} {A B : Nat} {x y : Value} (h : Below m w0 w) (ha : m ≤ A) (hb : m ≤ B) : Below m w0 ((w.setCell ⟨A, 0, none⟩ x).setCell ⟨B, 0, none⟩ y) :=
  ⟨h.os, h.tape, h.output, by simpa [World.setCell] using h.size, fun k hk => (setCell_other' _ _ _ _ _ (by omega)).trans ((setCell_other' _ _ _ _ _ (by omega)).trans (h.block k hk))⟩
theorem cell_put {w : World} {l : Nat} {o : Obj} {a : Addr} (h : a.block ≠ l) : (w.putObj l o).cell? a = w.cell? a := by
  simp [World.cell?, World.putObj_heap_other h]
theorem _root_.Go.RowKit.Below.putObj' {n : Nat} {w w' : World} (h : Below n w w') {l : Nat} (hl : n ≤ l) (o : Obj) : Below n w (w'.putObj l o) :=
  ⟨h.os, h.tape, h.output, by simpa using h.size, fun k hk => (World.putObj_heap_other (by omega)).trans (h.block k hk)⟩
set_option maxRecDepth 100000 in
set_option maxHeartbeats 16000000 in
theorem keeps59_any {n g c tb tc : Nat} {L : List Int} {l : List (Int × Int)} {w : World} (h : RowB w g L) (hl : L.length = n * n) (h1 : 2 ≤ n) (hn : n ≤ 4) (hbd : badD L = false) (ht : RatR w tb l) (hll : l.length + 1 = n) (hr : ∀ x ∈ l, in64 x.1 ∧ mayQ x.1 x.2 = true) :
    Calls Tryz.prog 59 #[.agg #[.int .i64 n, .slice (some ⟨g, 0, none⟩) L.length c], .slice (some ⟨tb, 0, none⟩) l.length tc] w fun e w' => e = .returned (.tuple #[.bool (keepsD n L ((0, 1) :: l)), .int .i64 0]) ∧ Below w.heap.size w w' := by
  obtain ⟨W3, hW3⟩ : ∃ W3, W3 = ((w.alloc (.cells #[.int .i64 n, .slice (some ⟨g, 0, none⟩) L.length c] 116)).alloc (.cells #[.bool false] 4)).alloc (.cells #[.int .i64 0] 33) := ⟨_, rfl⟩
  have hb3 : Below w.heap.size w W3 := by rw [hW3]; exact ((belowA _ _).alloc (by simp) _).alloc (by simp; omega) _
  have hz3 : W3.heap.size = w.heap.size + 3 := by rw [hW3]; simp
  have hx0 : W3.heap[w.heap.size]? = some (.cells #[.int .i64 n, .slice (some ⟨g, 0, none⟩) L.length c] 116 (0, 0)) := by
    rw [hW3]; exact (Below.heap_alloc _ _ _ (by simp; omega)).trans ((Below.heap_alloc _ _ _ (by simp)).trans (hp_topA rfl))
  have hx1 : W3.heap[w.heap.size + 1]? = some (.cells #[.bool false] 4 (0, 0)) := by
    rw [hW3]; exact (Below.heap_alloc _ _ _ (by simp)).trans (hp_topA (by simp))
  have hx2 : W3.heap[w.heap.size + 2]? = some (.cells #[.int .i64 0] 33 (0, 0)) := by
    rw [hW3]; exact hp_topA (by simp)
  have HCK := Lib.hid (check115_any (c := c) (h.below hb3) (by omega : 1 ≤ n) hn hl)
  have HE : Hid (checkD L = 0) := by rw [Hid, checkD, hbd]; rfl
  have HMAY := Lib.hid (badD_may hbd)
  have HX : Hid (∀ W, Below W3.heap.size W3 W → W.heap[w.heap.size]? = some (.cells #[.int .i64 n, .slice (some ⟨g, 0, none⟩) L.length c] 116 (0, 0)) ∧ W.heap[w.heap.size + 1]? = some (.cells #[.bool false] 4 (0, 0)) ∧ W.heap[w.heap.size + 2]? = some (.cells #[.int .i64 0] 33 (0, 0)) ∧ RowB W g L ∧ RatR W tb l) :=
    fun W hW => ⟨(hW.block _ (by omega)).trans hx0, (hW.block _ (by omega)).trans hx1, (hW.block _ (by omega)).trans hx2, (h.below hb3).below hW, (ht.below hb3).below hW⟩
  have HF : Hid (∀ W, Below W3.heap.size W3 W → W.cell? ⟨w.heap.size, 0, none⟩ = some (.int .i64 n) ∧ W.cell? ⟨w.heap.size, 1, none⟩ = some (.slice (some ⟨g, 0, none⟩) L.length c) ∧ w.heap.size < W.heap.size) := by
    intro W hW
    obtain ⟨a0, _⟩ := HX.out W hW
    exact ⟨Lib.cell_of_heap a0 0, Lib.cell_of_heap a0 1, (Array.getElem?_eq_some_iff.1 a0).1⟩
  have hl100 : l.length ≤ 100 := by omega
  have HCO : Hid (∀ W, Below W3.heap.size W3 W → Calls Tryz.prog 116 #[.slice (some ⟨tb, 0, none⟩) l.length tc, .func (.func 117) #[] #[]] W fun e w' => e = .returned (.bool false) ∧ Below W.heap.size W w') := fun W hW => contains116_any ((ht.below hb3).below hW) hl100 hr
  have hwn : IntKind.i64.wrap ((n : Int) - 1) = (l.length : Int) := by rw [show (n : Int) - 1 = (l.length : Int) by omega]; exact IntWalk.i64_in _ (by omega)
  have hwn' : wrap64 ((n : Int) - 1) = (l.length : Int) := by rw [show (n : Int) - 1 = (l.length : Int) by omega]; exact IntWalk.wrap64_in _ (by omega)
  have HAP : Hid (∀ W, Below W3.heap.size W3 W → ∃ v' w', (Builtin.append_ #[53, 53] 53 #[.slice (some ⟨W.heap.size, 0, none⟩) 1 1, .slice (some ⟨tb, 0, none⟩) l.length tc]).run Tryz.prog (W.alloc (.cells #[.int .i64 0, .int .i64 1] 50)) = .ok v' w' ∧ (∃ g' c', v' = .slice (some ⟨g', 0, none⟩) n c' ∧ W.heap.size < g' ∧ RatR w' g' ((0, 1) :: l)) ∧ Below W3.heap.size W3 w') := by
    intro W hW
    obtain ⟨v', w', hr', ⟨g', c', hv', hg', hrow⟩, hb'⟩ := run_more53 (W.alloc (.cells #[.int .i64 0, .int .i64 1] 50)) W.heap.size tb tc 0 1 l (hp_topA rfl) (((ht.below hb3).below hW).below (belowA _ _)) hl100 (by omega)
    have hWa : Below W3.heap.size W3 (W.alloc (.cells #[.int .i64 0, .int .i64 1] 50)) := hW.alloc hW.size _
    exact ⟨v', w', hr', ⟨g', c', by rw [hv', hll], by simp at hg'; omega, hrow⟩, hWa.trans (hb'.mono hWa.size)⟩
  have HW3 := Lib.hid hW3.symm
  have HB3 := Lib.hid hb3
  have HZ3 := Lib.hid hz3
  have HL := Lib.hid hl
  have HLL := Lib.hid hll
  have HR := Lib.hid hr
  have HN2 := Lib.hid h1
  have hnn : n * n ≤ 16 := Nat.mul_le_mul hn hn
  have HNN := Lib.hid hnn
  obtain ⟨x0, x1, xl⟩ := HF.out W3 (Below.refl _ _)
  have hq0 : ((l.length : Int) != (l.length : Int)) = false := by simp
  have h115 : Fence.wide.fn 115 := trivial
  have h116 : Fence.wide.fn 116 := trivial
  have h118 : Fence.wide.fn 118 := trivial
  clear h hl hbd ht hll hr hb3 hz3 hx0 hx1 hx2 hW3 hl100 hnn
  refine (callsIn_wide (n := 4)).1 ?_
  refine callsIn_of_wp_marks Tryz.func59 rfl trivial ?_ rfl
  simp only [Tryz.ntmps59, List.size_toArray, List.length_cons, List.length_nil, Nat.reduceAdd, Nat.reduceSub, Array.replicate_succ, Array.replicate_zero, List.push_toArray, List.append_toArray, List.nil_append, List.cons_append]
  gi_wp2_with fail
  rw [HW3.out]
  clear HW3
  refine (callsIn_wide.2 HCK.out).mono ?_
  rintro e w4 ⟨rfl, hb4⟩
  rw [HE.out]
  have HB4 := Lib.hid hb4
  clear hb4 x0 x1 xl
  gi_wp2_with fail
  refine (callsIn_wide.2 (HCO.out w4 HB4.out)).mono ?_
  rintro e w5 ⟨rfl, hb5⟩
  have HB5 : Hid (Below W3.heap.size W3 w5) := HB4.out.trans (hb5.mono HB4.out.size)
  obtain ⟨x0, x1, xl⟩ := HF.out w5 HB5.out
  have HRUN := Lib.hid (HAP.out w5 HB5.out)
  clear hb5
  gi_wp2_with (gi_at_builtin; refine wpListIn_append_ex rfl _ _ 53 rfl _ _ rfl rfl _ HRUN.out ?_; intro v' w6 hvw; obtain ⟨⟨gr, cr, rfl, hgr, hrow⟩, hb6⟩ := hvw; have HB6 := Lib.hid hb6; have HROW := Lib.hid hrow; have HGR := Lib.hid hgr; obtain ⟨y0, y1, yl⟩ := HF.out w6 hb6; clear hb6 hrow hgr x0 x1 xl; have yl1 := Nat.lt_succ_of_lt yl; have yl2 := Nat.lt_succ_of_lt yl1)
  obtain ⟨W7, hW7⟩ : ∃ W7, W7 = ((((w6.alloc (.cells #[.slice (some ⟨gr, 0, none⟩) n cr] 53)).alloc (.cells #[.int .i64 n, .slice (some ⟨g, 0, none⟩) L.length c] 175)).alloc (.cells #[.pointer (some ⟨w6.heap.size + 1, 0, none⟩)] 173))).alloc (.cells #[.int .i64 n] 3) := ⟨_, rfl⟩
  refine (callsIn_wide.2 (pairs118_any _ _)).mono ?_
  rintro e w3 ⟨rfl, rfl⟩
  have hsz : (((w6.alloc (.cells #[.slice (some ⟨gr, 0, none⟩) n cr] 53)).alloc (.cells #[.int .i64 n, .slice (some ⟨g, 0, none⟩) L.length c] 175)).alloc (.cells #[.pointer (some ⟨w6.heap.size + 1, 0, none⟩)] 173)).heap.size = w6.heap.size + 3 := by simp
  have hz7 : W7.heap.size = w6.heap.size + 4 := by rw [hW7]; simp
  have hb7 : Below w6.heap.size w6 W7 := by rw [hW7]; exact (((belowA _ _).alloc (by simp) _).alloc (by simp; omega) _).alloc (by simp; omega) _
  have hx3 : W7.heap[w6.heap.size]? = some (.cells #[.slice (some ⟨gr, 0, none⟩) n cr] 53 (0, 0)) := by
    rw [hW7]; exact (Below.heap_alloc _ _ _ (by simp; omega)).trans ((Below.heap_alloc _ _ _ (by simp; omega)).trans ((Below.heap_alloc _ _ _ (by simp)).trans (hp_topA rfl)))
  have hx4 : W7.heap[w6.heap.size + 1]? = some (.cells #[.int .i64 n, .slice (some ⟨g, 0, none⟩) L.length c] 175 (0, 0)) := by
    rw [hW7]; exact (Below.heap_alloc _ _ _ (by simp)).trans ((Below.heap_alloc _ _ _ (by simp)).trans (hp_topA (by simp)))
  have hx5 : W7.heap[w6.heap.size + 1 + 1]? = some (.cells #[.pointer (some ⟨w6.heap.size + 1, 0, none⟩)] 173 (0, 0)) := by
    rw [hW7]; exact (Below.heap_alloc _ _ _ (by simp)).trans (hp_topA (by simp))
  have hx6 : W7.heap[w6.heap.size + 3]? = some (.cells #[.int .i64 n] 3 (0, 0)) := by
    rw [hW7]; exact hp_topA (by simp)
  have hb37 : Below W3.heap.size W3 W7 := HB6.out.trans (hb7.mono HB6.out.size)
  have HG : Hid (∀ W, Below W7.heap.size W7 W → Mat W (w6.heap.size + 1) g n c L ∧ RatR W gr ((0, 1) :: l) ∧ W.heap[w.heap.size + 1]? = some (.cells #[.bool false] 4 (0, 0)) ∧ W.heap[w.heap.size + 1 + 1]? = some (.cells #[.int .i64 0] 33 (0, 0)) ∧ Below w.heap.size w W ∧ W.cell? ⟨w6.heap.size, 0, none⟩ = some (.slice (some ⟨gr, 0, none⟩) n cr) ∧ W.cell? ⟨w6.heap.size + 1 + 1, 0, none⟩ = some (.pointer (some ⟨w6.heap.size + 1, 0, none⟩)) ∧ W.cell? ⟨w6.heap.size + 3, 0, none⟩ = some (.int .i64 n) ∧ W7.heap.size ≤ W.heap.size) := by
    intro W hW
    have hb := hb37.trans (hW.mono hb37.size)
    obtain ⟨a0, a1, a2, a3, a4⟩ := HX.out W hb
    have hgl : g < w6.heap.size := Nat.lt_of_lt_of_le (HX.out W3 (Below.refl _ _)).2.2.2.1.lt HB6.out.size
    exact ⟨⟨(hW.block _ (by omega)).trans hx4, a3, fun e => by omega⟩, (HROW.out.below hb7).below hW, a1, a2, HB3.out.trans (hb.mono HB3.out.size), Lib.cell_of_heap ((hW.block _ (by omega)).trans hx3) 0, Lib.cell_of_heap ((hW.block _ (by omega)).trans hx5) 0, Lib.cell_of_heap ((hW.block _ (by omega)).trans hx6) 0, hW.size⟩
  have HZW : Hid (w.heap.size + 3 ≤ W7.heap.size) := by have h1 := HZ3.out; have h2 := hb37.size; rw [Hid]; omega
  have HZ7 := Lib.hid hz7
  have HW7 := Lib.hid hW7.symm
  rw [HW7.out, hsz]
  clear HW7 hsz hW7 hz7 hb7 hx3 hx4 hx5 hx6 hb37 y0 y1 yl yl1 yl2
  gi_wp2_with fail
  refine rangePairs (n := n) (Bs := w6.heap.size + 3) rfl rfl (by omega) hn (fun j W => keepsTo n L ((0, 1) :: l) j ∧ Below W7.heap.size W7 W) (fun W => keepsD n L ((0, 1) :: l) = false ∧ W.heap[w.heap.size + 1]? = some (.cells #[.bool false] 4 (0, 0)) ∧ W.heap[w.heap.size + 1 + 1]? = some (.cells #[.int .i64 0] 33 (0, 0)) ∧ Below w.heap.size w W) ?hI ?hIx ?hrd ⟨fun p hp => absurd hp (Nat.not_lt_zero p), Below.refl _ _⟩ ?round ?done ?stop
  case hI =>
    intro j W W' ⟨hk, hb⟩ h1 h2 h3 h4 h5 h6
    exact ⟨hk, h3.trans hb.os, h4.trans hb.tape, h5.trans hb.output, Nat.le_trans hb.size h2, fun b hb1 => (h6 b (by omega) (by omega) (by omega)).trans (hb.block b hb1)⟩
  case hIx =>
    intro W W' ⟨hk, ha, hc, hb⟩ h1 h2 h3 h4 h5 h6
    have hzw := HZW.out
    exact ⟨hk, (h6 _ (by omega) (by omega) (by omega)).trans ha, (h6 _ (by omega) (by omega) (by omega)).trans hc, h3.trans hb.os, h4.trans hb.tape, h5.trans hb.output, Nat.le_trans hb.size h2, fun b hb1 => (h6 b (by omega) (by omega) (by omega)).trans (hb.block b hb1)⟩
  case hrd =>
    intro j W h
    obtain ⟨_, _, _, _, _, _, _, h3, h5⟩ := HG.out W h.2
    have := HZ7.out
    exact ⟨h3, by omega⟩
  case stop =>
    intro W ⟨hk, ha, hc, hb⟩ hlt hK
    have hzw := HZW.out
    have h1 := Lib.cell_of_heap ha 0
    have h2 := Lib.cell_of_heap hc 0
    have hl1 : w.heap.size + 1 < W.heap.size := by omega
    have hl2 : w.heap.size + 1 + 1 < W.heap.size := by omega
    have HK := Lib.hid hK
    have HA := Lib.hid ha
    have HC := Lib.hid hc
    clear hK
    have HE2 : Hid (keepsD n L ((0, 1) :: l) = false) := hk
    have HEnd := Lib.hid hb
    clear hk hb ha hc
    gi_wp2_with fail
    refine ⟨by simp, .inl ⟨_, _, rfl, run_takeDeferred HK.out, ?_⟩⟩
    refine ⟨_, results_cell2 rfl rfl rfl rfl rfl ((cell_put (by show w.heap.size + 1 ≠ W7.heap.size; omega)).trans h1) ((cell_put (by show w.heap.size + 1 + 1 ≠ W7.heap.size; omega)).trans h2), by rw [HE2.out]; rfl, HEnd.out.putObj' (by omega) _⟩
  case done =>
    intro W hJ hlt hK
    obtain ⟨hk, hbW⟩ := hJ
    have HE2 := Lib.hid (keeps_all hk)
    have HBW := Lib.hid hbW
    have HK := Lib.hid hK
    obtain ⟨_, _, ha, hc, hb, _⟩ := HG.out W hbW
    have HA := Lib.hid ha
    have HC := Lib.hid hc
    have HB := Lib.hid hb
    have hzw := HZW.out
    have h1 := Lib.cell_of_heap ha 0
    have h2 := Lib.cell_of_heap hc 0
    have hl1 : w.heap.size + 1 < W.heap.size := by omega
    have hl2 : w.heap.size + 1 + 1 < W.heap.size := by omega
    have f1 := Lib.frozen_of_heap ha 0
    have f2 := Lib.frozen_of_heap hc 0
    clear hk hbW hK ha hc hb
    gi_wp2_with fail
    obtain ⟨k1, k2, k3, k4⟩ := two_set (x := .bool true) (y := .int .i64 0) HA.out HC.out (by omega)
    refine ⟨by simp, .inl ⟨_, _, rfl, run_takeDeferred ((k3 _ (by omega) (by omega)).trans HK.out), ?_⟩⟩
    refine ⟨_, results_cell2 rfl rfl rfl rfl rfl ((cell_put (by show w.heap.size + 1 ≠ W7.heap.size; omega)).trans (Lib.cell_of_heap k1 0)) ((cell_put (by show w.heap.size + 1 + 1 ≠ W7.heap.size; omega)).trans (Lib.cell_of_heap k2 0)), by rw [HE2.out]; rfl, (below_two HB.out (by omega) (by omega)).putObj' (by omega) _⟩
  case round =>
    intro m r wr hr hJ hwr
    gi_wp2
    refine ⟨trivial, ?_⟩
    intro o' hJ2
    obtain ⟨XA, hXA⟩ : ∃ XA, XA = wr.putObj (W7.heap.size + 1) (.loop o') := ⟨_, rfl⟩
    rw [← hXA] at hJ2 ⊢
    obtain ⟨hk, hbX⟩ := hJ2
    have HZX : Hid (W7.heap.size + 2 ≤ XA.heap.size) := by rw [Hid, hXA]; simpa using hwr
    have HXA := Lib.hid hXA.symm
    clear hXA
    obtain ⟨i, hi⟩ : ∃ i, r / n = i := ⟨_, rfl⟩
    obtain ⟨j, hj⟩ : ∃ j, r % n = j := ⟨_, rfl⟩
    have hiN : i < n := by rw [← hi]; exact (pair_lt hr).1
    have hjN : j < n := by rw [← hj]; exact (pair_lt hr).2.1
    have hij : i * n + j = r := by rw [← hi, ← hj]; exact (pair_lt hr).2.2
    have hci : ((r : Int) / (n : Int)) = (i : Int) := by rw [← hi]; rfl
    have hcj : ((r : Int) % (n : Int)) = (j : Int) := by rw [← hj]; rfl
    obtain ⟨a, p, hq1⟩ : ∃ a p, ((0, 1) :: l).getD i (0, 1) = (a, p) := ⟨_, _, rfl⟩
    obtain ⟨b, q, hq2⟩ : ∃ b q, ((0, 1) :: l).getD j (0, 1) = (b, q) := ⟨_, _, rfl⟩
    obtain ⟨x, hx⟩ : ∃ x, L.getD r 0 = x := ⟨_, rfl⟩
    have hrL : r < L.length := by rw [HL.out]; exact hr
    have hla : i < l.length + 1 := by have := HLL.out; omega
    have hlb : j < l.length + 1 := by have := HLL.out; omega
    have HQA := Lib.hid (q_ok HR.out hla hq1)
    have HQB := Lib.hid (q_ok HR.out hlb hq2)
    have HXC : Hid (checkB x = true) := by rw [← hx]; exact may_check (HMAY.out _ (getD_mem hrL))
    have HMg : Hid (∀ W, Below W7.heap.size W7 W → Mat W (w6.heap.size + 1) g n c L ∧ (W.cell? ⟨w6.heap.size, 0, none⟩ = some (.slice (some ⟨gr, 0, none⟩) n cr) ∧ W.cell? ⟨gr, i * 2, none⟩ = some (.int .i64 a) ∧ W.cell? ⟨gr, i * 2 + 1, none⟩ = some (.int .i64 p) ∧ W.cell? ⟨gr, j * 2, none⟩ = some (.int .i64 b) ∧ W.cell? ⟨gr, j * 2 + 1, none⟩ = some (.int .i64 q) ∧ W.cell? ⟨w6.heap.size + 1 + 1, 0, none⟩ = some (.pointer (some ⟨w6.heap.size + 1, 0, none⟩)) ∧ W.cell? ⟨g, r, none⟩ = some (.int .i64 x) ∧ w6.heap.size < W.heap.size ∧ gr < W.heap.size ∧ w6.heap.size + 1 + 1 < W.heap.size ∧ g < W.heap.size)) := by
      intro W hW
      obtain ⟨a1, a2, a3, a4, a5, a6, a7, a8, a9⟩ := HG.out W hW
      have hz7 := HZ7.out
      have e1 := a2.2 i (by simpa using hla)
      have e2 := a2.2 j (by simpa using hlb)
      rw [← getD_get (by simpa using hla), hq1] at e1
      rw [← getD_get (by simpa using hlb), hq2] at e2
      exact ⟨a1, a6, e1.1, e1.2, e2.1, e2.2, a7, by rw [← hx]; exact a1.2.1.cellD r hrL, by omega, a2.1, by omega, a1.2.1.lt⟩
    have HYES : Hid (keepsQ a p b q x = true → keepsTo n L ((0, 1) :: l) (r + 1)) := fun h => keepsTo_succ hk (by rw [hi, hj, hq1, hq2, hx]; exact h)
    have HNO : Hid (keepsQ a p b q x = false → keepsD n L ((0, 1) :: l) = false) := fun h => keeps_no hr (by rw [hi, hj, hq1, hq2, hx]; exact h)
    have HBX := Lib.hid hbX
    have HIN := Lib.hid hiN
    have HJN := Lib.hid hjN
    have HIJ := Lib.hid hij
    have hin : (i : Int) < (n : Int) := by omega
    have hjn : (j : Int) < (n : Int) := by omega
    have HS0 := Lib.hid (HMg.out XA.drew HBX.out.drew).2
    clear hJ hi hj hq1 hq2 hx hrL hla hlb hbX hk hr hij hwr
    gi_wp2
    try rw [HXA.out]
    refine region_round (S := fun W => W.cell? ⟨w6.heap.size, 0, none⟩ = some (.slice (some ⟨gr, 0, none⟩) n cr) ∧ W.cell? ⟨gr, i * 2, none⟩ = some (.int .i64 a) ∧ W.cell? ⟨gr, i * 2 + 1, none⟩ = some (.int .i64 p) ∧ W.cell? ⟨gr, j * 2, none⟩ = some (.int .i64 b) ∧ W.cell? ⟨gr, j * 2 + 1, none⟩ = some (.int .i64 q) ∧ W.cell? ⟨w6.heap.size + 1 + 1, 0, none⟩ = some (.pointer (some ⟨w6.heap.size + 1, 0, none⟩)) ∧ W.cell? ⟨g, r, none⟩ = some (.int .i64 x) ∧ w6.heap.size < W.heap.size ∧ gr < W.heap.size ∧ w6.heap.size + 1 + 1 < W.heap.size ∧ g < W.heap.size) (by kernel_rfl) (by kernel_rfl) ?_ HS0.out (fun hHeld => ?_)
    · rintro ⟨_, _, _, (⟨h, _⟩ | ⟨h, _⟩)⟩ <;> cases h
    refine wpAnyH_take (i := 0) (v := ?_) rfl (by kernel_rfl) (by kernel_rfl) (by kernel_rfl) (fun _ _ _ h => h) (Or.inl ⟨by kernel_rfl, ?_⟩) (by assumption) ?_
    rotate_left
    · (intro w hSw; (try dsimp only at hSw); go_simp)
      try with_reducible rfl
    try simp only [Act.put, List.setIfInBounds_toArray, List.set_cons_zero, List.set_cons_succ, List.getElem_toArray, List.getElem_cons_zero]
    refine wpAnyH_take (i := 1) (v := ?_) rfl (by kernel_rfl) (by kernel_rfl) (by kernel_rfl) (fun _ _ _ h => h) (Or.inl ⟨by kernel_rfl, ?_⟩) (by assumption) ?_
    rotate_left
    · (intro w hSw; (try dsimp only at hSw); go_simp)
      try with_reducible rfl
    try simp only [Act.put, List.setIfInBounds_toArray, List.set_cons_zero, List.set_cons_succ, List.getElem_toArray, List.getElem_cons_zero, List.getElem_cons_succ]
    refine wpAnyH_take (i := 2) (v := ?_) rfl (by kernel_rfl) (by kernel_rfl) (by kernel_rfl) (fun _ _ _ h => h) (Or.inl ⟨by kernel_rfl, ?_⟩) (by assumption) ?_
    rotate_left
    · (intro w hSw; (try dsimp only at hSw); go_simp)
      try with_reducible rfl
    try simp only [Act.put, List.setIfInBounds_toArray, List.set_cons_zero, List.set_cons_succ, List.getElem_toArray, List.getElem_cons_zero, List.getElem_cons_succ]
    refine wpAnyH_take (i := 3) (v := ?_) rfl (by kernel_rfl) (by kernel_rfl) (by kernel_rfl) (fun _ _ _ h => h) (Or.inl ⟨by kernel_rfl, ?_⟩) (by assumption) ?_
    rotate_left
    · (intro w hSw; (try dsimp only at hSw); go_simp)
      try with_reducible rfl
    try simp only [Act.put, List.setIfInBounds_toArray, List.set_cons_zero, List.set_cons_succ, List.getElem_toArray, List.getElem_cons_zero, List.getElem_cons_succ]
    refine wpAnyH_take (i := 4) (v := ?_) rfl (by kernel_rfl) (by kernel_rfl) (by kernel_rfl) (fun _ _ _ h => h) (Or.inl ⟨by kernel_rfl, ?_⟩) (by assumption) ?_
    rotate_left
    · (intro w hSw; (try dsimp only at hSw); go_simp)
      try with_reducible rfl
    try simp only [Act.put, List.setIfInBounds_toArray, List.set_cons_zero, List.set_cons_succ, List.getElem_toArray, List.getElem_cons_zero, List.getElem_cons_succ]
    refine wpAnyH_take (i := 5) (v := ?_) rfl (by kernel_rfl) (by kernel_rfl) (by kernel_rfl) (fun _ _ _ h => h) (Or.inl ⟨by kernel_rfl, ?_⟩) (by assumption) ?_
    rotate_left
    · (intro w hSw; (try dsimp only at hSw); go_simp)
      try with_reducible rfl
    try simp only [Act.put, List.setIfInBounds_toArray, List.set_cons_zero, List.set_cons_succ, List.getElem_toArray, List.getElem_cons_zero, List.getElem_cons_succ]
    refine wpAnyH_take (i := 6) (v := ?_) rfl (by kernel_rfl) (by kernel_rfl) (by kernel_rfl) (fun _ _ _ h => h) (Or.inl ⟨by kernel_rfl, ?_⟩) (by assumption) ?_
    rotate_left
    · (intro w hSw; (try dsimp only at hSw); go_simp)
      try with_reducible rfl
    try simp only [Act.put, List.setIfInBounds_toArray, List.set_cons_zero, List.set_cons_succ, List.getElem_toArray, List.getElem_cons_zero, List.getElem_cons_succ]
    refine wpAnyH_take (i := 7) (v := ?_) rfl (by kernel_rfl) (by kernel_rfl) (by kernel_rfl) (fun _ _ _ h => h) (Or.inl ⟨by kernel_rfl, ?_⟩) (by assumption) ?_
    rotate_left
    · (intro w hSw; (try dsimp only at hSw); go_simp)
      try with_reducible rfl
    try simp only [Act.put, List.setIfInBounds_toArray, List.set_cons_zero, List.set_cons_succ, List.getElem_toArray, List.getElem_cons_zero, List.getElem_cons_succ]
    refine wpAnyH_take (i := 8) (v := ?_) rfl (by kernel_rfl) (by kernel_rfl) (by kernel_rfl) (fun _ _ _ h => h) (Or.inl ⟨by kernel_rfl, ?_⟩) (by assumption) ?_
    rotate_left
    · (intro w hSw; (try dsimp only at hSw); go_simp)
      try with_reducible rfl
    try simp only [Act.put, List.setIfInBounds_toArray, List.set_cons_zero, List.set_cons_succ, List.getElem_toArray, List.getElem_cons_zero, List.getElem_cons_succ]
    refine wpAnyH_take (i := 9) (v := ?_) rfl (by kernel_rfl) (by kernel_rfl) (by kernel_rfl) (fun _ _ _ h => h) (Or.inl ⟨by kernel_rfl, ?_⟩) (by assumption) ?_
    rotate_left
    · (intro w hSw; (try dsimp only at hSw); go_simp)
      try with_reducible rfl
    try simp only [Act.put, List.setIfInBounds_toArray, List.set_cons_zero, List.set_cons_succ, List.getElem_toArray, List.getElem_cons_zero, List.getElem_cons_succ]
    refine wpAnyH_take (i := 10) (v := ?_) rfl (by kernel_rfl) (by kernel_rfl) (by kernel_rfl) (fun _ _ _ h => h) (Or.inl ⟨by kernel_rfl, ?_⟩) (by assumption) ?_
    rotate_left
    · (intro w hSw; (try dsimp only at hSw); go_simp)
      try with_reducible rfl
    try simp only [Act.put, List.setIfInBounds_toArray, List.set_cons_zero, List.set_cons_succ, List.getElem_toArray, List.getElem_cons_zero, List.getElem_cons_succ]
    refine wpAnyH_ready (rs := [11]) (by kernel_rfl) (by simp) ?_
    refine AllReadyH.cons rfl (fun K hK => ?_) AllReadyH.nil
    go_simp
    go_at_call 120
    refine (at120_h (mb := w6.heap.size + 1) (g := g) (c := c) (L := L) (p := r) (HMg.out XA.drew HBX.out.drew).1 HL.out hn HIN.out HJN.out HIJ.out).mono ?_
    rintro e w4' ⟨rfl, HH4⟩
    have HB4' : Hid (Below W7.heap.size W7 w4') := HBX.out.drew.trans (HH4.out.2.mono HBX.out.drew.size)
    try dsimp only
    refine hK.out _ _ ((HMg.out w4' HB4'.out).2) (fun hHeld => ?_)
    clear hK K
    try simp only [Act.put, List.setIfInBounds_toArray, List.set_cons_zero, List.set_cons_succ, List.getElem_toArray, List.getElem_cons_zero, List.getElem_cons_succ]
    refine wpAnyH_take (i := 12) (v := ?_) rfl (by kernel_rfl) (by kernel_rfl) (by kernel_rfl) (fun _ _ _ h => h) (Or.inl ⟨by kernel_rfl, ?_⟩) (by assumption) ?_
    rotate_left
    · (intro w hSw; (try dsimp only at hSw); go_simp)
      try with_reducible rfl
    try simp only [Act.put, List.setIfInBounds_toArray, List.set_cons_zero, List.set_cons_succ, List.getElem_toArray, List.getElem_cons_zero, List.getElem_cons_succ]
    refine wpAnyH_take (i := 13) (v := ?_) rfl (by kernel_rfl) (by kernel_rfl) (by kernel_rfl) (fun _ _ _ h => h) (Or.inl ⟨by kernel_rfl, ?_⟩) (by assumption) ?_
    rotate_left
    · (intro w hSw; (try dsimp only at hSw); go_simp)
      try with_reducible rfl
    try simp only [Act.put, List.setIfInBounds_toArray, List.set_cons_zero, List.set_cons_succ, List.getElem_toArray, List.getElem_cons_zero, List.getElem_cons_succ]
    refine wpAnyH_ready (rs := [14]) (by kernel_rfl) (by simp) ?_
    refine AllReadyH.cons rfl (fun K hK => ?_) AllReadyH.nil
    go_simp
    go_at_call 119
    refine (keeps119_any HQA.out.2 HQB.out.2 HXC.out HQA.out.1 HQB.out.1).mono ?_
    rintro e w5' ⟨rfl, hb5'⟩
    have HB5' : Hid (Below W7.heap.size W7 w5') := HB4'.out.trans (hb5'.mono HB4'.out.size)
    have HSF : Hid (SameFrom W7.heap.size XA w5') := (SameFrom.below (w := XA.drew) HH4.out.2).trans (SameFrom.below hb5')
    clear hb5'
    try dsimp only
    refine hK.out _ _ ((HMg.out w5' HB5'.out).2) (fun hHeld => ?_)
    clear hK K
    try simp only [Act.put, List.setIfInBounds_toArray, List.set_cons_zero, List.set_cons_succ, List.getElem_toArray, List.getElem_cons_zero, List.getElem_cons_succ]
    refine wpAnyH_take (i := 15) (v := ?_) rfl (by kernel_rfl) (by kernel_rfl) (by kernel_rfl) (fun _ _ _ h => h) (Or.inl ⟨by kernel_rfl, ?_⟩) (by assumption) ?_
    rotate_left
    · (intro w hSw; (try dsimp only at hSw); go_simp)
      try with_reducible rfl
    try simp only [Act.put, List.setIfInBounds_toArray, List.set_cons_zero, List.set_cons_succ, List.getElem_toArray, List.getElem_cons_zero, List.getElem_cons_succ]
    refine wpAnyH_take (i := 16) (v := ?_) rfl (by kernel_rfl) (by kernel_rfl) (by kernel_rfl) (fun _ _ _ h => h) (Or.inl ⟨by kernel_rfl, ?_⟩) (by assumption) ?_
    rotate_left
    · (intro w hSw; (try dsimp only at hSw); go_simp)
      try with_reducible rfl
    try simp only [Act.put, List.setIfInBounds_toArray, List.set_cons_zero, List.set_cons_succ, List.getElem_toArray, List.getElem_cons_zero, List.getElem_cons_succ]
    refine wpAnyH_take (i := 17) (v := ?_) rfl (by kernel_rfl) (by kernel_rfl) (by kernel_rfl) (fun _ _ _ h => h) (Or.inl ⟨by kernel_rfl, ?_⟩) (by assumption) ?_
    rotate_left
    · (intro w hSw; (try dsimp only at hSw); go_simp)
      try with_reducible rfl
    try simp only [Act.put, List.setIfInBounds_toArray, List.set_cons_zero, List.set_cons_succ, List.getElem_toArray, List.getElem_cons_zero, List.getElem_cons_succ]
    refine wpAnyH_take (i := 18) (v := ?_) rfl (by kernel_rfl) (by kernel_rfl) (by kernel_rfl) (fun _ _ _ h => h) (Or.inl ⟨by kernel_rfl, ?_⟩) (by assumption) ?_
    rotate_left
    · (intro w hSw; (try dsimp only at hSw); go_simp)
      try with_reducible rfl
    try simp only [Act.put, List.setIfInBounds_toArray, List.set_cons_zero, List.set_cons_succ, List.getElem_toArray, List.getElem_cons_zero, List.getElem_cons_succ]
    refine wpAnyH_take (i := 19) (v := ?_) rfl (by kernel_rfl) (by kernel_rfl) (by kernel_rfl) (fun _ _ _ h => h) (Or.inl ⟨by kernel_rfl, ?_⟩) (by assumption) ?_
    rotate_left
    · (intro w hSw; (try dsimp only at hSw); go_simp)
      try with_reducible rfl
    try simp only [Act.put, List.setIfInBounds_toArray, List.set_cons_zero, List.set_cons_succ, List.getElem_toArray, List.getElem_cons_zero, List.getElem_cons_succ]
    refine wpAnyH_done (by kernel_rfl) ?_ _
    have hBw : Hid (Below W7.heap.size W7 w5') := HB5'.out
    obtain ⟨z, hz⟩ : ∃ z, keepsQ a p b q x = z := ⟨_, rfl⟩
    rw [hz]
    have HZv := Lib.hid hz
    clear hz
    obtain ⟨_, _, ha, hc, hb, _⟩ := HG.out w5' HB5'.out
    have HA := Lib.hid ha
    have HC := Lib.hid hc
    have HB := Lib.hid hb
    have hzw := HZW.out
    have h1 := Lib.cell_of_heap ha 0
    have h2 := Lib.cell_of_heap hc 0
    have hl1 : w.heap.size + 1 < w5'.heap.size := by have := HB5'.out.size; omega
    have hl2 : w.heap.size + 1 + 1 < w5'.heap.size := by have := HB5'.out.size; omega
    have f1 := Lib.frozen_of_heap ha 0
    have f2 := Lib.frozen_of_heap hc 0
    clear ha hc hb
    cases z with
    | true =>
      gi_wp2_with fail
      exact ⟨HSF.out.kept HZX.out, HYES.out HZv.out, HB5'.out⟩
    | false =>
      gi_wp2_with fail
      obtain ⟨k1, k2, k3, k4⟩ := two_set (x := .bool false) (y := .int .i64 0) HA.out HC.out (by omega)
      have hkz := HZX.out
      refine ⟨⟨by rw [k4]; exact HSF.out.1, fun b hb1 hb2 => (k3 b (by omega) (by omega)).trans (HSF.out.2 b hb1 (by omega))⟩, HNO.out HZv.out, (Array.getElem?_eq_some_iff.1 k1).2, (Array.getElem?_eq_some_iff.1 k2).2, below_two HB.out (by omega) (by omega)⟩
end Go.Proofs.YtockinpjfhhkoaaGreatDoor
