/- signal.Long and signal.On. -/
import Derived.Test.YtnpaoekblfflmaaSigC
namespace Go.Proofs.Ytnpaoekblfflmaa
open Go.RowKit Go.Shelf
attribute [local go_sem] Oper.semAt_some

theorem results_cell_tmp1 {fn : Func} {q u : Tmp} {ty : TypeId} (h : fn.results = #[.cell q ty, .tmp u]) {tmps : Array Value} {P : Program} {w : World} {a : Addr} {v x : Value} (hp : tmps.getD q undef = .pointer (some a)) (hu : tmps.getD u undef = x) (hagg : (isAgg ty).run P w = .ok false w)
    (hc : w.cell? a = some v) : (results fn tmps).run P w = .ok (.tuple #[v, x]) w := by
  have hp' : tmps[q]?.getD undef = .pointer (some a) := by simpa using hp
  have hu' : tmps[u]?.getD undef = x := by simpa using hu
  simp only [results, h]
  simp [Sem.run_bind, Result.andThen, hp', hu', asAddr, loadVar, hagg, hc, go_sem]

theorem results_cell2 {fn : Func} {q u : Tmp} {ty tz : TypeId} (h : fn.results = #[.cell q ty, .cell u tz]) {tmps : Array Value} {P : Program} {w : World} {a b : Addr} {v x : Value} (hp : tmps.getD q undef = .pointer (some a)) (hu : tmps.getD u undef = .pointer (some b)) (hagg : (isAgg ty).run P w = .ok false w) (hagz : (isAgg tz).run P w = .ok false w)
    (hc : w.cell? a = some v) (hx : w.cell? b = some x) : (results fn tmps).run P w = .ok (.tuple #[v, x]) w := by
  have hp' : tmps[q]?.getD undef = .pointer (some a) := by simpa using hp
  have hu' : tmps[u]?.getD undef = .pointer (some b) := by simpa using hu
  simp only [results, h]
  simp [Sem.run_bind, Result.andThen, hp', hu', asAddr, loadVar, hagg, hagz, hc, hx, go_sem]

/-- Where the last that came ends. -/
def endOf (pre : List (Int × Int × Int)) : Int := (pre.getLast?.map fun x => wrap64 (x.1 + x.2.1)).getD 0
theorem endOf_snoc (pre : List (Int × Int × Int)) (x : Int × Int × Int) : endOf (pre ++ [x]) = wrap64 (x.1 + x.2.1) := by simp [endOf]
theorem endOf_all (l : List (Int × Int)) (k : Nat) : endOf (itemsTo l k) = atOf l k := by
  cases k with
  | zero => rfl
  | succ k => rw [itemsTo_succ, endOf_snoc]; rfl

set_option maxRecDepth 100000 in
set_option maxHeartbeats 2000000 in
theorem long_ok (p : Int) (v : Value) (l : List (Int × Int)) (w : World) (hs : Segs w w.heap.size v l) (hck : checkP p l = 0) :
    Calls Try.prog 19 #[.int .i64 p, v] w fun e W' => e = .returned (.tuple #[.int .i64 (atOf l l.length), .int .i64 0]) ∧ Below w.heap.size w W' := by
  have h25 : Fence.wide.fn 25 := trivial
  have h34 : Fence.wide.fn 34 := trivial
  refine (callsIn_wide (n := 3)).1 ?_
  obtain ⟨W0, hW0⟩ : ∃ W0 : World, w.alloc (.cells #[.int .i64 0] 3) = W0 := ⟨_, rfl⟩
  have b0 : Below w.heap.size w W0 := by rw [← hW0]; exact (Below.refl _ _).alloc (Nat.le_refl _) _
  have hz0 : W0.heap.size = w.heap.size + 1 := by rw [← hW0]; simp
  have hS0 : Hid (Segs W0 W0.heap.size v l) := (hs.below b0).mono b0.size
  have hbe : Hid (Boxed W0 w.heap.size 3 (.int .i64 0)) := by rw [← hW0]; exact Boxed.new w 3 (.int .i64 0)
  obtain ⟨a, cap, rfl, hm, h, hr⟩ := hs
  have HH := Lib.hid h
  have HR := Lib.hid hr
  have HC := Lib.hid hck
  clear h hr hck
  refine callsIn_of_wp_marks Try.func19 rfl trivial ?_ rfl
  simp only [Try.ntmps19, List.size_toArray, List.length_cons, List.length_nil, Nat.reduceAdd, Nat.reduceSub, Array.replicate_succ, Array.replicate_zero, List.push_toArray, List.append_toArray, List.nil_append, List.cons_append]
  gi_wp2_with fail
  refine (callsIn_wide.2 (check_any p _ l W0 hS0.out)).mono ?_
  rintro e w1 ⟨rfl, hb1⟩
  rw [HC.out]
  have hbe1 : Boxed w1 w.heap.size 3 (.int .i64 0) := (hb1.block _ (by omega)).trans hbe.out
  clear hW0
  gi_wp2_with fail
  refine (begins_in Fence.wide 2 trivial rfl _ _ _ _).mono ?_
  rintro e w2 ⟨rfl, rfl⟩
  gi_wp2_with fail
  obtain ⟨X, hX⟩ : ∃ X : World, w1.alloc (.cells #[.slice a l.length cap] 29) = X := ⟨_, rfl⟩
  have hz1 : W0.heap.size ≤ w1.heap.size := hb1.size
  have zX : X.heap.size = w1.heap.size + 1 := by rw [← hX]; simp
  have bX : Below w.heap.size w X := by rw [← hX]; exact (b0.trans (hb1.mono (by omega))).alloc (by omega) _
  have beX : Boxed X w.heap.size 3 (.int .i64 0) := by rw [← hX]; exact hbe1.alloc _
  have bsX : X.cell? ⟨w1.heap.size, 0, none⟩ = some (.slice a l.length cap) := by rw [← hX]; simp [World.cell?_alloc_at]
  have SX : Segs X w.heap.size (.slice a l.length cap) l := ⟨a, cap, rfl, hm, by
    rcases HH.out with h | ⟨b, off, ha, hlt, hc⟩
    · exact .inl h
    · exact .inr ⟨b, off, ha, hlt, hc.below bX hlt⟩, HR.out⟩
  rw [hX]
  have HX := Lib.hid hX
  clear hX
  refine wpIn_rangeFunc_ownH rfl (by omega) (gf := 40) (lb := #[.pointer (some ⟨w1.heap.size, 0, none⟩)]) rfl trivial (enters_of Try.func40 (by kernel_rfl) rfl)
    (begins_stops Fence.wide 2 trivial rfl (by omega) w1.heap.size w.heap.size X.heap.size _ l X (by omega) (by omega) (Nat.le_refl _) bsX SX)
    kpD_t (kpD_b (by omega)) (Below.refl _ _) (fun _ => rfl)
    (fun pre W => Boxed W w.heap.size 3 (.int .i64 (endOf pre)) ∧ Below w.heap.size w W ∧ X.heap.size ≤ W.heap.size)
    (fun _ _ _ => False)
    (OwnFrom.and (Own.from (boxed_own _ _ _) _) (OwnFrom.and (ownFrom_below (Nat.le_refl _) (by omega)) (ownFrom_size _ _)))
    (fun _ _ _ _ _ hs _ _ => hs)
    ⟨beX, bX, Nat.le_refl _⟩
    (fun x a' W => ∃ Bx, X.heap.size ≤ Bx ∧ Seg1 W Bx x.2.1 x.2.2 ∧ a' = { tmps := #[Value.int .i64 p, Value.slice a l.length cap, undef, undef, Value.pointer (some ⟨w.heap.size, 0, none⟩), Value.int .i64 0, Value.int .i64 x.1, Value.pointer (some ⟨Bx, 0, none⟩), Value.int .i64 p, Value.slice a l.length cap, Value.int .i64 0, Value.int .i64 0, Value.bool false, Value.slice a l.length cap, Value.func (Fn.func 40) #[] #[Value.pointer (some ⟨w1.heap.size, 0, none⟩)], Value.int .i64 x.1, Value.agg #[Value.int .i64 x.2.1, Value.int .u8 x.2.2], undef, undef, undef, undef], defers := [] })
    ?hAx ?assign ?body ?done ?stop
  case hAx =>
    intro x a' _ A B row ⟨Bx, hBx, hs, ha⟩ hg hr
    exact ⟨Bx, hBx, Seg1.own X.heap.size () A B row hs hg hr, ha⟩
  case assign =>
    rintro l' pre x W K ⟨hi1, hi3, hi4⟩ hK
    simp only [encItem]
    gi_wp2
    have hzW := hi3.size
    exact hK _ _ ((KeepsOthers.alloc _ _).from _) (kpD_alloc W _ hzW) ⟨hi1.alloc _, hi3.alloc hzW _, by simp; omega⟩ ⟨W.heap.size, hi4, World.alloc_heap_new W _, rfl⟩
  case body =>
    rintro l' pre x a' W hl ⟨r, hr⟩ ⟨hbx, hB, hX4⟩ ⟨Bx, hBx, bx, rfl⟩ hlt
    have g0 := bx.c0
    have e1 := hbx.cell
    have e2 := hbx.frozen
    gi_wp2
    exact ⟨(KeepsOthers.setCell _ _ _).from _, kpD_setCell W _ _ (Nat.le_refl _) (by show w.heap.size < X.heap.size; omega), by rw [endOf_snoc]; exact hbx.set _, hB.setCell (p := ⟨w.heap.size, 0, none⟩) (Nat.le_refl _) _, by rw [World.size_setCell]; exact hX4⟩
  case done =>
    rintro D' xs W hD' rfl ⟨hbx, hB, _⟩ hK
    gi_wp2
    refine ⟨by simp, .inl ⟨_, _, rfl, run_takeDeferred hK, ?_⟩⟩
    refine ⟨_, results_cell_tmp1 rfl rfl rfl (Try.isAgg3 _) (boxed_putObj hbx hK rfl _).cell, ?_, ?_⟩
    · rw [endOf_all]; rfl
    · exact hB.trans (belowK_b (w := w) (Nat.le_refl _) _ D' _ _ (by omega) hK rfl rfl)
  case stop =>
    rintro D' c pre W hD' _ h hK
    exact h.elim

set_option maxHeartbeats 1000000 in
theorem long_err (p : Int) (v : Value) (l : List (Int × Int)) (w : World) (hs : Segs w w.heap.size v l) (hck : checkP p l ≠ 0) :
    Calls Try.prog 19 #[.int .i64 p, v] w fun e W' => e = .returned (.tuple #[.int .i64 0, .int .i64 (checkP p l)]) ∧ Below w.heap.size w W' := by
  obtain ⟨W0, hW0⟩ : ∃ W0 : World, w.alloc (.cells #[.int .i64 0] 3) = W0 := ⟨_, rfl⟩
  have b0 : Below w.heap.size w W0 := by rw [← hW0]; exact (Below.refl _ _).alloc (Nat.le_refl _) _
  have hz0 : W0.heap.size = w.heap.size + 1 := by rw [← hW0]; simp
  have hS0 : Hid (Segs W0 W0.heap.size v l) := (hs.below b0).mono b0.size
  have hbe : Hid (Boxed W0 w.heap.size 3 (.int .i64 0)) := by rw [← hW0]; exact Boxed.new w 3 (.int .i64 0)
  have hne : (checkP p l != 0) = true := by simpa using hck
  obtain ⟨a, cap, rfl, hm, h, hr⟩ := hs
  clear h hr hck
  go_enter Try.func19, Try.ntmps19
  go_wp2_with fail
  refine (check_any p _ l W0 hS0.out).mono ?_
  rintro e w1 ⟨rfl, hb1⟩
  have hbe1 : Boxed w1 w.heap.size 3 (.int .i64 0) := (hb1.block _ (by omega)).trans hbe.out
  clear hW0
  go_wp2_with fail
  exact bodyPost_ret (v := .tuple #[.int .i64 0, .int .i64 (checkP p l)]) (results_cell_tmp1 rfl rfl rfl (Try.isAgg3 _) hbe1.cell) rfl ⟨rfl, b0.trans (hb1.mono (by omega))⟩

/-- The signal is the same from 'at' on. -/
def inI (at_ : Int) (x : Int × Int × Int) : Bool := decide (x.1 ≤ at_) && decide (at_ < wrap64 (x.1 + x.2.1))

theorem find_prefix {l : List (Int × Int)} {f : Int × Int × Int → Bool} {k : Nat} {x : Int × Int × Int} (hk : k ≤ l.length) (h : (itemsTo l k).find? f = some x) : (itemsTo l l.length).find? f = some x := by
  have : itemsTo l l.length = itemsTo l k ++ ((List.range l.length).drop k).map (itemOf l) := by
    unfold itemsTo
    rw [← List.map_append]
    congr 1
    conv => lhs; rw [← List.take_append_drop k (List.range l.length)]
    congr 1
    rw [List.take_range, Nat.min_eq_left hk]
  rw [this, List.find?_append, h]
  rfl

/-- What holds from a moment on: of a signal that may be. -/
def onP (l : List (Int × Int)) (at_ : Int) : Int × Int := match (itemsTo l l.length).find? (inI at_) with | some x => (x.2.2, 0) | none => (0, 2)

set_option maxRecDepth 100000 in
set_option maxHeartbeats 2000000 in
theorem on_ok (p at_ : Int) (v : Value) (l : List (Int × Int)) (w : World) (hs : Segs w w.heap.size v l) (hck : checkP p l = 0) :
    Calls Try.prog 21 #[.int .i64 p, v, .int .i64 at_] w fun e W' => e = .returned (.tuple #[.int .u8 (onP l at_).1, .int .i64 (onP l at_).2]) ∧ Below w.heap.size w W' := by
  have h25 : Fence.wide.fn 25 := trivial
  have h34 : Fence.wide.fn 34 := trivial
  refine (callsIn_wide (n := 3)).1 ?_
  obtain ⟨W0, hW0⟩ : ∃ W0 : World, ((w.alloc (.cells #[.int .i64 at_] 3)).alloc (.cells #[.int .u8 0] 5)).alloc (.cells #[.int .i64 0] 30) = W0 := ⟨_, rfl⟩
  have b0 : Below w.heap.size w W0 := by rw [← hW0]; exact (below2' w _ _).alloc (by simp; omega) _
  have hz0 : W0.heap.size = w.heap.size + 3 := by rw [← hW0]; simp
  have hS0 : Hid (Segs W0 W0.heap.size v l) := (hs.below b0).mono b0.size
  have ha5 : Hid (Boxed W0 w.heap.size 3 (.int .i64 at_)) := by rw [← hW0]; exact ((Boxed.new w 3 (.int .i64 at_)).alloc _).alloc _
  have ha6 : Hid (Boxed W0 (w.heap.size + 1) 5 (.int .u8 0)) := by rw [← hW0]; have := (Boxed.new (w.alloc (.cells #[.int .i64 at_] 3)) 5 (.int .u8 0)).alloc (.cells #[.int .i64 0] 30); rwa [World.size_alloc] at this
  have ha7 : Hid (Boxed W0 (w.heap.size + 2) 30 (.int .i64 0)) := by rw [← hW0]; have := Boxed.new ((w.alloc (.cells #[.int .i64 at_] 3)).alloc (.cells #[.int .u8 0] 5)) 30 (.int .i64 0); rwa [World.size_alloc, World.size_alloc] at this
  obtain ⟨a, cap, rfl, hm, h, hr⟩ := hs
  have HH := Lib.hid h
  have HR := Lib.hid hr
  have HC := Lib.hid hck
  clear h hr hck
  refine callsIn_of_wp_marks Try.func21 rfl trivial ?_ rfl
  simp only [Try.ntmps21, List.size_toArray, List.length_cons, List.length_nil, Nat.reduceAdd, Nat.reduceSub, Array.replicate_succ, Array.replicate_zero, List.push_toArray, List.append_toArray, List.nil_append, List.cons_append]
  gi_wp2_with fail
  refine (callsIn_wide.2 (check_any p _ l W0 hS0.out)).mono ?_
  rintro e w1 ⟨rfl, hb1⟩
  rw [HC.out]
  have a5 : Boxed w1 w.heap.size 3 (.int .i64 at_) := (hb1.block _ (by omega)).trans ha5.out
  have a6 : Boxed w1 (w.heap.size + 1) 5 (.int .u8 0) := (hb1.block _ (by omega)).trans ha6.out
  have a7 : Boxed w1 (w.heap.size + 2) 30 (.int .i64 0) := (hb1.block _ (by omega)).trans ha7.out
  clear hW0
  gi_wp2_with fail
  refine (begins_in Fence.wide 2 trivial rfl _ _ _ _).mono ?_
  rintro e w2 ⟨rfl, rfl⟩
  gi_wp2_with fail
  obtain ⟨X, hX⟩ : ∃ X : World, w1.alloc (.cells #[.slice a l.length cap] 29) = X := ⟨_, rfl⟩
  have hz1 : W0.heap.size ≤ w1.heap.size := hb1.size
  have zX : X.heap.size = w1.heap.size + 1 := by rw [← hX]; simp
  have bX : Below w.heap.size w X := by rw [← hX]; exact (b0.trans (hb1.mono (by omega))).alloc (by omega) _
  have x5 : Boxed X w.heap.size 3 (.int .i64 at_) := by rw [← hX]; exact a5.alloc _
  have x6 : Boxed X (w.heap.size + 1) 5 (.int .u8 0) := by rw [← hX]; exact a6.alloc _
  have x7 : Boxed X (w.heap.size + 2) 30 (.int .i64 0) := by rw [← hX]; exact a7.alloc _
  have bsX : X.cell? ⟨w1.heap.size, 0, none⟩ = some (.slice a l.length cap) := by rw [← hX]; simp [World.cell?_alloc_at]
  have SX : Segs X w.heap.size (.slice a l.length cap) l := ⟨a, cap, rfl, hm, by
    rcases HH.out with h | ⟨b, off, ha, hlt, hc⟩
    · exact .inl h
    · exact .inr ⟨b, off, ha, hlt, hc.below bX hlt⟩, HR.out⟩
  rw [hX]
  have HX := Lib.hid hX
  clear hX
  refine wpIn_rangeFunc_ownH rfl (by omega) (gf := 40) (lb := #[.pointer (some ⟨w1.heap.size, 0, none⟩)]) rfl trivial (enters_of Try.func40 (by kernel_rfl) rfl)
    (begins_stops Fence.wide 2 trivial rfl (by omega) w1.heap.size w.heap.size X.heap.size _ l X (by omega) (by omega) (Nat.le_refl _) bsX SX)
    kpD_t (kpD_b (by omega)) (Below.refl _ _) (fun _ => rfl)
    (fun pre W => Boxed W w.heap.size 3 (.int .i64 at_) ∧ Boxed W (w.heap.size + 1) 5 (.int .u8 0) ∧ Boxed W (w.heap.size + 2) 30 (.int .i64 0) ∧ pre.find? (inI at_) = none ∧ Below w.heap.size w W ∧ X.heap.size ≤ W.heap.size)
    (fun c pre W => c = .ret ∧ (∃ x, pre.find? (inI at_) = some x ∧ Boxed W (w.heap.size + 1) 5 (.int .u8 x.2.2) ∧ Boxed W (w.heap.size + 2) 30 (.int .i64 0)) ∧ Below w.heap.size w W)
    (OwnFrom.and (Own.from (boxed_own _ _ _) _) (OwnFrom.and (Own.from (boxed_own _ _ _) _) (OwnFrom.and (Own.from (boxed_own _ _ _) _) (OwnFrom.and (ownFrom_pure _ _) (OwnFrom.and (ownFrom_below (Nat.le_refl _) (by omega)) (ownFrom_size _ _))))))
    (fun c => OwnFrom.and (ownFrom_pure _ _) (OwnFrom.and (fun s A B row ⟨x, hx, k1, k2⟩ hg hr => ⟨x, hx, Own.from (boxed_own (w.heap.size + 1) 5 (fun (_ : Unit) => Value.int .u8 x.2.2)) _ () A B row k1 hg hr, Own.from (boxed_own (w.heap.size + 2) 30 (fun (_ : Unit) => Value.int .i64 0)) _ () A B row k2 hg hr⟩) (ownFrom_below (Nat.le_refl _) (by omega))))
    ⟨x5, x6, x7, rfl, bX, Nat.le_refl _⟩
    (fun x a' W => ∃ Bx, X.heap.size ≤ Bx ∧ Seg1 W Bx x.2.1 x.2.2 ∧ a' = { tmps := #[Value.int .i64 p, Value.slice a l.length cap, Value.int .i64 at_, undef, undef, Value.pointer (some ⟨w.heap.size, 0, none⟩), Value.pointer (some ⟨w.heap.size + 1, 0, none⟩), Value.pointer (some ⟨w.heap.size + 2, 0, none⟩), Value.int .i64 0, Value.int .i64 x.1, Value.pointer (some ⟨Bx, 0, none⟩), Value.int .i64 p, Value.slice a l.length cap, Value.int .i64 0, Value.int .i64 0, Value.bool false, undef, Value.slice a l.length cap, Value.func (Fn.func 40) #[] #[Value.pointer (some ⟨w1.heap.size, 0, none⟩)], Value.int .i64 x.1, Value.agg #[Value.int .i64 x.2.1, Value.int .u8 x.2.2], undef, undef, undef, undef, undef, undef, undef, undef, undef, undef, undef, undef, undef], defers := [] })
    ?hAx ?assign ?body ?done ?stop
  case hAx =>
    intro x a' _ A B row ⟨Bx, hBx, hs, ha⟩ hg hr
    exact ⟨Bx, hBx, Seg1.own X.heap.size () A B row hs hg hr, ha⟩
  case assign =>
    rintro l' pre x W K ⟨hi1, hi2, hi5, hi6, hi3, hi4⟩ hK
    simp only [encItem]
    gi_wp2
    have hzW := hi3.size
    exact hK _ _ ((KeepsOthers.alloc _ _).from _) (kpD_alloc W _ hzW) ⟨hi1.alloc _, hi2.alloc _, hi5.alloc _, hi6, hi3.alloc hzW _, by simp; omega⟩ ⟨W.heap.size, hi4, World.alloc_heap_new W _, rfl⟩
  case body =>
    rintro l' pre x a' W hl ⟨r, hr⟩ ⟨hb5, hb6, hb7, hpre, hB, hX4⟩ ⟨Bx, hBx, bx, rfl⟩ hlt
    have g0 := bx.c0
    have g1 := bx.c1
    have e5 := hb5.cell
    have e1 := hb6.cell
    have e2 := hb6.frozen
    have e3 := hb7.cell
    have e4 := hb7.frozen
    have e3' : ∀ u, (W.setCell ⟨w.heap.size + 1, 0, none⟩ u).cell? ⟨w.heap.size + 2, 0, none⟩ = some (.int .i64 0) := fun u => (hb7.other (by omega) u).cell
    have e4' : ∀ u, (W.setCell ⟨w.heap.size + 1, 0, none⟩ u).frozen? ⟨w.heap.size + 2, 0, none⟩ = false := fun u => (hb7.other (by omega) u).frozen
    cases d1 : decide (x.1 ≤ at_)
    · have HF : Hid (inI at_ x = false) := by unfold inI; rw [d1]; rfl
      gi_wp2
      exact ⟨KeepsFrom.refl _ _, kpD_refl _, hb5, hb6, hb7, by rw [List.find?_append, hpre]; simp [HF.out], hB, hX4⟩
    · cases d2 : decide (at_ < wrap64 (x.1 + x.2.1))
      · have HF : Hid (inI at_ x = false) := by unfold inI; rw [d1, d2]; rfl
        gi_wp2
        exact ⟨KeepsFrom.refl _ _, kpD_refl _, hb5, hb6, hb7, by rw [List.find?_append, hpre]; simp [HF.out], hB, hX4⟩
      · have HF : Hid (inI at_ x = true) := by unfold inI; rw [d1, d2]; rfl
        gi_wp2
        exact ⟨((KeepsOthers.setCell _ _ _).trans (KeepsOthers.setCell _ _ _)).from _, rfl, ⟨x, by rw [List.find?_append, hpre]; simp [HF.out], (hb6.set _).other (by omega) _, (hb7.other (by omega) _).set _⟩,
          (hB.setCell (p := ⟨w.heap.size + 1, 0, none⟩) (by simp) _).setCell (p := ⟨w.heap.size + 2, 0, none⟩) (by simp) _⟩
  case done =>
    rintro D' xs W hD' rfl ⟨hb5, hb6, hb7, hpre, hB, _⟩ hK
    have e1 := hb6.cell
    have e2 := hb6.frozen
    have e3' : ∀ u, (W.setCell ⟨w.heap.size + 1, 0, none⟩ u).cell? ⟨w.heap.size + 2, 0, none⟩ = some (.int .i64 0) := fun u => (hb7.other (by omega) u).cell
    have e4' : ∀ u, (W.setCell ⟨w.heap.size + 1, 0, none⟩ u).frozen? ⟨w.heap.size + 2, 0, none⟩ = false := fun u => (hb7.other (by omega) u).frozen
    have HE : Hid (onP l at_ = (0, 2)) := by unfold onP; rw [hpre]; rfl
    gi_wp2
    have hK2 := ((KeepsOthers.setCell W ⟨w.heap.size + 1, 0, none⟩ (.int .u8 0)).trans (KeepsOthers.setCell _ ⟨w.heap.size + 2, 0, none⟩ (.int .i64 2))).same D' _ hK rfl
    refine ⟨by simp, .inl ⟨_, _, rfl, run_takeDeferred hK2, ?_⟩⟩
    refine ⟨_, results_cell2 rfl rfl rfl (Try.isAgg5 _) (Try.isAgg30 _) (boxed_putObj ((hb6.set (.int .u8 0)).other (by omega) _) hK2 rfl _).cell (boxed_putObj ((hb7.other (by omega) _).set (.int .i64 2)) hK2 rfl _).cell, ?_, ?_⟩
    · rw [HE.out]
    · exact ((hB.setCell (p := ⟨w.heap.size + 1, 0, none⟩) (by simp) _).setCell (p := ⟨w.heap.size + 2, 0, none⟩) (by simp) _).trans (belowK_b (w := w) (Nat.le_refl _) _ D' _ _ (by omega) hK2 rfl rfl)
  case stop =>
    rintro D' c pre W hD' ⟨k, hk, rfl⟩ ⟨rfl, ⟨x, hx, hb6, hb7⟩, hB⟩ hK
    have HE : Hid (onP l at_ = (x.2.2, 0)) := by unfold onP; rw [find_prefix hk hx]; rfl
    gi_wp2
    refine ⟨by simp, .inl ⟨_, _, rfl, run_takeDeferred hK, ?_⟩⟩
    refine ⟨_, results_cell2 rfl rfl rfl (Try.isAgg5 _) (Try.isAgg30 _) (boxed_putObj hb6 hK rfl _).cell (boxed_putObj hb7 hK rfl _).cell, ?_, ?_⟩
    · rw [HE.out]
    · exact hB.trans (belowK_b (w := w) (Nat.le_refl _) _ D' _ _ (by omega) hK rfl rfl)

set_option maxHeartbeats 1000000 in
theorem on_err (p at_ : Int) (v : Value) (l : List (Int × Int)) (w : World) (hs : Segs w w.heap.size v l) (hck : checkP p l ≠ 0) :
    Calls Try.prog 21 #[.int .i64 p, v, .int .i64 at_] w fun e W' => e = .returned (.tuple #[.int .u8 0, .int .i64 (checkP p l)]) ∧ Below w.heap.size w W' := by
  obtain ⟨W0, hW0⟩ : ∃ W0 : World, ((w.alloc (.cells #[.int .i64 at_] 3)).alloc (.cells #[.int .u8 0] 5)).alloc (.cells #[.int .i64 0] 30) = W0 := ⟨_, rfl⟩
  have b0 : Below w.heap.size w W0 := by rw [← hW0]; exact (below2' w _ _).alloc (by simp; omega) _
  have hz0 : W0.heap.size = w.heap.size + 3 := by rw [← hW0]; simp
  have hS0 : Hid (Segs W0 W0.heap.size v l) := (hs.below b0).mono b0.size
  have ha6 : Hid (Boxed W0 (w.heap.size + 1) 5 (.int .u8 0)) := by rw [← hW0]; have := (Boxed.new (w.alloc (.cells #[.int .i64 at_] 3)) 5 (.int .u8 0)).alloc (.cells #[.int .i64 0] 30); rwa [World.size_alloc] at this
  have ha7 : Hid (Boxed W0 (w.heap.size + 2) 30 (.int .i64 0)) := by rw [← hW0]; have := Boxed.new ((w.alloc (.cells #[.int .i64 at_] 3)).alloc (.cells #[.int .u8 0] 5)) 30 (.int .i64 0); rwa [World.size_alloc, World.size_alloc] at this
  have hne : (checkP p l != 0) = true := by simpa using hck
  obtain ⟨a, cap, rfl, hm, h, hr⟩ := hs
  clear h hr hck
  go_enter Try.func21, Try.ntmps21
  go_wp2_with fail
  refine (check_any p _ l W0 hS0.out).mono ?_
  rintro e w1 ⟨rfl, hb1⟩
  have hb6 : Boxed w1 (w.heap.size + 1) 5 (.int .u8 0) := (hb1.block _ (by omega)).trans ha6.out
  have hb7 : Boxed w1 (w.heap.size + 2) 30 (.int .i64 0) := (hb1.block _ (by omega)).trans ha7.out
  have e1 := hb6.cell
  have e2 := hb6.frozen
  have e3' : ∀ u, (w1.setCell ⟨w.heap.size + 1, 0, none⟩ u).cell? ⟨w.heap.size + 2, 0, none⟩ = some (.int .i64 0) := fun u => (hb7.other (by omega) u).cell
  have e4' : ∀ u, (w1.setCell ⟨w.heap.size + 1, 0, none⟩ u).frozen? ⟨w.heap.size + 2, 0, none⟩ = false := fun u => (hb7.other (by omega) u).frozen
  clear hW0
  go_wp2_with fail
  exact bodyPost_ret (v := .tuple #[.int .u8 0, .int .i64 (checkP p l)]) (results_cell2 rfl rfl rfl (Try.isAgg5 _) (Try.isAgg30 _) ((hb6.set (.int .u8 0)).other (by omega) _).cell ((hb7.other (by omega) _).set _).cell) rfl
    ⟨rfl, ((b0.trans (hb1.mono (by omega))).setCell (p := ⟨w.heap.size + 1, 0, none⟩) (by simp) _).setCell (p := ⟨w.heap.size + 2, 0, none⟩) (by simp) _⟩
end Go.Proofs.Ytnpaoekblfflmaa
