/- signal.begins and signal.Check. -/
import Derived.Test.YtnpaoekblfflmaaSigB
namespace Go.Proofs.Ytnpaoekblfflmaa
open Go.RowKit Go.Shelf
attribute [local go_sem] Oper.semAt_some

set_option maxRecDepth 100000 in
set_option maxHeartbeats 1000000 in
/-- .. at a slice of length 0: no round. -/
theorem begins1_nil_in (F : Fence) (n : Nat) (h40 : F.fn 40) (hro : F.round = none) (l Bs : Nat) (a : Option Addr) (cap : Nat) (J : List (Int × Int × Int) → World → Prop) (W : World) (hBs : W.cell? ⟨Bs, 0, none⟩ = some (.slice a 0 cap)) (h0 : J [] W) :
    CallsIn F n Try.prog 40 #[.func (.yield l) #[] #[], .pointer (some ⟨Bs, 0, none⟩)] W fun e W' => (∃ v, e = .returned v) ∧ J [] W' := by
  refine callsIn_of_wp Try.func40 rfl h40 ?_ hro
  simp only [Try.ntmps40, List.size_toArray, List.length_cons, List.length_nil, Nat.reduceAdd, Nat.reduceSub, Array.replicate_succ, Array.replicate_zero, List.push_toArray, List.append_toArray, List.nil_append, List.cons_append]
  gi_wp2
  gi_loopw [3, 8] (fun t i wr => t = .int .i64 0 ∧ i = .int .i64 0 ∧ J [] wr) (fun _ _ _ => 0)
  case atStart => exact ⟨rfl, rfl, h0⟩
  case round =>
    obtain ⟨rfl, rfl, hJs⟩ := hrel
    gi_wp2
    go_end0
    exact ⟨⟨_, rfl⟩, hJs⟩

set_option maxHeartbeats 1000000 in
/-- **begins(l)**: the slice value is boxed; the function value captures the box. -/
theorem begins_in (F : Fence) (n : Nat) (h34 : F.fn 34) (hro : F.round = none) (a : Option Addr) (len cap : Nat) (w : World) :
    CallsIn F n Try.prog 34 #[.slice a len cap] w fun e w' => e = .returned (.func (.func 40) #[] #[.pointer (some ⟨w.heap.size, 0, none⟩)]) ∧ w' = w.alloc (.cells #[.slice a len cap] 29) := by
  refine callsIn_of_wp Try.func34 rfl h34 ?_ hro
  simp only [Try.ntmps34, List.size_toArray, List.length_cons, List.length_nil, Nat.reduceAdd, Nat.reduceSub, Array.replicate_succ, Array.replicate_zero, List.push_toArray, List.append_toArray, List.nil_append, List.cons_append]
  gi_wp2
  go_ret
  exact ⟨rfl, rfl⟩

theorem begins_stops (F : Fence) (n : Nat) (h40 : F.fn 40) (hro : F.round = none) (hn : 1 ≤ n) (Bs n₀ D : Nat) (sv : Value) (zs : List (Int × Int)) (w : World) (hBs : Bs < w.heap.size) (hn₀ : n₀ ≤ w.heap.size) (hD : D ≤ w.heap.size)
    (hc : w.cell? ⟨Bs, 0, none⟩ = some sv) (hI : Segs w n₀ sv zs) :
    SeqStopsK F n Try.prog 40 #[.pointer (some ⟨Bs, 0, none⟩)] encItem (KpD n₀ D) (fun ys => ys = itemsTo zs zs.length)
      (fun pre => ∃ k, k ≤ zs.length ∧ pre = itemsTo zs k) zs.length w := fun l J Jx W hW hJ _ hY h0 => by
  have hc' := (hW.cell (p := ⟨Bs, 0, none⟩) hBs).trans hc
  obtain ⟨a, cap, rfl, hm, h, _⟩ := hI.below (hW.mono hn₀)
  rcases h with rfl | ⟨b, off, rfl, hb, hcs⟩
  · exact (begins1_nil_in F n h40 hro l Bs a cap J W hc' h0).mono fun e W' ⟨he, hj⟩ => ⟨he, .inl ⟨_, rfl, hj⟩⟩
  · exact begins1_in F n h40 hro hn l Bs n₀ D b off cap zs hm hb J Jx W (Nat.le_trans hD hW.size) (Nat.le_trans hn₀ hW.size) hJ hY hc' hcs h0

theorem results_cell1 {fn : Func} {q : Tmp} {ty : TypeId} (h : fn.results = #[.cell q ty]) {tmps : Array Value} {P : Program} {w : World} {a : Addr} {v : Value} (hp : tmps.getD q undef = .pointer (some a)) (hagg : (isAgg ty).run P w = .ok false w)
    (hc : w.cell? a = some v) : (results fn tmps).run P w = .ok v w := by
  have hp' : tmps[q]?.getD undef = .pointer (some a) := by simpa using hp
  simp only [results, h]
  simp [Sem.run_bind, Result.andThen, hp', asAddr, loadVar, hagg, hc, go_sem]

/-- A variable's box behind the turn of a block that holds no cells. -/
theorem boxed_putObj {W : World} {B D : Nat} {t : TypeId} {v : Value} {o : Obj} (h : Boxed W B t v) (hD : W.heap[D]? = some o) (ho : o.isCells = false) (o' : Obj) : Boxed (W.putObj D o') B t v :=
  h.kept (grownBy_putObj' W D o') (fun e => by
    cases e
    have hB : W.heap[B]? = some (.cells #[v] t (0, 0)) := h
    rw [hB] at hD; cases hD; cases ho)

/-- A block of one struct, a segment, as the loop's variable has it. -/
def Seg1 (W : World) (B : Nat) (x y : Int) : Prop := W.heap[B]? = some (.cells #[.int .i64 x, .int .u8 y] 39)
theorem Seg1.c0 {W : World} {B : Nat} {x y : Int} (h : Seg1 W B x y) : W.cell? ⟨B, 0, none⟩ = some (.int .i64 x) := by simp [World.cell?, show W.heap[B]? = _ from h]
theorem Seg1.c1 {W : World} {B : Nat} {x y : Int} (h : Seg1 W B x y) : W.cell? ⟨B, 1, none⟩ = some (.int .u8 y) := by simp [World.cell?, show W.heap[B]? = _ from h]
theorem Seg1.own {B : Nat} {x y : Int} (B' : Nat) : OwnFrom B' (fun (_ : Unit) W => Seg1 W B x y) := fun _ X Y row hs hg hr => by
  have hX : X.heap[B]? = _ := hs
  refine (hg.block B (Array.getElem?_eq_some_iff.1 hX).1 (fun e => ?_)).trans hX
  obtain ⟨_, o, ho, hc⟩ := hr B e.symm
  rw [hX] at ho; cases ho; cases hc
theorem kpD_alloc {n₀ D : Nat} (W : World) (o : Obj) (hn : n₀ ≤ W.heap.size) : KpD n₀ D W (W.alloc o) :=
  ⟨(Below.refl n₀ W).alloc hn o, fun k _ _ h2 _ => (Below.heap_alloc W o k (Array.getElem?_eq_some_iff.1 h2).1).trans h2⟩
theorem kpD_setCell {n₀ D : Nat} (W : World) (a : Addr) (u : Value) (hn : n₀ ≤ a.block) (hD : a.block < D) : KpD n₀ D W (W.setCell a u) :=
  ⟨(Below.refl n₀ W).setCell hn u, fun k _ hk h2 _ => (Below.heap_setCell W a u k (by omega)).trans h2⟩
theorem kpD_refl {n₀ D : Nat} (W : World) : KpD n₀ D W W := ⟨Below.refl _ _, fun _ _ _ h _ => h⟩

theorem itemsTo_any {l : List (Int × Int)} {f : Int × Int × Int → Bool} {k : Nat} (hk : k ≤ l.length) (h : (itemsTo l k).any f = true) : (itemsTo l l.length).any f = true := by
  rw [List.any_eq_true] at h ⊢
  obtain ⟨x, hx, hf⟩ := h
  refine ⟨x, ?_, hf⟩
  simp only [itemsTo, List.mem_map, List.mem_range] at hx ⊢
  obtain ⟨j, hj, e⟩ := hx
  exact ⟨j, by omega, e⟩

theorem ownFrom_size {β : Type} (B m : Nat) : OwnFrom B (fun (_ : β) W => m ≤ W.heap.size) := fun _ _ _ _ hs hg _ => Nat.le_trans hs hg.size

/-- The segment that begins at x.1 goes to the horizon. -/
def farI (x : Int × Int × Int) : Bool := decide (wrap64 (288230376151711744 - x.1) ≤ x.2.1)

def farE (l : List (Int × Int)) : Int := if (itemsTo l l.length).any farI then 220 else 0

def checkP (p : Int) (l : List (Int × Int)) : Int :=
  if p < 0 ∨ 8 < p then 2 else if 1024 < l.length then 4 else if l.any (badB p) then 8 else farE l

set_option maxRecDepth 100000 in
set_option maxHeartbeats 2000000 in
theorem check_far_in (F : Fence) (n : Nat) (h25 : F.fn 25) (h34 : F.fn 34) (h38 : F.fn 38) (h40 : F.fn 40) (hw : F = Fence.wide) (hro : F.round = none) (hn : 3 ≤ n) (p : Int) (v : Value) (l : List (Int × Int)) (w : World) (hs : Segs w w.heap.size v l)
    (hp0 : 0 ≤ p) (hp8 : p ≤ 8) (hlen : l.length ≤ 1024) (hany : l.any (badB p) = false) :
    CallsIn F n Try.prog 25 #[.int .i64 p, v] w fun e W' => e = .returned (.int .i64 (farE l)) ∧ Below w.heap.size w W' := by
  subst hw
  have h1 : 1 ≤ n := by omega
  obtain ⟨W0, hW0⟩ : ∃ W0 : World, (w.alloc (.cells #[.int .i64 p] 3)).alloc (.cells #[.int .i64 0] 30) = W0 := ⟨_, rfl⟩
  have b0 : Below w.heap.size w W0 := by rw [← hW0]; exact ((Below.refl _ _).alloc (Nat.le_refl _) _).alloc (by simp) _
  have hS0 : Hid (Segs W0 W0.heap.size v l) := (hs.below b0).mono b0.size
  obtain ⟨a, cap, rfl, hm, h, hr⟩ := hs
  have HL := Lib.hid hlen
  have HA := Lib.hid hany
  have HH := Lib.hid h
  have HR := Lib.hid hr
  clear hany h hr
  have d1 : decide (p < 0) = false := by simp; omega
  have d2 : decide (8 < p) = false := by simp; omega
  have d3 : decide (1024 < (l.length : Int)) = false := by simp; omega
  have hbe : Boxed W0 (w.heap.size + 1) 30 (.int .i64 0) := by rw [← hW0]; have := Boxed.new (w.alloc (.cells #[.int .i64 p] 3)) 30 (.int .i64 0); rwa [World.size_alloc] at this
  have hz0 : W0.heap.size = w.heap.size + 2 := by rw [← hW0]; simp
  have HBE := Lib.hid hbe
  clear hbe
  have hcp : W0.cell? ⟨w.heap.size, 0, none⟩ = some (.int .i64 p) := by rw [← hW0]; simp [World.cell?_alloc_past, World.cell?_alloc_at]
  refine callsIn_of_wp_marks Try.func25 rfl h25 ?_ hro
  simp only [Try.ntmps25, List.size_toArray, List.length_cons, List.length_nil, Nat.reduceAdd, Nat.reduceSub, Array.replicate_succ, Array.replicate_zero, List.push_toArray, List.append_toArray, List.nil_append, List.cons_append]
  gi_wp2_with fail
  refine (callsIn_wide.2 (containsFunc_any _ l p w.heap.size W0 hS0.out hp0 hp8 hcp (by rw [← hW0]; simp; omega))).mono ?_
  rintro e w1 ⟨rfl, hb1⟩
  rw [HA.out]
  clear hW0 hcp
  gi_wp2_with fail
  refine (begins_in Fence.wide (n - 1) h34 hro _ _ _ _).mono ?_
  rintro e w2 ⟨rfl, rfl⟩
  gi_wp2_with fail
  have hbe1 : Boxed w1 (w.heap.size + 1) 30 (.int .i64 0) := (hb1.block _ (by omega)).trans HBE.out
  obtain ⟨X, hX⟩ : ∃ X : World, w1.alloc (.cells #[.slice a l.length cap] 29) = X := ⟨_, rfl⟩
  have hz1 : W0.heap.size ≤ w1.heap.size := hb1.size
  have zX : X.heap.size = w1.heap.size + 1 := by rw [← hX]; simp
  have bX : Below w.heap.size w X := by rw [← hX]; exact (b0.trans (hb1.mono (by omega))).alloc (by omega) _
  have beX : Boxed X (w.heap.size + 1) 30 (.int .i64 0) := by rw [← hX]; exact hbe1.alloc _
  have bsX : X.cell? ⟨w1.heap.size, 0, none⟩ = some (.slice a l.length cap) := by rw [← hX]; simp [World.cell?_alloc_at]
  have SX : Segs X w.heap.size (.slice a l.length cap) l := ⟨a, cap, rfl, hm, by
    rcases HH.out with h | ⟨b, off, ha, hlt, hc⟩
    · exact .inl h
    · exact .inr ⟨b, off, ha, hlt, hc.below bX hlt⟩, HR.out⟩
  rw [hX]
  have HX := Lib.hid hX
  clear hX
  refine wpIn_rangeFunc_ownH hro h1 (gf := 40) (lb := #[.pointer (some ⟨w1.heap.size, 0, none⟩)]) rfl h40 (enters_of Try.func40 (by kernel_rfl) rfl)
    (begins_stops Fence.wide (n - 1) h40 hro (by omega) w1.heap.size w.heap.size X.heap.size _ l X (by omega) (by omega) (Nat.le_refl _) bsX SX)
    kpD_t (kpD_b (by omega)) (Below.refl _ _) (fun _ => rfl)
    (fun pre W => Boxed W (w.heap.size + 1) 30 (.int .i64 0) ∧ pre.any farI = false ∧ Below w.heap.size w W ∧ X.heap.size ≤ W.heap.size)
    (fun c pre W => c = .ret ∧ Boxed W (w.heap.size + 1) 30 (.int .i64 220) ∧ pre.any farI = true ∧ Below w.heap.size w W)
    (OwnFrom.and (Own.from (boxed_own _ _ _) _) (OwnFrom.and (ownFrom_pure _ _) (OwnFrom.and (ownFrom_below (Nat.le_refl _) (by omega)) (ownFrom_size _ _))))
    (fun c => OwnFrom.and (ownFrom_pure _ _) (OwnFrom.and (Own.from (boxed_own _ _ _) _) (OwnFrom.and (ownFrom_pure _ _) (ownFrom_below (Nat.le_refl _) (by omega)))))
    ⟨beX, rfl, bX, Nat.le_refl _⟩
    (fun x a' W => ∃ Bx, X.heap.size ≤ Bx ∧ Seg1 W Bx x.2.1 x.2.2 ∧ a' = { tmps := #[Value.int .i64 p, Value.slice a l.length cap, Value.pointer (some ⟨w.heap.size, 0, none⟩), undef, Value.pointer (some ⟨w.heap.size + 1, 0, none⟩), Value.int .i64 x.1, Value.pointer (some ⟨Bx, 0, none⟩), Value.bool false, Value.int .i64 p, Value.bool false, Value.bool false, Value.int .i64 p, Value.bool false, Value.bool false, Value.bool false, Value.slice a l.length cap, Value.int .i64 ↑l.length, Value.bool false, Value.bool false, Value.slice a l.length cap, Value.func (Fn.func 39) #[] #[Value.pointer (some ⟨w.heap.size, 0, none⟩)], Value.bool false, Value.slice a l.length cap, Value.func (Fn.func 40) #[] #[Value.pointer (some ⟨w1.heap.size, 0, none⟩)], Value.int .i64 x.1, Value.agg #[Value.int .i64 x.2.1, Value.int .u8 x.2.2], undef, undef, undef, undef, undef], defers := [] })
    ?hAx ?assign ?body ?done ?stop
  case hAx =>
    intro x a' _ A B row ⟨Bx, hBx, hs, ha⟩ hg hr
    exact ⟨Bx, hBx, Seg1.own X.heap.size () A B row hs hg hr, ha⟩
  case assign =>
    rintro l' pre x W K ⟨hi1, hi2, hi3, hi4⟩ hK
    simp only [encItem]
    gi_wp2
    have hzW := hi3.size
    refine hK _ _ ((KeepsOthers.alloc _ _).from _) (kpD_alloc W _ hzW) ⟨hi1.alloc _, hi2, hi3.alloc hzW _, by simp; omega⟩ ⟨W.heap.size, hi4, World.alloc_heap_new W _, rfl⟩
  case body =>
    rintro l' pre x a' W hl ⟨r, hr⟩ ⟨hbx, hpre, hB, hX4⟩ ⟨Bx, hBx, bx, rfl⟩ hlt
    have g0 := bx.c0
    have e1 := hbx.cell
    have e2 := hbx.frozen
    cases hf : farI x
    · have HF : Hid (farI x = false) := hf
      have hlt : decide (wrap64 (288230376151711744 - x.1) ≤ x.2.1) = false := hf
      clear hf
      gi_wp2
      exact ⟨KeepsFrom.refl _ _, kpD_refl _, hbx, by rw [List.any_append, hpre]; simp [HF.out], hB, hX4⟩
    · have HF : Hid (farI x = true) := hf
      have hlt : decide (wrap64 (288230376151711744 - x.1) ≤ x.2.1) = true := hf
      clear hf
      gi_wp2
      exact ⟨(KeepsOthers.setCell _ _ _).from _, rfl, hbx.set _, by rw [List.any_append]; simp [HF.out], hB.setCell (p := ⟨w.heap.size + 1, 0, none⟩) (by simp) _⟩
  case done =>
    rintro D' xs W hD' rfl ⟨hbx, hpre, hB, _⟩ hK
    have e1 := hbx.cell
    have e2 := hbx.frozen
    gi_wp2
    have hK2 := (KeepsOthers.setCell W ⟨w.heap.size + 1, 0, none⟩ (.int .i64 0)).same D' _ hK rfl
    refine ⟨by simp, .inl ⟨_, _, rfl, run_takeDeferred hK2, ?_⟩⟩
    refine ⟨_, results_cell1 rfl rfl (Try.isAgg30 _) (boxed_putObj (hbx.set (.int .i64 0)) hK2 rfl _).cell, ?_, ?_⟩
    · have : Hid (farE l = 0) := by unfold farE; rw [hpre]; rfl
      rw [this.out]
    · exact (hB.setCell (p := ⟨w.heap.size + 1, 0, none⟩) (by simp) _).trans (belowK_b (w := w) (Nat.le_refl _) _ D' _ _ (by omega) hK2 rfl rfl)
  case stop =>
    rintro D' c pre W hD' ⟨k, hk, rfl⟩ ⟨rfl, hbx, hpre, hB⟩ hK
    have e1 := hbx.cell
    have e2 := hbx.frozen
    gi_wp2
    refine ⟨by simp, .inl ⟨_, _, rfl, run_takeDeferred hK, ?_⟩⟩
    refine ⟨_, results_cell1 rfl rfl (Try.isAgg30 _) (boxed_putObj hbx hK rfl _).cell, ?_, ?_⟩
    · have : Hid (farE l = 220) := by unfold farE; rw [itemsTo_any hk hpre]; rfl
      rw [this.out]
    · exact hB.trans (belowK_b (w := w) (Nat.le_refl _) _ D' _ _ (by omega) hK rfl rfl)

theorem checkP_arg {p : Int} {l : List (Int × Int)} (h : p < 0 ∨ 8 < p) : checkP p l = 2 := by rw [checkP, if_pos h]
theorem checkP_many {p : Int} {l : List (Int × Int)} (h : ¬(p < 0 ∨ 8 < p)) (h2 : 1024 < l.length) : checkP p l = 4 := by rw [checkP, if_neg h, if_pos h2]
theorem checkP_bad {p : Int} {l : List (Int × Int)} (h : ¬(p < 0 ∨ 8 < p)) (h2 : ¬1024 < l.length) (h3 : l.any (badB p) = true) : checkP p l = 8 := by rw [checkP, if_neg h, if_neg h2, if_pos h3]
theorem checkP_far {p : Int} {l : List (Int × Int)} (h : ¬(p < 0 ∨ 8 < p)) (h2 : ¬1024 < l.length) (h3 : l.any (badB p) = false) : checkP p l = farE l := by rw [checkP, if_neg h, if_neg h2, h3]; rfl

theorem below2' (w : World) (o o' : Obj) : Below w.heap.size w ((w.alloc o).alloc o') := ((Below.refl _ _).alloc (Nat.le_refl _) o).alloc (by simp) o'

set_option maxHeartbeats 1000000 in
theorem check_any (p : Int) (v : Value) (l : List (Int × Int)) (w : World) (hs : Segs w w.heap.size v l) :
    Calls Try.prog 25 #[.int .i64 p, v] w fun e W' => e = .returned (.int .i64 (checkP p l)) ∧ Below w.heap.size w W' := by
  by_cases hp : p < 0 ∨ 8 < p
  · have HE := Lib.hid (checkP_arg (l := l) hp)
    rw [HE.out]
    obtain ⟨a, cap, rfl, hm, h, hr⟩ := hs
    clear h hr
    by_cases hp0 : p < 0
    · have d1 : decide (p < 0) = true := by simpa using hp0
      clear hp
      go_enter Try.func25, Try.ntmps25
      go_wp2_with fail
      exact bodyPost_ret (v := .int .i64 2) (results_cell1 rfl rfl (Try.isAgg30 _) (by simp [World.cell?_alloc_at])) rfl ⟨rfl, below2' _ _ _⟩
    · have d1 : decide (p < 0) = false := by simpa using hp0
      have d2 : decide (8 < p) = true := by simp; omega
      clear hp
      go_enter Try.func25, Try.ntmps25
      go_wp2_with fail
      exact bodyPost_ret (v := .int .i64 2) (results_cell1 rfl rfl (Try.isAgg30 _) (by simp [World.cell?_alloc_at])) rfl ⟨rfl, below2' _ _ _⟩
  · have d1 : decide (p < 0) = false := by simp; omega
    have d2 : decide (8 < p) = false := by simp; omega
    by_cases hlen : 1024 < l.length
    · have HE := Lib.hid (checkP_many hp hlen)
      rw [HE.out]
      obtain ⟨a, cap, rfl, hm, h, hr⟩ := hs
      clear h hr hp
      have d3 : decide (1024 < (l.length : Int)) = true := by simp; omega
      go_enter Try.func25, Try.ntmps25
      go_wp2_with fail
      exact bodyPost_ret (v := .int .i64 4) (results_cell1 rfl rfl (Try.isAgg30 _) (by simp [World.cell?_alloc_at])) rfl ⟨rfl, below2' _ _ _⟩
    · cases hany : l.any (badB p)
      · refine (callsIn_wide (n := 3)).1 ((check_far_in Fence.wide 3 trivial trivial trivial trivial rfl rfl (by omega) p v l w hs (by omega) (by omega) (by omega) hany).mono ?_)
        rintro e W' ⟨he, hb⟩
        exact ⟨by rw [he, checkP_far hp hlen hany], hb⟩
      · have HE := Lib.hid (checkP_bad hp hlen hany)
        rw [HE.out]
        obtain ⟨W0, hW0⟩ : ∃ W0 : World, (w.alloc (.cells #[.int .i64 p] 3)).alloc (.cells #[.int .i64 0] 30) = W0 := ⟨_, rfl⟩
        have b0 : Below w.heap.size w W0 := by rw [← hW0]; exact below2' _ _ _
        have hS0 : Hid (Segs W0 W0.heap.size v l) := (hs.below b0).mono b0.size
        obtain ⟨a, cap, rfl, hm, h, hr⟩ := hs
        have d3 : decide (1024 < (l.length : Int)) = false := by simp; omega
        have HA := Lib.hid hany
        have hcp : W0.cell? ⟨w.heap.size, 0, none⟩ = some (.int .i64 p) := by rw [← hW0]; simp [World.cell?_alloc_past, World.cell?_alloc_at]
        have hbe : Boxed W0 (w.heap.size + 1) 30 (.int .i64 0) := by rw [← hW0]; have := Boxed.new (w.alloc (.cells #[.int .i64 p] 3)) 30 (.int .i64 0); rwa [World.size_alloc] at this
        have hz0 : W0.heap.size = w.heap.size + 2 := by rw [← hW0]; simp
        have HBE := Lib.hid hbe
        have hp0 : 0 ≤ p := by omega
        have hp8 : p ≤ 8 := by omega
        clear h hr hp hany hlen hbe
        go_enter Try.func25, Try.ntmps25
        go_wp2_with fail
        refine (containsFunc_any _ l p w.heap.size W0 hS0.out hp0 hp8 hcp (by omega)).mono ?_
        rintro e w1 ⟨rfl, hb1⟩
        rw [HA.out]
        have hbe1 : Boxed w1 (w.heap.size + 1) 30 (.int .i64 0) := (hb1.block _ (by omega)).trans HBE.out
        have e1 := hbe1.cell
        have e2 := hbe1.frozen
        clear hW0 hcp
        go_wp2_with fail
        exact bodyPost_ret (v := .int .i64 8) (results_cell1 rfl rfl (Try.isAgg30 _) (hbe1.set (.int .i64 8)).cell) rfl ⟨rfl, (b0.trans (hb1.mono (by omega))).setCell (p := ⟨w.heap.size + 1, 0, none⟩) (by simp) _⟩
end Go.Proofs.Ytnpaoekblfflmaa
