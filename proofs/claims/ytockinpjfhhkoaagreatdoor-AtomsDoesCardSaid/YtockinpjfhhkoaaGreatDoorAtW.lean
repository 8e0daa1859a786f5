/- dbm.Keeps walked. (Printed by gen_atw.py.) -/
import Derived.Maps.OwnIn
import Derived.Test.YtockinpjfhhkoaaGreatDoorMhC
import Derived.Test.YtockinpjfhhkoaaGreatDoorMiK
import Derived.Test.YtockinpjfhhkoaaGreatDoorMiM
namespace Go.Proofs.YtockinpjfhhkoaaGreatDoor
open Go.RowKit Go.Shelf

set_option maxRecDepth 100000 in
theorem clo117_any (a p : Int) (w : World) (ha : in64 a) (h : mayQ a p = true) : Calls Tryz.prog 117 #[.agg #[.int .i64 a, .int .i64 p]] w fun e w' => e = .returned (.bool false) ∧ Below w.heap.size w w' := by
  have HB := Lib.hid (belowA w (.cells #[.int .i64 a, .int .i64 p] 50))
  have HC := Lib.hid (check52_any a p (w.alloc (.cells #[.int .i64 a, .int .i64 p] 50)) ha)
  have HE := Lib.hid (ratE_ok h)
  rw [HE.out] at HC
  clear ha h
  go_enter Tryz.func117, Tryz.ntmps117
  go_wp2_with fail
  refine HC.out.mono ?_
  rintro e w1 ⟨rfl, hb1⟩
  have HB1 := Lib.hid (HB.out.trans (hb1.mono HB.out.size))
  clear hb1
  go_wp2_with fail
  all_goals go_ret
  all_goals exact ⟨rfl, HB1.out⟩
set_option maxRecDepth 100000 in
set_option maxHeartbeats 2000000 in
theorem index185_any {b c : Nat} {l : List (Int × Int)} {w : World} (h : RatR w b l) (hl : l.length ≤ 100) (hr : ∀ x ∈ l, in64 x.1 ∧ mayQ x.1 x.2 = true) :
    Calls Tryz.prog 185 #[.slice (some ⟨b, 0, none⟩) l.length c, .func (.func 117) #[] #[]] w fun e w' => e = .returned (.int .i64 (-1)) ∧ Below w.heap.size w w' := by
  have H := Lib.hid h
  have HR := Lib.hid hr
  have hbl := h.1
  clear h hr
  go_enter Tryz.func185, Tryz.ntmps185
  go_wp2_with fail
  go_loopw [8] (fun i wr => ∃ k : Nat, k ≤ l.length ∧ i = .int .i64 k ∧ Hid (Below w.heap.size w wr)) (fun i _ => l.length - (intOf i).toNat)
  case atStart => exact ⟨0, Nat.zero_le _, rfl, Below.refl _ _⟩
  case round =>
    obtain ⟨k, hk, rfl, HB⟩ := hrel
    have hz := HB.out.size
    by_cases hlt : k < l.length
    · obtain ⟨c1, c2⟩ := (H.out.below HB.out).2 k hlt
      obtain ⟨a, p, hap⟩ : ∃ a p, l[k] = (a, p) := ⟨_, _, rfl⟩
      have ha := HR.out _ (List.getElem_mem hlt)
      rw [hap] at c1 c2 ha
      dsimp only at c1 c2 ha
      have HC := Lib.hid (clo117_any a p wr ha.1 ha.2)
      have hbl2 : b < wr.heap.size := by omega
      have hlti : (k : Int) < (l.length : Int) := by omega
      clear hap ha
      go_wp2_with fail
      refine HC.out.mono ?_
      rintro e w1 ⟨rfl, hb1⟩
      have HB1 := Lib.hid (HB.out.trans (hb1.mono hz))
      clear hb1 c1 c2
      go_wp2_with fail
      go_roundw
      case rel => exact ⟨k + 1, by omega, by go_num, HB1⟩
      case measure => simp [intOf]; omega
    · go_wp2_with fail
      go_ret
      exact ⟨rfl, HB.out⟩
set_option maxRecDepth 100000 in
theorem contains116_any {b c : Nat} {l : List (Int × Int)} {w : World} (h : RatR w b l) (hl : l.length ≤ 100) (hr : ∀ x ∈ l, in64 x.1 ∧ mayQ x.1 x.2 = true) :
    Calls Tryz.prog 116 #[.slice (some ⟨b, 0, none⟩) l.length c, .func (.func 117) #[] #[]] w fun e w' => e = .returned (.bool false) ∧ Below w.heap.size w w' := by
  have H := Lib.hid (index185_any (c := c) h hl hr)
  clear h hr
  go_enter Tryz.func116, Tryz.ntmps116
  go_wp2_with fail
  refine H.out.mono ?_
  rintro e w1 ⟨rfl, hb1⟩
  go_wp2_with fail
  all_goals go_ret
  all_goals exact ⟨rfl, hb1⟩

theorem info50 : (Tryz.prog.info? 50).map (fun i => (i.zero, i.size, i.bytes)) = some (some (.agg #[.int .i64 0, .int .i64 0]), 2, 16) := by kernel_rfl
def vRat (l : List (Int × Int)) : List Value := l.flatMap fun a => [.int .i64 a.1, .int .i64 a.2]
theorem vRat_at : ∀ (l : List (Int × Int)) (k : Nat) (h : k < l.length), (vRat l)[k * 2]? = some (.int .i64 (l[k]).1) ∧ (vRat l)[k * 2 + 1]? = some (.int .i64 (l[k]).2)
  | a :: r, 0, _ => ⟨rfl, rfl⟩
  | a :: r, k + 1, h => by
    have := vRat_at r k (by simpa using h)
    have e1 : (k + 1) * 2 = k * 2 + 2 := by omega
    have e2 : (k + 1) * 2 + 1 = k * 2 + 1 + 2 := by omega
    exact ⟨by rw [e1]; exact this.1, by rw [e2]; exact this.2⟩
theorem vRat_len : ∀ (l : List (Int × Int)), (vRat l).length = l.length * 2
  | [] => rfl
  | a :: r => by
    have := vRat_len r
    show (_ :: _ :: vRat r).length = _
    simp [this]
    omega
set_option maxRecDepth 100000 in
/-- What append makes of a fraction and more. -/
theorem run_more53 (w : World) (g b c : Nat) (a0 p0 : Int) (l : List (Int × Int)) (hb : w.heap[g]? = some (.cells #[.int .i64 a0, .int .i64 p0] 50 (0, 0))) (h : RatR w b l) (hl : l.length ≤ 100) (hpos : 0 < l.length) :
    ∃ v' w', (Builtin.append_ #[53, 53] 53 #[.slice (some ⟨g, 0, none⟩) 1 1, .slice (some ⟨b, 0, none⟩) l.length c]).run Tryz.prog w = .ok v' w' ∧ (∃ g' c', v' = .slice (some ⟨g', 0, none⟩) (l.length + 1) c' ∧ w.heap.size ≤ g' ∧ RatR w' g' ((a0, p0) :: l)) ∧ Below w.heap.size w w' := by
  obtain ⟨i0, hi, hz0, hz1, hz2⟩ := info_parts info50
  have hs : Src Tryz.prog i0.size 53 (.slice (some ⟨b, 0, none⟩) l.length c) l.length (vRat l) w := by
    refine Src.ofSlice w Tryz.underlying53 _ _ _ _ (by rw [hz1, vRat_len]) ?_ ?_
    · intro j u hj
      have hjl : j < l.length * 2 := by rw [← vRat_len]; exact (List.getElem?_eq_some_iff.1 hj).1
      have h2 := h.2 (j / 2) (by omega)
      have h3 := vRat_at l (j / 2) (by omega)
      rw [Addr.add_lit, Nat.zero_add]
      rcases Nat.mod_two_eq_zero_or_one j with e | e
      · have ej : j / 2 * 2 = j := by omega
        rw [ej] at h2 h3
        rw [h2.1, ← h3.1, hj]
      · have ej : j / 2 * 2 + 1 = j := by omega
        rw [ej] at h2 h3
        rw [h2.2, ← h3.2, hj]
    · intro u hu
      obtain ⟨y, _, hy⟩ := List.mem_flatMap.1 hu
      simp at hy
      rcases hy with rfl | rfl <;> rfl
  have hold : (Builtin.firstCells i0.size 1 (.slice (some ⟨g, 0, none⟩) 1 1)).run Tryz.prog w.drew = .ok ([Value.int .i64 a0, .int .i64 p0]).toArray w.drew := by
    refine run_firstCells_some _ _ _ _ _ _ _ (by simp [hz1]) ?_
    intro j u hj
    rw [Addr.add_lit, Nat.zero_add]
    rw [Lib.cell_of_heap (w := w.drew) hb j, List.getElem?_toArray]
    exact hj
  have hr := run_append_grow_src (P := Tryz.prog) w 53 53 53 50 i0 _ Tryz.underlying53 hi hz0 (some ⟨g, 0, none⟩) 1 1 [.int .i64 a0, .int .i64 p0] hold _ l.length _ hs (by omega) (by omega)
    (growslice_fits (by omega) (by rw [hz2]; omega))
  refine ⟨_, _, hr, ⟨w.heap.size, _, by rw [Nat.add_comm], Nat.le_refl _, by simp, fun k hk => ?_⟩, (Below.refl _ w).drew.alloc (Nat.le_refl _) _⟩
  have hh := heap_alloc_new w.drew (.cells ((([Value.int .i64 a0, .int .i64 p0] ++ vRat l).toArray) ++ Builtin.zeroCells (Value.agg #[.int .i64 0, .int .i64 0]).cells (grownCap w (1 + l.length) 1 50 - (1 + l.length))) 50)
  have hv := vRat_at ((a0, p0) :: l) k hk
  have hln := vRat_len ((a0, p0) :: l)
  have hll := vRat_len l
  have e : (vRat ((a0, p0) :: l)) = [Value.int .i64 a0, .int .i64 p0] ++ vRat l := rfl
  rw [e] at hv hln
  simp only [List.length_cons] at hln hk
  constructor
  · refine (Lib.cell_of_heap hh (k * 2)).trans ?_
    rw [Array.getElem?_append_left (by simp; omega), List.getElem?_toArray]
    exact hv.1
  · refine (Lib.cell_of_heap hh (k * 2 + 1)).trans ?_
    rw [Array.getElem?_append_left (by simp; omega), List.getElem?_toArray]
    exact hv.2
theorem wpListIn_append_ex {F : Fence} {nF : Nat} {P : Program} {w : World} {ops : Array Oper} {rest : List Oper} {o : Oper} {a : Act} {Q : Exit → Act → World → Prop} (hgd : o.guard = none) (s x : Operand) (t : TypeId)
    (ho : o.op = .call { callee := .builtin .append, args := #[s, x], argTypes := #[t, t] }) (v xv : Value) (hs : a.eval s = v) (hx : a.eval x = xv) (R : Value → World → Prop)
    (hrun : ∃ v' w', (Builtin.append_ #[t, t] o.type #[v, xv]).run P w = .ok v' w' ∧ R v' w')
    (h : ∀ v' w', R v' w' → wpListIn F nF P ops Q rest (a.put o.dst v') w') : wpListIn F nF P ops Q (o :: rest) a w := by
  refine wpListIn_plain hgd fun K hK => ?_
  obtain ⟨v', w', hr, h2⟩ := hrun
  unfold Oper.wpIn
  refine ⟨by simp [Oper.about, ho, resolve, Target.leads, Sem.run_pure], ?_⟩
  rw [Oper.semAt_plain F _ _ (by rw [ho]; intro c hc'; cases hc')]
  simp [execOp, ho, resolve, invoke, builtin, hs, hx, hr, Result.andThen]
  exact hK _ _ (h v' w' h2)
theorem results_cell2 {fn : Func} {p q : Tmp} {a b : TypeId} (h : fn.results = #[.cell p a, .cell q b]) {tmps : Array Value} {P : Program} {w : World} {x y : Addr} {u v : Value} (hp : tmps.getD p undef = .pointer (some x)) (hq : tmps.getD q undef = .pointer (some y))
    (ha : (isAgg a).run P w = .ok false w) (hb : (isAgg b).run P w = .ok false w) (hx : w.cell? x = some u) (hy : w.cell? y = some v) : (results fn tmps).run P w = .ok (.tuple #[u, v]) w := by
  have hp' : tmps[p]?.getD undef = .pointer (some x) := by simpa using hp
  have hq' : tmps[q]?.getD undef = .pointer (some y) := by simpa using hq
  simp only [results, h]
  simp [Sem.run_bind, Result.andThen, hp', hq', asAddr, loadVar, ha, hb, hx, hy, go_sem]
end Go.Proofs.YtockinpjfhhkoaaGreatDoor
