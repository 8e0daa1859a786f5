/- One more name ahead of names: what append makes of them. -/
import Derived.Deep.AppendSrc
import Derived.Deep.AppendLies
import Derived.Test.YtabpfbgcdmejbaaDoorTreeG
import Derived.Test.YtabpfbgcdmejbaaDoorTreeP
import Derived.Test.YtabpfbgcdmejbaaDoorLexE
namespace Go.Proofs.YtabpfbgcdmejbaaDoor
open Go.RowKit

theorem gnGo_len : ∀ (l : List ByteArray) (n : Int), (∀ s ∈ l, s.size ≤ 281474976710656) → 0 ≤ n → n ≤ 300000000000000 → gnGo l n ≤ 5000 → n + l.length ≤ 5000
  | [], n, _, _, _, h => by simp [gnGo] at h ⊢; omega
  | x :: r, n, H, h0, h1, h => by
    rw [gnGo] at h
    split at h
    · rename_i hn
      have hx := H x (by simp)
      have hw : wrap64 (wrap64 (n + 1) + x.size) = n + 1 + x.size := by unfold wrap64; omega
      rw [hw] at h
      have := gnGo_len r (n + 1 + x.size) (fun s hs => H s (by simp [hs])) (by omega) (by omega) h
      simp only [List.length_cons]; omega
    · omega
theorem greatN_len {l : List ByteArray} (h : greatN l = false) (H : ∀ s ∈ l, s.size ≤ 281474976710656) : l.length ≤ 5000 := by
  have h1 : gnGo l 0 ≤ 5000 := by unfold greatN at h; simpa using h
  have := gnGo_len l 0 H (by omega) (by omega) h1
  omega

theorem info9 : (Tryd.prog.info? 9).map (fun i => (i.zero, i.size, i.bytes)) = some (some (.string ⟨#[]⟩), 1, 16) := by kernel_rfl

/-- An append whose run is known. -/
theorem wpList_append_ex {P : Program} {w : World} {ops : Array Oper} {rest : List Oper} {o : Oper} {a : Act} {Q : Exit → Act → World → Prop} (hgd : o.guard = none) (s x : Operand) (t : TypeId)
    (ho : o.op = .call { callee := .builtin .append, args := #[s, x], argTypes := #[t, t] }) (v xv : Value) (hs : a.eval s = v) (hx : a.eval x = xv) (R : Value → World → Prop)
    (hrun : ∃ v' w', (Builtin.append_ #[t, t] o.type #[v, xv]).run P w = .ok v' w' ∧ R v' w')
    (h : ∀ v' w', R v' w' → wpList P ops Q rest (a.put o.dst v') w') : wpList P ops Q (o :: rest) a w := by
  refine wpList_plain hgd fun K hK => ?_
  obtain ⟨v', w', hr, h2⟩ := hrun
  unfold Oper.wp execOp
  simp only [ho, resolve, invoke, builtin, Sem.run_bind, Sem.run_pure, Result.andThen_ok, List.map_toArray, List.map_cons, List.map_nil, hs, hx, hr]
  exact hK _ _ (h v' w' h2)

set_option maxRecDepth 100000 in
theorem run_more (w : World) (nv : Value) (l : List ByteArray) (g : Nat) (s : ByteArray) (hl : NRep w w.heap.size nv l) (hlen : l.length ≤ 5000) (hb : w.heap[g]? = some (.cells #[.string s] 9 (0, 0))) :
    ∃ v' w', (Builtin.append_ #[28, 28] 28 #[.slice (some ⟨g, 0, none⟩) 1 1, nv]).run Tryd.prog w = .ok v' w' ∧ (∃ a' c', v' = .slice (some a') (s :: l).length c') ∧ NRep w' w'.heap.size v' (s :: l) ∧ Below w.heap.size w w' := by
  obtain ⟨a, cap, rfl, hm, hc⟩ := hl
  obtain ⟨i0, hi, hz0, hz1, hz2⟩ := info_parts info9
  have hgl := (Array.getElem?_eq_some_iff.1 hb).1
  by_cases h0 : l = []
  · subst h0
    have hs : Src Tryd.prog i0.size 28 (.slice a 0 cap) 0 [] w := by
      cases a with
      | none => exact Src.ofNil w Tryd.underlying28 cap
      | some a => exact Src.ofSlice w Tryd.underlying28 a 0 cap [] (by simp) (by simp) (by simp)
    have hr := run_append_room_src (P := Tryd.prog) w 28 28 28 9 i0 Tryd.underlying28 hi g 0 1 1 _ 0 [] hs (by omega) (by simp) (by simp)
    refine ⟨_, _, hr, ⟨_, _, rfl⟩, ⟨_, 1, rfl, by simp, .inr ⟨g, 0, rfl, hgl, fun i hi => ?_⟩⟩, Below.refl _ _⟩
    obtain rfl : i = 0 := by simpa using hi
    exact Lib.cell_of_heap hb 0
  · rcases hc with hc | ⟨b, off, rfl, hbl, hc⟩
    · exact absurd hc h0
    · have hpos : 0 < l.length := List.length_pos_iff.2 h0
      have hs : Src Tryd.prog i0.size 28 (.slice (some ⟨b, off, none⟩) l.length cap) l.length (l.map .string) w := by
        refine Src.ofSlice w Tryd.underlying28 _ _ _ _ (by simp [hz1]) ?_ ?_
        · intro j u hj
          rw [List.getElem?_map] at hj
          cases hq : l[j]? with
          | none => rw [hq] at hj; simp at hj
          | some y =>
            rw [hq] at hj
            obtain ⟨hlt, rfl⟩ := List.getElem?_eq_some_iff.1 hq
            obtain rfl : Value.string l[j] = u := by simpa using hj
            rw [Addr.add_lit]
            exact hc j hlt
        · intro u hu
          obtain ⟨y, _, rfl⟩ := List.mem_map.1 hu
          rfl
      have hold : (Builtin.firstCells i0.size 1 (.slice (some ⟨g, 0, none⟩) 1 1)).run Tryd.prog w.drew = .ok ([Value.string s]).toArray w.drew := by
        refine run_firstCells_some _ _ _ _ _ _ _ (by simp [hz1]) ?_
        intro j u hj
        obtain rfl : j = 0 := by
          have := (List.getElem?_eq_some_iff.1 hj).1
          simpa using this
        obtain rfl : Value.string s = u := by simpa using hj
        rw [Addr.add_lit]
        exact Lib.cell_of_heap (w := w) hb 0
      have hr := run_append_grow_src (P := Tryd.prog) w 28 28 28 9 i0 _ Tryd.underlying28 hi hz0 (some ⟨g, 0, none⟩) 1 1 [.string s] hold _ l.length _ hs (by omega) (by omega)
        (growslice_fits (by omega) (by rw [hz2]; omega))
      refine ⟨_, _, hr, ⟨_, _, by rw [List.length_cons, Nat.add_comm]⟩, ⟨_, _, by rw [List.length_cons, Nat.add_comm], by simp; omega, .inr ⟨w.heap.size, 0, rfl, by simp, fun i hi => ?_⟩⟩, (Below.refl _ w).drew.alloc (Nat.le_refl _) _⟩
      have hh := heap_alloc_new w.drew (.cells ((([Value.string s] ++ l.map Value.string).toArray) ++ Builtin.zeroCells (Value.string ⟨#[]⟩).cells (grownCap w (1 + l.length) 1 9 - (1 + l.length))) 9)
      have := Lib.cell_of_heap hh (0 + i)
      refine this.trans ?_
      have hi' : i < ([Value.string s] ++ l.map Value.string).length := by simpa using hi
      rw [Nat.zero_add, Array.getElem?_append_left (by simpa using hi')]
      rw [List.getElem?_toArray, List.getElem?_eq_getElem hi']
      congr 1
      cases i <;> simp
end Go.Proofs.YtabpfbgcdmejbaaDoor
