/- dbm.pairs walked, and a loop over it whose body may write, and return. -/
import Derived.RangeFuncNested
import Derived.RangeFuncBound
import Derived.RangeFuncCalls
import Derived.RangeFuncLeaves
import Derived.Shelf.RegionOpen
import Derived.OwnWalkIn
import Derived.TacticsInMore
import Derived.LoopIn
import Derived.OrdersHeld
import Derived.Stop.RegionWithIn
import Derived.Test.YtockinpjfhhkoaaGreatDoorAtB
import Derived.Deep.RegionHeld
namespace Go.Proofs.YtockinpjfhhkoaaGreatDoor
open Go.RowKit Go.Shelf
attribute [local go_sem] Oper.semAt_some

/-- From base on all is as it was. -/
def SameFrom (base : Nat) (w w' : World) : Prop := w.heap.size ≤ w'.heap.size ∧ ∀ b, base ≤ b → b < w.heap.size → w'.heap[b]? = w.heap[b]?
theorem SameFrom.refl (base : Nat) (w : World) : SameFrom base w w := ⟨Nat.le_refl _, fun _ _ _ => rfl⟩
theorem SameFrom.trans {base : Nat} {w w' w'' : World} (h : SameFrom base w w') (h' : SameFrom base w' w'') : SameFrom base w w'' :=
  ⟨Nat.le_trans h.1 h'.1, fun b h1 h2 => (h'.2 b h1 (Nat.lt_of_lt_of_le h2 h.1)).trans (h.2 b h1 h2)⟩
theorem SameFrom.below {base : Nat} {w w' : World} (h : Below w.heap.size w w') : SameFrom base w w' := ⟨h.size, fun b _ h2 => h.block b h2⟩

theorem room_wide' (n : Nat) : Fence.wide.room n := fun _ h => by cases h
theorem yield_any {m m' : Nat} {P : Program} {l : Nat} {args : Array Value} {W : World} {R : Ending → World → Prop} (h : YieldAt Fence.wide m P l args W R) : YieldAt Fence.wide m' P l args W R := by
  obtain ⟨fn, tmps, assign, body, hy, hR⟩ := h
  exact ⟨fn, tmps, assign, body, hy, hR.1, fun c cs _ => hR.2 c cs (room_wide' _)⟩
theorem callsIn_any {m m' : Nat} {P : Program} {f : FuncId} {args : Array Value} {W : World} {R : Ending → World → Prop} (h : CallsIn Fence.wide m P f args W R) : CallsIn Fence.wide m' P f args W R :=
  ⟨h.1, fun cs _ => h.2 cs (room_wide' _)⟩

/-- What a round leaves: the next one's, or what leaves the loop. -/
def PairEnd (J : Nat → World → Prop) (Jx : World → Prop) (k : Nat) (b : Bool) (W : World) : Prop := (b = true → J (k + 1) W) ∧ (b = false → Jx W)
/-- Once more. -/
def PairOut (J : Nat → World → Prop) (Jx : World → Prop) (N : Nat) (e : Ending) (W : World) : Prop := (∃ v, e = .returned v) ∧ (J N W ∨ Jx W)

theorem pairs118_any (n : Int) (w : World) : Calls Tryz.prog 118 #[.int .i64 n] w fun e w' => e = .returned (.func (.func 186) #[] #[.pointer (some ⟨w.heap.size, 0, none⟩)]) ∧ w' = w.alloc (.cells #[.int .i64 n] 3) := by
  go_enter Tryz.func118, Tryz.ntmps118
  go_wp2_with fail
  all_goals go_ret
  all_goals exact ⟨rfl, rfl⟩

theorem pair_nums {n k i j : Nat} (h1 : 1 ≤ n) (hn : n ≤ 4) (hlt : k < n * n) (hi : k / n = i) (hj : k % n = j) : (k : Int) / (n : Int) = (i : Int) ∧ (k : Int) % (n : Int) = (j : Int) ∧ decide ((k : Int) < ((n * n : Nat) : Int)) = true ∧ ¬ n = 0 ∧ IntKind.i64.wrap (i : Int) = (i : Int) ∧ (k : Int).tmod (n : Int) = (j : Int) ∧ IntKind.i64.wrap (j : Int) = (j : Int) := by
  have hnn : n * n ≤ 16 := Nat.mul_le_mul hn hn
  have h2 : i ≤ k := by rw [← hi]; exact Nat.div_le_self k n
  have h3 : j ≤ k := by rw [← hj]; exact Nat.mod_le k n
  have e1 := IntWalk.i64_in (i : Int) ⟨by omega, by omega⟩
  have e2 := IntWalk.i64_in (j : Int) ⟨by omega, by omega⟩
  refine ⟨by rw [← hi]; rfl, by rw [← hj]; rfl, by simpa using Int.ofNat_lt.2 hlt, by omega, e1, by rw [← hj]; rfl, e2⟩
set_option maxRecDepth 100000 in
set_option maxHeartbeats 4000000 in
theorem pairs186_in {n : Nat} (h1 : 1 ≤ n) (hn : n ≤ 4) {l Bs : Nat} (J : Nat → World → Prop) (Jx : World → Prop) (hJd : ∀ k W, J k W → J k W.drew)
    (hrd : ∀ k W, J k W → W.cell? ⟨Bs, 0, none⟩ = some (.int .i64 n) ∧ Bs < W.heap.size)
    (hY : ∀ m k wr, k < n * n → J k wr → YieldAt Fence.wide m Tryz.prog l #[.int .i64 (k / n : Nat), .int .i64 (k % n : Nat)] wr fun e W' => ∃ b : Bool, e = .returned (.bool b) ∧ PairEnd J Jx k b W')
    (m : Nat) (W : World) (h0 : J 0 W) :
    CallsIn Fence.wide m Tryz.prog 186 #[.func (.yield l) #[] #[], .pointer (some ⟨Bs, 0, none⟩)] W (PairOut J Jx (n * n)) := by
  obtain ⟨c0, hb0⟩ := hrd 0 W h0
  have hnn : n * n ≤ 16 := Nat.mul_le_mul hn hn
  have hw1 : IntKind.i64.wrap ((n : Int) * (n : Int)) = ((n * n : Nat) : Int) := by rw [← Int.natCast_mul]; exact IntWalk.i64_in _ (by omega)
  have HRD := Lib.hid hrd
  have HJD := Lib.hid hJd
  have HY := Lib.hid hY
  have H0 := Lib.hid h0
  clear hrd hJd hY h0
  refine callsIn_of_wp Tryz.func186 rfl trivial ?_ rfl
  simp only [Tryz.ntmps186, List.size_toArray, List.length_cons, List.length_nil, Nat.reduceAdd, Nat.reduceSub, Array.replicate_succ, Array.replicate_zero, List.push_toArray, List.append_toArray, List.nil_append, List.cons_append]
  gi_wp2_with fail
  gi_loopw [7] (fun i wr => ∃ k : Nat, k ≤ n * n ∧ i = .int .i64 k ∧ Hid (J k wr)) (fun i _ => n * n - (intOf i).toNat)
  case atStart => exact ⟨0, Nat.zero_le _, rfl, H0⟩
  case round =>
    obtain ⟨k, hk, rfl, hJ⟩ := hrel
    obtain ⟨c1, hb1⟩ := HRD.out k wr hJ.out
    by_cases hlt : k < n * n
    · have hJ1 := HJD.out k wr hJ.out
      obtain ⟨c2, hb2⟩ := HRD.out k wr.drew hJ1
      obtain ⟨fn, tmps, assign, body, hy, hR⟩ := HY.out (m - 1) k wr.drew hlt hJ1
      obtain ⟨i, hi⟩ : ∃ i, k / n = i := ⟨_, rfl⟩
      obtain ⟨j, hj⟩ : ∃ j, k % n = j := ⟨_, rfl⟩
      obtain ⟨q1, q2, q3, q4, q5, q6, q7⟩ := pair_nums h1 hn hlt hi hj
      rw [hi, hj] at hy
      have HR' := Lib.hid hR
      have HNN := Lib.hid hnn
      clear hR c0 hb0 hJ1 hi hj
      gi_wp2_with fail
      refine wpIn_region_any (by kernel_rfl) ?_
      try (change wpAnyIn _ _ _ _ _ _ _ _ _ (World.drew _))
      refine wpAnyIn_take (i := 0) (v := ?_) rfl rfl (by kernel_rfl) (by kernel_rfl) (by kernel_rfl) (fun _ _ _ h => h) ⟨Or.inl ⟨by rfl, ?_⟩, fun _ => rfl⟩ ?_
      rotate_left
      · (intro w; go_simp)
        try with_reducible rfl
      try simp only [Act.put, List.setIfInBounds_toArray, List.set_cons_zero, List.set_cons_succ, List.getElem_toArray, List.getElem_cons_zero]
      refine wpAnyIn_take (i := 1) (v := ?_) rfl rfl (by kernel_rfl) (by kernel_rfl) (by kernel_rfl) (fun _ _ _ h => h) ⟨Or.inl ⟨by rfl, ?_⟩, fun _ => rfl⟩ ?_
      rotate_left
      · (intro w; go_simp)
        try with_reducible rfl
      try simp only [Act.put, List.setIfInBounds_toArray, List.set_cons_zero, List.set_cons_succ, List.getElem_toArray, List.getElem_cons_zero, List.getElem_cons_succ]
      refine wpAnyIn_take (i := 4) (v := ?_) rfl rfl (by kernel_rfl) (by kernel_rfl) (by kernel_rfl) (fun _ _ _ h => h) ⟨Or.inl ⟨by rfl, ?_⟩, fun _ => rfl⟩ ?_
      rotate_left
      · (intro w; go_simp)
        try with_reducible rfl
      try simp only [Act.put, List.setIfInBounds_toArray, List.set_cons_zero, List.set_cons_succ, List.getElem_toArray, List.getElem_cons_zero, List.getElem_cons_succ]
      refine wpAnyIn_ready (rs := [2, 5]) (by kernel_rfl) (by simp) ?_
      refine AllReadyIn.cons rfl (fun K hK => ?_) (AllReadyIn.cons rfl (fun K hK => ?_) AllReadyIn.nil)
      · skip
        go_simp
        refine hK _ _ ?_
        clear hK K
        try simp only [Act.put, List.setIfInBounds_toArray, List.set_cons_zero, List.set_cons_succ, List.getElem_toArray, List.getElem_cons_zero, List.getElem_cons_succ]
        refine wpAnyIn_take (i := 3) (v := ?_) rfl rfl (by kernel_rfl) (by kernel_rfl) (by kernel_rfl) (fun _ _ _ h => h) ⟨Or.inl ⟨by rfl, ?_⟩, fun _ => rfl⟩ ?_
        rotate_left
        · (intro w; go_simp)
          try with_reducible rfl
        try simp only [Act.put, List.setIfInBounds_toArray, List.set_cons_zero, List.set_cons_succ, List.getElem_toArray, List.getElem_cons_zero, List.getElem_cons_succ]
        refine wpAnyIn_ready (rs := [5]) (by kernel_rfl) (by simp) ?_
        refine AllReadyIn.cons rfl (fun K hK => ?_) AllReadyIn.nil
        go_simp
        refine hK _ _ ?_
        clear hK K
        try simp only [Act.put, List.setIfInBounds_toArray, List.set_cons_zero, List.set_cons_succ, List.getElem_toArray, List.getElem_cons_zero, List.getElem_cons_succ]
        refine wpAnyIn_take (i := 6) (v := ?_) rfl rfl (by kernel_rfl) (by kernel_rfl) (by kernel_rfl) (fun _ _ _ h => h) ⟨Or.inl ⟨by rfl, ?_⟩, fun _ => rfl⟩ ?_
        rotate_left
        · (intro w; go_simp)
          try with_reducible rfl
        try simp only [Act.put, List.setIfInBounds_toArray, List.set_cons_zero, List.set_cons_succ, List.getElem_toArray, List.getElem_cons_zero, List.getElem_cons_succ]
        refine wpAnyIn_ready (rs := [7]) (by kernel_rfl) (by simp) ?_
        refine AllReadyIn.cons rfl (fun K hK => ?_) AllReadyIn.nil
        go_simp
        refine ⟨fun h => absurd h (by decide), HR'.out.mono ?_⟩
        rintro e W3 ⟨b, rfl, hpe⟩
        dsimp only
        refine hK _ _ ?_
        clear hK K
        try simp only [Act.put, List.setIfInBounds_toArray, List.set_cons_zero, List.set_cons_succ, List.getElem_toArray, List.getElem_cons_zero, List.getElem_cons_succ]
        refine wpAnyIn_take (i := 8) (v := ?_) rfl rfl (by kernel_rfl) (by kernel_rfl) (by kernel_rfl) (fun _ _ _ h => h) ⟨Or.inl ⟨by rfl, ?_⟩, fun _ => rfl⟩ ?_
        rotate_left
        · (intro w; go_simp)
          try with_reducible rfl
        try simp only [Act.put, List.setIfInBounds_toArray, List.set_cons_zero, List.set_cons_succ, List.getElem_toArray, List.getElem_cons_zero, List.getElem_cons_succ]
        refine wpAnyIn_done (by kernel_rfl) ?_ _
        have HPE := Lib.hid hpe
        clear hpe hy q1 q2 q5 q6 q7 c1 c2
        cases b with
        | true =>
          gi_wp2
          go_roundw
          case rel => exact ⟨k + 1, by omega, by go_num, HPE.out.1 rfl⟩
          case measure => simp [intOf]; omega
        | false =>
          gi_wp2
          refine bodyPost_ret (results_none rfl _ _ _) rfl ?_
          exact ⟨⟨_, rfl⟩, .inr (HPE.out.2 rfl)⟩
      · skip
        go_simp
        refine hK _ _ ?_
        clear hK K
        try simp only [Act.put, List.setIfInBounds_toArray, List.set_cons_zero, List.set_cons_succ, List.getElem_toArray, List.getElem_cons_zero, List.getElem_cons_succ]
        refine wpAnyIn_take (i := 6) (v := ?_) rfl rfl (by kernel_rfl) (by kernel_rfl) (by kernel_rfl) (fun _ _ _ h => h) ⟨Or.inl ⟨by rfl, ?_⟩, fun _ => rfl⟩ ?_
        rotate_left
        · (intro w; go_simp)
          try with_reducible rfl
        try simp only [Act.put, List.setIfInBounds_toArray, List.set_cons_zero, List.set_cons_succ, List.getElem_toArray, List.getElem_cons_zero, List.getElem_cons_succ]
        refine wpAnyIn_ready (rs := [2]) (by kernel_rfl) (by simp) ?_
        refine AllReadyIn.cons rfl (fun K hK => ?_) AllReadyIn.nil
        go_simp
        refine hK _ _ ?_
        clear hK K
        try simp only [Act.put, List.setIfInBounds_toArray, List.set_cons_zero, List.set_cons_succ, List.getElem_toArray, List.getElem_cons_zero, List.getElem_cons_succ]
        refine wpAnyIn_take (i := 3) (v := ?_) rfl rfl (by kernel_rfl) (by kernel_rfl) (by kernel_rfl) (fun _ _ _ h => h) ⟨Or.inl ⟨by rfl, ?_⟩, fun _ => rfl⟩ ?_
        rotate_left
        · (intro w; go_simp)
          try with_reducible rfl
        try simp only [Act.put, List.setIfInBounds_toArray, List.set_cons_zero, List.set_cons_succ, List.getElem_toArray, List.getElem_cons_zero, List.getElem_cons_succ]
        refine wpAnyIn_ready (rs := [7]) (by kernel_rfl) (by simp) ?_
        refine AllReadyIn.cons rfl (fun K hK => ?_) AllReadyIn.nil
        go_simp
        refine ⟨fun h => absurd h (by decide), HR'.out.mono ?_⟩
        rintro e W3 ⟨b, rfl, hpe⟩
        dsimp only
        refine hK _ _ ?_
        clear hK K
        try simp only [Act.put, List.setIfInBounds_toArray, List.set_cons_zero, List.set_cons_succ, List.getElem_toArray, List.getElem_cons_zero, List.getElem_cons_succ]
        refine wpAnyIn_take (i := 8) (v := ?_) rfl rfl (by kernel_rfl) (by kernel_rfl) (by kernel_rfl) (fun _ _ _ h => h) ⟨Or.inl ⟨by rfl, ?_⟩, fun _ => rfl⟩ ?_
        rotate_left
        · (intro w; go_simp)
          try with_reducible rfl
        try simp only [Act.put, List.setIfInBounds_toArray, List.set_cons_zero, List.set_cons_succ, List.getElem_toArray, List.getElem_cons_zero, List.getElem_cons_succ]
        refine wpAnyIn_done (by kernel_rfl) ?_ _
        have HPE := Lib.hid hpe
        clear hpe hy q1 q2 q5 q6 q7 c1 c2
        cases b with
        | true =>
          gi_wp2
          go_roundw
          case rel => exact ⟨k + 1, by omega, by go_num, HPE.out.1 rfl⟩
          case measure => simp [intOf]; omega
        | false =>
          gi_wp2
          refine bodyPost_ret (results_none rfl _ _ _) rfl ?_
          exact ⟨⟨_, rfl⟩, .inr (HPE.out.2 rfl)⟩
    · obtain rfl : k = n * n := by omega
      have q3 : decide (((n * n : Nat) : Int) < ((n * n : Nat) : Int)) = false := by simp
      gi_wp2
      go_end0
      exact ⟨⟨_, rfl⟩, .inl hJ.out⟩
end Go.Proofs.YtockinpjfhhkoaaGreatDoor

/- A loop over dbm.pairs, whose body may write, and return. -/
namespace Go.Proofs.YtockinpjfhhkoaaGreatDoor
open Go.RowKit Go.Shelf

/-- The loop's own two blocks are as they were. -/
def KeptL (B : Nat) (w w' : World) : Prop := w.heap.size ≤ w'.heap.size ∧ ∀ b, B ≤ b → b ≤ B + 1 → w'.heap[b]? = w.heap[b]?
theorem SameFrom.kept {B : Nat} {w w' : World} (h : SameFrom B w w') (hz : B + 2 ≤ w.heap.size) : KeptL B w w' := ⟨h.1, fun b h1 h2 => h.2 b h1 (by omega)⟩
set_option maxHeartbeats 2000000 in
/-- A loop over pairs(n), whose body may write, and return. -/
theorem rangePairs {m : Nat} {g : Operand} {ps : Array Tmp} {assign body : Code} {Q : Exit → Act → World → Prop} {a : Act} {w : World} {n Bs : Nat} (hg : a.eval g = .func (.func 186) #[] #[.pointer (some ⟨Bs, 0, none⟩)]) (hps : ps.size = 2) (h1 : 1 ≤ n) (hn : n ≤ 4)
    (I : Nat → World → Prop) (Ix : World → Prop)
    (hI : ∀ j W W', I j W → w.heap.size ≤ W.heap.size → W.heap.size ≤ W'.heap.size → W'.os = W.os → W'.tape = W.tape → W'.output = W.output → (∀ b, b < W.heap.size → b ≠ w.heap.size → b ≠ w.heap.size + 1 → W'.heap[b]? = W.heap[b]?) → I j W')
    (hIx : ∀ W W', Ix W → w.heap.size ≤ W.heap.size → W.heap.size ≤ W'.heap.size → W'.os = W.os → W'.tape = W.tape → W'.output = W.output → (∀ b, b < W.heap.size → b ≠ w.heap.size → b ≠ w.heap.size + 1 → W'.heap[b]? = W.heap[b]?) → Ix W')
    (hrd : ∀ j W, I j W → W.cell? ⟨Bs, 0, none⟩ = some (.int .i64 n) ∧ Bs < W.heap.size) (h0 : I 0 w)
    (hround : ∀ (m k : Nat) (wr : World), k < n * n → I k wr → w.heap.size + 2 ≤ wr.heap.size → assign.wpIn (Fence.wide.inRound (w.heap.size + 1)) m Tryz.prog (Exit.then (fun a' W2 => W2 = wr ∧ ∀ o', I k (wr.putObj (w.heap.size + 1) (.loop o')) → body.wpIn (Fence.wide.inRound (w.heap.size + 1)) m Tryz.prog
        (fun e _ W4 => KeptL w.heap.size (wr.putObj (w.heap.size + 1) (.loop o')) W4 ∧ ((e = .normal ∧ I (k + 1) W4) ∨ (e = .ret ∧ Ix W4))) a' (wr.putObj (w.heap.size + 1) (.loop o'))) (fun _ _ _ => False))
      { tmps := (ps.zip #[.int .i64 (k / n : Nat), .int .i64 (k % n : Nat)]).foldl (fun t (p, x) => t.setIfInBounds p x) a.tmps, defers := [] } wr)
    (hdone : ∀ (W : World), I (n * n) W → w.heap.size < W.heap.size → W.heap[w.heap.size]? = some (.deferred (some [])) → Q .normal { a with defers := { target := .collected w.heap.size, args := #[] } :: a.defers } W)
    (hstop : ∀ (W : World), Ix W → w.heap.size < W.heap.size → W.heap[w.heap.size]? = some (.deferred (some [])) → Code.ret.wpIn Fence.wide m Tryz.prog Q { a with defers := { target := .collected w.heap.size, args := #[] } :: a.defers } W) :
    (Code.rangeFunc g ps assign body).wpIn Fence.wide m Tryz.prog Q a w := by
  refine wpIn_rangeFunc fun fn hfn => ?_
  obtain ⟨rec, hrec⟩ : ∃ rec : LoopState → Option Code → Loop, rec = fun st pe => { state := st, pending := pe, fn, tmps := a.tmps, params := ps, assign, body, defers := w.heap.size } := ⟨_, rfl⟩
  obtain ⟨W1, hW1⟩ : ∃ W1, (w.alloc (.deferred (some []))).alloc (.loop (rec .ready none)) = W1 := ⟨_, rfl⟩
  have hz1 : W1.heap.size = w.heap.size + 2 := by rw [← hW1]; simp
  have hL1 : W1.heap[w.heap.size + 1]? = some (.loop (rec .ready none)) := by
    rw [← hW1]; simpa using World.alloc_heap_new (w.alloc (.deferred (some []))) (.loop (rec .ready none))
  have hK1 : W1.heap[w.heap.size]? = some (.deferred (some [])) := by
    rw [← hW1, Below.heap_alloc _ _ _ (by simp)]; exact World.alloc_heap_new w _
  have hb1 : Below w.heap.size w W1 := by
    rw [← hW1]; exact ((Below.refl _ w).alloc (Nat.le_refl _) _).alloc (by simp) _
  have hI1 : I 0 W1 := hI 0 w W1 h0 (Nat.le_refl _) hb1.size hb1.os hb1.tape hb1.output fun b h _ _ => hb1.block b h
  refine ⟨w.heap.size + 1, [{ target := .collected w.heap.size, args := #[] }], W1, { target := .fn (.func 186) #[.pointer (some ⟨Bs, 0, none⟩)], args := #[.func (.yield (w.heap.size + 1)) #[] #[]] }, W1, 186,
    #[.func (.yield (w.heap.size + 1)) #[] #[]] ++ #[.pointer (some ⟨Bs, 0, none⟩)], W1, ?_, ?_, ?_, ?_, fun h => absurd h (by decide), ?_⟩
  · rw [← hW1, hrec]; exact run_enterLoop_outer _ _ _ _ _
  · simp only [resolve, hg]
    simp [go_sem]
  · intro f' _; trivial
  · simp [invoke, go_sem]
  · have key := pairs186_in h1 hn (l := w.heap.size + 1) (Bs := Bs) (fun j W => I j W ∧ w.heap.size + 2 ≤ W.heap.size ∧ W.heap[w.heap.size + 1]? = some (.loop (rec .ready none)) ∧ W.heap[w.heap.size]? = some (.deferred (some [])))
      (fun W => Ix W ∧ w.heap.size + 2 ≤ W.heap.size ∧ W.heap[w.heap.size + 1]? = some (.loop (rec .done (some .ret))) ∧ W.heap[w.heap.size]? = some (.deferred (some [])))
      (fun k W h => ⟨hI k W _ h.1 (Nat.le_trans (Nat.le_add_right _ 2) h.2.1) (Nat.le_refl _) rfl rfl rfl fun _ _ _ _ => rfl, h.2⟩) (fun k W h => hrd k W h.1) ?_ (m - 1) W1 ⟨hI1, by omega, hL1, hK1⟩
    · refine key.mono ?_
      rintro e W2 ⟨⟨u, rfl⟩, (⟨hi, hz, hl, hd⟩ | ⟨hi, hz, hl, hd⟩)⟩
      · have := run_endLoop (P := Tryz.prog) hl (by rw [hrec]; simp)
        have hpend : (rec .ready none).pending = none := by rw [hrec]
        rw [hpend] at this
        refine ⟨none, _, this, hdone _ (hI _ W2 _ hi (by omega) (by simp) rfl rfl rfl fun b _ _ h2 => World.putObj_heap_other h2) (by simp; omega) ((World.putObj_heap_other (by omega)).trans hd)⟩
      · have := run_endLoop (P := Tryz.prog) hl (by rw [hrec]; simp)
        have hpend : (rec .done (some .ret)).pending = some .ret := by rw [hrec]
        rw [hpend] at this
        refine ⟨some .ret, _, this, hstop _ (hIx W2 _ hi (by omega) (by simp) rfl rfl rfl fun b _ _ h2 => World.putObj_heap_other h2) (by simp; omega) ((World.putObj_heap_other (by omega)).trans hd)⟩
    · rintro m' j W hj ⟨hi, hz, hl, hd⟩
      have hlt := (Array.getElem?_eq_some_iff.1 hl).1
      have hy := run_yield (P := Tryz.prog) (args := #[.int .i64 (j / n : Nat), .int .i64 (j % n : Nat)]) hl (by rw [hrec]; simpa using hps.symm)
      rw [hrec] at hy
      refine ⟨fn, _, assign, body, hy, roundIn_of_wpIn hfn (wpIn_mono (hround m' j W hj hi hz) ?_)⟩
      rintro e a' W2 hp
      cases e with
      | normal =>
        obtain ⟨rfl, hbody⟩ := hp
        have hi2 : ∀ o', I j (W2.putObj (w.heap.size + 1) (.loop o')) := fun o' => hI _ W2 _ hi (by omega) (by simp) rfl rfl rfl fun b h1 _ h3 => World.putObj_heap_other h3
        refine ⟨_, run_beginRound hl (by rw [hrec]), wpIn_mono (hbody _ (hi2 _)) ?_⟩
        rintro e a4 W4 ⟨hs4, hp4⟩
        have hl4 : W4.heap[w.heap.size + 1]? = some (.loop { rec .ready none with state := .busy }) := (hs4.2 _ (by omega) (by omega)).trans (World.putObj_heap_same (by omega))
        have hd4 : W4.heap[w.heap.size]? = some (.deferred (some [])) := (hs4.2 _ (Nat.le_refl _) (by omega)).trans ((World.putObj_heap_other (by omega)).trans hd)
        have hsz4 : W2.heap.size ≤ W4.heap.size := by simpa using hs4.1
        rcases hp4 with ⟨rfl, hi4⟩ | ⟨rfl, hi4⟩
        · refine ⟨_, _, run_endRound none hl4, _, rfl, fun _ => ⟨hI _ W4 _ hi4 (by omega) (by simp) rfl rfl rfl (fun b _ _ h2 => World.putObj_heap_other h2), by simp; omega, ?_, (World.putObj_heap_other (by omega)).trans hd4⟩, fun h => by cases h⟩
          rw [World.putObj_heap_same (by omega), hrec]
          rfl
        · refine ⟨_, _, run_endRound (some .ret) hl4, _, rfl, fun h => (by cases h), fun _ => ⟨hIx W4 _ hi4 (by omega) (by simp) rfl rfl rfl (fun b _ _ h2 => World.putObj_heap_other h2), by simp; omega, ?_, (World.putObj_heap_other (by omega)).trans hd4⟩⟩
          rw [World.putObj_heap_same (by omega), hrec]
          rfl
      | ret => exact hp.elim
      | exit id => exact hp.elim
      | goto t => exact hp.elim
      | panic ch => exact hp.elim
      | outgrown => exact hp.elim
end Go.Proofs.YtockinpjfhhkoaaGreatDoor

/- A region that draws within a round of the wide fence. -/
namespace Go.Proofs.YtockinpjfhhkoaaGreatDoor
open Go.RowKit Go.Shelf
/-! ### A region that draws, within a round of the wide fence -/
def noDefer (o : Oper) : Bool := match o.op with
  | .defer _ => false
  | _ => true
theorem noDefer_ne {o : Oper} (h : noDefer o = true) : ∀ c, o.op ≠ .defer c := by
  intro c e
  simp [noDefer, e] at h
theorem rowsIn_wide {n : Nat} {P : Program} {row : String} {args : Array Value} {w : World} {R : Value → World → Prop} (h : Rows P row args w R) : RowsIn Fence.wide n P row args w R :=
  fun c cs _ => let ⟨v, w', r, s⟩ := h c cs; ⟨v, w', r, stepsIn_wide.2 s⟩
theorem oper_round {l n : Nat} {P : Program} {o : Oper} {a : Act} {w : World} {K : Act → World → Prop} {Q : Exit → Act → World → Prop} (hd : noDefer o = true) (h : o.wp P a w K Q) : o.wpIn (Fence.wide.inRound l) n P a w K Q := by
  refine ⟨fun _ _ => trivial, ?_⟩
  rw [Oper.semAt_plain _ _ _ (noDefer_ne hd)]
  unfold Oper.wp at h
  generalize (execOp a.eval o).run P w = r at h ⊢
  cases r with
  | ok x w' =>
    cases x with
    | value v => exact h
    | skip => exact h
    | defer d => exact h
    | enter f args => exact ⟨fun hh => (by cases hh), (callsIn_wide (n := n - 1)).2 h⟩
    | row row args => exact ⟨fun hh => (by cases hh), rowsIn_wide h⟩
    | _ => exact h.elim
  | halt x w' => cases x <;> exact h
theorem wpOp_round {l n : Nat} {P : Program} {ops : Array Oper} {Q : Exit → Act → World → Prop} (hQ : ¬ LetsOut Q) (hd : ops.all noDefer = true) {i : Nat} {a : Act} {w : World} {K : Act → World → Prop} (h : wpOp P ops Q i K a w) : wpOpIn (Fence.wide.inRound l) n P ops Q i K a w := by
  unfold wpOp at h
  unfold wpOpIn
  cases ho : ops[i]? with
  | none => rw [ho] at h; exact h
  | some o =>
    rw [ho] at h
    dsimp only at h ⊢
    have hno : noDefer o = true := by
      obtain ⟨hi, rfl⟩ := Array.getElem?_eq_some_iff.1 ho
      exact Array.all_eq_true.1 hd i hi
    split
    · rename_i hw
      rw [if_pos hw] at h
      rcases h with h | h
      · exact oper_round hno h
      · exact absurd h.2 hQ
    · rename_i hw
      rw [if_neg hw] at h
      exact ⟨fun _ _ => trivial, h⟩
theorem wpAny_round {l n : Nat} {P : Program} {md : Region.Mode} {ops : Array Oper} {Q : Exit → Act → World → Prop} (hQ : ¬ LetsOut Q) (hd : ops.all noDefer = true) : ∀ (fuel : Nat) (listed : Array Bool) (a : Act) (w : World),
    wpAny P md ops Q fuel listed a w → wpAnyIn (Fence.wide.inRound l) n P md ops Q fuel listed a w
  | 0, _, _, _, h => h
  | fuel + 1, _, _, _, h => ⟨h.1, fun i hi => wpOp_round hQ hd (wpOp_mono (fun a w h => wpAny_round hQ hd fuel _ a w h) (h.2 i hi))⟩
/-- A region that draws, within a round: walked as everywhere, S held. -/
theorem region_round {l n : Nat} {P : Program} {ops : Array Oper} {Q : Exit → Act → World → Prop} {S : World → Prop} {id : Nat} {a : Act} {w : World} (hm : P.follows .mixedOrders = true) (hd : ops.all noDefer = true) (hQ : ¬ LetsOut Q) (hS : S w.drew)
    (h : S w.drew → wpAnyH P .any ops Q S ops.size (Array.replicate ops.size false) a w.drew) : (Code.region id ops true).wpIn (Fence.wide.inRound l) n P Q a w :=
  wpIn_region_any hm (wpAny_round hQ hd _ _ _ _ (wpAny_of_held _ _ _ _ (h hS)))

end Go.Proofs.YtockinpjfhhkoaaGreatDoor
