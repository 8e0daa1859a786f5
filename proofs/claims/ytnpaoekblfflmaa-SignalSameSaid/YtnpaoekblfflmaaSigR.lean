/- A loop over begins(l) that is never left, whose body may write blocks of its own. -/
import Derived.Test.YtnpaoekblfflmaaSigK
namespace Go.Proofs.Ytnpaoekblfflmaa
open Go.RowKit Go.Shelf

/-- The iterator's own variable at round k. -/
def segBox (zs : List (Int × Int)) (k : Nat) : Obj := .cells #[.int .i64 (itemOf zs k).2.1, .int .u8 (itemOf zs k).2.2] 39

set_option maxRecDepth 100000 in
set_option maxHeartbeats 2000000 in
theorem begins1_free (F : Fence) (n : Nat) (h40 : F.fn 40) (hro : F.round = none) (hn : 1 ≤ n) (l Bs n₀ b off cap : Nat) (zs : List (Int × Int)) (hm : zs.length ≤ 9223372036854775807) (hb : b < n₀) (J : Nat → World → Prop)
    (W : World) (hn0 : n₀ ≤ W.heap.size)
    (hY : ∀ k wr, k < zs.length → J k wr → Below n₀ W wr → W.heap.size ≤ wr.heap.size → YieldAt F (n - 1) Try.prog l (encItem (itemOf zs k)) (wr.alloc (segBox zs k)) fun e W' =>
      e = .returned (.bool true) ∧ J (k + 1) W' ∧ Below n₀ wr W' ∧ W'.heap[wr.heap.size]? = some (segBox zs k))
    (hBs : W.cell? ⟨Bs, 0, none⟩ = some (.slice (some ⟨b, off, none⟩) zs.length cap)) (hc : SegC W b off zs) (h0 : J 0 W) :
    CallsIn F n Try.prog 40 #[.func (.yield l) #[] #[], .pointer (some ⟨Bs, 0, none⟩)] W fun e W' => (∃ v, e = .returned v) ∧ J zs.length W' := by
  refine callsIn_of_wp Try.func40 rfl h40 ?_ hro
  simp only [Try.ntmps40, List.size_toArray, List.length_cons, List.length_nil, Nat.reduceAdd, Nat.reduceSub, Array.replicate_succ, Array.replicate_zero, List.push_toArray, List.append_toArray, List.nil_append, List.cons_append]
  gi_wp2
  gi_loopw [3, 8] (fun t i wr => ∃ k : Nat, k ≤ zs.length ∧ i = .int .i64 k ∧ t = .int .i64 (atOf zs k) ∧ J k wr ∧ Below n₀ W wr ∧ W.heap.size ≤ wr.heap.size)
    (fun _ i _ => zs.length - (intOf i).toNat)
  case atStart => exact ⟨0, Nat.zero_le _, rfl, rfl, h0, Below.refl _ _, Nat.le_refl _⟩
  case round =>
    obtain ⟨k, hk, rfl, rfl, hJs, hnx, hWr⟩ := hrel
    by_cases hlt : k < zs.length
    · obtain ⟨c1, c2⟩ := (hc.below hnx hb) k hlt
      obtain ⟨p, q, hpq⟩ : ∃ p q, zs[k]?.getD (0, 0) = (p, q) := ⟨_, _, rfl⟩
      rw [hpq] at c1 c2
      dsimp only at c1 c2
      obtain ⟨fn, tmps, assign, body, hy, hR⟩ := hY k wr hlt hJs hnx hWr
      simp only [encItem, itemOf, hpq, segBox] at hy hR
      have HR := Lib.hid hR
      have HC := Lib.hid hc
      have HP := Lib.hid hpq
      have HA : Hid (atOf zs (k + 1) = wrap64 (atOf zs k + p)) := by show wrap64 _ = _; rw [hpq]
      clear hR hc hY hpq
      gi_wp2
      refine HR.out.mono ?_
      rintro e W3 ⟨rfl, hJ3, hk3, hbox⟩
      have hb3 : Below n₀ W W3 := hnx.trans hk3
      have g1 : W3.cell? ⟨wr.heap.size, 0, none⟩ = some (.int .i64 p) := by simp [World.cell?, hbox]
      have hz : wr.heap.size < W3.heap.size := (Array.getElem?_eq_some_iff.1 hbox).1
      clear hbox
      gi_wp2
      go_roundw
      case rel => exact ⟨k + 1, by omega, by go_num, by rw [HA.out], hJ3, hb3, by omega⟩
      case measure => simp [intOf]; omega
    · obtain rfl : k = zs.length := by omega
      gi_wp2
      go_end0
      exact ⟨⟨_, rfl⟩, hJs⟩

theorem rangeBegins {F : Fence} {n : Nat} {g : Operand} {ps : Array Tmp} {assign body : Code} {Q : Exit → Act → World → Prop} {a : Act} {w : World} (h40 : F.fn 40) (hro : F.round = none) (h1 : 2 ≤ n)
    (Bs n₀ : Nat) (sv : Value) (zs : List (Int × Int)) (hg : a.eval g = .func (.func 40) #[] #[.pointer (some ⟨Bs, 0, none⟩)]) (hps : ps.size = 2) (hBs : w.cell? ⟨Bs, 0, none⟩ = some sv) (hBl : Bs < w.heap.size) (hS : Segs w n₀ sv zs) (hn₀ : n₀ ≤ w.heap.size)
    (I : Nat → World → Prop) (hI : OwnFrom w.heap.size I) (h0 : I 0 w)
    (hround : ∀ (l k : Nat) (wr : World), w.heap.size < l → k < zs.length → I k wr → l < wr.heap.size →
      assign.wpIn (F.inRound l) (n - 1 - 1) Try.prog (Exit.then (fun a' W2 => KeepsFrom w.heap.size (wr.alloc (segBox zs k)) W2 ∧ ∀ r o', W2.heap[l]? = some (.loop r) → body.wpIn (F.inRound l) (n - 1 - 1) Try.prog
          (fun e _ W4 => e = .normal ∧ KeepsFrom w.heap.size (W2.putObj l (.loop o')) W4 ∧ I (k + 1) W4 ∧ Below n₀ wr W4 ∧ W4.heap[wr.heap.size]? = some (segBox zs k)) a' (W2.putObj l (.loop o'))) (fun _ _ _ => False))
        { tmps := (ps.zip (encItem (itemOf zs k))).foldl (fun t (p, v) => t.setIfInBounds p v) a.tmps, defers := [] } (wr.alloc (segBox zs k)))
    (hdone : ∀ (D : Nat) (W : World), w.heap.size ≤ D → I zs.length W → W.heap[D]? = some (.deferred (some [])) → Q .normal { a with defers := { target := .collected D, args := #[] } :: a.defers } W) :
    (Code.rangeFunc g ps assign body).wpIn F n Try.prog Q a w := by
  refine wpIn_rangeFunc fun fn hfn => ?_
  rw [hro]
  obtain ⟨rec, hrec⟩ : ∃ rec : LoopState → Loop, rec = fun st => { state := st, pending := none, fn, tmps := a.tmps, params := ps, assign, body, defers := w.heap.size } := ⟨_, rfl⟩
  obtain ⟨W1, hW1⟩ : ∃ W1, (w.alloc (.deferred (some []))).alloc (.loop (rec .ready)) = W1 := ⟨_, rfl⟩
  have hz1 : W1.heap.size = w.heap.size + 2 := by rw [← hW1]; simp
  have hL1 : W1.heap[w.heap.size + 1]? = some (.loop (rec .ready)) := by
    rw [← hW1]; simpa using World.alloc_heap_new (w.alloc (.deferred (some []))) (.loop (rec .ready))
  have hK1 : W1.heap[w.heap.size]? = some (.deferred (some [])) := by
    rw [← hW1, Below.heap_alloc _ _ _ (by simp)]; exact World.alloc_heap_new w _
  have hI1 : I 0 W1 := by rw [← hW1]; exact hI.alloc _ (hI.alloc _ h0)
  have hb1 : Below w.heap.size w W1 := by
    rw [← hW1]; exact ((Below.refl _ w).alloc (Nat.le_refl _) _).alloc (by simp) _
  refine ⟨w.heap.size + 1, [{ target := .collected w.heap.size, args := #[] }], W1, { target := .fn (.func 40) #[.pointer (some ⟨Bs, 0, none⟩)], args := #[.func (.yield (w.heap.size + 1)) #[] #[]] }, W1, 40,
    #[.func (.yield (w.heap.size + 1)) #[] #[]] ++ #[.pointer (some ⟨Bs, 0, none⟩)], W1, ?_, ?_, ?_, ?_, fun _ => (by omega), ?_⟩
  · rw [← hW1, hrec]; exact run_enterLoop_outer _ _ _ _ _
  · simp only [resolve, hg]
    simp [go_sem]
  · intro f' hf'; simp [Target.leads] at hf'; subst hf'; exact h40
  · simp [invoke, go_sem, enters_of Try.func40 (by kernel_rfl) rfl]
  · have hBs1 := (hb1.cell (p := ⟨Bs, 0, none⟩) hBl).trans hBs
    obtain ⟨sa, cap, rfl, hm, h, _⟩ := (hS.below (hb1.mono hn₀))
    have key : CallsIn F (n - 1) Try.prog 40 #[.func (.yield (w.heap.size + 1)) #[] #[], .pointer (some ⟨Bs, 0, none⟩)] W1 fun e W' => (∃ v, e = .returned v) ∧
        I zs.length W' ∧ W'.heap[w.heap.size + 1]? = some (.loop (rec .ready)) ∧ W'.heap[w.heap.size]? = some (.deferred (some [])) := by
      rcases h with rfl | ⟨b, off, rfl, hb, hcs⟩
      · exact begins1_nil_in F (n - 1) h40 hro (w.heap.size + 1) Bs sa cap (fun _ W => I 0 W ∧ W.heap[w.heap.size + 1]? = some (.loop (rec .ready)) ∧ W.heap[w.heap.size]? = some (.deferred (some []))) W1 hBs1 ⟨hI1, hL1, hK1⟩
      · refine begins1_free F (n - 1) h40 hro (by omega) (w.heap.size + 1) Bs n₀ b off cap zs hm hb (fun k W => I k W ∧ W.heap[w.heap.size + 1]? = some (.loop (rec .ready)) ∧ W.heap[w.heap.size]? = some (.deferred (some [])))
          W1 (by omega) ?_ hBs1 hcs ⟨hI1, hL1, hK1⟩
        rintro k wr hk ⟨hi, hl, hd⟩ hnx hWr
        have hl' : (wr.alloc (segBox zs k)).heap[w.heap.size + 1]? = some (.loop (rec .ready)) := (Below.heap_alloc _ _ _ (by omega)).trans hl
        have hd' : (wr.alloc (segBox zs k)).heap[w.heap.size]? = some (.deferred (some [])) := (Below.heap_alloc _ _ _ (by omega)).trans hd
        have hy := run_yield (P := Try.prog) (args := encItem (itemOf zs k)) hl' (by rw [hrec, hps]; rfl)
        rw [hrec] at hy
        refine ⟨fn, _, assign, body, hy, roundIn_of_wpIn hfn (wpIn_mono (hround (w.heap.size + 1) k wr (by omega) hk hi (by omega)) ?_)⟩
        rintro e a' W2 hp
        cases e with
        | normal =>
          obtain ⟨hkf, hbody⟩ := hp
          have hl2 := hkf.same _ _ (by omega) hl' rfl
          have hd2 := hkf.same _ _ (Nat.le_refl _) hd' rfl
          refine ⟨_, run_beginRound hl2 (by rw [hrec]), wpIn_mono (hbody _ _ hl2) ?_⟩
          rintro e a4 W4 ⟨rfl, hk4, hi4, hb4, hx4⟩
          have hl3 := hk4.same (w.heap.size + 1) _ (by omega) (World.putObj_heap_same (Array.getElem?_eq_some_iff.1 hl2).1) rfl
          have hd3 := hk4.same w.heap.size _ (Nat.le_refl _) ((World.putObj_heap_other (by omega)).trans hd2) rfl
          have hr := run_endRound (P := Try.prog) none hl3
          have hlt3 : w.heap.size + 1 < W4.heap.size := (Array.getElem?_eq_some_iff.1 hl3).1
          refine ⟨_, _, hr, rfl, ⟨hI.putObj _ hi4 (by omega) hl3 rfl, ?_, (World.putObj_heap_other (by omega)).trans hd3⟩, ?_, (World.putObj_heap_other (by omega)).trans hx4⟩
          · rw [World.putObj_heap_same hlt3, hrec]; rfl
          · exact hb4.trans (belowK_b (w := w) hn₀ _ _ _ _ (by omega) hl3 rfl rfl)
        | ret => exact hp.elim
        | exit id => exact hp.elim
        | goto t => exact hp.elim
        | panic ch => exact hp.elim
        | outgrown => exact hp.elim
    refine key.mono ?_
    rintro e W2 ⟨⟨v, rfl⟩, hi, hl, hd⟩
    have := run_endLoop (P := Try.prog) hl (by rw [hrec]; simp)
    rw [hrec] at this
    exact ⟨none, _, this, hdone _ _ (Nat.le_refl _) (hI.putObj _ hi (by omega) hl rfl) ((World.putObj_heap_other (by omega)).trans hd)⟩
end Go.Proofs.Ytnpaoekblfflmaa
