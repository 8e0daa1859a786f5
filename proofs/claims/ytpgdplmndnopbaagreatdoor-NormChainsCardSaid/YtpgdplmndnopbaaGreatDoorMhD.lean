/- Range over a function, at the wide fence: a region that draws within a round; the rounds of a loop that gathers. -/
import Derived.RangeFuncNested
import Derived.RangeFuncBound
import Derived.RangeFuncCalls
import Derived.RangeFuncLeaves
import Derived.Shelf.Abstract
import Derived.Shelf.RegionOpen
import Derived.OwnWalkIn
import Derived.TacticsInMore
import Derived.LoopIn
import Derived.OrdersHeld
import Derived.Deep.AppendLies
import Derived.Test.YtpgdplmndnopbaaGreatDoorMhC
namespace Go.Proofs.YtpgdplmndnopbaaGreatDoor
open Go.RowKit Go.Shelf
/-! ### A region that draws, within a round of the wide fence -/
def noDefer (o : Oper) : Bool := match o.op with
 | .defer _ => false
 | _ => true
theorem noDefer_ne {o : Oper} (h : noDefer o = true) : ∀ c, o.op ≠ .defer c := by
 intro c e
 simp [noDefer, e] at h
theorem rowsIn_wide {n : Nat} {P : Program} {row : String} {args : Array Value} {w : World} {R : Value → World → Prop} (h : Rows P row args w R) : RowsIn Fence.wide n P row args w R :=
 fun c cs _ => let ⟨v, w', r, s⟩ := h c cs; ⟨v, w', r, stepsIn_wide.2 s⟩
theorem oper_round {l n : Nat} {P : Program} {o : Oper} {a : Act} {w : World} {K : Act → World → Prop} {Q : Exit → Act → World → Prop} (hd : noDefer o = true) (h : o.wp P a w K Q) : o.wpIn (Fence.wide.inRound l) n P a w K Q := by
 refine ⟨fun _ _ => trivial, ?_⟩
 rw [Oper.semAt_plain _ _ _ (noDefer_ne hd)]
 unfold Oper.wp at h
 generalize (execOp a.eval o).run P w = r at h ⊢
 cases r with
 | ok x w' =>
  cases x with
  | value v => exact h
  | skip => exact h
  | defer d => exact h
  | enter f args => exact ⟨fun hh => (by cases hh), (callsIn_wide (n := n - 1)).2 h⟩
  | row row args => exact ⟨fun hh => (by cases hh), rowsIn_wide h⟩
  | _ => exact h.elim
 | halt x w' => cases x <;> exact h
theorem wpOp_round {l n : Nat} {P : Program} {ops : Array Oper} {Q : Exit → Act → World → Prop} (hQ : ¬ LetsOut Q) (hd : ops.all noDefer = true) {i : Nat} {a : Act} {w : World} {K : Act → World → Prop} (h : wpOp P ops Q i K a w) : wpOpIn (Fence.wide.inRound l) n P ops Q i K a w := by
 unfold wpOp at h
 unfold wpOpIn
 cases ho : ops[i]? with
 | none => rw [ho] at h; exact h
 | some o =>
  rw [ho] at h
  dsimp only at h ⊢
  have hno : noDefer o = true := by
   obtain ⟨hi, rfl⟩ := Array.getElem?_eq_some_iff.1 ho
   exact Array.all_eq_true.1 hd i hi
  split
  ·rename_i hw
   rw [if_pos hw] at h
   rcases h with h | h
   ·exact oper_round hno h
   ·exact absurd h.2 hQ
  ·rename_i hw
   rw [if_neg hw] at h
   exact ⟨fun _ _ => trivial, h⟩
theorem wpAny_round {l n : Nat} {P : Program} {md : Region.Mode} {ops : Array Oper} {Q : Exit → Act → World → Prop} (hQ : ¬ LetsOut Q) (hd : ops.all noDefer = true) : ∀ (fuel : Nat) (listed : Array Bool) (a : Act) (w : World),
 wpAny P md ops Q fuel listed a w → wpAnyIn (Fence.wide.inRound l) n P md ops Q fuel listed a w
 | 0, _, _, _, h => h
 | fuel + 1, _, _, _, h => ⟨h.1, fun i hi => wpOp_round hQ hd (wpOp_mono (fun a w h => wpAny_round hQ hd fuel _ a w h) (h.2 i hi))⟩
theorem region_round {l n : Nat} {P : Program} {ops : Array Oper} {Q : Exit → Act → World → Prop} {S : World → Prop} {id : Nat} {a : Act} {w : World} (hm : P.follows .mixedOrders = true) (hd : ops.all noDefer = true) (hQ : ¬ LetsOut Q) (hS : S w.drew)
 (h : S w.drew → wpAnyH P .any ops Q S ops.size (Array.replicate ops.size false) a w.drew) : (Code.region id ops true).wpIn (Fence.wide.inRound l) n P Q a w :=
 wpIn_region_any hm (wpAny_round hQ hd _ _ _ _ (wpAny_of_held _ _ _ _ (h hS)))
/-! ### The rounds of a loop whose body gathers into a row of its own -/
def Pro (Bs l D : Nat) (W : World) (b : Nat) : Prop := b ≠ Bs ∧ b ≠ l ∧ b ≠ D ∧ ∀ v, W.heap[Bs]? = some (.cells #[v] 24 (0, 0)) → v.ownBlock ≠ some b
def Kq (Bs l D : Nat) (W W' : World) : Prop := W.heap.size ≤ W'.heap.size ∧ ∀ b, b < W.heap.size → Pro Bs l D W b → W'.heap[b]? = W.heap[b]? ∧ Pro Bs l D W' b
theorem Kq.refl (Bs l D : Nat) (W : World) : Kq Bs l D W W := ⟨Nat.le_refl _, fun _ _ h => ⟨rfl, h⟩⟩
theorem Kq.trans {Bs l D : Nat} {A B C : World} (h : Kq Bs l D A B) (k : Kq Bs l D B C) : Kq Bs l D A C :=
 ⟨Nat.le_trans h.1 k.1, fun b hb hp => by
  obtain ⟨e1, p1⟩ := h.2 b hb hp
  obtain ⟨e2, p2⟩ := k.2 b (Nat.lt_of_lt_of_le hb h.1) p1
  exact ⟨e2.trans e1, p2⟩⟩
structure Ap (w0 : World) (base Bs l D : Nat) (rec : LoopState → Loop) (items : List (List Value)) (W : World) : Prop where
 box : ∃ v, W.heap[Bs]? = some (.cells #[v] 24 (0, 0)) ∧ W.ownsRow base 28 8 v items.length items.flatten
 L : W.heap[l]? = some (.loop (rec .ready))
 K : W.heap[D]? = some (.deferred (some []))
 below : Below base w0 W
theorem Ap.bs {w0 : World} {base Bs l D : Nat} {rec : LoopState → Loop} {items : List (List Value)} {W : World} (h : Ap w0 base Bs l D rec items W) : Bs < W.heap.size := by
 obtain ⟨v, hv, _⟩ := h.box
 exact (Array.getElem?_eq_some_iff.1 hv).1
theorem Ap.new {w0 : World} {base Bs l D : Nat} {rec : LoopState → Loop} {items : List (List Value)} {W : World} (h : Ap w0 base Bs l D rec items W) (o : Obj) : Pro Bs l D (W.alloc o) W.heap.size := by
 obtain ⟨v, hv, ho⟩ := h.box
 have h1 := h.bs
 have h2 := (Array.getElem?_eq_some_iff.1 h.L).1
 have h3 := (Array.getElem?_eq_some_iff.1 h.K).1
 refine ⟨by omega, by omega, by omega, fun u hu e => ?_⟩
 rw [Lib.alloc_old _ _ _ h1, hv] at hu
 obtain rfl : v = u := by simpa using hu
 have := (World.ownsRow.lt ho _ e).2
 omega
theorem kq_alloc {Bs l D : Nat} {W : World} (hb : Bs < W.heap.size) (o : Obj) : Kq Bs l D W (W.alloc o) :=
 ⟨by simp, fun b h hp => ⟨Lib.alloc_old _ _ _ h, hp.1, hp.2.1, hp.2.2.1, fun v hv => hp.2.2.2 v (by rw [Lib.alloc_old _ _ _ hb] at hv; exact hv)⟩⟩
theorem Ap.alloc {w0 : World} {base Bs l D : Nat} {rec : LoopState → Loop} {items : List (List Value)} {W : World} (h : Ap w0 base Bs l D rec items W) (hb : base ≤ W.heap.size) (o : Obj) : Ap w0 base Bs l D rec items (W.alloc o) := by
 obtain ⟨v, hv, ho⟩ := h.box
 exact ⟨⟨v, hp_in hv, ho.alloc _⟩, hp_in h.L, hp_in h.K, h.below.alloc hb o⟩
theorem Ap.drew {w0 : World} {base Bs l D : Nat} {rec : LoopState → Loop} {items : List (List Value)} {W : World} (h : Ap w0 base Bs l D rec items W) : Ap w0 base Bs l D rec items W.drew := by
 obtain ⟨v, hv, ho⟩ := h.box
 exact ⟨⟨v, hv, World.ownsRow.drew ho⟩, h.L, h.K, h.below.drew⟩
def Gathers (P : Program) (base Bs : Nat) (ps : Array Tmp) (tmps : Array Value) (assign body : Code) (N : Nat) : Prop :=
 ∀ (l m : Nat) (wr : World) (sv : Value) (items : List (List Value)) (v : List Value), wr.heap[Bs]? = some (.cells #[sv] 24 (0, 0)) → wr.ownsRow base 28 8 sv items.length items.flatten → v.length = 8 → (∀ u ∈ v, u.oneCell' = true) → (∃ k b1 n1 d1 b2 n2 d2 lo ls hi hs op, v = [.int .u8 k, .slice b1 n1 d1, .slice b2 n2 d2, .int .i64 lo, .bool ls, .int .i64 hi, .bool hs, .bool op]) →
  l < wr.heap.size → l ≠ Bs → (∃ r, wr.heap[l]? = some (.loop r)) → items.length < N → base ≤ wr.heap.size →
  assign.wpIn (Fence.wide.inRound l) m P (Exit.then (fun a' W2 => (∃ o, W2 = wr.alloc o) ∧ ∀ o', body.wpIn (Fence.wide.inRound l) m P
   (fun e _ W4 => e = .normal ∧ ∃ sv', W4.heap[Bs]? = some (.cells #[sv'] 24 (0, 0)) ∧ W4.ownsRow base 28 8 sv' (items.length + 1) (items.flatten ++ v) ∧ (sv'.ownBlock = sv.ownBlock ∨ ∃ g, sv'.ownBlock = some g ∧ W2.heap.size ≤ g) ∧
    W4.os = W2.os ∧ W4.tape = W2.tape ∧ W4.output = W2.output ∧ W2.heap.size ≤ W4.heap.size ∧ ∀ b, b < W2.heap.size → b ≠ Bs → sv.ownBlock ≠ some b → W4.heap[b]? = (W2.putObj l (.loop o')).heap[b]?) a' (W2.putObj l (.loop o'))) (fun _ _ _ => False))
   { tmps := (ps.zip #[.agg v.toArray]).foldl (fun t (p, x) => t.setIfInBounds p x) tmps, defers := [] } wr
theorem row_not_loop {W : World} {base : Nat} {v : Value} {n : Nat} {xs : List Value} (h : W.ownsRow base 28 8 v n xs) {j : Nat} {o : Obj} (hj : W.heap[j]? = some o) (hno : ∀ cur, o ≠ .cells cur 28 (0, 0)) : v.ownBlock ≠ some j := by
 intro e
 rcases h.2 with ⟨rfl, _⟩ | ⟨g, cap, cur, rfl, _, hg, _⟩
 ·cases e
 ·have : g = j := by simpa [Value.ownBlock] using e
  subst this
  rw [hg] at hj
  injection hj with hj
  exact hno cur hj.symm
theorem gathers_yield {P : Program} {w0 : World} {base Bs l D N m : Nat} {ps : Array Tmp} {tmps : Array Value} {assign body : Code} {fn : FuncId} (hps : ps.size = 1) (hG : Gathers P base Bs ps tmps assign body N) (hBl : l ≠ Bs) (hDl : D ≠ l) (hDB : D ≠ Bs) (hbB : base ≤ Bs) (hbl : base ≤ l)
 {items : List (List Value)} {W : World} (h : Ap w0 base Bs l D (fun st => { state := st, pending := none, fn, tmps, params := ps, assign, body, defers := D }) items W) (hN : items.length < N) {v : List Value} (hv : v.length = 8)
 (hsh : ∃ k b1 n1 d1 b2 n2 d2 lo ls hi hs op, v = [.int .u8 k, .slice b1 n1 d1, .slice b2 n2 d2, .int .i64 lo, .bool ls, .int .i64 hi, .bool hs, .bool op]) :
 YieldAt Fence.wide m P l #[.agg v.toArray] W fun e W' => e = .returned (.bool true) ∧ Ap w0 base Bs l D (fun st => { state := st, pending := none, fn, tmps, params := ps, assign, body, defers := D }) (items ++ [v]) W' ∧ Kq Bs l D W W' := by
 have hone : ∀ u ∈ v, u.oneCell' = true := by
  obtain ⟨k, b1, n1, d1, b2, n2, d2, lo, ls, hi, hs, op, rfl⟩ := hsh
  intro u hu
  simp at hu
  rcases hu with rfl | rfl | rfl | rfl | rfl | rfl | rfl | rfl <;> rfl
 obtain ⟨sv, hsv, hown⟩ := h.box
 have hbs := h.bs
 have hl := (Array.getElem?_eq_some_iff.1 h.L).1
 have hD := (Array.getElem?_eq_some_iff.1 h.K).1
 have hnl : sv.ownBlock ≠ some l := row_not_loop hown h.L (by intro cur e; cases e)
 have hnD : sv.ownBlock ≠ some D := row_not_loop hown h.K (by intro cur e; cases e)
 have hnB : sv.ownBlock ≠ some Bs := row_not_loop hown hsv (by intro cur e; simp at e)
 refine ⟨fn, _, assign, body, run_yield (args := #[.agg v.toArray]) h.L (by simpa using hps.symm), roundIn_of_wpIn trivial (wpIn_mono (hG l m W sv items v hsv hown hv hone hsh hl hBl ⟨_, h.L⟩ hN (by omega)) ?_)⟩
 rintro e a' W2 hp
 cases e with
 | normal =>
  obtain ⟨⟨o, rfl⟩, hbody⟩ := hp
  have hl2 : (W.alloc o).heap[l]? = some _ := hp_in h.L
  refine ⟨_, run_beginRound hl2 rfl, wpIn_mono (hbody _) ?_⟩
  rintro e a4 W4 ⟨rfl, sv', hsv', hown', hat, hos, htp, hout, hsz, hsame⟩
  have hsz' : W.heap.size + 1 ≤ W4.heap.size := by simpa using hsz
  have hl4 : W4.heap[l]? = some (.loop { state := .busy, pending := none, fn, tmps, params := ps, assign, body, defers := D }) := by
   rw [hsame l (by simp; omega) hBl hnl]
   exact World.putObj_heap_same (by simp; omega)
  have hD4 : W4.heap[D]? = some (.deferred (some [])) := by
   rw [hsame D (by simp; omega) hDB hnD, World.putObj_heap_other hDl]
   exact hp_in h.K
  have hB4 : W4.heap[Bs]? = some (.cells #[sv'] 24 (0, 0)) := hsv'
  refine ⟨_, _, run_endRound none hl4, rfl, ⟨⟨sv', (World.putObj_heap_other (Ne.symm hBl)).trans hB4, ?_⟩, World.putObj_heap_same (by omega), (World.putObj_heap_other hDl).trans hD4, ?_⟩, ?_⟩
  ·have : W4.ownsRow base 28 8 sv' (items ++ [v]).length (items ++ [v]).flatten := by simpa using hown'
   exact this.kept (grownBy_putObj' W4 l _) (.inr (row_not_loop this hl4 (by intro cur e; cases e)))
  ·refine ⟨by simpa [World.putObj] using hos.trans h.below.os, by simpa [World.putObj] using htp.trans h.below.tape, by simpa [World.putObj] using hout.trans h.below.output, by simp; have := h.below.size; omega, fun k hk => ?_⟩
   have hbz := h.below.block k hk
   by_cases hkW : k < W.heap.size
   ·rw [World.putObj_heap_other (by omega), hsame k (by simp; omega) (by omega) ?_, World.putObj_heap_other (by omega), Lib.alloc_old _ _ _ hkW, hbz]
    intro e
    have := (World.ownsRow.lt hown _ e).1
    omega
   ·exact absurd (Nat.lt_of_lt_of_le hk (by omega : base ≤ W.heap.size)) hkW
  ·refine ⟨by simp; omega, fun b hb hp => ?_⟩
   obtain ⟨p1, p2, p3, p4⟩ := hp
   refine ⟨?_, p1, p2, p3, fun u hu => ?_⟩
   ·rw [World.putObj_heap_other p2, hsame b (by simp; omega) p1 (p4 sv hsv), World.putObj_heap_other p2, Lib.alloc_old _ _ _ hb]
   ·rw [World.putObj_heap_other (Ne.symm hBl), hB4] at hu
    obtain rfl : sv' = u := by simpa using hu
    rcases hat with e | ⟨g, e, hg⟩
    ·rw [e]; exact p4 sv hsv
    ·rw [e]
     intro e2
     injection e2 with e2
     simp at hg
     omega
 | ret => exact hp.elim
 | exit id => exact hp.elim
 | goto t => exact hp.elim
 | panic ch => exact hp.elim
 | outgrown => exact hp.elim
end Go.Proofs.YtpgdplmndnopbaaGreatDoor

/- norm.parts walked: the parts of a chain, one behind the other. -/
namespace Go.Proofs.YtpgdplmndnopbaaGreatDoor
open Go.RowKit Go.Shelf
attribute [local go_sem] Oper.semAt_some
theorem parts_leaf {y : YX} {k : Int} (h : Nm.kind y ≠ k) : Nm.parts k y = [y] := by
 cases y with
 | bin k' a b => rw [Nm.parts, if_neg (show ¬ k' = k from h)]
 | _ => rfl
theorem shape_list {w : World} {y : YX} {lo hi : Nat} {v : List Value} (h : OY w y lo hi (.agg v.toArray)) : ∃ a1 c1 a c, v = [.int .u8 (Nm.kind y), .slice a1 (isY y).length c1, .slice a (kidsY y).length c, .int .i64 (spnY y).low, .bool (spnY y).ls, .int .i64 (spnY y).high, .bool (spnY y).hs, .bool (spnY y).op] := by
 obtain ⟨a1, c1, a, c, hv⟩ := h.shape
 injection hv with hv
 have := congrArg Array.toList hv
 exact ⟨a1, c1, a, c, by simpa using this⟩
structure Env (Bs l D kb yb tb : Nat) (k : Int) (W : World) : Prop where
 kbx : W.heap[kb]? = some (.cells #[.int .u8 k] 5 (0, 0))
 ybx : W.heap[yb]? = some (.cells #[.func (.yield l) #[] #[]] 29 (0, 0))
 tbx : W.heap[tb]? = some (.cells #[.func (.func 158) #[] #[.pointer (some ⟨kb, 0, none⟩), .pointer (some ⟨yb, 0, none⟩), .pointer (some ⟨tb, 0, none⟩)]] 29 (0, 0))
 pk : Pro Bs l D W kb
 py : Pro Bs l D W yb
 pt : Pro Bs l D W tb
theorem Env.kq {Bs l D kb yb tb : Nat} {k : Int} {W W' : World} (h : Env Bs l D kb yb tb k W) (hk : Kq Bs l D W W') : Env Bs l D kb yb tb k W' := by
 have h1 := hk.2 kb (Array.getElem?_eq_some_iff.1 h.kbx).1 h.pk
 have h2 := hk.2 yb (Array.getElem?_eq_some_iff.1 h.ybx).1 h.py
 have h3 := hk.2 tb (Array.getElem?_eq_some_iff.1 h.tbx).1 h.pt
 exact ⟨h1.1.trans h.kbx, h2.1.trans h.ybx, h3.1.trans h.tbx, h1.2, h2.2, h3.2⟩
def Yields8 (w0 : World) (base Bs l D : Nat) (rec : LoopState → Loop) (N : Nat) : Prop :=
 ∀ (m : Nat) (items : List (List Value)) (W : World) (v : List Value), Ap w0 base Bs l D rec items W → items.length < N → v.length = 8 → (∃ k b1 n1 d1 b2 n2 d2 lo ls hi hs op, v = [.int .u8 k, .slice b1 n1 d1, .slice b2 n2 d2, .int .i64 lo, .bool ls, .int .i64 hi, .bool hs, .bool op]) →
  YieldAt Fence.wide m Tryz.prog l #[.agg v.toArray] W fun e W' => e = .returned (.bool true) ∧ Ap w0 base Bs l D rec (items ++ [v]) W' ∧ Kq Bs l D W W'
def Thr (w0 : World) (base Bs l D kb yb tb : Nat) (k : Int) (rec : LoopState → Loop) (N : Nat) (y : YX) : Prop :=
 ∀ (n : Nat) (v : List Value) (lo hi : Nat) (items : List (List Value)) (W : World), OY w0 y lo hi (.agg v.toArray) → hi ≤ base → v.length = 8 → Ap w0 base Bs l D rec items W → Env Bs l D kb yb tb k W → items.length + (Nm.parts k y).length ≤ N → base ≤ W.heap.size →
  CallsIn Fence.wide n Tryz.prog 158 #[.agg v.toArray, .pointer (some ⟨kb, 0, none⟩), .pointer (some ⟨yb, 0, none⟩), .pointer (some ⟨tb, 0, none⟩)] W fun e W' => e = .returned (.bool true) ∧ ∃ vs, Ch (OY w0) (Nm.parts k y) vs lo hi ∧ Ap w0 base Bs l D rec (items ++ vs) W' ∧ Kq Bs l D W W'
set_option maxRecDepth 100000 in
set_option maxHeartbeats 4000000 in
theorem through_leaf {w0 : World} {base Bs l D kb yb tb : Nat} {k : Int} {rec : LoopState → Loop} {N : Nat} (hY : Yields8 w0 base Bs l D rec N) {y : YX} (hne : Nm.kind y ≠ k) : Thr w0 base Bs l D kb yb tb k rec N y := by
 intro n v lo hi items W hO hhi hv8 hA hE hN hbase
 obtain ⟨a1, c1, a, c, rfl⟩ := shape_list hO
 have hne' : (Nm.kind y != k) = true := by simpa using hne
 rw [parts_leaf hne] at hN ⊢
 have HCH : Hid (Ch (OY w0) [y] [[.int .u8 (Nm.kind y), .slice a1 (isY y).length c1, .slice a (kidsY y).length c, .int .i64 (spnY y).low, .bool (spnY y).ls, .int .i64 (spnY y).high, .bool (spnY y).hs, .bool (spnY y).op]] lo hi) := Ch.cons (Nat.le_refl _) hO.le rfl hO (Ch.nil (Nat.le_refl _))
 obtain ⟨fn, tmps, assign, body, hy, hR⟩ := hY (n - 1) items _ _ (hA.alloc hbase (.cells #[.int .u8 (Nm.kind y), .slice a1 (isY y).length c1, .slice a (kidsY y).length c, .int .i64 (spnY y).low, .bool (spnY y).ls, .int .i64 (spnY y).high, .bool (spnY y).hs, .bool (spnY y).op] 28)) (by simp at hN; omega) hv8 ⟨_, _, _, _, _, _, _, _, _, _, _, _, rfl⟩
 have HKQ : Hid (Kq Bs l D W (W.alloc (.cells #[.int .u8 (Nm.kind y), .slice a1 (isY y).length c1, .slice a (kidsY y).length c, .int .i64 (spnY y).low, .bool (spnY y).ls, .int .i64 (spnY y).high, .bool (spnY y).hs, .bool (spnY y).op] 28))) := kq_alloc hA.bs _
 have HR := Lib.hid hR
 have k0 := Lib.cell_of_heap hE.kbx 0
 have y0 := Lib.cell_of_heap hE.ybx 0
 have hkl := (Array.getElem?_eq_some_iff.1 hE.kbx).1
 have hyl := (Array.getElem?_eq_some_iff.1 hE.ybx).1
 simp only [List.getElem?_toArray, List.getElem?_cons_zero] at k0 y0
 clear hR hO hA hE hN hne hY hv8
 refine callsIn_of_wp Tryz.func158 rfl trivial ?_ rfl
 simp only [Tryz.ntmps158, List.size_toArray, List.length_cons, List.length_nil, Nat.reduceAdd, Nat.reduceSub, Array.replicate_succ, Array.replicate_zero, List.push_toArray, List.append_toArray, List.nil_append, List.cons_append]
 gi_wp2
 refine ⟨fun h => absurd h (by decide), HR.out.mono ?_⟩
 rintro e W3 ⟨rfl, hA3, hk3⟩
 have HA3 := Lib.hid hA3
 have HK3 := Lib.hid hk3
 clear hA3 hk3
 gi_wp2
 go_ret
 exact ⟨rfl, _, HCH.out, HA3.out, HKQ.out.trans HK3.out⟩
theorem OY.bin {w : World} {k : Int} {a b : YX} {lo hi : Nat} {v : Value} (h : OY w (.bin k a b) lo hi v) :
 ∃ (a1 : Option Addr) (c1 g c mid1 mid2 : Nat) (va vb : List Value) (cur : Array Value), v = .agg #[.int .u8 k, .slice a1 0 c1, .slice (some ⟨g, 0, none⟩) 2 c, .int .i64 0, .bool false, .int .i64 0, .bool false, .bool false] ∧ lo ≤ g ∧ g < mid1 ∧ g < hi ∧ w.heap[g]? = some (.cells cur 28 (0, 0)) ∧ (∀ j, j < 8 → cur[j]? = va[j]?) ∧ (∀ j, j < 8 → cur[8 + j]? = vb[j]?) ∧
  va.length = 8 ∧ vb.length = 8 ∧ OY w a mid1 mid2 (.agg va.toArray) ∧ OY w b mid2 hi (.agg vb.toArray) := by
 cases h with
 | @mk _ _ mid _ c1 c a1 a' es vs hf hlm hm hes hend hrow hv hk =>
  rcases hrow with h | ⟨g, rfl, hg1, hg2, cur, hc, hcs⟩
  ·cases h
  ·have l2 : (kidsY (Nm.Y.bin k a b : YX)).length = 2 := rfl
   have h01 := hes 0 (by rw [l2]; omega)
   have h12 := hes 1 (by rw [l2]; omega)
   have hend2 : es 2 ≤ hi := by rw [l2] at hend; exact hend
   have h12' : es 1 ≤ es 2 := h12
   have h01' : es 0 ≤ es 1 := h01
   refine ⟨a1, c1, g, c, es 0, es 1, vs 0, vs 1, cur, rfl, by omega, hg2, by omega, hc, fun j hj => ?_, fun j hj => ?_, hv 0 (by rw [l2]; omega), hv 1 (by rw [l2]; omega), hk 0 (by rw [l2]; omega), (hk 1 (by rw [l2]; omega)).wide (by rw [l2] at hend; exact hend)⟩
   ·have := hcs 0 (by rw [l2]; omega) j hj
    rw [Nat.zero_mul, Nat.zero_add] at this
    exact this
   ·have := hcs 1 (by rw [l2]; omega) j hj
    rw [Nat.one_mul] at this
    exact this
set_option maxRecDepth 100000 in
set_option maxHeartbeats 16000000 in
theorem through_bin {w0 : World} {base Bs l D kb yb tb : Nat} {k : Int} {rec : LoopState → Loop} {N : Nat} {a b : YX} (iha : Thr w0 base Bs l D kb yb tb k rec N a) (ihb : Thr w0 base Bs l D kb yb tb k rec N b) : Thr w0 base Bs l D kb yb tb k rec N (.bin k a b) := by
 intro n v lo hi items W hO hhi hv8 hA hE hN hbase
 obtain ⟨a1, c1, g, c, mid1, mid2, va, vb, cur, hv, hg1, hg2, hg3, hcur, hca, hcb, hla, hlb, hOa, hOb⟩ := hO.bin
 have hvl : v = [.int .u8 k, .slice a1 0 c1, .slice (some ⟨g, 0, none⟩) 2 c, .int .i64 0, .bool false, .int .i64 0, .bool false, .bool false] := by
  injection hv with hv
  have := congrArg Array.toList hv
  simpa using this
 subst hvl
 rw [Nm.parts, if_pos rfl] at hN ⊢
 rw [List.length_append] at hN
 obtain ⟨W1, hW1⟩ : ∃ W1, W1 = W.alloc (.cells #[.int .u8 k, .slice a1 0 c1, .slice (some ⟨g, 0, none⟩) 2 c, .int .i64 0, .bool false, .int .i64 0, .bool false, .bool false] 28) := ⟨_, rfl⟩
 have hA1 : Ap w0 base Bs l D rec items W1 := by rw [hW1]; exact hA.alloc hbase _
 have hk1 : Kq Bs l D W W1 := by rw [hW1]; exact kq_alloc hA.bs _
 have hE1 := hE.kq hk1
 have hp1 : Pro Bs l D W1 W.heap.size := by rw [hW1]; exact hA.new _
 have hx1 : W1.heap[W.heap.size]? = some (.cells #[.int .u8 k, .slice a1 0 c1, .slice (some ⟨g, 0, none⟩) 2 c, .int .i64 0, .bool false, .int .i64 0, .bool false, .bool false] 28 (0, 0)) := by rw [hW1]; exact hp_top rfl
 have hz1 : W1.heap.size = W.heap.size + 1 := by rw [hW1]; simp
 obtain ⟨ka, aa, ma, ca, ha⟩ := shape_list hOa
 obtain ⟨kb', ab, mb, cb, hb⟩ := shape_list hOb
 -- what the walk reads, in whatever world keeps it
 have HRD : Hid (∀ X, Ap w0 base Bs l D rec items W1 → Kq Bs l D W1 X → Below base w0 X → X.heap[W.heap.size]? = some (.cells #[.int .u8 k, .slice a1 0 c1, .slice (some ⟨g, 0, none⟩) 2 c, .int .i64 0, .bool false, .int .i64 0, .bool false, .bool false] 28 (0, 0)) ∧ Env Bs l D kb yb tb k X ∧ X.heap[g]? = some (.cells cur 28 (0, 0)) ∧ W.heap.size < X.heap.size) := by
  intro X _ hk hbX
  have hlt : W.heap.size < W1.heap.size := by omega
  exact ⟨(hk.2 _ hlt hp1).1.trans hx1, hE1.kq hk, (hbX.block g (by omega)).trans hcur, by have := hk.1; omega⟩
 have HA : Hid (Calls Tryz.prog 158 #[.agg va.toArray, .pointer (some ⟨kb, 0, none⟩), .pointer (some ⟨yb, 0, none⟩), .pointer (some ⟨tb, 0, none⟩)] W1.drew fun e W' => e = .returned (.bool true) ∧ ∃ vs, Ch (OY w0) (Nm.parts k a) vs mid1 mid2 ∧ Ap w0 base Bs l D rec (items ++ vs) W' ∧ Kq Bs l D W1.drew W') :=
  callsIn_wide.1 (iha 0 va mid1 mid2 items W1.drew hOa (by have := hOb.le; omega) hla hA1.drew ⟨hE1.kbx, hE1.ybx, hE1.tbx, hE1.pk, hE1.py, hE1.pt⟩ (by omega) (by show base ≤ W1.heap.size; omega))
 have HB : Hid (∀ (vs : List (List Value)) (X : World), Ch (OY w0) (Nm.parts k a) vs mid1 mid2 → Ap w0 base Bs l D rec (items ++ vs) X → Kq Bs l D W1.drew X → Calls Tryz.prog 158 #[.agg vb.toArray, .pointer (some ⟨kb, 0, none⟩), .pointer (some ⟨yb, 0, none⟩), .pointer (some ⟨tb, 0, none⟩)] X fun e W' => e = .returned (.bool true) ∧ ∃ vs', Ch (OY w0) (Nm.parts k b) vs' mid2 hi ∧ Ap w0 base Bs l D rec (items ++ vs ++ vs') W' ∧ Kq Bs l D X W') := by
  intro vs X hc hAX hkX
  have hlen := hc.len.1
  refine callsIn_wide.1 (ihb 0 vb mid2 hi (items ++ vs) X hOb hhi hlb hAX (hE1.kq hkX) (by rw [List.length_append, hlen]; omega) ?_)
  have h1 : W1.heap.size ≤ X.heap.size := hkX.1
  omega
 have HFIN : Hid (∀ (vs vs' : List (List Value)) (X X' : World), Ch (OY w0) (Nm.parts k a) vs mid1 mid2 → Ch (OY w0) (Nm.parts k b) vs' mid2 hi → Kq Bs l D W1.drew X → Kq Bs l D X X' → Ap w0 base Bs l D rec (items ++ vs ++ vs') X' → ∃ vs2, Ch (OY w0) (Nm.parts k a ++ Nm.parts k b) vs2 lo hi ∧ Ap w0 base Bs l D rec (items ++ vs2) X' ∧ Kq Bs l D W X') := by
  intro vs vs' X X' h1 h2 h3 h4 h5
  exact ⟨vs ++ vs', (h1.append (Nat.le_refl _) h2).wide (by omega), by rw [← List.append_assoc]; exact h5, hk1.trans (Kq.trans (show Kq Bs l D W1 X from h3) h4)⟩
 have hent : ∀ (args : Array Value) (W : World), (callFunc 158 args).run Tryz.prog W = .ok (.enter 158 args) W := ent_of Tryz.func158 (by kernel_rfl) (by kernel_rfl)
 obtain ⟨r1, r2, r3, r4⟩ := HRD.out W1 hA1 (Kq.refl _ _ _ _) hA1.below
 rw [ha] at hca HA
 rw [hb] at hcb HB
 have x0 := Lib.cell_of_heap r1 0
 have x2 := Lib.cell_of_heap r1 2
 have k0 := Lib.cell_of_heap r2.kbx 0
 have t0 := Lib.cell_of_heap r2.tbx 0
 simp only [List.getElem?_toArray, List.getElem?_cons_zero, List.getElem?_cons_succ] at x0 x2 k0 t0
 have g0 : W1.cell? ⟨g, 0, none⟩ = _ := (Lib.cell_of_heap r3 0).trans (hca 0 (by decide))
 have g1 : W1.cell? ⟨g, 1, none⟩ = _ := (Lib.cell_of_heap r3 1).trans (hca 1 (by decide))
 have g2 : W1.cell? ⟨g, 2, none⟩ = _ := (Lib.cell_of_heap r3 2).trans (hca 2 (by decide))
 have g3 : W1.cell? ⟨g, 3, none⟩ = _ := (Lib.cell_of_heap r3 3).trans (hca 3 (by decide))
 have g4 : W1.cell? ⟨g, 4, none⟩ = _ := (Lib.cell_of_heap r3 4).trans (hca 4 (by decide))
 have g5 : W1.cell? ⟨g, 5, none⟩ = _ := (Lib.cell_of_heap r3 5).trans (hca 5 (by decide))
 have g6 : W1.cell? ⟨g, 6, none⟩ = _ := (Lib.cell_of_heap r3 6).trans (hca 6 (by decide))
 have g7 : W1.cell? ⟨g, 7, none⟩ = _ := (Lib.cell_of_heap r3 7).trans (hca 7 (by decide))
 simp only [List.getElem?_cons_zero, List.getElem?_cons_succ] at g0 g1 g2 g3 g4 g5 g6 g7
 have HW1 := Lib.hid hW1.symm
 have HRB : Hid (∀ (vs : List (List Value)) (w2 : World), Ap w0 base Bs l D rec (items ++ vs) w2 → Kq Bs l D W1.drew w2 → w2.cell? ⟨W.heap.size, 2, none⟩ = some (.slice (some ⟨g, 0, none⟩) 2 c) ∧ w2.cell? ⟨tb, 0, none⟩ = some (.func (.func 158) #[] #[.pointer (some ⟨kb, 0, none⟩), .pointer (some ⟨yb, 0, none⟩), .pointer (some ⟨tb, 0, none⟩)]) ∧ (∀ j, j < 8 → w2.cell? ⟨g, 8 + j, none⟩ = vb[j]?)) := by
  intro vs w2 hap hkq
  obtain ⟨s1, s2, s3, s4⟩ := HRD.out w2 hA1 hkq hap.below
  exact ⟨Lib.cell_of_heap s1 2, Lib.cell_of_heap s2.tbx 0, fun j hj => by rw [hb]; exact (Lib.cell_of_heap s3 (8 + j)).trans (hcb j hj)⟩
 clear iha ihb hA hE hO hOa hOb hcur hk1 hE1 hp1 hx1 hz1 r1 r2 r3 r4 hca hcb HRD hW1 hv hla hlb hv8 hN hhi hbase hg1 hg2 hg3 hA1
 subst hb
 refine (callsIn_wide (n := n)).2 ?_
 go_enter Tryz.func158, Tryz.ntmps158
 go_upto_region 1 with fail
 rw [HW1.out]
 clear HW1
 go_wp2_with fail
 go_region_law (first
  | (go_simp; go_at_call 158; refine HA.out.mono ?_; clear HA; rintro e w2 ⟨rfl, vs1, hc1, hap1, hkq1⟩; obtain ⟨s1, s2, s3⟩ := HRB.out vs1 w2 hap1 hkq1; have z0 := s3 0 (by decide); have z1 := s3 1 (by decide); have z2 := s3 2 (by decide); have z3 := s3 3 (by decide); have z4 := s3 4 (by decide); have z5 := s3 5 (by decide); have z6 := s3 6 (by decide); have z7 := s3 7 (by decide); simp only [List.getElem?_cons_zero, List.getElem?_cons_succ, Nat.reduceAdd] at z0 z1 z2 z3 z4 z5 z6 z7; have HC1 := Lib.hid hc1; have HAP1 := Lib.hid hap1; have HKQ1 := Lib.hid hkq1; clear hc1 hap1 hkq1 s3)
  | (go_simp; go_at_call 158; refine (HB.out vs1 w2 HC1.out HAP1.out HKQ1.out).mono ?_; rintro e w3 ⟨rfl, vs2, hc2, hap2, hkq2⟩; have HC2 := Lib.hid hc2; have HAP2 := Lib.hid hap2; have HKQ2 := Lib.hid hkq2; clear hc2 hap2 hkq2))
 all_goals
  go_wp2_with fail
  go_ret
  exact ⟨rfl, HFIN.out vs1 vs2 w2 w3 HC1.out HC2.out HKQ1.out HKQ2.out HAP2.out⟩
end Go.Proofs.YtpgdplmndnopbaaGreatDoor

/- slices.Collect of norm.parts walked. -/
namespace Go.Proofs.YtpgdplmndnopbaaGreatDoor
open Go.RowKit Go.Shelf
attribute [local go_sem] Oper.semAt_some
theorem through158 {w0 : World} {base Bs l D kb yb tb : Nat} {k : Int} {rec : LoopState → Loop} {N : Nat} (hk : k = 2 ∨ k = 3 ∨ k = 4) (hY : Yields8 w0 base Bs l D rec N) : ∀ y : YX, Thr w0 base Bs l D kb yb tb k rec N y
 | .at f => through_leaf hY (show (1 : Int) ≠ k by omega)
 | .bin k' a b => by
  by_cases h : k' = k
  ·subst h
   exact through_bin (through158 hk hY a) (through158 hk hY b)
  ·exact through_leaf hY h
 | .pl a => through_leaf hY (show (5 : Int) ≠ k by omega)
 | .tm a i => through_leaf hY (show (6 : Int) ≠ k by omega)
set_option maxRecDepth 100000 in
set_option maxHeartbeats 8000000 in
theorem parts157 {w0 : World} {base Bs l D kb xb : Nat} {k : Int} {rec : LoopState → Loop} {N : Nat} (hk : k = 2 ∨ k = 3 ∨ k = 4) (hY : Yields8 w0 base Bs l D rec N) {y : YX} {v : List Value} {lo hi : Nat} (hO : OY w0 y lo hi (.agg v.toArray)) (hhi : hi ≤ base) (hv8 : v.length = 8)
 {W : World} (hA : Ap w0 base Bs l D rec [] W) (hkb : W.heap[kb]? = some (.cells #[.int .u8 k] 5 (0, 0))) (hxb : W.heap[xb]? = some (.cells v.toArray 28 (0, 0))) (hpk : Pro Bs l D W kb) (hN : (Nm.parts k y).length ≤ N) (hbase : base ≤ W.heap.size) (n : Nat) :
 CallsIn Fence.wide n Tryz.prog 157 #[.func (.yield l) #[] #[], .pointer (some ⟨kb, 0, none⟩), .pointer (some ⟨xb, 0, none⟩)] W fun e W' => (∃ v, e = .returned v) ∧ ∃ vs, Ch (OY w0) (Nm.parts k y) vs lo hi ∧ Ap w0 base Bs l D rec vs W' := by
 obtain ⟨a1, c1, a, c, rfl⟩ := shape_list hO
 obtain ⟨W1, hW1⟩ : ∃ W1, W1 = W.alloc (.cells #[.func (.yield l) #[] #[]] 29) := ⟨_, rfl⟩
 obtain ⟨F, hF⟩ : ∃ F, F = Value.func (.func 158) #[] #[.pointer (some ⟨kb, 0, none⟩), .pointer (some ⟨W.heap.size, 0, none⟩), .pointer (some ⟨W.heap.size + 1, 0, none⟩)] := ⟨_, rfl⟩
 obtain ⟨W3, hW3⟩ : ∃ W3, W3 = W1.alloc (.cells #[F] 29) := ⟨_, rfl⟩
 have hz1 : W1.heap.size = W.heap.size + 1 := by rw [hW1]; simp
 have hA1 : Ap w0 base Bs l D rec [] W1 := by rw [hW1]; exact hA.alloc hbase _
 have hp1 : Pro Bs l D W1 W.heap.size := by rw [hW1]; exact hA.new _
 have hq1 : Kq Bs l D W W1 := by rw [hW1]; exact kq_alloc hA.bs _
 have hA3 : Ap w0 base Bs l D rec [] W3 := by rw [hW3]; exact hA1.alloc (by omega) _
 have hp3 : Pro Bs l D W3 (W.heap.size + 1) := by rw [hW3, ← hz1]; exact hA1.new _
 have hq3 : Kq Bs l D W1 W3 := by rw [hW3]; exact kq_alloc hA1.bs _
 have hkl := (Array.getElem?_eq_some_iff.1 hkb).1
 have hxl := (Array.getElem?_eq_some_iff.1 hxb).1
 have hE3 : Env Bs l D kb W.heap.size (W.heap.size + 1) k W3 := by
  refine ⟨?_, ?_, ?_, ((hq1.trans hq3).2 kb hkl hpk).2, (hq3.2 W.heap.size (by omega) hp1).2, hp3⟩
  ·rw [hW3, Lib.alloc_old _ _ _ (by omega), hW1, Lib.alloc_old _ _ _ hkl]; exact hkb
  ·rw [hW3, Lib.alloc_old _ _ _ (by omega), hW1]; exact hp_top rfl
  ·rw [hW3, ← hF]; exact hp_top hz1.symm
 have HT := Lib.hid (callsIn_wide.1 (through158 hk hY y 0 _ lo hi [] W3 hO hhi hv8 hA3 hE3 (by simpa using hN) (by rw [hW3]; simp; omega)))
 have hx3 : W3.heap[xb]? = some (.cells #[.int .u8 (Nm.kind y), .slice a1 (isY y).length c1, .slice a (kidsY y).length c, .int .i64 (spnY y).low, .bool (spnY y).ls, .int .i64 (spnY y).high, .bool (spnY y).hs, .bool (spnY y).op] 28 (0, 0)) := by
  rw [hW3, Lib.alloc_old _ _ _ (by omega), hW1, Lib.alloc_old _ _ _ hxl]; exact hxb
 have x0 := Lib.cell_of_heap hx3 0
 have x1 := Lib.cell_of_heap hx3 1
 have x2 := Lib.cell_of_heap hx3 2
 have x3 := Lib.cell_of_heap hx3 3
 have x4 := Lib.cell_of_heap hx3 4
 have x5 := Lib.cell_of_heap hx3 5
 have x6 := Lib.cell_of_heap hx3 6
 have x7 := Lib.cell_of_heap hx3 7
 have t0 := Lib.cell_of_heap hE3.tbx 0
 simp only [List.getElem?_toArray, List.getElem?_cons_zero, List.getElem?_cons_succ] at x0 x1 x2 x3 x4 x5 x6 x7 t0
 have hent : ∀ (args : Array Value) (W : World), (callFunc 158 args).run Tryz.prog W = .ok (.enter 158 args) W := ent_of Tryz.func158 (by kernel_rfl) (by kernel_rfl)
 have hmf : ∀ (fn : Fn) (first cap : Array Value) (w : World), (Instr.makeFunc fn first cap).run Tryz.prog w = .ok (.func fn first cap) w := fun _ _ _ _ => rfl
 have HW3 : Hid ((W.alloc (.cells #[.func (.yield l) #[] #[]] 29)).alloc (.cells #[.func (.func 158) #[] #[.pointer (some ⟨kb, 0, none⟩), .pointer (some ⟨W.heap.size, 0, none⟩), .pointer (some ⟨W.heap.size + 1, 0, none⟩)]] 29) = W3) := by rw [Hid, hW3, hW1, hF]
 have hvf : ∀ (P : Program) (w : World) (a : Addr) (m : Mode) (fn : Fn) (x y : Array Value), (store a (.func fn x y) m).run P w = stored P w a (.func fn x y) m := fun P w a m fn x y => run_store P w a _ m rfl
 clear hA hA1 hA3 hE3 hp1 hp3 hq1 hq3 hO hxb hkb hpk hN hx3 hY hv8 hz1 hW1 hW3 hF hk
 refine (callsIn_wide (n := n)).2 ?_
 go_enter Tryz.func157, Tryz.ntmps157
 go_upto_region 3 with fail
 rw [HW3.out]
 clear HW3
 go_wp2_with fail
 refine HT.out.mono ?_
 rintro e W4 ⟨rfl, vs, hc, hap, _⟩
 have HC := Lib.hid hc
 have HAP := Lib.hid hap
 clear hc hap
 go_wp2_with fail
 go_end0
 exact ⟨⟨_, rfl⟩, vs, HC.out, by simpa using HAP.out⟩
theorem range_parts {n base Bs kb xb N : Nat} {k : Int} {g : Operand} {ps : Array Tmp} {assign body : Code} {Q : Exit → Act → World → Prop} {a : Act} {w : World} (hk : k = 2 ∨ k = 3 ∨ k = 4) (hg : a.eval g = .func (.func 157) #[] #[.pointer (some ⟨kb, 0, none⟩), .pointer (some ⟨xb, 0, none⟩)]) (hps : ps.size = 1)
 (hB : w.heap[Bs]? = some (.cells #[.slice none 0 0] 24 (0, 0))) (hbB : base ≤ Bs) {y : YX} {v : List Value} {lo hi : Nat} (hO : OY w y lo hi (.agg v.toArray)) (hhi : hi ≤ base) (hv8 : v.length = 8) (hkb : w.heap[kb]? = some (.cells #[.int .u8 k] 5 (0, 0))) (hxb : w.heap[xb]? = some (.cells v.toArray 28 (0, 0))) (hkB : kb ≠ Bs)
 (hN : (Nm.parts k y).length ≤ N) (hG : Gathers Tryz.prog base Bs ps a.tmps assign body N)
 (hdone : ∀ (D : Nat) (W : World) (sv : Value) (vs : List (List Value)), w.heap.size ≤ D → Ch (OY w) (Nm.parts k y) vs lo hi → W.heap[Bs]? = some (.cells #[sv] 24 (0, 0)) → W.ownsRow base 28 8 sv vs.length vs.flatten → Below base w W → W.heap[D]? = some (.deferred (some [])) →
  Q .normal { a with defers := { target := .collected D, args := #[] } :: a.defers } W) :
 (Code.rangeFunc g ps assign body).wpIn Fence.wide n Tryz.prog Q a w := by
 refine wpIn_rangeFunc fun fn hfn => ?_
 have hbs := (Array.getElem?_eq_some_iff.1 hB).1
 have hkl := (Array.getElem?_eq_some_iff.1 hkb).1
 have hxl := (Array.getElem?_eq_some_iff.1 hxb).1
 obtain ⟨rec, hrec⟩ : ∃ rec : LoopState → Loop, rec = fun st => { state := st, pending := none, fn, tmps := a.tmps, params := ps, assign, body, defers := w.heap.size } := ⟨_, rfl⟩
 obtain ⟨W1, hW1⟩ : ∃ W1, (w.alloc (.deferred (some []))).alloc (.loop (rec .ready)) = W1 := ⟨_, rfl⟩
 have hz1 : W1.heap.size = w.heap.size + 2 := by rw [← hW1]; simp
 have hL1 : W1.heap[w.heap.size + 1]? = some (.loop (rec .ready)) := by
  rw [← hW1]; simpa using World.alloc_heap_new (w.alloc (.deferred (some []))) (.loop (rec .ready))
 have hK1 : W1.heap[w.heap.size]? = some (.deferred (some [])) := by
  rw [← hW1, Below.heap_alloc _ _ _ (by simp)]; exact World.alloc_heap_new w _
 have hb1 : Below w.heap.size w W1 := by
  rw [← hW1]; exact ((Below.refl _ w).alloc (Nat.le_refl _) _).alloc (by simp) _
 have hA1 : Ap w base Bs (w.heap.size + 1) w.heap.size rec [] W1 := ⟨⟨_, (hb1.block _ hbs).trans hB, World.ownsRow_nil _ _ _ _⟩, hL1, hK1, hb1.mono (by omega)⟩
 have hY : Yields8 w base Bs (w.heap.size + 1) w.heap.size rec N := by
  intro m items W u hA hlen hu hsh
  rw [hrec] at hA ⊢
  exact gathers_yield hps hG (by omega) (by omega) (by omega) hbB (by omega) hA hlen hu hsh
 have hpk : Pro Bs (w.heap.size + 1) w.heap.size W1 kb := ⟨hkB, by omega, by omega, fun u hu e => by
  rw [(hb1.block _ hbs).trans hB] at hu
  obtain rfl : Value.slice none 0 0 = u := by simpa using hu
  cases e⟩
 refine ⟨w.heap.size + 1, [{ target := .collected w.heap.size, args := #[] }], W1, { target := .fn (.func 157) #[.pointer (some ⟨kb, 0, none⟩), .pointer (some ⟨xb, 0, none⟩)], args := #[.func (.yield (w.heap.size + 1)) #[] #[]] }, W1, 157,
  #[.func (.yield (w.heap.size + 1)) #[] #[]] ++ #[.pointer (some ⟨kb, 0, none⟩), .pointer (some ⟨xb, 0, none⟩)], W1, ?_, ?_, ?_, ?_, fun h => absurd h (by decide), ?_⟩
 ·rw [← hW1, hrec]; exact run_enterLoop_outer _ _ _ _ _
 ·simp only [resolve, hg]
  simp [go_sem]
 ·intro f' _; trivial
 ·simp [invoke, go_sem]
 ·refine (parts157 (n := n - 1) hk hY hO hhi hv8 hA1 ((hb1.block _ hkl).trans hkb) ((hb1.block _ hxl).trans hxb) hpk hN (by omega)).mono ?_
  rintro e W2 ⟨⟨u, rfl⟩, vs, hc, hap⟩
  have := run_endLoop (P := Tryz.prog) hap.L (by rw [hrec]; simp)
  obtain ⟨sv, hsv, hown⟩ := hap.box
  have hpend : (rec .ready).pending = none := by rw [hrec]
  rw [hpend] at this
  refine ⟨none, _, this, hdone _ _ sv vs (Nat.le_refl _) hc ((World.putObj_heap_other (by omega)).trans hsv) ?_ ?_ ((World.putObj_heap_other (by omega)).trans hap.K)⟩
  ·exact hown.kept (grownBy_putObj' _ _ _) (.inr (row_not_loop hown hap.L (by intro cur e; cases e)))
  ·have hb := hap.below
   exact ⟨hb.os, hb.tape, hb.output, by simp; exact hb.size, fun j hj => (World.putObj_heap_other (by omega)).trans (hb.block j hj)⟩
end Go.Proofs.YtpgdplmndnopbaaGreatDoor
