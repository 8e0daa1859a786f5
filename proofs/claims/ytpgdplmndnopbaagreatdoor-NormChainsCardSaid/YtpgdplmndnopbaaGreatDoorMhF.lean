/- A round of a chain's normal form, in memory. -/
import Derived.Test.YtpgdplmndnopbaaGreatDoorMhE
import Derived.Test.YtpgdplmndnopbaaGreatDoorMgF
namespace Go.Proofs.YtpgdplmndnopbaaGreatDoor
open Go.RowKit
def NormC (y : YX) : Prop := Nm.Ok y → ∀ (v : Value) (lo hi : Nat) (w : World), OY w y lo hi v → hi ≤ w.heap.size → Nm.size (fun _ => 1) y ≤ 1000 →
 Calls Tryz.prog 70 #[v] w fun e w' => (∃ k b1 n1 d1 b2 n2 d2 lo' ls hi' hs op, e = .returned (.agg #[.int .u8 k, .slice b1 n1 d1, .slice b2 n2 d2, .int .i64 lo', .bool ls, .int .i64 hi', .bool hs, .bool op]) ∧
  XI (pJ lo hi w.heap.size) w' (xY (Nm.norm y)) (.agg #[.int .u8 k, .slice b1 n1 d1, .slice b2 n2 d2, .int .i64 lo', .bool ls, .int .i64 hi', .bool hs, .bool op])) ∧ Kp lo hi w w'
structure Bk (w0 : World) (lo hi X O Bb L D : Nat) (xcs : Array Value) (sv : Value) (cur : Array Value) (k : Int) (ps : List YX) (vs : List (List Value)) (j : Nat) (W : World) : Prop where
 acc : ∃ (z : YX) (ov : List Value) (p : Nat → Bool) (mid : Nat), Nm.fold k (ps.drop j) none = some z ∧ W.heap[O]? = some (.cells ov.toArray 28 (0, 0)) ∧ (∃ k b1 n1 d1 b2 n2 d2 lo ls hi hs op, ov = [.int .u8 k, .slice b1 n1 d1, .slice b2 n2 d2, .int .i64 lo, .bool ls, .int .i64 hi, .bool hs, .bool op]) ∧ XI p W (xY z) (.agg ov.toArray) ∧
  (∀ b, p b = true → (mid ≤ b ∧ b < hi) ∨ (w0.heap.size + 2 ≤ b ∧ b ≠ O ∧ b ≠ D ∧ b ≠ D + 1)) ∧ Ch (OY W) (ps.take j) (vs.take j) lo mid ∧ mid ≤ hi
 xk : W.heap[X]? = some (.cells xcs 28 (0, 0))
 bb : W.heap[Bb]? = some (.cells #[sv] 24 (0, 0))
 lr : W.heap[L]? = some (.cells cur 28 (0, 0))
 kp : Kp lo hi w0 W
 rr : W.heap[w0.heap.size + 1]? = some (.cells #[.int .u8 0, .slice none 0 0, .slice none 0 0, .int .i64 0, .bool false, .int .i64 0, .bool false, .bool false] 28 (0, 0))
theorem Bk.keep {w0 : World} {lo hi X O Bb L D : Nat} {xcs : Array Value} {sv : Value} {cur : Array Value} {k : Int} {ps : List YX} {vs : List (List Value)} {j : Nat} {W W' : World} (h : Bk w0 lo hi X O Bb L D xcs sv cur k ps vs j W)
 (hhi : hi ≤ w0.heap.size) (h0 : w0.heap.size + 1 < D) (hX : X < D) (hO : O < D) (hBb : Bb < D) (hL : L < D) (hD : D ≤ W.heap.size) (hsz : W.heap.size ≤ W'.heap.size) (hos : W'.os = W.os) (htp : W'.tape = W.tape) (hout : W'.output = W.output)
 (hs : ∀ b, b < W.heap.size → b ≠ D → b ≠ D + 1 → W'.heap[b]? = W.heap[b]?) : Bk w0 lo hi X O Bb L D xcs sv cur k ps vs j W' := by
 obtain ⟨z, ov, p, mid, a1, a2, a3, a4, a5, a6, a7⟩ := h.acc
 have hsm : ∀ b, b < D → W'.heap[b]? = W.heap[b]? := fun b hb => hs b (by omega) (by omega) (by omega)
 refine ⟨⟨z, ov, p, mid, a1, (hsm O hO).trans a2, a3, a4.go ⟨hsz, fun b hb hp => ⟨hp, ?_⟩⟩, a5, a6.go hsz fun b _ h2 => hsm b (by omega), a7⟩, (hsm X hX).trans h.xk, (hsm Bb hBb).trans h.bb, (hsm L hL).trans h.lr, ?_, (hsm _ h0).trans h.rr⟩
 ·rcases a5 b hp with h1 | h1
  ·exact hsm b (by omega)
  ·exact hs b hb h1.2.2.1 h1.2.2.2
 ·exact ⟨hos.trans h.kp.1, htp.trans h.kp.2.1, hout.trans h.kp.2.2.1, Nat.le_trans h.kp.2.2.2.1 hsz, fun b hb hn => (hsm b (by omega)).trans (h.kp.2.2.2.2 b hb hn)⟩
set_option maxHeartbeats 2000000 in
theorem Kp.tw8 {lo hi : Nat} {w w' : World} (h : Kp lo hi w w') {g : Nat} (hg : w.heap.size ≤ g) (v0 v1 v2 v3 v4 v5 v6 v7 : Value) : Kp lo hi w (tw8 w' g v0 v1 v2 v3 v4 v5 v6 v7) := by
 unfold Go.Proofs.YtpgdplmndnopbaaGreatDoor.tw8
 exact (((((((h.setCell (.inr hg) 0 v0).setCell (.inr hg) 1 v1).setCell (.inr hg) 2 v2).setCell (.inr hg) 3 v3).setCell (.inr hg) 4 v4).setCell (.inr hg) 5 v5).setCell (.inr hg) 6 v6).setCell (.inr hg) 7 v7
theorem Bk.call {w0 : World} {lo hi X O Bb L D : Nat} {xcs : Array Value} {sv : Value} {cur : Array Value} {k : Int} {ps : List YX} {vs : List (List Value)} {j : Nat} {W : World} (h : Bk w0 lo hi X O Bb L D xcs sv cur k ps vs (j + 1) W)
 (hhi : hi ≤ w0.heap.size) (h0 : w0.heap.size ≤ O) (hX0 : w0.heap.size ≤ X) (hB0 : w0.heap.size ≤ Bb) (hL0 : w0.heap.size ≤ L) (hXO : X ≠ O) (hBO : Bb ≠ O) (hLO : L ≠ O) (hRO : w0.heap.size + 1 ≠ O) (hOD : O < D) (hD : D + 2 ≤ W.heap.size) (hj : j < ps.length) (hvl : vs.length = ps.length) :
 ∃ ko bo1 no1 do1 bo2 no2 do2 loo lso hio hso opo lo' mid', W.heap[O]? = some (.cells #[.int .u8 ko, .slice bo1 no1 do1, .slice bo2 no2 do2, .int .i64 loo, .bool lso, .int .i64 hio, .bool hso, .bool opo] 28 (0, 0)) ∧ OY W ps[j] lo' mid' (.agg (vs[j]'(by omega)).toArray) ∧ lo ≤ lo' ∧ mid' ≤ hi ∧
  ∀ (w4 : World) (kn : Int) (bn1 : Option Addr) (nn1 dn1 : Nat) (bn2 : Option Addr) (nn2 dn2 : Nat) (lon : Int) (lsn : Bool) (hin : Int) (hsn opn : Bool), XI (pJ lo' mid' W.heap.size) w4 (xY (Nm.norm ps[j])) (.agg #[.int .u8 kn, .slice bn1 nn1 dn1, .slice bn2 nn2 dn2, .int .i64 lon, .bool lsn, .int .i64 hin, .bool hsn, .bool opn]) → Kp lo' mid' W w4 →
   (∀ b, w0.heap.size ≤ b → b < W.heap.size → w4.heap[b]? = W.heap[b]?) ∧
   ∀ W7, W7 = tw8 (w4.alloc (.cells #[.int .u8 kn, .slice bn1 nn1 dn1, .slice bn2 nn2 dn2, .int .i64 lon, .bool lsn, .int .i64 hin, .bool hsn, .bool opn, .int .u8 ko, .slice bo1 no1 do1, .slice bo2 no2 do2, .int .i64 loo, .bool lso, .int .i64 hio, .bool hso, .bool opo] 28)) O (.int .u8 k) (.slice none 0 0) (.slice (some ⟨w4.heap.size, 0, none⟩) 2 2) (.int .i64 0) (.bool false) (.int .i64 0) (.bool false) (.bool false) →
    Bk w0 lo hi X O Bb L D xcs sv cur k ps vs j W7 ∧ SameFrom D W W7 := by
 obtain ⟨z, ov, p, mid, a1, a2, ⟨ko, bo1, no1, do1, bo2, no2, do2, loo, lso, hio, hso, opo, rfl⟩, a4, a5, a6, a7⟩ := h.acc
 have hvj : j < vs.length := by omega
 rw [List.take_succ_eq_append_getElem hj, List.take_succ_eq_append_getElem hvj] at a6
 obtain ⟨vs1, vs2, mid1, e, c1, c2⟩ := a6.split
 have hl1 := c1.len.1
 obtain ⟨e1, e2⟩ := List.append_inj e (by rw [hl1, List.length_take, List.length_take]; omega)
 subst e1 e2
 cases c2 with
 | @cons _ _ _ _ _ lo' mid' _ g1 g2 g3 g4 g5 =>
  have g6 := g5.le
  have g7 := c1.le
  refine ⟨ko, bo1, no1, do1, bo2, no2, do2, loo, lso, hio, hso, opo, lo', mid', a2, g4, by omega, by omega, ?_⟩
  intro w4 kn bn1 nn1 dn1 bn2 nn2 dn2 lon lsn hin hsn opn hx hk
  have hold : ∀ b, w0.heap.size ≤ b → b < W.heap.size → w4.heap[b]? = W.heap[b]? := fun b h1 h2 => hk.2.2.2.2 b h2 (by omega)
  refine ⟨hold, fun W7 hW7 => ?_⟩
  have hsz4 := hk.2.2.2.1
  have hO4 := (hold O h0 (by omega)).trans a2
  have hz7 : W7.heap.size = w4.heap.size + 1 := by rw [hW7, tw8_size]; simp
  have hO6 : (w4.alloc (.cells #[.int .u8 kn, .slice bn1 nn1 dn1, .slice bn2 nn2 dn2, .int .i64 lon, .bool lsn, .int .i64 hin, .bool hsn, .bool opn, .int .u8 ko, .slice bo1 no1 do1, .slice bo2 no2 do2, .int .i64 loo, .bool lso, .int .i64 hio, .bool hso, .bool opo] 28)).heap[O]? = some (.cells #[.int .u8 ko, .slice bo1 no1 do1, .slice bo2 no2 do2, .int .i64 loo, .bool lso, .int .i64 hio, .bool hso, .bool opo] 28 (0, 0)) := hp_in hO4
  have hO7 : W7.heap[O]? = some (.cells #[.int .u8 k, .slice none 0 0, .slice (some ⟨w4.heap.size, 0, none⟩) 2 2, .int .i64 0, .bool false, .int .i64 0, .bool false, .bool false] 28 (0, 0)) := by rw [hW7]; exact tw8_at hO6 _ _ _ _ _ _ _ _
  have hne : ∀ b, b < w4.heap.size → b ≠ O → W7.heap[b]? = w4.heap[b]? := fun b hb hb2 => by rw [hW7, tw8_other _ _ _ _ _ _ _ _ _ _ _ hb2]; exact Lib.alloc_old _ _ _ hb
  have hG7 : W7.heap[w4.heap.size]? = some (.cells #[.int .u8 kn, .slice bn1 nn1 dn1, .slice bn2 nn2 dn2, .int .i64 lon, .bool lsn, .int .i64 hin, .bool hsn, .bool opn, .int .u8 ko, .slice bo1 no1 do1, .slice bo2 no2 do2, .int .i64 loo, .bool lso, .int .i64 hio, .bool hso, .bool opo] 28 (0, 0)) := by
   rw [hW7, tw8_other _ _ _ _ _ _ _ _ _ _ _ (by omega)]; exact hp_top rfl
  have hkp7 : Kp lo hi w0 W7 := by
   rw [hW7]
   have h1 : Kp lo hi w0 w4 := h.kp.trans (hk.mono (by omega) (by omega))
   exact (h1.alloc _).tw8 h0 _ _ _ _ _ _ _ _
  -- the blocks of the new expression
  let q : Nat → Bool := fun b => (decide (lo' ≤ b) && decide (b < hi)) || (decide (w0.heap.size + 2 ≤ b) && decide (b ≠ O) && decide (b ≠ D) && decide (b ≠ D + 1))
  have hq : ∀ b, q b = true ↔ (lo' ≤ b ∧ b < hi) ∨ (w0.heap.size + 2 ≤ b ∧ b ≠ O ∧ b ≠ D ∧ b ≠ D + 1) := fun b => by simp only [q, Bool.or_eq_true, Bool.and_eq_true, decide_eq_true_eq]; constructor <;> intro h <;> omega
  have hy7 : XI q W7 (xY (Nm.norm ps[j])) (.agg #[.int .u8 kn, .slice bn1 nn1 dn1, .slice bn2 nn2 dn2, .int .i64 lon, .bool lsn, .int .i64 hin, .bool hsn, .bool opn]) := hx.go ⟨by omega, fun b hb hp => by
   rcases pJ_iff.1 hp with h1 | h1
   ·exact ⟨(hq b).2 (by omega), hne b hb (by omega)⟩
   ·exact ⟨(hq b).2 (by omega), hne b hb (by omega)⟩⟩
  have hz : XI q W7 (xY z) (.agg #[.int .u8 ko, .slice bo1 no1 do1, .slice bo2 no2 do2, .int .i64 loo, .bool lso, .int .i64 hio, .bool hso, .bool opo]) := a4.go ⟨by omega, fun b hb hp => by
   have h1 := a5 b hp
   have hbO : b ≠ O := by omega
   refine ⟨(hq b).2 (by omega), (hne b (by omega) hbO).trans (hk.2.2.2.2 b hb (by omega))⟩⟩
  refine ⟨⟨⟨.bin k (Nm.norm ps[j]) z, _, q, lo', ?_, hO7, ⟨_, _, _, _, _, _, _, _, _, _, _, _, rfl⟩, ?_, fun b hb => (hq b).1 hb, ?_, by omega⟩, ?_, ?_, ?_, hkp7, ?_⟩, ?_⟩
  ·rw [List.drop_eq_getElem_cons hj, Nm.fold, a1]; rfl
  ·exact XI.two hy7 hz k w4.heap.size 2 0 none (0, 0) ((hq _).2 (by omega)) hG7
  ·have c1' : Ch (OY W7) (ps.take j) (vs.take j) lo mid1 := c1.go (by omega) fun b h1 h2 => (hne b (by omega) (by omega)).trans (hk.2.2.2.2 b (by omega) (by omega))
   have := c1'.append (Nat.le_refl mid1) (Ch.nil (R := OY W7) g1)
   simpa using this
  ·have hXl := (Array.getElem?_eq_some_iff.1 h.xk).1
   exact (hne X (by omega) hXO).trans ((hold X hX0 hXl).trans h.xk)
  ·have hXl := (Array.getElem?_eq_some_iff.1 h.bb).1
   exact (hne Bb (by omega) hBO).trans ((hold Bb hB0 hXl).trans h.bb)
  ·have hXl := (Array.getElem?_eq_some_iff.1 h.lr).1
   exact (hne L (by omega) hLO).trans ((hold L hL0 hXl).trans h.lr)
  ·have hXl := (Array.getElem?_eq_some_iff.1 h.rr).1
   exact (hne _ (by omega) hRO).trans ((hold _ (by omega) hXl).trans h.rr)
  ·exact ⟨by omega, fun b h1 h2 => (hne b (by omega) (by omega)).trans (hold b (by omega) h2)⟩
theorem bk_init {w0 w5 w6 W8 : World} {lo hi lol hil mid X L cap : Nat} {xcs cur : Array Value} {k : Int} {pre : List YX} {last : YX} {vsp : List (List Value)} {vl : List Value} {kn : Int} {bn1 : Option Addr} {nn1 dn1 : Nat} {bn2 : Option Addr} {nn2 dn2 : Nat} {lon : Int} {lsn : Bool} {hin : Int} {hsn opn : Bool}
 (hW8 : W8 = (w6.alloc (.cells #[.int .u8 kn, .slice bn1 nn1 dn1, .slice bn2 nn2 dn2, .int .i64 lon, .bool lsn, .int .i64 hin, .bool hsn, .bool opn] 28)).alloc (.cells #[.slice (some ⟨L, 0, none⟩) pre.length cap] 24)) (h05 : Below w0.heap.size w0 w5) (hk6 : Kp lol hil w5 w6)
 (hx : XI (pJ lol hil w5.heap.size) w6 (xY (Nm.norm last)) (.agg #[.int .u8 kn, .slice bn1 nn1 dn1, .slice bn2 nn2 dn2, .int .i64 lon, .bool lsn, .int .i64 hin, .bool hsn, .bool opn])) (hc : Ch (OY w5) pre vsp lo mid) (hml : mid ≤ lol) (hlh : lol ≤ hil) (hhl : hil ≤ hi) (hhi : hi ≤ w0.heap.size) (h5 : w0.heap.size + 2 ≤ w5.heap.size)
 (hX : w5.heap[X]? = some (.cells xcs 28 (0, 0))) (hX0 : w0.heap.size ≤ X) (hL : w5.heap[L]? = some (.cells cur 28 (0, 0))) (hL0 : w0.heap.size ≤ L) (hlp : vsp.length = pre.length) (hR : w5.heap[w0.heap.size + 1]? = some (.cells #[.int .u8 0, .slice none 0 0, .slice none 0 0, .int .i64 0, .bool false, .int .i64 0, .bool false, .bool false] 28 (0, 0))) :
 Bk w0 lo hi X w6.heap.size (w6.heap.size + 1) L (w6.heap.size + 2) xcs (.slice (some ⟨L, 0, none⟩) pre.length cap) cur k (pre ++ [last]) (vsp ++ [vl]) pre.length W8 := by
 have hle := hc.le
 have hz6 := hk6.2.2.2.1
 have hold : ∀ b, b < w6.heap.size → W8.heap[b]? = w6.heap[b]? := fun b hb => by rw [hW8, Lib.alloc_old _ _ _ (by simp; omega)]; exact Lib.alloc_old _ _ _ hb
 have hz8 : W8.heap.size = w6.heap.size + 2 := by rw [hW8]; simp
 have hXl := (Array.getElem?_eq_some_iff.1 hX).1
 have hLl := (Array.getElem?_eq_some_iff.1 hL).1
 refine ⟨⟨Nm.norm last, _, fun b => pJ lol hil w5.heap.size b && decide (b < w6.heap.size), mid, ?_, ?_, ⟨_, _, _, _, _, _, _, _, _, _, _, _, rfl⟩, hx.go ⟨by omega, fun b hb hp => ⟨by show (pJ lol hil w5.heap.size b && decide (b < w6.heap.size)) = true; rw [hp]; simpa using hb, hold b hb⟩⟩, fun b hb => ?_, ?_, by omega⟩, ?_, ?_, ?_, ?_, ?_⟩
 ·rw [List.drop_append_of_le_length (Nat.le_refl _), List.drop_length]; rfl
 ·rw [hW8]; exact hp_in (hp_top rfl)
 ·simp only [Bool.and_eq_true, decide_eq_true_eq] at hb
  have := pJ_iff.1 hb.1
  omega
 ·rw [List.take_append_of_le_length (Nat.le_refl _), List.take_length, List.take_append_of_le_length (by omega), ← hlp, List.take_length]
  exact hc.go (by omega) fun b h1 h2 => (hold b (by omega)).trans (hk6.2.2.2.2 b (by omega) (by omega))
 ·exact (hold X (by omega)).trans ((hk6.2.2.2.2 X hXl (by omega)).trans hX)
 ·rw [hW8]; exact hp_top (by simp)
 ·exact (hold L (by omega)).trans ((hk6.2.2.2.2 L hLl (by omega)).trans hL)
 ·have h1 : Kp lo hi w0 w5 := Kp.of_below h05
  have h2 : Kp lo hi w0 w6 := h1.trans (hk6.mono (by omega) hhl)
  rw [hW8]
  exact (h2.alloc _).alloc _
 ·have hRl := (Array.getElem?_eq_some_iff.1 hR).1
  exact (hold _ (by omega)).trans ((hk6.2.2.2.2 _ hRl (by omega)).trans hR)
theorem bk_end {w0 W W' : World} {lo hi X O Bb L D : Nat} {xcs : Array Value} {sv : Value} {cur : Array Value} {k : Int} {ps : List YX} {vs : List (List Value)} (h : Bk w0 lo hi X O Bb L D xcs sv cur k ps vs 0 W) (hhi : hi ≤ w0.heap.size) (h0 : w0.heap.size + 2 ≤ D) (hD : D < W.heap.size) (hsz : W.heap.size ≤ W'.heap.size) (hos : W'.os = W.os) (htp : W'.tape = W.tape) (hout : W'.output = W.output)
 (hs : ∀ b, b < W.heap.size → b ≠ D → b ≠ w0.heap.size + 1 → W'.heap[b]? = W.heap[b]?) :
 ∃ z ko bo1 no1 do1 bo2 no2 do2 loo lso hio hso opo, Nm.fold k ps none = some z ∧ W.heap[O]? = some (.cells #[.int .u8 ko, .slice bo1 no1 do1, .slice bo2 no2 do2, .int .i64 loo, .bool lso, .int .i64 hio, .bool hso, .bool opo] 28 (0, 0)) ∧
  XI (pJ lo hi w0.heap.size) W' (xY z) (.agg #[.int .u8 ko, .slice bo1 no1 do1, .slice bo2 no2 do2, .int .i64 loo, .bool lso, .int .i64 hio, .bool hso, .bool opo]) ∧ Kp lo hi w0 W' := by
 obtain ⟨z, ov, p, mid, a1, a2, ⟨ko, bo1, no1, do1, bo2, no2, do2, loo, lso, hio, hso, opo, rfl⟩, a4, a5, a6, a7⟩ := h.acc
 have hle := a6.le
 refine ⟨z, ko, bo1, no1, do1, bo2, no2, do2, loo, lso, hio, hso, opo, a1, a2, a4.go ⟨hsz, fun b hb hp => ?_⟩, ?_⟩
 ·have h1 := a5 b hp
  exact ⟨pJ_iff.2 (by omega), hs b hb (by omega) (by omega)⟩
 ·exact ⟨hos.trans h.kp.1, htp.trans h.kp.2.1, hout.trans h.kp.2.2.1, Nat.le_trans h.kp.2.2.2.1 hsz, fun b hb hn => (hs b (by omega) (by omega) (by omega)).trans (h.kp.2.2.2.2 b hb hn)⟩
theorem tw8_rest (W : World) (g : Nat) (v0 v1 v2 v3 v4 v5 v6 v7 : Value) : (tw8 W g v0 v1 v2 v3 v4 v5 v6 v7).os = W.os ∧ (tw8 W g v0 v1 v2 v3 v4 v5 v6 v7).tape = W.tape ∧ (tw8 W g v0 v1 v2 v3 v4 v5 v6 v7).output = W.output := by
 have h := (((((((((Below.refl 0 W).setCell (p := ⟨g, 0, none⟩) (Nat.zero_le _) v0).setCell (p := ⟨g, 1, none⟩) (Nat.zero_le _) v1).setCell (p := ⟨g, 2, none⟩) (Nat.zero_le _) v2).setCell (p := ⟨g, 3, none⟩) (Nat.zero_le _) v3).setCell (p := ⟨g, 4, none⟩) (Nat.zero_le _) v4).setCell (p := ⟨g, 5, none⟩) (Nat.zero_le _) v5).setCell (p := ⟨g, 6, none⟩) (Nat.zero_le _) v6).setCell (p := ⟨g, 7, none⟩) (Nat.zero_le _) v7)
 unfold tw8
 exact ⟨h.os, h.tape, h.output⟩
theorem bk_done {w0 W : World} {lo hi X O Bb L D : Nat} {xcs : Array Value} {sv : Value} {cur : Array Value} {k : Int} {ps : List YX} {vs : List (List Value)} {z : YX} (h : Bk w0 lo hi X O Bb L D xcs sv cur k ps vs 0 W) (hz : Nm.fold k ps none = some z) (hhi : hi ≤ w0.heap.size) (h0 : w0.heap.size + 2 ≤ D) (hD : D < W.heap.size) (hK : W.heap[D]? = some (.deferred (some []))) :
 ∃ ko bo1 no1 do1 bo2 no2 do2 loo lso hio hso opo, W.heap[O]? = some (.cells #[.int .u8 ko, .slice bo1 no1 do1, .slice bo2 no2 do2, .int .i64 loo, .bool lso, .int .i64 hio, .bool hso, .bool opo] 28 (0, 0)) ∧
  ∀ W9, W9 = tw8 W (w0.heap.size + 1) (.int .u8 ko) (.slice bo1 no1 do1) (.slice bo2 no2 do2) (.int .i64 loo) (.bool lso) (.int .i64 hio) (.bool hso) (.bool opo) → W9.heap[D]? = some (.deferred (some [])) ∧ (W9.putObj D (.deferred none)).heap[w0.heap.size + 1]? = some (.cells #[.int .u8 ko, .slice bo1 no1 do1, .slice bo2 no2 do2, .int .i64 loo, .bool lso, .int .i64 hio, .bool hso, .bool opo] 28 (0, 0)) ∧
   XI (pJ lo hi w0.heap.size) (W9.putObj D (.deferred none)) (xY z) (.agg #[.int .u8 ko, .slice bo1 no1 do1, .slice bo2 no2 do2, .int .i64 loo, .bool lso, .int .i64 hio, .bool hso, .bool opo]) ∧ Kp lo hi w0 (W9.putObj D (.deferred none)) := by
 obtain ⟨z', ko, bo1, no1, do1, bo2, no2, do2, loo, lso, hio, hso, opo, h1, h2, _, _⟩ := bk_end h hhi h0 hD (W' := W) (Nat.le_refl _) rfl rfl rfl (fun _ _ _ _ => rfl)
 refine ⟨ko, bo1, no1, do1, bo2, no2, do2, loo, lso, hio, hso, opo, h2, fun W9 hW9 => ?_⟩
 have hne9 : w0.heap.size + 1 ≠ D := by omega
 have hz9 : W9.heap.size = W.heap.size := by rw [hW9]; exact tw8_size _ _ _ _ _ _ _ _ _ _
 obtain ⟨q1, q2, q3⟩ : W9.os = W.os ∧ W9.tape = W.tape ∧ W9.output = W.output := by rw [hW9]; exact tw8_rest _ _ _ _ _ _ _ _ _ _
 have hR9 : W9.heap[w0.heap.size + 1]? = some (.cells #[.int .u8 ko, .slice bo1 no1 do1, .slice bo2 no2 do2, .int .i64 loo, .bool lso, .int .i64 hio, .bool hso, .bool opo] 28 (0, 0)) := by rw [hW9]; exact tw8_at h.rr _ _ _ _ _ _ _ _
 have hs9 : ∀ b, b ≠ w0.heap.size + 1 → W9.heap[b]? = W.heap[b]? := fun b hb => by rw [hW9]; exact tw8_other _ _ _ _ _ _ _ _ _ _ _ hb
 clear hW9
 obtain ⟨z2, ko', bo1', no1', do1', bo2', no2', do2', loo', lso', hio', hso', opo', h1', h2', h3', h4'⟩ := bk_end h hhi h0 hD (W' := W9.putObj D (.deferred none)) (by rw [World.putObj_size, hz9]; exact Nat.le_refl _) q1 q2 q3 (fun b _ g2 g3 => (World.putObj_heap_other g2).trans (hs9 b g3))
 rw [hz] at h1'
 rw [h2] at h2'
 obtain rfl : z = z2 := by simpa using h1'
 simp only [Option.some.injEq, Obj.cells.injEq, Array.mk.injEq, List.cons.injEq, Value.int.injEq, Value.slice.injEq, Value.bool.injEq, true_and, and_true] at h2'
 obtain ⟨rfl, ⟨rfl, rfl, rfl⟩, ⟨rfl, rfl, rfl⟩, rfl, rfl, rfl, rfl, rfl⟩ := h2'
 exact ⟨(hs9 D (Ne.symm hne9)).trans hK, (World.putObj_heap_other hne9).trans hR9, h3', h4'⟩
theorem done_size {a b c d : Nat} (h1 : a + 4 ≤ b) (h2 : b ≤ c) (h3 : d = c + 2) : a + 2 ≤ d := by omega
theorem bk_round {w w5 w6 W8 wr XA : World} {lo hi L : Nat} {xcs cur : Array Value} {sv : Value} {k : Int} {ps : List YX} {vs : List (List Value)} {j : Nat} {o' : Loop} {ky : Int} {b1y : Option Addr} {n1y d1y : Nat} {b2y : Option Addr} {n2y d2y : Nat} {loy : Int} {lsy : Bool} {hiy : Int} {hsy opy : Bool}
 (hXA : XA = (wr.alloc (.cells #[.int .u8 ky, .slice b1y n1y d1y, .slice b2y n2y d2y, .int .i64 loy, .bool lsy, .int .i64 hiy, .bool hsy, .bool opy] 28)).putObj (W8.heap.size + 1) (.loop o')) (hB2 : Bk w lo hi w.heap.size w6.heap.size (w6.heap.size + 1) L W8.heap.size xcs sv cur k ps vs (j + 1) XA)
 (hhi : hi ≤ w.heap.size) (a1 : W8.heap.size = w6.heap.size + 2) (a2 : w.heap.size + 4 ≤ w5.heap.size) (a3 : w5.heap.size ≤ w6.heap.size) (a5 : w.heap.size + 4 ≤ L) (a6 : L < w5.heap.size) (hwr : W8.heap.size + 2 ≤ wr.heap.size) (hjp : j < ps.length) (hvl : vs.length = ps.length)
 (hv : vs[j]'(by omega) = [.int .u8 ky, .slice b1y n1y d1y, .slice b2y n2y d2y, .int .i64 loy, .bool lsy, .int .i64 hiy, .bool hsy, .bool opy]) :
 ∃ ko bo1 no1 do1 bo2 no2 do2 loo lso hio hso opo lo' mid', XA.heap[w.heap.size]? = some (.cells xcs 28 (0, 0)) ∧ XA.heap[wr.heap.size]? = some (.cells #[.int .u8 ky, .slice b1y n1y d1y, .slice b2y n2y d2y, .int .i64 loy, .bool lsy, .int .i64 hiy, .bool hsy, .bool opy] 28 (0, 0)) ∧ XA.heap[w6.heap.size]? = some (.cells #[.int .u8 ko, .slice bo1 no1 do1, .slice bo2 no2 do2, .int .i64 loo, .bool lso, .int .i64 hio, .bool hso, .bool opo] 28 (0, 0)) ∧
  OY XA.drew ps[j] lo' mid' (.agg #[.int .u8 ky, .slice b1y n1y d1y, .slice b2y n2y d2y, .int .i64 loy, .bool lsy, .int .i64 hiy, .bool hsy, .bool opy]) ∧ mid' ≤ XA.drew.heap.size ∧
  ∀ (w4 : World) (kn : Int) (bn1 : Option Addr) (nn1 dn1 : Nat) (bn2 : Option Addr) (nn2 dn2 : Nat) (lon : Int) (lsn : Bool) (hin : Int) (hsn opn : Bool), XI (pJ lo' mid' XA.heap.size) w4 (xY (Nm.norm ps[j])) (.agg #[.int .u8 kn, .slice bn1 nn1 dn1, .slice bn2 nn2 dn2, .int .i64 lon, .bool lsn, .int .i64 hin, .bool hsn, .bool opn]) → Kp lo' mid' XA.drew w4 →
   (w4.heap[w.heap.size]? = some (.cells xcs 28 (0, 0)) ∧ w4.heap[wr.heap.size]? = some (.cells #[.int .u8 ky, .slice b1y n1y d1y, .slice b2y n2y d2y, .int .i64 loy, .bool lsy, .int .i64 hiy, .bool hsy, .bool opy] 28 (0, 0)) ∧ w4.heap[w6.heap.size]? = some (.cells #[.int .u8 ko, .slice bo1 no1 do1, .slice bo2 no2 do2, .int .i64 loo, .bool lso, .int .i64 hio, .bool hso, .bool opo] 28 (0, 0))) ∧
   ∀ W7, W7 = tw8 (w4.alloc (.cells #[.int .u8 kn, .slice bn1 nn1 dn1, .slice bn2 nn2 dn2, .int .i64 lon, .bool lsn, .int .i64 hin, .bool hsn, .bool opn, .int .u8 ko, .slice bo1 no1 do1, .slice bo2 no2 do2, .int .i64 loo, .bool lso, .int .i64 hio, .bool hso, .bool opo] 28)) w6.heap.size (.int .u8 k) (.slice none 0 0) (.slice (some ⟨w4.heap.size, 0, none⟩) 2 2) (.int .i64 0) (.bool false) (.int .i64 0) (.bool false) (.bool false) →
    W7.heap[w.heap.size]? = some (.cells xcs 28 (0, 0)) ∧ W7.heap[wr.heap.size]? = some (.cells #[.int .u8 ky, .slice b1y n1y d1y, .slice b2y n2y d2y, .int .i64 loy, .bool lsy, .int .i64 hiy, .bool hsy, .bool opy] 28 (0, 0)) ∧ (Bk w lo hi w.heap.size w6.heap.size (w6.heap.size + 1) L W8.heap.size xcs sv cur k ps vs j W7 ∧ SameFrom W8.heap.size XA W7) := by
 have hzA : XA.heap.size = wr.heap.size + 1 := by rw [hXA]; simp
 have hTA : XA.heap[wr.heap.size]? = some (.cells #[.int .u8 ky, .slice b1y n1y d1y, .slice b2y n2y d2y, .int .i64 loy, .bool lsy, .int .i64 hiy, .bool hsy, .bool opy] 28 (0, 0)) := by rw [hXA, World.putObj_heap_other (by omega)]; exact hp_top rfl
 obtain ⟨ko, bo1, no1, do1, bo2, no2, do2, loo, lso, hio, hso, opo, lo', mid', hOA, hOY, hlo', hmid', hnext⟩ := hB2.call hhi (by omega) (Nat.le_refl _) (by omega) (by omega) (by omega) (by omega) (by omega) (by omega) (by omega) (by omega) hjp hvl
 rw [hv] at hOY
 refine ⟨ko, bo1, no1, do1, bo2, no2, do2, loo, lso, hio, hso, opo, lo', mid', hB2.xk, hTA, hOA, hOY.go (w' := XA.drew) (show XA.heap.size ≤ XA.drew.heap.size from Nat.le_refl _) (fun _ _ _ => rfl), by show mid' ≤ XA.heap.size; omega, ?_⟩
 intro w4 kn bn1 nn1 dn1 bn2 nn2 dn2 lon lsn hin hsn opn hx hk
 obtain ⟨q1, q2⟩ := hnext w4 kn bn1 nn1 dn1 bn2 nn2 dn2 lon lsn hin hsn opn hx hk
 refine ⟨⟨(q1 _ (Nat.le_refl _) (by omega)).trans hB2.xk, (q1 _ (by omega) (by omega)).trans hTA, (q1 _ (by omega) (by omega)).trans hOA⟩, fun W7 hW7 => ?_⟩
 obtain ⟨r1, r2⟩ := q2 W7 hW7
 exact ⟨r1.xk, (r2.2 _ (by omega) (by omega)).trans hTA, r1, r2⟩
end Go.Proofs.YtpgdplmndnopbaaGreatDoor

/- norm.normed walked: chains. -/
namespace Go.Proofs.YtpgdplmndnopbaaGreatDoor
open Go.RowKit Go.Shelf
attribute [local go_sem] Oper.semAt_some
set_option maxRecDepth 100000 in
theorem slice24_h (L n m cap : Nat) (h : n ≤ cap) (w : World) : (Instr.slice 24 (.slice (some ⟨L, 0, none⟩) m cap) none (some (.int .i64 n)) none).run Tryz.prog w = .ok (.slice (some ⟨L, 0, none⟩) n cap) w := by
 rw [run_slice_h (P := Tryz.prog) (t := 24) (a := some ⟨L, 0, none⟩) (len := m) (cap := cap) (ht := by kernel_rfl) (kh := .i64) (h := (n : Int)) (h0 := by omega) (h2 := by omega)]
 have hs : (sizeOf (Tryz.prog.elem 24)).run Tryz.prog w = .ok 8 w := Tryz.sizeOf28 w
 rw [hs]
 simp only [Result.andThen, sliced]
 simp
 intro _
 rfl
theorem wrap_len {n : Nat} (h : n + 1 ≤ 1000) : wrap64 (n : Int) = (n : Int) := by unfold wrap64; omega
theorem parts_ne (k : Int) : ∀ y : YX, Nm.parts k y ≠ []
 | .at f => by simp [Nm.parts]
 | .bin k' a b => by
  rw [Nm.parts]
  split
  ·simp [parts_ne k a]
  ·simp
 | .pl a => by simp [Nm.parts]
 | .tm a i => by simp [Nm.parts]
theorem size_pos (y : YX) : 1 ≤ Nm.size (fun _ => 1) y := by cases y <;> simp [Nm.size] <;> omega
theorem parts_le (k : Int) : ∀ y : YX, (Nm.parts k y).length ≤ Nm.size (fun _ => 1) y ∧ ∀ p ∈ Nm.parts k y, Nm.size (fun _ => 1) p ≤ Nm.size (fun _ => 1) y
 | .at f => by simp [Nm.parts, Nm.size]
 | .bin k' a b => by
  obtain ⟨a1, a2⟩ := parts_le k a
  obtain ⟨b1, b2⟩ := parts_le k b
  rw [Nm.parts]
  have e : Nm.size (fun _ => 1) (Nm.Y.bin k' a b : YX) = 1 + Nm.size (fun _ => 1) a + Nm.size (fun _ => 1) b := rfl
  split
  ·refine ⟨by rw [List.length_append, e]; omega, fun p hp => ?_⟩
   rcases List.mem_append.1 hp with h | h
   ·have := a2 p h; omega
   ·have := b2 p h; omega
  ·refine ⟨by rw [e]; simp; omega, fun p hp => ?_⟩
   obtain rfl : p = _ := by simpa using hp
   exact Nat.le_refl _
 | .pl a => by
  have := size_pos (Nm.Y.pl a : YX)
  refine ⟨by simpa [Nm.parts] using this, fun p hp => ?_⟩
  obtain rfl : p = _ := by simpa [Nm.parts] using hp
  exact Nat.le_refl _
 | .tm a i => by
  have := size_pos (Nm.Y.tm a i : YX)
  refine ⟨by simpa [Nm.parts] using this, fun p hp => ?_⟩
  obtain rfl : p = _ := by simpa [Nm.parts] using hp
  exact Nat.le_refl _
theorem ok_parts (k : Int) : ∀ y : YX, Nm.Ok y → ∀ p ∈ Nm.parts k y, Nm.Ok p
 | .at f, h, p, hp => by
  obtain rfl : p = _ := by simpa [Nm.parts] using hp
  exact h
 | .bin k' a b, h, p, hp => by
  rw [Nm.parts] at hp
  split at hp
  ·rcases List.mem_append.1 hp with hp | hp
   ·exact ok_parts k a h.2.1 p hp
   ·exact ok_parts k b h.2.2 p hp
  ·obtain rfl : p = _ := by simpa using hp
   exact h
 | .pl a, h, p, hp => by
  obtain rfl : p = _ := by simpa [Nm.parts] using hp
  exact h
 | .tm a i, h, p, hp => by
  obtain rfl : p = _ := by simpa [Nm.parts] using hp
  exact h
theorem parts_lt {k : Int} {a b p : YX} (hp : p ∈ Nm.parts k (Nm.Y.bin k a b)) : Nm.size (fun _ => 1) p < Nm.size (fun _ => 1) (Nm.Y.bin k a b : YX) := by
 rw [Nm.parts, if_pos rfl] at hp
 have e : Nm.size (fun _ => 1) (Nm.Y.bin k a b : YX) = 1 + Nm.size (fun _ => 1) a + Nm.size (fun _ => 1) b := rfl
 rcases List.mem_append.1 hp with h | h
 ·have := (parts_le k a).2 p h; omega
 ·have := (parts_le k b).2 p h; omega
theorem norm_fold {k : Int} (hk : k = 2 ∨ k = 3 ∨ k = 4) (a b : YX) : Nm.fold k (Nm.parts k (Nm.Y.bin k a b)) none = some (Nm.norm (Nm.Y.bin k a b)) := by
 rw [← Nm.nf_fold]
 unfold Nm.norm
 rw [Nm.nf, Nm.nf, if_pos rfl, if_neg (by omega)]
 rfl
theorem ch_last {R : YX → Nat → Nat → Value → Prop} {l : List YX} {y : YX} {vs : List (List Value)} {lo hi : Nat} (h : Ch R (l ++ [y]) vs lo hi) : ∃ vs' v lo' hi' mid, vs = vs' ++ [v] ∧ Ch R l vs' lo mid ∧ mid ≤ lo' ∧ lo' ≤ hi' ∧ hi' ≤ hi ∧ v.length = 8 ∧ R y lo' hi' (.agg v.toArray) := by
 obtain ⟨vs1, vs2, mid, rfl, h1, h2⟩ := h.split
 cases h2 with
 | cons g1 g2 g3 g4 g5 =>
  cases g5 with
  | nil g6 => exact ⟨vs1, _, _, _, mid, rfl, h1, g1, g2, g6, g3, g4⟩
theorem ch_shape {w : World} {l : List YX} {vs : List (List Value)} {lo hi : Nat} (h : Ch (OY w) l vs lo hi) : ∀ v ∈ vs, ∃ k b1 n1 d1 b2 n2 d2 lo ls hi hs op, v = [.int .u8 k, .slice b1 n1 d1, .slice b2 n2 d2, .int .i64 lo, .bool ls, .int .i64 hi, .bool hs, .bool op] := by
 induction h with
 | nil => intro v hv; simp at hv
 | cons h1 h2 h3 h4 h5 ih =>
  intro v hv
  rcases List.mem_cons.1 hv with rfl | hv
  ·obtain ⟨a1, c1, a, c, e⟩ := shape_list h4
   exact ⟨_, _, _, _, _, _, _, _, _, _, _, _, e⟩
  ·exact ih v hv
set_option maxRecDepth 100000 in
set_option maxHeartbeats 32000000 in
theorem normed_bin {k : Int} (hk : k = 2 ∨ k = 3 ∨ k = 4) {a b : YX} (ih : ∀ p, Nm.size (fun _ => 1) p < Nm.size (fun _ => 1) (Nm.Y.bin k a b : YX) → NormC p) : NormC (.bin k a b) := by
 intro hok v lo hi w hO hhi hsz
 have HOK := Lib.hid hok
 obtain ⟨a1, c1, g, c, mid1, mid2, va, vb, cur0, rfl, hg1, hg2, hg3, hcur0, _, _, _, _, _, _⟩ := hO.bin
 have hch : Hid (chainB k = true) := by rw [Hid]; unfold chainB; simp; omega
 obtain ⟨W2, hW2⟩ : ∃ W2, W2 = (w.alloc (.cells #[.int .u8 k, .slice a1 0 c1, .slice (some ⟨g, 0, none⟩) 2 c, .int .i64 0, .bool false, .int .i64 0, .bool false, .bool false] 28)).alloc (.cells #[.int .u8 0, .slice none 0 0, .slice none 0 0, .int .i64 0, .bool false, .int .i64 0, .bool false, .bool false] 28) := ⟨_, rfl⟩
 have hb2 : Below w.heap.size w W2 := by rw [hW2]; exact ((Below.refl _ _).alloc (Nat.le_refl _) _).alloc (by simp) _
 have hz2 : W2.heap.size = w.heap.size + 2 := by rw [hW2]; simp
 have hx2 : W2.heap[w.heap.size]? = some (.cells #[.int .u8 k, .slice a1 0 c1, .slice (some ⟨g, 0, none⟩) 2 c, .int .i64 0, .bool false, .int .i64 0, .bool false, .bool false] 28 (0, 0)) := by rw [hW2]; exact hp_in (hp_top rfl)
 have hr2 : W2.heap[w.heap.size + 1]? = some (.cells #[.int .u8 0, .slice none 0 0, .slice none 0 0, .int .i64 0, .bool false, .int .i64 0, .bool false, .bool false] 28 (0, 0)) := by rw [hW2]; exact hp_top (by simp)
 obtain ⟨W4, hW4⟩ : ∃ W4, W4 = (W2.alloc (.cells #[.int .u8 k, .slice a1 0 c1, .slice (some ⟨g, 0, none⟩) 2 c, .int .i64 0, .bool false, .int .i64 0, .bool false, .bool false] 28)).alloc (.cells #[.int .u8 k] 5) := ⟨_, rfl⟩
 have hb4 : Below W2.heap.size W2 W4 := by rw [hW4]; exact ((Below.refl _ _).alloc (Nat.le_refl _) _).alloc (by simp) _
 have hz4 : W4.heap.size = w.heap.size + 4 := by rw [hW4]; simp [hz2]
 have hxb : W4.heap[w.heap.size + 2]? = some (.cells #[.int .u8 k, .slice a1 0 c1, .slice (some ⟨g, 0, none⟩) 2 c, .int .i64 0, .bool false, .int .i64 0, .bool false, .bool false] 28 (0, 0)) := by rw [hW4]; exact hp_in (hp_top hz2.symm)
 have hkb : W4.heap[w.heap.size + 3]? = some (.cells #[.int .u8 k] 5 (0, 0)) := by rw [hW4]; exact hp_top (by simp [hz2])
 have hO4 : OY W4 (.bin k a b) lo hi (.agg #[.int .u8 k, .slice a1 0 c1, .slice (some ⟨g, 0, none⟩) 2 c, .int .i64 0, .bool false, .int .i64 0, .bool false, .bool false]) := hO.go (by omega) fun b _ h => (hb4.block b (by omega)).trans (hb2.block b (by omega))
 have hpl := (parts_le k (Nm.Y.bin k a b : YX)).1
 have HCOL := Lib.hid (collect116 k hk (w.heap.size + 3) (w.heap.size + 2) (.bin k a b) [.int .u8 k, .slice a1 0 c1, .slice (some ⟨g, 0, none⟩) 2 c, .int .i64 0, .bool false, .int .i64 0, .bool false, .bool false] lo hi W4 hO4 (by omega) rfl hkb hxb (by omega))
 have HW2 := Lib.hid hW2.symm
 have HW4 : Hid ((W2.alloc (.cells #[.int .u8 k, .slice a1 0 c1, .slice (some ⟨g, 0, none⟩) 2 c, .int .i64 0, .bool false, .int .i64 0, .bool false, .bool false] 28)).alloc (.cells #[.int .u8 k] 5) = W4) := hW4.symm
 have hpk : W2.heap.size + 1 = w.heap.size + 3 := by omega
 have HPK := Lib.hid hpk
 have HZ2 := Lib.hid hz2
 have x0 := Lib.cell_of_heap hx2 0
 have x1 := Lib.cell_of_heap hx2 1
 have x2 := Lib.cell_of_heap hx2 2
 have x3 := Lib.cell_of_heap hx2 3
 have x4 := Lib.cell_of_heap hx2 4
 have x5 := Lib.cell_of_heap hx2 5
 have x6 := Lib.cell_of_heap hx2 6
 have x7 := Lib.cell_of_heap hx2 7
 simp only [List.getElem?_toArray, List.getElem?_cons_zero, List.getElem?_cons_succ] at x0 x1 x2 x3 x4 x5 x6 x7
 have hxl := (Array.getElem?_eq_some_iff.1 hx2).1
 have HX2 := Lib.hid hx2
 have HR2 := Lib.hid hr2
 have HB2 := Lib.hid hb2
 have HB4 := Lib.hid hb4
 have HZ4 := Lib.hid hz4
 have HO := Lib.hid hO
 have HCH := Lib.hid (chain67_any k)
 have HSZ := Lib.hid hsz
 have HIH := Lib.hid ih
 clear hok hx2 hr2 hb2 hb4 hz2 hz4 hxb hkb hO4 hpl hW2 hW4 hpk hO hsz ih hcur0
 have h67 : Fence.wide.fn 67 := trivial
 have h117 : Fence.wide.fn 117 := trivial
 have h116 : Fence.wide.fn 116 := trivial
 have h118 : Fence.wide.fn 118 := trivial
 have h70 : Fence.wide.fn 70 := trivial
 refine (callsIn_wide (n := 4)).1 ?_
 refine callsIn_of_wp_marks Tryz.func70 rfl trivial ?_ rfl
 simp only [Tryz.ntmps70, List.size_toArray, List.length_cons, List.length_nil, Nat.reduceAdd, Nat.reduceSub, Array.replicate_succ, Array.replicate_zero, List.push_toArray, List.append_toArray, List.nil_append, List.cons_append]
 gi_wp2_with fail
 refine (callsIn_wide.2 (HCH.out _)).mono ?_
 rintro e w3 ⟨rfl, rfl⟩
 rw [hch.out]
 rw [HW2.out]
 clear HW2
 gi_wp2_with fail
 refine (callsIn_wide.2 (parts117_any _ _ _ _ _ _ _ _ _ _ _ _ _ W2)).mono ?_
 rintro e w3 ⟨rfl, rfl⟩
 rw [HW4.out, HPK.out, HZ2.out]
 clear HW4 HPK
 gi_wp2_with fail
 refine (callsIn_wide.2 HCOL.out).mono ?_
 rintro e w5 ⟨⟨sv, vs, rfl, hc, hown⟩, hb5⟩
 -- the last part
 obtain ⟨pre, last, hpl⟩ : ∃ pre last, Nm.parts k (Nm.Y.bin k a b : YX) = pre ++ [last] := ⟨_, _, (List.dropLast_concat_getLast (parts_ne k _)).symm⟩
 rw [hpl] at hc
 obtain ⟨vsp, vl, lol, hil, mid, rfl, hcp, hml, hlh, hhl, hv8, hOl⟩ := ch_last hc
 have hlp := hcp.len.1
 have hvlen : (vsp ++ [vl]).length = pre.length + 1 := by simp [hlp]
 rw [hvlen] at hown
 have hplen : pre.length + 1 ≤ 1000 := by
  have := (parts_le k (Nm.Y.bin k a b : YX)).1
  rw [hpl] at this
  have h2 := HSZ.out
  simp at this
  omega
 rcases hown.2 with ⟨_, h⟩ | ⟨L, cap, cur, rfl, hL, hcur, hn1, hn2, hn3, hn4⟩
 ·exact absurd h (by omega)
 have hrow : ∀ i, i < pre.length + 1 → ∀ x, x < 8 → cur[i * 8 + x]? = ((vsp ++ [vl])[i]?.getD [])[x]? := by
  intro i hi x hx
  have hi' : i < (vsp ++ [vl]).length := by rw [hvlen]; exact hi
  have h1 : (vsp ++ [vl]).flatten[i * 8 + x]? = ((vsp ++ [vl])[i]'hi')[x]? := flatten_at (vsp ++ [vl]) hc.len.2 i x hi' hx
  rw [List.getElem?_eq_getElem hi', Option.getD_some, ← h1, ← hn4, List.getElem?_take, if_pos (by omega), Array.getElem?_toList]
 have hshl := ch_shape hc
 obtain ⟨kl, b1l, n1l, d1l, b2l, n2l, d2l, lol2, lsl, hil2, hsl, opl, rfl⟩ := hshl vl (by simp)
 have hlast : ∀ x, x < 8 → w5.cell? ⟨L, pre.length * 8 + x, none⟩ = ([.int .u8 kl, .slice b1l n1l d1l, .slice b2l n2l d2l, .int .i64 lol2, .bool lsl, .int .i64 hil2, .bool hsl, .bool opl] : List Value)[x]? := by
  intro x hx
  have := hrow pre.length (by omega) x hx
  rw [List.getElem?_append_right (by rw [hlp]; exact Nat.le_refl _), hlp, Nat.sub_self] at this
  rw [Lib.cell_of_heap hcur, this]
  rfl
 have l0 := hlast 0 (by decide)
 have l1 := hlast 1 (by decide)
 have l2 := hlast 2 (by decide)
 have l3 := hlast 3 (by decide)
 have l4 := hlast 4 (by decide)
 have l5 := hlast 5 (by decide)
 have l6 := hlast 6 (by decide)
 have l7 := hlast 7 (by decide)
 simp only [Nat.add_zero, List.getElem?_cons_zero, List.getElem?_cons_succ] at l0 l1 l2 l3 l4 l5 l6 l7
 have HL5 := Lib.hid (Array.getElem?_eq_some_iff.1 hcur).1
 have hLl := HL5.out
 have hw2 : wrap64 (pre.length : Int) = (pre.length : Int) := wrap_len hplen
 have hi1 : (pre.length : Int) < (pre.length : Int) + 1 := Int.lt_add_one_iff.2 (Int.le_refl _)
 have hi0 : (0 : Int) ≤ (pre.length : Int) := Int.natCast_nonneg _
 have HNL := Lib.hid (HIH.out last (parts_lt (by rw [hpl]; simp)) (ok_parts k _ HOK.out last (by rw [hpl]; simp)) _ lol hil w5 hOl (by have := hb5.size; have := HZ4.out; omega) (by have := (parts_lt (k := k) (a := a) (b := b) (p := last) (by rw [hpl]; simp)); have := HSZ.out; omega))
 have HC := Lib.hid hcp
 have HCUR := Lib.hid hcur
 have HROW := Lib.hid hrow
 have HB5 := Lib.hid hb5
 have HPL := Lib.hid hpl
 have HSH := Lib.hid hshl
 have HLB := Lib.hid (And.intro hml (And.intro hlh (And.intro hhl hL)))
 have HLP := Lib.hid hlp
 have HCAP : Hid (pre.length ≤ cap) := by rw [Hid]; exact Nat.le_trans (Nat.le_succ _) hn1
 have HPLEN := Lib.hid hplen
 clear hc hown hb5 hpl hcp hml hlh hhl hOl hlp hplen hL hcur hn1 hn2 hn3 hn4 hrow hshl hlast x0 x1 x2 x3 x4 x5 x6 x7 HCOL
 gi_wp2_with fail
 rw [hw2]
 refine (callsIn_wide.2 HNL.out).mono ?_
 rintro e w6 ⟨⟨kn, bn1, nn1, dn1, bn2, nn2, dn2, lon, lsn, hin, hsn, opn, rfl, hx6⟩, hk6⟩
 have HX6 := Lib.hid hx6
 have HK6 := Lib.hid hk6
 have hslc : ∀ W : World, (Instr.slice 24 (.slice (some ⟨L, 0, none⟩) (pre.length + 1) cap) none (some (.int .i64 pre.length)) none).run Tryz.prog W = .ok (.slice (some ⟨L, 0, none⟩) pre.length cap) W := fun W => slice24_h L pre.length (pre.length + 1) cap HCAP.out W
 clear hx6 hk6 l0 l1 l2 l3 l4 l5 l6 l7
 gi_wp2_with fail
 refine (callsIn_wide.2 (backward118_any _ _ _ _)).mono ?_
 rintro e w7 ⟨rfl, rfl⟩
 obtain ⟨W8, hW8⟩ : ∃ W8, W8 = (w6.alloc (.cells #[.int .u8 kn, .slice bn1 nn1 dn1, .slice bn2 nn2 dn2, .int .i64 lon, .bool lsn, .int .i64 hin, .bool hsn, .bool opn] 28)).alloc (.cells #[.slice (some ⟨L, 0, none⟩) pre.length cap] 24) := ⟨_, rfl⟩
 have HW8 := Lib.hid hW8.symm
 have hz8 : W8.heap.size = w6.heap.size + 2 := by rw [hW8]; simp
 have HZ8 := Lib.hid hz8
 have HBK : Hid (Bk w lo hi w.heap.size w6.heap.size (w6.heap.size + 1) L (w6.heap.size + 2) #[.int .u8 k, .slice a1 0 c1, .slice (some ⟨g, 0, none⟩) 2 c, .int .i64 0, .bool false, .int .i64 0, .bool false, .bool false] (.slice (some ⟨L, 0, none⟩) pre.length cap) cur k (pre ++ [last]) (vsp ++ [[.int .u8 kl, .slice b1l n1l d1l, .slice b2l n2l d2l, .int .i64 lol2, .bool lsl, .int .i64 hil2, .bool hsl, .bool opl]]) pre.length W8) := by
  have hb25 := HB4.out.trans (HB5.out.mono HB4.out.size)
  have hz2 := HZ2.out
  have hz5 : W2.heap.size ≤ w5.heap.size := hb25.size
  refine bk_init hW8 (HB2.out.trans (hb25.mono HB2.out.size)) HK6.out HX6.out HC.out HLB.out.1 HLB.out.2.1 HLB.out.2.2.1 hhi (by omega) ((hb25.block _ (by omega)).trans HX2.out) (Nat.le_refl _) HCUR.out ?_ HLP.out ((hb25.block _ (by omega)).trans HR2.out)
  have := HLB.out.2.2.2
  have := HZ4.out
  omega
 have hsz8 : (w6.alloc (.cells #[.int .u8 kn, .slice bn1 nn1 dn1, .slice bn2 nn2 dn2, .int .i64 lon, .bool lsn, .int .i64 hin, .bool hsn, .bool opn] 28)).heap.size = w6.heap.size + 1 := by simp
 rw [HW8.out, hsz8]
 clear hW8 hz8 hsz8 HX6
 gi_wp2_with fail
 have hz8 := HZ8.out
 rw [HZ8.out.symm] at HBK
 have hD := hz8
 have hLD : L < W8.heap.size := by have := HL5.out; have := HK6.out.2.2.2.1; omega
 have hsz5 : w.heap.size + 4 ≤ w5.heap.size := by have := HB5.out.size; have := HZ4.out; omega
 have hsz6 : w5.heap.size ≤ w6.heap.size := HK6.out.2.2.2.1
 have HLD := Lib.hid hLD
 have HS5 := Lib.hid hsz5
 have HS6 := Lib.hid hsz6
 have HL4 : Hid (w.heap.size + 4 ≤ L) := by have h1 := HLB.out.2.2.2; have h2 := HZ4.out; rw [Hid]; omega
 clear hz8 hD hLD hsz5 hsz6
 refine range_back (Bb := w6.heap.size + 1) (L := L) (n := pre.length) (cap := cap) (vs := fun i => (vsp ++ [([.int .u8 kl, .slice b1l n1l d1l, .slice b2l n2l d2l, .int .i64 lol2, .bool lsl, .int .i64 hil2, .bool hsl, .bool opl] : List Value)])[i]?.getD []) rfl rfl (Nat.le_trans (Nat.le_succ _) HPLEN.out) ?sh
  (fun j W => Bk w lo hi w.heap.size w6.heap.size (w6.heap.size + 1) L W8.heap.size #[.int .u8 k, .slice a1 0 c1, .slice (some ⟨g, 0, none⟩) 2 c, .int .i64 0, .bool false, .int .i64 0, .bool false, .bool false] (.slice (some ⟨L, 0, none⟩) pre.length cap) cur k (pre ++ [last]) (vsp ++ [([.int .u8 kl, .slice b1l n1l d1l, .slice b2l n2l d2l, .int .i64 lol2, .bool lsl, .int .i64 hil2, .bool hsl, .bool opl] : List Value)]) j W) ?keep ?rd HBK.out ?round ?done
 case sh =>
  intro j hj
  have hj' : j < (vsp ++ [([.int .u8 kl, .slice b1l n1l d1l, .slice b2l n2l d2l, .int .i64 lol2, .bool lsl, .int .i64 hil2, .bool hsl, .bool opl] : List Value)]).length := by rw [hvlen]; exact Nat.lt_succ_of_lt hj
  have e : (vsp ++ [([.int .u8 kl, .slice b1l n1l d1l, .slice b2l n2l d2l, .int .i64 lol2, .bool lsl, .int .i64 hil2, .bool hsl, .bool opl] : List Value)])[j]?.getD [] = (vsp ++ [([.int .u8 kl, .slice b1l n1l d1l, .slice b2l n2l d2l, .int .i64 lol2, .bool lsl, .int .i64 hil2, .bool hsl, .bool opl] : List Value)])[j] := by rw [List.getElem?_eq_getElem hj', Option.getD_some]
  try dsimp only
  rw [e]
  exact HSH.out _ (List.getElem_mem hj')
 case keep =>
  intro j W W' h h1 h2 h3 h4 h5 h6
  have a1 := HZ8.out
  have a2 := HS5.out
  have a3 := HS6.out
  have a4 := HLD.out
  exact h.keep hhi (by omega) (by omega) (by omega) (by omega) a4 h1 h2 h3 h4 h5 h6
 case rd =>
  intro j W h
  refine ⟨Lib.cell_of_heap h.bb 0, (Array.getElem?_eq_some_iff.1 h.lr).1, fun i hi x hx => ?_⟩
  rw [Lib.cell_of_heap h.lr]
  exact HROW.out i (Nat.lt_succ_of_lt hi) x hx
 case done =>
  intro W hB hlt hK
  have hz8 := HZ8.out
  have hlen5 : w.heap.size + 2 ≤ W8.heap.size := done_size HS5.out HS6.out hz8
  have hf : Nm.fold k (pre ++ [last]) none = some (Nm.norm (Nm.Y.bin k a b : YX)) := by rw [← HPL.out]; exact norm_fold hk a b
  have hR := hB.rr
  obtain ⟨ko, bo1, no1, do1, bo2, no2, do2, loo, lso, hio, hso, opo, hO, hfin⟩ := bk_done hB hf hhi hlen5 hlt hK
  obtain ⟨W9, hW9⟩ : ∃ W9, W9 = tw8 W (w.heap.size + 1) (.int .u8 ko) (.slice bo1 no1 do1) (.slice bo2 no2 do2) (.int .i64 loo) (.bool lso) (.int .i64 hio) (.bool hso) (.bool opo) := ⟨_, rfl⟩
  obtain ⟨hK9, hR9, hfin9⟩ := hfin W9 hW9
  have hF9 : Hid (((((((((W.setCell ⟨w.heap.size + 1, 0, none⟩ (.int .u8 ko)).setCell ⟨w.heap.size + 1, 1, none⟩ (.slice bo1 no1 do1)).setCell ⟨w.heap.size + 1, 2, none⟩ (.slice bo2 no2 do2)).setCell ⟨w.heap.size + 1, 3, none⟩ (.int .i64 loo)).setCell ⟨w.heap.size + 1, 4, none⟩ (.bool lso)).setCell ⟨w.heap.size + 1, 5, none⟩ (.int .i64 hio)).setCell ⟨w.heap.size + 1, 6, none⟩ (.bool hso)).setCell ⟨w.heap.size + 1, 7, none⟩ (.bool opo)) = W9) := hW9.symm
  have HK9 := Lib.hid hK9
  have HR9 := Lib.hid hR9
  have HF9 := Lib.hid hfin9
  have o0 := Lib.cell_of_heap hO 0
  have o1 := Lib.cell_of_heap hO 1
  have o2 := Lib.cell_of_heap hO 2
  have o3 := Lib.cell_of_heap hO 3
  have o4 := Lib.cell_of_heap hO 4
  have o5 := Lib.cell_of_heap hO 5
  have o6 := Lib.cell_of_heap hO 6
  have o7 := Lib.cell_of_heap hO 7
  simp only [List.getElem?_toArray, List.getElem?_cons_zero, List.getElem?_cons_succ] at o0 o1 o2 o3 o4 o5 o6 o7
  have r0 := Lib.cell_of_heap hR 0
  have r1 := Lib.cell_of_heap hR 1
  have r2 := Lib.cell_of_heap hR 2
  have r3 := Lib.cell_of_heap hR 3
  have r4 := Lib.cell_of_heap hR 4
  have r5 := Lib.cell_of_heap hR 5
  have r6 := Lib.cell_of_heap hR 6
  have r7 := Lib.cell_of_heap hR 7
  simp only [List.getElem?_toArray, List.getElem?_cons_zero, List.getElem?_cons_succ] at r0 r1 r2 r3 r4 r5 r6 r7
  have f0 := Lib.frozen_of_heap hR 0
  have f1 := Lib.frozen_of_heap hR 1
  have f2 := Lib.frozen_of_heap hR 2
  have f3 := Lib.frozen_of_heap hR 3
  have f4 := Lib.frozen_of_heap hR 4
  have f5 := Lib.frozen_of_heap hR 5
  have f6 := Lib.frozen_of_heap hR 6
  have f7 := Lib.frozen_of_heap hR 7
  have hol := (Array.getElem?_eq_some_iff.1 hO).1
  clear hB hfin hf hO hR hK hK9 hR9 hfin9 hW9
  gi_wp2
  rw [hF9.out]
  refine ⟨by simp, .inl ⟨_, _, rfl, run_takeDeferred HK9.out, ?_⟩⟩
  exact ⟨_, results_cell_row rfl _ _ _ _ _ _ _ rfl HR9.out Tryz.underlying28 rfl (by kernel_rfl), ⟨_, _, _, _, _, _, _, _, _, _, _, _, rfl, HF9.out.1⟩, HF9.out.2⟩
 case round =>
  intro m j wr hj hB hwr
  have hj' : j < (vsp ++ [([.int .u8 kl, .slice b1l n1l d1l, .slice b2l n2l d2l, .int .i64 lol2, .bool lsl, .int .i64 hil2, .bool hsl, .bool opl] : List Value)]).length := by rw [hvlen]; exact Nat.lt_succ_of_lt hj
  have e : (vsp ++ [([.int .u8 kl, .slice b1l n1l d1l, .slice b2l n2l d2l, .int .i64 lol2, .bool lsl, .int .i64 hil2, .bool hsl, .bool opl] : List Value)])[j]?.getD [] = (vsp ++ [([.int .u8 kl, .slice b1l n1l d1l, .slice b2l n2l d2l, .int .i64 lol2, .bool lsl, .int .i64 hil2, .bool hsl, .bool opl] : List Value)])[j] := by rw [List.getElem?_eq_getElem hj', Option.getD_some]
  obtain ⟨ky, b1y, n1y, d1y, b2y, n2y, d2y, loy, lsy, hiy, hsy, opy, hv⟩ := HSH.out _ (List.getElem_mem hj')
  try dsimp only
  rw [e, hv]
  gi_wp2
  refine ⟨⟨_, rfl⟩, ?_⟩
  intro o' hB2
  obtain ⟨XA, hXA⟩ : ∃ XA, XA = (wr.alloc (.cells #[.int .u8 ky, .slice b1y n1y d1y, .slice b2y n2y d2y, .int .i64 loy, .bool lsy, .int .i64 hiy, .bool hsy, .bool opy] 28)).putObj (W8.heap.size + 1) (.loop o') := ⟨_, rfl⟩
  rw [← hXA] at hB2 ⊢
  have hjp : j < (pre ++ [last]).length := by rw [List.length_append]; exact Nat.lt_succ_of_lt hj
  obtain ⟨ko, bo1, no1, do1, bo2, no2, do2, loo, lso, hio, hso, opo, lo', mid', hX0, hTA, hOA, hOY', hmA, hnext⟩ := bk_round hXA hB2 hhi HZ8.out HS5.out HS6.out HL4.out HL5.out hwr hjp (by rw [hvlen, List.length_append]; rfl) hv
  have hmemp : (pre ++ [last])[j] ∈ Nm.parts k (Nm.Y.bin k a b : YX) := by rw [HPL.out]; exact List.getElem_mem hjp
  have hsub := parts_lt hmemp
  have HNY : Hid (Calls Tryz.prog 70 #[.agg #[.int .u8 ky, .slice b1y n1y d1y, .slice b2y n2y d2y, .int .i64 loy, .bool lsy, .int .i64 hiy, .bool hsy, .bool opy]] XA.drew fun e w' => (∃ k b1 n1 d1 b2 n2 d2 lo ls hi hs op, e = .returned (.agg #[.int .u8 k, .slice b1 n1 d1, .slice b2 n2 d2, .int .i64 lo, .bool ls, .int .i64 hi, .bool hs, .bool op]) ∧ XI (pJ lo' mid' XA.heap.size) w' (xY (Nm.norm (pre ++ [last])[j])) (.agg #[.int .u8 k, .slice b1 n1 d1, .slice b2 n2 d2, .int .i64 lo, .bool ls, .int .i64 hi, .bool hs, .bool op])) ∧ Kp lo' mid' XA.drew w') :=
   HIH.out _ hsub (ok_parts k _ HOK.out _ hmemp) _ lo' mid' XA.drew hOY' hmA (Nat.le_trans (Nat.le_of_lt hsub) HSZ.out)
  have HNX := Lib.hid hnext
  have HS : Hid (∀ W : World, W.heap[w.heap.size]? = some (.cells #[.int .u8 k, .slice a1 0 c1, .slice (some ⟨g, 0, none⟩) 2 c, .int .i64 0, .bool false, .int .i64 0, .bool false, .bool false] 28 (0, 0)) → W.heap[wr.heap.size]? = some (.cells #[.int .u8 ky, .slice b1y n1y d1y, .slice b2y n2y d2y, .int .i64 loy, .bool lsy, .int .i64 hiy, .bool hsy, .bool opy] 28 (0, 0)) → W.cell? ⟨w.heap.size, 0, none⟩ = some (.int .u8 k) ∧ W.cell? ⟨wr.heap.size, 0, none⟩ = some (.int .u8 ky) ∧ W.cell? ⟨wr.heap.size, 1, none⟩ = some (.slice b1y n1y d1y) ∧ W.cell? ⟨wr.heap.size, 2, none⟩ = some (.slice b2y n2y d2y) ∧ W.cell? ⟨wr.heap.size, 3, none⟩ = some (.int .i64 loy) ∧ W.cell? ⟨wr.heap.size, 4, none⟩ = some (.bool lsy) ∧ W.cell? ⟨wr.heap.size, 5, none⟩ = some (.int .i64 hiy) ∧ W.cell? ⟨wr.heap.size, 6, none⟩ = some (.bool hsy) ∧ W.cell? ⟨wr.heap.size, 7, none⟩ = some (.bool opy)) := fun W h h' => ⟨Lib.cell_of_heap h 0, Lib.cell_of_heap h' 0, Lib.cell_of_heap h' 1, Lib.cell_of_heap h' 2, Lib.cell_of_heap h' 3, Lib.cell_of_heap h' 4, Lib.cell_of_heap h' 5, Lib.cell_of_heap h' 6, Lib.cell_of_heap h' 7⟩
  have HS0 : Hid (XA.drew.cell? ⟨w.heap.size, 0, none⟩ = some (.int .u8 k) ∧ XA.drew.cell? ⟨wr.heap.size, 0, none⟩ = some (.int .u8 ky) ∧ XA.drew.cell? ⟨wr.heap.size, 1, none⟩ = some (.slice b1y n1y d1y) ∧ XA.drew.cell? ⟨wr.heap.size, 2, none⟩ = some (.slice b2y n2y d2y) ∧ XA.drew.cell? ⟨wr.heap.size, 3, none⟩ = some (.int .i64 loy) ∧ XA.drew.cell? ⟨wr.heap.size, 4, none⟩ = some (.bool lsy) ∧ XA.drew.cell? ⟨wr.heap.size, 5, none⟩ = some (.int .i64 hiy) ∧ XA.drew.cell? ⟨wr.heap.size, 6, none⟩ = some (.bool hsy) ∧ XA.drew.cell? ⟨wr.heap.size, 7, none⟩ = some (.bool opy)) := HS.out XA.drew hX0 hTA
  have HOA : Hid (XA.drew.heap[w6.heap.size]? = some (.cells #[.int .u8 ko, .slice bo1 no1 do1, .slice bo2 no2 do2, .int .i64 loo, .bool lso, .int .i64 hio, .bool hso, .bool opo] 28 (0, 0))) := hOA
  have HXA := Lib.hid hXA.symm
  clear hB hB2 hOY' hnext hX0 hTA hOA hXA hsub hmemp hv e hwr hmA
  gi_wp2
  try rw [HXA.out]
  refine region_round (S := fun W => W.cell? ⟨w.heap.size, 0, none⟩ = some (.int .u8 k) ∧ W.cell? ⟨wr.heap.size, 0, none⟩ = some (.int .u8 ky) ∧ W.cell? ⟨wr.heap.size, 1, none⟩ = some (.slice b1y n1y d1y) ∧ W.cell? ⟨wr.heap.size, 2, none⟩ = some (.slice b2y n2y d2y) ∧ W.cell? ⟨wr.heap.size, 3, none⟩ = some (.int .i64 loy) ∧ W.cell? ⟨wr.heap.size, 4, none⟩ = some (.bool lsy) ∧ W.cell? ⟨wr.heap.size, 5, none⟩ = some (.int .i64 hiy) ∧ W.cell? ⟨wr.heap.size, 6, none⟩ = some (.bool hsy) ∧ W.cell? ⟨wr.heap.size, 7, none⟩ = some (.bool opy)) (by kernel_rfl) (by kernel_rfl) ?_ HS0.out (fun hHeld => ?_)
  ·rintro ⟨_, _, h, _⟩
   cases h
  refine wpAnyH_take (i := 0) (v := ?_) rfl (by kernel_rfl) (by kernel_rfl) (by kernel_rfl) (fun _ _ _ h => h) (Or.inl ⟨by kernel_rfl, ?_⟩) (by assumption) ?_
  rotate_left
  ·(intro w hSw; (try dsimp only at hSw); go_simp)
   with_reducible rfl
  try simp only [Act.put, List.setIfInBounds_toArray]
  refine wpAnyH_take (i := 1) (v := ?_) rfl (by kernel_rfl) (by kernel_rfl) (by kernel_rfl) (fun _ _ _ h => h) (Or.inl ⟨by kernel_rfl, ?_⟩) (by assumption) ?_
  rotate_left
  ·(intro w hSw; (try dsimp only at hSw); go_simp)
   with_reducible rfl
  try simp only [Act.put]
  refine wpAnyH_take (i := 2) (v := ?_) rfl (by kernel_rfl) (by kernel_rfl) (by kernel_rfl) (fun _ _ _ h => h) (Or.inl ⟨by kernel_rfl, ?_⟩) (by assumption) ?_
  rotate_left
  ·(intro w hSw; (try dsimp only at hSw); go_simp)
   with_reducible rfl
  try simp only [Act.put]
  refine wpAnyH_ready (rs := [3, 4]) (by kernel_rfl) (by simp) ?_
  refine AllReadyH.cons rfl (fun K hK => ?_) (AllReadyH.cons rfl (fun K hK => ?_) AllReadyH.nil)
  ·skip
   go_simp
   go_at_call 70
   refine HNY.out.mono ?_
   rintro e w9 ⟨⟨kz, b1z, n1z, d1z, b2z, n2z, d2z, loz, lsz, hiz, hsz, opz, rfl, hx9⟩, hk9⟩
   have h9 := HNX.out w9 kz b1z n1z d1z b2z n2z d2z loz lsz hiz hsz opz hx9 hk9
   have HQ := Lib.hid h9.1
   have HF := Lib.hid h9.2
   have HS9 : Hid (w9.cell? ⟨w.heap.size, 0, none⟩ = some (.int .u8 k) ∧ w9.cell? ⟨wr.heap.size, 0, none⟩ = some (.int .u8 ky) ∧ w9.cell? ⟨wr.heap.size, 1, none⟩ = some (.slice b1y n1y d1y) ∧ w9.cell? ⟨wr.heap.size, 2, none⟩ = some (.slice b2y n2y d2y) ∧ w9.cell? ⟨wr.heap.size, 3, none⟩ = some (.int .i64 loy) ∧ w9.cell? ⟨wr.heap.size, 4, none⟩ = some (.bool lsy) ∧ w9.cell? ⟨wr.heap.size, 5, none⟩ = some (.int .i64 hiy) ∧ w9.cell? ⟨wr.heap.size, 6, none⟩ = some (.bool hsy) ∧ w9.cell? ⟨wr.heap.size, 7, none⟩ = some (.bool opy)) := HS.out w9 h9.1.1 h9.1.2.1
   clear hx9 hk9 h9
   dsimp only
   refine hK.out _ _ (HS9.out) (fun hHeld => ?_)
   clear hK K
   try simp only [Act.put, List.setIfInBounds_toArray, List.set_cons_zero, List.set_cons_succ]
   refine wpAnyH_ready (rs := [4]) (by kernel_rfl) (by simp) ?_
   refine AllReadyH.cons rfl (fun K hK => ?_) AllReadyH.nil
   have hO := HQ.out.2.2
   have o0 := Lib.cell_of_heap hO 0
   have o1 := Lib.cell_of_heap hO 1
   have o2 := Lib.cell_of_heap hO 2
   have o3 := Lib.cell_of_heap hO 3
   have o4 := Lib.cell_of_heap hO 4
   have o5 := Lib.cell_of_heap hO 5
   have o6 := Lib.cell_of_heap hO 6
   have o7 := Lib.cell_of_heap hO 7
   simp only [List.getElem?_toArray, List.getElem?_cons_zero, List.getElem?_cons_succ] at o0 o1 o2 o3 o4 o5 o6 o7
   clear hO
   go_simp
   refine hK.out _ _ (HS9.out) (fun hHeld => ?_)
   clear hK K
   try simp only [Act.put, List.setIfInBounds_toArray, List.set_cons_zero, List.set_cons_succ]
   clear o0 o1 o2 o3 o4 o5 o6 o7
   refine wpAnyH_ready (rs := [5]) (by kernel_rfl) (by simp) ?_
   refine AllReadyH.cons rfl (fun K hK => ?_) AllReadyH.nil
   go_simp
   refine hK.out _ _ (HS.out _ (hp_in HQ.out.1) (hp_in HQ.out.2.1)) (fun hHeld => ?_)
   clear hK K
   try simp only [Act.put, List.setIfInBounds_toArray, List.set_cons_zero, List.set_cons_succ]
   refine wpAnyH_take (i := 6) (v := ?_) rfl (by kernel_rfl) (by kernel_rfl) (by kernel_rfl) (fun _ _ _ h => h) (Or.inl ⟨by kernel_rfl, ?_⟩) (by assumption) ?_
   rotate_left
   ·(intro w hSw; (try dsimp only at hSw); go_simp)
    with_reducible rfl
   try simp only [Act.put, List.setIfInBounds_toArray]
   refine wpAnyH_ready (rs := [7]) (by kernel_rfl) (by simp) ?_
   refine AllReadyH.cons rfl (fun K hK => ?_) AllReadyH.nil
   have hO := hp_in (o := .cells #[.int .u8 kz, .slice b1z n1z d1z, .slice b2z n2z d2z, .int .i64 loz, .bool lsz, .int .i64 hiz, .bool hsz, .bool opz, .int .u8 ko, .slice bo1 no1 do1, .slice bo2 no2 do2, .int .i64 loo, .bool lso, .int .i64 hio, .bool hso, .bool opo] 28) HQ.out.2.2
   have o0 := Lib.cell_of_heap hO 0
   have f0 := Lib.frozen_of_heap hO 0
   have o1 := Lib.cell_of_heap hO 1
   have f1 := Lib.frozen_of_heap hO 1
   have o2 := Lib.cell_of_heap hO 2
   have f2 := Lib.frozen_of_heap hO 2
   have o3 := Lib.cell_of_heap hO 3
   have f3 := Lib.frozen_of_heap hO 3
   have o4 := Lib.cell_of_heap hO 4
   have f4 := Lib.frozen_of_heap hO 4
   have o5 := Lib.cell_of_heap hO 5
   have f5 := Lib.frozen_of_heap hO 5
   have o6 := Lib.cell_of_heap hO 6
   have f6 := Lib.frozen_of_heap hO 6
   have o7 := Lib.cell_of_heap hO 7
   have f7 := Lib.frozen_of_heap hO 7
   simp only [List.getElem?_toArray, List.getElem?_cons_zero, List.getElem?_cons_succ] at o0 o1 o2 o3 o4 o5 o6 o7
   clear hO
   go_simp
   obtain ⟨W7, hW7⟩ : ∃ W7, W7 = tw8 (w9.alloc (.cells #[.int .u8 kz, .slice b1z n1z d1z, .slice b2z n2z d2z, .int .i64 loz, .bool lsz, .int .i64 hiz, .bool hsz, .bool opz, .int .u8 ko, .slice bo1 no1 do1, .slice bo2 no2 do2, .int .i64 loo, .bool lso, .int .i64 hio, .bool hso, .bool opo] 28)) w6.heap.size (.int .u8 k) (.slice none 0 0) (.slice (some ⟨w9.heap.size, 0, none⟩) 2 2) (.int .i64 0) (.bool false) (.int .i64 0) (.bool false) (.bool false) := ⟨_, rfl⟩
   have h7 := HF.out W7 hW7
   have H7 := Lib.hid h7
   clear h7
   clear o0 o1 o2 o3 o4 o5 o6 o7 f0 f1 f2 f3 f4 f5 f6 f7
   have HS7 : Hid (W7.cell? ⟨w.heap.size, 0, none⟩ = some (.int .u8 k) ∧ W7.cell? ⟨wr.heap.size, 0, none⟩ = some (.int .u8 ky) ∧ W7.cell? ⟨wr.heap.size, 1, none⟩ = some (.slice b1y n1y d1y) ∧ W7.cell? ⟨wr.heap.size, 2, none⟩ = some (.slice b2y n2y d2y) ∧ W7.cell? ⟨wr.heap.size, 3, none⟩ = some (.int .i64 loy) ∧ W7.cell? ⟨wr.heap.size, 4, none⟩ = some (.bool lsy) ∧ W7.cell? ⟨wr.heap.size, 5, none⟩ = some (.int .i64 hiy) ∧ W7.cell? ⟨wr.heap.size, 6, none⟩ = some (.bool hsy) ∧ W7.cell? ⟨wr.heap.size, 7, none⟩ = some (.bool opy)) := HS.out W7 H7.out.1 H7.out.2.1
   have hF7 : (((((((((w9.alloc (.cells #[.int .u8 kz, .slice b1z n1z d1z, .slice b2z n2z d2z, .int .i64 loz, .bool lsz, .int .i64 hiz, .bool hsz, .bool opz, .int .u8 ko, .slice bo1 no1 do1, .slice bo2 no2 do2, .int .i64 loo, .bool lso, .int .i64 hio, .bool hso, .bool opo] 28)).setCell ⟨w6.heap.size, 0, none⟩ (.int .u8 k)).setCell ⟨w6.heap.size, 1, none⟩ (.slice none 0 0)).setCell ⟨w6.heap.size, 2, none⟩ (.slice (some ⟨w9.heap.size, 0, none⟩) 2 2)).setCell ⟨w6.heap.size, 3, none⟩ (.int .i64 0)).setCell ⟨w6.heap.size, 4, none⟩ (.bool false)).setCell ⟨w6.heap.size, 5, none⟩ (.int .i64 0)).setCell ⟨w6.heap.size, 6, none⟩ (.bool false)).setCell ⟨w6.heap.size, 7, none⟩ (.bool false)) = W7 := hW7.symm
   rw [hF7]
   clear hF7 hW7
   refine hK.out _ _ (HS7.out) (fun hHeld => ?_)
   clear hK K
   try simp only [Act.put, List.setIfInBounds_toArray, List.set_cons_zero, List.set_cons_succ]
   refine wpAnyH_done (by kernel_rfl) ?_ _
   exact ⟨rfl, H7.out.2.2⟩
  ·skip
   have hO := HOA.out
   have o0 := Lib.cell_of_heap hO 0
   have o1 := Lib.cell_of_heap hO 1
   have o2 := Lib.cell_of_heap hO 2
   have o3 := Lib.cell_of_heap hO 3
   have o4 := Lib.cell_of_heap hO 4
   have o5 := Lib.cell_of_heap hO 5
   have o6 := Lib.cell_of_heap hO 6
   have o7 := Lib.cell_of_heap hO 7
   simp only [List.getElem?_toArray, List.getElem?_cons_zero, List.getElem?_cons_succ] at o0 o1 o2 o3 o4 o5 o6 o7
   clear hO
   go_simp
   refine hK.out _ _ (HS0.out) (fun hHeld => ?_)
   clear hK K
   try simp only [Act.put, List.setIfInBounds_toArray, List.set_cons_zero, List.set_cons_succ]
   clear o0 o1 o2 o3 o4 o5 o6 o7
   refine wpAnyH_ready (rs := [3]) (by kernel_rfl) (by simp) ?_
   refine AllReadyH.cons rfl (fun K hK => ?_) AllReadyH.nil
   go_simp
   go_at_call 70
   refine HNY.out.mono ?_
   rintro e w9 ⟨⟨kz, b1z, n1z, d1z, b2z, n2z, d2z, loz, lsz, hiz, hsz, opz, rfl, hx9⟩, hk9⟩
   have h9 := HNX.out w9 kz b1z n1z d1z b2z n2z d2z loz lsz hiz hsz opz hx9 hk9
   have HQ := Lib.hid h9.1
   have HF := Lib.hid h9.2
   have HS9 : Hid (w9.cell? ⟨w.heap.size, 0, none⟩ = some (.int .u8 k) ∧ w9.cell? ⟨wr.heap.size, 0, none⟩ = some (.int .u8 ky) ∧ w9.cell? ⟨wr.heap.size, 1, none⟩ = some (.slice b1y n1y d1y) ∧ w9.cell? ⟨wr.heap.size, 2, none⟩ = some (.slice b2y n2y d2y) ∧ w9.cell? ⟨wr.heap.size, 3, none⟩ = some (.int .i64 loy) ∧ w9.cell? ⟨wr.heap.size, 4, none⟩ = some (.bool lsy) ∧ w9.cell? ⟨wr.heap.size, 5, none⟩ = some (.int .i64 hiy) ∧ w9.cell? ⟨wr.heap.size, 6, none⟩ = some (.bool hsy) ∧ w9.cell? ⟨wr.heap.size, 7, none⟩ = some (.bool opy)) := HS.out w9 h9.1.1 h9.1.2.1
   clear hx9 hk9 h9
   dsimp only
   refine hK.out _ _ (HS9.out) (fun hHeld => ?_)
   clear hK K
   try simp only [Act.put, List.setIfInBounds_toArray, List.set_cons_zero, List.set_cons_succ]
   refine wpAnyH_ready (rs := [5]) (by kernel_rfl) (by simp) ?_
   refine AllReadyH.cons rfl (fun K hK => ?_) AllReadyH.nil
   go_simp
   refine hK.out _ _ (HS.out _ (hp_in HQ.out.1) (hp_in HQ.out.2.1)) (fun hHeld => ?_)
   clear hK K
   try simp only [Act.put, List.setIfInBounds_toArray, List.set_cons_zero, List.set_cons_succ]
   refine wpAnyH_take (i := 6) (v := ?_) rfl (by kernel_rfl) (by kernel_rfl) (by kernel_rfl) (fun _ _ _ h => h) (Or.inl ⟨by kernel_rfl, ?_⟩) (by assumption) ?_
   rotate_left
   ·(intro w hSw; (try dsimp only at hSw); go_simp)
    with_reducible rfl
   try simp only [Act.put, List.setIfInBounds_toArray]
   refine wpAnyH_ready (rs := [7]) (by kernel_rfl) (by simp) ?_
   refine AllReadyH.cons rfl (fun K hK => ?_) AllReadyH.nil
   have hO := hp_in (o := .cells #[.int .u8 kz, .slice b1z n1z d1z, .slice b2z n2z d2z, .int .i64 loz, .bool lsz, .int .i64 hiz, .bool hsz, .bool opz, .int .u8 ko, .slice bo1 no1 do1, .slice bo2 no2 do2, .int .i64 loo, .bool lso, .int .i64 hio, .bool hso, .bool opo] 28) HQ.out.2.2
   have o0 := Lib.cell_of_heap hO 0
   have f0 := Lib.frozen_of_heap hO 0
   have o1 := Lib.cell_of_heap hO 1
   have f1 := Lib.frozen_of_heap hO 1
   have o2 := Lib.cell_of_heap hO 2
   have f2 := Lib.frozen_of_heap hO 2
   have o3 := Lib.cell_of_heap hO 3
   have f3 := Lib.frozen_of_heap hO 3
   have o4 := Lib.cell_of_heap hO 4
   have f4 := Lib.frozen_of_heap hO 4
   have o5 := Lib.cell_of_heap hO 5
   have f5 := Lib.frozen_of_heap hO 5
   have o6 := Lib.cell_of_heap hO 6
   have f6 := Lib.frozen_of_heap hO 6
   have o7 := Lib.cell_of_heap hO 7
   have f7 := Lib.frozen_of_heap hO 7
   simp only [List.getElem?_toArray, List.getElem?_cons_zero, List.getElem?_cons_succ] at o0 o1 o2 o3 o4 o5 o6 o7
   clear hO
   go_simp
   obtain ⟨W7, hW7⟩ : ∃ W7, W7 = tw8 (w9.alloc (.cells #[.int .u8 kz, .slice b1z n1z d1z, .slice b2z n2z d2z, .int .i64 loz, .bool lsz, .int .i64 hiz, .bool hsz, .bool opz, .int .u8 ko, .slice bo1 no1 do1, .slice bo2 no2 do2, .int .i64 loo, .bool lso, .int .i64 hio, .bool hso, .bool opo] 28)) w6.heap.size (.int .u8 k) (.slice none 0 0) (.slice (some ⟨w9.heap.size, 0, none⟩) 2 2) (.int .i64 0) (.bool false) (.int .i64 0) (.bool false) (.bool false) := ⟨_, rfl⟩
   have h7 := HF.out W7 hW7
   have H7 := Lib.hid h7
   clear h7
   clear o0 o1 o2 o3 o4 o5 o6 o7 f0 f1 f2 f3 f4 f5 f6 f7
   have HS7 : Hid (W7.cell? ⟨w.heap.size, 0, none⟩ = some (.int .u8 k) ∧ W7.cell? ⟨wr.heap.size, 0, none⟩ = some (.int .u8 ky) ∧ W7.cell? ⟨wr.heap.size, 1, none⟩ = some (.slice b1y n1y d1y) ∧ W7.cell? ⟨wr.heap.size, 2, none⟩ = some (.slice b2y n2y d2y) ∧ W7.cell? ⟨wr.heap.size, 3, none⟩ = some (.int .i64 loy) ∧ W7.cell? ⟨wr.heap.size, 4, none⟩ = some (.bool lsy) ∧ W7.cell? ⟨wr.heap.size, 5, none⟩ = some (.int .i64 hiy) ∧ W7.cell? ⟨wr.heap.size, 6, none⟩ = some (.bool hsy) ∧ W7.cell? ⟨wr.heap.size, 7, none⟩ = some (.bool opy)) := HS.out W7 H7.out.1 H7.out.2.1
   have hF7 : (((((((((w9.alloc (.cells #[.int .u8 kz, .slice b1z n1z d1z, .slice b2z n2z d2z, .int .i64 loz, .bool lsz, .int .i64 hiz, .bool hsz, .bool opz, .int .u8 ko, .slice bo1 no1 do1, .slice bo2 no2 do2, .int .i64 loo, .bool lso, .int .i64 hio, .bool hso, .bool opo] 28)).setCell ⟨w6.heap.size, 0, none⟩ (.int .u8 k)).setCell ⟨w6.heap.size, 1, none⟩ (.slice none 0 0)).setCell ⟨w6.heap.size, 2, none⟩ (.slice (some ⟨w9.heap.size, 0, none⟩) 2 2)).setCell ⟨w6.heap.size, 3, none⟩ (.int .i64 0)).setCell ⟨w6.heap.size, 4, none⟩ (.bool false)).setCell ⟨w6.heap.size, 5, none⟩ (.int .i64 0)).setCell ⟨w6.heap.size, 6, none⟩ (.bool false)).setCell ⟨w6.heap.size, 7, none⟩ (.bool false)) = W7 := hW7.symm
   rw [hF7]
   clear hF7 hW7
   refine hK.out _ _ (HS7.out) (fun hHeld => ?_)
   clear hK K
   try simp only [Act.put, List.setIfInBounds_toArray, List.set_cons_zero, List.set_cons_succ]
   refine wpAnyH_done (by kernel_rfl) ?_ _
   exact ⟨rfl, H7.out.2.2⟩
end Go.Proofs.YtpgdplmndnopbaaGreatDoor
