/- Expressions of a right shape that a call owns, in memory: the blocks of their parts apart from each other. No program. -/
import Derived.Test.YtpgdplmndnopbaaGreatDoorMhA
import Derived.Test.YtpgdplmndnopbaaGreatDoorTwA
import Derived.Lib.SliceRun
import Derived.Test.YtpgdplmndnopbaaGreatDoorTreeS
import Derived.Test.YtpgdplmndnopbaaGreatDoorMgM
import Derived.Deep.RegionLaw
namespace Go.Proofs.YtpgdplmndnopbaaGreatDoor
open Go.RowKit
def pI (lo hi : Nat) : Nat → Bool := fun b => decide (lo ≤ b) && decide (b < hi)
theorem pI_iff {lo hi b : Nat} : pI lo hi b = true ↔ lo ≤ b ∧ b < hi := by simp [pI]
def pJ (lo hi base : Nat) : Nat → Bool := fun b => (decide (lo ≤ b) && decide (b < hi)) || decide (base ≤ b)
theorem pJ_iff {lo hi base b : Nat} : pJ lo hi base b = true ↔ (lo ≤ b ∧ b < hi) ∨ base ≤ b := by simp [pJ]
def kidsY : YX → List YX
 | .at _ => []
 | .bin _ a b => [a, b]
 | .pl a => [a]
 | .tm a _ => [a]
def isY : YX → List F
 | .at f => [f]
 | _ => []
def spnY : YX → Spn
 | .tm _ i => i
 | _ => noSpan
theorem xY_mk (y : YX) : xY y = .mk (Nm.kind y) (isY y) ((kidsY y).map xY) (spnY y) := by cases y <;> rfl
def RowF (p : Nat → Bool) (w : World) (a : Option Addr) (l : List F) : Prop :=
 ∃ (m : Nat) (l' : List (FT m)), l'.map (toF m) = l ∧ RowR (cutP p w) w.heap.size 3 (FRep (cutP p w) w.heap.size m) a l'
theorem RowF.go {p q : Nat → Bool} {w w' : World} {a : Option Addr} {l : List F} (h : RowF p w a l) (hg : Goes p q w w') : RowF q w' a l := by
 obtain ⟨m, l', e, hr⟩ := h
 exact ⟨m, l', e, RowR.le hg.has hg.1 (fun x _ v hv => FRep.le hg.has hg.1 hv) hr⟩
theorem RowF.to {p : Nat → Bool} {w : World} {a : Option Addr} {l : List F} {m : Nat} {l' : List (FT m)} (e : l'.map (toF m) = l) (h : RowR (cutP p w) w.heap.size 3 (FRep (cutP p w) w.heap.size m) a l') :
 ∀ k : Nat, ∃ l2 : List (FT (m + k)), l2.map (toF (m + k)) = l ∧ RowR (cutP p w) w.heap.size 3 (FRep (cutP p w) w.heap.size (m + k)) a l2
 | 0 => ⟨l', e, h⟩
 | k + 1 => by
  obtain ⟨l2, e2, h2⟩ := RowF.to e h k
  refine ⟨l2.map (liftF _), ?_, RowR.map (liftF _) (fun x _ v hv => rep_lift hv) h2⟩
  rw [← e2, List.map_map]
  exact List.map_congr_left fun x _ => toF_lift _ x
theorem mono_es {es : Nat → Nat} {n : Nat} (h : ∀ i, i < n → es i ≤ es (i + 1)) : ∀ i j, i ≤ j → j ≤ n → es i ≤ es j := by
 intro i j hij hj
 induction j with
 | zero =>
  have : i = 0 := by omega
  subst this; exact Nat.le_refl _
 | succ j ih =>
  by_cases e : i = j + 1
  ·subst e; exact Nat.le_refl _
  ·exact Nat.le_trans (ih (by omega) (by omega)) (h j (by omega))
inductive OY (w : World) : YX → Nat → Nat → Value → Prop
 | mk {y : YX} {lo mid hi c1 c : Nat} {a1 a : Option Addr} {es : Nat → Nat} {vs : Nat → List Value} (hf : RowF (pI lo mid) w a1 (isY y)) (hlm : lo ≤ mid) (hm : mid ≤ es 0) (hes : ∀ i, i < (kidsY y).length → es i ≤ es (i + 1)) (hend : es (kidsY y).length ≤ hi)
  (hrow : kidsY y = [] ∨ ∃ g, (a = some ⟨g, 0, none⟩ ∧ mid ≤ g ∧ g < es 0 ∧ ∃ cur, w.heap[g]? = some (.cells cur 28 (0, 0)) ∧ ∀ i, i < (kidsY y).length → ∀ j, j < 8 → cur[i * 8 + j]? = (vs i)[j]?))
  (hv : ∀ i, i < (kidsY y).length → (vs i).length = 8) (hk : ∀ i (h : i < (kidsY y).length), OY w (kidsY y)[i] (es i) (es (i + 1)) (.agg (vs i).toArray)) :
  OY w y lo hi (.agg #[.int .u8 (Nm.kind y), .slice a1 (isY y).length c1, .slice a (kidsY y).length c, .int .i64 (spnY y).low, .bool (spnY y).ls, .int .i64 (spnY y).high, .bool (spnY y).hs, .bool (spnY y).op])
theorem OY.go {w w' : World} (hsz : w.heap.size ≤ w'.heap.size) {y : YX} {lo hi : Nat} {v : Value} (h : OY w y lo hi v) (hs : ∀ b, lo ≤ b → b < hi → w'.heap[b]? = w.heap[b]?) : OY w' y lo hi v := by
 induction h with
 | @mk y lo mid hi c1 c a1 a es vs hf hlm hm hes hend hrow hv hk ih =>
  have hms := mono_es hes
  have h0 := hms 0 (kidsY y).length (Nat.zero_le _) (Nat.le_refl _)
  refine OY.mk (hf.go ⟨hsz, fun b _ hp => ?_⟩) hlm hm hes hend ?_ hv fun i hi => ih i hi fun b h1 h2 => ?_
  ·have hp' := pI_iff.1 hp
   exact ⟨hp, hs b (by omega) (by omega)⟩
  ·rcases hrow with h | ⟨g, ha, hg1, hg2, cur, hc, hcs⟩
   ·exact .inl h
   ·exact .inr ⟨g, ha, hg1, hg2, cur, (hs g (by omega) (by omega)).trans hc, hcs⟩
  ·have h3 := hms 0 i (Nat.zero_le _) (by omega)
   have h4 := hms (i + 1) (kidsY y).length (by omega) (Nat.le_refl _)
   exact hs b (by omega) (by omega)
theorem OY.le {w : World} {y : YX} {lo hi : Nat} {v : Value} (h : OY w y lo hi v) : lo ≤ hi := by
 cases h with
 | @mk y lo mid hi c1 c a1 a es vs hf hlm hm hes hend hrow hv hk =>
  have h0 := mono_es hes 0 (kidsY y).length (Nat.zero_le _) (Nat.le_refl _)
  omega
theorem OY.wide {w : World} {y : YX} {lo hi hi' : Nat} {v : Value} (h : OY w y lo hi v) (hh : hi ≤ hi') : OY w y lo hi' v := by
 cases h with
 | @mk y lo mid hi c1 c a1 a es vs hf hlm hm hes hend hrow hv hk => exact OY.mk hf hlm hm hes (by omega) hrow hv hk
theorem OY.shape {w : World} {y : YX} {lo hi : Nat} {v : Value} (h : OY w y lo hi v) :
 ∃ a1 c1 a c, v = .agg #[.int .u8 (Nm.kind y), .slice a1 (isY y).length c1, .slice a (kidsY y).length c, .int .i64 (spnY y).low, .bool (spnY y).ls, .int .i64 (spnY y).high, .bool (spnY y).hs, .bool (spnY y).op] := by
 cases h with
 | mk => exact ⟨_, _, _, _, rfl⟩
/-! Of a depth that is large enough for all. -/
def XUp (W : World) (B : Nat) (t : X) (v : Value) : Prop := ∃ m0 n0, ∀ m n, m0 ≤ m → n0 ≤ n → ∃ t' : XT m n, toX n t' = t ∧ XRep W B m n t' v
theorem XRepI.up {W : World} {B : Nat} {t : X} {v : Value} (h : XRepI W B t v) : XUp W B t v := by
 obtain ⟨m0, n0, t0, e0, h0⟩ := h
 refine ⟨m0, n0, fun m n hm hn => ?_⟩
 obtain ⟨j, rfl⟩ := Nat.exists_eq_add_of_le hm
 obtain ⟨k, rfl⟩ := Nat.exists_eq_add_of_le hn
 obtain ⟨t1, e1, h1⟩ := repM_to h0 j
 obtain ⟨t2, e2, h2⟩ := repX_to h1 k
 exact ⟨t2, by rw [e2, e1, e0], h2⟩
theorem xup_list {W : World} {B : Nat} : ∀ (l : List X) (vs : Nat → List Value), (∀ i (h : i < l.length), XUp W B l[i] (.agg (vs i).toArray)) →
 ∃ m0 n0, ∀ m n, m0 ≤ m → n0 ≤ n → ∃ l' : List (XT m n), l'.map (toX n) = l ∧ ∀ i (h : i < l'.length), XRep W B m n l'[i] (.agg (vs i).toArray)
 | [], _, _ => ⟨0, 0, fun m n _ _ => ⟨[], rfl, fun i h => absurd h (by simp)⟩⟩
 | t :: r, vs, h => by
  obtain ⟨m1, n1, H1⟩ := h 0 (by simp)
  obtain ⟨m2, n2, H2⟩ := xup_list r (fun i => vs (i + 1)) (fun i hi => by have := h (i + 1) (by simpa using hi); simpa using this)
  refine ⟨max m1 m2, max n1 n2, fun m n hm hn => ?_⟩
  obtain ⟨t', e1, g1⟩ := H1 m n (by omega) (by omega)
  obtain ⟨r', e2, g2⟩ := H2 m n (by omega) (by omega)
  refine ⟨t' :: r', by rw [List.map_cons, e1, e2]; rfl, fun i hi => ?_⟩
  cases i with
  | zero => exact g1
  | succ i => exact g2 i (by simpa using hi)
theorem XI.row {p : Nat → Bool} {w : World} {is : List F} {l : List X} {a1 a : Option Addr} {vs : Nat → List Value} (hf : RowF p w a1 is) (k lo hi : Int) (ls hs op : Bool) (c1 c : Nat) (hl : l.length ≤ 9223372036854775807)
 (hrow : l = [] ∨ ∃ g cur t fr, a = some ⟨g, 0, none⟩ ∧ p g = true ∧ w.heap[g]? = some (.cells cur t fr) ∧ ∀ i, i < l.length → ∀ j, j < 8 → cur[i * 8 + j]? = (vs i)[j]?)
 (hv : ∀ i, i < l.length → (vs i).length = 8) (hk : ∀ i (h : i < l.length), XI p w l[i] (.agg (vs i).toArray)) :
 XI p w (.mk k is l ⟨lo, ls, hi, hs, op⟩) (.agg #[.int .u8 k, .slice a1 is.length c1, .slice a l.length c, .int .i64 lo, .bool ls, .int .i64 hi, .bool hs, .bool op]) := by
 obtain ⟨m1, is1, e1, h1⟩ := hf
 obtain ⟨m2, n2, H⟩ := xup_list l vs fun i h => XRepI.up (hk i h)
 obtain ⟨is2, e2, h2⟩ := RowF.to e1 h1 m2
 obtain ⟨l', e3, h3⟩ := H (m1 + m2) n2 (by omega) (Nat.le_refl _)
 have hl' : l'.length = l.length := by rw [← e3, List.length_map]
 have hi' : is2.length = is.length := by rw [← e2, List.length_map]
 refine ⟨m1 + m2, n2 + 1, (k, is2, l', ⟨lo, ls, hi, hs, op⟩), by show X.mk k (is2.map (toF (m1 + m2))) (l'.map (toX n2)) _ = _; rw [e2, e3], a1, c1, a, c, by simp only [hl', hi'], h2, ⟨by dsimp only; omega, ?_⟩⟩
 rcases hrow with rfl | ⟨g, cur, t, fr, rfl, hp, hg, hc⟩
 ·exact .inl (List.length_eq_zero_iff.1 hl')
 ·refine .inr ⟨g, 0, rfl, (Array.getElem?_eq_some_iff.1 hg).1, fun i hi => ?_⟩
  have hil : i < l.length := by rw [← hl']; exact hi
  refine ⟨vs i, hv i hil, fun j hj => ?_, h3 i hi⟩
  have hvi := hv i hil
  have := hc i hil j hj
  rw [List.getElem?_eq_getElem (by omega)] at this ⊢
  refine cell_cutP hp ?_
  rw [Lib.cell_of_heap hg, Nat.zero_add]
  exact this
theorem OY.xi {w : World} {y : YX} {lo hi : Nat} {v : Value} (h : OY w y lo hi v) : XI (pI lo hi) w (xY y) v := by
 induction h with
 | @mk y lo mid hi c1 c a1 a es vs hf hlm hm hes hend hrow hv hk ih =>
  have hms := mono_es hes
  have h0 := hms 0 (kidsY y).length (Nat.zero_le _) (Nat.le_refl _)
  have hlen : ((kidsY y).map xY).length = (kidsY y).length := List.length_map _
  rw [xY_mk, ← hlen]
  refine XI.row (vs := vs) (hf.go ⟨Nat.le_refl _, fun b _ hp => ⟨?_, rfl⟩⟩) _ _ _ _ _ _ _ _ (by cases y <;> simp [kidsY]) ?_ (fun i hi => hv i (by omega)) fun i hi => ?_
  ·have := pI_iff.1 hp
   exact pI_iff.2 ⟨by omega, by omega⟩
  ·rcases hrow with h | ⟨g, ha, hg1, hg2, cur, hc, hcs⟩
   ·exact .inl (by rw [h]; rfl)
   ·exact .inr ⟨g, cur, 28, (0, 0), ha, pI_iff.2 ⟨by omega, by omega⟩, hc, fun i hi => hcs i (by omega)⟩
  ·have hi' : i < (kidsY y).length := by omega
   rw [List.getElem_map]
   refine (ih i hi').go ⟨Nat.le_refl _, fun b _ hp => ⟨?_, rfl⟩⟩
   have h3 := hms 0 i (Nat.zero_le _) (by omega)
   have h4 := hms (i + 1) (kidsY y).length (by omega) (Nat.le_refl _)
   have := pI_iff.1 hp
   exact pI_iff.2 ⟨by omega, by omega⟩
/-! Things one behind the other. -/
inductive Ch (R : YX → Nat → Nat → Value → Prop) : List YX → List (List Value) → Nat → Nat → Prop
 | nil {lo hi : Nat} (h : lo ≤ hi) : Ch R [] [] lo hi
 | cons {y : YX} {r : List YX} {v : List Value} {vs : List (List Value)} {lo lo' mid hi : Nat} (h1 : lo ≤ lo') (h2 : lo' ≤ mid) (h3 : v.length = 8) (h4 : R y lo' mid (.agg v.toArray)) (h5 : Ch R r vs mid hi) : Ch R (y :: r) (v :: vs) lo hi
theorem Ch.le {R : YX → Nat → Nat → Value → Prop} {l : List YX} {vs : List (List Value)} {lo hi : Nat} (h : Ch R l vs lo hi) : lo ≤ hi := by
 induction h with
 | nil h => exact h
 | cons h1 h2 _ _ _ ih => omega
theorem Ch.wide {R : YX → Nat → Nat → Value → Prop} {l : List YX} {vs : List (List Value)} {lo lo' hi : Nat} (h : Ch R l vs lo hi) (hl : lo' ≤ lo) : Ch R l vs lo' hi := by
 cases h with
 | nil h => exact .nil (by omega)
 | cons h1 h2 h3 h4 h5 => exact .cons (by omega) h2 h3 h4 h5
theorem Ch.append {R : YX → Nat → Nat → Value → Prop} {l l' : List YX} {vs vs' : List (List Value)} {lo mid mid' hi : Nat} (h : Ch R l vs lo mid) (hm : mid ≤ mid') (h' : Ch R l' vs' mid' hi) : Ch R (l ++ l') (vs ++ vs') lo hi := by
 induction h with
 | nil h => exact h'.wide (by omega)
 | cons h1 h2 h3 h4 _ ih => exact .cons h1 h2 h3 h4 (ih hm)
theorem Ch.split {R : YX → Nat → Nat → Value → Prop} {l' : List YX} : ∀ {l : List YX} {vs : List (List Value)} {lo hi : Nat}, Ch R (l ++ l') vs lo hi → ∃ vs1 vs2 mid, vs = vs1 ++ vs2 ∧ Ch R l vs1 lo mid ∧ Ch R l' vs2 mid hi
 | [], vs, lo, hi, h => ⟨[], vs, lo, rfl, .nil (Nat.le_refl _), h⟩
 | y :: l, vs, lo, hi, h => by
  cases h with
  | cons h1 h2 h3 h4 h5 =>
   obtain ⟨vs1, vs2, mid, rfl, g1, g2⟩ := Ch.split h5
   exact ⟨_ :: vs1, vs2, mid, rfl, .cons h1 h2 h3 h4 g1, g2⟩
theorem Ch.len {R : YX → Nat → Nat → Value → Prop} {l : List YX} {vs : List (List Value)} {lo hi : Nat} (h : Ch R l vs lo hi) : vs.length = l.length ∧ ∀ v ∈ vs, v.length = 8 := by
 induction h with
 | nil => exact ⟨rfl, by simp⟩
 | cons h1 h2 h3 h4 h5 ih =>
  refine ⟨by simp [ih.1], fun v hv => ?_⟩
  rcases List.mem_cons.1 hv with rfl | hv
  ·exact h3
  ·exact ih.2 v hv
theorem Ch.go {w w' : World} (hsz : w.heap.size ≤ w'.heap.size) {l : List YX} {vs : List (List Value)} {lo hi : Nat} (h : Ch (OY w) l vs lo hi) (hs : ∀ b, lo ≤ b → b < hi → w'.heap[b]? = w.heap[b]?) : Ch (OY w') l vs lo hi := by
 induction h with
 | nil h => exact .nil h
 | cons h1 h2 h3 h4 h5 ih =>
  have := h5.le
  exact .cons h1 h2 h3 (h4.go hsz fun b _ _ => hs b (by omega) (by omega)) (ih fun b _ _ => hs b (by omega) (by omega))
def Kp (lo hi : Nat) (w w' : World) : Prop := w'.os = w.os ∧ w'.tape = w.tape ∧ w'.output = w.output ∧ w.heap.size ≤ w'.heap.size ∧ ∀ k, k < w.heap.size → ¬ (lo ≤ k ∧ k < hi) → w'.heap[k]? = w.heap[k]?
theorem Kp.trans {lo hi : Nat} {w w' w'' : World} (h : Kp lo hi w w') (k : Kp lo hi w' w'') : Kp lo hi w w'' :=
 ⟨k.1.trans h.1, k.2.1.trans h.2.1, k.2.2.1.trans h.2.2.1, Nat.le_trans h.2.2.2.1 k.2.2.2.1, fun i hi hp => (k.2.2.2.2 i (Nat.lt_of_lt_of_le hi h.2.2.2.1) hp).trans (h.2.2.2.2 i hi hp)⟩
theorem Kp.of_below {lo hi : Nat} {w w' : World} (h : Below w.heap.size w w') : Kp lo hi w w' := ⟨h.os, h.tape, h.output, h.size, fun k hk _ => h.block k hk⟩
theorem Kp.mono {lo hi lo' hi' : Nat} {w w' : World} (h : Kp lo hi w w') (h1 : lo' ≤ lo) (h2 : hi ≤ hi') : Kp lo' hi' w w' :=
 ⟨h.1, h.2.1, h.2.2.1, h.2.2.2.1, fun k hk hp => h.2.2.2.2 k hk (by omega)⟩
theorem Kp.alloc {lo hi : Nat} {w w' : World} (h : Kp lo hi w w') (o : Obj) : Kp lo hi w (w'.alloc o) := h.trans (.of_below ((Below.refl _ _).alloc (Nat.le_refl _) _))
theorem Kp.setCell {lo hi : Nat} {w w' : World} (h : Kp lo hi w w') {g : Nat} (hg : (lo ≤ g ∧ g < hi) ∨ w.heap.size ≤ g) (i : Nat) (v : Value) : Kp lo hi w (w'.setCell ⟨g, i, none⟩ v) :=
 ⟨h.1, h.2.1, h.2.2.1, by simpa [World.setCell] using h.2.2.2.1, fun k hk hp => (twOther _ _ _ _ _ (by rintro rfl; rcases hg with hg | hg; exact hp hg; omega)).trans (h.2.2.2.2 k hk hp)⟩
theorem Kp.below {lo hi base : Nat} {w w' : World} (h : Kp lo hi w w') (hb : base ≤ w.heap.size) (hlo : base ≤ lo) : Below base w w' :=
 ⟨h.1, h.2.1, h.2.2.1, h.2.2.2.1, fun k hk => h.2.2.2.2 k (by omega) (by omega)⟩
end Go.Proofs.YtpgdplmndnopbaaGreatDoor

/- slices.Clone walked: a row copied. (Printed by gen_nmb.py.) -/
namespace Go.Proofs.YtpgdplmndnopbaaGreatDoor
open Go.RowKit
theorem nm_info61 : (Tryz.prog.info? 61).map (fun i => (i.zero, i.size, i.bytes)) = some (some (.agg #[.int .u8 0, .string ⟨#[]⟩, .slice none 0 0]), 3, 48) := by kernel_rfl
theorem nm_info28 : (Tryz.prog.info? 28).map (fun i => (i.zero, i.size, i.bytes)) = some (some (.agg #[.int .u8 0, .slice none 0 0, .slice none 0 0, .int .i64 0, .bool false, .int .i64 0, .bool false, .bool false]), 8, 88) := by kernel_rfl
theorem RowR.vals {w : World} {B C : Nat} {α : Type} {R : α → Value → Prop} {a : Option Addr} {l : List α} (h : RowR w B C R a l) : ∃ vs : Nat → List Value, ∀ i (hi : i < l.length), (vs i).length = C ∧ R l[i] (.agg (vs i).toArray) ∧
 ∃ b off, a = some ⟨b, off, none⟩ ∧ b < B ∧ ∀ j, j < C → w.cell? ⟨b, off + i * C + j, none⟩ = (vs i)[j]? := by
 rcases h.2 with h | ⟨b, off, ha, hb, hc⟩
 ·subst h; exact ⟨fun _ => [], fun i hi => absurd hi (by simp)⟩
 ·refine ⟨fun i => if h : i < l.length then Classical.choose (hc i h) else [], fun i hi => ?_⟩
  have := Classical.choose_spec (hc i hi)
  dsimp only
  rw [dif_pos hi]
  exact ⟨this.1, this.2.2, b, off, ha, hb, this.2.1⟩
def flatV (vs : Nat → List Value) (n : Nat) : List Value := ((List.range n).map vs).flatten
theorem flatV_at {vs : Nat → List Value} {n C : Nat} (hv : ∀ i, i < n → (vs i).length = C) (i j : Nat) (hi : i < n) (hj : j < C) : (flatV vs n)[i * C + j]? = (vs i)[j]? := by
 unfold flatV
 rw [flatten_at ((List.range n).map vs) (fun c hc => by
  obtain ⟨x, hx, rfl⟩ := List.mem_map.1 hc
  exact hv x (List.mem_range.1 hx)) i j (by simpa using hi) hj]
 simp
theorem flatV_len {vs : Nat → List Value} {C : Nat} : ∀ {n : Nat} (_ : ∀ i, i < n → (vs i).length = C), (flatV vs n).length = n * C
 | 0, _ => by simp [flatV]
 | n + 1, hv => by
  have := flatV_len (n := n) fun i hi => hv i (by omega)
  have h2 := hv n (by omega)
  unfold flatV at this ⊢
  rw [List.range_succ, List.map_append, List.flatten_append, List.length_append, this, Nat.succ_mul]
  simp [h2]
theorem flatV_split {n C : Nat} (hC : 0 < C) (k : Nat) (hk : k < n * C) : k / C < n ∧ k % C < C ∧ k / C * C + k % C = k := by
 refine ⟨(Nat.div_lt_iff_lt_mul hC).2 hk, Nat.mod_lt _ hC, ?_⟩
 have := Nat.div_add_mod k C
 rw [Nat.mul_comm] at this
 exact this
set_option maxRecDepth 100000 in
theorem run_clone160 (w : World) (g : Nat) (vs : Nat → List Value) (n b off c : Nat) (hn : 0 < n) (hn2 : n ≤ 100) (hv : ∀ i, i < n → (vs i).length = 3) (h1 : ∀ i, i < n → ∀ u ∈ vs i, u.oneCell' = true)
 (hc : ∀ i, i < n → ∀ j, j < 3 → w.cell? ⟨b, off + i * 3 + j, none⟩ = (vs i)[j]?) :
 ∃ v' w', (Builtin.append_ #[23, 23] 23 #[.slice (some ⟨g, 0, none⟩) 0 0, .slice (some ⟨b, off, none⟩) n c]).run Tryz.prog w = .ok v' w' ∧
  (∃ cap cur, v' = .slice (some ⟨w.heap.size, 0, none⟩) n cap ∧ w'.heap[w.heap.size]? = some (.cells cur 61 (0, 0)) ∧ (∀ i, i < n → ∀ j, j < 3 → cur[i * 3 + j]? = (vs i)[j]?)) ∧ Below w.heap.size w w' ∧ w'.heap.size = w.heap.size + 1 := by
 obtain ⟨i0, hi, hz0, hz1, hz2⟩ := info_parts nm_info61
 have hlen := flatV_len (n := n) hv
 have hs : Src Tryz.prog i0.size 23 (.slice (some ⟨b, off, none⟩) n c) n (flatV vs n) w := by
  refine Src.ofSlice w Tryz.underlying23 _ _ _ _ (by rw [hz1, hlen]) ?_ ?_
  ·intro k u hk
   have hkl : k < n * 3 := by rw [← hlen]; exact (List.getElem?_eq_some_iff.1 hk).1
   obtain ⟨e1, e2, e3⟩ := flatV_split (by decide) k hkl
   have h2 := flatV_at hv (k / 3) (k % 3) e1 e2
   rw [e3] at h2
   rw [Addr.add_lit, ← e3, ← Nat.add_assoc, hc _ e1 _ e2, ← h2]
   exact hk
  ·intro u hu
   obtain ⟨l, hl, hul⟩ := List.mem_flatten.1 hu
   obtain ⟨i, hi, rfl⟩ := List.mem_map.1 hl
   exact h1 i (List.mem_range.1 hi) u hul
 have hold : (Builtin.firstCells i0.size 0 (.slice (some ⟨g, 0, none⟩) 0 0)).run Tryz.prog w.drew = .ok ([] : List Value).toArray w.drew :=
  run_firstCells_some _ _ _ _ _ _ _ (by simp) (fun j u hj => by simp at hj)
 have hr := run_append_grow_src (P := Tryz.prog) w 23 23 23 61 i0 _ Tryz.underlying23 hi hz0 (some ⟨g, 0, none⟩) 0 0 [] hold _ n _ hs (by omega) (by omega)
  (growslice_fits (by omega) (by rw [hz2]; omega))
 rw [Nat.zero_add] at hr
 refine ⟨_, _, hr, ⟨_, _, rfl, heap_alloc_new w.drew _, fun i hi j hj => ?_⟩, (Below.refl _ w).drew.alloc (Nat.le_refl _) _, by simp⟩
 have hkl : i * 3 + j < n * 3 := by
  have : i * 3 + 3 ≤ n * 3 := by rw [← Nat.succ_mul]; exact Nat.mul_le_mul_right _ hi
  omega
 rw [List.nil_append, Array.getElem?_append_left (by simpa [hlen] using hkl), List.getElem?_toArray]
 exact flatV_at hv i j hi hj
set_option maxRecDepth 100000 in
set_option maxHeartbeats 2000000 in
theorem clone160_any (a : Option Addr) (n c : Nat) (vs : Nat → List Value) (w : World) (hn2 : n ≤ 100) (hv : ∀ i, i < n → (vs i).length = 3) (h1 : ∀ i, i < n → ∀ u ∈ vs i, u.oneCell' = true)
 (hc : n = 0 ∨ ∃ b off, a = some ⟨b, off, none⟩ ∧ b < w.heap.size ∧ ∀ i, i < n → ∀ j, j < 3 → w.cell? ⟨b, off + i * 3 + j, none⟩ = (vs i)[j]?) :
 Calls Tryz.prog 160 #[.slice a n c] w fun e w' => (∃ a' c', e = .returned (.slice a' n c') ∧ (n = 0 ∨ ∃ g cur, a' = some ⟨g, 0, none⟩ ∧ w.heap.size ≤ g ∧ w'.heap[g]? = some (.cells cur 61 (0, 0)) ∧ ∀ i, i < n → ∀ j, j < 3 → cur[i * 3 + j]? = (vs i)[j]?)) ∧ Below w.heap.size w w' := by
 have hq := fun W => Go.Lib.run_eql_slice_nil (P := Tryz.prog) W 23 61 a n c 0 0 Tryz.underlying23
 cases a with
 | none =>
  have h0 : n = 0 := by
   rcases hc with h | ⟨b, off, h, _⟩
   ·exact h
   ·cases h
  subst h0
  simp only [Option.isNone_none] at hq
  clear hc hv h1 hn2
  go_enter Tryz.func160, Tryz.ntmps160
  go_wp2_with fail
  all_goals go_ret
  all_goals exact ⟨⟨_, _, rfl, .inl (by first | rfl | trivial)⟩, Below.refl _ _⟩
 | some ad =>
  simp only [Option.isNone_some] at hq
  obtain ⟨W1, hW1⟩ : ∃ W1, W1 = w.alloc (.cells #[] 61) := ⟨_, rfl⟩
  have hb1 : Below w.heap.size w W1 := by rw [hW1]; exact (Below.refl _ _).alloc (Nat.le_refl _) _
  have hz : W1.heap.size = w.heap.size + 1 := by rw [hW1]; simp
  have HR : Hid (∃ v' w', (Builtin.append_ #[23, 23] 23 #[.slice (some ⟨w.heap.size, 0, none⟩) 0 0, .slice (some ad) n c]).run Tryz.prog W1 = .ok v' w' ∧
   (∃ a' c', v' = .slice a' n c' ∧ (n = 0 ∨ ∃ g cur, a' = some ⟨g, 0, none⟩ ∧ w.heap.size ≤ g ∧ w'.heap[g]? = some (.cells cur 61 (0, 0)) ∧ ∀ i, i < n → ∀ j, j < 3 → cur[i * 3 + j]? = (vs i)[j]?)) ∧ Below w.heap.size w w') := by
   rcases hc with h | ⟨b, off, h, hbl, hcs⟩
   ·subst h
    obtain ⟨i0, hi, hz0, hz1, hz2⟩ := info_parts nm_info61
    have hs : Src Tryz.prog i0.size 23 (.slice (some ad) 0 c) 0 [] W1 := Src.ofSlice W1 Tryz.underlying23 ad 0 c [] (by simp) (by simp) (by simp)
    have hr := run_append_room_src (P := Tryz.prog) W1 23 23 23 61 i0 Tryz.underlying23 hi w.heap.size 0 0 0 _ 0 [] hs (by omega) (by simp) (by simp)
    exact ⟨_, _, hr, ⟨_, _, rfl, .inl rfl⟩, hb1⟩
   ·obtain ⟨rfl⟩ : ad = ⟨b, off, none⟩ := by injection h
    by_cases hn0 : n = 0
    ·subst hn0
     obtain ⟨i0, hi, hz0, hz1, hz2⟩ := info_parts nm_info61
     have hs : Src Tryz.prog i0.size 23 (.slice (some ⟨b, off, none⟩) 0 c) 0 [] W1 := Src.ofSlice W1 Tryz.underlying23 _ 0 c [] (by simp) (by simp) (by simp)
     have hr := run_append_room_src (P := Tryz.prog) W1 23 23 23 61 i0 Tryz.underlying23 hi w.heap.size 0 0 0 _ 0 [] hs (by omega) (by simp) (by simp)
     exact ⟨_, _, hr, ⟨_, _, rfl, .inl rfl⟩, hb1⟩
    ·obtain ⟨v', w', hr, ⟨cap, cur, hv', hcur, hcc⟩, hb2, hz2⟩ := run_clone160 W1 w.heap.size vs n b off c (by omega) hn2 hv h1 (fun i hi j hj => (hb1.cell (p := ⟨b, _, none⟩) hbl).trans (hcs i hi j hj))
     exact ⟨v', w', hr, ⟨_, cap, hv', .inr ⟨W1.heap.size, cur, rfl, by omega, hcur, hcc⟩⟩, hb1.trans (hb2.mono hb1.size)⟩
  have HW1 := Lib.hid hW1.symm
  clear hc hv h1 hn2 hb1 hz hW1
  go_enter Tryz.func160, Tryz.ntmps160
  go_wp2_with (at_builtin; rw [HW1.out]; refine wpList_append_ex rfl _ _ 23 rfl _ _ rfl rfl _ HR.out ?_; intro v' w' hvw; obtain ⟨⟨a', c', rfl, hres⟩, hb⟩ := hvw; have HB := Lib.hid hb; have HRES := Lib.hid hres; clear hb hres)
  all_goals go_ret
  all_goals exact ⟨⟨_, _, rfl, HRES.out⟩, HB.out⟩
set_option maxRecDepth 100000 in
theorem run_clone161 (w : World) (g : Nat) (vs : Nat → List Value) (n b off c : Nat) (hn : 0 < n) (hn2 : n ≤ 100) (hv : ∀ i, i < n → (vs i).length = 8) (h1 : ∀ i, i < n → ∀ u ∈ vs i, u.oneCell' = true)
 (hc : ∀ i, i < n → ∀ j, j < 8 → w.cell? ⟨b, off + i * 8 + j, none⟩ = (vs i)[j]?) :
 ∃ v' w', (Builtin.append_ #[24, 24] 24 #[.slice (some ⟨g, 0, none⟩) 0 0, .slice (some ⟨b, off, none⟩) n c]).run Tryz.prog w = .ok v' w' ∧
  (∃ cap cur, v' = .slice (some ⟨w.heap.size, 0, none⟩) n cap ∧ w'.heap[w.heap.size]? = some (.cells cur 28 (0, 0)) ∧ (∀ i, i < n → ∀ j, j < 8 → cur[i * 8 + j]? = (vs i)[j]?)) ∧ Below w.heap.size w w' ∧ w'.heap.size = w.heap.size + 1 := by
 obtain ⟨i0, hi, hz0, hz1, hz2⟩ := info_parts nm_info28
 have hlen := flatV_len (n := n) hv
 have hs : Src Tryz.prog i0.size 24 (.slice (some ⟨b, off, none⟩) n c) n (flatV vs n) w := by
  refine Src.ofSlice w Tryz.underlying24 _ _ _ _ (by rw [hz1, hlen]) ?_ ?_
  ·intro k u hk
   have hkl : k < n * 8 := by rw [← hlen]; exact (List.getElem?_eq_some_iff.1 hk).1
   obtain ⟨e1, e2, e3⟩ := flatV_split (by decide) k hkl
   have h2 := flatV_at hv (k / 8) (k % 8) e1 e2
   rw [e3] at h2
   rw [Addr.add_lit, ← e3, ← Nat.add_assoc, hc _ e1 _ e2, ← h2]
   exact hk
  ·intro u hu
   obtain ⟨l, hl, hul⟩ := List.mem_flatten.1 hu
   obtain ⟨i, hi, rfl⟩ := List.mem_map.1 hl
   exact h1 i (List.mem_range.1 hi) u hul
 have hold : (Builtin.firstCells i0.size 0 (.slice (some ⟨g, 0, none⟩) 0 0)).run Tryz.prog w.drew = .ok ([] : List Value).toArray w.drew :=
  run_firstCells_some _ _ _ _ _ _ _ (by simp) (fun j u hj => by simp at hj)
 have hr := run_append_grow_src (P := Tryz.prog) w 24 24 24 28 i0 _ Tryz.underlying24 hi hz0 (some ⟨g, 0, none⟩) 0 0 [] hold _ n _ hs (by omega) (by omega)
  (growslice_fits (by omega) (by rw [hz2]; omega))
 rw [Nat.zero_add] at hr
 refine ⟨_, _, hr, ⟨_, _, rfl, heap_alloc_new w.drew _, fun i hi j hj => ?_⟩, (Below.refl _ w).drew.alloc (Nat.le_refl _) _, by simp⟩
 have hkl : i * 8 + j < n * 8 := by
  have : i * 8 + 8 ≤ n * 8 := by rw [← Nat.succ_mul]; exact Nat.mul_le_mul_right _ hi
  omega
 rw [List.nil_append, Array.getElem?_append_left (by simpa [hlen] using hkl), List.getElem?_toArray]
 exact flatV_at hv i j hi hj
set_option maxRecDepth 100000 in
set_option maxHeartbeats 2000000 in
theorem clone161_any (a : Option Addr) (n c : Nat) (vs : Nat → List Value) (w : World) (hn2 : n ≤ 100) (hv : ∀ i, i < n → (vs i).length = 8) (h1 : ∀ i, i < n → ∀ u ∈ vs i, u.oneCell' = true)
 (hc : n = 0 ∨ ∃ b off, a = some ⟨b, off, none⟩ ∧ b < w.heap.size ∧ ∀ i, i < n → ∀ j, j < 8 → w.cell? ⟨b, off + i * 8 + j, none⟩ = (vs i)[j]?) :
 Calls Tryz.prog 161 #[.slice a n c] w fun e w' => (∃ a' c', e = .returned (.slice a' n c') ∧ (n = 0 ∨ ∃ g cur, a' = some ⟨g, 0, none⟩ ∧ w.heap.size ≤ g ∧ w'.heap[g]? = some (.cells cur 28 (0, 0)) ∧ ∀ i, i < n → ∀ j, j < 8 → cur[i * 8 + j]? = (vs i)[j]?)) ∧ Below w.heap.size w w' := by
 have hq := fun W => Go.Lib.run_eql_slice_nil (P := Tryz.prog) W 24 28 a n c 0 0 Tryz.underlying24
 cases a with
 | none =>
  have h0 : n = 0 := by
   rcases hc with h | ⟨b, off, h, _⟩
   ·exact h
   ·cases h
  subst h0
  simp only [Option.isNone_none] at hq
  clear hc hv h1 hn2
  go_enter Tryz.func161, Tryz.ntmps161
  go_wp2_with fail
  all_goals go_ret
  all_goals exact ⟨⟨_, _, rfl, .inl (by first | rfl | trivial)⟩, Below.refl _ _⟩
 | some ad =>
  simp only [Option.isNone_some] at hq
  obtain ⟨W1, hW1⟩ : ∃ W1, W1 = w.alloc (.cells #[] 28) := ⟨_, rfl⟩
  have hb1 : Below w.heap.size w W1 := by rw [hW1]; exact (Below.refl _ _).alloc (Nat.le_refl _) _
  have hz : W1.heap.size = w.heap.size + 1 := by rw [hW1]; simp
  have HR : Hid (∃ v' w', (Builtin.append_ #[24, 24] 24 #[.slice (some ⟨w.heap.size, 0, none⟩) 0 0, .slice (some ad) n c]).run Tryz.prog W1 = .ok v' w' ∧
   (∃ a' c', v' = .slice a' n c' ∧ (n = 0 ∨ ∃ g cur, a' = some ⟨g, 0, none⟩ ∧ w.heap.size ≤ g ∧ w'.heap[g]? = some (.cells cur 28 (0, 0)) ∧ ∀ i, i < n → ∀ j, j < 8 → cur[i * 8 + j]? = (vs i)[j]?)) ∧ Below w.heap.size w w') := by
   rcases hc with h | ⟨b, off, h, hbl, hcs⟩
   ·subst h
    obtain ⟨i0, hi, hz0, hz1, hz2⟩ := info_parts nm_info28
    have hs : Src Tryz.prog i0.size 24 (.slice (some ad) 0 c) 0 [] W1 := Src.ofSlice W1 Tryz.underlying24 ad 0 c [] (by simp) (by simp) (by simp)
    have hr := run_append_room_src (P := Tryz.prog) W1 24 24 24 28 i0 Tryz.underlying24 hi w.heap.size 0 0 0 _ 0 [] hs (by omega) (by simp) (by simp)
    exact ⟨_, _, hr, ⟨_, _, rfl, .inl rfl⟩, hb1⟩
   ·obtain ⟨rfl⟩ : ad = ⟨b, off, none⟩ := by injection h
    by_cases hn0 : n = 0
    ·subst hn0
     obtain ⟨i0, hi, hz0, hz1, hz2⟩ := info_parts nm_info28
     have hs : Src Tryz.prog i0.size 24 (.slice (some ⟨b, off, none⟩) 0 c) 0 [] W1 := Src.ofSlice W1 Tryz.underlying24 _ 0 c [] (by simp) (by simp) (by simp)
     have hr := run_append_room_src (P := Tryz.prog) W1 24 24 24 28 i0 Tryz.underlying24 hi w.heap.size 0 0 0 _ 0 [] hs (by omega) (by simp) (by simp)
     exact ⟨_, _, hr, ⟨_, _, rfl, .inl rfl⟩, hb1⟩
    ·obtain ⟨v', w', hr, ⟨cap, cur, hv', hcur, hcc⟩, hb2, hz2⟩ := run_clone161 W1 w.heap.size vs n b off c (by omega) hn2 hv h1 (fun i hi j hj => (hb1.cell (p := ⟨b, _, none⟩) hbl).trans (hcs i hi j hj))
     exact ⟨v', w', hr, ⟨_, cap, hv', .inr ⟨W1.heap.size, cur, rfl, by omega, hcur, hcc⟩⟩, hb1.trans (hb2.mono hb1.size)⟩
  have HW1 := Lib.hid hW1.symm
  clear hc hv h1 hn2 hb1 hz hW1
  go_enter Tryz.func161, Tryz.ntmps161
  go_wp2_with (at_builtin; rw [HW1.out]; refine wpList_append_ex rfl _ _ 24 rfl _ _ rfl rfl _ HR.out ?_; intro v' w' hvw; obtain ⟨⟨a', c', rfl, hres⟩, hb⟩ := hvw; have HB := Lib.hid hb; have HRES := Lib.hid hres; clear hb hres)
  all_goals go_ret
  all_goals exact ⟨⟨_, _, rfl, HRES.out⟩, HB.out⟩
end Go.Proofs.YtpgdplmndnopbaaGreatDoor

/- tree.each walked: a row copied, thing by thing. (Printed by gen_nmc.py.) -/
namespace Go.Proofs.YtpgdplmndnopbaaGreatDoor
open Go.RowKit
def putA : Array Value → Nat → List Value → Array Value
 | cur, _, [] => cur
 | cur, o, v :: r => putA (cur.setIfInBounds o v) (o + 1) r
theorem putA_size : ∀ (vs : List Value) (cur : Array Value) (o : Nat), (putA cur o vs).size = cur.size
 | [], _, _ => rfl
 | v :: r, cur, o => by rw [putA, putA_size r]; simp
theorem putA_out : ∀ (vs : List Value) (cur : Array Value) (o k : Nat), k < o ∨ o + vs.length ≤ k → (putA cur o vs)[k]? = cur[k]?
 | [], _, _, _, _ => rfl
 | v :: r, cur, o, k, h => by
  rw [putA, putA_out r _ _ _ (by simp at h; omega), Array.getElem?_setIfInBounds_ne (by simp at h; omega)]
theorem putA_in : ∀ (vs : List Value) (cur : Array Value) (o j : Nat), o + vs.length ≤ cur.size → j < vs.length → (putA cur o vs)[o + j]? = vs[j]?
 | [], _, _, _, _, h => absurd h (by simp)
 | v :: r, cur, o, j, h, hj => by
  rw [putA]
  cases j with
  | zero =>
   rw [putA_out r _ _ _ (by omega)]
   simp at h
   rw [Nat.add_zero, Array.getElem?_setIfInBounds_self_of_lt (by omega)]
   rfl
  | succ j =>
   have := putA_in r (cur.setIfInBounds o v) (o + 1) j (by simp at h ⊢; omega) (by simpa using hj)
   rw [show o + (j + 1) = o + 1 + j by omega, this]
   rfl
theorem setCells_at {t : TypeId} {fz : Nat × Nat} : ∀ (vs : List Value) {w : World} {g : Nat} {cur : Array Value} (o : Nat), w.heap[g]? = some (.cells cur t fz) → (w.setCells g o vs).heap[g]? = some (.cells (putA cur o vs) t fz)
 | [], _, _, _, _, h => h
 | v :: r, _, _, _, o, h => setCells_at r (o + 1) (twAt h o v)
theorem setCells_other : ∀ (vs : List Value) (w : World) (g o j : Nat), j ≠ g → (w.setCells g o vs).heap[j]? = w.heap[j]?
 | [], _, _, _, _, _ => rfl
 | v :: r, w, g, o, j, h => (setCells_other r _ g (o + 1) j h).trans (twOther w g o v j h)
theorem setCells_size : ∀ (vs : List Value) (w : World) (g o : Nat), (w.setCells g o vs).heap.size = w.heap.size
 | [], _, _, _ => rfl
 | v :: r, w, g, o => (setCells_size r _ g (o + 1)).trans (by simp [World.setCell])
theorem below_setCells' {B : Nat} {w w' : World} (h : Below B w w') {g : Nat} (hg : B ≤ g) : ∀ (vs : List Value) (o : Nat), Below B w (w'.setCells g o vs)
 | [], _ => h
 | v :: r, o => below_setCells' (h.setCell (p := ⟨g, o, none⟩) hg v) hg r (o + 1)
def StI {α : Type} (R : World → Nat → Nat → α → Value → Prop) : Prop :=
 ∀ (w w' : World) (x : α) (lo hi lo' hi' : Nat) (v : Value), R w lo hi x v → lo' ≤ lo → hi ≤ hi' → w.heap.size ≤ w'.heap.size → (∀ b, lo ≤ b → b < hi → w'.heap[b]? = w.heap[b]?) → R w' lo' hi' x v
structure EachI {α : Type} (R : World → Nat → Nat → α → Value → Prop) (C E : Nat) (B : Nat) (w : World) (g : Nat) (l : List α) (es : Nat → Nat) (vs : Nat → List Value) : Prop where
 hg : B ≤ g ∧ g < es 0
 cur : ∃ cur, w.heap[g]? = some (.cells cur E (0, 0)) ∧ ∀ i, i < l.length → ∀ j, j < C → cur[i * C + j]? = (vs i)[j]?
 mon : ∀ i, i < l.length → es i ≤ es (i + 1)
 fin : es l.length ≤ w.heap.size
 len : ∀ i, i < l.length → (vs i).length = C
 kid : ∀ i (h : i < l.length), R w (es i) (es (i + 1)) l[i] (.agg (vs i).toArray)
structure EachJ {α : Type} (R : World → Nat → Nat → α → Value → Prop) (S : World → α → Value → Prop) (C E : Nat) (B : Nat) (w : World) (g : Nat) (l : List α) (j : Nat) (es : Nat → Nat) (vs : Nat → List Value) : Prop where
 hg : B ≤ g ∧ g < es 0
 cur : ∃ cur, w.heap[g]? = some (.cells cur E (0, 0)) ∧ ∀ i, i < l.length → ∀ k, k < C → cur[i * C + k]? = (vs i)[k]?
 mon : ∀ i, i < j → es i ≤ es (i + 1)
 fin : es j ≤ w.heap.size
 len : ∀ i, i < l.length → (vs i).length = C
 done : ∀ i (_ : i < j) (h : i < l.length), R w (es i) (es (i + 1)) l[i] (.agg (vs i).toArray)
 left : ∀ i (_ : j ≤ i) (h : i < l.length), S w l[i] (.agg (vs i).toArray)
theorem EachJ.all {α : Type} {R : World → Nat → Nat → α → Value → Prop} {S : World → α → Value → Prop} {C E B : Nat} {w : World} {g : Nat} {l : List α} {es : Nat → Nat} {vs : Nat → List Value} (h : EachJ R S C E B w g l l.length es vs) : EachI R C E B w g l es vs :=
 ⟨h.hg, h.cur, h.mon, h.fin, h.len, fun i hi => h.done i hi hi⟩
def StS {α : Type} (B : Nat) (S : World → α → Value → Prop) : Prop := ∀ (w w' : World) (x : α) (v : Value), S w x v → Below B w w' → S w' x v
theorem EachJ.step {α : Type} {R : World → Nat → Nat → α → Value → Prop} {S : World → α → Value → Prop} {C E B : Nat} (hC : 0 < C) (hR : StI R) (hS : StS B S) {wr w1 w2 : World} {g : Nat} {l : List α} {j : Nat} {es : Nat → Nat} {vs : Nat → List Value}
 (h : EachJ R S C E B wr g l j es vs) (hj : j < l.length) (hb1 : Below wr.heap.size wr w1) (hb2 : Below w1.heap.size w1 w2) {v : List Value} (hv : v.length = C) (hr : R w2 w1.heap.size w2.heap.size l[j] (.agg v.toArray)) :
 EachJ R S C E B (w2.setCells g (j * C) v) g l (j + 1) (fun i => if i ≤ j then es i else w2.heap.size) (fun i => if i = j then v else vs i) := by
 obtain ⟨cur, hcur, hcc⟩ := h.cur
 have hgl : g < wr.heap.size := (Array.getElem?_eq_some_iff.1 hcur).1
 have h12 := hb1.trans (hb2.mono hb1.size)
 have hcur2 : w2.heap[g]? = some (.cells cur E (0, 0)) := (h12.block _ hgl).trans hcur
 have hes : ∀ i, i ≤ j → es i ≤ es j := by
  intro i hi
  have := mono_es (es := es) (n := j) h.mon i j hi (Nat.le_refl _)
  exact this
 have h0 := hes 0 (Nat.zero_le _)
 have hsz1 := hb1.size
 have hsz2 := hb2.size
 have hfin := h.fin
 have hlen : l.length * C ≤ cur.size := by
  have h1 := hcc (l.length - 1) (by omega) (C - 1) (by omega)
  have h2 := h.len (l.length - 1) (by omega)
  rw [List.getElem?_eq_getElem (by omega)] at h1
  have h3 := (Array.getElem?_eq_some_iff.1 h1).1
  have h4 : (l.length - 1) * C + C = l.length * C := by rw [← Nat.succ_mul]; congr 1; omega
  omega
 have hjC : j * C + C ≤ l.length * C := by rw [← Nat.succ_mul]; exact Nat.mul_le_mul_right _ hj
 have hsame : ∀ lo hi : Nat, g < lo → ∀ b, lo ≤ b → b < hi → (w2.setCells g (j * C) v).heap[b]? = w2.heap[b]? := fun lo hi hlo b h1 _ => setCells_other _ _ _ _ _ (by omega)
 refine ⟨?_, ⟨putA cur (j * C) v, setCells_at v _ hcur2, fun i hi k hk => ?_⟩, fun i hi => ?_, ?_, fun i hi => ?_, fun i hij hi => ?_, fun i hij hi => ?_⟩
 ·simp only [Nat.zero_le, if_true]; exact h.hg
 ·by_cases e : i = j
  ·subst e
   rw [if_pos rfl, putA_in v cur (i * C) k (by omega) (by omega)]
  ·rw [if_neg e, putA_out v cur (j * C) _ ?_, hcc i hi k hk]
   rcases Nat.lt_or_gt_of_ne e with e | e
   ·left
    have : i * C + C ≤ j * C := by rw [← Nat.succ_mul]; exact Nat.mul_le_mul_right _ e
    omega
   ·right
    have : j * C + C ≤ i * C := by rw [← Nat.succ_mul]; exact Nat.mul_le_mul_right _ e
    omega
 ·by_cases e : i + 1 ≤ j
  ·rw [if_pos (by omega), if_pos e]; exact h.mon i e
  ·have : i = j := by omega
   subst this
   rw [if_pos (Nat.le_refl _), if_neg (by omega)]
   omega
 ·rw [if_neg (by omega), setCells_size]; exact Nat.le_refl _
 ·by_cases e : i = j
  ·rw [if_pos e]; exact hv
  ·rw [if_neg e]; exact h.len i hi
 ·by_cases e : i = j
  ·subst e
   rw [if_pos rfl, if_pos (Nat.le_refl _), if_neg (by omega)]
   exact hR w2 _ _ _ _ _ _ _ hr (by omega) (Nat.le_refl _) (by rw [setCells_size]; exact Nat.le_refl _) (hsame _ _ (by omega))
  ·have hlt : i < j := by omega
   rw [if_neg e, if_pos (by omega), if_pos (by omega)]
   have hi1 := hes (i + 1) (by omega)
   have hi0 : es 0 ≤ es i := mono_es (es := es) (n := j) h.mon 0 i (Nat.zero_le _) (by omega)
   have := h.hg.2
   refine hR wr _ _ _ _ _ _ _ (h.done i hlt hi) (Nat.le_refl _) (Nat.le_refl _) (by rw [setCells_size]; omega) fun b h1 h2 => ?_
   rw [setCells_other _ _ _ _ _ (by omega)]
   exact h12.block b (by omega)
 ·rw [if_neg (by omega)]
  have := h.hg.1
  exact hS _ _ _ _ (h.left i (by omega) hi) ((below_setCells' (h12.mono (by omega)) h.hg.1 v (j * C)))
def Cal120 {α : Type} (R : World → Nat → Nat → α → Value → Prop) (S : World → α → Value → Prop) (l : List α) : Prop :=
 ∀ x ∈ l, ∀ (v : Value) (w : World), S w x v → Calls Tryz.prog 120 #[v] w fun e w' => (∃ k s sa sl sc, e = .returned (.agg #[.int .u8 k, .string s, .slice sa sl sc]) ∧ R w' w.heap.size w'.heap.size x (.agg #[.int .u8 k, .string s, .slice sa sl sc])) ∧ Below w.heap.size w w'
theorem eachAt119 {α : Type} {R : World → Nat → Nat → α → Value → Prop} {S : World → α → Value → Prop} (hSh : ∀ w x v, S w x v → ∃ k s sa sl sc, v = .agg #[.int .u8 k, .string s, .slice sa sl sc]) {B : Nat} {w : World} {g : Nat} {l : List α} {j : Nat} {es : Nat → Nat} {vs : Nat → List Value} (h : EachJ R S 3 61 B w g l j es vs) (hj : j < l.length) :
 ∃ k s sa sl sc, vs j = [.int .u8 k, .string s, .slice sa sl sc] ∧ w.cell? ⟨g, j * 3, none⟩ = some (.int .u8 k) ∧ w.cell? ⟨g, j * 3 + 1, none⟩ = some (.string s) ∧ w.cell? ⟨g, j * 3 + 2, none⟩ = some (.slice sa sl sc) ∧ S w l[j] (.agg #[.int .u8 k, .string s, .slice sa sl sc]) ∧ g < w.heap.size := by
 obtain ⟨cur, hcur, hcc⟩ := h.cur
 have hl := h.left j (Nat.le_refl _) hj
 obtain ⟨k, s, sa, sl, sc, hv⟩ := hSh _ _ _ hl
 have hvs : vs j = [.int .u8 k, .string s, .slice sa sl sc] := by
  injection hv with hv
  have := congrArg Array.toList hv
  simpa using this
 have H : ∀ k, k < 3 → w.cell? ⟨g, j * 3 + k, none⟩ = (vs j)[k]? := fun k hk => by rw [Lib.cell_of_heap hcur, hcc j hj k hk]
 rw [hvs] at H
 refine ⟨k, s, sa, sl, sc, hvs, H 0 (by decide), H 1 (by decide), H 2 (by decide), by rw [hvs] at hl; exact hl, (Array.getElem?_eq_some_iff.1 hcur).1⟩
set_option maxRecDepth 100000 in
set_option maxHeartbeats 8000000 in
theorem each119_any {α : Type} (R : World → Nat → Nat → α → Value → Prop) (S : World → α → Value → Prop) (hSt : StI R) (hSh : ∀ w x v, S w x v → ∃ k s sa sl sc, v = .agg #[.int .u8 k, .string s, .slice sa sl sc]) (l : List α) (a : Option Addr) (c : Nat) (w : World) (hl : l.length ≤ 100) (hSS : StS w.heap.size S)
 (hS : RowR w w.heap.size 3 (S w) a l) (hcal : Cal120 R S l) :
 Calls Tryz.prog 119 #[.slice a l.length c, .func (.func 120) #[] #[]] w fun e w' => (∃ a' c', e = .returned (.slice a' l.length c') ∧ (l = [] ∨ ∃ g es vs, a' = some ⟨g, 0, none⟩ ∧ EachI R 3 61 w.heap.size w' g l es vs)) ∧ Below w.heap.size w w' := by
 obtain ⟨vs, hvs⟩ := hS.vals
 have hCL := clone160_any a l.length c vs w hl (fun i hi => (hvs i hi).1) (fun i hi u hu => by
  obtain ⟨k, s, sa, sl, sc, hv⟩ := hSh _ _ _ (hvs i hi).2.1
  have : vs i = [.int .u8 k, .string s, .slice sa sl sc] := by
   injection hv with hv
   have := congrArg Array.toList hv
   simpa using this
  rw [this] at hu
  simp at hu
  rcases hu with rfl | rfl | rfl <;> rfl) (by
  by_cases h0 : l.length = 0
  ·exact .inl h0
  ·obtain ⟨_, _, b, off, ha, hb, _⟩ := hvs 0 (by omega)
   refine .inr ⟨b, off, ha, hb, fun i hi j hj => ?_⟩
   obtain ⟨_, _, b', off', ha', _, hc'⟩ := hvs i hi
   rw [ha] at ha'
   injection ha' with ha'
   injection ha' with h1 h2
   subst h1 h2
   exact hc' j hj)
 have HCL := Lib.hid hCL
 have HE : Hid (Ent 120) := ent_of Tryz.func120 (by kernel_rfl) (by kernel_rfl)
 have HSTI := Lib.hid hSt
 have HSH := Lib.hid hSh
 have HSS := Lib.hid hSS
 have HCAL := Lib.hid hcal
 have HV := Lib.hid hvs
 have hm : l.length ≤ 9223372036854775807 := by omega
 have HL := Lib.hid hl
 clear hS hCL hSt hSh hSS hcal hvs hl
 go_enter Tryz.func119, Tryz.ntmps119
 go_wp2_with fail
 refine HCL.out.mono ?_
 rintro e w1 ⟨⟨a', c', rfl, hres⟩, hb1⟩
 clear HCL
 have HB1 := Lib.hid hb1
 by_cases h0 : l.length = 0
 ·have HN : Hid (l = []) := List.length_eq_zero_iff.1 h0
  have HL0 := Lib.hid h0
  rw [h0]
  clear hres hb1
  go_wp2_with fail
  go_loopw [11] (fun i wr => i = .int .i64 0 ∧ wr = w1) (fun _ _ => 0)
  case atStart => exact ⟨rfl, rfl⟩
  case round =>
   obtain ⟨rfl, rfl⟩ := hrel
   go_wp2_with fail
   all_goals go_ret
   all_goals exact ⟨⟨a', c', by rw [HL0.out]; rfl, .inl HN.out⟩, HB1.out⟩
 ·rcases hres with h | ⟨g, cur, rfl, hg, hcur, hcc⟩
  ·exact absurd h h0
  ·have H0 : Hid (EachJ R S 3 61 w.heap.size w1 g l 0 (fun _ => w1.heap.size) vs) := ⟨⟨hg, (Array.getElem?_eq_some_iff.1 hcur).1⟩, ⟨cur, hcur, hcc⟩, fun i hi => absurd hi (by omega), Nat.le_refl _, fun i hi => (HV.out i hi).1, fun i hi => absurd hi (by omega), fun i _ hi => HSS.out _ _ _ _ (HV.out i hi).2.1 hb1⟩
   clear hb1 hg hcur hcc h0
   go_wp2_with fail
   go_loopw [11] (fun i wr => ∃ j : Nat, j ≤ l.length ∧ i = .int .i64 j ∧ (∃ es vs, Hid (EachJ R S 3 61 w.heap.size wr g l j es vs)) ∧ Below w.heap.size w wr) (fun i _ => l.length - (intOf i).toNat)
   case atStart => exact ⟨0, Nat.zero_le _, rfl, ⟨_, _, H0⟩, HB1.out⟩
   case round =>
    obtain ⟨j, hj, rfl, ⟨es, vs', HJ⟩, hbw⟩ := hrel
    have HBW := Lib.hid hbw
    clear H0 HV
    by_cases hlt : j < l.length
    ·obtain ⟨k, s, sa, sl, sc, hvj, c0, c1, c2, hsrc, hgl⟩ := eachAt119 HSH.out HJ.out hlt
     have hz := hbw.size
     have HC := Lib.hid (HCAL.out _ (List.getElem_mem hlt) _ (wr.alloc (.cells #[.int .u8 k, .string s, .slice sa sl sc] 61)) (HSS.out _ _ _ _ hsrc ((Below.refl _ wr).alloc hz _)))
     have HA : Hid (Below wr.heap.size wr (wr.alloc (.cells #[.int .u8 k, .string s, .slice sa sl sc] 61))) := (Below.refl _ wr).alloc (Nat.le_refl _) _
     have HJL := Lib.hid hlt
     have hltI : (j : Int) < (l.length : Int) := by omega
     have hKe := HE.out
     unfold Ent at hKe
     have HVJ := Lib.hid hvj
     clear hsrc hbw hvj
     go_wp2_with fail
     refine HC.out.mono ?_
     rintro e w2 ⟨⟨k', s', sa', sl', sc', rfl, hr⟩, hb2⟩
     have HS := Lib.hid (HJ.out.step (by decide) HSTI.out HSS.out HJL.out HA.out hb2 (v := [.int .u8 k', .string s', .slice sa' sl' sc']) rfl hr)
     have hb12 := HA.out.trans (hb2.mono HA.out.size)
     have HBN : Hid (Below w.heap.size w (w2.setCells g (j * 3) [.int .u8 k', .string s', .slice sa' sl' sc'])) := below_setCells' (HBW.out.trans (hb12.mono hz)) HJ.out.hg.1 _ _
     obtain ⟨cur, hcur, hcc⟩ := HJ.out.cur
     have hcur2 : w2.heap[g]? = some (.cells cur 61 (0, 0)) := (hb12.block _ hgl).trans hcur
     have H : ∀ k, k < 3 → w2.cell? ⟨g, j * 3 + k, none⟩ = (vs' j)[k]? := fun k hk => by rw [Lib.cell_of_heap hcur2, hcc j hlt k hk]
     have hgl2 := (Array.getElem?_eq_some_iff.1 hcur2).1
     rw [HVJ.out] at H
     have d0 : w2.cell? ⟨g, j * 3, none⟩ = some (.int .u8 k) := H 0 (by decide)
     have f0 : w2.frozen? ⟨g, j * 3, none⟩ = false := Lib.frozen_of_heap hcur2 _
     have d1 : w2.cell? ⟨g, j * 3 + 1, none⟩ = some (.string s) := H 1 (by decide)
     have f1 : w2.frozen? ⟨g, j * 3 + 1, none⟩ = false := Lib.frozen_of_heap hcur2 _
     have d2 : w2.cell? ⟨g, j * 3 + 2, none⟩ = some (.slice sa sl sc) := H 2 (by decide)
     have f2 : w2.frozen? ⟨g, j * 3 + 2, none⟩ = false := Lib.frozen_of_heap hcur2 _
     clear hr hb2 hb12 hcur hcc hcur2 H c0 c1 c2 hgl HC HA
     go_wp2_with fail
     go_roundw
     case rel => exact ⟨j + 1, by omega, by go_num, ⟨_, _, HS⟩, HBN.out⟩
     case measure => simp [intOf]; omega
    ·have hje : j = l.length := by omega
     subst hje
     clear hbw
     go_wp2_with fail
     all_goals go_ret
     all_goals exact ⟨⟨_, _, rfl, .inr ⟨g, es, vs', rfl, HJ.out.all⟩⟩, HBW.out⟩
def Cal71 {α : Type} (R : World → Nat → Nat → α → Value → Prop) (S : World → α → Value → Prop) (l : List α) : Prop :=
 ∀ x ∈ l, ∀ (v : Value) (w : World), S w x v → Calls Tryz.prog 71 #[v] w fun e w' => (∃ k b1 n1 d1 b2 n2 d2 lo ls hi hs op, e = .returned (.agg #[.int .u8 k, .slice b1 n1 d1, .slice b2 n2 d2, .int .i64 lo, .bool ls, .int .i64 hi, .bool hs, .bool op]) ∧ R w' w.heap.size w'.heap.size x (.agg #[.int .u8 k, .slice b1 n1 d1, .slice b2 n2 d2, .int .i64 lo, .bool ls, .int .i64 hi, .bool hs, .bool op])) ∧ Below w.heap.size w w'
theorem eachAt121 {α : Type} {R : World → Nat → Nat → α → Value → Prop} {S : World → α → Value → Prop} (hSh : ∀ w x v, S w x v → ∃ k b1 n1 d1 b2 n2 d2 lo ls hi hs op, v = .agg #[.int .u8 k, .slice b1 n1 d1, .slice b2 n2 d2, .int .i64 lo, .bool ls, .int .i64 hi, .bool hs, .bool op]) {B : Nat} {w : World} {g : Nat} {l : List α} {j : Nat} {es : Nat → Nat} {vs : Nat → List Value} (h : EachJ R S 8 28 B w g l j es vs) (hj : j < l.length) :
 ∃ k b1 n1 d1 b2 n2 d2 lo ls hi hs op, vs j = [.int .u8 k, .slice b1 n1 d1, .slice b2 n2 d2, .int .i64 lo, .bool ls, .int .i64 hi, .bool hs, .bool op] ∧ w.cell? ⟨g, j * 8, none⟩ = some (.int .u8 k) ∧ w.cell? ⟨g, j * 8 + 1, none⟩ = some (.slice b1 n1 d1) ∧ w.cell? ⟨g, j * 8 + 2, none⟩ = some (.slice b2 n2 d2) ∧ w.cell? ⟨g, j * 8 + 3, none⟩ = some (.int .i64 lo) ∧ w.cell? ⟨g, j * 8 + 4, none⟩ = some (.bool ls) ∧ w.cell? ⟨g, j * 8 + 5, none⟩ = some (.int .i64 hi) ∧ w.cell? ⟨g, j * 8 + 6, none⟩ = some (.bool hs) ∧ w.cell? ⟨g, j * 8 + 7, none⟩ = some (.bool op) ∧ S w l[j] (.agg #[.int .u8 k, .slice b1 n1 d1, .slice b2 n2 d2, .int .i64 lo, .bool ls, .int .i64 hi, .bool hs, .bool op]) ∧ g < w.heap.size := by
 obtain ⟨cur, hcur, hcc⟩ := h.cur
 have hl := h.left j (Nat.le_refl _) hj
 obtain ⟨k, b1, n1, d1, b2, n2, d2, lo, ls, hi, hs, op, hv⟩ := hSh _ _ _ hl
 have hvs : vs j = [.int .u8 k, .slice b1 n1 d1, .slice b2 n2 d2, .int .i64 lo, .bool ls, .int .i64 hi, .bool hs, .bool op] := by
  injection hv with hv
  have := congrArg Array.toList hv
  simpa using this
 have H : ∀ k, k < 8 → w.cell? ⟨g, j * 8 + k, none⟩ = (vs j)[k]? := fun k hk => by rw [Lib.cell_of_heap hcur, hcc j hj k hk]
 rw [hvs] at H
 refine ⟨k, b1, n1, d1, b2, n2, d2, lo, ls, hi, hs, op, hvs, H 0 (by decide), H 1 (by decide), H 2 (by decide), H 3 (by decide), H 4 (by decide), H 5 (by decide), H 6 (by decide), H 7 (by decide), by rw [hvs] at hl; exact hl, (Array.getElem?_eq_some_iff.1 hcur).1⟩
set_option maxRecDepth 100000 in
set_option maxHeartbeats 8000000 in
theorem each121_any {α : Type} (R : World → Nat → Nat → α → Value → Prop) (S : World → α → Value → Prop) (hSt : StI R) (hSh : ∀ w x v, S w x v → ∃ k b1 n1 d1 b2 n2 d2 lo ls hi hs op, v = .agg #[.int .u8 k, .slice b1 n1 d1, .slice b2 n2 d2, .int .i64 lo, .bool ls, .int .i64 hi, .bool hs, .bool op]) (l : List α) (a : Option Addr) (c : Nat) (w : World) (hl : l.length ≤ 100) (hSS : StS w.heap.size S)
 (hS : RowR w w.heap.size 8 (S w) a l) (hcal : Cal71 R S l) :
 Calls Tryz.prog 121 #[.slice a l.length c, .func (.func 71) #[] #[]] w fun e w' => (∃ a' c', e = .returned (.slice a' l.length c') ∧ (l = [] ∨ ∃ g es vs, a' = some ⟨g, 0, none⟩ ∧ EachI R 8 28 w.heap.size w' g l es vs)) ∧ Below w.heap.size w w' := by
 obtain ⟨vs, hvs⟩ := hS.vals
 have hCL := clone161_any a l.length c vs w hl (fun i hi => (hvs i hi).1) (fun i hi u hu => by
  obtain ⟨k, b1, n1, d1, b2, n2, d2, lo, ls, hi, hs, op, hv⟩ := hSh _ _ _ (hvs i hi).2.1
  have : vs i = [.int .u8 k, .slice b1 n1 d1, .slice b2 n2 d2, .int .i64 lo, .bool ls, .int .i64 hi, .bool hs, .bool op] := by
   injection hv with hv
   have := congrArg Array.toList hv
   simpa using this
  rw [this] at hu
  simp at hu
  rcases hu with rfl | rfl | rfl | rfl | rfl | rfl | rfl | rfl <;> rfl) (by
  by_cases h0 : l.length = 0
  ·exact .inl h0
  ·obtain ⟨_, _, b, off, ha, hb, _⟩ := hvs 0 (by omega)
   refine .inr ⟨b, off, ha, hb, fun i hi j hj => ?_⟩
   obtain ⟨_, _, b', off', ha', _, hc'⟩ := hvs i hi
   rw [ha] at ha'
   injection ha' with ha'
   injection ha' with h1 h2
   subst h1 h2
   exact hc' j hj)
 have HCL := Lib.hid hCL
 have HE : Hid (Ent 71) := ent_of Tryz.func71 (by kernel_rfl) (by kernel_rfl)
 have HSTI := Lib.hid hSt
 have HSH := Lib.hid hSh
 have HSS := Lib.hid hSS
 have HCAL := Lib.hid hcal
 have HV := Lib.hid hvs
 have hm : l.length ≤ 9223372036854775807 := by omega
 have HL := Lib.hid hl
 clear hS hCL hSt hSh hSS hcal hvs hl
 go_enter Tryz.func121, Tryz.ntmps121
 go_wp2_with fail
 refine HCL.out.mono ?_
 rintro e w1 ⟨⟨a', c', rfl, hres⟩, hb1⟩
 clear HCL
 have HB1 := Lib.hid hb1
 by_cases h0 : l.length = 0
 ·have HN : Hid (l = []) := List.length_eq_zero_iff.1 h0
  have HL0 := Lib.hid h0
  rw [h0]
  clear hres hb1
  go_wp2_with fail
  go_loopw [11] (fun i wr => i = .int .i64 0 ∧ wr = w1) (fun _ _ => 0)
  case atStart => exact ⟨rfl, rfl⟩
  case round =>
   obtain ⟨rfl, rfl⟩ := hrel
   go_wp2_with fail
   all_goals go_ret
   all_goals exact ⟨⟨a', c', by rw [HL0.out]; rfl, .inl HN.out⟩, HB1.out⟩
 ·rcases hres with h | ⟨g, cur, rfl, hg, hcur, hcc⟩
  ·exact absurd h h0
  ·have H0 : Hid (EachJ R S 8 28 w.heap.size w1 g l 0 (fun _ => w1.heap.size) vs) := ⟨⟨hg, (Array.getElem?_eq_some_iff.1 hcur).1⟩, ⟨cur, hcur, hcc⟩, fun i hi => absurd hi (by omega), Nat.le_refl _, fun i hi => (HV.out i hi).1, fun i hi => absurd hi (by omega), fun i _ hi => HSS.out _ _ _ _ (HV.out i hi).2.1 hb1⟩
   clear hb1 hg hcur hcc h0
   go_wp2_with fail
   go_loopw [11] (fun i wr => ∃ j : Nat, j ≤ l.length ∧ i = .int .i64 j ∧ (∃ es vs, Hid (EachJ R S 8 28 w.heap.size wr g l j es vs)) ∧ Below w.heap.size w wr) (fun i _ => l.length - (intOf i).toNat)
   case atStart => exact ⟨0, Nat.zero_le _, rfl, ⟨_, _, H0⟩, HB1.out⟩
   case round =>
    obtain ⟨j, hj, rfl, ⟨es, vs', HJ⟩, hbw⟩ := hrel
    have HBW := Lib.hid hbw
    clear H0 HV
    by_cases hlt : j < l.length
    ·obtain ⟨k, b1, n1, d1, b2, n2, d2, lo, ls, hi, hs, op, hvj, c0, c1, c2, c3, c4, c5, c6, c7, hsrc, hgl⟩ := eachAt121 HSH.out HJ.out hlt
     have hz := hbw.size
     have HC := Lib.hid (HCAL.out _ (List.getElem_mem hlt) _ (wr.alloc (.cells #[.int .u8 k, .slice b1 n1 d1, .slice b2 n2 d2, .int .i64 lo, .bool ls, .int .i64 hi, .bool hs, .bool op] 28)) (HSS.out _ _ _ _ hsrc ((Below.refl _ wr).alloc hz _)))
     have HA : Hid (Below wr.heap.size wr (wr.alloc (.cells #[.int .u8 k, .slice b1 n1 d1, .slice b2 n2 d2, .int .i64 lo, .bool ls, .int .i64 hi, .bool hs, .bool op] 28))) := (Below.refl _ wr).alloc (Nat.le_refl _) _
     have HJL := Lib.hid hlt
     have hltI : (j : Int) < (l.length : Int) := by omega
     have hKe := HE.out
     unfold Ent at hKe
     have HVJ := Lib.hid hvj
     clear hsrc hbw hvj
     go_wp2_with fail
     refine HC.out.mono ?_
     rintro e w2 ⟨⟨k', b1', n1', d1', b2', n2', d2', lo', ls', hi', hs', op', rfl, hr⟩, hb2⟩
     have HS := Lib.hid (HJ.out.step (by decide) HSTI.out HSS.out HJL.out HA.out hb2 (v := [.int .u8 k', .slice b1' n1' d1', .slice b2' n2' d2', .int .i64 lo', .bool ls', .int .i64 hi', .bool hs', .bool op']) rfl hr)
     have hb12 := HA.out.trans (hb2.mono HA.out.size)
     have HBN : Hid (Below w.heap.size w (w2.setCells g (j * 8) [.int .u8 k', .slice b1' n1' d1', .slice b2' n2' d2', .int .i64 lo', .bool ls', .int .i64 hi', .bool hs', .bool op'])) := below_setCells' (HBW.out.trans (hb12.mono hz)) HJ.out.hg.1 _ _
     obtain ⟨cur, hcur, hcc⟩ := HJ.out.cur
     have hcur2 : w2.heap[g]? = some (.cells cur 28 (0, 0)) := (hb12.block _ hgl).trans hcur
     have H : ∀ k, k < 8 → w2.cell? ⟨g, j * 8 + k, none⟩ = (vs' j)[k]? := fun k hk => by rw [Lib.cell_of_heap hcur2, hcc j hlt k hk]
     have hgl2 := (Array.getElem?_eq_some_iff.1 hcur2).1
     rw [HVJ.out] at H
     have d0 : w2.cell? ⟨g, j * 8, none⟩ = some (.int .u8 k) := H 0 (by decide)
     have f0 : w2.frozen? ⟨g, j * 8, none⟩ = false := Lib.frozen_of_heap hcur2 _
     have d1 : w2.cell? ⟨g, j * 8 + 1, none⟩ = some (.slice b1 n1 d1) := H 1 (by decide)
     have f1 : w2.frozen? ⟨g, j * 8 + 1, none⟩ = false := Lib.frozen_of_heap hcur2 _
     have d2 : w2.cell? ⟨g, j * 8 + 2, none⟩ = some (.slice b2 n2 d2) := H 2 (by decide)
     have f2 : w2.frozen? ⟨g, j * 8 + 2, none⟩ = false := Lib.frozen_of_heap hcur2 _
     have d3 : w2.cell? ⟨g, j * 8 + 3, none⟩ = some (.int .i64 lo) := H 3 (by decide)
     have f3 : w2.frozen? ⟨g, j * 8 + 3, none⟩ = false := Lib.frozen_of_heap hcur2 _
     have d4 : w2.cell? ⟨g, j * 8 + 4, none⟩ = some (.bool ls) := H 4 (by decide)
     have f4 : w2.frozen? ⟨g, j * 8 + 4, none⟩ = false := Lib.frozen_of_heap hcur2 _
     have d5 : w2.cell? ⟨g, j * 8 + 5, none⟩ = some (.int .i64 hi) := H 5 (by decide)
     have f5 : w2.frozen? ⟨g, j * 8 + 5, none⟩ = false := Lib.frozen_of_heap hcur2 _
     have d6 : w2.cell? ⟨g, j * 8 + 6, none⟩ = some (.bool hs) := H 6 (by decide)
     have f6 : w2.frozen? ⟨g, j * 8 + 6, none⟩ = false := Lib.frozen_of_heap hcur2 _
     have d7 : w2.cell? ⟨g, j * 8 + 7, none⟩ = some (.bool op) := H 7 (by decide)
     have f7 : w2.frozen? ⟨g, j * 8 + 7, none⟩ = false := Lib.frozen_of_heap hcur2 _
     clear hr hb2 hb12 hcur hcc hcur2 H c0 c1 c2 c3 c4 c5 c6 c7 hgl HC HA
     go_wp2_with fail
     go_roundw
     case rel => exact ⟨j + 1, by omega, by go_num, ⟨_, _, HS⟩, HBN.out⟩
     case measure => simp [intOf]; omega
    ·have hje : j = l.length := by omega
     subst hje
     clear hbw
     go_wp2_with fail
     all_goals go_ret
     all_goals exact ⟨⟨_, _, rfl, .inr ⟨g, es, vs', rfl, HJ.out.all⟩⟩, HBW.out⟩
end Go.Proofs.YtpgdplmndnopbaaGreatDoor

/- tree.Twin walked: formulas copied. -/
namespace Go.Proofs.YtpgdplmndnopbaaGreatDoor
open Go.RowKit
def RF (n : Nat) (w : World) (lo hi : Nat) (x : FT n) (v : Value) : Prop := FRp n (pI lo hi) w x v
theorem RF.st (n : Nat) : StI (RF n) := fun _ _ _ lo hi lo' hi' _ h h1 h2 hsz hs => FRp.stays n _ _ _ _ _ _ h ⟨hsz, fun b _ hp => by
 have h3 := pI_iff.1 hp
 exact ⟨pI_iff.2 (by omega), hs b h3.1 h3.2⟩⟩
def SF (n B : Nat) (w : World) (x : FT n) (v : Value) : Prop := B ≤ w.heap.size ∧ FRep w B n x v ∧ allF rightB n x = true
theorem SF.st (n B : Nat) : StS B (SF n B) := fun _ _ _ _ h hb => ⟨Nat.le_trans h.1 hb.size, h.2.1.up hb (Nat.le_refl _), h.2.2⟩
theorem SF.shape (n B : Nat) : ∀ w x v, SF n B w x v → ∃ k s sa sl sc, v = .agg #[.int .u8 k, .string s, .slice sa sl sc] := fun _ _ _ h => h.2.1.shape
theorem eachF_row {n B : Nat} {w : World} {g : Nat} {l : List (FT n)} {es : Nat → Nat} {vs : Nat → List Value} (h : EachI (RF n) 3 61 B w g l es vs) (hl : l.length ≤ 100) :
 RowR (cutP (pI B w.heap.size) w) w.heap.size 3 (FRep (cutP (pI B w.heap.size) w) w.heap.size n) (some ⟨g, 0, none⟩) l := by
 obtain ⟨cur, hcur, hcc⟩ := h.cur
 have hms := mono_es h.mon
 have hfin := h.fin
 have hg := h.hg
 refine ⟨by omega, .inr ⟨g, 0, rfl, (Array.getElem?_eq_some_iff.1 hcur).1, fun i hi => ⟨vs i, h.len i hi, fun j hj => ?_, ?_⟩⟩⟩
 ·have hvi := h.len i hi
  have h0 := hcc i hi j hj
  have hgl := (Array.getElem?_eq_some_iff.1 hcur).1
  rw [List.getElem?_eq_getElem (by omega)] at h0 ⊢
  refine cell_cutP (pI_iff.2 ⟨by omega, hgl⟩) ?_
  rw [Lib.cell_of_heap hcur, Nat.zero_add]
  exact h0
 ·have h1 := hms 0 i (Nat.zero_le _) (by omega)
  have h2 := hms (i + 1) l.length (by omega) (Nat.le_refl _)
  exact RF.st n w w _ _ _ B w.heap.size _ (h.kid i hi) (by omega) (by omega) (Nat.le_refl _) fun _ _ _ => rfl
theorem rightB_len {k : Int} {s : ByteArray} {l : Nat} (h : rightB k s l = true) : l ≤ 2 := by
 unfold rightB at h
 simp only [Bool.and_eq_true, beq_iff_eq] at h
 have := h.1.2
 unfold manyOf at this
 split at this <;> (try split at this) <;> omega
set_option maxRecDepth 100000 in
set_option maxHeartbeats 8000000 in
theorem twin120_any : ∀ (n : Nat) (t : FT n) (v : Value) (w : World), FRep w w.heap.size n t v → allF rightB n t = true →
 Calls Tryz.prog 120 #[v] w fun e w' => (∃ k s sa sl sc, e = .returned (.agg #[.int .u8 k, .string s, .slice sa sl sc]) ∧ RF n w' w.heap.size w'.heap.size t (.agg #[.int .u8 k, .string s, .slice sa sl sc])) ∧ Below w.heap.size w w' := by
 intro n
 induction n with
 | zero => intro t v w h; exact h.elim
 | succ n ih =>
  intro t v w h hall
  obtain ⟨k, s, of⟩ := t
  obtain ⟨a, c, rfl, hR⟩ := h
  dsimp only at hR ⊢
  have hall' : (rightB k s of.length && of.all (allF rightB n)) = true := hall
  rw [Bool.and_eq_true] at hall'
  have hlen := rightB_len hall'.1
  obtain ⟨W2, hW2⟩ : ∃ W2, W2 = (w.alloc (.cells #[.int .u8 k, .string s, .slice a of.length c] 61)).alloc (.cells #[.int .u8 0, .string ⟨#[]⟩, .slice none 0 0] 61) := ⟨_, rfl⟩
  have hb2 : Below w.heap.size w W2 := by rw [hW2]; exact ((Below.refl _ _).alloc (Nat.le_refl _) _).alloc (by simp) _
  have hz2 : W2.heap.size = w.heap.size + 2 := by rw [hW2]; simp
  have hk0 : W2.heap[w.heap.size]? = some (.cells #[.int .u8 k, .string s, .slice a of.length c] 61 (0, 0)) := by rw [hW2]; exact hp_in (hp_top rfl)
  have hk1 : W2.heap[w.heap.size + 1]? = some (.cells #[.int .u8 0, .string ⟨#[]⟩, .slice none 0 0] 61 (0, 0)) := by rw [hW2]; exact hp_top (by simp)
  have HE := Lib.hid (each119_any (RF n) (SF n W2.heap.size) (RF.st n) (SF.shape n _) of a c W2 (by omega) (SF.st n _) (hR.up hb2 hb2.size fun x hx v hv => ⟨Nat.le_refl _, hv.up hb2 hb2.size, List.all_eq_true.1 hall'.2 x hx⟩)
   (fun x _ v w' hs => ih x v w' (hs.2.1.up (Below.refl _ _) hs.1) hs.2.2))
  have HB2 := Lib.hid hb2
  have HZ2 := Lib.hid hz2
  have HK0 := Lib.hid hk0
  have HK1 := Lib.hid hk1
  have HW2 := Lib.hid hW2.symm
  have HL := Lib.hid hlen
  clear ih hall hall' hR hb2 hz2 hk0 hk1 hW2 hlen
  go_enter Tryz.func120, Tryz.ntmps120
  go_upto_region 1 with fail
  rw [HW2.out]
  clear HW2
  have k0 := HK0.out
  have x2 := Lib.cell_of_heap k0 2
  simp only [List.getElem?_toArray, List.getElem?_cons_zero, List.getElem?_cons_succ] at x2
  have hlt := (Array.getElem?_eq_some_iff.1 k0).1
  clear k0
  go_wp2_with fail
  refine HE.out.mono ?_
  rintro e w3 ⟨⟨a', c', rfl, hres⟩, hb3⟩
  have hk0 : w3.heap[w.heap.size]? = some (.cells #[.int .u8 k, .string s, .slice a of.length c] 61 (0, 0)) := (hb3.block _ hlt).trans HK0.out
  have hk1 : w3.heap[w.heap.size + 1]? = some (.cells #[.int .u8 0, .string ⟨#[]⟩, .slice none 0 0] 61 (0, 0)) := (hb3.block _ (by have := HZ2.out; omega)).trans HK1.out
  have hk0' : (w3.setCell ⟨w.heap.size, 2, none⟩ (.slice a' of.length c')).heap[w.heap.size]? = some (.cells #[.int .u8 k, .string s, .slice a' of.length c'] 61 (0, 0)) := twAt hk0 2 _
  have hk1' : (w3.setCell ⟨w.heap.size, 2, none⟩ (.slice a' of.length c')).heap[w.heap.size + 1]? = some (.cells #[.int .u8 0, .string ⟨#[]⟩, .slice none 0 0] 61 (0, 0)) := (twOther _ _ _ _ _ (by omega)).trans hk1
  have HAT : Hid ((tw3 (w3.setCell ⟨w.heap.size, 2, none⟩ (.slice a' of.length c')) (w.heap.size + 1) (.int .u8 k) (.string s) (.slice a' of.length c')).heap[w.heap.size + 1]? = some (.cells #[.int .u8 k, .string s, .slice a' of.length c'] 61 (0, 0))) := tw3_at hk1' _ _ _
  have HRES : Hid ((RF (n + 1) (tw3 (w3.setCell ⟨w.heap.size, 2, none⟩ (.slice a' of.length c')) (w.heap.size + 1) (.int .u8 k) (.string s) (.slice a' of.length c')) w.heap.size (tw3 (w3.setCell ⟨w.heap.size, 2, none⟩ (.slice a' of.length c')) (w.heap.size + 1) (.int .u8 k) (.string s) (.slice a' of.length c')).heap.size ((k, s, of) : FT (n + 1)) (.agg #[.int .u8 k, .string s, .slice a' of.length c'])) ∧ Below w.heap.size w (tw3 (w3.setCell ⟨w.heap.size, 2, none⟩ (.slice a' of.length c')) (w.heap.size + 1) (.int .u8 k) (.string s) (.slice a' of.length c'))) := by
   have hbw := HB2.out.trans (hb3.mono HB2.out.size)
   have hsz : (tw3 (w3.setCell ⟨w.heap.size, 2, none⟩ (.slice a' of.length c')) (w.heap.size + 1) (.int .u8 k) (.string s) (.slice a' of.length c')).heap.size = w3.heap.size := by rw [tw3_size]; simp [World.setCell]
   have hs3 := hb3.size
   have hz2 := HZ2.out
   refine ⟨⟨a', c', rfl, ?_⟩, ?_⟩
   ·rcases hres with rfl | ⟨g, es, vs, rfl, he⟩
    ·exact ⟨by simp, .inl rfl⟩
    ·have hrow := eachF_row he (by have := HL.out; omega)
     have hgo : Goes (pI W2.heap.size w3.heap.size) (pI w.heap.size (tw3 (w3.setCell ⟨w.heap.size, 2, none⟩ (.slice (some ⟨g, 0, none⟩) of.length c')) (w.heap.size + 1) (.int .u8 k) (.string s) (.slice (some ⟨g, 0, none⟩) of.length c')).heap.size) w3
      (tw3 (w3.setCell ⟨w.heap.size, 2, none⟩ (.slice (some ⟨g, 0, none⟩) of.length c')) (w.heap.size + 1) (.int .u8 k) (.string s) (.slice (some ⟨g, 0, none⟩) of.length c')) := by
      refine ⟨by omega, fun b hb hp => ?_⟩
      have hp' := pI_iff.1 hp
      exact ⟨pI_iff.2 (by omega), (tw3_other _ _ _ _ _ _ (by omega)).trans (twOther _ _ _ _ _ (by omega))⟩
     exact RowR.le hgo.has hgo.1 (fun x _ v hv => FRep.le hgo.has hgo.1 hv) hrow
   ·unfold tw3
    exact (((hbw.setCell (p := ⟨w.heap.size, 2, none⟩) (Nat.le_refl _) _).setCell (p := ⟨w.heap.size + 1, 0, none⟩) (by simp) _).setCell (p := ⟨w.heap.size + 1, 1, none⟩) (by simp) _).setCell (p := ⟨w.heap.size + 1, 2, none⟩) (by simp) _
  have g0 := Lib.cell_of_heap hk0' 0
  have g1 := Lib.cell_of_heap hk0' 1
  have g2 := Lib.cell_of_heap hk0' 2
  have f2 := Lib.frozen_of_heap hk0 2
  have f10 := Lib.frozen_of_heap hk1' 0
  have f11 := Lib.frozen_of_heap hk1' 1
  have f12 := Lib.frozen_of_heap hk1' 2
  simp only [List.getElem?_toArray, List.getElem?_cons_zero, List.getElem?_cons_succ] at g0 g1 g2
  have h0 := Lib.cell_of_heap hk0 2
  have d0 := Lib.cell_of_heap hk1' 0
  have d1 := Lib.cell_of_heap hk1' 1
  have d2 := Lib.cell_of_heap hk1' 2
  simp only [List.getElem?_toArray, List.getElem?_cons_zero, List.getElem?_cons_succ] at h0 d0 d1 d2
  clear hres hb3 hk0 hk1 hk0' hk1' x2 hlt HE HK0 HK1 HZ2 HB2 HL
  go_wp2_with fail
  refine bodyPost_ret (results_cell_row rfl _ _ _ _ _ _ _ rfl HAT.out Tryz.underlying61 rfl (by kernel_rfl)) rfl ?_
  exact ⟨⟨_, _, _, _, _, rfl, HRES.out.1⟩, HRES.out.2⟩
end Go.Proofs.YtpgdplmndnopbaaGreatDoor

/- tree.Twin walked: expressions copied. -/
namespace Go.Proofs.YtpgdplmndnopbaaGreatDoor
open Go.RowKit
theorem OY.wideL {w : World} {y : YX} {lo lo' hi : Nat} {v : Value} (h : OY w y lo hi v) (hh : lo' ≤ lo) : OY w y lo' hi v := by
 cases h with
 | @mk y lo mid hi c1 c a1 a es vs hf hlm hm hes hend hrow hv hk =>
  refine OY.mk (hf.go ⟨Nat.le_refl _, fun b _ hp => ⟨?_, rfl⟩⟩) (by omega) hm hes hend hrow hv hk
  have := pI_iff.1 hp
  exact pI_iff.2 (by omega)
def RX (m n : Nat) (w : World) (lo hi : Nat) (x : XT m n) (v : Value) : Prop := ∃ y : YX, toX n x = xY y ∧ Nm.Ok y ∧ OY w y lo hi v
theorem RX.st (m n : Nat) : StI (RX m n) := fun _ _ _ _ _ _ _ _ ⟨y, h1, h2, h3⟩ g1 g2 hsz hs => ⟨y, h1, h2, ((h3.go hsz hs).wide g2).wideL g1⟩
def SX (m n B : Nat) (w : World) (x : XT m n) (v : Value) : Prop := B ≤ w.heap.size ∧ XRep w B m n x v ∧ allX rightX n x = true
theorem SX.st (m n B : Nat) : StS B (SX m n B) := fun _ _ _ _ h hb => ⟨Nat.le_trans h.1 hb.size, h.2.1.up hb (Nat.le_refl _), h.2.2⟩
theorem SX.shape (m n B : Nat) : ∀ w x v, SX m n B w x v → ∃ k b1 n1 d1 b2 n2 d2 lo ls hi hs op, v = .agg #[.int .u8 k, .slice b1 n1 d1, .slice b2 n2 d2, .int .i64 lo, .bool ls, .int .i64 hi, .bool hs, .bool op] := fun _ _ _ h => h.2.1.shape
theorem EachI.go {α : Type} {R : World → Nat → Nat → α → Value → Prop} (hR : StI R) {C E B : Nat} {w w' : World} {g : Nat} {l : List α} {es : Nat → Nat} {vs : Nat → List Value} (h : EachI R C E B w g l es vs) (hsz : w.heap.size ≤ w'.heap.size) (hs : ∀ b, B ≤ b → b < w.heap.size → w'.heap[b]? = w.heap[b]?) : EachI R C E B w' g l es vs := by
 obtain ⟨cur, hcur, hcc⟩ := h.cur
 have hms := mono_es h.mon
 have hg := h.hg
 have hfin := h.fin
 refine ⟨h.hg, ⟨cur, (hs g hg.1 (Array.getElem?_eq_some_iff.1 hcur).1).trans hcur, hcc⟩, h.mon, by omega, h.len, fun i hi => ?_⟩
 have h1 := hms 0 i (Nat.zero_le _) (by omega)
 have h2 := hms (i + 1) l.length (by omega) (Nat.le_refl _)
 exact hR _ _ _ _ _ _ _ _ (h.kid i hi) (Nat.le_refl _) (Nat.le_refl _) hsz fun b h3 h4 => hs b (by omega) (by omega)
theorem ok_kid {y : YX} (h : Nm.Ok y) (i : Nat) (hi : i < (kidsY y).length) : Nm.Ok (kidsY y)[i] := by
 cases y with
 | «at» f => exact absurd hi (by simp [kidsY])
 | bin k a b =>
  have hi2 : i = 0 ∨ i = 1 := by simp [kidsY] at hi; omega
  rcases hi2 with rfl | rfl
  ·exact h.2.1
  ·exact h.2.2
 | pl a =>
  have hi2 : i = 0 := by simpa [kidsY] using hi
  subst hi2; exact h
 | tm a j =>
  have hi2 : i = 0 := by simpa [kidsY] using hi
  subst hi2; exact h
theorem rightX_len {m : Nat} {k : Int} {is : List (FT m)} {l : Nat} {i : Spn} (h : rightX k is l i = true) : l ≤ 2 ∧ is.length ≤ 1 ∧ ∀ x ∈ is, allF rightB m x = true := by
 unfold rightX at h
 simp only [Bool.and_eq_true, beq_iff_eq] at h
 obtain ⟨⟨⟨⟨⟨_, _⟩, h1⟩, _⟩, _⟩, h2⟩ := h
 refine ⟨?_, ?_⟩
 ·unfold manyOfX at h1
  split at h1 <;> (try split at h1) <;> omega
 ·split at h2
  ·simp only [Bool.and_eq_true, beq_iff_eq] at h2
   exact ⟨by omega, List.all_eq_true.1 h2.2⟩
  ·have : is = [] := List.length_eq_zero_iff.1 (by simpa using h2)
   subst this
   exact ⟨by simp, by simp⟩
theorem oy_made {m n : Nat} {k lo hi : Int} {ls hs op : Bool} {is : List (FT m)} {of : List (XT m n)} (hall : allX rightX (n + 1) ((k, is, of, ⟨lo, ls, hi, hs, op⟩) : XT m (n + 1)) = true) {W : World} {B mid : Nat} {a1 a2 : Option Addr} (c1 c2 : Nat) (hB : B ≤ mid) (hm : mid ≤ W.heap.size)
 (hf : RowR (cutP (pI B mid) W) W.heap.size 3 (FRep (cutP (pI B mid) W) W.heap.size m) a1 is) (hk : of = [] ∨ ∃ g es vs, a2 = some ⟨g, 0, none⟩ ∧ EachI (RX m n) 8 28 mid W g of es vs) :
 RX m (n + 1) W B W.heap.size ((k, is, of, ⟨lo, ls, hi, hs, op⟩) : XT m (n + 1)) (.agg #[.int .u8 k, .slice a1 is.length c1, .slice a2 of.length c2, .int .i64 lo, .bool ls, .int .i64 hi, .bool hs, .bool op]) := by
 obtain ⟨y, hy, ho⟩ := right_Y _ _ hall
 refine ⟨y, hy, ho, ?_⟩
 have hy' : X.mk k (is.map (toF m)) (of.map (toX n)) ⟨lo, ls, hi, hs, op⟩ = xY y := hy
 rw [xY_mk] at hy'
 injection hy' with e1 e2 e3 e4
 have l1 : is.length = (isY y).length := by have := congrArg List.length e2; simpa using this
 have l2 : of.length = (kidsY y).length := by have := congrArg List.length e3; simpa using this
 have hv : (Value.agg #[.int .u8 k, .slice a1 is.length c1, .slice a2 of.length c2, .int .i64 lo, .bool ls, .int .i64 hi, .bool hs, .bool op]) =
  .agg #[.int .u8 (Nm.kind y), .slice a1 (isY y).length c1, .slice a2 (kidsY y).length c2, .int .i64 (spnY y).low, .bool (spnY y).ls, .int .i64 (spnY y).high, .bool (spnY y).hs, .bool (spnY y).op] := by
  rw [← e1, ← e4, l1, l2]
 rw [hv]
 rcases hk with h0 | ⟨g, es, vs, ha, he⟩
 ·have h0' : kidsY y = [] := List.length_eq_zero_iff.1 (by rw [← l2, h0]; rfl)
  exact OY.mk (mid := mid) (es := fun _ => W.heap.size) (vs := fun _ => []) ⟨m, is, e2, hf⟩ hB hm (fun i hi => by rw [h0'] at hi; exact absurd hi (by simp)) (Nat.le_refl _) (.inl h0') (fun i hi => by rw [h0'] at hi; exact absurd hi (by simp)) (fun i hi => absurd hi (by rw [h0']; simp))
 ·obtain ⟨cur, hcur, hcc⟩ := he.cur
  have hg := he.hg
  refine OY.mk (mid := mid) (es := es) (vs := vs) ⟨m, is, e2, hf⟩ hB (by omega) (fun i hi => he.mon i (by omega)) (by rw [← l2]; exact he.fin) (.inr ⟨g, ha, hg.1, hg.2, cur, hcur, fun i hi => hcc i (by omega)⟩) (fun i hi => he.len i (by omega)) fun i hi => ?_
  have hi' : i < of.length := by omega
  obtain ⟨y', g1, g2, g3⟩ := he.kid i hi'
  have e : xY (kidsY y)[i] = xY y' := by
   rw [← g1]
   have h1 : (of.map (toX n))[i]? = ((kidsY y).map xY)[i]? := by rw [e3]
   rw [List.getElem?_map, List.getElem?_map, List.getElem?_eq_getElem hi', List.getElem?_eq_getElem hi] at h1
   simpa using h1.symm
  rw [xY_inj _ _ (ok_kid ho i hi) g2 e]
  exact g3
theorem allX_two {m n : Nat} {k : Int} {is : List (FT m)} {of : List (XT m n)} {i : Spn} (h : allX rightX (n + 1) ((k, is, of, i) : XT m (n + 1)) = true) : rightX k is of.length i = true ∧ of.all (allX rightX n) = true := by
 have h' : (rightX k is of.length i && of.all (allX rightX n)) = true := h
 rw [Bool.and_eq_true] at h'
 exact h'
set_option maxRecDepth 100000 in
set_option maxHeartbeats 16000000 in
theorem twin71_any (m : Nat) : ∀ (n : Nat) (t : XT m n) (v : Value) (w : World), XRep w w.heap.size m n t v → allX rightX n t = true →
 Calls Tryz.prog 71 #[v] w fun e w' => (∃ k b1 n1 d1 b2 n2 d2 lo ls hi hs op, e = .returned (.agg #[.int .u8 k, .slice b1 n1 d1, .slice b2 n2 d2, .int .i64 lo, .bool ls, .int .i64 hi, .bool hs, .bool op]) ∧
  RX m n w' w.heap.size w'.heap.size t (.agg #[.int .u8 k, .slice b1 n1 d1, .slice b2 n2 d2, .int .i64 lo, .bool ls, .int .i64 hi, .bool hs, .bool op])) ∧ Below w.heap.size w w' := by
 intro n
 induction n with
 | zero => intro t v w h; exact h.elim
 | succ n ih =>
  intro t v w h hall
  obtain ⟨k, is, of, lo, ls, hi, hs, op⟩ := t
  obtain ⟨a1, c1, a2, c2, rfl, hR1, hR2⟩ := h
  dsimp only at hR1 hR2 ⊢
  obtain ⟨hr, hof⟩ := allX_two hall
  obtain ⟨hl2, hl1, his⟩ := rightX_len hr
  obtain ⟨W2, hW2⟩ : ∃ W2, W2 = (w.alloc (.cells #[.int .u8 k, .slice a1 is.length c1, .slice a2 of.length c2, .int .i64 lo, .bool ls, .int .i64 hi, .bool hs, .bool op] 28)).alloc (.cells #[.int .u8 0, .slice none 0 0, .slice none 0 0, .int .i64 0, .bool false, .int .i64 0, .bool false, .bool false] 28) := ⟨_, rfl⟩
  have hb2 : Below w.heap.size w W2 := by rw [hW2]; exact ((Below.refl _ _).alloc (Nat.le_refl _) _).alloc (by simp) _
  have hz2 : W2.heap.size = w.heap.size + 2 := by rw [hW2]; simp
  have hk0 : W2.heap[w.heap.size]? = some (.cells #[.int .u8 k, .slice a1 is.length c1, .slice a2 of.length c2, .int .i64 lo, .bool ls, .int .i64 hi, .bool hs, .bool op] 28 (0, 0)) := by rw [hW2]; exact hp_in (hp_top rfl)
  have hk1 : W2.heap[w.heap.size + 1]? = some (.cells #[.int .u8 0, .slice none 0 0, .slice none 0 0, .int .i64 0, .bool false, .int .i64 0, .bool false, .bool false] 28 (0, 0)) := by rw [hW2]; exact hp_top (by simp)
  have HE1 : Hid (Calls Tryz.prog 119 #[.slice a1 is.length c1, .func (.func 120) #[] #[]] W2.drew fun e w' => (∃ a' c', e = .returned (.slice a' is.length c') ∧ (is = [] ∨ ∃ g es vs, a' = some ⟨g, 0, none⟩ ∧ EachI (RF m) 3 61 W2.heap.size w' g is es vs)) ∧ Below W2.heap.size W2.drew w') :=
   each119_any (RF m) (SF m W2.heap.size) (RF.st m) (SF.shape m _) is a1 c1 W2.drew (by omega) (SF.st m _) (RowR.up hb2.drew hb2.size (fun x hx v hv => ⟨Nat.le_refl _, FRep.up hb2.drew hb2.size hv, his x hx⟩) hR1)
    (fun x _ v w' hs => twin120_any m x v w' (hs.2.1.up (Below.refl _ _) hs.1) hs.2.2)
  have HE2 : Hid (∀ W, Below W2.heap.size W2.drew W → Calls Tryz.prog 121 #[.slice a2 of.length c2, .func (.func 71) #[] #[]] W fun e w' => (∃ a' c', e = .returned (.slice a' of.length c') ∧ (of = [] ∨ ∃ g es vs, a' = some ⟨g, 0, none⟩ ∧ EachI (RX m n) 8 28 W.heap.size w' g of es vs)) ∧ Below W.heap.size W w') := by
   intro W hW
   have hbw : Below w.heap.size w W := hb2.drew.trans (hW.mono hb2.size)
   exact each121_any (RX m n) (SX m n W.heap.size) (RX.st m n) (SX.shape m n _) of a2 c2 W (by omega) (SX.st m n _) (RowR.up hbw hbw.size (fun x hx v hv => ⟨Nat.le_refl _, XRep.up hbw hbw.size hv, List.all_eq_true.1 hof x hx⟩) hR2)
    (fun x _ v w' hs => ih x v w' (hs.2.1.up (Below.refl _ _) hs.1) hs.2.2)
  have HB2 := Lib.hid hb2
  have HZ2 := Lib.hid hz2
  have HK0 := Lib.hid hk0
  have HK1 := Lib.hid hk1
  have HW2 := Lib.hid hW2.symm
  have HALL := Lib.hid hall
  have HL1 := Lib.hid hl1
  have HAT : Hid (∀ W, Below W2.heap.size W2.drew W → W.heap[w.heap.size]? = some (.cells #[.int .u8 k, .slice a1 is.length c1, .slice a2 of.length c2, .int .i64 lo, .bool ls, .int .i64 hi, .bool hs, .bool op] 28 (0, 0)) ∧ W.heap[w.heap.size + 1]? = some (.cells #[.int .u8 0, .slice none 0 0, .slice none 0 0, .int .i64 0, .bool false, .int .i64 0, .bool false, .bool false] 28 (0, 0))) :=
   fun W hW => ⟨(hW.block _ (by omega)).trans hk0, (hW.block _ (by omega)).trans hk1⟩
  -- the outcome
  have HRES : Hid (∀ (w3 w4 : World) (a1' a2' : Option Addr) (c1' c2' : Nat), Below W2.heap.size W2.drew w3 → Below w3.heap.size w3 w4 → (is = [] ∨ ∃ g es vs, a1' = some ⟨g, 0, none⟩ ∧ EachI (RF m) 3 61 W2.heap.size w3 g is es vs) → (of = [] ∨ ∃ g es vs, a2' = some ⟨g, 0, none⟩ ∧ EachI (RX m n) 8 28 w3.heap.size w4 g of es vs) →
   ∀ W', W' = tw8 ((w4.setCell ⟨w.heap.size, 1, none⟩ (.slice a1' is.length c1')).setCell ⟨w.heap.size, 2, none⟩ (.slice a2' of.length c2')) (w.heap.size + 1) (.int .u8 k) (.slice a1' is.length c1') (.slice a2' of.length c2') (.int .i64 lo) (.bool ls) (.int .i64 hi) (.bool hs) (.bool op) →
   W'.heap[w.heap.size + 1]? = some (.cells #[.int .u8 k, .slice a1' is.length c1', .slice a2' of.length c2', .int .i64 lo, .bool ls, .int .i64 hi, .bool hs, .bool op] 28 (0, 0)) ∧
   RX m (n + 1) W' w.heap.size W'.heap.size ((k, is, of, ⟨lo, ls, hi, hs, op⟩) : XT m (n + 1)) (.agg #[.int .u8 k, .slice a1' is.length c1', .slice a2' of.length c2', .int .i64 lo, .bool ls, .int .i64 hi, .bool hs, .bool op]) ∧ Below w.heap.size w W') := by
   intro w3 w4 a1' a2' c1' c2' h3 h4 r1 r2 W' hW'
   have hz3 := h3.size
   have hz4 := h4.size
   have hz3' : W2.heap.size ≤ w3.heap.size := hz3
   have h24 : Below W2.heap.size W2.drew w4 := h3.trans (h4.mono hz3)
   have hat1 : w4.heap[w.heap.size + 1]? = some (.cells #[.int .u8 0, .slice none 0 0, .slice none 0 0, .int .i64 0, .bool false, .int .i64 0, .bool false, .bool false] 28 (0, 0)) := (h24.block _ (by omega)).trans hk1
   have hat2 : ((w4.setCell ⟨w.heap.size, 1, none⟩ (.slice a1' is.length c1')).setCell ⟨w.heap.size, 2, none⟩ (.slice a2' of.length c2')).heap[w.heap.size + 1]? = some (.cells #[.int .u8 0, .slice none 0 0, .slice none 0 0, .int .i64 0, .bool false, .int .i64 0, .bool false, .bool false] 28 (0, 0)) :=
    (twOther _ _ _ _ _ (by omega)).trans ((twOther _ _ _ _ _ (by omega)).trans hat1)
   have hsame : ∀ b, W2.heap.size ≤ b → W'.heap[b]? = w4.heap[b]? := fun b hb => by
    rw [hW', tw8_other _ _ _ _ _ _ _ _ _ _ _ (by omega), twOther _ _ _ _ _ (by omega), twOther _ _ _ _ _ (by omega)]
   have hsz : W'.heap.size = w4.heap.size := by rw [hW', tw8_size]; simp [World.setCell]
   have hbl : Below w.heap.size w W' := by
    rw [hW']
    unfold tw8
    have hbw : Below w.heap.size w w4 := hb2.drew.trans (h24.mono hb2.size)
    exact (((((((((hbw.setCell (p := ⟨w.heap.size, 1, none⟩) (Nat.le_refl _) _).setCell (p := ⟨w.heap.size, 2, none⟩) (Nat.le_refl _) _).setCell (p := ⟨w.heap.size + 1, 0, none⟩) (by simp) _).setCell (p := ⟨w.heap.size + 1, 1, none⟩) (by simp) _).setCell (p := ⟨w.heap.size + 1, 2, none⟩) (by simp) _).setCell (p := ⟨w.heap.size + 1, 3, none⟩) (by simp) _).setCell (p := ⟨w.heap.size + 1, 4, none⟩) (by simp) _).setCell (p := ⟨w.heap.size + 1, 5, none⟩) (by simp) _).setCell (p := ⟨w.heap.size + 1, 6, none⟩) (by simp) _).setCell (p := ⟨w.heap.size + 1, 7, none⟩) (by simp) _
   refine ⟨by rw [hW']; exact tw8_at hat2 _ _ _ _ _ _ _ _, ?_, hbl⟩
   refine oy_made hall (mid := w3.heap.size) c1' c2' (by omega) (by omega) ?_ ?_
   ·rcases r1 with rfl | ⟨g, es, vs, rfl, he⟩
    ·exact ⟨by simp, .inl rfl⟩
    ·have hrow := eachF_row he (by omega)
     have hgo : Goes (pI W2.heap.size w3.heap.size) (pI w.heap.size w3.heap.size) w3 W' := by
      refine ⟨by omega, fun b hb hp => ?_⟩
      have hp' := pI_iff.1 hp
      exact ⟨pI_iff.2 (by omega), (hsame b hp'.1).trans (h4.block b hb)⟩
     exact RowR.le hgo.has hgo.1 (fun x _ v hv => FRep.le hgo.has hgo.1 hv) hrow
   ·rcases r2 with h | ⟨g, es, vs, rfl, he⟩
    ·exact .inl h
    ·exact .inr ⟨g, es, vs, rfl, he.go (RX.st m n) (by omega) fun b h1 _ => hsame b (by omega)⟩
  clear ih hall hR1 hR2 hr hof hl2 hl1 his hb2 hz2 hW2
  have k0 := hk0
  have x1 : W2.drew.cell? ⟨w.heap.size, 1, none⟩ = some (.slice a1 is.length c1) := Lib.cell_of_heap k0 1
  have x2 : W2.drew.cell? ⟨w.heap.size, 2, none⟩ = some (.slice a2 of.length c2) := Lib.cell_of_heap k0 2
  have hlt := (Array.getElem?_eq_some_iff.1 k0).1
  clear k0 hk0 hk1
  go_enter Tryz.func71, Tryz.ntmps71
  go_upto_region 1 with fail
  rw [HW2.out]
  clear HW2
  go_region_law (first
   | (go_simp; go_at_call 119; refine HE1.out.mono ?_; rintro e w3 ⟨⟨a1', c1', rfl, hres1⟩, hb3⟩; have HR1 := Lib.hid hres1; have HB3 := Lib.hid hb3; have hk3 := (HAT.out w3 hb3).1; have y2 := Lib.cell_of_heap hk3 2; simp only [List.getElem?_toArray, List.getElem?_cons_zero, List.getElem?_cons_succ] at y2; clear hres1 hb3 hk3)
   | (go_simp; go_at_call 121; refine (HE2.out w3 HB3.out).mono ?_; rintro e w4 ⟨⟨a2', c2', rfl, hres2⟩, hb4⟩; have HR2 := Lib.hid hres2; have HB4 := Lib.hid hb4; have hk4 := HAT.out w4 (HB3.out.trans (hb4.mono HB3.out.size)); have z0 := Lib.cell_of_heap hk4.1 0; have z1 := Lib.cell_of_heap hk4.1 1; have z2 := Lib.cell_of_heap hk4.1 2; have z3 := Lib.cell_of_heap hk4.1 3; have z4 := Lib.cell_of_heap hk4.1 4; have z5 := Lib.cell_of_heap hk4.1 5; have z6 := Lib.cell_of_heap hk4.1 6; have z7 := Lib.cell_of_heap hk4.1 7; have f1 := Lib.frozen_of_heap hk4.1 1; have f2 := Lib.frozen_of_heap hk4.1 2; simp only [List.getElem?_toArray, List.getElem?_cons_zero, List.getElem?_cons_succ] at z0 z1 z2 z3 z4 z5 z6 z7; clear hres2 hb4 hk4))
  all_goals
   obtain ⟨W', hW'⟩ : ∃ W', W' = tw8 ((w4.setCell ⟨w.heap.size, 1, none⟩ (.slice a1' is.length c1')).setCell ⟨w.heap.size, 2, none⟩ (.slice a2' of.length c2')) (w.heap.size + 1) (.int .u8 k) (.slice a1' is.length c1') (.slice a2' of.length c2') (.int .i64 lo) (.bool ls) (.int .i64 hi) (.bool hs) (.bool op) := ⟨_, rfl⟩
   have hres := HRES.out w3 w4 a1' a2' c1' c2' HB3.out HB4.out HR1.out HR2.out W' hW'
   have hk1 := (HAT.out w4 (HB3.out.trans (HB4.out.mono HB3.out.size))).2
   have q0 := Lib.cell_of_heap hk1 0
   have q1 := Lib.cell_of_heap hk1 1
   have q2 := Lib.cell_of_heap hk1 2
   have q3 := Lib.cell_of_heap hk1 3
   have q4 := Lib.cell_of_heap hk1 4
   have q5 := Lib.cell_of_heap hk1 5
   have q6 := Lib.cell_of_heap hk1 6
   have q7 := Lib.cell_of_heap hk1 7
   have r0 := Lib.frozen_of_heap hk1 0
   have r1 := Lib.frozen_of_heap hk1 1
   have r2 := Lib.frozen_of_heap hk1 2
   have r3 := Lib.frozen_of_heap hk1 3
   have r4 := Lib.frozen_of_heap hk1 4
   have r5 := Lib.frozen_of_heap hk1 5
   have r6 := Lib.frozen_of_heap hk1 6
   have r7 := Lib.frozen_of_heap hk1 7
   simp only [List.getElem?_toArray, List.getElem?_cons_zero, List.getElem?_cons_succ] at q0 q1 q2 q3 q4 q5 q6 q7
   have HR := Lib.hid hres
   have HW' := Lib.hid hW'
   clear hres hk1 hW' y2 x1 x2
   go_wp2_with fail
   refine bodyPost_ret (results_cell_row rfl _ _ _ _ _ _ _ rfl (by have := HR.out.1; rw [HW'.out] at this; exact this) Tryz.underlying28 rfl (by kernel_rfl)) rfl ?_
   have h2 := HR.out.2
   rw [HW'.out] at h2
   exact ⟨⟨_, _, _, _, _, _, _, _, _, _, _, _, rfl, h2.1⟩, h2.2⟩
end Go.Proofs.YtpgdplmndnopbaaGreatDoor
