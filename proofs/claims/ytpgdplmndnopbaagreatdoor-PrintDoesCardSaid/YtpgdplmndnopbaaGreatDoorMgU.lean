/- A row of a call's own that grows by things with memory of their own. No program. -/
import Derived.Deep.AppendLies
import Derived.Test.YtpgdplmndnopbaaGreatDoorMgD
import Derived.StillTailTactics
import Derived.Deep.QuietTactic
import Derived.Deep.Cut
import Derived.Test.YtpgdplmndnopbaaGreatDoorSmA
import Derived.Deep.RegionHeld3
import Derived.Test.YtpgdplmndnopbaaGreatDoorMgG
import Derived.Test.YtpgdplmndnopbaaGreatDoorMgC
namespace Go.Proofs.YtpgdplmndnopbaaGreatDoor
open Go.RowKit

/-- The blocks from n on. -/
def twN (n : Nat) : Nat → Bool := fun b => decide (n ≤ b)
/-- Three cells laid anew. -/
def tw3 (w : World) (g : Nat) (x y z : Value) : World := ((w.setCell ⟨g, 0, none⟩ x).setCell ⟨g, 1, none⟩ y).setCell ⟨g, 2, none⟩ z
theorem tw3_at {w : World} {g : Nat} {x' y' z' : Value} {t : TypeId} (h : w.heap[g]? = some (.cells #[x', y', z'] t (0, 0))) (x y z : Value) : (tw3 w g x y z).heap[g]? = some (.cells #[x, y, z] t (0, 0)) := by
  simp [tw3, World.setCell, Array.getElem?_modify, h]
theorem tw3_other (w : World) (g : Nat) (x y z : Value) (j : Nat) (hj : j ≠ g) : (tw3 w g x y z).heap[j]? = w.heap[j]? := by
  unfold tw3
  rw [Below.heap_setCell _ _ _ _ (by simpa using hj), Below.heap_setCell _ _ _ _ (by simpa using hj), Below.heap_setCell _ _ _ _ (by simpa using hj)]
theorem tw3_size (w : World) (g : Nat) (x y z : Value) : (tw3 w g x y z).heap.size = w.heap.size := by simp [tw3, World.setCell]
/-- Eight cells laid anew. -/
def tw8 (w : World) (g : Nat) (v0 v1 v2 v3 v4 v5 v6 v7 : Value) : World :=
  (((((((w.setCell ⟨g, 0, none⟩ v0).setCell ⟨g, 1, none⟩ v1).setCell ⟨g, 2, none⟩ v2).setCell ⟨g, 3, none⟩ v3).setCell ⟨g, 4, none⟩ v4).setCell ⟨g, 5, none⟩ v5).setCell ⟨g, 6, none⟩ v6).setCell ⟨g, 7, none⟩ v7
theorem tw8_at {w : World} {g : Nat} {u0 u1 u2 u3 u4 u5 u6 u7 : Value} {t : TypeId} (h : w.heap[g]? = some (.cells #[u0, u1, u2, u3, u4, u5, u6, u7] t (0, 0))) (v0 v1 v2 v3 v4 v5 v6 v7 : Value) :
    (tw8 w g v0 v1 v2 v3 v4 v5 v6 v7).heap[g]? = some (.cells #[v0, v1, v2, v3, v4, v5, v6, v7] t (0, 0)) := by
  simp [tw8, World.setCell, Array.getElem?_modify, h]
theorem twAt {w : World} {g : Nat} {cs : Array Value} {t : TypeId} {fz : Nat × Nat} (h : w.heap[g]? = some (.cells cs t fz)) (j : Nat) (v : Value) : (w.setCell ⟨g, j, none⟩ v).heap[g]? = some (.cells (cs.setIfInBounds j v) t fz) := by
  simp [World.setCell, Array.getElem?_modify, h]
theorem twOther (w : World) (g i : Nat) (v : Value) (j : Nat) (hj : j ≠ g) : (w.setCell ⟨g, i, none⟩ v).heap[j]? = w.heap[j]? := Below.heap_setCell _ _ _ _ (by simpa using hj)
set_option maxHeartbeats 2000000 in
theorem tw8_other (w : World) (g : Nat) (v0 v1 v2 v3 v4 v5 v6 v7 : Value) (j : Nat) (hj : j ≠ g) : (tw8 w g v0 v1 v2 v3 v4 v5 v6 v7).heap[j]? = w.heap[j]? := by
  unfold tw8
  rw [twOther _ g _ _ j hj, twOther _ g _ _ j hj, twOther _ g _ _ j hj, twOther _ g _ _ j hj, twOther _ g _ _ j hj, twOther _ g _ _ j hj, twOther _ g _ _ j hj, twOther _ g _ _ j hj]
theorem tw8_size (w : World) (g : Nat) (v0 v1 v2 v3 v4 v5 v6 v7 : Value) : (tw8 w g v0 v1 v2 v3 v4 v5 v6 v7).heap.size = w.heap.size := by simp [tw8, World.setCell]
/-- The blocks from base on but for the row's own. -/
def pO (base : Nat) (v : Value) : Nat → Bool := fun b => decide (base ≤ b) && v.ownBlock != some b
/-- A thing in memory stays where its blocks stay. -/
def Stays {α : Type} (R : (Nat → Bool) → World → α → Value → Prop) : Prop := ∀ p q w w' x v, R p w x v → Goes p q w w' → R q w' x v
/-- The cells are a row of things. -/
def CellsR {α : Type} (R : (Nat → Bool) → World → α → Value → Prop) (C : Nat) (p : Nat → Bool) (w : World) (l : List α) (cs : List (List Value)) : Prop :=
  cs.length = l.length ∧ (∀ c ∈ cs, c.length = C) ∧ ∀ i (h : i < l.length) (h' : i < cs.length), R p w l[i] (.agg cs[i].toArray)
structure TwR {α : Type} (R : (Nat → Bool) → World → α → Value → Prop) (C E base : Nat) (w : World) (v : Value) (l : List α) (cs : List (List Value)) : Prop where
  own : w.ownsRow base E C v l.length cs.flatten
  items : CellsR R C (pO base v) w l cs
theorem CellsR.go {α : Type} {R : (Nat → Bool) → World → α → Value → Prop} (hR : Stays R) {C : Nat} {p q : Nat → Bool} {w w' : World} {l : List α} {cs : List (List Value)} (h : CellsR R C p w l cs) (hg : Goes p q w w') : CellsR R C q w' l cs :=
  ⟨h.1, h.2.1, fun i h1 h2 => hR _ _ _ _ _ _ (h.2.2 i h1 h2) hg⟩
theorem CellsR.snoc {α : Type} {R : (Nat → Bool) → World → α → Value → Prop} {C : Nat} {p : Nat → Bool} {w : World} {l : List α} {cs : List (List Value)} (h : CellsR R C p w l cs) {x : α} {c : List Value} (hc : c.length = C) (hx : R p w x (.agg c.toArray)) : CellsR R C p w (l ++ [x]) (cs ++ [c]) := by
  refine ⟨by simp [h.1], ?_, ?_⟩
  · intro d hd
    rcases List.mem_append.1 hd with hd | hd
    · exact h.2.1 d hd
    · simp at hd; subst hd; exact hc
  · intro i h1 h2
    by_cases hi : i < l.length
    · rw [List.getElem_append_left hi, List.getElem_append_left (by rw [h.1]; exact hi)]
      exact h.2.2 i hi (by rw [h.1]; exact hi)
    · have : i = l.length := by simp at h1; omega
      subst this
      rw [List.getElem_append_right (Nat.le_refl _), List.getElem_append_right (by rw [h.1]; exact Nat.le_refl _)]
      simp [h.1]
      exact hx
/-- All that lies from base on, and lay there, lies as it lay. -/
def SameFrom (base : Nat) (w w' : World) : Prop := w.heap.size ≤ w'.heap.size ∧ ∀ b, base ≤ b → b < w.heap.size → w'.heap[b]? = w.heap[b]?
theorem SameFrom.refl (base : Nat) (w : World) : SameFrom base w w := ⟨Nat.le_refl _, fun _ _ _ => rfl⟩
theorem SameFrom.trans {base : Nat} {w w' w'' : World} (h : SameFrom base w w') (h' : SameFrom base w' w'') : SameFrom base w w'' :=
  ⟨Nat.le_trans h.1 h'.1, fun b h1 h2 => (h'.2 b h1 (Nat.lt_of_lt_of_le h2 h.1)).trans (h.2 b h1 h2)⟩
theorem SameFrom.below {base : Nat} {w w' : World} (h : Below w.heap.size w w') : SameFrom base w w' := ⟨h.size, fun b _ h2 => h.block b h2⟩
theorem SameFrom.setCell {base : Nat} (w : World) {g : Nat} (hg : g < base) (i : Nat) (v : Value) : SameFrom base w (w.setCell ⟨g, i, none⟩ v) :=
  ⟨by simp [World.setCell], fun b h1 _ => twOther w g i v b (by omega)⟩
theorem SameFrom.drew {base : Nat} (w : World) : SameFrom base w w.drew := ⟨Nat.le_refl _, fun _ _ _ => rfl⟩
theorem SameFrom.alloc {base : Nat} (w : World) (o : Obj) : SameFrom base w (w.alloc o) := ⟨by simp, fun b _ h2 => Lib.alloc_old w o b h2⟩
theorem TwR.keep {α : Type} {R : (Nat → Bool) → World → α → Value → Prop} (hR : Stays R) {C E base : Nat} {w w' : World} {v : Value} {l : List α} {cs : List (List Value)} (h : TwR R C E base w v l cs) (hs : SameFrom base w w') : TwR R C E base w' v l cs := by
  refine ⟨⟨h.own.1, ?_⟩, h.items.go hR ⟨hs.1, fun b hb hp => ⟨hp, hs.2 b ?_ hb⟩⟩⟩
  · rcases h.own.2 with h1 | ⟨g, cap, cur, e1, e2, e3, e4⟩
    · exact .inl h1
    · exact .inr ⟨g, cap, cur, e1, e2, (hs.2 g e2 (Array.getElem?_eq_some_iff.1 e3).1).trans e3, e4⟩
  · simp only [pO, Bool.and_eq_true, decide_eq_true_eq] at hp
    exact hp.1
/-- One thing more. -/
theorem TwR.step {α : Type} {R : (Nat → Bool) → World → α → Value → Prop} (hR : Stays R) {C E base : Nat} {w w' : World} {v : Value} {l : List α} {cs : List (List Value)} (h : TwR R C E base w v l cs) {x : α} {c : List Value} (hc : c.length = C) {Z : Nat} (hZ : base ≤ Z)
    (hx : R (twN Z) w x (.agg c.toArray)) (hv : ∀ g, v.ownBlock = some g → g < Z) {g cap : Nat} (hown : w'.ownsRow base E C (.slice (some ⟨g, 0, none⟩) (l.length + 1) cap) (l.length + 1) (cs.flatten ++ c)) (hgrow : w.grownBy w' v.ownBlock) (hat : v.ownBlock = some g ∨ g = w.heap.size) :
    TwR R C E base w' (.slice (some ⟨g, 0, none⟩) (l.length + 1) cap) (l ++ [x]) (cs ++ [c]) := by
  have hO : (Value.slice (some ⟨g, 0, none⟩) (l.length + 1) cap).ownBlock = some g := rfl
  refine ⟨?_, CellsR.snoc (h.items.go hR ⟨hgrow.size, fun b hb hp => ?_⟩) hc (hR _ _ _ _ _ _ hx ⟨hgrow.size, fun b hb hp => ?_⟩)⟩
  · have e1 : (l ++ [x]).length = l.length + 1 := by simp
    have e2 : (cs ++ [c]).flatten = cs.flatten ++ c := by simp
    rw [e1, e2]; exact hown
  · simp only [pO, Bool.and_eq_true, decide_eq_true_eq, bne_iff_ne, ne_eq] at hp ⊢
    rw [hO]
    refine ⟨⟨hp.1, fun e => ?_⟩, hgrow.block b hb (fun e => hp.2 e.symm)⟩
    injection e with e
    rcases hat with e2 | e2
    · rw [e] at e2; exact hp.2 e2
    · omega
  · have hp' : Z ≤ b := of_decide_eq_true hp
    simp only [pO, Bool.and_eq_true, decide_eq_true_eq, bne_iff_ne, ne_eq]
    rw [hO]
    refine ⟨⟨by omega, fun e => ?_⟩, hgrow.block b hb (fun e => by have := hv b e.symm; omega)⟩
    injection e with e
    rcases hat with e2 | e2
    · have := hv g e2; omega
    · omega
theorem TwR.nil {α : Type} {R : (Nat → Bool) → World → α → Value → Prop} (C E base : Nat) (w : World) : TwR R C E base w (.slice none 0 0) [] [] :=
  ⟨⟨by simp, .inl ⟨rfl, rfl⟩⟩, ⟨rfl, by simp, fun i h => absurd h (by simp)⟩⟩
theorem TwR.lt {α : Type} {R : (Nat → Bool) → World → α → Value → Prop} {C E base : Nat} {w : World} {v : Value} {l : List α} {cs : List (List Value)} (h : TwR R C E base w v l cs) : ∀ g, v.ownBlock = some g → base ≤ g ∧ g < w.heap.size := by
  intro g hg
  rcases h.own.2 with ⟨rfl, _⟩ | ⟨g', cap, cur, rfl, h2, h3, _⟩
  · simp [Value.ownBlock] at hg
  · have : g' = g := by simpa [Value.ownBlock] using hg
    subst this
    exact ⟨h2, (Array.getElem?_eq_some_iff.1 h3).1⟩
theorem TwR.slice {α : Type} {R : (Nat → Bool) → World → α → Value → Prop} {C E base : Nat} {w : World} {v : Value} {l : List α} {cs : List (List Value)} (h : TwR R C E base w v l cs) : ∃ a c, v = .slice a l.length c ∧ (∀ g o p, a = some ⟨g, o, p⟩ → base ≤ g ∧ g < w.heap.size) := by
  rcases h.own.2 with ⟨rfl, h0⟩ | ⟨g', cap, cur, rfl, h2, h3, _⟩
  · exact ⟨none, 0, by rw [h0], fun g o p e => by simp at e⟩
  · refine ⟨_, cap, rfl, fun g o p e => ?_⟩
    simp only [Option.some.injEq, Addr.mk.injEq] at e
    obtain ⟨rfl, _⟩ := e
    exact ⟨h2, (Array.getElem?_eq_some_iff.1 h3).1⟩
theorem flatten_at {C : Nat} : ∀ (cs : List (List Value)) (_ : ∀ c ∈ cs, c.length = C) (i j : Nat) (h : i < cs.length) (hj : j < C), cs.flatten[i * C + j]? = cs[i][j]?
  | [], _, i, _, h, _ => absurd h (by simp)
  | c :: r, hc, 0, j, _, hj => by
    have := hc c (by simp)
    rw [List.flatten_cons, Nat.zero_mul, Nat.zero_add, List.getElem?_append_left (by omega)]
    rfl
  | c :: r, hc, i + 1, j, h, hj => by
    have h1 := hc c (by simp)
    rw [List.flatten_cons, List.getElem?_append_right (by rw [h1, Nat.succ_mul]; omega), h1, show (i + 1) * C + j - C = i * C + j by rw [Nat.succ_mul]; omega]
    rw [flatten_at r (fun d hd => hc d (by simp [hd])) i j (by simpa using h) hj]
    rfl
/-- The row, read as one of things below the heap's end. -/
theorem TwR.row {α : Type} {R : (Nat → Bool) → World → α → Value → Prop} (hR : Stays R) {C E base : Nat} (hC : 0 < C) {w : World} {a : Option Addr} {c : Nat} {l : List α} {cs : List (List Value)} (h : TwR R C E base w (.slice a l.length c) l cs) :
    RowR (cutP (twN base) w) w.heap.size C (fun x v => R (twN base) w x v) a l := by
  have hgo : Goes (pO base (.slice a l.length c)) (twN base) w w := ⟨Nat.le_refl _, fun b _ hp => ⟨by
    simp only [pO, Bool.and_eq_true, decide_eq_true_eq] at hp
    exact decide_eq_true hp.1, rfl⟩⟩
  have hi := h.items.go hR hgo
  rcases h.own.2 with ⟨e, h0⟩ | ⟨g, cap, cur, e1, h2, h3, h4, h5, h6, h7⟩
  · have : l = [] := List.length_eq_zero_iff.1 h0
    subst this
    exact ⟨by simp, .inl rfl⟩
  · simp only [Value.slice.injEq] at e1
    obtain ⟨rfl, _, rfl⟩ := e1
    refine ⟨by unfold maxLen at h5; omega, .inr ⟨g, 0, rfl, (Array.getElem?_eq_some_iff.1 h3).1, fun i hil => ?_⟩⟩
    have hic : i < cs.length := by rw [hi.1]; exact hil
    have hcl := hi.2.1 cs[i] (List.getElem_mem hic)
    refine ⟨cs[i], hcl, fun j hj => ?_, hi.2.2 i hil hic⟩
    have hle : i * C + C ≤ l.length * C := by rw [← Nat.succ_mul]; exact Nat.mul_le_mul_right C hil
    have key : cur[i * C + j]? = cs[i][j]? := by
      rw [← flatten_at cs hi.2.1 i j hic hj, ← h7, List.getElem?_take, if_pos (by omega), Array.getElem?_toList]
    rw [List.getElem?_eq_getElem (by omega)] at key ⊢
    refine cell_cutP (by simpa [twN] using h2) ?_
    rw [Lib.cell_of_heap h3, Nat.zero_add]
    exact key
/-- Formulas, and expressions, that lie in the blocks that p names. -/
def FRp (n : Nat) (p : Nat → Bool) (w : World) (t : FT n) (v : Value) : Prop := FRep (cutP p w) w.heap.size n t v
def XRp (m n : Nat) (p : Nat → Bool) (w : World) (t : XT m n) (v : Value) : Prop := XRep (cutP p w) w.heap.size m n t v
theorem FRp.stays (n : Nat) : Stays (FRp n) := fun _ _ _ _ _ _ h hg => FRep.le hg.has hg.1 h
theorem XRp.stays (m n : Nat) : Stays (XRp m n) := fun _ _ _ _ _ _ h hg => XRep.le hg.has hg.1 h
theorem FRp.real {n : Nat} {p : Nat → Bool} {w : World} {t : FT n} {v : Value} (h : FRp n p w t v) : FRep w w.heap.size n t v := FRep.le (fun _ _ _ _ hx => (cutP_cell hx).2) (Nat.le_refl _) h
theorem XRp.real {m n : Nat} {p : Nat → Bool} {w : World} {t : XT m n} {v : Value} (h : XRp m n p w t v) : XRep w w.heap.size m n t v := XRep.le (fun _ _ _ _ hx => (cutP_cell hx).2) (Nat.le_refl _) h
theorem twN_goes {Z Z' : Nat} {w w' : World} (hZ : Z' ≤ Z) (h : SameFrom Z w w') : Goes (twN Z) (twN Z') w w' :=
  ⟨h.1, fun b hb hp => by
    have hp' : Z ≤ b := of_decide_eq_true hp
    exact ⟨decide_eq_true (by omega), h.2 b hp' hb⟩⟩
end Go.Proofs.YtpgdplmndnopbaaGreatDoor

/- The book of layer 16: formulas and expressions compared. (Printed by gen_bkj.py.) -/
namespace Go.Proofs.YtpgdplmndnopbaaGreatDoor
open Go.RowKit

def EqF41 (n n' : Nat) : Prop := ∀ (t : FT n) (u : FT n') (v v' : Value) (w : World), FRep w w.heap.size n t v → FRep w w.heap.size n' u v' →
  Calls Tryz.prog 41 #[v, v'] w fun e w' => SaysP (toF n t = toF n' u) e ∧ Below w.heap.size w w'
set_option maxRecDepth 100000 in
set_option maxHeartbeats 16000000 in
theorem same41_any : ∀ n n' : Nat, EqF41 n n' := by
  intro n
  induction n with
  | zero => intro n' t u v v' w h; exact h.elim
  | succ n ih =>
    intro n' t u v v' w h h'
    cases n' with
    | zero => exact h'.elim
    | succ n' =>
      obtain ⟨k1, s1, of1⟩ := t
      obtain ⟨k2, s2, of2⟩ := u
      obtain ⟨a1, c1, rfl, hR1⟩ := h
      obtain ⟨a2, c2, rfl, hR2⟩ := h'
      have hR1 : FRow w w.heap.size n a1 of1 := hR1
      have hR2 : FRow w w.heap.size n' a2 of2 := hR2
      have HF : Hid (∀ b : Bool, (b = true ↔ (k1 = k2 ∧ s1.toList = s2.toList ∧ of1.map (toF n) = of2.map (toF n'))) → (b = true ↔ toF (n + 1) (k1, s1, of1) = toF (n' + 1) (k2, s2, of2))) := by
        intro b hb
        show b = true ↔ F.mk k1 s1 (of1.map (toF n)) = F.mk k2 s2 (of2.map (toF n'))
        rw [hb, F.mk.injEq]
        constructor
        · rintro ⟨h1, h2, h3⟩
          refine ⟨h1, ?_, h3⟩
          rw [ByteArray.toList_eq, ByteArray.toList_eq] at h2
          have e : s1.data = s2.data := Array.toList_inj.1 h2
          cases s1; cases s2; exact congrArg _ e
        · rintro ⟨h1, h2, h3⟩
          exact ⟨h1, by rw [h2], h3⟩
      have hm1 := hR1.1
      have hm2 := hR2.1
      have HB : Hid (Below w.heap.size w ((w.alloc (.cells #[.int .u8 k1, .string s1, .slice a1 of1.length c1] 61)).alloc (.cells #[.int .u8 k2, .string s2, .slice a2 of2.length c2] 61))) := ((Below.refl _ _).alloc (Nat.le_refl _) _).alloc (by simp) _
      have HX1 : Hid (((w.alloc (.cells #[.int .u8 k1, .string s1, .slice a1 of1.length c1] 61)).alloc (.cells #[.int .u8 k2, .string s2, .slice a2 of2.length c2] 61)).cell? ⟨w.heap.size, 2, none⟩ = some (.slice a1 of1.length c1)) := Lib.cell_of_heap (sm_in (sm_top rfl)) 2
      have HX2 : Hid (((w.alloc (.cells #[.int .u8 k1, .string s1, .slice a1 of1.length c1] 61)).alloc (.cells #[.int .u8 k2, .string s2, .slice a2 of2.length c2] 61)).cell? ⟨w.heap.size + 1, 2, none⟩ = some (.slice a2 of2.length c2)) := Lib.cell_of_heap (sm_top (by simp)) 2
      have HR1 := Lib.hid hR1
      have HR2 := Lib.hid hR2
      have HIH := Lib.hid ih
      clear hR1 hR2 ih
      cases q1 : k1 == k2 with
      | false =>
        have HK : Hid (¬ k1 = k2) := by simpa [Hid] using q1
        have q1' : (k1 != k2) = true := by simp [bne, q1]
        go_enter Tryz.func41, Tryz.ntmps41
        go_wp2_with fail
        all_goals go_ret
        all_goals exact ⟨SaysP.mk rfl (HF.out false ⟨fun h => (by cases h), fun h => absurd h.1 HK.out⟩), HB.out⟩
      | true =>
        have HK : Hid (k1 = k2) := by simpa [Hid] using q1
        have q1' : (k1 != k2) = false := by simp [bne, q1]
        cases q2 : s1.toList == s2.toList with
        | false =>
          have HK2 : Hid (¬ s1.toList = s2.toList) := by rw [Hid]; exact fun h => by rw [h] at q2; simp at q2
          have q2' : (s1.toList != s2.toList) = true := by simp [bne, q2]
          go_enter Tryz.func41, Tryz.ntmps41
          go_wp2_with fail
          all_goals go_ret
          all_goals exact ⟨SaysP.mk rfl (HF.out false ⟨fun h => (by cases h), fun h => absurd h.2.1 HK2.out⟩), HB.out⟩
        | true =>
          have HK2 : Hid (s1.toList = s2.toList) := by rw [Hid]; exact eq_of_beq q2
          have q2' : (s1.toList != s2.toList) = false := by simp [bne, q2]
          by_cases hl : of1.length = of2.length
          · have HLEN := Lib.hid hl
            have q3 : (((of1.length : Nat) : Int) != ((of2.length : Nat) : Int)) = false := by rw [bne_eq_false_iff_eq]; omega
            clear hl
            go_enter Tryz.func41, Tryz.ntmps41
            go_wp2_with fail
            clear q1 q1' q2 q2' q3
            go_loopw [5] (fun i wr => ∃ j : Nat, j ≤ of1.length ∧ i = .int .i64 j ∧ Hid ((of1.take j).map (toF n) = (of2.take j).map (toF n')) ∧ Below w.heap.size w wr ∧ w.heap.size + 1 < wr.heap.size ∧ wr.cell? ⟨w.heap.size, 2, none⟩ = some (.slice a1 of1.length c1) ∧ wr.cell? ⟨w.heap.size + 1, 2, none⟩ = some (.slice a2 of2.length c2)) (fun i _ => of1.length - (intOf i).toNat)
            case atStart => exact ⟨0, Nat.zero_le _, rfl, rfl, HB.out, by simp, HX1.out, HX2.out⟩
            case round =>
              obtain ⟨j, hj, rfl, HT, hbw, hsz, hb02, hb12⟩ := hrel
              have HBW := Lib.hid hbw
              by_cases hlt : j < of1.length
              · have hlt' : j < of2.length := HLEN.out ▸ hlt
                have hltI : ((j : Nat) : Int) < ((of1.length : Nat) : Int) := by omega
                have hltJ : ((j : Nat) : Int) < ((of2.length : Nat) : Int) := by omega
                obtain ⟨q1, off1, x1, y1, z1a, z1b, z1c, rfl, hq1, u0, u1, u2, hr1⟩ := (FRow.up HR1.out hbw (Nat.le_refl _)).at j hlt
                obtain ⟨q2, off2, x2, y2, z2a, z2b, z2c, rfl, hq2, v0, v1, v2, hr2⟩ := (FRow.up HR2.out hbw (Nat.le_refl _)).at j hlt'
                have hz := hbw.size
                have hq1' : q1 < wr.heap.size := by omega
                have hq2' : q2 < wr.heap.size := by omega
                have HC := Lib.hid (HIH.out n' of1[j] of2[j] _ _ wr.drew (hr1.up (Below.drew (Below.refl _ _)) (by simp; omega)) (hr2.up (Below.drew (Below.refl _ _)) (by simp; omega)))
                have HS : Hid (∀ b : Bool, (b = true ↔ (toF n) of1[j] = (toF n') of2[j]) → (b = true ↔ (of1.take (j + 1)).map (toF n) = (of2.take (j + 1)).map (toF n'))) := by
                  intro b hb
                  rw [List.take_succ_eq_append_getElem hlt, List.take_succ_eq_append_getElem hlt', List.map_append, List.map_append, HT.out, hb]
                  constructor
                  · intro h; simp [h]
                  · intro h; simpa using List.append_cancel_left h
                have HNE : Hid (¬ ((of1.take (j + 1)).map (toF n) = (of2.take (j + 1)).map (toF n')) → ¬ (of1.map (toF n) = of2.map (toF n'))) := by
                  intro h h2
                  refine h ?_
                  rw [List.map_take, List.map_take, h2]
                clear hr1 hr2 hbw
                go_upto_region 6 with fail
                go_still_tail 10, (by kernel_rfl)
                change wpList _ _ _ _ _ wr.drew
                go_wp2_with fail
                refine HC.out.mono ?_
                rintro e w3 ⟨⟨b, rfl, hb0⟩, hb3⟩
                have hb := Lib.hid hb0
                clear hb0
                have HB3 := Lib.hid (HBW.out.trans ((Below.refl w.heap.size wr).drew.trans (hb3.mono hz)))
                have hsz3 : w.heap.size + 1 < w3.heap.size := by have := hb3.size; simp at this; omega
                have g02 := (hb3.cell (p := ⟨w.heap.size, 2, none⟩) (by simp; omega)).trans hb02
                have g12 := (hb3.cell (p := ⟨w.heap.size + 1, 2, none⟩) (by simp; omega)).trans hb12
                have HSB := Lib.hid (HS.out b hb.out)
                clear hb hb3 u0 u1 u2 v0 v1 v2
                cases b with
                | true =>
                  go_wp2_with fail
                  go_roundw
                  case rel => exact ⟨j + 1, by omega, by go_num, HSB.out.1 (by first | trivial | rfl), HB3.out, hsz3, g02, g12⟩
                  case measure => simp [intOf]; omega
                | false =>
                  have HNO := Lib.hid (HNE.out (fun h => by cases HSB.out.2 h))
                  clear HS HSB HNE
                  go_wp2_with fail
                  all_goals go_ret
                  all_goals exact ⟨SaysP.mk rfl (HF.out false ⟨fun h => (by cases h), fun h => absurd h.2.2 HNO.out⟩), HB3.out⟩
              · have hje : j = of1.length := by omega
                have HE : Hid (of1.map (toF n) = of2.map (toF n')) := by
                  rw [Hid]; have := HT.out; rw [hje, List.take_length, HLEN.out, List.take_length] at this; exact this
                have hltI : ¬ ((j : Nat) : Int) < ((of1.length : Nat) : Int) := by omega
                clear HT hje
                go_wp2_with fail
                all_goals go_ret
                all_goals exact ⟨SaysP.mk rfl (HF.out true ⟨fun _ => ⟨HK.out, HK2.out, HE.out⟩, fun _ => rfl⟩), HBW.out⟩
          · have q3 : (((of1.length : Nat) : Int) != ((of2.length : Nat) : Int)) = true := by rw [bne_iff_ne]; omega
            have HNE : Hid (¬ of1.map (toF n) = of2.map (toF n')) := fun h => hl (by have := congrArg List.length h; simpa using this)
            clear hl
            go_enter Tryz.func41, Tryz.ntmps41
            go_wp2_with fail
            all_goals go_ret
            all_goals exact ⟨SaysP.mk rfl (HF.out false ⟨fun h => (by cases h), fun h => absurd h.2.2 HNE.out⟩), HB.out⟩
def EqX20 (m m' n n' : Nat) : Prop := ∀ (t : XT m n) (u : XT m' n') (v v' : Value) (w : World), XRep w w.heap.size m n t v → XRep w w.heap.size m' n' u v' →
  Calls Tryz.prog 20 #[v, v'] w fun e w' => SaysP (toX n t = toX n' u) e ∧ Below w.heap.size w w'
theorem spn_split (lo1 hi1 lo2 hi2 : Int) (ls1 hs1 op1 ls2 hs2 op2 : Bool) (h : ¬ (⟨lo1, ls1, hi1, hs1, op1⟩ : Spn) = ⟨lo2, ls2, hi2, hs2, op2⟩) :
    ¬ lo1 = lo2 ∨ (lo1 = lo2 ∧ ¬ ls1 = ls2) ∨ (lo1 = lo2 ∧ ls1 = ls2 ∧ ¬ hi1 = hi2) ∨ (lo1 = lo2 ∧ ls1 = ls2 ∧ hi1 = hi2 ∧ ¬ hs1 = hs2) ∨ (lo1 = lo2 ∧ ls1 = ls2 ∧ hi1 = hi2 ∧ hs1 = hs2 ∧ ¬ op1 = op2) := by
  simp only [Spn.mk.injEq, not_and] at h
  by_cases h1 : lo1 = lo2 <;> by_cases h2 : ls1 = ls2 <;> by_cases h3 : hi1 = hi2 <;> by_cases h4 : hs1 = hs2 <;> by_cases h5 : op1 = op2 <;> simp_all
set_option maxRecDepth 100000 in
set_option maxHeartbeats 16000000 in
theorem same20_kind (m m' n n' : Nat) (ih : ∀ n', EqX20 m m' n n') (k1 k2 : Int) (is1 : List (FT m)) (is2 : List (FT m')) (of1 : List (XT m n)) (of2 : List (XT m' n')) (lo1 hi1 lo2 hi2 : Int) (ls1 hs1 op1 ls2 hs2 op2 : Bool) (p1 p2 a1 a2 : Option Addr) (d1 d2 c1 c2 : Nat) (w : World)
    (hF1 : FRow w w.heap.size m p1 is1) (hF2 : FRow w w.heap.size m' p2 is2) (hR1 : XRow w w.heap.size m n a1 of1) (hR2 : XRow w w.heap.size m' n' a2 of2) (hk : ¬ k1 = k2) :
    Calls Tryz.prog 20 #[.agg #[.int .u8 k1, .slice p1 is1.length d1, .slice a1 of1.length c1, .int .i64 lo1, .bool ls1, .int .i64 hi1, .bool hs1, .bool op1], .agg #[.int .u8 k2, .slice p2 is2.length d2, .slice a2 of2.length c2, .int .i64 lo2, .bool ls2, .int .i64 hi2, .bool hs2, .bool op2]] w fun e w' => SaysP (toX (n + 1) ((k1, is1, of1, ⟨lo1, ls1, hi1, hs1, op1⟩) : XT m (n + 1)) = toX (n' + 1) ((k2, is2, of2, ⟨lo2, ls2, hi2, hs2, op2⟩) : XT m' (n' + 1))) e ∧ Below w.heap.size w w' := by
  have HF : Hid (∀ b : Bool, (b = true ↔ (k1 = k2 ∧ (⟨lo1, ls1, hi1, hs1, op1⟩ : Spn) = ⟨lo2, ls2, hi2, hs2, op2⟩ ∧ is1.map (toF m) = is2.map (toF m') ∧ of1.map (toX n) = of2.map (toX n'))) → (b = true ↔ toX (n + 1) ((k1, is1, of1, ⟨lo1, ls1, hi1, hs1, op1⟩) : XT m (n + 1)) = toX (n' + 1) ((k2, is2, of2, ⟨lo2, ls2, hi2, hs2, op2⟩) : XT m' (n' + 1)))) := by
    intro b hb
    show b = true ↔ X.mk k1 (is1.map (toF m)) (of1.map (toX n)) ⟨lo1, ls1, hi1, hs1, op1⟩ = X.mk k2 (is2.map (toF m')) (of2.map (toX n')) ⟨lo2, ls2, hi2, hs2, op2⟩
    rw [hb, X.mk.injEq]
    exact ⟨fun ⟨h1, h2, h3, h4⟩ => ⟨h1, h3, h4, h2⟩, fun ⟨h1, h3, h4, h2⟩ => ⟨h1, h2, h3, h4⟩⟩
  have hm1 := hR1.1
  have hm2 := hR2.1
  have hm3 := hF1.1
  have hm4 := hF2.1
  have HB : Hid (Below w.heap.size w ((w.alloc (.cells #[.int .u8 k1, .slice p1 is1.length d1, .slice a1 of1.length c1, .int .i64 lo1, .bool ls1, .int .i64 hi1, .bool hs1, .bool op1] 28)).alloc (.cells #[.int .u8 k2, .slice p2 is2.length d2, .slice a2 of2.length c2, .int .i64 lo2, .bool ls2, .int .i64 hi2, .bool hs2, .bool op2] 28))) := ((Below.refl _ _).alloc (Nat.le_refl _) _).alloc (by simp) _
  have HX01 : Hid (((w.alloc (.cells #[.int .u8 k1, .slice p1 is1.length d1, .slice a1 of1.length c1, .int .i64 lo1, .bool ls1, .int .i64 hi1, .bool hs1, .bool op1] 28)).alloc (.cells #[.int .u8 k2, .slice p2 is2.length d2, .slice a2 of2.length c2, .int .i64 lo2, .bool ls2, .int .i64 hi2, .bool hs2, .bool op2] 28)).cell? ⟨w.heap.size, 1, none⟩ = some (.slice p1 is1.length d1)) := Lib.cell_of_heap (sm_in (sm_top rfl)) 1
  have HX02 : Hid (((w.alloc (.cells #[.int .u8 k1, .slice p1 is1.length d1, .slice a1 of1.length c1, .int .i64 lo1, .bool ls1, .int .i64 hi1, .bool hs1, .bool op1] 28)).alloc (.cells #[.int .u8 k2, .slice p2 is2.length d2, .slice a2 of2.length c2, .int .i64 lo2, .bool ls2, .int .i64 hi2, .bool hs2, .bool op2] 28)).cell? ⟨w.heap.size, 2, none⟩ = some (.slice a1 of1.length c1)) := Lib.cell_of_heap (sm_in (sm_top rfl)) 2
  have HX11 : Hid (((w.alloc (.cells #[.int .u8 k1, .slice p1 is1.length d1, .slice a1 of1.length c1, .int .i64 lo1, .bool ls1, .int .i64 hi1, .bool hs1, .bool op1] 28)).alloc (.cells #[.int .u8 k2, .slice p2 is2.length d2, .slice a2 of2.length c2, .int .i64 lo2, .bool ls2, .int .i64 hi2, .bool hs2, .bool op2] 28)).cell? ⟨w.heap.size + 1, 1, none⟩ = some (.slice p2 is2.length d2)) := Lib.cell_of_heap (sm_top (by simp)) 1
  have HX12 : Hid (((w.alloc (.cells #[.int .u8 k1, .slice p1 is1.length d1, .slice a1 of1.length c1, .int .i64 lo1, .bool ls1, .int .i64 hi1, .bool hs1, .bool op1] 28)).alloc (.cells #[.int .u8 k2, .slice p2 is2.length d2, .slice a2 of2.length c2, .int .i64 lo2, .bool ls2, .int .i64 hi2, .bool hs2, .bool op2] 28)).cell? ⟨w.heap.size + 1, 2, none⟩ = some (.slice a2 of2.length c2)) := Lib.cell_of_heap (sm_top (by simp)) 2
  have HR1 := Lib.hid hR1
  have HR2 := Lib.hid hR2
  have HF1 := Lib.hid hF1
  have HF2 := Lib.hid hF2
  have HIH := Lib.hid ih
  clear hR1 hR2 hF1 hF2 ih
  have HK := Lib.hid hk
  have q1 : (k1 == k2) = false := by simpa using hk
  have q1' : (k1 != k2) = true := by simp [bne, q1]
  clear hk
  go_enter Tryz.func20, Tryz.ntmps20
  go_wp2_with fail
  all_goals go_ret
  all_goals exact ⟨SaysP.mk rfl (HF.out false ⟨fun h => (by cases h), fun h => absurd h.1 HK.out⟩), HB.out⟩
set_option maxRecDepth 100000 in
set_option maxHeartbeats 16000000 in
theorem same20_in (m m' n n' : Nat) (ih : ∀ n', EqX20 m m' n n') (k1 k2 : Int) (is1 : List (FT m)) (is2 : List (FT m')) (of1 : List (XT m n)) (of2 : List (XT m' n')) (lo1 hi1 lo2 hi2 : Int) (ls1 hs1 op1 ls2 hs2 op2 : Bool) (p1 p2 a1 a2 : Option Addr) (d1 d2 c1 c2 : Nat) (w : World)
    (hF1 : FRow w w.heap.size m p1 is1) (hF2 : FRow w w.heap.size m' p2 is2) (hR1 : XRow w w.heap.size m n a1 of1) (hR2 : XRow w w.heap.size m' n' a2 of2) (hk : k1 = k2) (hi : ¬ (⟨lo1, ls1, hi1, hs1, op1⟩ : Spn) = ⟨lo2, ls2, hi2, hs2, op2⟩) :
    Calls Tryz.prog 20 #[.agg #[.int .u8 k1, .slice p1 is1.length d1, .slice a1 of1.length c1, .int .i64 lo1, .bool ls1, .int .i64 hi1, .bool hs1, .bool op1], .agg #[.int .u8 k2, .slice p2 is2.length d2, .slice a2 of2.length c2, .int .i64 lo2, .bool ls2, .int .i64 hi2, .bool hs2, .bool op2]] w fun e w' => SaysP (toX (n + 1) ((k1, is1, of1, ⟨lo1, ls1, hi1, hs1, op1⟩) : XT m (n + 1)) = toX (n' + 1) ((k2, is2, of2, ⟨lo2, ls2, hi2, hs2, op2⟩) : XT m' (n' + 1))) e ∧ Below w.heap.size w w' := by
  have HF : Hid (∀ b : Bool, (b = true ↔ (k1 = k2 ∧ (⟨lo1, ls1, hi1, hs1, op1⟩ : Spn) = ⟨lo2, ls2, hi2, hs2, op2⟩ ∧ is1.map (toF m) = is2.map (toF m') ∧ of1.map (toX n) = of2.map (toX n'))) → (b = true ↔ toX (n + 1) ((k1, is1, of1, ⟨lo1, ls1, hi1, hs1, op1⟩) : XT m (n + 1)) = toX (n' + 1) ((k2, is2, of2, ⟨lo2, ls2, hi2, hs2, op2⟩) : XT m' (n' + 1)))) := by
    intro b hb
    show b = true ↔ X.mk k1 (is1.map (toF m)) (of1.map (toX n)) ⟨lo1, ls1, hi1, hs1, op1⟩ = X.mk k2 (is2.map (toF m')) (of2.map (toX n')) ⟨lo2, ls2, hi2, hs2, op2⟩
    rw [hb, X.mk.injEq]
    exact ⟨fun ⟨h1, h2, h3, h4⟩ => ⟨h1, h3, h4, h2⟩, fun ⟨h1, h3, h4, h2⟩ => ⟨h1, h2, h3, h4⟩⟩
  have hm1 := hR1.1
  have hm2 := hR2.1
  have hm3 := hF1.1
  have hm4 := hF2.1
  have HB : Hid (Below w.heap.size w ((w.alloc (.cells #[.int .u8 k1, .slice p1 is1.length d1, .slice a1 of1.length c1, .int .i64 lo1, .bool ls1, .int .i64 hi1, .bool hs1, .bool op1] 28)).alloc (.cells #[.int .u8 k2, .slice p2 is2.length d2, .slice a2 of2.length c2, .int .i64 lo2, .bool ls2, .int .i64 hi2, .bool hs2, .bool op2] 28))) := ((Below.refl _ _).alloc (Nat.le_refl _) _).alloc (by simp) _
  have HX01 : Hid (((w.alloc (.cells #[.int .u8 k1, .slice p1 is1.length d1, .slice a1 of1.length c1, .int .i64 lo1, .bool ls1, .int .i64 hi1, .bool hs1, .bool op1] 28)).alloc (.cells #[.int .u8 k2, .slice p2 is2.length d2, .slice a2 of2.length c2, .int .i64 lo2, .bool ls2, .int .i64 hi2, .bool hs2, .bool op2] 28)).cell? ⟨w.heap.size, 1, none⟩ = some (.slice p1 is1.length d1)) := Lib.cell_of_heap (sm_in (sm_top rfl)) 1
  have HX02 : Hid (((w.alloc (.cells #[.int .u8 k1, .slice p1 is1.length d1, .slice a1 of1.length c1, .int .i64 lo1, .bool ls1, .int .i64 hi1, .bool hs1, .bool op1] 28)).alloc (.cells #[.int .u8 k2, .slice p2 is2.length d2, .slice a2 of2.length c2, .int .i64 lo2, .bool ls2, .int .i64 hi2, .bool hs2, .bool op2] 28)).cell? ⟨w.heap.size, 2, none⟩ = some (.slice a1 of1.length c1)) := Lib.cell_of_heap (sm_in (sm_top rfl)) 2
  have HX11 : Hid (((w.alloc (.cells #[.int .u8 k1, .slice p1 is1.length d1, .slice a1 of1.length c1, .int .i64 lo1, .bool ls1, .int .i64 hi1, .bool hs1, .bool op1] 28)).alloc (.cells #[.int .u8 k2, .slice p2 is2.length d2, .slice a2 of2.length c2, .int .i64 lo2, .bool ls2, .int .i64 hi2, .bool hs2, .bool op2] 28)).cell? ⟨w.heap.size + 1, 1, none⟩ = some (.slice p2 is2.length d2)) := Lib.cell_of_heap (sm_top (by simp)) 1
  have HX12 : Hid (((w.alloc (.cells #[.int .u8 k1, .slice p1 is1.length d1, .slice a1 of1.length c1, .int .i64 lo1, .bool ls1, .int .i64 hi1, .bool hs1, .bool op1] 28)).alloc (.cells #[.int .u8 k2, .slice p2 is2.length d2, .slice a2 of2.length c2, .int .i64 lo2, .bool ls2, .int .i64 hi2, .bool hs2, .bool op2] 28)).cell? ⟨w.heap.size + 1, 2, none⟩ = some (.slice a2 of2.length c2)) := Lib.cell_of_heap (sm_top (by simp)) 2
  have HR1 := Lib.hid hR1
  have HR2 := Lib.hid hR2
  have HF1 := Lib.hid hF1
  have HF2 := Lib.hid hF2
  have HIH := Lib.hid ih
  clear hR1 hR2 hF1 hF2 ih
  have HI := Lib.hid hi
  have q1 : (k1 == k2) = true := by simpa using hk
  have q1' : (k1 != k2) = false := by simp [bne, q1]
  have hc := spn_split _ _ _ _ _ _ _ _ _ _ hi
  clear hk hi
  rcases hc with hq | ⟨rfl, hq⟩ | ⟨rfl, rfl, hq⟩ | ⟨rfl, rfl, rfl, hq⟩ | ⟨rfl, rfl, rfl, rfl, hq⟩
  all_goals
    go_enter Tryz.func20, Tryz.ntmps20
    go_wp2_with fail
    all_goals go_ret
    all_goals exact ⟨SaysP.mk rfl (HF.out false ⟨fun h => (by cases h), fun h => absurd h.2.1 HI.out⟩), HB.out⟩
set_option maxRecDepth 100000 in
set_option maxHeartbeats 16000000 in
theorem same20_lens (m m' n n' : Nat) (ih : ∀ n', EqX20 m m' n n') (k1 k2 : Int) (is1 : List (FT m)) (is2 : List (FT m')) (of1 : List (XT m n)) (of2 : List (XT m' n')) (lo1 hi1 lo2 hi2 : Int) (ls1 hs1 op1 ls2 hs2 op2 : Bool) (p1 p2 a1 a2 : Option Addr) (d1 d2 c1 c2 : Nat) (w : World)
    (hF1 : FRow w w.heap.size m p1 is1) (hF2 : FRow w w.heap.size m' p2 is2) (hR1 : XRow w w.heap.size m n a1 of1) (hR2 : XRow w w.heap.size m' n' a2 of2) (hk : k1 = k2) (hi : (⟨lo1, ls1, hi1, hs1, op1⟩ : Spn) = ⟨lo2, ls2, hi2, hs2, op2⟩) (hl : is1.length ≠ is2.length ∨ of1.length ≠ of2.length) :
    Calls Tryz.prog 20 #[.agg #[.int .u8 k1, .slice p1 is1.length d1, .slice a1 of1.length c1, .int .i64 lo1, .bool ls1, .int .i64 hi1, .bool hs1, .bool op1], .agg #[.int .u8 k2, .slice p2 is2.length d2, .slice a2 of2.length c2, .int .i64 lo2, .bool ls2, .int .i64 hi2, .bool hs2, .bool op2]] w fun e w' => SaysP (toX (n + 1) ((k1, is1, of1, ⟨lo1, ls1, hi1, hs1, op1⟩) : XT m (n + 1)) = toX (n' + 1) ((k2, is2, of2, ⟨lo2, ls2, hi2, hs2, op2⟩) : XT m' (n' + 1))) e ∧ Below w.heap.size w w' := by
  have HF : Hid (∀ b : Bool, (b = true ↔ (k1 = k2 ∧ (⟨lo1, ls1, hi1, hs1, op1⟩ : Spn) = ⟨lo2, ls2, hi2, hs2, op2⟩ ∧ is1.map (toF m) = is2.map (toF m') ∧ of1.map (toX n) = of2.map (toX n'))) → (b = true ↔ toX (n + 1) ((k1, is1, of1, ⟨lo1, ls1, hi1, hs1, op1⟩) : XT m (n + 1)) = toX (n' + 1) ((k2, is2, of2, ⟨lo2, ls2, hi2, hs2, op2⟩) : XT m' (n' + 1)))) := by
    intro b hb
    show b = true ↔ X.mk k1 (is1.map (toF m)) (of1.map (toX n)) ⟨lo1, ls1, hi1, hs1, op1⟩ = X.mk k2 (is2.map (toF m')) (of2.map (toX n')) ⟨lo2, ls2, hi2, hs2, op2⟩
    rw [hb, X.mk.injEq]
    exact ⟨fun ⟨h1, h2, h3, h4⟩ => ⟨h1, h3, h4, h2⟩, fun ⟨h1, h3, h4, h2⟩ => ⟨h1, h2, h3, h4⟩⟩
  have hm1 := hR1.1
  have hm2 := hR2.1
  have hm3 := hF1.1
  have hm4 := hF2.1
  have HB : Hid (Below w.heap.size w ((w.alloc (.cells #[.int .u8 k1, .slice p1 is1.length d1, .slice a1 of1.length c1, .int .i64 lo1, .bool ls1, .int .i64 hi1, .bool hs1, .bool op1] 28)).alloc (.cells #[.int .u8 k2, .slice p2 is2.length d2, .slice a2 of2.length c2, .int .i64 lo2, .bool ls2, .int .i64 hi2, .bool hs2, .bool op2] 28))) := ((Below.refl _ _).alloc (Nat.le_refl _) _).alloc (by simp) _
  have HX01 : Hid (((w.alloc (.cells #[.int .u8 k1, .slice p1 is1.length d1, .slice a1 of1.length c1, .int .i64 lo1, .bool ls1, .int .i64 hi1, .bool hs1, .bool op1] 28)).alloc (.cells #[.int .u8 k2, .slice p2 is2.length d2, .slice a2 of2.length c2, .int .i64 lo2, .bool ls2, .int .i64 hi2, .bool hs2, .bool op2] 28)).cell? ⟨w.heap.size, 1, none⟩ = some (.slice p1 is1.length d1)) := Lib.cell_of_heap (sm_in (sm_top rfl)) 1
  have HX02 : Hid (((w.alloc (.cells #[.int .u8 k1, .slice p1 is1.length d1, .slice a1 of1.length c1, .int .i64 lo1, .bool ls1, .int .i64 hi1, .bool hs1, .bool op1] 28)).alloc (.cells #[.int .u8 k2, .slice p2 is2.length d2, .slice a2 of2.length c2, .int .i64 lo2, .bool ls2, .int .i64 hi2, .bool hs2, .bool op2] 28)).cell? ⟨w.heap.size, 2, none⟩ = some (.slice a1 of1.length c1)) := Lib.cell_of_heap (sm_in (sm_top rfl)) 2
  have HX11 : Hid (((w.alloc (.cells #[.int .u8 k1, .slice p1 is1.length d1, .slice a1 of1.length c1, .int .i64 lo1, .bool ls1, .int .i64 hi1, .bool hs1, .bool op1] 28)).alloc (.cells #[.int .u8 k2, .slice p2 is2.length d2, .slice a2 of2.length c2, .int .i64 lo2, .bool ls2, .int .i64 hi2, .bool hs2, .bool op2] 28)).cell? ⟨w.heap.size + 1, 1, none⟩ = some (.slice p2 is2.length d2)) := Lib.cell_of_heap (sm_top (by simp)) 1
  have HX12 : Hid (((w.alloc (.cells #[.int .u8 k1, .slice p1 is1.length d1, .slice a1 of1.length c1, .int .i64 lo1, .bool ls1, .int .i64 hi1, .bool hs1, .bool op1] 28)).alloc (.cells #[.int .u8 k2, .slice p2 is2.length d2, .slice a2 of2.length c2, .int .i64 lo2, .bool ls2, .int .i64 hi2, .bool hs2, .bool op2] 28)).cell? ⟨w.heap.size + 1, 2, none⟩ = some (.slice a2 of2.length c2)) := Lib.cell_of_heap (sm_top (by simp)) 2
  have HR1 := Lib.hid hR1
  have HR2 := Lib.hid hR2
  have HF1 := Lib.hid hF1
  have HF2 := Lib.hid hF2
  have HIH := Lib.hid ih
  clear hR1 hR2 hF1 hF2 ih
  have q1 : (k1 == k2) = true := by simpa using hk
  have q1' : (k1 != k2) = false := by simp [bne, q1]
  simp only [Spn.mk.injEq] at hi
  obtain ⟨rfl, rfl, rfl, rfl, rfl⟩ := hi
  by_cases hl1 : is1.length = is2.length
  · have q3 : (((is1.length : Nat) : Int) != ((is2.length : Nat) : Int)) = false := by rw [bne_eq_false_iff_eq]; omega
    have q4 : (((of1.length : Nat) : Int) != ((of2.length : Nat) : Int)) = true := by rw [bne_iff_ne]; omega
    have HNE : Hid (¬ of1.map (toX n) = of2.map (toX n')) := fun h => by have := congrArg List.length h; simp at this; omega
    clear hl hl1 hk
    go_enter Tryz.func20, Tryz.ntmps20
    go_wp2_with fail
    all_goals go_ret
    all_goals exact ⟨SaysP.mk rfl (HF.out false ⟨fun h => (by cases h), fun h => absurd h.2.2.2 HNE.out⟩), HB.out⟩
  · have q3 : (((is1.length : Nat) : Int) != ((is2.length : Nat) : Int)) = true := by rw [bne_iff_ne]; omega
    have HNE : Hid (¬ is1.map (toF m) = is2.map (toF m')) := fun h => by have := congrArg List.length h; simp at this; omega
    clear hl hl1 hk
    go_enter Tryz.func20, Tryz.ntmps20
    go_wp2_with fail
    all_goals go_ret
    all_goals exact ⟨SaysP.mk rfl (HF.out false ⟨fun h => (by cases h), fun h => absurd h.2.2.1 HNE.out⟩), HB.out⟩
set_option maxRecDepth 100000 in
set_option maxHeartbeats 16000000 in
theorem same20_on (m m' n n' : Nat) (ih : ∀ n', EqX20 m m' n n') (k1 k2 : Int) (is1 : List (FT m)) (is2 : List (FT m')) (of1 : List (XT m n)) (of2 : List (XT m' n')) (lo1 hi1 lo2 hi2 : Int) (ls1 hs1 op1 ls2 hs2 op2 : Bool) (p1 p2 a1 a2 : Option Addr) (d1 d2 c1 c2 : Nat) (w : World)
    (hF1 : FRow w w.heap.size m p1 is1) (hF2 : FRow w w.heap.size m' p2 is2) (hR1 : XRow w w.heap.size m n a1 of1) (hR2 : XRow w w.heap.size m' n' a2 of2) (hk : k1 = k2) (hi : (⟨lo1, ls1, hi1, hs1, op1⟩ : Spn) = ⟨lo2, ls2, hi2, hs2, op2⟩) (hl1 : is1.length = is2.length) (hl2 : of1.length = of2.length) :
    Calls Tryz.prog 20 #[.agg #[.int .u8 k1, .slice p1 is1.length d1, .slice a1 of1.length c1, .int .i64 lo1, .bool ls1, .int .i64 hi1, .bool hs1, .bool op1], .agg #[.int .u8 k2, .slice p2 is2.length d2, .slice a2 of2.length c2, .int .i64 lo2, .bool ls2, .int .i64 hi2, .bool hs2, .bool op2]] w fun e w' => SaysP (toX (n + 1) ((k1, is1, of1, ⟨lo1, ls1, hi1, hs1, op1⟩) : XT m (n + 1)) = toX (n' + 1) ((k2, is2, of2, ⟨lo2, ls2, hi2, hs2, op2⟩) : XT m' (n' + 1))) e ∧ Below w.heap.size w w' := by
  have HF : Hid (∀ b : Bool, (b = true ↔ (k1 = k2 ∧ (⟨lo1, ls1, hi1, hs1, op1⟩ : Spn) = ⟨lo2, ls2, hi2, hs2, op2⟩ ∧ is1.map (toF m) = is2.map (toF m') ∧ of1.map (toX n) = of2.map (toX n'))) → (b = true ↔ toX (n + 1) ((k1, is1, of1, ⟨lo1, ls1, hi1, hs1, op1⟩) : XT m (n + 1)) = toX (n' + 1) ((k2, is2, of2, ⟨lo2, ls2, hi2, hs2, op2⟩) : XT m' (n' + 1)))) := by
    intro b hb
    show b = true ↔ X.mk k1 (is1.map (toF m)) (of1.map (toX n)) ⟨lo1, ls1, hi1, hs1, op1⟩ = X.mk k2 (is2.map (toF m')) (of2.map (toX n')) ⟨lo2, ls2, hi2, hs2, op2⟩
    rw [hb, X.mk.injEq]
    exact ⟨fun ⟨h1, h2, h3, h4⟩ => ⟨h1, h3, h4, h2⟩, fun ⟨h1, h3, h4, h2⟩ => ⟨h1, h2, h3, h4⟩⟩
  have hm1 := hR1.1
  have hm2 := hR2.1
  have hm3 := hF1.1
  have hm4 := hF2.1
  have HB : Hid (Below w.heap.size w ((w.alloc (.cells #[.int .u8 k1, .slice p1 is1.length d1, .slice a1 of1.length c1, .int .i64 lo1, .bool ls1, .int .i64 hi1, .bool hs1, .bool op1] 28)).alloc (.cells #[.int .u8 k2, .slice p2 is2.length d2, .slice a2 of2.length c2, .int .i64 lo2, .bool ls2, .int .i64 hi2, .bool hs2, .bool op2] 28))) := ((Below.refl _ _).alloc (Nat.le_refl _) _).alloc (by simp) _
  have HX01 : Hid (((w.alloc (.cells #[.int .u8 k1, .slice p1 is1.length d1, .slice a1 of1.length c1, .int .i64 lo1, .bool ls1, .int .i64 hi1, .bool hs1, .bool op1] 28)).alloc (.cells #[.int .u8 k2, .slice p2 is2.length d2, .slice a2 of2.length c2, .int .i64 lo2, .bool ls2, .int .i64 hi2, .bool hs2, .bool op2] 28)).cell? ⟨w.heap.size, 1, none⟩ = some (.slice p1 is1.length d1)) := Lib.cell_of_heap (sm_in (sm_top rfl)) 1
  have HX02 : Hid (((w.alloc (.cells #[.int .u8 k1, .slice p1 is1.length d1, .slice a1 of1.length c1, .int .i64 lo1, .bool ls1, .int .i64 hi1, .bool hs1, .bool op1] 28)).alloc (.cells #[.int .u8 k2, .slice p2 is2.length d2, .slice a2 of2.length c2, .int .i64 lo2, .bool ls2, .int .i64 hi2, .bool hs2, .bool op2] 28)).cell? ⟨w.heap.size, 2, none⟩ = some (.slice a1 of1.length c1)) := Lib.cell_of_heap (sm_in (sm_top rfl)) 2
  have HX11 : Hid (((w.alloc (.cells #[.int .u8 k1, .slice p1 is1.length d1, .slice a1 of1.length c1, .int .i64 lo1, .bool ls1, .int .i64 hi1, .bool hs1, .bool op1] 28)).alloc (.cells #[.int .u8 k2, .slice p2 is2.length d2, .slice a2 of2.length c2, .int .i64 lo2, .bool ls2, .int .i64 hi2, .bool hs2, .bool op2] 28)).cell? ⟨w.heap.size + 1, 1, none⟩ = some (.slice p2 is2.length d2)) := Lib.cell_of_heap (sm_top (by simp)) 1
  have HX12 : Hid (((w.alloc (.cells #[.int .u8 k1, .slice p1 is1.length d1, .slice a1 of1.length c1, .int .i64 lo1, .bool ls1, .int .i64 hi1, .bool hs1, .bool op1] 28)).alloc (.cells #[.int .u8 k2, .slice p2 is2.length d2, .slice a2 of2.length c2, .int .i64 lo2, .bool ls2, .int .i64 hi2, .bool hs2, .bool op2] 28)).cell? ⟨w.heap.size + 1, 2, none⟩ = some (.slice a2 of2.length c2)) := Lib.cell_of_heap (sm_top (by simp)) 2
  have HR1 := Lib.hid hR1
  have HR2 := Lib.hid hR2
  have HF1 := Lib.hid hF1
  have HF2 := Lib.hid hF2
  have HIH := Lib.hid ih
  clear hR1 hR2 hF1 hF2 ih
  have q1 : (k1 == k2) = true := by simpa using hk
  have q1' : (k1 != k2) = false := by simp [bne, q1]
  have HK := Lib.hid hk
  have HK2 := Lib.hid hi
  have HLEN := Lib.hid hl1
  have HLEN2 := Lib.hid hl2
  have q3 : (((is1.length : Nat) : Int) != ((is2.length : Nat) : Int)) = false := by rw [bne_eq_false_iff_eq]; omega
  have q4 : (((of1.length : Nat) : Int) != ((of2.length : Nat) : Int)) = false := by rw [bne_eq_false_iff_eq]; omega
  simp only [Spn.mk.injEq] at hi
  obtain ⟨rfl, rfl, rfl, rfl, rfl⟩ := hi
  clear hl1 hl2 hk
  go_enter Tryz.func20, Tryz.ntmps20
  go_wp2_with fail
  clear q1 q1' q3 q4
  go_loopw [5] (fun i wr => ∃ j : Nat, j ≤ is1.length ∧ i = .int .i64 j ∧ Hid ((is1.take j).map (toF m) = (is2.take j).map (toF m')) ∧ Below w.heap.size w wr ∧ w.heap.size + 1 < wr.heap.size ∧ wr.cell? ⟨w.heap.size, 1, none⟩ = some (.slice p1 is1.length d1) ∧ wr.cell? ⟨w.heap.size, 2, none⟩ = some (.slice a1 of1.length c1) ∧ wr.cell? ⟨w.heap.size + 1, 1, none⟩ = some (.slice p2 is2.length d2) ∧ wr.cell? ⟨w.heap.size + 1, 2, none⟩ = some (.slice a2 of2.length c2)) (fun i _ => is1.length - (intOf i).toNat)
  case atStart => exact ⟨0, Nat.zero_le _, rfl, rfl, HB.out, by simp, HX01.out, HX02.out, HX11.out, HX12.out⟩
  case round =>
    obtain ⟨j, hj, rfl, HT, hbw, hsz, hb01, hb02, hb11, hb12⟩ := hrel
    have HBW := Lib.hid hbw
    by_cases hlt : j < is1.length
    · have hlt' : j < is2.length := HLEN.out ▸ hlt
      have hltI : ((j : Nat) : Int) < ((is1.length : Nat) : Int) := by omega
      have hltJ : ((j : Nat) : Int) < ((is2.length : Nat) : Int) := by omega
      obtain ⟨q1, off1, x1, y1, z1a, z1b, z1c, rfl, hq1, u0, u1, u2, hr1⟩ := (FRow.up HF1.out hbw (Nat.le_refl _)).at j hlt
      obtain ⟨q2, off2, x2, y2, z2a, z2b, z2c, rfl, hq2, v0, v1, v2, hr2⟩ := (FRow.up HF2.out hbw (Nat.le_refl _)).at j hlt'
      have hz := hbw.size
      have hq1' : q1 < wr.heap.size := by omega
      have hq2' : q2 < wr.heap.size := by omega
      have HC := Lib.hid (same41_any m m' is1[j] is2[j] _ _ wr.drew (hr1.up (Below.drew (Below.refl _ _)) (by simp; omega)) (hr2.up (Below.drew (Below.refl _ _)) (by simp; omega)))
      have HS : Hid (∀ b : Bool, (b = true ↔ (toF m) is1[j] = (toF m') is2[j]) → (b = true ↔ (is1.take (j + 1)).map (toF m) = (is2.take (j + 1)).map (toF m'))) := by
        intro b hb
        rw [List.take_succ_eq_append_getElem hlt, List.take_succ_eq_append_getElem hlt', List.map_append, List.map_append, HT.out, hb]
        constructor
        · intro h; simp [h]
        · intro h; simpa using List.append_cancel_left h
      have HNE : Hid (¬ ((is1.take (j + 1)).map (toF m) = (is2.take (j + 1)).map (toF m')) → ¬ (is1.map (toF m) = is2.map (toF m'))) := by
        intro h h2
        refine h ?_
        rw [List.map_take, List.map_take, h2]
      clear hr1 hr2 hbw
      go_upto_region 6 with fail
      go_still_tail 10, (by kernel_rfl)
      change wpList _ _ _ _ _ wr.drew
      go_wp2_with fail
      refine HC.out.mono ?_
      rintro e w3 ⟨⟨b, rfl, hb0⟩, hb3⟩
      have hb := Lib.hid hb0
      clear hb0
      have HB3 := Lib.hid (HBW.out.trans ((Below.refl w.heap.size wr).drew.trans (hb3.mono hz)))
      have hsz3 : w.heap.size + 1 < w3.heap.size := by have := hb3.size; simp at this; omega
      have g01 := (hb3.cell (p := ⟨w.heap.size, 1, none⟩) (by simp; omega)).trans hb01
      have g02 := (hb3.cell (p := ⟨w.heap.size, 2, none⟩) (by simp; omega)).trans hb02
      have g11 := (hb3.cell (p := ⟨w.heap.size + 1, 1, none⟩) (by simp; omega)).trans hb11
      have g12 := (hb3.cell (p := ⟨w.heap.size + 1, 2, none⟩) (by simp; omega)).trans hb12
      have HSB := Lib.hid (HS.out b hb.out)
      clear hb hb3 u0 u1 u2 v0 v1 v2
      cases b with
      | true =>
        go_wp2_with fail
        go_roundw
        case rel => exact ⟨j + 1, by omega, by go_num, HSB.out.1 (by first | trivial | rfl), HB3.out, hsz3, g01, g02, g11, g12⟩
        case measure => simp [intOf]; omega
      | false =>
        have HNO := Lib.hid (HNE.out (fun h => by cases HSB.out.2 h))
        clear HS HSB HNE
        go_wp2_with fail
        all_goals go_ret
        all_goals exact ⟨SaysP.mk rfl (HF.out false ⟨fun h => (by cases h), fun h => absurd h.2.2.1 HNO.out⟩), HB3.out⟩
    · have hje : j = is1.length := by omega
      have HE : Hid (is1.map (toF m) = is2.map (toF m')) := by
        rw [Hid]; have := HT.out; rw [hje, List.take_length, HLEN.out, List.take_length] at this; exact this
      have hltI : ¬ ((j : Nat) : Int) < ((is1.length : Nat) : Int) := by omega
      clear HT hje
      have HEI := HE
      clear HE hbw HLEN
      have HLEN := HLEN2
      go_wp2_with fail
      go_loopw [6] (fun i wr => ∃ j : Nat, j ≤ of1.length ∧ i = .int .i64 j ∧ Hid ((of1.take j).map (toX n) = (of2.take j).map (toX n')) ∧ Below w.heap.size w wr ∧ w.heap.size + 1 < wr.heap.size ∧ wr.cell? ⟨w.heap.size, 2, none⟩ = some (.slice a1 of1.length c1) ∧ wr.cell? ⟨w.heap.size + 1, 2, none⟩ = some (.slice a2 of2.length c2)) (fun i _ => of1.length - (intOf i).toNat)
      case atStart => exact ⟨0, Nat.zero_le _, rfl, rfl, HBW.out, hsz, hb02, hb12⟩
      case round =>
        clear HBW hsz hb01 hb02 hb11 hb12 hj hltI
        obtain ⟨j, hj, rfl, HT, hbw, hsz, hb02, hb12⟩ := hrel
        have HBW := Lib.hid hbw
        by_cases hlt : j < of1.length
        · have hlt' : j < of2.length := HLEN.out ▸ hlt
          have hltI : ((j : Nat) : Int) < ((of1.length : Nat) : Int) := by omega
          have hltJ : ((j : Nat) : Int) < ((of2.length : Nat) : Int) := by omega
          obtain ⟨q1, off1, x1, e1a, e1b, e1c, f1a, f1b, f1c, lo1', ls1', hi1', hs1', op1', rfl, hq1, u0, u1, u2, u3, u4, u5, u6, u7, hr1⟩ := (XRow.up HR1.out hbw (Nat.le_refl _)).at j hlt
          obtain ⟨q2, off2, x2, e2a, e2b, e2c, f2a, f2b, f2c, lo2', ls2', hi2', hs2', op2', rfl, hq2, v0, v1, v2, v3, v4, v5, v6, v7, hr2⟩ := (XRow.up HR2.out hbw (Nat.le_refl _)).at j hlt'
          have hz := hbw.size
          have hq1' : q1 < wr.heap.size := by omega
          have hq2' : q2 < wr.heap.size := by omega
          have HC := Lib.hid (HIH.out n' of1[j] of2[j] _ _ wr.drew (hr1.up (Below.drew (Below.refl _ _)) (by simp; omega)) (hr2.up (Below.drew (Below.refl _ _)) (by simp; omega)))
          have HS : Hid (∀ b : Bool, (b = true ↔ (toX n) of1[j] = (toX n') of2[j]) → (b = true ↔ (of1.take (j + 1)).map (toX n) = (of2.take (j + 1)).map (toX n'))) := by
            intro b hb
            rw [List.take_succ_eq_append_getElem hlt, List.take_succ_eq_append_getElem hlt', List.map_append, List.map_append, HT.out, hb]
            constructor
            · intro h; simp [h]
            · intro h; simpa using List.append_cancel_left h
          have HNE : Hid (¬ ((of1.take (j + 1)).map (toX n) = (of2.take (j + 1)).map (toX n')) → ¬ (of1.map (toX n) = of2.map (toX n'))) := by
            intro h h2
            refine h ?_
            rw [List.map_take, List.map_take, h2]
          clear hr1 hr2 hbw
          go_upto_region 11 with fail
          go_still_tail 10, (by kernel_rfl)
          change wpList _ _ _ _ _ wr.drew
          go_wp2_with fail
          refine HC.out.mono ?_
          rintro e w3 ⟨⟨b, rfl, hb0⟩, hb3⟩
          have hb := Lib.hid hb0
          clear hb0
          have HB3 := Lib.hid (HBW.out.trans ((Below.refl w.heap.size wr).drew.trans (hb3.mono hz)))
          have hsz3 : w.heap.size + 1 < w3.heap.size := by have := hb3.size; simp at this; omega
          have g02 := (hb3.cell (p := ⟨w.heap.size, 2, none⟩) (by simp; omega)).trans hb02
          have g12 := (hb3.cell (p := ⟨w.heap.size + 1, 2, none⟩) (by simp; omega)).trans hb12
          have HSB := Lib.hid (HS.out b hb.out)
          clear hb hb3 u0 u1 u2 u3 u4 u5 u6 u7 v0 v1 v2 v3 v4 v5 v6 v7
          cases b with
          | true =>
            go_wp2_with fail
            go_roundw
            case rel => exact ⟨j + 1, by omega, by go_num, HSB.out.1 (by first | trivial | rfl), HB3.out, hsz3, g02, g12⟩
            case measure => simp [intOf]; omega
          | false =>
            have HNO := Lib.hid (HNE.out (fun h => by cases HSB.out.2 h))
            clear HS HSB HNE
            go_wp2_with fail
            all_goals go_ret
            all_goals exact ⟨SaysP.mk rfl (HF.out false ⟨fun h => (by cases h), fun h => absurd h.2.2.2 HNO.out⟩), HB3.out⟩
        · have hje : j = of1.length := by omega
          have HE : Hid (of1.map (toX n) = of2.map (toX n')) := by
            rw [Hid]; have := HT.out; rw [hje, List.take_length, HLEN.out, List.take_length] at this; exact this
          have hltI : ¬ ((j : Nat) : Int) < ((of1.length : Nat) : Int) := by omega
          clear HT hje
          go_wp2_with fail
          all_goals go_ret
          all_goals exact ⟨SaysP.mk rfl (HF.out true ⟨fun _ => ⟨HK.out, HK2.out, HEI.out, HE.out⟩, fun _ => rfl⟩), HBW.out⟩
theorem same20_any (m m' : Nat) : ∀ n n' : Nat, EqX20 m m' n n' := by
  intro n
  induction n with
  | zero => intro n' t u v v' w h; exact h.elim
  | succ n ih =>
    intro n' t u v v' w h h'
    cases n' with
    | zero => exact h'.elim
    | succ n' =>
      obtain ⟨k1, is1, of1, lo1, ls1, hi1, hs1, op1⟩ := t
      obtain ⟨k2, is2, of2, lo2, ls2, hi2, hs2, op2⟩ := u
      obtain ⟨p1, d1, a1, c1, rfl, hF1, hR1⟩ := h
      obtain ⟨p2, d2, a2, c2, rfl, hF2, hR2⟩ := h'
      dsimp only at hF1 hR1 hF2 hR2 ⊢
      by_cases hk : k1 = k2
      · by_cases hi : (⟨lo1, ls1, hi1, hs1, op1⟩ : Spn) = ⟨lo2, ls2, hi2, hs2, op2⟩
        · by_cases hl1 : is1.length = is2.length
          · by_cases hl2 : of1.length = of2.length
            · exact same20_on m m' n n' ih k1 k2 is1 is2 of1 of2 lo1 hi1 lo2 hi2 ls1 hs1 op1 ls2 hs2 op2 p1 p2 a1 a2 d1 d2 c1 c2 w hF1 hF2 hR1 hR2 hk hi hl1 hl2
            · exact same20_lens m m' n n' ih k1 k2 is1 is2 of1 of2 lo1 hi1 lo2 hi2 ls1 hs1 op1 ls2 hs2 op2 p1 p2 a1 a2 d1 d2 c1 c2 w hF1 hF2 hR1 hR2 hk hi (.inr hl2)
          · exact same20_lens m m' n n' ih k1 k2 is1 is2 of1 of2 lo1 hi1 lo2 hi2 ls1 hs1 op1 ls2 hs2 op2 p1 p2 a1 a2 d1 d2 c1 c2 w hF1 hF2 hR1 hR2 hk hi (.inl hl1)
        · exact same20_in m m' n n' ih k1 k2 is1 is2 of1 of2 lo1 hi1 lo2 hi2 ls1 hs1 op1 ls2 hs2 op2 p1 p2 a1 a2 d1 d2 c1 c2 w hF1 hF2 hR1 hR2 hk hi
      · exact same20_kind m m' n n' ih k1 k2 is1 is2 of1 of2 lo1 hi1 lo2 hi2 ls1 hs1 op1 ls2 hs2 op2 p1 p2 a1 a2 d1 d2 c1 c2 w hF1 hF2 hR1 hR2 hk
end Go.Proofs.YtpgdplmndnopbaaGreatDoor

/- The book of layer 16: formulas copied. (Printed by gen_bkk.py.) -/
namespace Go.Proofs.YtpgdplmndnopbaaGreatDoor
open Go.RowKit

theorem len_le {α : Type} (f : α → Nat) : ∀ (l : List α), (∀ x ∈ l, 1 ≤ f x) → l.length ≤ (l.map f).sum
  | [], _ => by simp
  | x :: r, h => by
    have h1 := h x (by simp)
    have h2 := len_le f r (fun y hy => h y (by simp [hy]))
    simp only [List.map_cons, List.sum_cons, List.length_cons]; omega
theorem tF_pos : ∀ (n : Nat) (t : FT n), 1 ≤ tF n t
  | 0, t => nomatch t
  | n + 1, t => by rw [tF]; omega
theorem tX_pos {m : Nat} : ∀ (n : Nat) (t : XT m n), 1 ≤ tX n t
  | 0, t => nomatch t
  | n + 1, t => by rw [tX]; omega
theorem Tryz.info61 : (Tryz.prog.info? 61).map (fun i => (i.zero, i.size, i.bytes)) = some (some (.agg #[.int .u8 0, .string ⟨#[]⟩, .slice none 0 0]), 3, 48) := by kernel_rfl
/-- Behind j rounds. -/
def TwSF (n : Nat) (w wr : World) (k : Int) (s : ByteArray) (of : List (FT n)) (a : Option Addr) (c j : Nat) : Prop :=
  wr.heap[w.heap.size]? = some (.cells #[.int .u8 k, .string s, .slice a of.length c] 61 (0, 0)) ∧ wr.heap[w.heap.size + 1]? = some (.cells #[.int .u8 0, .string ⟨#[]⟩, .slice none 0 0] 61 (0, 0)) ∧
  (∃ v cs, wr.heap[w.heap.size + 2]? = some (.cells #[.int .u8 k, .string s, v] 61 (0, 0)) ∧ TwR (FRp n) 3 61 (w.heap.size + 3) wr v (of.take j) cs) ∧ Below w.heap.size w wr ∧ w.heap.size + 3 ≤ wr.heap.size
/-- One round more: what is so behind the append. -/
theorem TwSF.next {n : Nat} {w wr w4 : World} {k : Int} {s : ByteArray} {of : List (FT n)} {a : Option Addr} {c j : Nat} (hj : j < of.length)
    (h0 : wr.heap[w.heap.size]? = some (.cells #[.int .u8 k, .string s, .slice a of.length c] 61 (0, 0))) (h1 : wr.heap[w.heap.size + 1]? = some (.cells #[.int .u8 0, .string ⟨#[]⟩, .slice none 0 0] 61 (0, 0))) {v : Value} {cs : List (List Value)} (h2 : wr.heap[w.heap.size + 2]? = some (.cells #[.int .u8 k, .string s, v] 61 (0, 0)))
    (ht : TwR (FRp n) 3 61 (w.heap.size + 3) wr v (of.take j) cs) (hb : Below w.heap.size w wr) (hz : w.heap.size + 3 ≤ wr.heap.size)
    (hb4 : Below wr.heap.size wr w4) {x y z : Value} (hx : FRp n (twN wr.heap.size) w4 of[j] (.agg #[x, y, z]))
    (G cp : Nat) (W5 : World) (hown : W5.ownsRow (w.heap.size + 3) 61 3 (.slice (some ⟨G, 0, none⟩) ((of.take j).length + 1) cp) ((of.take j).length + 1) (cs.flatten ++ [x, y, z])) (hgrow : w4.grownBy W5 v.ownBlock) (hat : v.ownBlock = some G ∨ G = w4.heap.size) :
    Below (w.heap.size + 1) wr W5 ∧ W5.heap[w.heap.size + 2]? = some (.cells #[.int .u8 k, .string s, v] 61 (0, 0)) ∧ Below (w.heap.size + 1) wr (W5.setCell ⟨w.heap.size + 2, 2, none⟩ (.slice (some ⟨G, 0, none⟩) ((of.take j).length + 1) cp)) ∧
      TwSF n w (W5.setCell ⟨w.heap.size + 2, 2, none⟩ (.slice (some ⟨G, 0, none⟩) ((of.take j).length + 1) cp)) k s of a c (j + 1) := by
  have hs4 : SameFrom 0 wr w4 := SameFrom.below hb4
  have hz4 := hb4.size
  have hz5 := hgrow.size
  have hvlt := ht.lt
  have hkeep : ∀ b, b < w.heap.size + 3 → W5.heap[b]? = wr.heap[b]? := by
    intro b hbz
    rw [hgrow.block b (by omega) (fun e => by have := hvlt b e.symm; omega)]
    exact hb4.block b (by omega)
  have hstep := (ht.keep (FRp.stays n) (SameFrom.below hb4)).step (FRp.stays n) (x := of[j]) (c := [x, y, z]) rfl (Z := wr.heap.size) (by omega) hx (fun g hg => (hvlt g hg).2) hown hgrow hat
  rw [← List.take_succ_eq_append_getElem hj] at hstep
  have hbel : Below w.heap.size w W5 := (hb.trans (hb4.mono hb.size)).grown hgrow (by omega) (fun g hg => by have := hvlt g hg; omega)
  have e2 := (hkeep _ (by omega)).trans h2
  have hbel1 : Below (w.heap.size + 1) wr W5 := (hb4.mono (by omega)).grown hgrow (by omega) (fun g hg => by have := hvlt g hg; omega)
  refine ⟨hbel1, e2, Below.setCell hbel1 (p := ⟨w.heap.size + 2, 2, none⟩) (by show w.heap.size + 1 ≤ w.heap.size + 2; omega) _, ?_, ?_, ⟨_, _, twAt e2 2 _, hstep.keep (FRp.stays n) (SameFrom.setCell _ (by omega) _ _)⟩, Below.setCell hbel (p := ⟨w.heap.size + 2, 2, none⟩) (by show w.heap.size ≤ w.heap.size + 2; omega) _, by simp [World.setCell]; omega⟩
  · rw [twOther _ _ _ _ _ (by omega)]; exact (hkeep _ (by omega)).trans h0
  · rw [twOther _ _ _ _ _ (by omega)]; exact (hkeep _ (by omega)).trans h1
def TwinF (n : Nat) : Prop := ∀ (t : FT n) (v : Value) (w : World), tF n t ≤ 1000000 → FRep w w.heap.size n t v →
  Calls Tryz.prog 36 #[v] w fun e w' => (∃ v', e = .returned v' ∧ FRp n (twN w.heap.size) w' t v') ∧ Below w.heap.size w w'
theorem FRp.shape {n : Nat} {p : Nat → Bool} {w : World} {t : FT n} {v : Value} (h : FRp n p w t v) : ∃ k s a l c, v = .agg #[.int .u8 k, .string s, .slice a l c] := FRep.shape h
set_option maxRecDepth 100000 in
set_option maxHeartbeats 16000000 in
theorem twin36_any : ∀ n, TwinF n := by
  intro n
  induction n with
  | zero => intro t v w _ h; exact h.elim
  | succ n ih =>
    intro t v w ht h
    obtain ⟨k, s, of⟩ := t
    obtain ⟨a, c, rfl, hR⟩ := h
    have hR : FRow w w.heap.size n a of := hR
    dsimp only
    have hm : of.length ≤ 1000000 := by
      have ht : 1 + s.size + (of.map (tF n)).sum ≤ 1000000 := ht
      have := len_le (tF n) of (fun x _ => tF_pos n x)
      omega
    have HTX : Hid (∀ x ∈ of, tF n x ≤ 1000000) := by
      intro x hx
      have ht : 1 + s.size + (of.map (tF n)).sum ≤ 1000000 := ht
      have := le_sum (tF n) of x hx
      omega
    have HR := Lib.hid hR
    have HIH := Lib.hid ih
    obtain ⟨i0, hi, hz0, hz1, hz2⟩ := info_parts Tryz.info61
    have hb0 : Below w.heap.size w (((w.alloc (.cells #[.int .u8 k, .string s, .slice a of.length c] 61)).alloc (.cells #[.int .u8 0, .string ⟨#[]⟩, .slice none 0 0] 61)).alloc (.cells #[.int .u8 k, .string s, .slice none 0 0] 61)) := (((Below.refl _ w).alloc (Nat.le_refl _) _).alloc (by simp) _).alloc (by simp; omega) _
    have HST : Hid (TwSF n w (((w.alloc (.cells #[.int .u8 k, .string s, .slice a of.length c] 61)).alloc (.cells #[.int .u8 0, .string ⟨#[]⟩, .slice none 0 0] 61)).alloc (.cells #[.int .u8 k, .string s, .slice none 0 0] 61)) k s of a c 0) :=
      ⟨hp_in (hp_in (hp_top rfl)), hp_in (hp_top (by simp)), ⟨_, _, hp_top (by simp), TwR.nil _ _ _ _⟩, hb0, by simp⟩
    clear hR ih ht hb0
    go_enter Tryz.func36, Tryz.ntmps36
    go_wp2_with fail
    go_loopw [4] (fun i wr => ∃ j : Nat, j ≤ of.length ∧ i = .int .i64 j ∧ Hid (TwSF n w wr k s of a c j)) (fun i _ => of.length - (intOf i).toNat)
    case atStart => exact ⟨0, Nat.zero_le _, rfl, HST⟩
    case round =>
      clear HST
      obtain ⟨j, hj, rfl, HT⟩ := hrel
      obtain ⟨hk0, hk1, ⟨ov, ocs, hk2, htw⟩, hbw, hsz⟩ := HT.out
      have x2 := Lib.cell_of_heap hk0 2
      simp only [List.getElem?_toArray, List.getElem?_cons_zero, List.getElem?_cons_succ] at x2
      have HBW := Lib.hid hbw
      have HZ := Lib.hid hsz
      have HK0 := Lib.hid hk0
      have HK1 := Lib.hid hk1
      have HK2 := Lib.hid hk2
      have HTW := Lib.hid htw
      clear hk0 hk1
      by_cases hlt : j < of.length
      · have hltI : ((j : Nat) : Int) < ((of.length : Nat) : Int) := by omega
        have y2 := Lib.cell_of_heap hk2 2
        simp only [List.getElem?_toArray, List.getElem?_cons_zero, List.getElem?_cons_succ] at y2
        obtain ⟨b, off, k', s', sa, sl, sc, rfl, hbl, c0, c1, c2, hr⟩ := (FRow.up HR.out hbw (Nat.le_refl _)).at j hlt
        have hz := hbw.size
        have hbl' : b < wr.heap.size := by omega
        have HLEN : Hid ((of.take j).length = j ∧ j + 1 ≤ 1000000) := by refine Lib.hid ⟨?_, by omega⟩; rw [List.length_take]; omega
        have HC := Lib.hid (HIH.out of[j] _ wr.drew (HTX.out _ (List.getElem_mem hlt)) (hr.up (Below.drew (Below.refl _ _)) hz))
        have HSF0 : Hid (Below w.heap.size w wr.drew) := hbw.drew
        have hbw0 : b < w.heap.size := hbl
        have HS : Hid (∀ W, Below (w.heap.size + 1) wr W → W.cell? ⟨w.heap.size, 2, none⟩ = some (.slice (some ⟨b, off, none⟩) of.length c) ∧ W.cell? ⟨b, off + j * 3, none⟩ = some (.int .u8 k') ∧ W.cell? ⟨b, off + j * 3 + 1, none⟩ = some (.string s') ∧ W.cell? ⟨b, off + j * 3 + 2, none⟩ = some (.slice sa sl sc)) := by
          intro W hW
          exact ⟨(hW.cell (p := ⟨w.heap.size, 2, none⟩) (by simp)).trans x2, (hW.cell (p := ⟨b, off + j * 3, none⟩) (by simp; omega)).trans c0, (hW.cell (p := ⟨b, off + j * 3 + 1, none⟩) (by simp; omega)).trans c1, (hW.cell (p := ⟨b, off + j * 3 + 2, none⟩) (by simp; omega)).trans c2⟩
        have HSF0 : Hid (Below (w.heap.size + 1) wr wr.drew) := (Below.refl _ _).drew
        clear hr hbw htw hk2 hsz
        go_upto_region 6 with fail
        refine wp_region_held_drew (S := fun W => W.cell? ⟨w.heap.size, 2, none⟩ = some (.slice (some ⟨b, off, none⟩) of.length c) ∧ W.cell? ⟨b, off + j * 3, none⟩ = some (.int .u8 k') ∧ W.cell? ⟨b, off + j * 3 + 1, none⟩ = some (.string s') ∧ W.cell? ⟨b, off + j * 3 + 2, none⟩ = some (.slice sa sl sc)) (by kernel_rfl) (HS.out _ HSF0.out) (fun hHeld => ?_)
        refine wpAnyH_take (i := 0) (v := ?_) rfl (by kernel_rfl) (by kernel_rfl) (by kernel_rfl) (fun _ _ _ h => h) (Or.inl ⟨by kernel_rfl, ?_⟩) (by assumption) ?_
        rotate_left
        · (intro w hSw; (try dsimp only at hSw); go_simp)
          with_reducible rfl
        try simp only [Act.put, List.setIfInBounds_toArray]
        refine wpAnyH_take (i := 2) (v := ?_) rfl (by kernel_rfl) (by kernel_rfl) (by kernel_rfl) (fun _ _ _ h => h) (Or.inl ⟨by kernel_rfl, ?_⟩) (by assumption) ?_
        rotate_left
        · (intro w hSw; (try dsimp only at hSw); go_simp)
          with_reducible rfl
        try simp only [Act.put]
        refine wpAnyH_take (i := 3) (v := ?_) rfl (by kernel_rfl) (by kernel_rfl) (by kernel_rfl) (fun _ _ _ h => h) (Or.inl ⟨by kernel_rfl, ?_⟩) (by assumption) ?_
        rotate_left
        · (intro w hSw; (try dsimp only at hSw); go_simp)
          with_reducible rfl
        try simp only [Act.put]
        refine wpAnyH_take (i := 4) (v := ?_) rfl (by kernel_rfl) (by kernel_rfl) (by kernel_rfl) (fun _ _ _ h => h) (Or.inl ⟨by kernel_rfl, ?_⟩) (by assumption) ?_
        rotate_left
        · (intro w hSw; (try dsimp only at hSw); go_simp)
          with_reducible rfl
        try simp only [Act.put]
        refine wpAnyH_take (i := 5) (v := ?_) rfl (by kernel_rfl) (by kernel_rfl) (by kernel_rfl) (fun _ _ _ h => h) (Or.inl ⟨by kernel_rfl, ?_⟩) (by assumption) ?_
        rotate_left
        · (intro w hSw; (try dsimp only at hSw); go_simp)
          with_reducible rfl
        try simp only [Act.put]
        refine wpAnyH_take (i := 6) (v := ?_) rfl (by kernel_rfl) (by kernel_rfl) (by kernel_rfl) (fun _ _ _ h => h) (Or.inl ⟨by kernel_rfl, ?_⟩) (by assumption) ?_
        rotate_left
        · (intro w hSw; (try dsimp only at hSw); go_simp)
          with_reducible rfl
        try simp only [Act.put]
        refine wpAnyH_ready (rs := [1, 7]) (by kernel_rfl) (by simp) ?_
        refine AllReadyH.cons rfl (fun K hK => ?_) (AllReadyH.cons rfl (fun K hK => ?_) AllReadyH.nil)
        · go_simp
          refine hK.out _ _ (HS.out _ HSF0.out) (fun hHeld => ?_)
          clear hK K
          try simp only [Act.put, List.setIfInBounds_toArray, List.set_cons_zero, List.set_cons_succ]
          refine wpAnyH_ready (rs := [7]) (by kernel_rfl) (by simp) ?_
          refine AllReadyH.cons rfl (fun K hK => ?_) AllReadyH.nil
          go_simp
          go_at_call 36
          refine (HC.out).mono ?_
          rintro e w3 ⟨⟨v', rfl, hx⟩, hb3⟩
          obtain ⟨k3, s3, a3, l3, c3, rfl⟩ := hx.shape
          have hb03 : Below wr.heap.size wr w3 := (Below.refl _ _).drew.trans (hb3.mono (by simp))
          have HSF3 : Hid (Below (w.heap.size + 1) wr w3) := hb03.mono (by have := HZ.out; omega)
          have hb04 : Below wr.heap.size wr (w3.alloc (.cells #[.int .u8 k3, .string s3, .slice a3 l3 c3] 61)) := hb03.alloc hb03.size _
          have HSF4 : Hid (Below (w.heap.size + 1) wr (w3.alloc (.cells #[.int .u8 k3, .string s3, .slice a3 l3 c3] 61))) := hb04.mono (by have := HZ.out; omega)
          have HNB : Hid ((w3.alloc (.cells #[.int .u8 k3, .string s3, .slice a3 l3 c3] 61)).heap[w3.heap.size]? = some (.cells #[.int .u8 k3, .string s3, .slice a3 l3 c3] 61 (0, 0))) := Array.getElem?_push_size
          have HOWN4 : Hid ((w3.alloc (.cells #[.int .u8 k3, .string s3, .slice a3 l3 c3] 61)).ownsRow (w.heap.size + 3) 61 3 ov (of.take j).length ocs.flatten) := (HTW.out.keep (FRp.stays n) (SameFrom.below hb04)).own
          have HBASE4 : Hid (w.heap.size + 3 ≤ (w3.alloc (.cells #[.int .u8 k3, .string s3, .slice a3 l3 c3] 61)).heap.size) := by have := hb04.size; have := HZ.out; rw [Hid]; omega
          have hx4 : FRp n (twN wr.heap.size) (w3.alloc (.cells #[.int .u8 k3, .string s3, .slice a3 l3 c3] 61)) of[j] (.agg #[.int .u8 k3, .string s3, .slice a3 l3 c3]) := (FRp.stays n) _ _ _ _ _ _ hx (twN_goes (by simp) (SameFrom.alloc _ _))
          have HNEXT := Lib.hid (fun G cp W5 ho hg ha => TwSF.next (a := some ⟨b, off, none⟩) (c := c) hlt HK0.out HK1.out HK2.out HTW.out HBW.out HZ.out hb04 hx4 G cp W5 ho hg ha)
          have y3 := (hb03.cell (p := ⟨w.heap.size + 2, 2, none⟩) (by have := HZ.out; show w.heap.size + 2 < _; omega)).trans y2
          have y4 := (hb04.cell (p := ⟨w.heap.size + 2, 2, none⟩) (by have := HZ.out; show w.heap.size + 2 < _; omega)).trans y2
          clear hx hb3 hb03 hb04 hx4
          dsimp only
          refine hK.out _ _ (HS.out _ HSF3.out) (fun hHeld => ?_)
          clear hK K
          try simp only [Act.put, List.setIfInBounds_toArray, List.set_cons_zero, List.set_cons_succ]
          refine wpAnyH_ready (rs := [8]) (by kernel_rfl) (by simp) ?_
          refine AllReadyH.cons rfl (fun K hK => ?_) AllReadyH.nil
          go_simp
          refine hK.out _ _ (HS.out _ HSF4.out) (fun hHeld => ?_)
          clear hK K
          try simp only [Act.put, List.setIfInBounds_toArray, List.set_cons_zero, List.set_cons_succ]
          refine wpAnyH_ready (rs := [9]) (by kernel_rfl) (by simp) ?_
          refine AllReadyH.cons rfl (fun K hK => ?_) AllReadyH.nil
          refine step_append_lies _ rfl _ _ 23 rfl (w.heap.size + 3) 61 i0 _ 3 48 Tryz.underlying23 hi hz0 hz1 hz2 rfl (by decide) _ _ _ rfl HOWN4.out _ 1 1 [.int .u8 k3, .string s3, .slice a3 l3 c3] rfl rfl (World.news_of_block HNB.out) (by intro u hu; simp at hu; rcases hu with rfl | rfl | rfl <;> rfl) (by decide) (by have := HLEN.out; simp only [maxLen]; omega) (by have := HLEN.out; omega) HBASE4.out _ rfl ?_
          intro G cp W5 hown5 hgrow5 hat5 hlt5
          have hn5 := HNEXT.out G cp W5 hown5 hgrow5 hat5
          rw [HLEN.out.1] at hn5
          have HN5 := Lib.hid hn5
          clear hn5
          clear hown5 hgrow5 hat5 hlt5
          refine hK.out _ _ (HS.out _ HN5.out.1) (fun hHeld => ?_)
          clear hK K
          try simp only [Act.put, List.setIfInBounds_toArray]
          refine wpAnyH_take (i := 10) (v := ?_) rfl (by kernel_rfl) (by kernel_rfl) (by kernel_rfl) (fun _ _ _ h => h) (Or.inl ⟨by kernel_rfl, ?_⟩) (by assumption) ?_
          rotate_left
          · (intro w hSw; (try dsimp only at hSw); go_simp)
            with_reducible rfl
          try simp only [Act.put]
          refine wpAnyH_ready (rs := [11]) (by kernel_rfl) (by simp) ?_
          refine AllReadyH.cons rfl (fun K hK => ?_) AllReadyH.nil
          have hco := HN5.out.2.1
          have hd2 := Lib.cell_of_heap hco 2
          have hf2 := Lib.frozen_of_heap hco 2
          simp only [List.getElem?_toArray, List.getElem?_cons_zero, List.getElem?_cons_succ] at hd2
          clear hco
          go_simp
          refine hK.out _ _ (HS.out _ HN5.out.2.2.1) (fun hHeld => ?_)
          clear hK K
          try simp only [Act.put, List.setIfInBounds_toArray, List.set_cons_zero, List.set_cons_succ]
          refine wpAnyH_done (by kernel_rfl) ?_ _
          clear hd2 hf2 hHeld
          go_wp2_with fail
          go_roundw
          case rel => exact ⟨j + 1, by omega, by go_num, HN5.out.2.2.2⟩
          case measure => simp [intOf]; omega
        · go_simp
          go_at_call 36
          refine (HC.out).mono ?_
          rintro e w3 ⟨⟨v', rfl, hx⟩, hb3⟩
          obtain ⟨k3, s3, a3, l3, c3, rfl⟩ := hx.shape
          have hb03 : Below wr.heap.size wr w3 := (Below.refl _ _).drew.trans (hb3.mono (by simp))
          have HSF3 : Hid (Below (w.heap.size + 1) wr w3) := hb03.mono (by have := HZ.out; omega)
          have hb04 : Below wr.heap.size wr (w3.alloc (.cells #[.int .u8 k3, .string s3, .slice a3 l3 c3] 61)) := hb03.alloc hb03.size _
          have HSF4 : Hid (Below (w.heap.size + 1) wr (w3.alloc (.cells #[.int .u8 k3, .string s3, .slice a3 l3 c3] 61))) := hb04.mono (by have := HZ.out; omega)
          have HNB : Hid ((w3.alloc (.cells #[.int .u8 k3, .string s3, .slice a3 l3 c3] 61)).heap[w3.heap.size]? = some (.cells #[.int .u8 k3, .string s3, .slice a3 l3 c3] 61 (0, 0))) := Array.getElem?_push_size
          have HOWN4 : Hid ((w3.alloc (.cells #[.int .u8 k3, .string s3, .slice a3 l3 c3] 61)).ownsRow (w.heap.size + 3) 61 3 ov (of.take j).length ocs.flatten) := (HTW.out.keep (FRp.stays n) (SameFrom.below hb04)).own
          have HBASE4 : Hid (w.heap.size + 3 ≤ (w3.alloc (.cells #[.int .u8 k3, .string s3, .slice a3 l3 c3] 61)).heap.size) := by have := hb04.size; have := HZ.out; rw [Hid]; omega
          have hx4 : FRp n (twN wr.heap.size) (w3.alloc (.cells #[.int .u8 k3, .string s3, .slice a3 l3 c3] 61)) of[j] (.agg #[.int .u8 k3, .string s3, .slice a3 l3 c3]) := (FRp.stays n) _ _ _ _ _ _ hx (twN_goes (by simp) (SameFrom.alloc _ _))
          have HNEXT := Lib.hid (fun G cp W5 ho hg ha => TwSF.next (a := some ⟨b, off, none⟩) (c := c) hlt HK0.out HK1.out HK2.out HTW.out HBW.out HZ.out hb04 hx4 G cp W5 ho hg ha)
          have y3 := (hb03.cell (p := ⟨w.heap.size + 2, 2, none⟩) (by have := HZ.out; show w.heap.size + 2 < _; omega)).trans y2
          have y4 := (hb04.cell (p := ⟨w.heap.size + 2, 2, none⟩) (by have := HZ.out; show w.heap.size + 2 < _; omega)).trans y2
          clear hx hb3 hb03 hb04 hx4
          dsimp only
          refine hK.out _ _ (HS.out _ HSF3.out) (fun hHeld => ?_)
          clear hK K
          try simp only [Act.put, List.setIfInBounds_toArray, List.set_cons_zero, List.set_cons_succ]
          refine wpAnyH_ready (rs := [1, 8]) (by kernel_rfl) (by simp) ?_
          refine AllReadyH.cons rfl (fun K hK => ?_) (AllReadyH.cons rfl (fun K hK => ?_) AllReadyH.nil)
          · go_simp
            refine hK.out _ _ (HS.out _ HSF3.out) (fun hHeld => ?_)
            clear hK K
            try simp only [Act.put, List.setIfInBounds_toArray, List.set_cons_zero, List.set_cons_succ]
            refine wpAnyH_ready (rs := [8]) (by kernel_rfl) (by simp) ?_
            refine AllReadyH.cons rfl (fun K hK => ?_) AllReadyH.nil
            go_simp
            refine hK.out _ _ (HS.out _ HSF4.out) (fun hHeld => ?_)
            clear hK K
            try simp only [Act.put, List.setIfInBounds_toArray, List.set_cons_zero, List.set_cons_succ]
            refine wpAnyH_ready (rs := [9]) (by kernel_rfl) (by simp) ?_
            refine AllReadyH.cons rfl (fun K hK => ?_) AllReadyH.nil
            refine step_append_lies _ rfl _ _ 23 rfl (w.heap.size + 3) 61 i0 _ 3 48 Tryz.underlying23 hi hz0 hz1 hz2 rfl (by decide) _ _ _ rfl HOWN4.out _ 1 1 [.int .u8 k3, .string s3, .slice a3 l3 c3] rfl rfl (World.news_of_block HNB.out) (by intro u hu; simp at hu; rcases hu with rfl | rfl | rfl <;> rfl) (by decide) (by have := HLEN.out; simp only [maxLen]; omega) (by have := HLEN.out; omega) HBASE4.out _ rfl ?_
            intro G cp W5 hown5 hgrow5 hat5 hlt5
            have hn5 := HNEXT.out G cp W5 hown5 hgrow5 hat5
            rw [HLEN.out.1] at hn5
            have HN5 := Lib.hid hn5
            clear hn5
            clear hown5 hgrow5 hat5 hlt5
            refine hK.out _ _ (HS.out _ HN5.out.1) (fun hHeld => ?_)
            clear hK K
            try simp only [Act.put, List.setIfInBounds_toArray]
            refine wpAnyH_take (i := 10) (v := ?_) rfl (by kernel_rfl) (by kernel_rfl) (by kernel_rfl) (fun _ _ _ h => h) (Or.inl ⟨by kernel_rfl, ?_⟩) (by assumption) ?_
            rotate_left
            · (intro w hSw; (try dsimp only at hSw); go_simp)
              with_reducible rfl
            try simp only [Act.put]
            refine wpAnyH_ready (rs := [11]) (by kernel_rfl) (by simp) ?_
            refine AllReadyH.cons rfl (fun K hK => ?_) AllReadyH.nil
            have hco := HN5.out.2.1
            have hd2 := Lib.cell_of_heap hco 2
            have hf2 := Lib.frozen_of_heap hco 2
            simp only [List.getElem?_toArray, List.getElem?_cons_zero, List.getElem?_cons_succ] at hd2
            clear hco
            go_simp
            refine hK.out _ _ (HS.out _ HN5.out.2.2.1) (fun hHeld => ?_)
            clear hK K
            try simp only [Act.put, List.setIfInBounds_toArray, List.set_cons_zero, List.set_cons_succ]
            refine wpAnyH_done (by kernel_rfl) ?_ _
            clear hd2 hf2 hHeld
            go_wp2_with fail
            go_roundw
            case rel => exact ⟨j + 1, by omega, by go_num, HN5.out.2.2.2⟩
            case measure => simp [intOf]; omega
          · go_simp
            refine hK.out _ _ (HS.out _ HSF4.out) (fun hHeld => ?_)
            clear hK K
            try simp only [Act.put, List.setIfInBounds_toArray, List.set_cons_zero, List.set_cons_succ]
            refine wpAnyH_ready (rs := [1]) (by kernel_rfl) (by simp) ?_
            refine AllReadyH.cons rfl (fun K hK => ?_) AllReadyH.nil
            go_simp
            refine hK.out _ _ (HS.out _ HSF4.out) (fun hHeld => ?_)
            clear hK K
            try simp only [Act.put, List.setIfInBounds_toArray, List.set_cons_zero, List.set_cons_succ]
            refine wpAnyH_ready (rs := [9]) (by kernel_rfl) (by simp) ?_
            refine AllReadyH.cons rfl (fun K hK => ?_) AllReadyH.nil
            refine step_append_lies _ rfl _ _ 23 rfl (w.heap.size + 3) 61 i0 _ 3 48 Tryz.underlying23 hi hz0 hz1 hz2 rfl (by decide) _ _ _ rfl HOWN4.out _ 1 1 [.int .u8 k3, .string s3, .slice a3 l3 c3] rfl rfl (World.news_of_block HNB.out) (by intro u hu; simp at hu; rcases hu with rfl | rfl | rfl <;> rfl) (by decide) (by have := HLEN.out; simp only [maxLen]; omega) (by have := HLEN.out; omega) HBASE4.out _ rfl ?_
            intro G cp W5 hown5 hgrow5 hat5 hlt5
            have hn5 := HNEXT.out G cp W5 hown5 hgrow5 hat5
            rw [HLEN.out.1] at hn5
            have HN5 := Lib.hid hn5
            clear hn5
            clear hown5 hgrow5 hat5 hlt5
            refine hK.out _ _ (HS.out _ HN5.out.1) (fun hHeld => ?_)
            clear hK K
            try simp only [Act.put, List.setIfInBounds_toArray]
            refine wpAnyH_take (i := 10) (v := ?_) rfl (by kernel_rfl) (by kernel_rfl) (by kernel_rfl) (fun _ _ _ h => h) (Or.inl ⟨by kernel_rfl, ?_⟩) (by assumption) ?_
            rotate_left
            · (intro w hSw; (try dsimp only at hSw); go_simp)
              with_reducible rfl
            try simp only [Act.put]
            refine wpAnyH_ready (rs := [11]) (by kernel_rfl) (by simp) ?_
            refine AllReadyH.cons rfl (fun K hK => ?_) AllReadyH.nil
            have hco := HN5.out.2.1
            have hd2 := Lib.cell_of_heap hco 2
            have hf2 := Lib.frozen_of_heap hco 2
            simp only [List.getElem?_toArray, List.getElem?_cons_zero, List.getElem?_cons_succ] at hd2
            clear hco
            go_simp
            refine hK.out _ _ (HS.out _ HN5.out.2.2.1) (fun hHeld => ?_)
            clear hK K
            try simp only [Act.put, List.setIfInBounds_toArray, List.set_cons_zero, List.set_cons_succ]
            refine wpAnyH_done (by kernel_rfl) ?_ _
            clear hd2 hf2 hHeld
            go_wp2_with fail
            go_roundw
            case rel => exact ⟨j + 1, by omega, by go_num, HN5.out.2.2.2⟩
            case measure => simp [intOf]; omega
      · have hje : j = of.length := by omega
        subst hje
        have hltI : ¬ ((of.length : Nat) : Int) < ((of.length : Nat) : Int) := by omega
        have HTW' : Hid (TwR (FRp n) 3 61 (w.heap.size + 3) wr ov of ocs) := by have h := htw; rw [List.take_length] at h; exact h
        obtain ⟨oa, oc, hov, hoa⟩ := HTW'.out.slice
        subst hov
        have e0 := Lib.cell_of_heap hk2 0
        have e1 := Lib.cell_of_heap hk2 1
        have e2 := Lib.cell_of_heap hk2 2
        have d0 := Lib.cell_of_heap HK1.out 0
        have d1 := Lib.cell_of_heap HK1.out 1
        have d2 := Lib.cell_of_heap HK1.out 2
        have f0 := Lib.frozen_of_heap HK1.out 0
        have f1 := Lib.frozen_of_heap HK1.out 1
        have f2 := Lib.frozen_of_heap HK1.out 2
        simp only [List.getElem?_toArray, List.getElem?_cons_zero, List.getElem?_cons_succ] at e0 e1 e2 d0 d1 d2
        have HAT : Hid ((tw3 wr (w.heap.size + 1) (.int .u8 k) (.string s) (.slice oa of.length oc)).heap[w.heap.size + 1]? = some (.cells #[.int .u8 k, .string s, .slice oa of.length oc] 61 (0, 0))) := tw3_at HK1.out _ _ _
        have HOUT : Hid ((∃ v', Ending.returned (.agg #[.int .u8 k, .string s, .slice oa of.length oc]) = .returned v' ∧ FRp (n + 1) (twN w.heap.size) (tw3 wr (w.heap.size + 1) (.int .u8 k) (.string s) (.slice oa of.length oc)) (k, s, of) v') ∧ Below w.heap.size w (tw3 wr (w.heap.size + 1) (.int .u8 k) (.string s) (.slice oa of.length oc))) := by
          refine ⟨⟨_, rfl, ?_⟩, ?_⟩
          · have hrow := HTW'.out.row (FRp.stays n) (by decide)
            have hgo : Goes (twN (w.heap.size + 3)) (twN w.heap.size) wr (tw3 wr (w.heap.size + 1) (.int .u8 k) (.string s) (.slice oa of.length oc)) :=
              ⟨by rw [tw3_size]; exact Nat.le_refl _, fun b _ hp => by
                have hp' : w.heap.size + 3 ≤ b := of_decide_eq_true hp
                exact ⟨decide_eq_true (by omega), tw3_other _ _ _ _ _ _ (by omega)⟩⟩
            refine ⟨oa, oc, rfl, RowR.le hgo.has (by rw [tw3_size]; exact Nat.le_refl _) (fun x _ v hv => ?_) hrow⟩
            exact (FRp.stays n) _ _ _ _ _ _ hv hgo
          · have h1 : Below w.heap.size w wr := HBW.out
            exact Below.setCell (Below.setCell (Below.setCell h1 (by show w.heap.size ≤ w.heap.size + 1; omega) _) (by show w.heap.size ≤ w.heap.size + 1; omega) _) (by show w.heap.size ≤ w.heap.size + 1; omega) _
        clear hk2 htw hbw HK0 HK1 HK2 HTW HT HTW' hsz
        go_wp2_with fail
        refine bodyPost_ret (results_cell_row rfl _ _ _ _ _ _ _ rfl HAT.out Tryz.underlying61 rfl (by kernel_rfl)) rfl ?_
        exact HOUT.out
end Go.Proofs.YtpgdplmndnopbaaGreatDoor

/- The book of layer 16: expressions copied. (Printed by gen_bkl.py.) -/
namespace Go.Proofs.YtpgdplmndnopbaaGreatDoor
open Go.RowKit

theorem Tryz.info28 : (Tryz.prog.info? 28).map (fun i => (i.zero, i.size, i.bytes)) = some (some (.agg #[.int .u8 0, .slice none 0 0, .slice none 0 0, .int .i64 0, .bool false, .int .i64 0, .bool false, .bool false]), 8, 88) := by kernel_rfl
/-- The blocks from lo on, below hi. -/
def pB (lo hi : Nat) : Nat → Bool := fun b => decide (lo ≤ b) && decide (b < hi)
theorem pB_out {lo hi b : Nat} (h : pB lo hi b = true) : lo ≤ b ∧ b < hi := by
  simpa [pB] using h
def RowP {α : Type} (R : (Nat → Bool) → World → α → Value → Prop) (C : Nat) (p : Nat → Bool) (w : World) (a : Option Addr) (l : List α) : Prop := RowR (cutP p w) w.heap.size C (fun x v => R p w x v) a l
theorem RowP.go {α : Type} {R : (Nat → Bool) → World → α → Value → Prop} (hR : Stays R) {C : Nat} {p q : Nat → Bool} {w w' : World} {a : Option Addr} {l : List α} (h : RowP R C p w a l) (hg : Goes p q w w') : RowP R C q w' a l :=
  RowR.le hg.has hg.1 (fun x _ v hv => hR _ _ _ _ _ _ hv hg) h
def TwX1 (m n : Nat) (w wr : World) (k lo hi : Int) (ls hs op : Bool) (is : List (FT m)) (of : List (XT m n)) (a1 : Option Addr) (c1 : Nat) (a : Option Addr) (c : Nat) (j : Nat) : Prop :=
  wr.heap[w.heap.size]? = some (.cells #[.int .u8 k, .slice a1 is.length c1, .slice a of.length c, .int .i64 lo, .bool ls, .int .i64 hi, .bool hs, .bool op] 28 (0, 0)) ∧ wr.heap[w.heap.size + 1]? = some (.cells #[.int .u8 0, .slice none 0 0, .slice none 0 0, .int .i64 0, .bool false, .int .i64 0, .bool false, .bool false] 28 (0, 0)) ∧
  (∃ v cs, wr.heap[w.heap.size + 2]? = some (.cells #[.int .u8 k, v, .slice none 0 0, .int .i64 lo, .bool ls, .int .i64 hi, .bool hs, .bool op] 28 (0, 0)) ∧ TwR (FRp m) 3 61 (w.heap.size + 3) wr v (is.take j) cs) ∧ Below w.heap.size w wr ∧ w.heap.size + 3 ≤ wr.heap.size
def TwX2 (m n : Nat) (w wr : World) (k lo hi : Int) (ls hs op : Bool) (is : List (FT m)) (of : List (XT m n)) (a1 : Option Addr) (c1 : Nat) (a : Option Addr) (c : Nat) (hh j : Nat) : Prop :=
  wr.heap[w.heap.size]? = some (.cells #[.int .u8 k, .slice a1 is.length c1, .slice a of.length c, .int .i64 lo, .bool ls, .int .i64 hi, .bool hs, .bool op] 28 (0, 0)) ∧ wr.heap[w.heap.size + 1]? = some (.cells #[.int .u8 0, .slice none 0 0, .slice none 0 0, .int .i64 0, .bool false, .int .i64 0, .bool false, .bool false] 28 (0, 0)) ∧
  (∃ ra rc v cs, wr.heap[w.heap.size + 2]? = some (.cells #[.int .u8 k, .slice ra is.length rc, v, .int .i64 lo, .bool ls, .int .i64 hi, .bool hs, .bool op] 28 (0, 0)) ∧ RowP (FRp m) 3 (pB (w.heap.size + 3) hh) wr ra is ∧ TwR (XRp m n) 8 28 hh wr v (of.take j) cs) ∧ Below w.heap.size w wr ∧ hh ≤ wr.heap.size ∧ w.heap.size + 3 ≤ hh
theorem TwX1.next {m n : Nat} {w wr w4 : World} {k lo hi : Int} {ls hs op : Bool} {is : List (FT m)} {of : List (XT m n)} {a1 a : Option Addr} {c1 c j : Nat} (hj : j < is.length)
    (h0 : wr.heap[w.heap.size]? = some (.cells #[.int .u8 k, .slice a1 is.length c1, .slice a of.length c, .int .i64 lo, .bool ls, .int .i64 hi, .bool hs, .bool op] 28 (0, 0))) (h1 : wr.heap[w.heap.size + 1]? = some (.cells #[.int .u8 0, .slice none 0 0, .slice none 0 0, .int .i64 0, .bool false, .int .i64 0, .bool false, .bool false] 28 (0, 0))) {v : Value} {cs : List (List Value)} (h2 : wr.heap[w.heap.size + 2]? = some (.cells #[.int .u8 k, v, .slice none 0 0, .int .i64 lo, .bool ls, .int .i64 hi, .bool hs, .bool op] 28 (0, 0)))
    (ht : TwR (FRp m) 3 61 (w.heap.size + 3) wr v (is.take j) cs) (hb : Below w.heap.size w wr) (hz : w.heap.size + 3 ≤ wr.heap.size)
    (hb4 : Below wr.heap.size wr w4) {x y z : Value} (hx : (FRp m) (twN wr.heap.size) w4 is[j] (.agg #[x, y, z]))
    (G cp : Nat) (W5 : World) (hown : W5.ownsRow (w.heap.size + 3) 61 3 (.slice (some ⟨G, 0, none⟩) ((is.take j).length + 1) cp) ((is.take j).length + 1) (cs.flatten ++ [x, y, z])) (hgrow : w4.grownBy W5 v.ownBlock) (hat : v.ownBlock = some G ∨ G = w4.heap.size) :
    Below (w.heap.size + 1) wr W5 ∧ W5.heap[w.heap.size + 2]? = some (.cells #[.int .u8 k, v, .slice none 0 0, .int .i64 lo, .bool ls, .int .i64 hi, .bool hs, .bool op] 28 (0, 0)) ∧ Below (w.heap.size + 1) wr (W5.setCell ⟨w.heap.size + 2, 1, none⟩ (.slice (some ⟨G, 0, none⟩) ((is.take j).length + 1) cp)) ∧ TwX1 m n w (W5.setCell ⟨w.heap.size + 2, 1, none⟩ (.slice (some ⟨G, 0, none⟩) ((is.take j).length + 1) cp)) k lo hi ls hs op is of a1 c1 a c (j + 1) := by
  have hz4 := hb4.size
  have hz5 := hgrow.size
  have hvlt := ht.lt
  have hkeep : ∀ b, b < w.heap.size + 3 → W5.heap[b]? = wr.heap[b]? := by
    intro b hbz
    rw [hgrow.block b (by omega) (fun e => by have := hvlt b e.symm; omega)]
    exact hb4.block b (by omega)
  have hstep := (ht.keep (FRp.stays m) (SameFrom.below hb4)).step (FRp.stays m) (x := is[j]) (c := [x, y, z]) rfl (Z := wr.heap.size) (by omega) hx (fun g hg => (hvlt g hg).2) hown hgrow hat
  rw [← List.take_succ_eq_append_getElem hj] at hstep
  have hbel : Below w.heap.size w W5 := (hb.trans (hb4.mono hb.size)).grown hgrow (by omega) (fun g hg => by have := hvlt g hg; omega)
  have e2 := (hkeep _ (by omega)).trans h2
  have hbel1 : Below (w.heap.size + 1) wr W5 := (hb4.mono (by omega)).grown hgrow (by omega) (fun g hg => by have := hvlt g hg; omega)
  refine ⟨hbel1, e2, Below.setCell hbel1 (p := ⟨w.heap.size + 2, 1, none⟩) (by show w.heap.size + 1 ≤ w.heap.size + 2; omega) _, ?_, ?_, ⟨_, _, twAt e2 1 _, hstep.keep (FRp.stays m) (SameFrom.setCell _ (by omega) _ _)⟩, Below.setCell hbel (p := ⟨w.heap.size + 2, 1, none⟩) (by show w.heap.size ≤ w.heap.size + 2; omega) _, by simp [World.setCell]; omega⟩
  · rw [twOther _ _ _ _ _ (by omega)]; exact (hkeep _ (by omega)).trans h0
  · rw [twOther _ _ _ _ _ (by omega)]; exact (hkeep _ (by omega)).trans h1
theorem TwX2.next {m n : Nat} {w wr w4 : World} {k lo hi : Int} {ls hs op : Bool} {is : List (FT m)} {of : List (XT m n)} {a1 a : Option Addr} {c1 c j : Nat} {ra : Option Addr} {rc hh : Nat} (hj : j < of.length)
    (h0 : wr.heap[w.heap.size]? = some (.cells #[.int .u8 k, .slice a1 is.length c1, .slice a of.length c, .int .i64 lo, .bool ls, .int .i64 hi, .bool hs, .bool op] 28 (0, 0))) (h1 : wr.heap[w.heap.size + 1]? = some (.cells #[.int .u8 0, .slice none 0 0, .slice none 0 0, .int .i64 0, .bool false, .int .i64 0, .bool false, .bool false] 28 (0, 0))) {v : Value} {cs : List (List Value)} (h2 : wr.heap[w.heap.size + 2]? = some (.cells #[.int .u8 k, .slice ra is.length rc, v, .int .i64 lo, .bool ls, .int .i64 hi, .bool hs, .bool op] 28 (0, 0)))
    (hrw : RowP (FRp m) 3 (pB (w.heap.size + 3) hh) wr ra is) (ht : TwR (XRp m n) 8 28 hh wr v (of.take j) cs) (hb : Below w.heap.size w wr) (hz : hh ≤ wr.heap.size) (hlo : w.heap.size + 3 ≤ hh)
    (hb4 : Below wr.heap.size wr w4) {x0 x1 x2 x3 x4 x5 x6 x7 : Value} (hx : (XRp m n) (twN wr.heap.size) w4 of[j] (.agg #[x0, x1, x2, x3, x4, x5, x6, x7]))
    (G cp : Nat) (W5 : World) (hown : W5.ownsRow hh 28 8 (.slice (some ⟨G, 0, none⟩) ((of.take j).length + 1) cp) ((of.take j).length + 1) (cs.flatten ++ [x0, x1, x2, x3, x4, x5, x6, x7])) (hgrow : w4.grownBy W5 v.ownBlock) (hat : v.ownBlock = some G ∨ G = w4.heap.size) :
    Below (w.heap.size + 1) wr W5 ∧ W5.heap[w.heap.size + 2]? = some (.cells #[.int .u8 k, .slice ra is.length rc, v, .int .i64 lo, .bool ls, .int .i64 hi, .bool hs, .bool op] 28 (0, 0)) ∧ Below (w.heap.size + 1) wr (W5.setCell ⟨w.heap.size + 2, 2, none⟩ (.slice (some ⟨G, 0, none⟩) ((of.take j).length + 1) cp)) ∧ TwX2 m n w (W5.setCell ⟨w.heap.size + 2, 2, none⟩ (.slice (some ⟨G, 0, none⟩) ((of.take j).length + 1) cp)) k lo hi ls hs op is of a1 c1 a c hh (j + 1) := by
  have hz4 := hb4.size
  have hz5 := hgrow.size
  have hvlt := ht.lt
  have hkeep : ∀ b, b < hh → W5.heap[b]? = wr.heap[b]? := by
    intro b hbz
    rw [hgrow.block b (by omega) (fun e => by have := hvlt b e.symm; omega)]
    exact hb4.block b (by omega)
  have hstep := (ht.keep (XRp.stays m n) (SameFrom.below hb4)).step (XRp.stays m n) (x := of[j]) (c := [x0, x1, x2, x3, x4, x5, x6, x7]) rfl (Z := wr.heap.size) (by omega) hx (fun g hg => (hvlt g hg).2) hown hgrow hat
  rw [← List.take_succ_eq_append_getElem hj] at hstep
  have hbel : Below w.heap.size w W5 := (hb.trans (hb4.mono hb.size)).grown hgrow (by omega) (fun g hg => by have := hvlt g hg; omega)
  have e2 := (hkeep _ (by omega)).trans h2
  have hbel1 : Below (w.heap.size + 1) wr W5 := (hb4.mono (by omega)).grown hgrow (by omega) (fun g hg => by have := hvlt g hg; omega)
  have hrow6 : RowP (FRp m) 3 (pB (w.heap.size + 3) hh) (W5.setCell ⟨w.heap.size + 2, 2, none⟩ (.slice (some ⟨G, 0, none⟩) ((of.take j).length + 1) cp)) ra is := RowP.go (FRp.stays m) hrw ⟨by simp [World.setCell]; omega, fun b hbz hp => ⟨hp, by
    have hp2 := pB_out hp
    rw [twOther _ _ _ _ _ (by omega)]
    exact hkeep b (by omega)⟩⟩
  refine ⟨hbel1, e2, Below.setCell hbel1 (p := ⟨w.heap.size + 2, 2, none⟩) (by show w.heap.size + 1 ≤ w.heap.size + 2; omega) _, ?_, ?_, ⟨ra, rc, _, _, twAt e2 2 _, hrow6, hstep.keep (XRp.stays m n) (SameFrom.setCell _ (by omega) _ _)⟩, Below.setCell hbel (p := ⟨w.heap.size + 2, 2, none⟩) (by show w.heap.size ≤ w.heap.size + 2; omega) _, by simp [World.setCell]; omega, hlo⟩
  · rw [twOther _ _ _ _ _ (by omega)]; exact (hkeep _ (by omega)).trans h0
  · rw [twOther _ _ _ _ _ (by omega)]; exact (hkeep _ (by omega)).trans h1
def TwinX (m n : Nat) : Prop := ∀ (t : XT m n) (v : Value) (w : World), tX n t ≤ 1000000 → XRep w w.heap.size m n t v →
  Calls Tryz.prog 17 #[v] w fun e w' => (∃ v', e = .returned v' ∧ XRp m n (twN w.heap.size) w' t v') ∧ Below w.heap.size w w'
theorem XRp.shape {m n : Nat} {p : Nat → Bool} {w : World} {t : XT m n} {v : Value} (h : XRp m n p w t v) : ∃ k a1 l1 c1 a2 l2 c2 lo ls hi hs op, v = .agg #[.int .u8 k, .slice a1 l1 c1, .slice a2 l2 c2, .int .i64 lo, .bool ls, .int .i64 hi, .bool hs, .bool op] := XRep.shape h
set_option maxRecDepth 100000 in
set_option maxHeartbeats 16000000 in
theorem twin17_any (m : Nat) : ∀ n, TwinX m n := by
  intro n
  induction n with
  | zero => intro t v w _ h; exact h.elim
  | succ n ih =>
    intro t v w ht h
    obtain ⟨k, is, of, lo, ls, hi, hs, op⟩ := t
    obtain ⟨a1, c1, a, c, rfl, hR1, hR⟩ := h
    dsimp only at hR hR1 ⊢
    have ht : 1 + (is.map (tF m)).sum + (of.map (tX n)).sum ≤ 1000000 := ht
    have hm : of.length ≤ 1000000 := by
      have := len_le (tX n) of (fun x _ => tX_pos n x)
      omega
    have hm1 : is.length ≤ 1000000 := by
      have := len_le (tF m) is (fun x _ => tF_pos m x)
      omega
    have HTX : Hid (∀ x ∈ of, tX n x ≤ 1000000) := by
      intro x hx
      have := le_sum (tX n) of x hx
      omega
    have HTF : Hid (∀ x ∈ is, tF m x ≤ 1000000) := by
      intro x hx
      have := le_sum (tF m) is x hx
      omega
    have HR := Lib.hid hR
    have HR1 := Lib.hid hR1
    have HIH := Lib.hid ih
    obtain ⟨i1, hi1, hz10, hz11, hz12⟩ := info_parts Tryz.info61
    obtain ⟨i2, hi2, hz20, hz21, hz22⟩ := info_parts Tryz.info28
    have hb0 : Below w.heap.size w (((w.alloc (.cells #[.int .u8 k, .slice a1 is.length c1, .slice a of.length c, .int .i64 lo, .bool ls, .int .i64 hi, .bool hs, .bool op] 28)).alloc (.cells #[.int .u8 0, .slice none 0 0, .slice none 0 0, .int .i64 0, .bool false, .int .i64 0, .bool false, .bool false] 28)).alloc (.cells #[.int .u8 k, .slice none 0 0, .slice none 0 0, .int .i64 lo, .bool ls, .int .i64 hi, .bool hs, .bool op] 28)) := (((Below.refl _ w).alloc (Nat.le_refl _) _).alloc (by simp) _).alloc (by simp; omega) _
    have HST : Hid (TwX1 m n w (((w.alloc (.cells #[.int .u8 k, .slice a1 is.length c1, .slice a of.length c, .int .i64 lo, .bool ls, .int .i64 hi, .bool hs, .bool op] 28)).alloc (.cells #[.int .u8 0, .slice none 0 0, .slice none 0 0, .int .i64 0, .bool false, .int .i64 0, .bool false, .bool false] 28)).alloc (.cells #[.int .u8 k, .slice none 0 0, .slice none 0 0, .int .i64 lo, .bool ls, .int .i64 hi, .bool hs, .bool op] 28)) k lo hi ls hs op is of a1 c1 a c 0) :=
      ⟨hp_in (hp_in (hp_top rfl)), hp_in (hp_top (by simp)), ⟨_, _, hp_top (by simp), TwR.nil _ _ _ _⟩, hb0, by simp⟩
    clear hR hR1 ih ht hb0
    go_enter Tryz.func17, Tryz.ntmps17
    go_wp2_with fail
    go_loopw [4] (fun i wr => ∃ j : Nat, j ≤ is.length ∧ i = .int .i64 j ∧ Hid (TwX1 m n w wr k lo hi ls hs op is of a1 c1 a c j)) (fun i _ => is.length - (intOf i).toNat)
    case atStart => exact ⟨0, Nat.zero_le _, rfl, HST⟩
    case round =>
      clear HST
      obtain ⟨j, hj, rfl, HT⟩ := hrel
      obtain ⟨hk0, hk1, ⟨ov, ocs, hk2, htw⟩, hbw, hsz⟩ := HT.out
      have x1 := Lib.cell_of_heap hk0 1
      have x2 := Lib.cell_of_heap hk0 2
      simp only [List.getElem?_toArray, List.getElem?_cons_zero, List.getElem?_cons_succ] at x1 x2
      have HBW := Lib.hid hbw
      have HZ := Lib.hid hsz
      have HLO : Hid (w.heap.size + 3 ≤ w.heap.size + 3) := Nat.le_refl _
      have HK0 := Lib.hid hk0
      have HK1 := Lib.hid hk1
      have HK2 := Lib.hid hk2
      have HTW := Lib.hid htw
      clear hk0 hk1
      by_cases hlt : j < is.length
      · have hltI : ((j : Nat) : Int) < ((is.length : Nat) : Int) := by omega
        have y1 := Lib.cell_of_heap hk2 1
        simp only [List.getElem?_toArray, List.getElem?_cons_zero, List.getElem?_cons_succ] at y1
        obtain ⟨b, off, k', s', sa, sl, sc, rfl, hbl, r0, r1, r2, hr⟩ := (FRow.up HR1.out hbw (Nat.le_refl _)).at j hlt
        have hz := hbw.size
        have hbl' : b < wr.heap.size := by omega
        have HLEN : Hid ((is.take j).length = j ∧ j + 1 ≤ 1000000) := by refine Lib.hid ⟨?_, by omega⟩; rw [List.length_take]; omega
        have HC := Lib.hid (twin36_any m is[j] _ wr.drew (HTF.out _ (List.getElem_mem hlt)) (hr.up (Below.drew (Below.refl _ _)) hz))
        have hbw0 : b < w.heap.size := hbl
        have HS : Hid (∀ W, Below (w.heap.size + 1) wr W → W.cell? ⟨w.heap.size, 1, none⟩ = some (.slice (some ⟨b, off, none⟩) is.length c1) ∧ W.cell? ⟨b, off + j * 3, none⟩ = some (.int .u8 k') ∧ W.cell? ⟨b, off + j * 3 + 1, none⟩ = some (.string s') ∧ W.cell? ⟨b, off + j * 3 + 2, none⟩ = some (.slice sa sl sc)) := by
          intro W hW
          exact ⟨(hW.cell (p := ⟨w.heap.size, 1, none⟩) (by simp)).trans x1, (hW.cell (p := ⟨b, off + j * 3, none⟩) (by simp; omega)).trans r0, (hW.cell (p := ⟨b, off + j * 3 + 1, none⟩) (by simp; omega)).trans r1, (hW.cell (p := ⟨b, off + j * 3 + 2, none⟩) (by simp; omega)).trans r2⟩
        have HSF0 : Hid (Below (w.heap.size + 1) wr wr.drew) := (Below.refl _ _).drew
        clear hr hbw htw hk2 hsz
        go_upto_region 7 with fail
        refine wp_region_held_drew (S := fun W => W.cell? ⟨w.heap.size, 1, none⟩ = some (.slice (some ⟨b, off, none⟩) is.length c1) ∧ W.cell? ⟨b, off + j * 3, none⟩ = some (.int .u8 k') ∧ W.cell? ⟨b, off + j * 3 + 1, none⟩ = some (.string s') ∧ W.cell? ⟨b, off + j * 3 + 2, none⟩ = some (.slice sa sl sc)) (by kernel_rfl) (HS.out _ HSF0.out) (fun hHeld => ?_)
        refine wpAnyH_take (i := 0) (v := ?_) rfl (by kernel_rfl) (by kernel_rfl) (by kernel_rfl) (fun _ _ _ h => h) (Or.inl ⟨by kernel_rfl, ?_⟩) (by assumption) ?_
        rotate_left
        · (intro w hSw; (try dsimp only at hSw); go_simp)
          with_reducible rfl
        try simp only [Act.put, List.setIfInBounds_toArray]
        refine wpAnyH_take (i := 2) (v := ?_) rfl (by kernel_rfl) (by kernel_rfl) (by kernel_rfl) (fun _ _ _ h => h) (Or.inl ⟨by kernel_rfl, ?_⟩) (by assumption) ?_
        rotate_left
        · (intro w hSw; (try dsimp only at hSw); go_simp)
          with_reducible rfl
        try simp only [Act.put]
        refine wpAnyH_take (i := 3) (v := ?_) rfl (by kernel_rfl) (by kernel_rfl) (by kernel_rfl) (fun _ _ _ h => h) (Or.inl ⟨by kernel_rfl, ?_⟩) (by assumption) ?_
        rotate_left
        · (intro w hSw; (try dsimp only at hSw); go_simp)
          with_reducible rfl
        try simp only [Act.put]
        refine wpAnyH_take (i := 4) (v := ?_) rfl (by kernel_rfl) (by kernel_rfl) (by kernel_rfl) (fun _ _ _ h => h) (Or.inl ⟨by kernel_rfl, ?_⟩) (by assumption) ?_
        rotate_left
        · (intro w hSw; (try dsimp only at hSw); go_simp)
          with_reducible rfl
        try simp only [Act.put]
        refine wpAnyH_take (i := 5) (v := ?_) rfl (by kernel_rfl) (by kernel_rfl) (by kernel_rfl) (fun _ _ _ h => h) (Or.inl ⟨by kernel_rfl, ?_⟩) (by assumption) ?_
        rotate_left
        · (intro w hSw; (try dsimp only at hSw); go_simp)
          with_reducible rfl
        try simp only [Act.put]
        refine wpAnyH_take (i := 6) (v := ?_) rfl (by kernel_rfl) (by kernel_rfl) (by kernel_rfl) (fun _ _ _ h => h) (Or.inl ⟨by kernel_rfl, ?_⟩) (by assumption) ?_
        rotate_left
        · (intro w hSw; (try dsimp only at hSw); go_simp)
          with_reducible rfl
        try simp only [Act.put]
        refine wpAnyH_ready (rs := [1, 7]) (by kernel_rfl) (by simp) ?_
        refine AllReadyH.cons rfl (fun K hK => ?_) (AllReadyH.cons rfl (fun K hK => ?_) AllReadyH.nil)
        · go_simp
          refine hK.out _ _ (HS.out _ HSF0.out) (fun hHeld => ?_)
          clear hK K
          try simp only [Act.put, List.setIfInBounds_toArray, List.set_cons_zero, List.set_cons_succ]
          refine wpAnyH_ready (rs := [7]) (by kernel_rfl) (by simp) ?_
          refine AllReadyH.cons rfl (fun K hK => ?_) AllReadyH.nil
          go_simp
          go_at_call 36
          refine (HC.out).mono ?_
          rintro e w3 ⟨⟨v', rfl, hx⟩, hb3⟩
          obtain ⟨k3, s3, a3, l3, c3, rfl⟩ := hx.shape
          have hb03 : Below wr.heap.size wr w3 := (Below.refl _ _).drew.trans (hb3.mono (by simp))
          have HSF3 : Hid (Below (w.heap.size + 1) wr w3) := hb03.mono (by have := HZ.out; have := HLO.out; omega)
          have hb04 : Below wr.heap.size wr (w3.alloc (.cells #[.int .u8 k3, .string s3, .slice a3 l3 c3] 61)) := hb03.alloc hb03.size _
          have HSF4 : Hid (Below (w.heap.size + 1) wr (w3.alloc (.cells #[.int .u8 k3, .string s3, .slice a3 l3 c3] 61))) := hb04.mono (by have := HZ.out; have := HLO.out; omega)
          have HNB : Hid ((w3.alloc (.cells #[.int .u8 k3, .string s3, .slice a3 l3 c3] 61)).heap[w3.heap.size]? = some (.cells #[.int .u8 k3, .string s3, .slice a3 l3 c3] 61 (0, 0))) := Array.getElem?_push_size
          have HOWN4 : Hid ((w3.alloc (.cells #[.int .u8 k3, .string s3, .slice a3 l3 c3] 61)).ownsRow (w.heap.size + 3) 61 3 ov (is.take j).length ocs.flatten) := (HTW.out.keep (FRp.stays m) (SameFrom.below hb04)).own
          have HBASE4 : Hid (w.heap.size + 3 ≤ (w3.alloc (.cells #[.int .u8 k3, .string s3, .slice a3 l3 c3] 61)).heap.size) := by have := hb04.size; have := HZ.out; rw [Hid]; omega
          have hx4 : (FRp m) (twN wr.heap.size) (w3.alloc (.cells #[.int .u8 k3, .string s3, .slice a3 l3 c3] 61)) is[j] (.agg #[.int .u8 k3, .string s3, .slice a3 l3 c3]) := (FRp.stays m) _ _ _ _ _ _ hx (twN_goes (by simp) (SameFrom.alloc _ _))
          have HNEXT := Lib.hid (fun G cp W5 ho hg ha => TwX1.next (a1 := some ⟨b, off, none⟩) (c1 := c1) (a := a) (c := c) (of := of) hlt HK0.out HK1.out HK2.out HTW.out HBW.out HZ.out hb04 hx4 G cp W5 ho hg ha)
          have y3 := (hb03.cell (p := ⟨w.heap.size + 2, 1, none⟩) (by have := HZ.out; have := HLO.out; show w.heap.size + 2 < _; omega)).trans y1
          have y4 := (hb04.cell (p := ⟨w.heap.size + 2, 1, none⟩) (by have := HZ.out; have := HLO.out; show w.heap.size + 2 < _; omega)).trans y1
          clear hx hb3 hb03 hb04 hx4
          dsimp only
          refine hK.out _ _ (HS.out _ HSF3.out) (fun hHeld => ?_)
          clear hK K
          try simp only [Act.put, List.setIfInBounds_toArray, List.set_cons_zero, List.set_cons_succ]
          refine wpAnyH_ready (rs := [8]) (by kernel_rfl) (by simp) ?_
          refine AllReadyH.cons rfl (fun K hK => ?_) AllReadyH.nil
          go_simp
          refine hK.out _ _ (HS.out _ HSF4.out) (fun hHeld => ?_)
          clear hK K
          try simp only [Act.put, List.setIfInBounds_toArray, List.set_cons_zero, List.set_cons_succ]
          refine wpAnyH_ready (rs := [9]) (by kernel_rfl) (by simp) ?_
          refine AllReadyH.cons rfl (fun K hK => ?_) AllReadyH.nil
          refine step_append_lies _ rfl _ _ 23 rfl (w.heap.size + 3) 61 i1 _ 3 48 Tryz.underlying23 hi1 hz10 hz11 hz12 rfl (by decide) _ _ _ rfl HOWN4.out _ 1 1 [.int .u8 k3, .string s3, .slice a3 l3 c3] rfl rfl (World.news_of_block HNB.out) (by intro u hu; simp at hu; rcases hu with rfl | rfl | rfl <;> rfl) (by decide) (by have := HLEN.out; simp only [maxLen]; omega) (by have := HLEN.out; omega) HBASE4.out _ rfl ?_
          intro G cp W5 hown5 hgrow5 hat5 hlt5
          have hn5 := HNEXT.out G cp W5 hown5 hgrow5 hat5
          rw [HLEN.out.1] at hn5
          have HN5 := Lib.hid hn5
          clear hn5
          clear hown5 hgrow5 hat5 hlt5
          refine hK.out _ _ (HS.out _ HN5.out.1) (fun hHeld => ?_)
          clear hK K
          try simp only [Act.put, List.setIfInBounds_toArray]
          refine wpAnyH_take (i := 10) (v := ?_) rfl (by kernel_rfl) (by kernel_rfl) (by kernel_rfl) (fun _ _ _ h => h) (Or.inl ⟨by kernel_rfl, ?_⟩) (by assumption) ?_
          rotate_left
          · (intro w hSw; (try dsimp only at hSw); go_simp)
            with_reducible rfl
          try simp only [Act.put]
          refine wpAnyH_ready (rs := [11]) (by kernel_rfl) (by simp) ?_
          refine AllReadyH.cons rfl (fun K hK => ?_) AllReadyH.nil
          have hco := HN5.out.2.1
          have hd := Lib.cell_of_heap hco 1
          have hf := Lib.frozen_of_heap hco 1
          simp only [List.getElem?_toArray, List.getElem?_cons_zero, List.getElem?_cons_succ] at hd
          clear hco
          go_simp
          refine hK.out _ _ (HS.out _ HN5.out.2.2.1) (fun hHeld => ?_)
          clear hK K
          try simp only [Act.put, List.setIfInBounds_toArray, List.set_cons_zero, List.set_cons_succ]
          refine wpAnyH_done (by kernel_rfl) ?_ _
          clear hd hf hHeld
          go_wp2_with fail
          go_roundw
          case rel => exact ⟨j + 1, by omega, by go_num, HN5.out.2.2.2⟩
          case measure => simp [intOf]; omega
        · go_simp
          go_at_call 36
          refine (HC.out).mono ?_
          rintro e w3 ⟨⟨v', rfl, hx⟩, hb3⟩
          obtain ⟨k3, s3, a3, l3, c3, rfl⟩ := hx.shape
          have hb03 : Below wr.heap.size wr w3 := (Below.refl _ _).drew.trans (hb3.mono (by simp))
          have HSF3 : Hid (Below (w.heap.size + 1) wr w3) := hb03.mono (by have := HZ.out; have := HLO.out; omega)
          have hb04 : Below wr.heap.size wr (w3.alloc (.cells #[.int .u8 k3, .string s3, .slice a3 l3 c3] 61)) := hb03.alloc hb03.size _
          have HSF4 : Hid (Below (w.heap.size + 1) wr (w3.alloc (.cells #[.int .u8 k3, .string s3, .slice a3 l3 c3] 61))) := hb04.mono (by have := HZ.out; have := HLO.out; omega)
          have HNB : Hid ((w3.alloc (.cells #[.int .u8 k3, .string s3, .slice a3 l3 c3] 61)).heap[w3.heap.size]? = some (.cells #[.int .u8 k3, .string s3, .slice a3 l3 c3] 61 (0, 0))) := Array.getElem?_push_size
          have HOWN4 : Hid ((w3.alloc (.cells #[.int .u8 k3, .string s3, .slice a3 l3 c3] 61)).ownsRow (w.heap.size + 3) 61 3 ov (is.take j).length ocs.flatten) := (HTW.out.keep (FRp.stays m) (SameFrom.below hb04)).own
          have HBASE4 : Hid (w.heap.size + 3 ≤ (w3.alloc (.cells #[.int .u8 k3, .string s3, .slice a3 l3 c3] 61)).heap.size) := by have := hb04.size; have := HZ.out; rw [Hid]; omega
          have hx4 : (FRp m) (twN wr.heap.size) (w3.alloc (.cells #[.int .u8 k3, .string s3, .slice a3 l3 c3] 61)) is[j] (.agg #[.int .u8 k3, .string s3, .slice a3 l3 c3]) := (FRp.stays m) _ _ _ _ _ _ hx (twN_goes (by simp) (SameFrom.alloc _ _))
          have HNEXT := Lib.hid (fun G cp W5 ho hg ha => TwX1.next (a1 := some ⟨b, off, none⟩) (c1 := c1) (a := a) (c := c) (of := of) hlt HK0.out HK1.out HK2.out HTW.out HBW.out HZ.out hb04 hx4 G cp W5 ho hg ha)
          have y3 := (hb03.cell (p := ⟨w.heap.size + 2, 1, none⟩) (by have := HZ.out; have := HLO.out; show w.heap.size + 2 < _; omega)).trans y1
          have y4 := (hb04.cell (p := ⟨w.heap.size + 2, 1, none⟩) (by have := HZ.out; have := HLO.out; show w.heap.size + 2 < _; omega)).trans y1
          clear hx hb3 hb03 hb04 hx4
          dsimp only
          refine hK.out _ _ (HS.out _ HSF3.out) (fun hHeld => ?_)
          clear hK K
          try simp only [Act.put, List.setIfInBounds_toArray, List.set_cons_zero, List.set_cons_succ]
          refine wpAnyH_ready (rs := [1, 8]) (by kernel_rfl) (by simp) ?_
          refine AllReadyH.cons rfl (fun K hK => ?_) (AllReadyH.cons rfl (fun K hK => ?_) AllReadyH.nil)
          · go_simp
            refine hK.out _ _ (HS.out _ HSF3.out) (fun hHeld => ?_)
            clear hK K
            try simp only [Act.put, List.setIfInBounds_toArray, List.set_cons_zero, List.set_cons_succ]
            refine wpAnyH_ready (rs := [8]) (by kernel_rfl) (by simp) ?_
            refine AllReadyH.cons rfl (fun K hK => ?_) AllReadyH.nil
            go_simp
            refine hK.out _ _ (HS.out _ HSF4.out) (fun hHeld => ?_)
            clear hK K
            try simp only [Act.put, List.setIfInBounds_toArray, List.set_cons_zero, List.set_cons_succ]
            refine wpAnyH_ready (rs := [9]) (by kernel_rfl) (by simp) ?_
            refine AllReadyH.cons rfl (fun K hK => ?_) AllReadyH.nil
            refine step_append_lies _ rfl _ _ 23 rfl (w.heap.size + 3) 61 i1 _ 3 48 Tryz.underlying23 hi1 hz10 hz11 hz12 rfl (by decide) _ _ _ rfl HOWN4.out _ 1 1 [.int .u8 k3, .string s3, .slice a3 l3 c3] rfl rfl (World.news_of_block HNB.out) (by intro u hu; simp at hu; rcases hu with rfl | rfl | rfl <;> rfl) (by decide) (by have := HLEN.out; simp only [maxLen]; omega) (by have := HLEN.out; omega) HBASE4.out _ rfl ?_
            intro G cp W5 hown5 hgrow5 hat5 hlt5
            have hn5 := HNEXT.out G cp W5 hown5 hgrow5 hat5
            rw [HLEN.out.1] at hn5
            have HN5 := Lib.hid hn5
            clear hn5
            clear hown5 hgrow5 hat5 hlt5
            refine hK.out _ _ (HS.out _ HN5.out.1) (fun hHeld => ?_)
            clear hK K
            try simp only [Act.put, List.setIfInBounds_toArray]
            refine wpAnyH_take (i := 10) (v := ?_) rfl (by kernel_rfl) (by kernel_rfl) (by kernel_rfl) (fun _ _ _ h => h) (Or.inl ⟨by kernel_rfl, ?_⟩) (by assumption) ?_
            rotate_left
            · (intro w hSw; (try dsimp only at hSw); go_simp)
              with_reducible rfl
            try simp only [Act.put]
            refine wpAnyH_ready (rs := [11]) (by kernel_rfl) (by simp) ?_
            refine AllReadyH.cons rfl (fun K hK => ?_) AllReadyH.nil
            have hco := HN5.out.2.1
            have hd := Lib.cell_of_heap hco 1
            have hf := Lib.frozen_of_heap hco 1
            simp only [List.getElem?_toArray, List.getElem?_cons_zero, List.getElem?_cons_succ] at hd
            clear hco
            go_simp
            refine hK.out _ _ (HS.out _ HN5.out.2.2.1) (fun hHeld => ?_)
            clear hK K
            try simp only [Act.put, List.setIfInBounds_toArray, List.set_cons_zero, List.set_cons_succ]
            refine wpAnyH_done (by kernel_rfl) ?_ _
            clear hd hf hHeld
            go_wp2_with fail
            go_roundw
            case rel => exact ⟨j + 1, by omega, by go_num, HN5.out.2.2.2⟩
            case measure => simp [intOf]; omega
          · go_simp
            refine hK.out _ _ (HS.out _ HSF4.out) (fun hHeld => ?_)
            clear hK K
            try simp only [Act.put, List.setIfInBounds_toArray, List.set_cons_zero, List.set_cons_succ]
            refine wpAnyH_ready (rs := [1]) (by kernel_rfl) (by simp) ?_
            refine AllReadyH.cons rfl (fun K hK => ?_) AllReadyH.nil
            go_simp
            refine hK.out _ _ (HS.out _ HSF4.out) (fun hHeld => ?_)
            clear hK K
            try simp only [Act.put, List.setIfInBounds_toArray, List.set_cons_zero, List.set_cons_succ]
            refine wpAnyH_ready (rs := [9]) (by kernel_rfl) (by simp) ?_
            refine AllReadyH.cons rfl (fun K hK => ?_) AllReadyH.nil
            refine step_append_lies _ rfl _ _ 23 rfl (w.heap.size + 3) 61 i1 _ 3 48 Tryz.underlying23 hi1 hz10 hz11 hz12 rfl (by decide) _ _ _ rfl HOWN4.out _ 1 1 [.int .u8 k3, .string s3, .slice a3 l3 c3] rfl rfl (World.news_of_block HNB.out) (by intro u hu; simp at hu; rcases hu with rfl | rfl | rfl <;> rfl) (by decide) (by have := HLEN.out; simp only [maxLen]; omega) (by have := HLEN.out; omega) HBASE4.out _ rfl ?_
            intro G cp W5 hown5 hgrow5 hat5 hlt5
            have hn5 := HNEXT.out G cp W5 hown5 hgrow5 hat5
            rw [HLEN.out.1] at hn5
            have HN5 := Lib.hid hn5
            clear hn5
            clear hown5 hgrow5 hat5 hlt5
            refine hK.out _ _ (HS.out _ HN5.out.1) (fun hHeld => ?_)
            clear hK K
            try simp only [Act.put, List.setIfInBounds_toArray]
            refine wpAnyH_take (i := 10) (v := ?_) rfl (by kernel_rfl) (by kernel_rfl) (by kernel_rfl) (fun _ _ _ h => h) (Or.inl ⟨by kernel_rfl, ?_⟩) (by assumption) ?_
            rotate_left
            · (intro w hSw; (try dsimp only at hSw); go_simp)
              with_reducible rfl
            try simp only [Act.put]
            refine wpAnyH_ready (rs := [11]) (by kernel_rfl) (by simp) ?_
            refine AllReadyH.cons rfl (fun K hK => ?_) AllReadyH.nil
            have hco := HN5.out.2.1
            have hd := Lib.cell_of_heap hco 1
            have hf := Lib.frozen_of_heap hco 1
            simp only [List.getElem?_toArray, List.getElem?_cons_zero, List.getElem?_cons_succ] at hd
            clear hco
            go_simp
            refine hK.out _ _ (HS.out _ HN5.out.2.2.1) (fun hHeld => ?_)
            clear hK K
            try simp only [Act.put, List.setIfInBounds_toArray, List.set_cons_zero, List.set_cons_succ]
            refine wpAnyH_done (by kernel_rfl) ?_ _
            clear hd hf hHeld
            go_wp2_with fail
            go_roundw
            case rel => exact ⟨j + 1, by omega, by go_num, HN5.out.2.2.2⟩
            case measure => simp [intOf]; omega
      · have hje : j = is.length := by omega
        subst hje
        have hltI : ¬ ((is.length : Nat) : Int) < ((is.length : Nat) : Int) := by omega
        have HTW' : Hid (TwR (FRp m) 3 61 (w.heap.size + 3) wr ov is ocs) := by have h := htw; rw [List.take_length] at h; exact h
        obtain ⟨ra, rc, hov, hoa⟩ := HTW'.out.slice
        subst hov
        obtain ⟨hh, hhh⟩ : ∃ hh, hh = wr.heap.size := ⟨_, rfl⟩
        have HST2 : Hid (TwX2 m n w wr k lo hi ls hs op is of a1 c1 a c hh 0) := by
          refine ⟨HK0.out, HK1.out, ⟨ra, rc, .slice none 0 0, [], hk2, ?_, TwR.nil _ _ _ _⟩, HBW.out, by omega, by have := HZ.out; omega⟩
          refine RowP.go (FRp.stays m) (HTW'.out.row (FRp.stays m) (by decide)) ⟨Nat.le_refl _, fun b hb hp => ?_⟩
          have hp' : w.heap.size + 3 ≤ b := of_decide_eq_true hp
          exact ⟨by simp only [pB, Bool.and_eq_true, decide_eq_true_eq]; omega, rfl⟩
        clear hk2 htw hbw HK0 HK1 HK2 HTW HT HTW' hsz hoa hhh
        go_wp2_with fail
        go_loopw [5] (fun i wr => ∃ j : Nat, j ≤ of.length ∧ i = .int .i64 j ∧ Hid (TwX2 m n w wr k lo hi ls hs op is of a1 c1 a c hh j)) (fun i _ => of.length - (intOf i).toNat)
        case atStart => exact ⟨0, Nat.zero_le _, rfl, HST2⟩
        case round =>
          clear HST2 HZ HLO HBW x1 x2 hj hltI
          obtain ⟨j, hj, rfl, HT⟩ := hrel
          obtain ⟨hk0, hk1, ⟨ra, rc, ov, ocs, hk2, hrw, htw⟩, hbw, hsz, hlo⟩ := HT.out
          have x1 := Lib.cell_of_heap hk0 1
          have x2 := Lib.cell_of_heap hk0 2
          simp only [List.getElem?_toArray, List.getElem?_cons_zero, List.getElem?_cons_succ] at x1 x2
          have HBW := Lib.hid hbw
          have HZ := Lib.hid hsz
          have HLO := Lib.hid hlo
          have HK0 := Lib.hid hk0
          have HK1 := Lib.hid hk1
          have HK2 := Lib.hid hk2
          have HTW := Lib.hid htw
          have HRW := Lib.hid hrw
          clear hk0 hk1 hrw
          by_cases hlt : j < of.length
          · have hltI : ((j : Nat) : Int) < ((of.length : Nat) : Int) := by omega
            have y2 := Lib.cell_of_heap hk2 2
            simp only [List.getElem?_toArray, List.getElem?_cons_zero, List.getElem?_cons_succ] at y2
            obtain ⟨b, off, k', e1a, e1b, e1c, f1a, f1b, f1c, lo', ls', hi', hs', op', rfl, hbl, r0, r1, r2, r3, r4, r5, r6, r7, hr⟩ := (XRow.up HR.out hbw (Nat.le_refl _)).at j hlt
            have hz := hbw.size
            have hbl' : b < wr.heap.size := by omega
            have HLEN : Hid ((of.take j).length = j ∧ j + 1 ≤ 1000000) := by refine Lib.hid ⟨?_, by omega⟩; rw [List.length_take]; omega
            have HC := Lib.hid (HIH.out of[j] _ wr.drew (HTX.out _ (List.getElem_mem hlt)) (hr.up (Below.drew (Below.refl _ _)) hz))
            have hbw0 : b < w.heap.size := hbl
            have HS : Hid (∀ W, Below (w.heap.size + 1) wr W → W.cell? ⟨w.heap.size, 2, none⟩ = some (.slice (some ⟨b, off, none⟩) of.length c) ∧ W.cell? ⟨b, off + j * 8, none⟩ = some (.int .u8 k') ∧ W.cell? ⟨b, off + j * 8 + 1, none⟩ = some (.slice e1a e1b e1c) ∧ W.cell? ⟨b, off + j * 8 + 2, none⟩ = some (.slice f1a f1b f1c) ∧ W.cell? ⟨b, off + j * 8 + 3, none⟩ = some (.int .i64 lo') ∧ W.cell? ⟨b, off + j * 8 + 4, none⟩ = some (.bool ls') ∧ W.cell? ⟨b, off + j * 8 + 5, none⟩ = some (.int .i64 hi') ∧ W.cell? ⟨b, off + j * 8 + 6, none⟩ = some (.bool hs') ∧ W.cell? ⟨b, off + j * 8 + 7, none⟩ = some (.bool op')) := by
              intro W hW
              exact ⟨(hW.cell (p := ⟨w.heap.size, 2, none⟩) (by simp)).trans x2, (hW.cell (p := ⟨b, off + j * 8, none⟩) (by simp; omega)).trans r0, (hW.cell (p := ⟨b, off + j * 8 + 1, none⟩) (by simp; omega)).trans r1, (hW.cell (p := ⟨b, off + j * 8 + 2, none⟩) (by simp; omega)).trans r2, (hW.cell (p := ⟨b, off + j * 8 + 3, none⟩) (by simp; omega)).trans r3, (hW.cell (p := ⟨b, off + j * 8 + 4, none⟩) (by simp; omega)).trans r4, (hW.cell (p := ⟨b, off + j * 8 + 5, none⟩) (by simp; omega)).trans r5, (hW.cell (p := ⟨b, off + j * 8 + 6, none⟩) (by simp; omega)).trans r6, (hW.cell (p := ⟨b, off + j * 8 + 7, none⟩) (by simp; omega)).trans r7⟩
            have HSF0 : Hid (Below (w.heap.size + 1) wr wr.drew) := (Below.refl _ _).drew
            clear hr hbw htw hk2 hsz
            go_upto_region 11 with fail
            refine wp_region_held_drew (S := fun W => W.cell? ⟨w.heap.size, 2, none⟩ = some (.slice (some ⟨b, off, none⟩) of.length c) ∧ W.cell? ⟨b, off + j * 8, none⟩ = some (.int .u8 k') ∧ W.cell? ⟨b, off + j * 8 + 1, none⟩ = some (.slice e1a e1b e1c) ∧ W.cell? ⟨b, off + j * 8 + 2, none⟩ = some (.slice f1a f1b f1c) ∧ W.cell? ⟨b, off + j * 8 + 3, none⟩ = some (.int .i64 lo') ∧ W.cell? ⟨b, off + j * 8 + 4, none⟩ = some (.bool ls') ∧ W.cell? ⟨b, off + j * 8 + 5, none⟩ = some (.int .i64 hi') ∧ W.cell? ⟨b, off + j * 8 + 6, none⟩ = some (.bool hs') ∧ W.cell? ⟨b, off + j * 8 + 7, none⟩ = some (.bool op')) (by kernel_rfl) (HS.out _ HSF0.out) (fun hHeld => ?_)
            refine wpAnyH_take (i := 0) (v := ?_) rfl (by kernel_rfl) (by kernel_rfl) (by kernel_rfl) (fun _ _ _ h => h) (Or.inl ⟨by kernel_rfl, ?_⟩) (by assumption) ?_
            rotate_left
            · (intro w hSw; (try dsimp only at hSw); go_simp)
              with_reducible rfl
            try simp only [Act.put, List.setIfInBounds_toArray]
            refine wpAnyH_take (i := 2) (v := ?_) rfl (by kernel_rfl) (by kernel_rfl) (by kernel_rfl) (fun _ _ _ h => h) (Or.inl ⟨by kernel_rfl, ?_⟩) (by assumption) ?_
            rotate_left
            · (intro w hSw; (try dsimp only at hSw); go_simp)
              with_reducible rfl
            try simp only [Act.put]
            refine wpAnyH_take (i := 3) (v := ?_) rfl (by kernel_rfl) (by kernel_rfl) (by kernel_rfl) (fun _ _ _ h => h) (Or.inl ⟨by kernel_rfl, ?_⟩) (by assumption) ?_
            rotate_left
            · (intro w hSw; (try dsimp only at hSw); go_simp)
              with_reducible rfl
            try simp only [Act.put]
            refine wpAnyH_take (i := 4) (v := ?_) rfl (by kernel_rfl) (by kernel_rfl) (by kernel_rfl) (fun _ _ _ h => h) (Or.inl ⟨by kernel_rfl, ?_⟩) (by assumption) ?_
            rotate_left
            · (intro w hSw; (try dsimp only at hSw); go_simp)
              with_reducible rfl
            try simp only [Act.put]
            refine wpAnyH_take (i := 5) (v := ?_) rfl (by kernel_rfl) (by kernel_rfl) (by kernel_rfl) (fun _ _ _ h => h) (Or.inl ⟨by kernel_rfl, ?_⟩) (by assumption) ?_
            rotate_left
            · (intro w hSw; (try dsimp only at hSw); go_simp)
              with_reducible rfl
            try simp only [Act.put]
            refine wpAnyH_take (i := 6) (v := ?_) rfl (by kernel_rfl) (by kernel_rfl) (by kernel_rfl) (fun _ _ _ h => h) (Or.inl ⟨by kernel_rfl, ?_⟩) (by assumption) ?_
            rotate_left
            · (intro w hSw; (try dsimp only at hSw); go_simp)
              with_reducible rfl
            try simp only [Act.put]
            refine wpAnyH_ready (rs := [1, 7]) (by kernel_rfl) (by simp) ?_
            refine AllReadyH.cons rfl (fun K hK => ?_) (AllReadyH.cons rfl (fun K hK => ?_) AllReadyH.nil)
            · go_simp
              refine hK.out _ _ (HS.out _ HSF0.out) (fun hHeld => ?_)
              clear hK K
              try simp only [Act.put, List.setIfInBounds_toArray, List.set_cons_zero, List.set_cons_succ]
              refine wpAnyH_ready (rs := [7]) (by kernel_rfl) (by simp) ?_
              refine AllReadyH.cons rfl (fun K hK => ?_) AllReadyH.nil
              go_simp
              go_at_call 17
              refine (HC.out).mono ?_
              rintro e w3 ⟨⟨v', rfl, hx⟩, hb3⟩
              obtain ⟨k3, p3, q3, d3, a3, l3, c3, lo3, ls3, hi3, hs3, op3, rfl⟩ := hx.shape
              have hb03 : Below wr.heap.size wr w3 := (Below.refl _ _).drew.trans (hb3.mono (by simp))
              have HSF3 : Hid (Below (w.heap.size + 1) wr w3) := hb03.mono (by have := HZ.out; have := HLO.out; omega)
              have hb04 : Below wr.heap.size wr (w3.alloc (.cells #[.int .u8 k3, .slice p3 q3 d3, .slice a3 l3 c3, .int .i64 lo3, .bool ls3, .int .i64 hi3, .bool hs3, .bool op3] 28)) := hb03.alloc hb03.size _
              have HSF4 : Hid (Below (w.heap.size + 1) wr (w3.alloc (.cells #[.int .u8 k3, .slice p3 q3 d3, .slice a3 l3 c3, .int .i64 lo3, .bool ls3, .int .i64 hi3, .bool hs3, .bool op3] 28))) := hb04.mono (by have := HZ.out; have := HLO.out; omega)
              have HNB : Hid ((w3.alloc (.cells #[.int .u8 k3, .slice p3 q3 d3, .slice a3 l3 c3, .int .i64 lo3, .bool ls3, .int .i64 hi3, .bool hs3, .bool op3] 28)).heap[w3.heap.size]? = some (.cells #[.int .u8 k3, .slice p3 q3 d3, .slice a3 l3 c3, .int .i64 lo3, .bool ls3, .int .i64 hi3, .bool hs3, .bool op3] 28 (0, 0))) := Array.getElem?_push_size
              have HOWN4 : Hid ((w3.alloc (.cells #[.int .u8 k3, .slice p3 q3 d3, .slice a3 l3 c3, .int .i64 lo3, .bool ls3, .int .i64 hi3, .bool hs3, .bool op3] 28)).ownsRow hh 28 8 ov (of.take j).length ocs.flatten) := (HTW.out.keep (XRp.stays m n) (SameFrom.below hb04)).own
              have HBASE4 : Hid (hh ≤ (w3.alloc (.cells #[.int .u8 k3, .slice p3 q3 d3, .slice a3 l3 c3, .int .i64 lo3, .bool ls3, .int .i64 hi3, .bool hs3, .bool op3] 28)).heap.size) := by have := hb04.size; have := HZ.out; rw [Hid]; omega
              have hx4 : (XRp m n) (twN wr.heap.size) (w3.alloc (.cells #[.int .u8 k3, .slice p3 q3 d3, .slice a3 l3 c3, .int .i64 lo3, .bool ls3, .int .i64 hi3, .bool hs3, .bool op3] 28)) of[j] (.agg #[.int .u8 k3, .slice p3 q3 d3, .slice a3 l3 c3, .int .i64 lo3, .bool ls3, .int .i64 hi3, .bool hs3, .bool op3]) := (XRp.stays m n) _ _ _ _ _ _ hx (twN_goes (by simp) (SameFrom.alloc _ _))
              have HNEXT := Lib.hid (fun G cp W5 ho hg ha => TwX2.next (a := some ⟨b, off, none⟩) (c := c) (a1 := a1) (c1 := c1) (is := is) hlt HK0.out HK1.out HK2.out HRW.out HTW.out HBW.out HZ.out HLO.out hb04 hx4 G cp W5 ho hg ha)
              have y3 := (hb03.cell (p := ⟨w.heap.size + 2, 2, none⟩) (by have := HZ.out; have := HLO.out; show w.heap.size + 2 < _; omega)).trans y2
              have y4 := (hb04.cell (p := ⟨w.heap.size + 2, 2, none⟩) (by have := HZ.out; have := HLO.out; show w.heap.size + 2 < _; omega)).trans y2
              clear hx hb3 hb03 hb04 hx4
              dsimp only
              refine hK.out _ _ (HS.out _ HSF3.out) (fun hHeld => ?_)
              clear hK K
              try simp only [Act.put, List.setIfInBounds_toArray, List.set_cons_zero, List.set_cons_succ]
              refine wpAnyH_ready (rs := [8]) (by kernel_rfl) (by simp) ?_
              refine AllReadyH.cons rfl (fun K hK => ?_) AllReadyH.nil
              go_simp
              refine hK.out _ _ (HS.out _ HSF4.out) (fun hHeld => ?_)
              clear hK K
              try simp only [Act.put, List.setIfInBounds_toArray, List.set_cons_zero, List.set_cons_succ]
              refine wpAnyH_ready (rs := [9]) (by kernel_rfl) (by simp) ?_
              refine AllReadyH.cons rfl (fun K hK => ?_) AllReadyH.nil
              refine step_append_lies _ rfl _ _ 24 rfl hh 28 i2 _ 8 88 Tryz.underlying24 hi2 hz20 hz21 hz22 rfl (by decide) _ _ _ rfl HOWN4.out _ 1 1 [.int .u8 k3, .slice p3 q3 d3, .slice a3 l3 c3, .int .i64 lo3, .bool ls3, .int .i64 hi3, .bool hs3, .bool op3] rfl rfl (World.news_of_block HNB.out) (by intro u hu; simp at hu; rcases hu with rfl | rfl | rfl | rfl | rfl | rfl | rfl | rfl <;> rfl) (by decide) (by have := HLEN.out; simp only [maxLen]; omega) (by have := HLEN.out; omega) HBASE4.out _ rfl ?_
              intro G cp W5 hown5 hgrow5 hat5 hlt5
              have hn5 := HNEXT.out G cp W5 hown5 hgrow5 hat5
              rw [HLEN.out.1] at hn5
              have HN5 := Lib.hid hn5
              clear hn5
              clear hown5 hgrow5 hat5 hlt5
              refine hK.out _ _ (HS.out _ HN5.out.1) (fun hHeld => ?_)
              clear hK K
              try simp only [Act.put, List.setIfInBounds_toArray]
              refine wpAnyH_take (i := 10) (v := ?_) rfl (by kernel_rfl) (by kernel_rfl) (by kernel_rfl) (fun _ _ _ h => h) (Or.inl ⟨by kernel_rfl, ?_⟩) (by assumption) ?_
              rotate_left
              · (intro w hSw; (try dsimp only at hSw); go_simp)
                with_reducible rfl
              try simp only [Act.put]
              refine wpAnyH_ready (rs := [11]) (by kernel_rfl) (by simp) ?_
              refine AllReadyH.cons rfl (fun K hK => ?_) AllReadyH.nil
              have hco := HN5.out.2.1
              have hd := Lib.cell_of_heap hco 2
              have hf := Lib.frozen_of_heap hco 2
              simp only [List.getElem?_toArray, List.getElem?_cons_zero, List.getElem?_cons_succ] at hd
              clear hco
              go_simp
              refine hK.out _ _ (HS.out _ HN5.out.2.2.1) (fun hHeld => ?_)
              clear hK K
              try simp only [Act.put, List.setIfInBounds_toArray, List.set_cons_zero, List.set_cons_succ]
              refine wpAnyH_done (by kernel_rfl) ?_ _
              clear hd hf hHeld
              go_wp2_with fail
              go_roundw
              case rel => exact ⟨j + 1, by omega, by go_num, HN5.out.2.2.2⟩
              case measure => simp [intOf]; omega
            · go_simp
              go_at_call 17
              refine (HC.out).mono ?_
              rintro e w3 ⟨⟨v', rfl, hx⟩, hb3⟩
              obtain ⟨k3, p3, q3, d3, a3, l3, c3, lo3, ls3, hi3, hs3, op3, rfl⟩ := hx.shape
              have hb03 : Below wr.heap.size wr w3 := (Below.refl _ _).drew.trans (hb3.mono (by simp))
              have HSF3 : Hid (Below (w.heap.size + 1) wr w3) := hb03.mono (by have := HZ.out; have := HLO.out; omega)
              have hb04 : Below wr.heap.size wr (w3.alloc (.cells #[.int .u8 k3, .slice p3 q3 d3, .slice a3 l3 c3, .int .i64 lo3, .bool ls3, .int .i64 hi3, .bool hs3, .bool op3] 28)) := hb03.alloc hb03.size _
              have HSF4 : Hid (Below (w.heap.size + 1) wr (w3.alloc (.cells #[.int .u8 k3, .slice p3 q3 d3, .slice a3 l3 c3, .int .i64 lo3, .bool ls3, .int .i64 hi3, .bool hs3, .bool op3] 28))) := hb04.mono (by have := HZ.out; have := HLO.out; omega)
              have HNB : Hid ((w3.alloc (.cells #[.int .u8 k3, .slice p3 q3 d3, .slice a3 l3 c3, .int .i64 lo3, .bool ls3, .int .i64 hi3, .bool hs3, .bool op3] 28)).heap[w3.heap.size]? = some (.cells #[.int .u8 k3, .slice p3 q3 d3, .slice a3 l3 c3, .int .i64 lo3, .bool ls3, .int .i64 hi3, .bool hs3, .bool op3] 28 (0, 0))) := Array.getElem?_push_size
              have HOWN4 : Hid ((w3.alloc (.cells #[.int .u8 k3, .slice p3 q3 d3, .slice a3 l3 c3, .int .i64 lo3, .bool ls3, .int .i64 hi3, .bool hs3, .bool op3] 28)).ownsRow hh 28 8 ov (of.take j).length ocs.flatten) := (HTW.out.keep (XRp.stays m n) (SameFrom.below hb04)).own
              have HBASE4 : Hid (hh ≤ (w3.alloc (.cells #[.int .u8 k3, .slice p3 q3 d3, .slice a3 l3 c3, .int .i64 lo3, .bool ls3, .int .i64 hi3, .bool hs3, .bool op3] 28)).heap.size) := by have := hb04.size; have := HZ.out; rw [Hid]; omega
              have hx4 : (XRp m n) (twN wr.heap.size) (w3.alloc (.cells #[.int .u8 k3, .slice p3 q3 d3, .slice a3 l3 c3, .int .i64 lo3, .bool ls3, .int .i64 hi3, .bool hs3, .bool op3] 28)) of[j] (.agg #[.int .u8 k3, .slice p3 q3 d3, .slice a3 l3 c3, .int .i64 lo3, .bool ls3, .int .i64 hi3, .bool hs3, .bool op3]) := (XRp.stays m n) _ _ _ _ _ _ hx (twN_goes (by simp) (SameFrom.alloc _ _))
              have HNEXT := Lib.hid (fun G cp W5 ho hg ha => TwX2.next (a := some ⟨b, off, none⟩) (c := c) (a1 := a1) (c1 := c1) (is := is) hlt HK0.out HK1.out HK2.out HRW.out HTW.out HBW.out HZ.out HLO.out hb04 hx4 G cp W5 ho hg ha)
              have y3 := (hb03.cell (p := ⟨w.heap.size + 2, 2, none⟩) (by have := HZ.out; have := HLO.out; show w.heap.size + 2 < _; omega)).trans y2
              have y4 := (hb04.cell (p := ⟨w.heap.size + 2, 2, none⟩) (by have := HZ.out; have := HLO.out; show w.heap.size + 2 < _; omega)).trans y2
              clear hx hb3 hb03 hb04 hx4
              dsimp only
              refine hK.out _ _ (HS.out _ HSF3.out) (fun hHeld => ?_)
              clear hK K
              try simp only [Act.put, List.setIfInBounds_toArray, List.set_cons_zero, List.set_cons_succ]
              refine wpAnyH_ready (rs := [1, 8]) (by kernel_rfl) (by simp) ?_
              refine AllReadyH.cons rfl (fun K hK => ?_) (AllReadyH.cons rfl (fun K hK => ?_) AllReadyH.nil)
              · go_simp
                refine hK.out _ _ (HS.out _ HSF3.out) (fun hHeld => ?_)
                clear hK K
                try simp only [Act.put, List.setIfInBounds_toArray, List.set_cons_zero, List.set_cons_succ]
                refine wpAnyH_ready (rs := [8]) (by kernel_rfl) (by simp) ?_
                refine AllReadyH.cons rfl (fun K hK => ?_) AllReadyH.nil
                go_simp
                refine hK.out _ _ (HS.out _ HSF4.out) (fun hHeld => ?_)
                clear hK K
                try simp only [Act.put, List.setIfInBounds_toArray, List.set_cons_zero, List.set_cons_succ]
                refine wpAnyH_ready (rs := [9]) (by kernel_rfl) (by simp) ?_
                refine AllReadyH.cons rfl (fun K hK => ?_) AllReadyH.nil
                refine step_append_lies _ rfl _ _ 24 rfl hh 28 i2 _ 8 88 Tryz.underlying24 hi2 hz20 hz21 hz22 rfl (by decide) _ _ _ rfl HOWN4.out _ 1 1 [.int .u8 k3, .slice p3 q3 d3, .slice a3 l3 c3, .int .i64 lo3, .bool ls3, .int .i64 hi3, .bool hs3, .bool op3] rfl rfl (World.news_of_block HNB.out) (by intro u hu; simp at hu; rcases hu with rfl | rfl | rfl | rfl | rfl | rfl | rfl | rfl <;> rfl) (by decide) (by have := HLEN.out; simp only [maxLen]; omega) (by have := HLEN.out; omega) HBASE4.out _ rfl ?_
                intro G cp W5 hown5 hgrow5 hat5 hlt5
                have hn5 := HNEXT.out G cp W5 hown5 hgrow5 hat5
                rw [HLEN.out.1] at hn5
                have HN5 := Lib.hid hn5
                clear hn5
                clear hown5 hgrow5 hat5 hlt5
                refine hK.out _ _ (HS.out _ HN5.out.1) (fun hHeld => ?_)
                clear hK K
                try simp only [Act.put, List.setIfInBounds_toArray]
                refine wpAnyH_take (i := 10) (v := ?_) rfl (by kernel_rfl) (by kernel_rfl) (by kernel_rfl) (fun _ _ _ h => h) (Or.inl ⟨by kernel_rfl, ?_⟩) (by assumption) ?_
                rotate_left
                · (intro w hSw; (try dsimp only at hSw); go_simp)
                  with_reducible rfl
                try simp only [Act.put]
                refine wpAnyH_ready (rs := [11]) (by kernel_rfl) (by simp) ?_
                refine AllReadyH.cons rfl (fun K hK => ?_) AllReadyH.nil
                have hco := HN5.out.2.1
                have hd := Lib.cell_of_heap hco 2
                have hf := Lib.frozen_of_heap hco 2
                simp only [List.getElem?_toArray, List.getElem?_cons_zero, List.getElem?_cons_succ] at hd
                clear hco
                go_simp
                refine hK.out _ _ (HS.out _ HN5.out.2.2.1) (fun hHeld => ?_)
                clear hK K
                try simp only [Act.put, List.setIfInBounds_toArray, List.set_cons_zero, List.set_cons_succ]
                refine wpAnyH_done (by kernel_rfl) ?_ _
                clear hd hf hHeld
                go_wp2_with fail
                go_roundw
                case rel => exact ⟨j + 1, by omega, by go_num, HN5.out.2.2.2⟩
                case measure => simp [intOf]; omega
              · go_simp
                refine hK.out _ _ (HS.out _ HSF4.out) (fun hHeld => ?_)
                clear hK K
                try simp only [Act.put, List.setIfInBounds_toArray, List.set_cons_zero, List.set_cons_succ]
                refine wpAnyH_ready (rs := [1]) (by kernel_rfl) (by simp) ?_
                refine AllReadyH.cons rfl (fun K hK => ?_) AllReadyH.nil
                go_simp
                refine hK.out _ _ (HS.out _ HSF4.out) (fun hHeld => ?_)
                clear hK K
                try simp only [Act.put, List.setIfInBounds_toArray, List.set_cons_zero, List.set_cons_succ]
                refine wpAnyH_ready (rs := [9]) (by kernel_rfl) (by simp) ?_
                refine AllReadyH.cons rfl (fun K hK => ?_) AllReadyH.nil
                refine step_append_lies _ rfl _ _ 24 rfl hh 28 i2 _ 8 88 Tryz.underlying24 hi2 hz20 hz21 hz22 rfl (by decide) _ _ _ rfl HOWN4.out _ 1 1 [.int .u8 k3, .slice p3 q3 d3, .slice a3 l3 c3, .int .i64 lo3, .bool ls3, .int .i64 hi3, .bool hs3, .bool op3] rfl rfl (World.news_of_block HNB.out) (by intro u hu; simp at hu; rcases hu with rfl | rfl | rfl | rfl | rfl | rfl | rfl | rfl <;> rfl) (by decide) (by have := HLEN.out; simp only [maxLen]; omega) (by have := HLEN.out; omega) HBASE4.out _ rfl ?_
                intro G cp W5 hown5 hgrow5 hat5 hlt5
                have hn5 := HNEXT.out G cp W5 hown5 hgrow5 hat5
                rw [HLEN.out.1] at hn5
                have HN5 := Lib.hid hn5
                clear hn5
                clear hown5 hgrow5 hat5 hlt5
                refine hK.out _ _ (HS.out _ HN5.out.1) (fun hHeld => ?_)
                clear hK K
                try simp only [Act.put, List.setIfInBounds_toArray]
                refine wpAnyH_take (i := 10) (v := ?_) rfl (by kernel_rfl) (by kernel_rfl) (by kernel_rfl) (fun _ _ _ h => h) (Or.inl ⟨by kernel_rfl, ?_⟩) (by assumption) ?_
                rotate_left
                · (intro w hSw; (try dsimp only at hSw); go_simp)
                  with_reducible rfl
                try simp only [Act.put]
                refine wpAnyH_ready (rs := [11]) (by kernel_rfl) (by simp) ?_
                refine AllReadyH.cons rfl (fun K hK => ?_) AllReadyH.nil
                have hco := HN5.out.2.1
                have hd := Lib.cell_of_heap hco 2
                have hf := Lib.frozen_of_heap hco 2
                simp only [List.getElem?_toArray, List.getElem?_cons_zero, List.getElem?_cons_succ] at hd
                clear hco
                go_simp
                refine hK.out _ _ (HS.out _ HN5.out.2.2.1) (fun hHeld => ?_)
                clear hK K
                try simp only [Act.put, List.setIfInBounds_toArray, List.set_cons_zero, List.set_cons_succ]
                refine wpAnyH_done (by kernel_rfl) ?_ _
                clear hd hf hHeld
                go_wp2_with fail
                go_roundw
                case rel => exact ⟨j + 1, by omega, by go_num, HN5.out.2.2.2⟩
                case measure => simp [intOf]; omega
          · have hje : j = of.length := by omega
            subst hje
            have hltI : ¬ ((of.length : Nat) : Int) < ((of.length : Nat) : Int) := by omega
            have HTW' : Hid (TwR (XRp m n) 8 28 hh wr ov of ocs) := by have h := htw; rw [List.take_length] at h; exact h
            obtain ⟨oa, oc, hov, hoa⟩ := HTW'.out.slice
            subst hov
            have d0 := Lib.cell_of_heap HK1.out 0
            have f0 := Lib.frozen_of_heap HK1.out 0
            have e0 := Lib.cell_of_heap hk2 0
            have d1 := Lib.cell_of_heap HK1.out 1
            have f1 := Lib.frozen_of_heap HK1.out 1
            have e1 := Lib.cell_of_heap hk2 1
            have d2 := Lib.cell_of_heap HK1.out 2
            have f2 := Lib.frozen_of_heap HK1.out 2
            have e2 := Lib.cell_of_heap hk2 2
            have d3 := Lib.cell_of_heap HK1.out 3
            have f3 := Lib.frozen_of_heap HK1.out 3
            have e3 := Lib.cell_of_heap hk2 3
            have d4 := Lib.cell_of_heap HK1.out 4
            have f4 := Lib.frozen_of_heap HK1.out 4
            have e4 := Lib.cell_of_heap hk2 4
            have d5 := Lib.cell_of_heap HK1.out 5
            have f5 := Lib.frozen_of_heap HK1.out 5
            have e5 := Lib.cell_of_heap hk2 5
            have d6 := Lib.cell_of_heap HK1.out 6
            have f6 := Lib.frozen_of_heap HK1.out 6
            have e6 := Lib.cell_of_heap hk2 6
            have d7 := Lib.cell_of_heap HK1.out 7
            have f7 := Lib.frozen_of_heap HK1.out 7
            have e7 := Lib.cell_of_heap hk2 7
            simp only [List.getElem?_toArray, List.getElem?_cons_zero, List.getElem?_cons_succ] at e0 e1 e2 e3 e4 e5 e6 e7 d0 d1 d2 d3 d4 d5 d6 d7
            have HAT : Hid ((tw8 wr (w.heap.size + 1) (.int .u8 k) (.slice ra is.length rc) (.slice oa of.length oc) (.int .i64 lo) (.bool ls) (.int .i64 hi) (.bool hs) (.bool op)).heap[w.heap.size + 1]? = some (.cells #[.int .u8 k, .slice ra is.length rc, .slice oa of.length oc, .int .i64 lo, .bool ls, .int .i64 hi, .bool hs, .bool op] 28 (0, 0))) := tw8_at HK1.out _ _ _ _ _ _ _ _
            have HOUT : Hid ((∃ v', Ending.returned (.agg #[.int .u8 k, .slice ra is.length rc, .slice oa of.length oc, .int .i64 lo, .bool ls, .int .i64 hi, .bool hs, .bool op]) = .returned v' ∧ XRp m (n + 1) (twN w.heap.size) (tw8 wr (w.heap.size + 1) (.int .u8 k) (.slice ra is.length rc) (.slice oa of.length oc) (.int .i64 lo) (.bool ls) (.int .i64 hi) (.bool hs) (.bool op)) (k, is, of, ⟨lo, ls, hi, hs, op⟩) v') ∧ Below w.heap.size w (tw8 wr (w.heap.size + 1) (.int .u8 k) (.slice ra is.length rc) (.slice oa of.length oc) (.int .i64 lo) (.bool ls) (.int .i64 hi) (.bool hs) (.bool op))) := by
              have hother : ∀ b, w.heap.size + 3 ≤ b → (tw8 wr (w.heap.size + 1) (.int .u8 k) (.slice ra is.length rc) (.slice oa of.length oc) (.int .i64 lo) (.bool ls) (.int .i64 hi) (.bool hs) (.bool op)).heap[b]? = wr.heap[b]? := fun b hb => tw8_other _ _ _ _ _ _ _ _ _ _ _ (by omega)
              refine ⟨⟨_, rfl, ?_⟩, ?_⟩
              · have hrow := HTW'.out.row (XRp.stays m n) (by decide)
                have hgo : Goes (twN hh) (twN w.heap.size) wr (tw8 wr (w.heap.size + 1) (.int .u8 k) (.slice ra is.length rc) (.slice oa of.length oc) (.int .i64 lo) (.bool ls) (.int .i64 hi) (.bool hs) (.bool op)) :=
                  ⟨by rw [tw8_size]; exact Nat.le_refl _, fun b _ hp => by
                    have hp' : hh ≤ b := of_decide_eq_true hp
                    have := HLO.out
                    exact ⟨decide_eq_true (by omega), hother _ (by omega)⟩⟩
                have hgo1 : Goes (pB (w.heap.size + 3) hh) (twN w.heap.size) wr (tw8 wr (w.heap.size + 1) (.int .u8 k) (.slice ra is.length rc) (.slice oa of.length oc) (.int .i64 lo) (.bool ls) (.int .i64 hi) (.bool hs) (.bool op)) :=
                  ⟨by rw [tw8_size]; exact Nat.le_refl _, fun b _ hp => by
                    have hp' := pB_out hp
                    exact ⟨decide_eq_true (by omega), hother _ (by omega)⟩⟩
                refine ⟨ra, rc, oa, oc, rfl, RowP.go (FRp.stays m) HRW.out hgo1, RowR.le hgo.has (by rw [tw8_size]; exact Nat.le_refl _) (fun x _ v hv => ?_) hrow⟩
                exact (XRp.stays m n) _ _ _ _ _ _ hv hgo
              · have h1 : Below w.heap.size w wr := HBW.out
                exact Below.setCell (Below.setCell (Below.setCell (Below.setCell (Below.setCell (Below.setCell (Below.setCell (Below.setCell (h1) (by show w.heap.size ≤ w.heap.size + 1; omega) _) (by show w.heap.size ≤ w.heap.size + 1; omega) _) (by show w.heap.size ≤ w.heap.size + 1; omega) _) (by show w.heap.size ≤ w.heap.size + 1; omega) _) (by show w.heap.size ≤ w.heap.size + 1; omega) _) (by show w.heap.size ≤ w.heap.size + 1; omega) _) (by show w.heap.size ≤ w.heap.size + 1; omega) _) (by show w.heap.size ≤ w.heap.size + 1; omega) _
            clear hk2 htw hbw HK0 HK1 HK2 HTW HT HTW' hsz HRW
            go_wp2_with fail
            refine bodyPost_ret (results_cell_row rfl _ _ _ _ _ _ _ rfl HAT.out Tryz.underlying28 rfl (by kernel_rfl)) rfl ?_
            exact HOUT.out
end Go.Proofs.YtpgdplmndnopbaaGreatDoor
