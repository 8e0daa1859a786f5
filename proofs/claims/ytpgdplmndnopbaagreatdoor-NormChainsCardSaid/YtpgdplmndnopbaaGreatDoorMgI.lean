/- How long texts of formulas and expressions are. No program. -/
import Derived.Test.YtpgdplmndnopbaaGreatDoorMgG
import Derived.Lib.ItoaLen
import Derived.Test.YtpgdplmndnopbaaGreatDoorMgH
namespace Go.Proofs.YtpgdplmndnopbaaGreatDoor
open Go.RowKit
theorem getD_two {α : Type} (p q : α → List UInt8) (c : α → Nat) : ∀ l : List α, (∀ x ∈ l, (p x).length ≤ c x) → (∀ x ∈ l, (q x).length ≤ c x) → ((l.map p).getD 0 []).length + ((l.map q).getD 1 []).length ≤ (l.map c).sum
 | [], _, _ => by simp
 | [x], h, _ => by have := h x (by simp); simpa using this
 | x :: y :: r, h, h' => by
  have h1 := h x (by simp)
  have h2 := h' y (by simp)
  simp only [List.map_cons, List.getD_cons_zero, List.getD_cons_succ, List.sum_cons]
  omega
theorem getD_one {α : Type} (p : α → List UInt8) (c : α → Nat) (l : List α) (h : ∀ x ∈ l, (p x).length ≤ c x) : ((l.map p).getD 0 []).length ≤ (l.map c).sum := by
 have := getD_two p (fun _ => []) c l h (fun _ _ => by simp)
 omega
theorem sum_mul {α : Type} (k : Nat) (c : α → Nat) : ∀ l : List α, (l.map fun x => k * c x).sum = k * (l.map c).sum
 | [] => by simp
 | x :: r => by simp only [List.map_cons, List.sum_cons, sum_mul k c r, Nat.mul_add]
theorem wrapP_len (is : Bool) (o c : UInt8) (b : List UInt8) : (wrapP is o c b).length ≤ b.length + 2 := by unfold wrapP; split <;> simp
theorem prF_len : ∀ (n : Nat) (t : FT n) (least : Nat), (prF n t least).length ≤ 10 * tF n t
 | 0, t, _ => nomatch t
 | n + 1, t, least => by
  have H : ∀ k : Nat, ∀ x ∈ t.2.2, (prF n x k).length ≤ 10 * tF n x := fun k x _ => prF_len n x k
  have hw := fun b => wrapP_len (decide (lowF t.1 < least)) 123 125 b
  have hs : t.2.1.data.toList.length = t.2.1.size := by rw [Array.length_toList]; rfl
  unfold prF
  rw [tF]
  refine Nat.le_trans (hw _) ?_
  have e := sum_mul 10 (tF n) t.2.2
  split
  ·simp; omega
  ·split
   ·simp; omega
   ·split
    ·rw [hs]; omega
    ·split
     ·have := getD_one (fun x => prF n x 3) (fun x => 10 * tF n x) t.2.2 (H 3)
      simp only [List.length_cons]; omega
     ·split
      ·have := getD_two (fun x => prF n x 2) (fun x => prF n x 3) (fun x => 10 * tF n x) t.2.2 (H 2) (H 3)
       simp only [List.length_append, List.length_cons, List.length_nil]; omega
      ·have := getD_two (fun x => prF n x 1) (fun x => prF n x 2) (fun x => 10 * tF n x) t.2.2 (H 1) (H 2)
       simp only [List.length_append, List.length_cons, List.length_nil]; omega
theorem prI_len (it : Int → List UInt8) (hit : ∀ n, (it n).length ≤ 21) (i : Spn) : (prI it i).length ≤ 50 := by
 have h1 := hit i.low
 have h2 := hit i.high
 unfold prI
 split <;> split <;> (try split) <;> simp <;> omega
theorem prX_len (it : Int → List UInt8) (hit : ∀ n, (it n).length ≤ 21) {m : Nat} : ∀ (n : Nat) (t : XT m n) (least : Nat), (prX it n t least).length ≤ 60 * tX n t
 | 0, t, _ => nomatch t
 | n + 1, t, least => by
  have H : ∀ k : Nat, ∀ x ∈ t.2.2.1, (prX it n x k).length ≤ 60 * tX n x := fun k x _ => prX_len it hit n x k
  have hw := fun b => wrapP_len (decide (heightX t.1 < least)) 40 41 b
  have e := sum_mul 60 (tX n) t.2.2.1
  have e2 := sum_mul 10 (tF m) t.2.1
  unfold prX
  rw [tX]
  refine Nat.le_trans (hw _) ?_
  split
  ·have := getD_one (fun f => prF m f 0) (fun f => 10 * tF m f) t.2.1 (fun f _ => prF_len m f 0)
   omega
  ·split
   ·have := getD_one (fun x => prX it n x 4) (fun x => 60 * tX n x) t.2.2.1 (H 4)
    simp only [List.length_append, List.length_cons, List.length_nil]; omega
   ·split
    ·have := getD_one (fun x => prX it n x 0) (fun x => 60 * tX n x) t.2.2.1 (H 0)
     have h3 := prI_len it hit t.2.2.2
     simp only [List.length_append, List.length_cons, List.length_nil]; omega
    ·have := getD_two (fun x => prX it n x (heightX t.1)) (fun x => prX it n x (heightX t.1 + 1)) (fun x => 60 * tX n x) t.2.2.1 (H _) (H _)
     simp only [List.length_append, List.length_cons, List.length_nil]; omega
end Go.Proofs.YtpgdplmndnopbaaGreatDoor

/- Plain: what may be printed has names that may be; its text is some, and not too long. No program. -/
namespace Go.Proofs.YtpgdplmndnopbaaGreatDoor
open Go.RowKit
theorem namesGo_ok : ∀ (l seen : List ByteArray), namesGo seen l = true → ∀ x ∈ l, nameB x.data.toList = true
 | [], _, _, x, hx => absurd hx (by simp)
 | y :: r, seen, h, x, hx => by
  unfold namesGo at h
  simp only [Bool.and_eq_true] at h
  rcases List.mem_cons.1 hx with rfl | hx
  ·exact h.1.2
  ·exact namesGo_ok r _ h.2 x hx
theorem namesR_ok {l : List ByteArray} (h : namesR l = 0) : ∀ x ∈ l, nameB x.data.toList = true := by
 unfold namesR at h
 by_cases hc : (decide (8 < l.length) || !namesGo [] l) = true
 ·rw [if_pos hc] at h; exact absurd h (by decide)
 ·simp only [Bool.or_eq_true, Bool.not_eq_true', not_or, Bool.not_eq_false] at hc
  exact namesGo_ok l [] hc.2
theorem inN_ok {names : List ByteArray} (hn : ∀ x ∈ names, nameB x.data.toList = true) {s : ByteArray} (h : inN s names = true) : nameB s.data.toList = true := by
 unfold inN at h
 rw [List.any_eq_true] at h
 obtain ⟨x, hx, he⟩ := h
 rw [beq_iff_eq, ByteArray.toList_eq, ByteArray.toList_eq] at he
 rw [he]; exact hn x hx
theorem declF_nm {names : List ByteArray} (hn : ∀ x ∈ names, nameB x.data.toList = true) : ∀ (n : Nat) (t : FT n), allF (declB names) n t = true → allF nmB n t = true
 | 0, _, _ => rfl
 | n + 1, (k, s, of), h => by
  have h' : (declB names k s of.length && of.all (allF (declB names) n)) = true := h
  show (nmB k s of.length && of.all (allF nmB n)) = true
  simp only [Bool.and_eq_true, List.all_eq_true] at h' ⊢
  refine ⟨?_, fun x hx => declF_nm hn n x (h'.2 x hx)⟩
  have := h'.1
  unfold declB at this
  unfold nmB
  simp only [Bool.or_eq_true, bne_iff_ne, ne_eq] at this ⊢
  exact this.imp id (inN_ok hn)
theorem namesX_nm {m : Nat} {names : List ByteArray} (hn : ∀ x ∈ names, nameB x.data.toList = true) : ∀ (n : Nat) (t : XT m n), allX (namesX names) n t = true → allX nmX n t = true
 | 0, _, _ => rfl
 | n + 1, (k, is, of, i), h => by
  have h' : (namesX names k is of.length i && of.all (allX (namesX names) n)) = true := h
  show (nmX k is of.length i && of.all (allX nmX n)) = true
  simp only [Bool.and_eq_true, List.all_eq_true] at h' ⊢
  refine ⟨?_, fun x hx => namesX_nm hn n x (h'.2 x hx)⟩
  have := h'.1
  unfold namesX at this
  unfold nmX
  simp only [List.all_eq_true] at this ⊢
  exact fun f hf => declF_nm hn m f (this f hf)
theorem check_nm {m n : Nat} {names : List ByteArray} {t : XT m n} (h : checkR names n t = 0) : allX nmX n t = true :=
 have h' := checkR_zero.1 h
 namesX_nm (namesR_ok h'.1) n t h'.2.2.2.1
theorem prF_ne {n : Nat} (t : FT n) (least : Nat) (hr : allF rightB n t = true) (hn : allF nmB n t = true) : prF n t least ≠ [] := by
 match n, t with
 | n + 1, t =>
  have hn' : (nmB t.1 t.2.1 t.2.2.length && t.2.2.all (allF nmB n)) = true := hn
  simp only [Bool.and_eq_true] at hn'
  unfold prF
  unfold wrapP
  split
  ·simp
  ·split
   ·simp
   ·split
    ·simp
    ·split
     ·rename_i hk
      have := hn'.1
      unfold nmB at this
      rw [hk] at this
      have h3 : nameB t.2.1.data.toList = true := by simpa using this
      intro he
      rw [he] at h3
      exact absurd h3 (by decide)
     ·split
      ·simp
      ·split <;> simp
theorem prX_ne {it : Int → List UInt8} {m n : Nat} (t : XT m n) (least : Nat) (hr : allX rightX n t = true) (hn : allX nmX n t = true) : prX it n t least ≠ [] := by
 match n, t with
 | n + 1, t =>
  have hr' : (rightX t.1 t.2.1 t.2.2.1.length t.2.2.2 && t.2.2.1.all (allX rightX n)) = true := hr
  have hn' : (nmX t.1 t.2.1 t.2.2.1.length t.2.2.2 && t.2.2.1.all (allX nmX n)) = true := hn
  simp only [Bool.and_eq_true] at hr' hn'
  unfold prX
  unfold wrapP
  split
  ·simp
  ·split
   ·rename_i hk
    have h6 := hr'.1
    unfold rightX at h6
    rw [hk] at h6
    simp only [Bool.and_eq_true, if_true, beq_iff_eq, List.all_eq_true] at h6
    obtain ⟨_, hl, ha⟩ := h6
    have hnf := hn'.1
    unfold nmX at hnf
    revert hl ha hnf
    generalize t.2.1 = is
    intro hl ha hnf
    match is, hl with
    | [f], _ =>
     simp only [List.all_cons, List.all_nil, Bool.and_true] at hnf
     simpa using prF_ne f 0 (ha f (by simp)) hnf
   ·split
    ·simp
    ·split <;> simp
theorem right_iv {m : Nat} {k : Int} {is : List (FT m)} {l : Nat} {i : Spn} (h : rightX k is l i = true) (hk : k = 6) : 0 ≤ i.low ∧ i.low < 288230376151711744 ∧ 0 ≤ i.high ∧ i.high < 288230376151711744 := by
 subst hk
 unfold rightX at h
 simp only [Bool.and_eq_true] at h
 have h4 := h.1.1.2
 have hz : ivR i ≠ 8 := by
  intro hz
  simp [hz] at h4
 unfold ivR at hz
 by_cases hc : (!belowC i.low || !belowC i.high || (i.op && (i.high != 0 || i.hs))) = true
 ·rw [if_pos hc] at hz; exact absurd rfl hz
 ·simp only [Bool.or_eq_true, Bool.not_eq_true', not_or, Bool.not_eq_false] at hc
  obtain ⟨⟨h1, h2⟩, _⟩ := hc
  unfold belowC at h1 h2
  simp at h1 h2
  exact ⟨h1.1, h1.2, h2.1, h2.2⟩
theorem prX_congr {it it' : Int → List UInt8} (hit : ∀ k, 0 ≤ k → k < 288230376151711744 → it k = it' k) {m : Nat} : ∀ (n : Nat) (t : XT m n) (least : Nat), allX rightX n t = true → prX it n t least = prX it' n t least
 | 0, t, _, _ => nomatch t
 | n + 1, t, least, h => by
  have h' : (rightX t.1 t.2.1 t.2.2.1.length t.2.2.2 && t.2.2.1.all (allX rightX n)) = true := h
  simp only [Bool.and_eq_true, List.all_eq_true] at h'
  have hm : ∀ j, t.2.2.1.map (fun x => prX it n x j) = t.2.2.1.map (fun x => prX it' n x j) := fun j => List.map_congr_left fun x hx => prX_congr hit n x j (h'.2 x hx)
  have hi : t.1 = 6 → prI it t.2.2.2 = prI it' t.2.2.2 := fun hk => by
   obtain ⟨h1, h2, h3, h4⟩ := right_iv h'.1 hk
   unfold prI
   rw [hit _ h1 h2, hit _ h3 h4]
  unfold prX
  simp only [hm]
  by_cases hk : t.1 = 6
  ·rw [hi hk]
  ·simp [hk]
theorem prX_len_right {m n : Nat} (t : XT m n) (least : Nat) (h : allX rightX n t = true) : (prX Lib.itoa n t least).length ≤ 60 * tX n t := by
 rw [prX_congr (it' := fun k => (Lib.itoa k).take 21) (fun k h0 h1 => (List.take_of_length_le (Lib.itoa_length_le k (by omega) (by omega))).symm) n t least h]
 exact prX_len _ (fun k => by simp; omega) n t least
end Go.Proofs.YtpgdplmndnopbaaGreatDoor

/- What Parse answers of the examples. -/
namespace Go.Proofs.YtpgdplmndnopbaaGreatDoor
open Go.RowKit
def bP : ByteArray := ⟨#[112]⟩
def bQ : ByteArray := ⟨#[113]⟩
def pqL : List ByteArray := [bP, bQ]
def fP : FT 2 := (3, bP, [])
def fQ : FT 2 := (3, bQ, [])
theorem pq_right : namesR pqL = 0 := by decide +kernel
theorem pq_small : ∀ s ∈ pqL, s.size ≤ 1048576 := by decide +kernel
/-! ### What is answered, told -/
theorem ParseIs.at_ok {names : List ByteArray} {s : ByteArray} {w : World} {v : Value} {at_ cd : Int} (h : ParseIs names s w v at_ cd) (hn : namesR names = 0) (hc : (cutR s).2.2 = 0) {m n : Nat} {t : XT m n} (ha : allR (cutR s).1 s.size = .ok (toX n t)) (hk : checkR names n t = 0) :
 at_ = 0 ∧ cd = 0 ∧ ∃ (m' n' : Nat) (t' : XT m' n'), toX n' t' = toX n t ∧ XRep w w.heap.size m' n' t' v := by
 cases h with
 | names h => exact absurd hn h
 | cut _ h => exact absurd hc h
 | wrong _ _ c p he => rw [ha] at he; cases he
 | check _ _ m' n' t' he hk' =>
  rw [ha] at he
  injection he with he
  exact absurd ((checkR_same names he).symm.trans hk) hk'
 | ok _ _ m' n' t' he hk' v hv =>
  rw [ha] at he
  injection he with he
  exact ⟨rfl, rfl, m', n', t', he.symm, hv⟩
theorem XRep.known {w : World} {B m n : Nat} {t : XT m n} {v : Value} (h : XRep w B m n t v) {k : Int} {is : List F} {of : List X} {i : Spn} (hx : toX n t = .mk k is of i) :
 ∃ a1 l1 c1 a2 l2 c2, v = .agg #[.int .u8 k, .slice a1 l1 c1, .slice a2 l2 c2, .int .i64 i.low, .bool i.ls, .int .i64 i.high, .bool i.hs, .bool i.op] := by
 cases n with
 | zero => exact h.elim
 | succ n =>
  obtain ⟨k', is', of', i'⟩ := t
  obtain ⟨a1, c1, a2, c2, hv, _⟩ := h
  have hx' : X.mk k' (is'.map (toF m)) (of'.map (toX n)) i' = .mk k is of i := hx
  injection hx' with h1 _ _ h4
  subst h1 h4
  exact ⟨a1, _, c1, a2, _, c2, hv⟩
theorem nrep_pq (w : World) (b : Nat) (fr : Nat × Nat) (h : w.heap[b]? = some (.cells #[.string bP, .string bQ] 9 fr)) (c : Nat) : NRep w w.heap.size (.slice (some ⟨b, 0, none⟩) 2 c) pqL := by
 refine ⟨_, c, rfl, by decide, .inr ⟨b, 0, rfl, (Array.getElem?_eq_some_iff.1 h).1, fun i hi => ?_⟩⟩
 match i, hi with
 | 0, _ => exact Lib.cell_of_heap h 0
 | 1, _ => exact Lib.cell_of_heap h 1
end Go.Proofs.YtpgdplmndnopbaaGreatDoor
