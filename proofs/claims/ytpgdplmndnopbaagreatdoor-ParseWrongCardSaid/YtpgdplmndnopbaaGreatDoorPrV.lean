/- What is wrong in a text is told where it is: cut right ahead of that place there is none ahead of its end, and what stands behind the token there turns nothing. No program. -/
import Derived.Test.YtpgdplmndnopbaaGreatDoorPrT
namespace Go.Proofs.YtpgdplmndnopbaaGreatDoor
open Go.RowKit

theorem apart_heads (t : List UInt8) {l l' : List UInt8} (h : l.head? = l'.head?) : apart t l = apart t l' := by
  cases l with
  | nil => cases l' with
    | nil => rfl
    | cons b r => simp at h
  | cons b r => cases l' with
    | nil => simp at h
    | cons b' r' =>
      simp only [List.head?_cons, Option.some.injEq] at h
      subst h
      cases t <;> simp [apart]
/-- A text may be cut in two where a token begins; and what begins as the second part does may stand there. -/
theorem cut_swap (l : List UInt8) : ∀ a ts, cut a l = .ok ts → ∀ n, (h : n < ts.length) → ∃ k, (ts[n]).place = (a + k : Nat) ∧ k < l.length ∧ cut a (l.take k) = .ok (ts.take n) ∧ cut (a + k) (l.drop k) = .ok (ts.drop n) ∧
    (∃ rest, l.drop k = (ts[n]).text.data.toList ++ rest) ∧ ∀ B : List UInt8, B.head? = (l.drop k).head? → cut a (l.take k ++ B) = Res.app (ts.take n) (cut (a + k) B) := by
  induction l using cut_ind with
  | h0 => intro a ts h n hn; simp at h; subst h; simp at hn
  | h1 b r hb hr h ih =>
    intro a ts hc n hn
    rw [h] at hc
    obtain ⟨k, e1, e2, e3, e4, e5, e6⟩ := ih (a + 1) ts hc n hn
    refine ⟨k + 1, by rw [e1]; congr 1; omega, by simp; omega, ?_, ?_, by simpa using e5, fun B hB => ?_⟩
    · rw [List.take_succ_cons, cut_blank a b _ hr hb, e3]
    · rw [List.drop_succ_cons, ← e4]; congr 1; omega
    · rw [List.take_succ_cons, List.cons_append, cut_blank a b _ hr hb, e6 B (by simpa using hB)]
      congr 2; omega
  | h2 b r e h => intro a ts hc; rw [h] at hc; cases hc
  | h3 t rest hne hk hap h ih =>
    intro a ts hc n hn
    rw [h] at hc
    cases hr : cut (a + t.length) rest with
    | bad p e => rw [hr] at hc; cases hc
    | ok us =>
      rw [hr] at hc
      simp only [Res.cons, Res.ok.injEq] at hc
      subst hc
      cases n with
      | zero => exact ⟨0, by simp, by simp; have := List.length_pos_iff.2 hne; omega, by simp, by simp [h, hr, Res.cons], ⟨rest, by simp⟩, fun B _ => by simp [Res.app_nil]⟩
      | succ n =>
        obtain ⟨k, e1, e2, e3, e4, e5, e6⟩ := ih (a + t.length) us hr n (by simpa using hn)
        have ed : (t ++ rest).drop (t.length + k) = rest.drop k := by
          rw [List.drop_append, List.drop_of_length_le (by omega), show t.length + k - t.length = k from by omega, List.nil_append]
        have et : (t ++ rest).take (t.length + k) = t ++ rest.take k := by
          rw [List.take_append, List.take_of_length_le (by omega), show t.length + k - t.length = k from by omega]
        refine ⟨t.length + k, by simp only [List.getElem_cons_succ]; rw [e1]; congr 1; omega, by simp; omega, ?_, ?_, by rw [ed]; simpa using e5, fun B hB => ?_⟩
        · rw [et, cut_tok a t _ hk (apart_take t rest k hap), e3]
          rfl
        · rw [ed, List.drop_succ_cons, ← e4]
          congr 1; omega
        · rw [ed] at hB
          have hap2 : apart t (rest.take k ++ B) = true := by
            rw [← hap]
            refine apart_heads t ?_
            cases k with
            | zero => simpa using hB
            | succ k =>
              cases rest with
              | nil => simp at e2
              | cons x r => simp
          rw [et, List.append_assoc, cut_tok a t _ hk hap2, e6 B hB, List.take_succ_cons]
          have : a + t.length + k = a + (t.length + k) := by omega
          rw [this]
          generalize cut (a + (t.length + k)) B = R
          cases R <;> rfl
theorem split_end {E : Tok} {r : List Tok} (hr : r ≠ []) : ∀ {a l : List Tok}, l ++ [E] = a ++ r → r = [E] ∧ a = l ∨ ∃ t r2, r = t :: (r2 ++ [E]) ∧ l = a ++ t :: r2
  | [], [], h => .inl ⟨h.symm, rfl⟩
  | [], t :: l, h => .inr ⟨t, l, h.symm, rfl⟩
  | x :: a, [], h => by
    simp only [List.nil_append, List.cons_append, List.cons.injEq] at h
    have := congrArg List.length h.2
    simp at this
    exact absurd (List.eq_nil_of_length_eq_zero (by omega)) hr
  | x :: a, y :: l, h => by
    simp only [List.cons_append, List.cons.injEq] at h
    obtain ⟨rfl, h⟩ := h
    rcases split_end hr h with ⟨h1, h2⟩ | ⟨t, r2, h1, h2⟩
    · exact .inl ⟨h1, by rw [h2]⟩
    · exact .inr ⟨t, r2, h1, by rw [h2]; rfl⟩
/-- All of a row of tokens, the end with it. -/
def resR (L : List Tok) : Except (Int × Int) X :=
  match treR 66 0 L with
  | .error e => .error e
  | .ok (x, r) => if 1 < r.length then .error (170, placeT r) else .ok x
theorem allR_res (l : List Tok) (stop : Int) : allR l stop = resR (l ++ [⟨0, ⟨#[]⟩, stop⟩]) := rfl
theorem Ends.ne {l : List Tok} (h : Ends l) : l ≠ [] := by obtain ⟨t, r, rfl⟩ := h.cons; simp
theorem ends_snoc (l : List Tok) (stop : Int) : Ends (l ++ [⟨0, ⟨#[]⟩, stop⟩]) := ⟨l, stop, rfl⟩
/-- An error, and what it hangs on. -/
theorem res_err {L : List Tok} (hL : Ends L) {c p : Int} (h : resR L = .error (c, p)) : ∃ a r, L = a ++ r ∧ Ends r ∧ p = placeT r ∧ Er c r ∧ ∀ r', Hd r r' → 2 ≤ r'.length → resR (a ++ r') = .error (c, placeT r') := by
  have hl := tre_loc 66 0 L hL
  unfold LoF at hl
  unfold resR at h
  generalize treR 66 0 L = q at hl h
  cases hl with
  | ok x a r hl he hh =>
    dsimp only at h
    split at h
    · injection h with h
      obtain ⟨rfl, rfl⟩ := Prod.mk.inj h
      refine ⟨a, r, hl, he, rfl, .inl rfl, fun r' h1 h2 => ?_⟩
      unfold resR
      rw [hh r' h1]
      dsimp only
      rw [if_pos (by omega)]
    · cases h
  | err c' a r hl he hc hh =>
    injection h with h
    obtain ⟨rfl, rfl⟩ := Prod.mk.inj h
    refine ⟨a, r, hl, he, rfl, hc, fun r' h1 h2 => ?_⟩
    unfold resR
    rw [hh r' h1]
theorem end_isT (stop : Int) (r : List Tok) (s : List UInt8) (hs : s ≠ []) : isT s (⟨0, ⟨#[]⟩, stop⟩ :: r) = false := by
  show ((0 : Int) != 2 && ([] : List UInt8) == s) = false
  cases s with
  | nil => exact absurd rfl hs
  | cons b s => rfl
/-- Where a text's tokens are wrong. -/
theorem wrong_at {s : List UInt8} {l : List Tok} (h : cut 0 s = .ok l) {c p : Int} (he : allR l s.length = .error (c, p)) :
    0 ≤ p ∧ p ≤ s.length ∧ (c = 170 ∨ c = 171) ∧ (p < s.length → ∃ k : Nat, p = k ∧ k < s.length ∧
      (∃ l1, cut 0 (s.take k) = .ok l1 ∧ ((∃ x, allR l1 k = .ok x) ∨ allR l1 k = .error (170, k))) ∧
      (∃ t ts, cut 0 (s.drop k) = .ok (t :: ts) ∧ ∀ other lo, cut 0 other = .ok lo → ∃ l2, cut 0 (s.take k ++ (t.text.data.toList ++ 32 :: other)) = .ok l2 ∧ ∀ stop, allR l2 stop = .error (c, k))) := by
  rw [allR_res] at he
  obtain ⟨a, r, hl, hr, rfl, hc, hh⟩ := res_err (ends_snoc l _) he
  have hc' : c = 170 ∨ c = 171 := hc.imp id (·.1)
  rcases split_end hr.ne hl with ⟨rfl, rfl⟩ | ⟨t, r2, rfl, rfl⟩
  · exact ⟨by show (0 : Int) ≤ (s.length : Int); omega, by show ((s.length : Int)) ≤ _; omega, hc', fun hlt => by
      have : (s.length : Int) < s.length := hlt
      omega⟩
  · have hn : a.length < (a ++ t :: r2).length := by simp
    obtain ⟨k, e1, e2, e3, e4, ⟨rest, e5⟩, e6⟩ := cut_swap s 0 _ h a.length hn
    simp only [Nat.zero_add, List.take_left', List.drop_left', List.getElem_append_right (Nat.le_refl _), Nat.sub_self, List.getElem_cons_zero] at e1 e3 e4 e5 e6
    have hpl : placeT (t :: (r2 ++ [(⟨0, ⟨#[]⟩, s.length⟩ : Tok)])) = k := e1
    rw [hpl] at he ⊢
    refine ⟨by omega, by omega, hc', fun _ => ⟨k, rfl, e2, ⟨a, e3, ?_⟩, ?_⟩⟩
    · have hlow : ∀ t1 ∈ a, t1.place < k := by
        intro t1 ht1
        obtain ⟨i, hi, rfl⟩ := List.getElem_of_mem ht1
        obtain ⟨k1, g1, g2, _⟩ := cut_parts (s.take k) 0 a e3 i hi
        rw [g1]
        rw [List.length_take] at g2
        omega
      have hloc := tre_loc 66 0 _ (ends_snoc a (k : Int))
      unfold LoF at hloc
      rw [allR_res]
      have hunf : resR (a ++ [⟨0, ⟨#[]⟩, (k : Int)⟩]) = match treR 66 0 (a ++ [⟨0, ⟨#[]⟩, (k : Int)⟩]) with
        | .error e => .error e
        | .ok (x, r) => if 1 < r.length then .error (170, placeT r) else .ok x := rfl
      rw [hunf]
      generalize treR 66 0 (a ++ [⟨0, ⟨#[]⟩, (k : Int)⟩]) = q at hloc ⊢
      cases hloc with
      | ok x a1 r1 hl1 he1 hh1 =>
        rcases split_end he1.ne hl1 with ⟨rfl, rfl⟩ | ⟨t1, r3, rfl, rfl⟩
        · exact .inl ⟨x, rfl⟩
        · exfalso
          have h1 := hh1 (t1 :: (r3 ++ t :: (r2 ++ [⟨0, ⟨#[]⟩, (s.length : Int)⟩]))) ⟨t1, _, t1, _, rfl, rfl, rfl, rfl⟩
          have h2 : resR ((a1 ++ t1 :: r3 ++ t :: r2) ++ [⟨0, ⟨#[]⟩, (s.length : Int)⟩]) = .error (170, t1.place) := by
            have e7 : (a1 ++ t1 :: r3 ++ t :: r2) ++ [(⟨0, ⟨#[]⟩, (s.length : Int)⟩ : Tok)] = a1 ++ t1 :: (r3 ++ t :: (r2 ++ [⟨0, ⟨#[]⟩, (s.length : Int)⟩])) := by simp
            unfold resR
            rw [e7, h1]
            dsimp only
            rw [if_pos (by simp; omega)]
            rfl
          rw [h2] at he
          injection he with he
          obtain ⟨_, he⟩ := Prod.mk.inj he
          have := hlow t1 (by simp)
          omega
      | err c1 a1 r1 hl1 he1 hc1 hh1 =>
        rcases split_end he1.ne hl1 with ⟨rfl, rfl⟩ | ⟨t1, r3, rfl, rfl⟩
        · right
          have hc2 : c1 = 170 := by
            rcases hc1 with h | ⟨_, h⟩
            · exact h
            · rw [end_isT _ _ _ (by decide), end_isT _ _ _ (by decide), end_isT _ _ _ (by decide)] at h
              simp at h
          rw [hc2]
          rfl
        · exfalso
          have h1 := hh1 (t1 :: (r3 ++ t :: (r2 ++ [⟨0, ⟨#[]⟩, (s.length : Int)⟩]))) ⟨t1, _, t1, _, rfl, rfl, rfl, rfl⟩
          have h2 : resR ((a1 ++ t1 :: r3 ++ t :: r2) ++ [⟨0, ⟨#[]⟩, (s.length : Int)⟩]) = .error (c1, t1.place) := by
            have e7 : (a1 ++ t1 :: r3 ++ t :: r2) ++ [(⟨0, ⟨#[]⟩, (s.length : Int)⟩ : Tok)] = a1 ++ t1 :: (r3 ++ t :: (r2 ++ [⟨0, ⟨#[]⟩, (s.length : Int)⟩])) := by simp
            unfold resR
            rw [e7, h1]
            rfl
          rw [h2] at he
          injection he with he
          obtain ⟨_, he⟩ := Prod.mk.inj he
          have := hlow t1 (by simp)
          omega
    · have hsh := cut_shift k (s.drop k) 0
      rw [Nat.zero_add, e4] at hsh
      obtain ⟨kk, kn, _⟩ := cut_kinds s 0 _ h t (by simp)
      cases hq : cut 0 (s.drop k) with
      | bad x y => rw [hq] at hsh; cases hsh
      | ok us =>
        rw [hq] at hsh
        simp only [Res.shift, Res.ok.injEq] at hsh
        cases us with
        | nil => simp at hsh
        | cons u us =>
          simp only [List.map_cons, List.cons.injEq] at hsh
          have hu : u.text = t.text := by rw [hsh.1]; rfl
          refine ⟨u, us, rfl, fun other lo ho => ?_⟩
          rw [hu]
          have hk0 : kindOf t.text.data.toList ≠ 0 := by rw [kk]; exact kn
          have hne := kindOf_ne _ hk0
          have hh1 : (t.text.data.toList ++ 32 :: other).head? = (s.drop k).head? := by
            rw [e5]
            cases hx : t.text.data.toList with
            | nil => exact absurd hx hne
            | cons b r => rfl
          have hB : cut k (t.text.data.toList ++ 32 :: other) = .ok (⟨kindOf t.text.data.toList, bsOf t.text.data.toList, k⟩ :: lo.map (Tok.shift (k + t.text.data.toList.length + 1))) := by
            have hs2 := cut_shift (k + t.text.data.toList.length + 1) other 0
            rw [Nat.zero_add, ho] at hs2
            rw [cut_tok k _ _ hk0 (apart_blank _ _), cut_blank _ 32 _ (by decide) (by decide), hs2]
            rfl
          refine ⟨_, by rw [e6 _ hh1, hB]; rfl, fun stop => ?_⟩
          rw [allR_res, bsOf_of, kk]
          have e8 : (a ++ ⟨t.kind, t.text, (k : Int)⟩ :: lo.map (Tok.shift (k + t.text.data.toList.length + 1))) ++ [(⟨0, ⟨#[]⟩, stop⟩ : Tok)] = a ++ (⟨t.kind, t.text, (k : Int)⟩ :: (lo.map (Tok.shift (k + t.text.data.toList.length + 1)) ++ [⟨0, ⟨#[]⟩, stop⟩])) := by simp
          rw [e8]
          exact hh _ ⟨t, _, _, _, rfl, rfl, rfl, rfl⟩ (by simp)
end Go.Proofs.YtpgdplmndnopbaaGreatDoor
