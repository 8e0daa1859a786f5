/- Cutting byte by byte, with the last sign held open and a row's beginning kept, comes to the plain cut: no program in sight. -/
import Derived.Test.YtabpfbgcdmejbaaDoorCutA
import Derived.Test.YtabpfbgcdmejbaaDoorLexN
import Derived.Test.YtabpfbgcdmejbaaDoorCutB
namespace Go.Proofs.YtabpfbgcdmejbaaDoor

/-- What holds ahead of byte i: the tokens so far, and where a row began that goes on. -/
def Inv (src : List UInt8) (i : Nat) (toks : List Tok) (f : Int) : Prop :=
  (f = -1 ∧ toks.length ≤ i ∧ (∀ t ∈ toks, t.place < (i : Int)) ∧ Res.app toks (cut i (src.drop i)) = cut 0 src ∧ ∀ c r, src.drop i = c :: r → twin c = true → toks.getLast? ≠ some ⟨3, bsOf [c], (i : Int) - 1⟩) ∨
  (f = -1 ∧ ∃ pre c j, i = j + 1 ∧ twin c = true ∧ toks = pre ++ [⟨3, bsOf [c], (j : Int)⟩] ∧ pre.length ≤ j ∧ (∀ t ∈ pre, t.place < (j : Int)) ∧ src.drop j = c :: src.drop i ∧ Res.app pre (cut j (src.drop j)) = cut 0 src) ∨
  (∃ s : Nat, f = s ∧ s < i ∧ toks.length ≤ s ∧ (∀ t ∈ toks, t.place < (s : Int)) ∧ ((src.drop s).take (i - s)).all isRow = true ∧ i ≤ src.length ∧ Res.app toks (cut s (src.drop s)) = cut 0 src)

theorem inv_start (src : List UInt8) : Inv src 0 [] (-1) := .inl ⟨rfl, by simp, by simp, Res.app_nil _, by simp⟩
theorem inv_len {src : List UInt8} {i : Nat} {toks : List Tok} {f : Int} (h : Inv src i toks f) : toks.length ≤ i := by
  rcases h with ⟨_, h, _⟩ | ⟨_, pre, c, j, rfl, _, rfl, h, _⟩ | ⟨s, _, h1, h2, _⟩
  · exact h
  · simp; omega
  · omega
theorem inv_from {src : List UInt8} {i : Nat} {toks : List Tok} {f : Int} (h : Inv src i toks f) : f = -1 ∨ ∃ s : Nat, f = s ∧ s < i := by
  rcases h with ⟨h, _⟩ | ⟨h, _⟩ | ⟨s, h, h1, _⟩
  · exact .inl h
  · exact .inl h
  · exact .inr ⟨s, h, h1⟩

theorem twin_not_row {c : UInt8} (h : twin c = true) : isRow c = false ∧ isBlank c = false ∧ isSign c = true :=
  ⟨(sign_row c).1 ((sign_row c).2.2.2.1 h), (sign_row c).2.2.2.2.1 ((sign_row c).2.2.2.1 h), (sign_row c).2.2.2.1 h⟩
/-- A twin that is not followed by itself is a token. -/
theorem cut_twin_one {c b : UInt8} {r : List UInt8} (a : Nat) (hc : twin c = true) (hb : b ≠ c) : cut a (c :: b :: r) = Res.cons ⟨3, bsOf [c], a⟩ (cut (a + 1) (b :: r)) := by
  obtain ⟨h1, h2, h3⟩ := twin_not_row hc
  exact cut_one a c (b :: r) h1 h2 h3 (by simp [hb])

/-- With the next byte at hand, the last sign is settled, or is to be doubled. -/
theorem inv_settle {src : List UInt8} {i : Nat} {toks : List Tok} {b : UInt8} {r : List UInt8} (h : Inv src i toks (-1)) (hd : src.drop i = b :: r) :
    (toks.length ≤ i ∧ (∀ t ∈ toks, t.place < (i : Int)) ∧ Res.app toks (cut i (src.drop i)) = cut 0 src ∧ (twin b = true → toks.getLast? ≠ some ⟨3, bsOf [b], (i : Int) - 1⟩)) ∨
    (twin b = true ∧ ∃ pre j, i = j + 1 ∧ toks = pre ++ [⟨3, bsOf [b], (j : Int)⟩] ∧ pre.length ≤ j ∧ (∀ t ∈ pre, t.place < (j : Int)) ∧ src.drop j = b :: src.drop i ∧ Res.app pre (cut j (src.drop j)) = cut 0 src) := by
  rcases h with ⟨_, h1, h2, h3, h4⟩ | ⟨_, pre, c, j, rfl, hc, rfl, h5, h6, h7, h8⟩ | ⟨s, hs, _⟩
  · exact .inl ⟨h1, h2, h3, fun ht => h4 b r hd ht⟩
  · by_cases hbc : b = c
    · subst hbc
      exact .inr ⟨hc, pre, j, rfl, rfl, h5, h6, h7, h8⟩
    · left
      refine ⟨by simp; omega, ?_, ?_, ?_⟩
      · intro t ht
        rcases List.mem_append.1 ht with ht | ht
        · have := h6 t ht; push_cast; omega
        · rw [List.mem_singleton] at ht; subst ht; push_cast; omega
      · rw [h7, hd, cut_twin_one j hc hbc, Res.app_cons] at h8
        rw [hd]; exact h8
      · intro _
        rw [List.getLast?_concat]
        intro he
        simp only [Option.some.injEq, Tok.mk.injEq] at he
        have := bsOf_inj he.2.1
        simp at this
        exact hbc this.symm
  · omega

theorem take_row_succ {l : List UInt8} {b : UInt8} {r : List UInt8} {s i : Nat} (hs : s < i) (hd : l.drop i = b :: r) (h : ((l.drop s).take (i - s)).all isRow = true) (hb : isRow b = true) : ((l.drop s).take (i + 1 - s)).all isRow = true := by
  have hi : i < l.length := by
    rcases Nat.lt_or_ge i l.length with h | h
    · exact h
    · rw [List.drop_of_length_le h] at hd; cases hd
  have he : l[i] = b := by
    rw [List.drop_eq_getElem_cons hi] at hd; exact (List.cons.inj hd).1
  rw [show i + 1 - s = (i - s) + 1 by omega, List.take_succ_eq_append_getElem (by rw [List.length_drop]; omega)]
  simp only [List.all_append, h, List.all_cons, List.all_nil, Bool.and_true, Bool.true_and, List.getElem_drop]
  simp only [show s + (i - s) = i by omega, he, hb]

theorem inv_row {src : List UInt8} {i : Nat} {toks : List Tok} {f : Int} {b : UInt8} {r : List UInt8} (h : Inv src i toks f) (hd : src.drop i = b :: r) (hb : isRow b = true) :
    Inv src (i + 1) toks (if f < 0 then (i : Int) else f) := by
  have hi : i < src.length := by
    rcases Nat.lt_or_ge i src.length with h | h
    · exact h
    · rw [List.drop_of_length_le h] at hd; cases hd
  rcases inv_from h with rfl | ⟨s, rfl, _⟩
  · rw [if_pos (by decide)]
    rcases inv_settle h hd with ⟨h1, h2, h3, _⟩ | ⟨ht, _⟩
    · refine .inr (.inr ⟨i, rfl, by omega, h1, h2, ?_, by omega, h3⟩)
      rw [show i + 1 - i = 1 by omega, hd]; simp [hb]
    · rw [(twin_not_row ht).1] at hb; cases hb
  · rw [if_neg (by omega)]
    rcases h with ⟨h, _⟩ | ⟨h, _⟩ | ⟨s', hs', h1, h2, h3, h4, h5, h6⟩
    · omega
    · omega
    · have : s' = s := by omega
      subst this
      exact .inr (.inr ⟨s', rfl, by omega, h2, h3, take_row_succ h1 hd h4 hb, by omega, h6⟩)

theorem rowOf_take {l : List UInt8} {s i : Nat} (hs : s < i) (hi : i ≤ l.length) (h : ((l.drop s).take (i - s)).all isRow = true) (hn : (l.drop i).head?.map isRow ≠ some true) : rowOf (l.drop s) = (l.drop s).take (i - s) ∧ (l.drop s).drop (rowOf (l.drop s)).length = l.drop i ∧ (rowOf (l.drop s)).length = i - s := by
  have e : l.drop s = (l.drop s).take (i - s) ++ l.drop i := by
    conv => lhs; rw [← List.take_append_drop (i - s) (l.drop s)]
    rw [List.drop_drop, show s + (i - s) = i by omega]
  have h1 : rowOf (l.drop s) = (l.drop s).take (i - s) := by
    conv => lhs; rw [e]
    exact rowOf_append _ _ h hn
  have h2 : (rowOf (l.drop s)).length = i - s := by rw [h1, List.length_take, List.length_drop]; omega
  exact ⟨h1, by rw [h2, List.drop_drop, show s + (i - s) = i by omega], h2⟩

/-- A row's end. -/
theorem inv_end {src : List UInt8} {i s : Nat} {toks : List Tok} (h : Inv src i toks s) (hn : (src.drop i).head?.map isRow ≠ some true) :
    s < i ∧ i ≤ src.length ∧ match rowKind ((src.drop s).take (i - s)) with
      | .error e => cut 0 src = .bad s e
      | .ok k => Inv src i (toks ++ [⟨k, bsOf ((src.drop s).take (i - s)), (s : Int)⟩]) (-1) := by
  rcases h with ⟨h, _⟩ | ⟨h, _⟩ | ⟨s', hs', h1, h2, h3, h4, h5, h6⟩
  · omega
  · omega
  · have : s' = s := by omega
    subst this
    refine ⟨h1, h5, ?_⟩
    obtain ⟨r1, r2, r3⟩ := rowOf_take h1 h5 h4 hn
    have hsl : s' < src.length := by omega
    have hd := List.drop_eq_getElem_cons hsl
    have hb : isRow src[s'] = true := by
      have := h4
      rw [hd, show i - s' = (i - s' - 1) + 1 by omega, List.take_succ_cons, List.all_cons, Bool.and_eq_true] at this
      exact this.1
    have hc := cut_row s' src[s'] (src.drop (s' + 1)) hb
    rw [← hd, r1] at hc
    cases hk : rowKind ((src.drop s').take (i - s')) with
    | error e =>
      rw [hk] at hc
      simp only at hc ⊢
      rw [← h6, hc]; rfl
    | ok k =>
      rw [hk] at hc
      simp only at hc ⊢
      rw [← r1, r2, r3, r1] at hc
      refine .inl ⟨rfl, by simp; omega, ?_, ?_, ?_⟩
      · intro t ht
        rcases List.mem_append.1 ht with ht | ht
        · have := h3 t ht; omega
        · rw [List.mem_singleton] at ht; subst ht; simp only; omega
      · rw [← h6, hc, Res.app_cons, show s' + (i - s') = i by omega]
      · intro c r _ _
        rw [List.getLast?_concat]
        intro he
        simp only [Option.some.injEq, Tok.mk.injEq] at he
        rcases rowKind_ne0 hk with h | h <;> rw [h] at he <;> exact absurd he.1 (by decide)

theorem inv_blank {src : List UInt8} {i : Nat} {toks : List Tok} {b : UInt8} {r : List UInt8} (h : Inv src i toks (-1)) (hd : src.drop i = b :: r) (hb : isBlank b = true) (hr : isRow b = false) : Inv src (i + 1) toks (-1) := by
  have hd2 : src.drop (i + 1) = r := by rw [← List.drop_drop, hd]; rfl
  rcases inv_settle h hd with ⟨h1, h2, h3, _⟩ | ⟨ht, _⟩
  · refine .inl ⟨rfl, by omega, fun t ht => by have := h2 t ht; push_cast; omega, ?_, ?_⟩
    · rw [← h3, hd, hd2, cut_blank i b r hr hb]
    · intro c r' _ _ he
      have := h2 _ (List.mem_of_getLast? he)
      simp at this
  · rw [(twin_not_row ht).2.1] at hb; cases hb

theorem inv_wrong {src : List UInt8} {i : Nat} {toks : List Tok} {b : UInt8} {r : List UInt8} (h : Inv src i toks (-1)) (hd : src.drop i = b :: r) (hb : isBlank b = false) (hr : isRow b = false) (hs : isSign b = false) : cut 0 src = .bad i 150 := by
  rcases inv_settle h hd with ⟨h1, h2, h3, _⟩ | ⟨ht, _⟩
  · rw [← h3, hd, cut_wrong i b r hr hb hs]; rfl
  · rw [(twin_not_row ht).2.2] at hs; cases hs

theorem inv_sign {src : List UInt8} {i : Nat} {toks : List Tok} {b : UInt8} {r : List UInt8} (h : Inv src i toks (-1)) (hd : src.drop i = b :: r) (hs : isSign b = true) : Inv src (i + 1) (signStep toks b i) (-1) := by
  have hd2 : src.drop (i + 1) = r := by rw [← List.drop_drop, hd]; rfl
  have hr := (sign_row b).1 hs
  have hb := (sign_row b).2.2.2.2.1 hs
  rcases inv_settle h hd with ⟨h1, h2, h3, h4⟩ | ⟨ht, pre, j, rfl, rfl, h5, h6, h7, h8⟩
  · have hst : signStep toks b i = toks ++ [⟨3, bsOf [b], (i : Int)⟩] := by
      unfold signStep
      cases hl : toks.getLast? with
      | none => rfl
      | some t =>
        simp only
        rw [if_neg]
        rintro ⟨ht, rfl⟩
        exact h4 ht hl
    rw [hst]
    have hpl : ∀ t ∈ toks ++ [⟨3, bsOf [b], (i : Int)⟩], t.place < ((i + 1 : Nat) : Int) := by
      intro t ht
      rcases List.mem_append.1 ht with ht | ht
      · have := h2 t ht; push_cast; omega
      · rw [List.mem_singleton] at ht; subst ht; push_cast; omega
    cases htw : twin b with
    | true => exact .inr (.inl ⟨rfl, toks, b, i, rfl, htw, rfl, h1, h2, by rw [hd, hd2], h3⟩)
    | false =>
      refine .inl ⟨rfl, by simp; omega, hpl, ?_, ?_⟩
      · rw [← h3, hd, hd2, cut_one i b r hr hb hs (by simp [htw]), Res.app_cons]
      · intro c r' _ hc
        rw [List.getLast?_concat]
        intro he
        simp only [Option.some.injEq, Tok.mk.injEq] at he
        have := bsOf_inj he.2.1
        simp at this
        rw [this, hc] at htw; cases htw
  · have hst : signStep (pre ++ [⟨3, bsOf [b], (j : Int)⟩]) b ((j + 1 : Nat) : Int) = pre ++ [⟨3, bsOf [b, b], (j : Int)⟩] := by
      unfold signStep
      rw [List.getLast?_concat]
      simp only [List.dropLast_concat]
      have e : ((j + 1 : Nat) : Int) - 1 = j := by push_cast; omega
      rw [e, if_pos ⟨ht, rfl⟩]
    rw [hst]
    refine .inl ⟨rfl, by simp; omega, ?_, ?_, ?_⟩
    · intro t ht
      rcases List.mem_append.1 ht with ht | ht
      · have := h6 t ht; push_cast; omega
      · rw [List.mem_singleton] at ht; subst ht; push_cast; omega
    · rw [← h8, h7, hd, hd2, cut_two j b r ht, Res.app_cons]
    · intro c r' _ _
      rw [List.getLast?_concat]
      intro he
      simp only [Option.some.injEq, Tok.mk.injEq] at he
      have := bsOf_inj he.2.1
      simp at this

theorem inv_done {src : List UInt8} {i : Nat} {toks : List Tok} (h : Inv src i toks (-1)) (hd : src.drop i = []) : cut 0 src = .ok toks := by
  rcases h with ⟨_, h1, h2, h3, h4⟩ | ⟨_, pre, c, j, rfl, hc, rfl, h5, h6, h7, h8⟩ | ⟨s, hs, _⟩
  · rw [← h3, hd]; simp [Res.app]
  · obtain ⟨k1, k2, k3⟩ := twin_not_row hc
    rw [← h8, h7, hd, cut_one j c [] k1 k2 k3 (by simp), Res.app_cons]
    simp [Res.app]
  · omega
end Go.Proofs.YtabpfbgcdmejbaaDoor
