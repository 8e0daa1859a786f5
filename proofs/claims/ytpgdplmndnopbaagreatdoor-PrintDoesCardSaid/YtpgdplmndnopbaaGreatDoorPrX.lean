/- The wide text of a text's tokens: what Parse answers of it, and with brackets around it. No program. -/
import Derived.Test.YtpgdplmndnopbaaGreatDoorPrR
import Derived.Test.YtpgdplmndnopbaaGreatDoorMgI
namespace Go.Proofs.YtpgdplmndnopbaaGreatDoor
open Go.RowKit

def byt (l : List UInt8) : ByteArray := ⟨l.toArray⟩
theorem byt_list (l : List UInt8) : (byt l).data.toList = l := by simp [byt]
theorem byt_size (l : List UInt8) : (byt l).size = l.length := by show l.toArray.size = _; simp
theorem byt_app (a b : List UInt8) : byt a ++ byt b = byt (a ++ b) := by
  apply ByteArray.ext
  simp [byt, ByteArray.data_append]
/-- Of the first tokens. -/
def wideN (l : List Tok) (i : Nat) : ByteArray := byt (wideB (textsOf (l.take i)))
theorem wideN_zero (l : List Tok) : wideN l 0 = ⟨#[]⟩ := rfl
theorem wideN_succ (l : List Tok) (i : Nat) (h : i < l.length) : wideN l i ++ ⟨#[32]⟩ ++ l[i].text = wideN l (i + 1) := by
  have e : l[i].text = byt l[i].text.data.toList := by simp [byt]
  have e2 : (⟨#[32]⟩ : ByteArray) = byt [32] := rfl
  unfold wideN
  have e3 : textsOf (l.take i ++ [l[i]]) = textsOf (l.take i) ++ [l[i].text.data.toList] := by unfold textsOf; rw [List.map_append]; rfl
  rw [e, e2, byt_app, byt_app, List.take_succ_eq_append_getElem h, e3]
  congr 1
  simp [wideB]
theorem wideN_all (l : List Tok) : wideN l l.length = byt (wideB (textsOf l)) := by unfold wideN; rw [List.take_length]
theorem wideN_size (l : List Tok) (h : ∀ t ∈ l, t.text.size ≤ 18) : ∀ i, i ≤ l.length → (wideN l i).size ≤ 19 * i
  | 0, _ => by rw [wideN_zero]; decide
  | i + 1, hi => by
    have ih := wideN_size l h i (by omega)
    have h2 := h l[i] (List.getElem_mem _)
    rw [← wideN_succ l i (by omega), ByteArray.size_append, ByteArray.size_append]
    have : (⟨#[32]⟩ : ByteArray).size = 1 := rfl
    omega
theorem tok_short {s : List UInt8} {ts : List Tok} (h : cut 0 s = .ok ts) : ∀ t ∈ ts, t.text.size ≤ 18 := by
  intro t ht
  obtain ⟨k1, k2, _⟩ := cut_kinds s 0 ts h t ht
  have hg := kind_good (l := t.text.data.toList) (by rw [k1]; exact k2)
  have := size_list t.text
  omega
theorem cutR_of {s : ByteArray} {l : List Tok} (h : cut 0 s.data.toList = .ok l) (h4 : s.size ≤ 4096) : cutR s = (l, 0, 0) := by
  unfold cutR
  rw [if_neg (by omega), h]
/-- No expression, in memory. -/
theorem noX_rep (w : World) (B : Nat) : XRep w B 0 1 ((0, [], [], noSpan) : XT 0 1) noX := ⟨none, 0, none, 0, rfl, ⟨by simp, .inl rfl⟩, ⟨by simp, .inl rfl⟩⟩
/-- The same error, and the same expression. -/
theorem wide_agree {names : List ByteArray} {s : ByteArray} {l : List Tok} (hc : (cutR s).2.2 = 0) (hl : (cutR s).1 = l) (h4 : (byt (wideB (textsOf l))).size ≤ 4096) {w w' : World} {v v' : Value} {at_ cd at' cd' : Int}
    (h : ParseIs names s w v at_ cd) (h' : ParseIs names (byt (wideB (textsOf l))) w' v' at' cd') :
    cd = cd' ∧ ∃ (m n : Nat) (t : XT m n) (m' n' : Nat) (t' : XT m' n'), toX n t = toX n' t' ∧ XRep w w.heap.size m n t v ∧ XRep w' w'.heap.size m' n' t' v' := by
  obtain ⟨_, c1, _⟩ := cutR_ok hc
  rw [hl] at c1
  obtain ⟨l', d1, _, d3⟩ := wide_same c1 (s.size : Int) ((byt (wideB (textsOf l))).size : Int)
  have hc' : cutR (byt (wideB (textsOf l))) = (l', 0, 0) := cutR_of (by rw [byt_list]; exact d1) h4
  have hNo : ∃ (m n : Nat) (t : XT m n) (m' n' : Nat) (t' : XT m' n'), toX n t = toX n' t' ∧ XRep w w.heap.size m n t noX ∧ XRep w' w'.heap.size m' n' t' noX := ⟨0, 1, _, 0, 1, _, rfl, noX_rep _ _, noX_rep _ _⟩
  by_cases hn : namesR names = 0
  · rcases d3 with ⟨x, e1, e2⟩ | ⟨e, p, p', e1, e2⟩
    · have h1 : ∀ {s : ByteArray} {w : World} {v : Value} {at_ cd : Int}, ParseIs names s w v at_ cd → (cutR s).2.2 = 0 → allR (cutR s).1 s.size = .ok x →
          (∃ (m n : Nat) (t : XT m n), toX n t = x ∧ cd = checkR names n t ∧ (cd ≠ 0 ∧ v = noX ∨ cd = 0 ∧ XRep w w.heap.size m n t v)) := by
        intro s w v at_ cd h hc ha
        cases h with
        | names h => exact absurd hn h
        | cut _ h => exact absurd hc h
        | wrong _ _ c p he => rw [ha] at he; cases he
        | check _ _ m n t he hk => rw [ha] at he; injection he with he; exact ⟨m, n, t, he.symm, rfl, .inl ⟨hk, rfl⟩⟩
        | ok _ _ m n t he hk v hv => rw [ha] at he; injection he with he; exact ⟨m, n, t, he.symm, hk.symm, .inr ⟨rfl, hv⟩⟩
      obtain ⟨m, n, t, f1, f2, f3⟩ := h1 h hc (by rw [hl]; exact e1)
      obtain ⟨m', n', t', g1, g2, g3⟩ := h1 h' (by rw [hc']) (by rw [hc']; exact e2)
      have hcd : cd = cd' := by rw [f2, g2]; exact checkR_same names (f1.trans g1.symm)
      refine ⟨hcd, ?_⟩
      rcases f3 with ⟨f4, rfl⟩ | ⟨f4, f5⟩
      · rcases g3 with ⟨_, rfl⟩ | ⟨g4, _⟩
        · exact hNo
        · exact absurd (hcd.trans g4) f4
      · rcases g3 with ⟨g4, _⟩ | ⟨_, g5⟩
        · exact absurd (hcd.symm.trans f4) g4
        · exact ⟨m, n, t, m', n', t', f1.trans g1.symm, f5, g5⟩
    · obtain ⟨_, rfl, rfl⟩ := h.at_wrong hn hc (by rw [hl]; exact e1)
      obtain ⟨_, rfl, rfl⟩ := h'.at_wrong hn (by rw [hc']) (by rw [hc']; exact e2)
      exact ⟨rfl, hNo⟩
  · have h1 : ∀ {s : ByteArray} {w : World} {v : Value} {at_ cd : Int}, ParseIs names s w v at_ cd → cd = namesR names ∧ v = noX := by
      intro s w v at_ cd h
      cases h with
      | names h => exact ⟨rfl, rfl⟩
      | cut h _ => exact absurd h hn
      | wrong h _ _ _ _ => exact absurd h hn
      | check h _ _ _ _ _ _ => exact absurd h hn
      | ok h _ _ _ _ _ _ _ _ => exact absurd h hn
    obtain ⟨rfl, rfl⟩ := h1 h
    obtain ⟨rfl, rfl⟩ := h1 h'
    exact ⟨rfl, hNo⟩
/-- With brackets around: the same expression, or too deep. -/
theorem wrap_agree {names : List ByteArray} {s : ByteArray} {l : List Tok} {m n : Nat} {t : XT m n} (hc : (cutR s).2.2 = 0) (hl : (cutR s).1 = l) (ha : allR l s.size = .ok (toX n t)) (hn : namesR names = 0) (hk : checkR names n t = 0)
    (h4 : (byt (40 :: (wideB (textsOf l) ++ [41]))).size ≤ 4096) {w : World} {v : Value} {at_ cd : Int} (h : ParseIs names (byt (40 :: (wideB (textsOf l) ++ [41]))) w v at_ cd) :
    cd = 171 ∨ cd = 0 ∧ ∃ (m' n' : Nat) (t' : XT m' n'), toX n' t' = toX n t ∧ XRep w w.heap.size m' n' t' v := by
  obtain ⟨_, c1, _⟩ := cutR_ok hc
  rw [hl] at c1
  have hkd := cut_kinds _ 0 l c1
  have hv : ∀ u ∈ textsOf l, kindOf u ≠ 0 := by
    intro u hu
    unfold textsOf at hu
    obtain ⟨t, ht, rfl⟩ := List.mem_map.1 hu
    obtain ⟨k1, k2, _⟩ := hkd t ht
    rw [k1]; exact k2
  obtain ⟨l', h1, h2⟩ := cut_wide [41] apart_shut (textsOf l) 1 hv
  have hpl : plainT l' = plainT l := by
    rw [h1]
    unfold textsOf plainT
    rw [List.map_map]
    refine List.map_congr_left fun t ht => ?_
    obtain ⟨k1, _, _⟩ := hkd t ht
    show (kindOf t.text.data.toList, t.text.data.toList) = _
    rw [k1]
  have hcut : cut 0 (40 :: (wideB (textsOf l) ++ [41])) = .ok (⟨3, bsOf [40], (0 : Nat)⟩ :: (l' ++ [⟨3, bsOf [41], (1 + (wideB (textsOf l)).length : Nat)⟩])) := by
    have htw : (twin 40 && (wideB (textsOf l) ++ [41]).head? == some 40) = false := by rw [show twin 40 = false by decide]; rfl
    rw [cut_one 0 40 _ (by decide) (by decide) (by decide) htw, h2,
      cut_one _ 41 [] (by decide) (by decide) (by decide) (by decide)]
    rfl
  have hcr := cutR_of (s := byt (40 :: (wideB (textsOf l) ++ [41]))) (by rw [byt_list]; exact hcut) h4
  rcases wrap_sim (stop' := ((byt (40 :: (wideB (textsOf l) ++ [41]))).size : Int)) (po := ⟨3, bsOf [40], (0 : Nat)⟩) (pc := ⟨3, bsOf [41], (1 + (wideB (textsOf l)).length : Nat)⟩) ha hpl rfl (by simp) rfl (by simp) with e | ⟨p, e⟩
  · obtain ⟨_, rfl, hx⟩ := h.at_ok hn (by rw [hcr]) (t := t) (by rw [hcr]; exact e) hk
    exact .inr ⟨rfl, hx⟩
  · obtain ⟨_, rfl, _⟩ := h.at_wrong hn (by rw [hcr]) (by rw [hcr]; exact e)
    exact .inl rfl
end Go.Proofs.YtpgdplmndnopbaaGreatDoor
