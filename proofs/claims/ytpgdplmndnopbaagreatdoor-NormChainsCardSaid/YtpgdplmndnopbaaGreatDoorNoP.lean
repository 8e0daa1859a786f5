/- The plain law of the chains: grouped to the left or to the right, what may be is the same and its normal form is. No program. -/
import Derived.Test.YtpgdplmndnopbaaGreatDoorNmZ
namespace Go.Proofs.YtpgdplmndnopbaaGreatDoor
open Go.RowKit
theorem xt_toM {m n : Nat} (t : XT m n) : ∀ i : Nat, ∃ t' : XT (m + i) n, toX n t' = toX n t
 | 0 => ⟨t, rfl⟩
 | i + 1 => by
  obtain ⟨t', h⟩ := xt_toM t i
  exact ⟨liftM n t', (toX_liftM n t').trans h⟩
theorem xt_toX {m n : Nat} (t : XT m n) : ∀ i : Nat, ∃ t' : XT m (n + i), toX (n + i) t' = toX n t
 | 0 => ⟨t, rfl⟩
 | i + 1 => by
  obtain ⟨t', h⟩ := xt_toX t i
  exact ⟨liftX _ t', (toX_liftX _ t').trans h⟩
theorem xt_to {m n : Nat} (t : XT m n) (M N : Nat) (hM : m ≤ M) (hN : n ≤ N) : ∃ t' : XT M N, toX N t' = toX n t := by
 obtain ⟨i, rfl⟩ : ∃ i, M = m + i := ⟨M - m, by omega⟩
 obtain ⟨j, rfl⟩ : ∃ j, N = n + j := ⟨N - n, by omega⟩
 obtain ⟨t1, h1⟩ := xt_toM t i
 obtain ⟨t2, h2⟩ := xt_toX t1 j
 exact ⟨t2, h2.trans h1⟩
def duoT {m n : Nat} (k : Int) (a b : XT m n) : XT m (n + 1) := (k, [], [a, b], noSpan)
def monoT {m n : Nat} (k : Int) (a : XT m n) : XT m (n + 1) := (k, [], [a], noSpan)
theorem toX_duo {m n : Nat} (k : Int) (a b : XT m n) : toX (n + 1) (duoT k a b) = joinX k (toX n a) (toX n b) := rfl
theorem toX_mono {m n : Nat} (k : Int) (a : XT m n) : toX (n + 1) (monoT k a) = .mk k [] [toX n a] noSpan := rfl
theorem all_duo {m n : Nat} (so : Int → List (FT m) → Nat → Spn → Bool) (k : Int) (a b : XT m n) : allX so (n + 1) (duoT k a b) = (so k [] 2 noSpan && (allX so n a && allX so n b)) := by
 show (so k [] 2 noSpan && (allX so n a && (allX so n b && true))) = _
 rw [Bool.and_true]
theorem tX_duo {m n : Nat} (k : Int) (a b : XT m n) : tX (n + 1) (duoT k a b) = 1 + (tX n a + tX n b) := by
 show 1 + (([] : List (FT m)).map (tF m)).sum + ([a, b].map (tX n)).sum = _
 simp
theorem tX_mono {m n : Nat} (k : Int) (a : XT m n) : tX (n + 1) (monoT k a) = 1 + tX n a := by
 show 1 + (([] : List (FT m)).map (tF m)).sum + ([a].map (tX n)).sum = _
 simp
theorem nX_duo {m n : Nat} (k : Int) (hk : k ≠ 1) (a b : XT m n) : nX (n + 1) (duoT k a b) = 1 + (nX n a + nX n b) := by
 show (if k = 1 then (([] : List (FT m)).map (nF m)).sum else 1) + ([a, b].map (nX n)).sum = _
 rw [if_neg hk]
 simp
theorem all_lift {m n : Nat} (so : Int → List (FT m) → Nat → Spn → Bool) (hso : ∀ k is is' l i, is.map (toF m) = is'.map (toF m) → so k is l i = so k is' l i) (a : XT m n) : allX so (n + 1) (liftX n a) = allX so n a :=
 allX_same hso (n + 1) n _ _ (toX_liftX n a)
theorem nX_eq {m m' : Nat} : ∀ (n n' : Nat) (t : XT m n) (u : XT m' n'), toX n t = toX n' u → nX n t = nX n' u
 | 0, _, t, _, _ => nomatch t
 | _ + 1, 0, _, u, _ => nomatch u
 | n + 1, n' + 1, t, u, h => by
  obtain ⟨k, is, of, i⟩ := t
  obtain ⟨k', is', of', i'⟩ := u
  have h' : X.mk k (is.map (toF m)) (of.map (toX n)) i = X.mk k' (is'.map (toF m')) (of'.map (toX n')) i' := h
  injection h' with h1 h2 h3 h4
  subst h1
  have H : of.map (nX n) = of'.map (nX n') := map_rel h3 fun x _ y _ e => nX_eq n n' x y e
  have H2 : is.map (nF m) = is'.map (nF m') := map_rel h2 fun x _ y _ e => nF_same m m' x y e
  show (if k = 1 then (is.map (nF m)).sum else 1) + (of.map (nX n)).sum = (if k = 1 then (is'.map (nF m')).sum else 1) + (of'.map (nX n')).sum
  rw [H, H2]
theorem chain_check {m n : Nat} (names : List ByteArray) (k : Int) (hk : k ≠ 1) (a b c : XT m n) (ha : tX n a ≤ 2000) (hb : tX n b ≤ 2000) (hc : tX n c ≤ 2000) :
 checkR names (n + 2) (duoT k (duoT k a b) (liftX n c)) = checkR names (n + 2) (duoT k (liftX n a) (duoT k b c)) := by
 have h1 : ∀ (so : Int → List (FT m) → Nat → Spn → Bool) (hso : ∀ k is is' l i, is.map (toF m) = is'.map (toF m) → so k is l i = so k is' l i), allX so (n + 2) (duoT k (duoT k a b) (liftX n c)) = allX so (n + 2) (duoT k (liftX n a) (duoT k b c)) := by
  intro so hso
  rw [all_duo, all_duo, all_duo, all_duo, all_lift so hso, all_lift so hso]
  cases so k [] 2 noSpan <;> cases allX so n a <;> cases allX so n b <;> cases allX so n c <;> rfl
 have h2 : nX (n + 2) (duoT k (duoT k a b) (liftX n c)) = nX (n + 2) (duoT k (liftX n a) (duoT k b c)) := by
  rw [nX_duo k hk, nX_duo k hk, nX_duo k hk, nX_duo k hk, nX_eq _ _ _ _ (toX_liftX n c), nX_eq _ _ _ _ (toX_liftX n a)]
  omega
 have h3 : nX (n + 2) (duoT k (duoT k a b) (liftX n c)) ≤ 1000000 := by
  have h := nX_le (n + 2) (duoT k (duoT k a b) (liftX n c))
  rw [tX_duo, tX_duo, tX_same _ _ _ _ (toX_liftX n c)] at h
  omega
 have h4 : manyX (n + 2) (duoT k (duoT k a b) (liftX n c)) = manyX (n + 2) (duoT k (liftX n a) (duoT k b c)) := by
  rw [manyX_n _ _ h3, manyX_n _ _ (h2 ▸ h3), h2]
 unfold checkR
 rw [h1 rightX fun k is is' l i e => rightX_same k is is' l i e, h1 (namesX names) fun k is is' l i e => by
  unfold namesX
  rw [all_map' (allF (declB names) m), all_map' (allF (declB names) m) is', map_rel e fun x _ y _ e => allF_same _ m m x y e], h1 openX fun k is is' l i _ => rfl, h4]
theorem chain_law {m1 n1 m2 n2 m3 n3 mL nL mR nR : Nat} (names : List ByteArray) (k : Int) (hk : k = 2 ∨ k = 3 ∨ k = 4) {a : XT m1 n1} {b : XT m2 n2} {c : XT m3 n3} {tL : XT mL nL} {tR : XT mR nR} (ha : tX n1 a ≤ 2000) (hb : tX n2 b ≤ 2000) (hc : tX n3 c ≤ 2000)
 (hL : toX nL tL = joinX k (joinX k (toX n1 a) (toX n2 b)) (toX n3 c)) (hR : toX nR tR = joinX k (toX n1 a) (joinX k (toX n2 b) (toX n3 c))) :
 checkR names nL tL = checkR names nR tR ∧ nX nL tL ≤ 1000000 ∧ nX nR tR ≤ 1000000 := by
 obtain ⟨a', ea⟩ := xt_to a (max m1 (max m2 m3)) (max n1 (max n2 n3)) (by omega) (by omega)
 obtain ⟨b', eb⟩ := xt_to b (max m1 (max m2 m3)) (max n1 (max n2 n3)) (by omega) (by omega)
 obtain ⟨c', ec⟩ := xt_to c (max m1 (max m2 m3)) (max n1 (max n2 n3)) (by omega) (by omega)
 have ta : tX _ a' ≤ 2000 := (tX_same _ _ _ _ ea).symm ▸ ha
 have tb : tX _ b' ≤ 2000 := (tX_same _ _ _ _ eb).symm ▸ hb
 have tc : tX _ c' ≤ 2000 := (tX_same _ _ _ _ ec).symm ▸ hc
 have hL' : toX nL tL = toX _ (duoT k (duoT k a' b') (liftX _ c')) := by rw [hL, toX_duo, toX_duo, toX_liftX, ea, eb, ec]
 have hR' : toX nR tR = toX _ (duoT k (liftX _ a') (duoT k b' c')) := by rw [hR, toX_duo, toX_duo, toX_liftX, ea, eb, ec]
 refine ⟨?_, ?_, ?_⟩
 ·rw [checkR_same names hL', checkR_same names hR']
  exact chain_check names k (by omega) a' b' c' ta tb tc
 ·have h := nX_le _ tL
  rw [tX_same _ _ _ _ hL', tX_duo, tX_duo, tX_same _ _ _ _ (toX_liftX _ c')] at h
  omega
 ·have h := nX_le _ tR
  rw [tX_same _ _ _ _ hR', tX_duo, tX_duo, tX_same _ _ _ _ (toX_liftX _ a')] at h
  omega
theorem one_small {m1 n1 mL nL : Nat} {k : Int} {a : XT m1 n1} {tL : XT mL nL} {z : Nat} (ha : tX n1 a ≤ z) (hL : toX nL tL = .mk k [] [toX n1 a] noSpan) : tX nL tL ≤ z + 1 := by
 rw [← toX_mono] at hL
 rw [tX_same _ _ _ _ hL, tX_mono]
 omega
theorem xY_bin_inv {k : Int} {A B : X} {y : YX} (hk : k = 2 ∨ k = 3 ∨ k = 4) (h : joinX k A B = xY y) : ∃ a b, y = .bin k a b ∧ A = xY a ∧ B = xY b := by
 cases y with
 | «at» f => rw [joinX, xY] at h; injection h with e1; omega
 | bin k' a b =>
  rw [joinX, xY] at h
  injection h with e1 e2 e3
  injection e3 with e3 e4
  injection e4 with e4
  exact ⟨a, b, by rw [e1], e3, e4⟩
 | pl a => rw [joinX, xY] at h; injection h with e1; omega
 | tm a j => rw [joinX, xY] at h; injection h with e1; omega
theorem xY_pl_inv {A : X} {y : YX} (h : X.mk 5 [] [A] noSpan = xY y) : ∃ a, y = .pl a ∧ A = xY a := by
 cases y with
 | «at» f => rw [xY] at h; injection h with e1; exact absurd e1 (by decide)
 | bin k' a b => rw [xY] at h; injection h with e1 e2 e3; simp at e3
 | pl a =>
  rw [xY] at h
  injection h with e1 e2 e3
  injection e3 with e3
  exact ⟨a, rfl, e3⟩
 | tm a j => rw [xY] at h; injection h with e1; exact absurd e1 (by decide)
theorem chain_norm {k : Int} (hk : k = 2 ∨ k = 3 ∨ k = 4) {A B C : X} {y z : YX} (hy : Nm.Ok y) (hz : Nm.Ok z) (h : joinX k (joinX k A B) C = xY y) (h' : joinX k A (joinX k B C) = xY z) : Nm.norm y = Nm.norm z := by
 obtain ⟨ab, c, rfl, h1, rfl⟩ := xY_bin_inv hk h
 obtain ⟨a, b, rfl, rfl, rfl⟩ := xY_bin_inv hk h1
 obtain ⟨a', bc, rfl, e1, h2⟩ := xY_bin_inv hk h'
 obtain ⟨b', c', rfl, e2, e3⟩ := xY_bin_inv hk h2
 obtain rfl := xY_inj _ _ hy.2.1.2.1 hz.2.1 e1
 obtain rfl := xY_inj _ _ hy.2.1.2.2 hz.2.2.2.1 e2
 obtain rfl := xY_inj _ _ hy.2.2 hz.2.2.2.2 e3
 exact Nm.norm_chain hk _ _ _
theorem plus_norm {A : X} {y z : YX} (hy : Nm.Ok y) (hz : Nm.Ok z) (h : X.mk 5 [] [A] noSpan = xY y) (h' : X.mk 5 [] [X.mk 5 [] [A] noSpan] noSpan = xY z) : Nm.norm y = Nm.norm z := by
 obtain ⟨b, rfl, e2⟩ := xY_pl_inv h'
 obtain ⟨a, rfl, e1⟩ := xY_pl_inv h
 obtain rfl := xY_inj (.pl a) b hy hz (h.symm.trans e2)
 exact (Nm.norm_plus a).symm
theorem NormIs.same {names : List ByteArray} {m n m' n' : Nat} {t : XT m n} {u : XT m' n'} {w w' : World} {v v' : Value} {c c' : Int} (h : NormIs names n t w v c) (h' : NormIs names n' u w' v' c') (hc : checkR names n t = checkR names n' u)
 (hn : ∀ y z, Nm.Ok y → Nm.Ok z → toX n t = xY y → toX n' u = xY z → Nm.norm y = Nm.norm z) :
 c = c' ∧ ∃ (m1 n1 m2 n2 : Nat) (t1 : XT m1 n1) (t2 : XT m2 n2), toX n1 t1 = toX n2 t2 ∧ XRep w w.heap.size m1 n1 t1 v ∧ XRep w' w'.heap.size m2 n2 t2 v' := by
 have none : ∀ w : World, XRep w w.heap.size 0 1 ((0, [], [], noSpan) : XT 0 1) noX := fun w => ⟨none, 0, none, 0, rfl, ⟨by simp, .inl rfl⟩, ⟨by simp, .inl rfl⟩⟩
 cases h with
 | err h1 =>
  cases h' with
  | err h2 => exact ⟨hc, 0, 1, 0, 1, _, _, rfl, none w, none w'⟩
  | ok h2 => exact absurd (hc.trans h2) h1
 | ok h1 y hy ho m1 n1 t1 ht1 _ hv =>
  cases h' with
  | err h2 => exact absurd (hc.symm.trans h1) h2
  | ok h2 z hz ho' m2 n2 t2 ht2 _ hv' => exact ⟨rfl, m1, n1, m2, n2, t1, t2, by rw [ht1, ht2, hn y z ho ho' hy hz], hv, hv'⟩
theorem NormIs.both {names : List ByteArray} {m n m' n' : Nat} {t : XT m n} {u : XT m' n'} {w w' : World} {v v' : Value} {c c' : Int} (h : NormIs names n t w v c) (h' : NormIs names n' u w' v' c')
 (hn : ∀ y z, Nm.Ok y → Nm.Ok z → toX n t = xY y → toX n' u = xY z → Nm.norm y = Nm.norm z) :
 (c != 0) = true ∨ (c = 0 ∧ (c' != 0) = true) ∨ (c = 0 ∧ c' = 0 ∧ ∃ (m1 n1 m2 n2 : Nat) (t1 : XT m1 n1) (t2 : XT m2 n2), toX n1 t1 = toX n2 t2 ∧ XRep w w.heap.size m1 n1 t1 v ∧ XRep w' w'.heap.size m2 n2 t2 v') := by
 cases h with
 | err h1 => exact .inl (by simpa using h1)
 | ok h1 y hy ho m1 n1 t1 ht1 _ hv =>
  cases h' with
  | err h2 => exact .inr (.inl ⟨rfl, by simpa using h2⟩)
  | ok h2 z hz ho' m2 n2 t2 ht2 _ hv' => exact .inr (.inr ⟨rfl, rfl, m1, n1, m2, n2, t1, t2, by rw [ht1, ht2, hn y z ho ho' hy hz], hv, hv'⟩)
theorem NormIs.shape {names : List ByteArray} {m n : Nat} {t : XT m n} {w : World} {v : Value} {c : Int} (h : NormIs names n t w v c) :
 ∃ k a1 l1 c1 a2 l2 c2 lo ls hi hs op, v = .agg #[.int .u8 k, .slice a1 l1 c1, .slice a2 l2 c2, .int .i64 lo, .bool ls, .int .i64 hi, .bool hs, .bool op] := by
 cases h with
 | err h1 => exact ⟨_, _, _, _, _, _, _, _, _, _, _, _, rfl⟩
 | ok h1 y hy ho m1 n1 t1 ht1 _ hv => exact hv.shape
theorem xi_all {w : World} {m n : Nat} {t : XT m n} {v : Value} (h : XRep w w.heap.size m n t v) : XI (fun _ => true) w (toX n t) v :=
 ⟨m, n, t, rfl, h.le (fun _ _ _ _ hx => cell_cutP rfl hx) (Nat.le_refl _)⟩
theorem xi_one {w : World} {t : X} {k1 lo1 hi1 : Int} {ls1 hs1 op1 : Bool} {a1 b1 : Option Addr} {l1 c1 m1 d1 : Nat} (h : XI (fun _ => true) w t (.agg #[.int .u8 k1, .slice a1 l1 c1, .slice b1 m1 d1, .int .i64 lo1, .bool ls1, .int .i64 hi1, .bool hs1, .bool op1])) (k : Int) (g c : Nat) (fr : Nat × Nat)
 (hg : w.heap[g]? = some (.cells #[.int .u8 k1, .slice a1 l1 c1, .slice b1 m1 d1, .int .i64 lo1, .bool ls1, .int .i64 hi1, .bool hs1, .bool op1] 28 fr)) :
 XI (fun _ => true) w (.mk k [] [t] noSpan) (.agg #[.int .u8 k, .slice none 0 0, .slice (some ⟨g, 0, none⟩) 1 c, .int .i64 0, .bool false, .int .i64 0, .bool false, .bool false]) := by
 refine XI.row (is := []) (l := [t]) (vs := fun _ => [.int .u8 k1, .slice a1 l1 c1, .slice b1 m1 d1, .int .i64 lo1, .bool ls1, .int .i64 hi1, .bool hs1, .bool op1]) (a1 := none) (a := some ⟨g, 0, none⟩) ⟨0, [], rfl, by simp, .inl rfl⟩ k 0 0 false false false 0 c (by simp)
  (.inr ⟨g, _, 28, fr, rfl, rfl, hg, fun i hi j hj => ?_⟩) (fun _ _ => rfl) fun i hi => ?_
 ·obtain rfl : i = 0 := by simpa using hi
  rw [Nat.zero_mul, Nat.zero_add]
  simp
 ·obtain rfl : i = 0 := by simpa using hi
  exact h
end Go.Proofs.YtpgdplmndnopbaaGreatDoor