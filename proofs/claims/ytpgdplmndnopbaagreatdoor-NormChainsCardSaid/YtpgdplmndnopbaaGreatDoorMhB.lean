/- A normal form may be where the expression may. No program. -/
import Derived.Test.YtpgdplmndnopbaaGreatDoorMhA
import Derived.Test.YtpgdplmndnopbaaGreatDoorMgG
namespace Go.Proofs.YtpgdplmndnopbaaGreatDoor
open Go.RowKit
theorem sum_same {α β γ : Type} (p : α → γ) (q : β → γ) (f : α → Nat) (g : β → Nat) : ∀ (l : List α) (l' : List β), (∀ x ∈ l, ∀ y, p x = q y → f x = g y) → l.map p = l'.map q → (l.map f).sum = (l'.map g).sum
 | [], [], _, _ => rfl
 | [], _ :: _, _, h => by simp at h
 | _ :: _, [], _, h => by simp at h
 | x :: l, y :: l', hf, h => by
  simp only [List.map_cons, List.cons.injEq] at h
  simp only [List.map_cons, List.sum_cons]
  rw [hf x (by simp) y h.1, sum_same p q f g l l' (fun x hx => hf x (by simp [hx])) h.2]
theorem nF_same : ∀ (n n' : Nat) (t : FT n) (u : FT n'), toF n t = toF n' u → nF n t = nF n' u
 | 0, _, t, _, _ => nomatch t
 | _ + 1, 0, _, u, _ => nomatch u
 | n + 1, n' + 1, t, u, h => by
  obtain ⟨k, s, of⟩ := t
  obtain ⟨k', s', of'⟩ := u
  have h' : F.mk k s (of.map (toF n)) = F.mk k' s' (of'.map (toF n')) := h
  injection h' with _ _ h3
  show 1 + (of.map (nF n)).sum = 1 + (of'.map (nF n')).sum
  rw [sum_same _ _ _ _ of of' (fun x _ y e => nF_same n n' x y e) h3]
open Classical in
noncomputable def sF (f : F) : Nat := if h : ∃ (p : (m : Nat) × FT m), toF p.1 p.2 = f then nF _ h.choose.2 else 0
theorem sF_eq {m : Nat} (t : FT m) : sF (toF m t) = nF m t := by
 have h : ∃ (p : (m : Nat) × FT m), toF p.1 p.2 = toF m t := ⟨⟨m, t⟩, rfl⟩
 unfold sF
 rw [dif_pos h]
 exact nF_same _ _ _ _ h.choose_spec
open Classical in
noncomputable def pF (so : Int → ByteArray → Nat → Bool) (f : F) : Bool := if h : ∃ (p : (m : Nat) × FT m), toF p.1 p.2 = f then allF so _ h.choose.2 else true
theorem pF_eq (so : Int → ByteArray → Nat → Bool) {m : Nat} (t : FT m) : pF so (toF m t) = allF so m t := by
 have h : ∃ (p : (m : Nat) × FT m), toF p.1 p.2 = toF m t := ⟨⟨m, t⟩, rfl⟩
 unfold pF
 rw [dif_pos h]
 exact allF_same so _ _ _ _ h.choose_spec
theorem allX_Y {m : Nat} (so : Int → List (FT m) → Nat → Spn → Bool) (p : F → Bool) (q : Spn → Bool)
 (h1 : ∀ f : FT m, so 1 [f] 0 noSpan = p (toF m f)) (h2 : ∀ k, (k = 2 ∨ k = 3 ∨ k = 4) → so k [] 2 noSpan = true) (h5 : so 5 [] 1 noSpan = true) (h6 : ∀ i, so 6 [] 1 i = q i) :
 ∀ (n : Nat) (t : XT m n) (y : YX), Nm.Ok y → toX n t = xY y → allX so n t = Nm.all p q y
 | 0, t, _, _, _ => nomatch t
 | n + 1, t, y, ho, h => by
  obtain ⟨k, is, of, i⟩ := t
  have h' : X.mk k (is.map (toF m)) (of.map (toX n)) i = xY y := h
  have e : allX so (n + 1) ((k, is, of, i) : XT m (n + 1)) = (so k is of.length i && of.all (allX so n)) := rfl
  rw [e]
  cases y with
  | «at» f =>
   rw [xY] at h'
   injection h' with e1 e2 e3 e4
   have : of = [] := List.map_eq_nil_iff.1 e3
   have hl : is.length = 1 := by have := congrArg List.length e2; simpa using this
   subst this e1 e4
   match is, hl, e2 with
   | [g], _, e2 =>
    simp only [List.map_cons, List.map_nil, List.cons.injEq, and_true] at e2
    show (so 1 [g] 0 noSpan && true) = p f
    rw [h1, e2, Bool.and_true]
  | bin k' a b =>
   rw [xY] at h'
   injection h' with e1 e2 e3 e4
   have : is = [] := List.map_eq_nil_iff.1 e2
   have hl : of.length = 2 := by have := congrArg List.length e3; simpa using this
   subst this e1 e4
   match of, hl, e3 with
   | [x, z], _, e3 =>
    simp only [List.map_cons, List.map_nil, List.cons.injEq, and_true] at e3
    have hk := ho.1
    have r1 := allX_Y so p q h1 h2 h5 h6 n x a ho.2.1 e3.1
    have r2 := allX_Y so p q h1 h2 h5 h6 n z b ho.2.2 e3.2
    show (so k [] 2 noSpan && (allX so n x && (allX so n z && true))) = (Nm.all p q a && Nm.all p q b)
    rw [h2 k hk, r1, r2, Bool.and_true, Bool.true_and]
  | pl a =>
   rw [xY] at h'
   injection h' with e1 e2 e3 e4
   have : is = [] := List.map_eq_nil_iff.1 e2
   have hl : of.length = 1 := by have := congrArg List.length e3; simpa using this
   subst this e1 e4
   match of, hl, e3 with
   | [x], _, e3 =>
    simp only [List.map_cons, List.map_nil, List.cons.injEq, and_true] at e3
    have r1 := allX_Y so p q h1 h2 h5 h6 n x a ho e3
    show (so 5 [] 1 noSpan && (allX so n x && true)) = Nm.all p q a
    rw [h5, r1, Bool.and_true, Bool.true_and]
  | tm a j =>
   rw [xY] at h'
   injection h' with e1 e2 e3 e4
   have : is = [] := List.map_eq_nil_iff.1 e2
   have hl : of.length = 1 := by have := congrArg List.length e3; simpa using this
   subst this e1 e4
   match of, hl, e3 with
   | [x], _, e3 =>
    simp only [List.map_cons, List.map_nil, List.cons.injEq, and_true] at e3
    have r1 := allX_Y so p q h1 h2 h5 h6 n x a ho e3
    show (so 6 [] 1 i && (allX so n x && true)) = (q i && Nm.all p q a)
    rw [h6, r1, Bool.and_true]
theorem nX_Y {m : Nat} : ∀ (n : Nat) (t : XT m n) (y : YX), Nm.Ok y → toX n t = xY y → nX n t = Nm.size sF y
 | 0, t, _, _, _ => nomatch t
 | n + 1, t, y, ho, h => by
  obtain ⟨k, is, of, i⟩ := t
  have h' : X.mk k (is.map (toF m)) (of.map (toX n)) i = xY y := h
  have e : nX (n + 1) ((k, is, of, i) : XT m (n + 1)) = (if k = 1 then (is.map (nF m)).sum else 1) + (of.map (nX n)).sum := rfl
  rw [e]
  cases y with
  | «at» f =>
   rw [xY] at h'
   injection h' with e1 e2 e3 e4
   have : of = [] := List.map_eq_nil_iff.1 e3
   have hl : is.length = 1 := by have := congrArg List.length e2; simpa using this
   subst this e1 e4
   match is, hl, e2 with
   | [g], _, e2 =>
    simp only [List.map_cons, List.map_nil, List.cons.injEq, and_true] at e2
    show _ = sF f
    rw [← e2, sF_eq]
    simp
  | bin k' a b =>
   rw [xY] at h'
   injection h' with e1 e2 e3 e4
   have hl : of.length = 2 := by have := congrArg List.length e3; simpa using this
   subst e1
   match of, hl, e3 with
   | [x, z], _, e3 =>
    simp only [List.map_cons, List.map_nil, List.cons.injEq, and_true] at e3
    have hk := ho.1
    have r1 := nX_Y n x a ho.2.1 e3.1
    have r2 := nX_Y n z b ho.2.2 e3.2
    show _ = 1 + Nm.size sF a + Nm.size sF b
    rw [if_neg (by omega)]
    simp [r1, r2]; omega
  | pl a =>
   rw [xY] at h'
   injection h' with e1 e2 e3 e4
   have hl : of.length = 1 := by have := congrArg List.length e3; simpa using this
   subst e1
   match of, hl, e3 with
   | [x], _, e3 =>
    simp only [List.map_cons, List.map_nil, List.cons.injEq, and_true] at e3
    have r1 := nX_Y n x a ho e3
    show _ = 1 + Nm.size sF a
    simp [r1]
  | tm a j =>
   rw [xY] at h'
   injection h' with e1 e2 e3 e4
   have hl : of.length = 1 := by have := congrArg List.length e3; simpa using this
   subst e1
   match of, hl, e3 with
   | [x], _, e3 =>
    simp only [List.map_cons, List.map_nil, List.cons.injEq, and_true] at e3
    have r1 := nX_Y n x a ho e3
    show _ = 1 + Nm.size sF a
    simp [r1]
theorem right_all {m : Nat} (n : Nat) (t : XT m n) (y : YX) (ho : Nm.Ok y) (h : toX n t = xY y) : allX rightX n t = Nm.all (pF rightB) (fun i => !(ivR i == 8)) y :=
 allX_Y rightX _ _ (fun f => by rw [pF_eq]; simp [rightX, manyOfX]) (fun k hk => by rcases hk with rfl | rfl | rfl <;> simp [rightX, manyOfX]) (by simp [rightX, manyOfX]) (fun i => by simp [rightX, manyOfX]) n t y ho h
theorem names_all {m : Nat} (names : List ByteArray) (n : Nat) (t : XT m n) (y : YX) (ho : Nm.Ok y) (h : toX n t = xY y) : allX (namesX names) n t = Nm.all (pF (declB names)) (fun _ => true) y :=
 allX_Y (namesX names) _ _ (fun f => by rw [pF_eq]; simp [namesX]) (fun k hk => by simp [namesX]) (by simp [namesX]) (fun i => by simp [namesX]) n t y ho h
theorem open_all {m : Nat} (n : Nat) (t : XT m n) (y : YX) (ho : Nm.Ok y) (h : toX n t = xY y) : allX openX n t = Nm.all (fun _ => true) (fun i => ivR i == 0) y :=
 allX_Y openX _ _ (fun f => by simp [openX]) (fun k hk => by rcases hk with rfl | rfl | rfl <;> simp [openX]) (by simp [openX]) (fun i => by simp [openX]) n t y ho h
theorem check_norm {m m' : Nat} {names : List ByteArray} {n n' : Nat} {t : XT m n} {t' : XT m' n'} {y : YX} (ho : Nm.Ok y) (h : toX n t = xY y) (h' : toX n' t' = xY (Nm.norm y)) (hb : nX n t ≤ 1000000) (hc : checkR names n t = 0) :
 checkR names n' t' = 0 ∧ manyX n' t' ≤ manyX n t := by
 have ho' := Nm.ok_norm ho
 have hn := nX_Y n t y ho h
 have hn' := nX_Y n' t' _ ho' h'
 have hs := Nm.size_norm sF y
 have hm := manyX_n n t hb
 have hm' := manyX_n n' t' (by omega)
 obtain ⟨c1, c2, c3, c4, c5⟩ := checkR_zero.1 hc
 refine ⟨checkR_zero.2 ⟨c1, ?_, by omega, ?_, ?_⟩, by omega⟩
 ·rw [right_all n' t' _ ho' h', Nm.all_norm, ← right_all n t y ho h]; exact c2
 ·rw [names_all names n' t' _ ho' h', Nm.all_norm, ← names_all names n t y ho h]; exact c4
 ·rw [open_all n' t' _ ho' h', Nm.all_norm, ← open_all n t y ho h]; exact c5
end Go.Proofs.YtpgdplmndnopbaaGreatDoor

/- A normal form has the same greatest constant. No program. -/
namespace Go.Proofs.YtpgdplmndnopbaaGreatDoor
open Go.RowKit
namespace Nm
variable {α β : Type}
def cst (g : β → Int) : Y α β → Int
 | .at _ => 0
 | .bin _ a b => max (cst g a) (cst g b)
 | .pl a => cst g a
 | .tm a i => max (g i) (cst g a)
theorem cst_pos (g : β → Int) : ∀ y : Y α β, 0 ≤ cst g y
 | .at _ => by simp [cst]
 | .bin _ a b => by have := cst_pos g a; simp only [cst]; omega
 | .pl a => by have := cst_pos g a; simp only [cst]; omega
 | .tm a i => by have := cst_pos g a; simp only [cst]; omega
def cstO (g : β → Int) : Option (Y α β) → Int
 | none => 0
 | some z => cst g z
theorem cst_put (g : β → Int) (k : Int) (y : Y α β) (acc : Option (Y α β)) : cst g (put k y acc) = max (cst g y) (cstO g acc) := by
 cases acc with
 | none => have := cst_pos g y; show cst g y = max (cst g y) 0; omega
 | some z => rfl
theorem cst_plus (g : β → Int) (y : Y α β) : cst g (plus y) = cst g y := by
 unfold plus
 split <;> rfl
theorem cst_nf (g : β → Int) : ∀ (x : Y α β) (k : Int) (acc : Option (Y α β)), cst g (nf x k acc) = max (cst g x) (cstO g acc)
 | .at _, k, acc => by rw [nf, cst_put]
 | .bin k' a b, k, acc => by
  rw [nf]
  have e : cst g (.bin k' a b : Y α β) = max (cst g a) (cst g b) := rfl
  split
  ·rw [cst_nf g a]
   show max (cst g a) (cst g (nf b k acc)) = _
   rw [cst_nf g b, e]; omega
  ·rw [cst_put, cst_nf g a]
   show max (max (cst g a) (cst g (nf b k' none))) _ = _
   rw [cst_nf g b, e]
   have := cst_pos g b
   show max (max (cst g a) (max (cst g b) 0)) _ = _
   omega
 | .pl a, k, acc => by
  rw [nf, cst_put, cst_plus, cst_nf g a]
  have := cst_pos g a
  show max (max (cst g a) 0) _ = max (cst g a) _
  omega
 | .tm a i, k, acc => by
  rw [nf, cst_put]
  show max (max (g i) (cst g (nf a 0 none))) _ = max (max (g i) (cst g a)) _
  rw [cst_nf g a]
  have := cst_pos g a
  show max (max (g i) (max (cst g a) 0)) _ = _
  omega
theorem cst_norm (g : β → Int) (x : Y α β) : cst g (norm x) = cst g x := by
 show cst g (nf x 0 none) = _
 rw [cst_nf]
 have := cst_pos g x
 show max (cst g x) 0 = _
 omega
end Nm
theorem constX_Y {m : Nat} : ∀ (n : Nat) (t : XT m n) (y : YX), Nm.Ok y → toX n t = xY y → constX n t = Nm.cst (fun i => max (max 0 i.low) i.high) y
 | 0, t, _, _, _ => nomatch t
 | n + 1, t, y, ho, h => by
  obtain ⟨k, is, of, i⟩ := t
  have h' : X.mk k (is.map (toF m)) (of.map (toX n)) i = xY y := h
  have e : constX (n + 1) ((k, is, of, i) : XT m (n + 1)) = of.foldl (fun a y => max a (constX n y)) (max (max 0 i.low) i.high) := rfl
  rw [e]
  cases y with
  | «at» f =>
   rw [xY] at h'
   injection h' with e1 e2 e3 e4
   have : of = [] := List.map_eq_nil_iff.1 e3
   subst this e4
   rfl
  | bin k' a b =>
   rw [xY] at h'
   injection h' with e1 e2 e3 e4
   have hl : of.length = 2 := by have := congrArg List.length e3; simpa using this
   subst e4
   match of, hl, e3 with
   | [x, z], _, e3 =>
    simp only [List.map_cons, List.map_nil, List.cons.injEq, and_true] at e3
    have r1 := constX_Y n x a ho.2.1 e3.1
    have r2 := constX_Y n z b ho.2.2 e3.2
    have p1 := Nm.cst_pos (fun i : Spn => max (max 0 i.low) i.high) a
    show max (max (max (max 0 (0 : Int)) 0) (constX n x)) (constX n z) = max _ _
    rw [r1, r2]; omega
  | pl a =>
   rw [xY] at h'
   injection h' with e1 e2 e3 e4
   have hl : of.length = 1 := by have := congrArg List.length e3; simpa using this
   subst e4
   match of, hl, e3 with
   | [x], _, e3 =>
    simp only [List.map_cons, List.map_nil, List.cons.injEq, and_true] at e3
    have r1 := constX_Y n x a ho e3
    have p1 := Nm.cst_pos (fun i : Spn => max (max 0 i.low) i.high) a
    show max (max (max 0 (0 : Int)) 0) (constX n x) = Nm.cst _ a
    rw [r1]; omega
  | tm a j =>
   rw [xY] at h'
   injection h' with e1 e2 e3 e4
   have hl : of.length = 1 := by have := congrArg List.length e3; simpa using this
   subst e4
   match of, hl, e3 with
   | [x], _, e3 =>
    simp only [List.map_cons, List.map_nil, List.cons.injEq, and_true] at e3
    have r1 := constX_Y n x a ho e3
    show max (max (max 0 i.low) i.high) (constX n x) = max _ _
    rw [r1]
theorem const_norm {m m' : Nat} {n n' : Nat} {t : XT m n} {t' : XT m' n'} {y : YX} (ho : Nm.Ok y) (h : toX n t = xY y) (h' : toX n' t' = xY (Nm.norm y)) : constX n' t' = constX n t := by
 rw [constX_Y n' t' _ (Nm.ok_norm ho) h', constX_Y n t y ho h, Nm.cst_norm]
end Go.Proofs.YtpgdplmndnopbaaGreatDoor
