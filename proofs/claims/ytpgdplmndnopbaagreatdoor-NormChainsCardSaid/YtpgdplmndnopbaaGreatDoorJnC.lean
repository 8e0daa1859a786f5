/- The examples of layer 18 walked. -/
import Derived.Test.YtpgdplmndnopbaaGreatDoorJnB
import Derived.Test.YtpgdplmndnopbaaGreatDoorMgQ
namespace Go.Proofs.YtpgdplmndnopbaaGreatDoor
open Go.RowKit
theorem tF_same : ∀ (n n' : Nat) (t : FT n) (u : FT n'), toF n t = toF n' u → tF n t = tF n' u
 | 0, _, t, _, _ => nomatch t
 | _ + 1, 0, _, u, _ => nomatch u
 | n + 1, n' + 1, t, u, h => by
  obtain ⟨k, s, of⟩ := t
  obtain ⟨k', s', of'⟩ := u
  have h' : F.mk k s (of.map (toF n)) = F.mk k' s' (of'.map (toF n')) := h
  injection h' with h1 h2 h3
  have H : of.map (tF n) = of'.map (tF n') := map_rel h3 fun x _ y _ e => tF_same n n' x y e
  show 1 + s.size + (of.map (tF n)).sum = 1 + s'.size + (of'.map (tF n')).sum
  rw [H, h2]
theorem tX_same {m m' : Nat} : ∀ (n n' : Nat) (t : XT m n) (u : XT m' n'), toX n t = toX n' u → tX n t = tX n' u
 | 0, _, t, _, _ => nomatch t
 | _ + 1, 0, _, u, _ => nomatch u
 | n + 1, n' + 1, t, u, h => by
  obtain ⟨k, is, of, i⟩ := t
  obtain ⟨k', is', of', i'⟩ := u
  have h' : X.mk k (is.map (toF m)) (of.map (toX n)) i = X.mk k' (is'.map (toF m')) (of'.map (toX n')) i' := h
  injection h' with h1 h2 h3 h4
  have H : of.map (tX n) = of'.map (tX n') := map_rel h3 fun x _ y _ e => tX_same n n' x y e
  have H2 : is.map (tF m) = is'.map (tF m') := map_rel h2 fun x _ y _ e => tF_same m m' x y e
  show 1 + (is.map (tF m)).sum + (of.map (tX n)).sum = 1 + (is'.map (tF m')).sum + (of'.map (tX n')).sum
  rw [H, H2]
theorem textR_same (names : List ByteArray) {m m' n n' : Nat} {t : XT m n} {u : XT m' n'} (h : toX n t = toX n' u) : textR names n t = textR names n' u := by
 unfold textR
 rw [checkR_same names h, prX_same Lib.itoa n n' t u 0 h]
def aP : XT 2 1 := (1, [fP], [], noSpan)
def aQ : XT 2 1 := (1, [fQ], [], noSpan)
def xC : XT 2 3 := (4, [], [(1, [fP], [], noSpan), (4, [], [aQ, aP], noSpan)], noSpan)
def s1 : ByteArray := ⟨#[112, 32, 59, 32, 40, 32, 113, 59, 112, 32, 41]⟩
def r1 : ByteArray := ⟨#[112, 59, 40, 113, 59, 112, 41]⟩
def s2 : ByteArray := ⟨#[40, 40, 112, 41, 41, 32, 124, 32, 113]⟩
def r2 : ByteArray := ⟨#[112, 124, 113]⟩
def r3 : ByteArray := ⟨#[112, 124, 124, 113]⟩
def s4 : ByteArray := ⟨#[40, 112, 124, 113, 41, 43]⟩
end Go.Proofs.YtpgdplmndnopbaaGreatDoor