/- What is asked of proofs and expressions in memory, for the document's check: definitions. -/
import Derived.Test.YtockinpjfhhkoaaGreatDoorZ22
import Derived.Deep.RegionHeld
import Derived.Deep.Cut
import Derived.LoopTactic
import Derived.Test.YtockinpjfhhkoaaGreatDoorZ36
import Derived.Test.YtockinpjfhhkoaaGreatDoorZ37
import Derived.Test.YtockinpjfhhkoaaGreatDoorZ05
import Derived.Test.YtockinpjfhhkoaaGreatDoorZ38
set_option maxRecDepth 100000
set_option maxHeartbeats 16000000
open Go.Lib renaming cell_of_heap → Jc
namespace Go.Proofs.YtockinpjfhhkoaaGreatDoor
open Go.RowKit
def sideT : (n : Nat) → PT n → Prop
 | 0,_ => True
 | n + 1,t => (0 ≤ t.2.1 ∧ t.2.1 ≤ 255) ∧ ∀ y ∈ t.2.2.2,sideT n y
def rngS : (n : Nat) → PT n → Prop
 | 0,_ => True
 | n + 1,t => ((0 ≤ t.2.1 ∧ t.2.1 ≤ 255) ∧ t.2.2.2.length ≤ 6000) ∧ ∀ y ∈ t.2.2.2,rngS n y
def CapX (w : World) (B : Nat) : Nat → Value → Prop
 | 0,_ => False
 | n
  + 1,v => ∃ v0 v1 a l c v3 v4 v5 v6 v7,v = .agg #[v0,v1,.slice a l c,v3,v4,v5,v6,v7] ∧ l ≤ c ∧
  (l = 0 ∨ ∃ b off,a = some ⟨b,off,none⟩ ∧ b < B ∧ ∀ i,i < l → ∃ vs : List Value,vs.length = 8 ∧ (∀ j,j < 8 → w.cell? ⟨b,off + i * 8 + j,none⟩ = vs[j]?) ∧ CapX w B n (.agg vs.toArray))
theorem CapX.up {w w' : World} {B B' : Nat} (hb : Below B w w') (hB : B ≤ B') : ∀ {n : Nat} {v : Value},CapX w B n v → CapX w' B' n v
 | 0,_,h => h.elim
 | n + 1,v,h => by
  obtain ⟨v0,v1,a,l,c,v3,v4,v5,v6,v7,e,hl,h⟩:=h
  refine ⟨v0,v1,a,l,c,v3,v4,v5,v6,v7,e,hl,?_⟩
  rcases h with h | ⟨b,off,ha,hlt,hc⟩
  ·exact .inl h
  ·refine .inr ⟨b,off,ha,Nat.lt_of_lt_of_le hlt hB,fun i hi => ?_⟩
   obtain ⟨vs,h1,h2,h3⟩:=hc i hi
   exact ⟨vs,h1,fun j hj => (hb.cell (p:=⟨b,_,none⟩) hlt).trans (h2 j hj),CapX.up hb hB h3⟩
open Go.RowKit
def ShowsB (names : List ByteArray) (m : Nat) (nv : Value) (la : Option Addr) (lc : Nat) (l : List (Int × Int)) (d n : Nat) : Prop :=
 ∀ (x : XT m d) (xv : Value) (a p b q : Int) (t : PT n) (wv : Value) (W : World),EnvC names nv la lc l W → XRep W W.heap.size m d x xv → CapX W W.heap.size d xv → allX z02 d x = true → allX z11 d x = true → fineX names d x →
  PRep W W.heap.size n t wv → okT n t → rngS n t → mayP (a,p) = true → mayP (b,q) = true → in64 a → in64 b →
  Calls Tryz.prog 58 #[nv,xv,.slice la l.length lc,.agg #[.int .i64 a,.int .i64 p],.agg #[.int .i64 b,.int .i64 q],wv] W fun e w' =>
   e = .returned (.bool (z0q (z09 names m) l n (toX d x) (a,p) (b,q) t)) ∧ Below W.heap.size W w'
def PartsB (w : World) (names : List ByteArray) (m d : Nat) (pa : Option Addr) (ps : List (XT m d)) : Prop :=
 ∀ j (h : j < ps.length),∃ (g off : Nat) (vs : List Value),pa = some ⟨g,off,none⟩ ∧ g < w.heap.size ∧ vs.length = 8 ∧ (∀ i,i < 8 → w.cell? ⟨g,off + j * 8 + i,none⟩ = vs[i]?) ∧ XRep w w.heap.size m d ps[j] (.agg vs.toArray) ∧ CapX w w.heap.size d (.agg vs.toArray) ∧ allX z02 d ps[j] = true ∧ allX z11 d ps[j] = true ∧ fineX names d ps[j]
theorem PartsB.up {w w' : World} {names : List ByteArray} {m d : Nat} {pa : Option Addr} {ps : List (XT m d)} (h : PartsB w names m d pa ps) (hb : Below w.heap.size w w') : PartsB w' names m d pa ps:=fun j hj => by
 obtain ⟨g,off,vs,h1,h2,h3,h4,h5,h6,h7⟩:=h j hj
 exact ⟨g,off,vs,h1,Nat.lt_of_lt_of_le h2 hb.size,h3,fun i hi => (hb.cell (p:=⟨g,_,none⟩) h2).trans (h4 i hi),h5.up hb hb.size,h6.up hb hb.size,h7⟩
theorem right_parts {m : Nat} {k : Int} {is : List (FT m)} {ol : Nat} {i : Spn} (h : z02 k is ol i = true) :
 ((k = 1 ∧ ol = 0 ∧ is.length = 1) ∨ (k = 2 ∧ ol = 2) ∨ (k = 3 ∧ ol = 2) ∨ (k = 4 ∧ ol = 2) ∨ (k = 5 ∧ ol = 1) ∨ (k = 6 ∧ ol = 1 ∧ (0 ≤ i.low ∧ i.low < 288230376151711744) ∧ (0 ≤ i.high ∧ i.high < 288230376151711744))):=by
 unfold z02 at h
 simp only [Bool.and_eq_true,decide_eq_true_eq,beq_iff_eq] at h
 obtain ⟨⟨⟨⟨⟨h1,h2⟩,h3⟩,h4⟩,_⟩,h6⟩:=h
 rcases (by omega : k = 1 ∨ k = 2 ∨ k = 3 ∨ k = 4 ∨ k = 5 ∨ k = 6) with rfl | rfl | rfl | rfl | rfl | rfl
 ·rw [if_pos rfl] at h6
  simp only [Bool.and_eq_true,beq_iff_eq] at h6
  exact .inl ⟨rfl,h3,h6.1⟩
 ·exact .inr (.inl ⟨rfl,h3⟩)
 ·exact .inr (.inr (.inl ⟨rfl,h3⟩))
 ·exact .inr (.inr (.inr (.inl ⟨rfl,h3⟩)))
 ·exact .inr (.inr (.inr (.inr (.inl ⟨rfl,h3⟩))))
 ·refine .inr (.inr (.inr (.inr (.inr ⟨rfl,h3,?_⟩))))
  have h8 : ¬ ivR i = 8:=by simpa using h4
  unfold ivR at h8
  split at h8
  ·exact absurd rfl h8
  ·rename_i hn
   simp only [Bool.or_eq_true,Bool.not_eq_true',not_or] at hn
   obtain ⟨⟨g1,g2⟩,_⟩:=hn
   unfold z2u at g1 g2
   simp only [Bool.not_eq_false,Bool.and_eq_true,decide_eq_true_eq] at g1 g2
   exact ⟨g1,g2⟩
theorem list8 {w : World} {g off : Nat} {vs us : List Value} (h1 : vs.length = 8) (h2 : us.length = 8) (h3 : ∀ j,j < 8 → w.cell? ⟨g,off + j,none⟩ = vs[j]?) (h4 : ∀ j,j < 8 → w.cell? ⟨g,off + j,none⟩ = us[j]?) : vs = us:=by
 refine List.ext_getElem (by omega) fun j hj hk => ?_
 have e:=(h3 j (by omega)).symm.trans (h4 j (by omega))
 rw [List.getElem?_eq_getElem hj,List.getElem?_eq_getElem hk] at e
 exact Option.some.inj e
theorem partsB_of {w : World} {names : List ByteArray} {m d : Nat} {a2 : Option Addr} {xs : List (XT m d)} {v0 v1 v3 v4 v5 v6 v7 : Value} {c2 : Nat} (hxr : XRow w w.heap.size m d a2 xs) (hcap : CapX w w.heap.size (d + 1) (.agg #[v0,v1,.slice a2 xs.length c2,v3,v4,v5,v6,v7]))
 (q : ∀ y ∈ xs,allX z02 d y = true) (o : ∀ y ∈ xs,allX z11 d y = true) (f : ∀ y ∈ xs,fineX names d y) : PartsB w names m d a2 xs:=by
 obtain ⟨_,_,_,_,_,_,_,_,_,_,e,hl,hc⟩:=hcap
 simp only [Value.agg.injEq,Array.mk.injEq,List.cons.injEq,Value.slice.injEq,and_true] at e
 obtain ⟨_,_,⟨rfl,e2,e3⟩,_⟩:=e
 rw [← e2] at hc
 intro j hj
 rcases hc with hc | ⟨g,off,ha,hg,hc⟩
 ·omega
 ·obtain ⟨_,hx | ⟨g2,off2,ha2,hg2,hx⟩⟩:=hxr
  ·rw [hx] at hj; simp at hj
  ·rw [ha] at ha2
   have e4 : g = g2 ∧ off = off2:=by simpa using ha2
   obtain ⟨rfl,rfl⟩:=e4
   obtain ⟨vs,h1,h2,h3⟩:=hc j hj
   obtain ⟨us,k1,k2,k3⟩:=hx j hj
   have ev:=list8 h1 k1 h2 k2
   subst ev
   exact ⟨g,off,vs,ha,hg,h1,h2,k3,h3,q _ (List.getElem_mem hj),o _ (List.getElem_mem hj),f _ (List.getElem_mem hj)⟩
theorem RatsRep.upT {w w' : World} {B B' : Nat} {v : Value} {l : List (Int × Int)} (h : RatsRep w B v l) (hb : Below B w w') (hB : B ≤ B') : RatsRep w' B' v l:=by
 obtain ⟨a,cap,hv,hm,h⟩:=h
 refine ⟨a,cap,hv,hm,?_⟩
 rcases h with h | ⟨b,off,ha,hlt,hc⟩
 ·exact .inl h
 ·exact .inr ⟨b,off,ha,Nat.lt_of_lt_of_le hlt hB,fun i hi => ⟨(hb.cell (p:=⟨b,_,none⟩) hlt).trans (hc i hi).1,(hb.cell (p:=⟨b,_,none⟩) hlt).trans (hc i hi).2⟩⟩
theorem kk_one {k : Int} {ol n : Nat} {A B : Prop} (h : (k = 1 ∧ ol = 0 ∧ n = 1) ∨ (k = 2 ∧ ol = 2) ∨ (k = 3 ∧ ol = 2) ∨ (k = 4 ∧ ol = 2) ∨ (k = 5 ∧ ol = 1) ∨ (k = 6 ∧ ol = 1 ∧ A ∧ B)) (hk : k = 1) : n = 1:=by
 rcases h with h | h | h | h | h | h <;> omega
theorem kk_six {k : Int} {ol n : Nat} {A B : Prop} (h : (k = 1 ∧ ol = 0 ∧ n = 1) ∨ (k = 2 ∧ ol = 2) ∨ (k = 3 ∧ ol = 2) ∨ (k = 4 ∧ ol = 2) ∨ (k = 5 ∧ ol = 1) ∨ (k = 6 ∧ ol = 1 ∧ A ∧ B)) (hk : k = 6) : A ∧ B:=by
 rcases h with h | h | h | h | h | h
 ·omega
 ·omega
 ·omega
 ·omega
 ·omega
 ·exact h.2.2
theorem stepG_is {α : Type} {hold : F → Int → Bool} {l : List (Int × Int)} {shows : X → Int × Int → Int × Int → α → Bool} {k : Int} {is : List F} {i : Spn} {t u : Int × Int} {wk sd side : Int} {ps : List X} {at_ : List (Int × Int)} {of : List α} {R : Bool} {l4 l3 pn : Nat} {tm : Int}
 (HR : R = z3a hold l shows k is i t u wk sd side ps at_ of) (h4 : of.length = l4) (h3 : at_.length = l3) (hp : ps.length = pn) (htm : (if k = 4 ∨ k = 5 then (l4 : Int) - 1 else 0) = tm) (hk : (k = 4 ∨ k = 5) → 0 < pn) :
 R = (wk == k && sd == side && decide (l4 = pn) && decide ((l3 : Int) = tm) && (if k = 1 then headD hold l is t u
  else !(decide (at_ ≠ []) && !z23 (t :: (at_ ++ [u]))) && !(decide (k = 6) && !z2k t u i) && allK shows (decide (at_ ≠ [])) t u (t :: (at_ ++ [u])) ps of 0 of.length)):=by
 rw [HR,z3a,h4,h3,hp,← htm]
 have e1 : (l4 == pn) = decide (l4 = pn):=by rw [Bool.eq_iff_iff]; simp
 rw [e1]
 by_cases h : l4 = pn
 ·have e2 : (l3 == (if k = 4 ∨ k = 5 then l4 - 1 else 0)) = decide ((l3 : Int) = (if k = 4 ∨ k = 5 then (l4 : Int) - 1 else 0)):=by
   rw [Bool.eq_iff_iff,beq_iff_eq,decide_eq_true_eq]
   split
   ·rename_i hk'
    have:=hk hk'
    omega
   ·omega
  rw [e2]
 ·rw [decide_eq_false h]; simp
theorem rats_oneT {w : World} {g : Nat} {a p : Int} (h : w.heap[g]? = some (.cells #[.int .i64 a,.int .i64 p] 50 (0,0))) (c : Nat) : RatsRep w w.heap.size (.slice (some ⟨g,0,none⟩) 1 c) [(a,p)]:=by
 refine ⟨some ⟨g,0,none⟩,c,rfl,(show (1 : Nat) ≤ 9223372036854775807 by decide),.inr ⟨g,0,rfl,(Array.getElem?_eq_some_iff.1 h).1,fun i hi => ?_⟩⟩
 have hi' : i < 1:=hi
 obtain rfl : i = 0:=by omega
 exact ⟨Jc h 0,Jc h 1⟩
theorem list_eight {vs : List Value} (h : vs.length = 8) : ∃ a b c d e f g h,vs = [a,b,c,d,e,f,g,h]:=by
 match vs,h with
 | [a,b,c,d,e,f,g,h],_ => exact ⟨a,b,c,d,e,f,g,h,rfl⟩
theorem rep_at {vs : List Value} (h8 : vs.length = 8) {i : Nat} (hi : i < 8) : ∀ (n j : Nat),j < n → (List.replicate n vs).flatten[j * 8 + i]? = vs[i]?
 | 0,_,h => absurd h (Nat.not_lt_zero _)
 | n + 1,0,_ => by
  rw [List.replicate_succ,List.flatten_cons,Nat.zero_mul,Nat.zero_add,List.getElem?_append_left (by omega)]
 | n + 1,j + 1,h => by
  rw [List.replicate_succ,List.flatten_cons,List.getElem?_append_right (by omega),show (j + 1) * 8 + i - vs.length = j * 8 + i by omega]
  exact rep_at h8 hi n j (by omega)
theorem rep_succ (vs : List Value) (n : Nat) : (List.replicate n vs).flatten ++ vs = (List.replicate (n + 1) vs).flatten:=by
 rw [List.replicate_succ',List.flatten_append]; simp
theorem parts_rep {w : World} {names : List ByteArray} {m d B g n cap : Nat} {vs : List Value} {x : XT m d} (h : w.ownsRow B 47 8 (.slice (some ⟨g,0,none⟩) n cap) n (List.replicate n vs).flatten) (hg : g < w.heap.size) (h8 : vs.length = 8)
 (hx : XRep w w.heap.size m d x (.agg vs.toArray)) (hc : CapX w w.heap.size d (.agg vs.toArray)) (r : allX z02 d x = true) (o : allX z11 d x = true) (f : fineX names d x) : PartsB w names m d (some ⟨g,0,none⟩) (List.replicate n x):=by
 intro j hj
 have hj' : j < n:=by simpa using hj
 have e : (List.replicate n x)[j] = x:=by simp
 rw [e]
 refine ⟨g,0,vs,rfl,hg,h8,fun i hi => ?_,hx,hc,r,o,f⟩
 have h2:=h.cellAt (j * 8 + i) (by omega)
 rw [rep_at h8 hi n j hj'] at h2
 rw [← h2]
 congr 2; omega
theorem allK_step {α : Type} {shows : X → Int × Int → Int × Int → α → Bool} {tm : Bool} {t u : Int × Int} {row : List (Int × Int)} {ps : List X} {of : List α} {j : Nat} (h1 : j < ps.length) (h2 : j < of.length) :
 allK shows tm t u row ps of j (of.length - j) = (shows ps[j] (if tm then row.getD j t else t) (if tm then row.getD (j + 1) u else u) of[j] && allK shows tm t u row ps of (j + 1) (of.length - (j + 1))):=by
 rw [show of.length - j = (of.length - (j + 1)) + 1 by omega]
 show (okAt shows tm t u row ps of j && _) = _
 unfold okAt
 rw [List.getElem?_eq_getElem h1,List.getElem?_eq_getElem h2]
theorem times_may {ats : List (Int × Int)} {a p b q : Int} {k : Int} {l3 l4 : Nat} {tm : Int} {z : Bool} (ht : mayP (a,p) = true) (hu : mayP (b,q) = true) (ia : in64 a) (ib : in64 b) (hi : ∀ s ∈ ats,in64 s.1)
 (h3 : ats.length = l3) (h4 : (l3 : Int) = tm) (htm : (if k = 4 ∨ k = 5 then (l4 : Int) - 1 else 0) = tm) (hp : (!(decide (ats ≠ []) && !z23 ((a,p) :: (ats ++ [(b,q)]))) && z) = true) {j : Nat} (hj : j < l4) :
 (decide (ats ≠ []) = true → j + 1 < ((a,p) :: (ats ++ [(b,q)])).length) ∧ ∀ t u,(if decide (ats ≠ []) then ((a,p) :: (ats ++ [(b,q)])).getD j (a,p) else (a,p)) = t → (if decide (ats ≠ []) then ((a,p) :: (ats ++ [(b,q)])).getD (j + 1) (b,q) else (b,q)) = u → (mayP t = true ∧ in64 t.1) ∧ mayP u = true ∧ in64 u.1:=by
 have hln : decide (ats ≠ []) = true → j + 1 < ((a,p) :: (ats ++ [(b,q)])).length:=fun h => by
  have h:=of_decide_eq_true h
  have hpos : 0 < ats.length:=List.length_pos_iff.2 h
  simp only [List.length_cons,List.length_append,List.length_nil]
  split at htm <;> omega
 refine ⟨hln,fun t u h1 h2 => ?_⟩
 by_cases hn : ats = []
 ·rw [if_neg (by simp [hn])] at h1 h2
  subst h1 h2
  exact ⟨⟨ht,ia⟩,hu,ib⟩
 ·have hd : decide (ats ≠ []) = true:=by simpa using hn
  rw [if_pos hd] at h1 h2
  rw [hd,Bool.true_and,Bool.not_not,Bool.and_eq_true] at hp
  have hl:=hln hd
  have hin : ∀ s ∈ ((a,p) :: (ats ++ [(b,q)])),in64 s.1:=by
   intro s hs
   rw [List.mem_cons,List.mem_append,List.mem_singleton] at hs
   rcases hs with rfl | hs | rfl
   ·exact ia
   ·exact hi s hs
   ·exact ib
  rw [List.getD_eq_getElem?_getD,List.getElem?_eq_getElem (by omega)] at h1
  rw [List.getD_eq_getElem?_getD,List.getElem?_eq_getElem hl] at h2
  have e1 : t ∈ ((a,p) :: (ats ++ [(b,q)])):=by rw [← h1]; exact List.getElem_mem _
  have e2 : u ∈ ((a,p) :: (ats ++ [(b,q)])):=by rw [← h2]; exact List.getElem_mem _
  exact ⟨⟨z3j hp.1 t e1,hin t e1⟩,z3j hp.1 u e2,hin u e2⟩
theorem times_pos {ats : List (Int × Int)} {l3 : Nat} {tm : Int} (h3 : ats.length = l3) (h4 : (l3 : Int) = tm) : decide (0 < tm) = decide (ats ≠ []):=by
 rw [decide_eq_decide]
 cases ats with
 | nil => simp at h3 ⊢; omega
 | cons => simp at h3 ⊢; omega
end Go.Proofs.YtockinpjfhhkoaaGreatDoor
