/- Plain laws of WitnessStays: an atom asks what holds at each moment, so a proof shows the same of a signal that says the same, and of one that goes on. No program. -/
import Derived.Test.YtockinpjfhhkoaaGreatDoorZ14
import Derived.Test.YtockinpjfhhkoaaGreatDoorZ01
import Derived.Test.YtockinpjfhhkoaaGreatDoorZ42
set_option maxRecDepth 100000
set_option maxHeartbeats 16000000
namespace Go.Proofs.YtockinpjfhhkoaaGreatDoor
open Go.RowKit
def onG : Int → List (Int × Int) → Int → Int
 | _,[],_ => 0
 | at_,s :: r,m => if m < at_ + s.1 then s.2 else onG (at_ + s.1) r m
theorem sumG_cons (at_ : Int) (s : Int × Int) (r : List (Int × Int)) : sumG at_ (s :: r) = sumG (at_ + s.1) r:=rfl
theorem sumG_le : ∀ (l : List (Int × Int)) (a : Int),(∀ x ∈ l,1 ≤ x.1) → a ≤ sumG a l
 | [],a,_ => Int.le_refl a
 | x :: l,a,h => by
  have:=sumG_le l (a + x.1) fun y hy => h y (by simp [hy])
  have hx:=h x (by simp)
  rw [sumG_cons]; omega
theorem sumG_app (l r : List (Int × Int)) (a : Int) : sumG a (l ++ r) = sumG (sumG a l) r:=by
 unfold sumG; rw [List.foldl_append]
theorem lt_whole {m b q : Int} (hq : 0 < q) : ltQ m 1 b q = decide (m ≤ (b - 1) / q):=by
 unfold ltQ
 apply Bool.eq_iff_iff.2
 simp only [decide_eq_true_eq,Int.mul_one]
 rw [Int.le_ediv_iff_mul_le hq]
 omega
theorem whole_lt {m a p : Int} (hp : 0 < p) : ltQ a p m 1 = decide (a / p < m):=by
 unfold ltQ
 apply Bool.eq_iff_iff.2
 simp only [decide_eq_true_eq,Int.mul_one]
 rw [Int.ediv_lt_iff_lt_mul hp]
theorem floor_le {a p b q : Int} (hp : 0 < p) (hq : 0 < q) (h : ltQ a p b q = true) : a / p ≤ (b - 1) / q:=by
 rw [Int.le_ediv_iff_mul_le hq]
 unfold ltQ at h
 simp only [decide_eq_true_eq] at h
 have h1 : a / p * p ≤ a:=Int.ediv_mul_le a (by omega)
 have h2 : a / p * p * q ≤ a * q:=Int.mul_le_mul_of_nonneg_right h1 (by omega)
 have h3 : a / p * q * p < b * p:=by rw [Int.mul_right_comm]; omega
 have h4:=Int.lt_of_mul_lt_mul_right h3 (by omega)
 omega
theorem z4r (hold : Int → Bool) {t u : Int × Int} (ht : 0 < t.2) (hu : 0 < u.2) (htu : ltQ t.1 t.2 u.1 u.2 = true) : ∀ (l : List (Int × Int)) (at_ : Int),(∀ s ∈ l,1 ≤ s.1) →
 (z84 hold t u at_ l = true ↔ ∀ m,at_ ≤ m → m < sumG at_ l → t.1 / t.2 ≤ m → m ≤ (u.1 - 1) / u.2 → hold (onG at_ l m) = true)
 | [],at_,_ => by
  refine ⟨fun _ m h1 h2 => ?_,fun _ => rfl⟩
  have h2' : m < at_:=h2
  omega
 | s :: r,at_,h => by
  have hs:=h s (by simp)
  have hr : ∀ x ∈ r,1 ≤ x.1:=fun x hx => h x (by simp [hx])
  have ih:=z4r hold ht hu htu r (at_ + s.1) hr
  have hle:=sumG_le r (at_ + s.1) hr
  have hf:=floor_le ht hu htu
  rw [z84,lt_whole hu,whole_lt ht,Bool.and_eq_true,ih,sumG_cons]
  constructor
  ·rintro ⟨h1,h2⟩ m g1 g2 g3 g4
   rw [onG]
   split
   ·rename_i g5
    have q1 : decide (at_ ≤ (u.1 - 1) / u.2) = true:=by simp; omega
    have q2 : decide (t.1 / t.2 < at_ + s.1) = true:=by simp; omega
    rw [q1,q2] at h1
    simpa using h1
   ·rename_i g5
    exact h2 m (by omega) g2 g3 g4
  ·intro H
   refine ⟨?_,fun m g1 g2 g3 g4 => ?_⟩
   ·cases q1 : decide (at_ ≤ (u.1 - 1) / u.2) with
    | false => rfl
    | true =>
     cases q2 : decide (t.1 / t.2 < at_ + s.1) with
     | false => rfl
     | true =>
      simp only [decide_eq_true_eq] at q1 q2
      have:=H (max at_ (t.1 / t.2)) (by omega) (by omega) (by omega) (by omega)
      rw [onG,if_pos (by omega)] at this
      rw [this]; rfl
   ·have:=H m (by omega) g2 g3 g4
    rw [onG,if_neg (by omega)] at this
    exact this
theorem atom_on (hold : Int → Bool) {t u : Int × Int} (ht : 0 < t.2) (hu : 0 < u.2) {l l' : List (Int × Int)} (h : ∀ s ∈ l,1 ≤ s.1) (h' : ∀ s ∈ l',1 ≤ s.1) (hs : sumG 0 l = sumG 0 l') (ho : ∀ m,0 ≤ m → m < sumG 0 l → onG 0 l m = onG 0 l' m) : z97 hold l t u = z97 hold l' t u:=by
 unfold z97
 cases htu : ltQ t.1 t.2 u.1 u.2 with
 | false => rfl
 | true =>
  have h1:=z4r hold ht hu htu l 0 h
  have h2:=z4r hold ht hu htu l' 0 h'
  have h3 : z84 hold t u 0 l = z84 hold t u 0 l':=by
   apply Bool.eq_iff_iff.2
   rw [h1,h2,hs]
   constructor
   ·intro H m g1 g2 g3 g4
    rw [← ho m g1 (by omega)]; exact H m g1 g2 g3 g4
   ·intro H m g1 g2 g3 g4
    rw [ho m g1 (by omega)]; exact H m g1 g2 g3 g4
  rw [h3,hs]
theorem onG_app : ∀ (l r : List (Int × Int)) (a m : Int),m < sumG a l → (∀ s ∈ l,1 ≤ s.1) → onG a (l ++ r) m = onG a l m ∨ l = []
 | [],r,a,m,_,_ => .inr rfl
 | s :: l,r,a,m,h,hp => by
  refine .inl ?_
  show (if m < a + s.1 then s.2 else onG (a + s.1) (l ++ r) m) = if m < a + s.1 then s.2 else onG (a + s.1) l m
  split
  ·rfl
  ·rename_i g
   rcases onG_app l r (a + s.1) m h fun x hx => hp x (by simp [hx]) with h1 | h1
   ·exact h1
   ·subst h1
    have : m < a + s.1:=h
    omega
theorem atom_more (hold : Int → Bool) {t u : Int × Int} (ht : 0 < t.2) (hu : 0 < u.2) {l r : List (Int × Int)} (h : ∀ s ∈ l,1 ≤ s.1) (h' : ∀ s ∈ r,1 ≤ s.1) (hd : z97 hold l t u = true) : z97 hold (l ++ r) t u = true:=by
 unfold z97 at hd ⊢
 simp only [Bool.and_eq_true] at hd ⊢
 obtain ⟨⟨⟨d1,d2⟩,d3⟩,d4⟩:=hd
 have hlr : ∀ s ∈ l ++ r,1 ≤ s.1:=fun s hs => by
  rcases List.mem_append.1 hs with hs | hs
  ·exact h s hs
  ·exact h' s hs
 rw [lt_whole hu] at d4 ⊢
 have hle : sumG 0 l ≤ sumG 0 (l ++ r):=by rw [sumG_app]; exact sumG_le r _ h'
 have d4' : (u.1 - 1) / u.2 < sumG 0 l:=by
  simp only [Bool.not_eq_true',decide_eq_false_iff_not] at d4
  omega
 refine ⟨⟨⟨d1,d2⟩,?_⟩,?_⟩
 ·rw [z4r hold ht hu d1 _ 0 hlr]
  rw [z4r hold ht hu d1 _ 0 h] at d3
  intro m g1 g2 g3 g4
  rcases onG_app l r 0 m (by omega) h with h1 | h1
  ·rw [h1]; exact d3 m g1 (by omega) g3 g4
  ·subst h1
   have : (u.1 - 1) / u.2 < 0:=d4'
   omega
 ·simp only [Bool.not_eq_true',decide_eq_false_iff_not]; omega
open Go.RowKit
theorem row_mono {α : Type} {f g : Int × Int → Int × Int → α → Bool} : ∀ (r : List (Int × Int)) (of : List α),(∀ a ∈ r,∀ b ∈ r,∀ y,f a b y = true → g a b y = true) → rowD f r of = true → rowD g r of = true
 | [],of,_,_ => by cases of <;> rfl
 | [a],of,_,_ => by cases of <;> rfl
 | a :: b :: r,[],_,_ => rfl
 | a :: b :: r,y :: z,h,h1 => by
  have h1' : (f a b y && rowD f (b :: r) z) = true:=h1
  show (g a b y && rowD g (b :: r) z) = true
  simp only [Bool.and_eq_true] at h1' ⊢
  exact ⟨h a (by simp) b (by simp) y h1'.1,row_mono (b :: r) z (fun c hc d hd => h c (by simp only [List.mem_cons] at hc ⊢; exact .inr hc) d (by simp only [List.mem_cons] at hd ⊢; exact .inr hd)) h1'.2⟩
theorem z62 (hold : F → Int → Bool) {l l' : List (Int × Int)} (H : ∀ f t u,mayP t = true → mayP u = true → z97 (hold f) l t u = true → z97 (hold f) l' t u = true) :
 ∀ (n : Nat) (x : X) (t u : Int × Int) (w : PT n),mayP t = true → mayP u = true → z2x hold l n x t u w = true → z2x hold l' n x t u w = true
 | 0,_,_,_,_,_,_,h => by cases h
 | n + 1,.mk k is xs i,t,u,(wk,side,at_,of),ht,hu,h => by
  have ih:=fun x t u w ht hu => z62 hold H n x t u w ht hu
  rw [z4v] at h ⊢
  unfold stepD' at h ⊢
  simp only [Bool.and_eq_true] at h ⊢
  refine ⟨h.1,?_⟩
  replace h:=h.2
  split at h
  ·rename_i hk
   rw [if_pos hk]
   cases is with
   | nil => simp at h
   | cons f r =>
    simp only [Bool.and_eq_true] at h ⊢
    exact ⟨h.1,H f t u ht hu h.2⟩
  rename_i n1
  rw [if_neg n1]
  split at h
  ·rename_i hk
   rw [if_pos hk]
   simp only [Bool.and_eq_true] at h ⊢
   refine ⟨h.1,?_⟩
   replace h:=h.2
   split at h
   ·exact ih _ t u _ ht hu h
   ·cases h
  rename_i n2
  rw [if_neg n2]
  split at h
  ·rename_i hk
   rw [if_pos hk]
   simp only [Bool.and_eq_true] at h ⊢
   refine ⟨h.1,?_⟩
   replace h:=h.2
   split at h
   ·simp only [Bool.and_eq_true] at h ⊢
    exact ⟨ih _ t u _ ht hu h.1,ih _ t u _ ht hu h.2⟩
   ·cases h
  rename_i n3
  rw [if_neg n3]
  split at h
  ·rename_i hk
   rw [if_pos hk]
   simp only [Bool.and_eq_true] at h ⊢
   refine ⟨h.1,?_⟩
   replace h:=h.2
   split at h
   ·rename_i s v w x y
    simp only [Bool.and_eq_true] at h ⊢
    have hs:=z49 h.1.1 s (by simp)
    exact ⟨⟨h.1.1,ih x t s v ht hs h.1.2⟩,ih y s u w hs hu h.2⟩
   ·cases h
  rename_i n4
  rw [if_neg n4]
  split at h
  ·rename_i hk
   rw [if_pos hk]
   simp only [Bool.and_eq_true] at h ⊢
   obtain ⟨hl,h⟩:=h
   refine ⟨hl,?_⟩
   split at h
   ·rename_i x
    simp only [Bool.and_eq_true] at h ⊢
    refine ⟨h.1,?_⟩
    have hm : ∀ a ∈ t :: (at_ ++ [u]),mayP a = true:=by
     cases at_ with
     | nil =>
      intro a ha
      simp only [List.nil_append,List.mem_cons,List.not_mem_nil,or_false] at ha
      rcases ha with rfl | rfl
      ·exact ht
      ·exact hu
     | cons b r =>
      have h1:=h.1
      simp only [List.isEmpty_cons,Bool.false_or] at h1
      exact z49 h1
    exact row_mono _ _ (fun a ha b hb y => ih x a b y (hm a ha) (hm b hb)) h.2
   ·cases h
  rename_i n5
  rw [if_neg n5]
  split at h
  ·rename_i hk
   rw [if_pos hk]
   simp only [Bool.and_eq_true] at h ⊢
   refine ⟨h.1,?_⟩
   replace h:=h.2
   split at h
   ·simp only [Bool.and_eq_true] at h ⊢
    exact ⟨h.1,ih _ t u _ ht hu h.2⟩
   ·cases h
  ·cases h
theorem shows_on (hold : F → Int → Bool) {l l' : List (Int × Int)} (h : ∀ s ∈ l,1 ≤ s.1) (h' : ∀ s ∈ l',1 ≤ s.1) (hs : sumG 0 l = sumG 0 l') (ho : ∀ m,0 ≤ m → m < sumG 0 l → onG 0 l m = onG 0 l' m) (n : Nat) (x : X) (t u : Int × Int) (w : PT n) (ht : mayP t = true) (hu : mayP u = true) :
 z2x hold l n x t u w = z2x hold l' n x t u w:=by
 have e:=fun f (t u : Int × Int) (ht : mayP t = true) (hu : mayP u = true) => atom_on (hold f) (z6v ht) (z6v hu) h h' hs ho
 apply Bool.eq_iff_iff.2
 exact ⟨z62 hold (fun f t u a b c => (e f t u a b) ▸ c) n x t u w ht hu,z62 hold (fun f t u a b c => (e f t u a b).symm ▸ c) n x t u w ht hu⟩
theorem shows_more (hold : F → Int → Bool) {l r : List (Int × Int)} (h : ∀ s ∈ l,1 ≤ s.1) (h' : ∀ s ∈ r,1 ≤ s.1) (n : Nat) (x : X) (t u : Int × Int) (w : PT n) (ht : mayP t = true) (hu : mayP u = true) (hd : z2x hold l n x t u w = true) : z2x hold (l ++ r) n x t u w = true :=
 z62 hold (fun f _ _ a b c => atom_more (hold f) (z6v a) (z6v b) h h' c) n x t u w ht hu hd
theorem row_ends {α : Type} {f : Int × Int → Int × Int → α → Bool} {lo hi : Int × Int → Prop} (H : ∀ a b y,mayP a = true → mayP b = true → f a b y = true → lo a ∧ hi b) (u : Int × Int) : ∀ (r : List (Int × Int)) (t : Int × Int) (of : List α),(∀ a ∈ t :: (r ++ [u]),mayP a = true) → of.length = r.length + 1 → rowD f (t :: (r ++ [u])) of = true → lo t ∧ hi u
 | [],t,of,hm,hl,h => by
  match of,hl,h with
  | [y],_,h =>
   have h' : (f t u y && true) = true:=h
   rw [Bool.and_true] at h'
   exact H t u y (hm t (by simp)) (hm u (by simp)) h'
 | a :: r,t,of,hm,hl,h => by
  match of,hl,h with
  | y :: z,hl,h =>
   have h' : (f t a y && rowD f (a :: (r ++ [u])) z) = true:=h
   simp only [Bool.and_eq_true] at h'
   have h1:=H t a y (hm t (by simp)) (hm a (by simp)) h'.1
   have h2:=row_ends H u r a z (fun b hb => hm b (by simp only [List.cons_append,List.mem_cons] at hb ⊢; exact .inr hb)) (by simpa using hl) h'.2
   exact ⟨h1.1,h2.2⟩
theorem z9c (hold : F → Int → Bool) (l : List (Int × Int)) : ∀ (n : Nat) (x : X) (t u : Int × Int) (w : PT n),mayP t = true → mayP u = true → z2x hold l n x t u w = true → ltQ t.1 t.2 0 1 = false ∧ ltQ (sumG 0 l) 1 u.1 u.2 = false
 | 0,_,_,_,_,_,_,h => by cases h
 | n + 1,.mk k is xs i,t,u,(wk,side,at_,of),ht,hu,h => by
  have ih:=fun x t u w ht hu => z9c hold l n x t u w ht hu
  rw [z4v] at h
  unfold stepD' at h
  simp only [Bool.and_eq_true] at h
  replace h:=h.2
  split at h
  ·cases is with
   | nil => simp at h
   | cons f r =>
    simp only [Bool.and_eq_true,z97] at h
    obtain ⟨_,⟨⟨_,d2⟩,_⟩,d4⟩:=h
    exact ⟨by simpa using d2,by simpa using d4⟩
  split at h
  ·simp only [Bool.and_eq_true] at h
   replace h:=h.2
   split at h
   ·exact ih _ t u _ ht hu h
   ·cases h
  split at h
  ·simp only [Bool.and_eq_true] at h
   replace h:=h.2
   split at h
   ·simp only [Bool.and_eq_true] at h
    exact ih _ t u _ ht hu h.1
   ·cases h
  split at h
  ·simp only [Bool.and_eq_true] at h
   replace h:=h.2
   split at h
   ·rename_i s v w x y
    simp only [Bool.and_eq_true] at h
    have hs:=z49 h.1.1 s (by simp)
    exact ⟨(ih x t s v ht hs h.1.2).1,(ih y s u w hs hu h.2).2⟩
   ·cases h
  split at h
  ·simp only [Bool.and_eq_true] at h
   obtain ⟨hl,h⟩:=h
   split at h
   ·rename_i x
    simp only [Bool.and_eq_true] at h
    have hm : ∀ a ∈ t :: (at_ ++ [u]),mayP a = true:=by
     cases at_ with
     | nil =>
      intro a ha
      simp only [List.nil_append,List.mem_cons,List.not_mem_nil,or_false] at ha
      rcases ha with rfl | rfl
      ·exact ht
      ·exact hu
     | cons b r =>
      have h1:=h.1
      simp only [List.isEmpty_cons,Bool.false_or] at h1
      exact z49 h1
    exact row_ends (fun a b y ha hb => ih x a b y ha hb) u at_ t of hm (by simpa using hl.2) h.2
   ·cases h
  split at h
  ·simp only [Bool.and_eq_true] at h
   replace h:=h.2
   split at h
   ·simp only [Bool.and_eq_true] at h
    exact ih _ t u _ ht hu h.2
   ·cases h
  ·cases h
open Go.RowKit
section
variable (hold : F → Int → Bool) (l : List (Int × Int)) (n : Nat) (x y : X) (t s u : Int × Int) (v w : PT n)
theorem make_left : z05 hold l (n + 1) (.mk 2 [] [x,y] z06) t u (2,1,[],[w]) = z05 hold l n x t u w:=by
 rw [z1f]; unfold z4t; simp
theorem make_right : z05 hold l (n + 1) (.mk 2 [] [y,x] z06) t u (2,2,[],[w]) = z05 hold l n x t u w:=by
 rw [z1f]; unfold z4t; simp
theorem make_both : z05 hold l (n + 1) (.mk 3 [] [x,y] z06) t u (3,0,[],[v,w]) = (z05 hold l n x t u v && z05 hold l n y t u w):=by
 rw [z1f]; unfold z4t; simp
theorem make_plus : z05 hold l (n + 1) (.mk 5 [] [x] z06) t u (5,0,[],[w]) = (z07 t u && z05 hold l n x t u w):=by
 rw [z1f]; unfold z4t; simp [z5j]
theorem make_timed : z05 hold l (n + 1) (.mk 6 [] [x] ⟨0,false,0,false,true⟩) t u (6,0,[],[w]) = (z2y t.1 t.2 u.1 u.2 1 && z05 hold l n x t u w):=by
 rw [z1f]; unfold z4t; simp [zag]
theorem make_other : z05 hold l (n + 1) (.mk 5 [] [x] z06) t u (6,0,[],[w]) = false:=by
 rw [z1f]; unfold z4t; simp
theorem join_cat : z05 hold l (n + 1) (.mk 4 [] [x,y] z06) t u (4,0,[s],[v,w]) = (z07 t s && z07 s u && z05 hold l n x t s v && z05 hold l n y s u w):=by
 rw [z1f]; unfold z4t; simp
theorem join_plus : z05 hold l (n + 1) (.mk 5 [] [x] z06) t u (5,0,[s],[v,w]) = (z07 t s && z05 hold l n x t s v && (z07 s u && z05 hold l n x s u w)):=by
 rw [z1f]; unfold z4t; simp [z5j]
end
theorem keeps_zero {t u : Int × Int} (ht : 0 < t.2) (hu : 0 < u.2) : z2y t.1 t.2 u.1 u.2 1 = !ltQ u.1 u.2 t.1 t.2:=by
 have h:=lt_floor (a:=u.1) (b:=t.1) hu ht
 unfold z2y ltQ
 rw [if_neg (by unfold z5m; omega)]
 apply Bool.eq_iff_iff.2
 simp only [Bool.or_eq_true,Bool.and_eq_true,decide_eq_true_eq,Bool.not_eq_true',decide_eq_false_iff_not,beq_iff_eq]
 rw [h]
 omega
open Go.RowKit
theorem z4q {m : Nat} {names : List ByteArray} {n : Nat} {x : XT m n} :
 z0r names n x = 0 ↔ z0z names = 0 ∧ allX z0c n x = true ∧ z10 n x ≤ 64 ∧ allX (z2v names) n x = true ∧ allX z2s n x = true:=by
 unfold z0r
 by_cases h1 : z0z names = 0
 ·rw [if_neg (by simpa using h1)]
  by_cases h2 : allX z0c n x = true
  ·rw [if_neg (by simp [h2])]
   by_cases h3 : z10 n x ≤ 64
   ·rw [if_neg (by omega)]
    by_cases h4 : allX (z2v names) n x = true
    ·rw [if_neg (by simp [h4])]
     by_cases h5 : allX z2s n x = true
     ·rw [if_neg (by simp [h5])]; simp [h1,h2,h3,h4,h5]
     ·rw [if_pos (by simpa using h5)]; simp [h5]
    ·rw [if_pos (by simpa using h4)]; simp [h4]
   ·rw [if_pos (by omega)]; simp [h3]
  ·rw [if_pos (by simpa using h2)]; simp [h2]
 ·rw [if_pos h1]; simp [h1]
def z98 : Spn:=⟨0,false,0,false,true⟩
theorem many_one {m n : Nat} (k : Int) (hk : k ≠ 1) (x : XT m n) (i : Spn) : z10 (n + 1) ((k,[],[x],i) : XT m (n + 1)) = z1l (cntX oneX n) 1 [x]:=by
 show z1l (cntX oneX n) (oneX k []) [x] = _
 unfold oneX; rw [if_neg hk]
theorem many_pair {m n : Nat} (k : Int) (hk : k ≠ 1) (x y : XT m n) (i : Spn) : z10 (n + 1) ((k,[],[x,y],i) : XT m (n + 1)) = z1l (cntX oneX n) 1 [x,y]:=by
 show z1l (cntX oneX n) (oneX k []) [x,y] = _
 unfold oneX; rw [if_neg hk]
theorem allX_one {m n : Nat} (so : Int → List (FT m) → Nat → Spn → Bool) (k : Int) (x : XT m n) (i : Spn) : allX so (n + 1) ((k,[],[x],i) : XT m (n + 1)) = (so k [] 1 i && allX so n x):=by
 show (so k [] 1 i && [x].all (allX so n)) = _
 simp
theorem zaz {m n : Nat} (so : Int → List (FT m) → Nat → Spn → Bool) (k : Int) (x y : XT m n) (i : Spn) : allX so (n + 1) ((k,[],[x,y],i) : XT m (n + 1)) = (so k [] 2 i && (allX so n x && allX so n y)):=by
 show (so k [] 2 i && [x,y].all (allX so n)) = _
 simp
theorem z81 {m n : Nat} {names : List ByteArray} {x : XT m n} (h : z0r names n x = 0) (k : Int) (i : Spn) (hk : (k = 5 ∧ i = z06) ∨ (k = 6 ∧ i = z98)) (hm : z1l (cntX oneX n) 1 [x] ≤ 64) :
 z0r names (n + 1) ((k,[],[x],i) : XT m (n + 1)) = 0:=by
 obtain ⟨h1,h2,h3,h4,h5⟩:=z4q.1 h
 refine z4q.2 ⟨h1,?_,?_,?_,?_⟩
 ·refine (allX_one _ k x i).trans ?_; rw [h2,Bool.and_true]; rcases hk with ⟨rfl,rfl⟩ | ⟨rfl,rfl⟩ <;> rfl
 ·exact (many_one k (by rcases hk with ⟨rfl,_⟩ | ⟨rfl,_⟩ <;> decide) x i).symm ▸ hm
 ·refine (allX_one _ k x i).trans ?_; rw [h4,Bool.and_true]; rfl
 ·refine (allX_one _ k x i).trans ?_; rw [h5,Bool.and_true]; rcases hk with ⟨rfl,rfl⟩ | ⟨rfl,rfl⟩ <;> rfl
theorem z6d {m n : Nat} {names : List ByteArray} {x y : XT m n} (h : z0r names n x = 0) (h' : z0r names n y = 0) (k : Int) (hk : k = 2 ∨ k = 3 ∨ k = 4) (hm : z1l (cntX oneX n) 1 [x,y] ≤ 64) :
 z0r names (n + 1) ((k,[],[x,y],z06) : XT m (n + 1)) = 0:=by
 obtain ⟨h1,h2,h3,h4,h5⟩:=z4q.1 h
 obtain ⟨_,g2,g3,g4,g5⟩:=z4q.1 h'
 refine z4q.2 ⟨h1,?_,?_,?_,?_⟩
 ·refine (zaz _ k x y z06).trans ?_; rw [h2,g2]; rcases hk with rfl | rfl | rfl <;> rfl
 ·exact (many_pair k (by rcases hk with rfl | rfl | rfl <;> decide) x y z06).symm ▸ hm
 ·refine (zaz _ k x y z06).trans ?_; rw [h4,g4]; rfl
 ·refine (zaz _ k x y z06).trans ?_; rw [h5,g5]; rcases hk with rfl | rfl | rfl <;> rfl
end Go.Proofs.YtockinpjfhhkoaaGreatDoor
