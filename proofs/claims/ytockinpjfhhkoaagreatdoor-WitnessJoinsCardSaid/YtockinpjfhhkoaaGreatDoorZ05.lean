/- Bounds and matrices in plain Lean: what layers 2 and 4 compute, and that an atom's matrix is closed. No program. -/
import Derived.WalkKit
import Derived.Test.YtockinpjfhhkoaaGreatDoorZ01
import Derived.Test.YtockinpjfhhkoaaGreatDoorZ00
import Derived.Deep.QuietTactic
import Derived.BigQuiet
import Derived.Lib.ItoaMem
set_option maxRecDepth 100000
set_option maxHeartbeats 16000000
namespace Go.Proofs.YtockinpjfhhkoaaGreatDoor
open Go.RowKit
def z5m : Int:=9223372036854775807
def z9f (c : Int) : Bool:=decide (-2305843009213693952 ≤ c) && decide (c ≤ 2305843009213693952)
def z5x (b : Int) : Bool:=b == z5m || z9f (b / 2)
def z2y (a p b q x : Int) : Bool :=
 if x = z5m then true
 else
  let d:=a / p - b / q
  let c:=x / 2
  let u:=(a % p) * q
  let v:=(b % q) * p
  decide (d < c) || (d == c && (decide (u < v) || (u == v && x % 2 == 1)))
open Go.RowKit
def mayQ (a p : Int) : Bool:=decide (1 ≤ p) && decide (p ≤ 1048576) && decide (-2305843009213693952 ≤ a / p) && (decide (a / p < 2305843009213693952) || (a / p == 2305843009213693952 && a % p == 0)) && (Nat.gcd a.natAbs p.natAbs == 1)
def ltQ (a p b q : Int) : Bool:=decide (a * q < b * p)
def hiQ (x : Int) : Int:=x / 18446744073709551616
def loQ (x : Int) : Int:=x % 18446744073709551616
theorem hilo_neg {x : Int} (h0 : 0 ≤ x) (h1 : x < 170141183460469231731687303715884105728) :
 loQ (-x) = (0 - loQ x) % 18446744073709551616 ∧ hiQ (-x) = (let h:=(0 - hiQ x - (if loQ x = 0 then 0 else 1)) % 18446744073709551616; if h < 9223372036854775808 then h else h - 18446744073709551616):=by
 unfold hiQ loQ
 dsimp only
 constructor
 ·omega
 ·split <;> split <;> omega
theorem lt_floor {a b p q : Int} (hp : 0 < p) (hq : 0 < q) : a * q < b * p ↔ (a / p < b / q ∨ (a / p = b / q ∧ (a % p) * q < (b % q) * p)):=by
 have ea : a = p * (a / p) + a % p:=(Int.mul_ediv_add_emod a p).symm
 have eb : b = q * (b / q) + b % q:=(Int.mul_ediv_add_emod b q).symm
 have r0:=Int.emod_nonneg a (by omega : p ≠ 0)
 have r1:=Int.emod_lt_of_pos a hp
 have s0:=Int.emod_nonneg b (by omega : q ≠ 0)
 have s1:=Int.emod_lt_of_pos b hq
 generalize hn : a / p = n at *
 generalize hm : b / q = m at *
 generalize hr : a % p = r at *
 generalize hs : b % q = s at *
 have e1 : a * q = p * q * n + r * q:=by rw [ea,Int.add_mul,Int.mul_right_comm]
 have e2 : b * p = p * q * m + s * p:=by rw [eb,Int.add_mul,Int.mul_right_comm,Int.mul_comm q p]
 have b1 : r * q < p * q:=Int.mul_lt_mul_of_pos_right r1 hq
 have b2 : s * p < p * q:=by rw [Int.mul_comm p q]; exact Int.mul_lt_mul_of_pos_right s1 hp
 have b3 : 0 ≤ r * q:=Int.mul_nonneg r0 (by omega)
 have b4 : 0 ≤ s * p:=Int.mul_nonneg s0 (by omega)
 have hpq : 0 < p * q:=Int.mul_pos hp hq
 rw [e1,e2]
 rcases Int.lt_trichotomy n m with h | h | h
 ·have k : p * q * n + p * q ≤ p * q * m:=by
   have:=Int.mul_le_mul_of_nonneg_left (show n + 1 ≤ m by omega) (Int.le_of_lt hpq)
   rw [Int.mul_add,Int.mul_one] at this
   exact this
  omega
 ·subst h; omega
 ·have k : p * q * m + p * q ≤ p * q * n:=by
   have:=Int.mul_le_mul_of_nonneg_left (show m + 1 ≤ n by omega) (Int.le_of_lt hpq)
   rw [Int.mul_add,Int.mul_one] at this
   exact this
  omega
end Go.Proofs.YtockinpjfhhkoaaGreatDoor
namespace Go.Proofs.YtockinpjfhhkoaaGreatDoor
open Go.RowKit
def nF : (n : Nat) → FT n → Nat
 | 0,_ => 1
 | n + 1,t => 1 + (t.2.2.map (nF n)).sum
def tF : (n : Nat) → FT n → Nat
 | 0,_ => 1
 | n + 1,t => 1 + t.2.1.size + (t.2.2.map (tF n)).sum
def nX {m : Nat} : (n : Nat) → XT m n → Nat
 | 0,_ => 1
 | n + 1,t => (if t.1 = 1 then (t.2.1.map (nF m)).sum else 1) + (t.2.2.1.map (nX n)).sum
def tX {m : Nat} : (n : Nat) → XT m n → Nat
 | 0,_ => 1
 | n + 1,t => 1 + (t.2.1.map (tF m)).sum + (t.2.2.1.map (tX n)).sum
theorem sum_le {α : Type} (f g : α → Nat) : ∀ l : List α,(∀ x ∈ l,f x ≤ g x) → (l.map f).sum ≤ (l.map g).sum
 | [],_ => by simp
 | x :: r,h => by
  have h1:=h x (by simp)
  have h2:=sum_le f g r (fun y hy => h y (by simp [hy]))
  simp only [List.map_cons,List.sum_cons]; omega
theorem le_sum {α : Type} (f : α → Nat) : ∀ (l : List α) (x : α),x ∈ l → f x ≤ (l.map f).sum
 | y :: r,x,h => by
  simp only [List.map_cons,List.sum_cons]
  rcases List.mem_cons.1 h with rfl | h
  ·omega
  ·have:=le_sum f r x h; omega
theorem szL_le {α : Type} (f : α → Int → Int) (g : α → Nat) (most : Int) (hm : 0 ≤ most ∧ most ≤ 2000) : ∀ (l : List α) (n : Int),
 (∀ x ∈ l,∀ k,0 ≤ k → k ≤ 2000 → f x k ≤ k + 281474976710657 ∧ 1 ≤ f x k ∧ (f x k ≤ k → f x k = g x)) → 0 ≤ n → n ≤ most + 281474976710657 →
 szL f most l n ≤ most + 281474976710657 ∧ n ≤ szL f most l n ∧ (szL f most l n ≤ most → szL f most l n = n + (l.map g).sum)
 | [],n,_,h0,h1 => ⟨h1,by simp [szL],by simp [szL]⟩
 | x :: r,n,H,h0,h1 => by
  rw [szL]
  split
  ·rename_i hn
   have hw : wrap64 (most - n) = most - n:=by unfold wrap64; omega
   obtain ⟨a1,a2,a3⟩:=H x (by simp) (most - n) (by omega) (by omega)
   rw [hw]
   have hw2 : wrap64 (n + f x (most - n)) = n + f x (most - n):=by unfold wrap64; omega
   rw [hw2]
   obtain ⟨b1,b2,b3⟩:=szL_le f g most hm r (n + f x (most - n)) (fun y hy => H y (by simp [hy])) (by omega) (by omega)
   refine ⟨b1,by omega,fun h => ?_⟩
   rw [b3 h,a3 (by omega)]
   simp only [List.map_cons,List.sum_cons]; push_cast; omega
  ·exact ⟨h1,by omega,fun h => absurd h (by omega)⟩
theorem sizeF_le : ∀ (n : Nat) (t : FT n),bndF n t → ∀ k : Int,0 ≤ k → k ≤ 2000 → z38 n t k ≤ k + 281474976710657 ∧ 1 ≤ z38 n t k ∧ (z38 n t k ≤ k → z38 n t k = tF n t)
 | 0,t,_ => nomatch t
 | n + 1,t,h => fun k h0 h1 => by
  have hs:=h.1
  rw [z38]
  have hw : wrap64 (1 + (t.2.1.size : Int)) = 1 + t.2.1.size:=by unfold wrap64; omega
  rw [hw]
  obtain ⟨a,b,c⟩:=szL_le (z38 n) (tF n) k ⟨h0,h1⟩ t.2.2 (1 + t.2.1.size) (fun x hx => sizeF_le n x (h.2 x hx)) (by omega) (by omega)
  refine ⟨a,by omega,fun hh => ?_⟩
  rw [c hh,tF]; push_cast; omega
theorem sizeX_le {m : Nat} : ∀ (n : Nat) (t : XT m n),bndX n t → ∀ k : Int,0 ≤ k → k ≤ 2000 → z3i n t k ≤ k + 281474976710657 ∧ 1 ≤ z3i n t k ∧ (z3i n t k ≤ k → z3i n t k = tX n t)
 | 0,t,_ => nomatch t
 | n + 1,t,h => fun k h0 h1 => by
  rw [z3i]
  obtain ⟨a,b,c⟩:=szL_le (z38 m) (tF m) k ⟨h0,h1⟩ t.2.1 1 (fun x hx => sizeF_le m x (h.1 x hx)) (by omega) (by omega)
  obtain ⟨a',b',c'⟩:=szL_le (z3i n) (tX n) k ⟨h0,h1⟩ t.2.2.1 (szL (z38 m) k t.2.1 1) (fun x hx => sizeX_le n x (h.2 x hx)) (by omega) (by omega)
  refine ⟨a',by omega,fun hh => ?_⟩
  have:=c (by omega)
  rw [c' hh,tX]; push_cast; omega
theorem nF_le : ∀ (n : Nat) (t : FT n),nF n t ≤ tF n t
 | 0,t => nomatch t
 | n + 1,t => by
  have:=sum_le (nF n) (tF n) t.2.2 (fun x _ => nF_le n x)
  rw [nF,tF]; omega
theorem nX_le {m : Nat} : ∀ (n : Nat) (t : XT m n),nX n t ≤ tX n t
 | 0,t => nomatch t
 | n + 1,t => by
  have h1:=sum_le (nX n) (tX n) t.2.2.1 (fun x _ => nX_le n x)
  have h2:=sum_le (nF m) (tF m) t.2.1 (fun x _ => nF_le m x)
  rw [nX,tX]; split <;> omega
theorem z5s {α : Type} (f : α → Int) (g : α → Nat) : ∀ (l : List α) (a : Nat),(∀ x ∈ l,f x = g x) → a + (l.map g).sum ≤ 1000000 → z1l f a l = ((a + (l.map g).sum : Nat) : Int)
 | [],a,_,_ => by simp [z1l]
 | x :: r,a,H,h => by
  simp only [List.map_cons,List.sum_cons] at h ⊢
  have h1:=H x (by simp)
  have hw : wrap64 ((a : Int) + f x) = ((a + g x : Nat) : Int):=by rw [h1]; unfold wrap64; omega
  show z1l f (wrap64 ((a : Int) + f x)) r = _
  rw [hw,z5s f g r (a + g x) (fun y hy => H y (by simp [hy])) (by omega)]
  congr 1; omega
theorem cntF_n : ∀ (n : Nat) (t : FT n),nF n t ≤ 1000000 → cntF n t = nF n t
 | 0,t,_ => nomatch t
 | n + 1,t,h => by
  rw [nF] at h
  have:=z5s (cntF n) (nF n) t.2.2 1 (fun x hx => cntF_n n x (by have:=le_sum (nF n) t.2.2 x hx; omega)) h
  rw [cntF,nF]; exact this
theorem fmsC_n {n : Nat} (l : List (FT n)) (h : (l.map (nF n)).sum ≤ 1000000) : fmsC n l = ((l.map (nF n)).sum : Nat):=by
 have:=z5s (cntF n) (nF n) l 0 (fun x hx => cntF_n n x (by have:=le_sum (nF n) l x hx; omega)) (by omega)
 rw [Nat.zero_add] at this
 exact this
theorem manyX_n {m : Nat} : ∀ (n : Nat) (t : XT m n),nX n t ≤ 1000000 → z10 n t = nX n t
 | 0,t,_ => nomatch t
 | n + 1,t,h => by
  rw [nX] at h
  have key : (oneX t.1 t.2.1 : Int) = ((if t.1 = 1 then (t.2.1.map (nF m)).sum else 1 : Nat) : Int):=by
   unfold oneX
   split
   ·rename_i h1
    rw [if_pos h1] at h
    exact fmsC_n _ (by omega)
   ·rfl
  have:=z5s (cntX oneX n) (nX n) t.2.2.1 _ (fun x hx => manyX_n n x (by have:=le_sum (nX n) t.2.2.1 x hx; omega)) h
  rw [nX]
  show z1l (cntX oneX n) (oneX t.1 t.2.1) t.2.2.1 = _
  rw [key]; exact this
theorem zae {α : Type} (f : α → Int) : ∀ (l : List α) (a : Int),a ≤ l.foldl (fun a y => max a (f y)) a ∧ ∀ x ∈ l,f x ≤ l.foldl (fun a y => max a (f y)) a
 | [],a => ⟨by simp,by simp⟩
 | y :: r,a => by
  obtain ⟨h1,h2⟩:=zae f r (max a (f y))
  rw [List.foldl_cons]
  refine ⟨by omega,fun x hx => ?_⟩
  rcases List.mem_cons.1 hx with rfl | hx
  ·omega
  ·exact h2 x hx
theorem z5c {m : Nat} {names : List ByteArray} {n : Nat} {x : XT m n} : z0r names n x = 0 ↔ z0z names = 0 ∧ allX z0c n x = true ∧ z10 n x ≤ 64 ∧ allX (z2v names) n x = true ∧ allX z2s n x = true:=by
 unfold z0r
 by_cases h1 : z0z names = 0
 ·cases h2 : allX z0c n x
  ·simp [h1]
  ·by_cases h3 : 64 < z10 n x
   ·have : ¬ z10 n x ≤ 64:=by omega
    simp [h1,h3,this]
   ·cases h4 : allX (z2v names) n x
    ·simp [h1,h3]
    ·cases h5 : allX z2s n x
     ·simp [h1,h3]
     ·simp [h1,h3]; omega
 ·simp [h1]
theorem fmlR_zero {names : List ByteArray} {n : Nat} {f : FT n} : fmlR names n f = 0 ↔ z0z names = 0 ∧ allF z13 n f = true ∧ fmsC n [f] ≤ 64 ∧ allF (z3o names) n f = true:=by
 unfold fmlR
 by_cases h1 : z0z names = 0
 ·cases h2 : allF z13 n f
  ·simp [h1]
  ·by_cases h3 : 64 < fmsC n [f]
   ·have : ¬ fmsC n [f] ≤ 64:=by omega
    simp [h1,h3,this]
   ·cases h4 : allF (z3o names) n f
    ·simp [h1,h3]
    ·simp [h1,h3]; omega
 ·simp [h1]
theorem declF_more (more : ByteArray) (names : List ByteArray) : ∀ (n : Nat) (t : FT n),allF (z3o names) n t = true → allF (z3o (more :: names)) n t = true
 | 0,t,_ => nomatch t
 | n + 1,t,h => by
  rw [allF,Bool.and_eq_true,List.all_eq_true] at h ⊢
  refine ⟨?_,fun x hx => declF_more more names n x (h.2 x hx)⟩
  have h1:=h.1
  unfold z3o at h1 ⊢
  rw [Bool.or_eq_true] at h1 ⊢
  rcases h1 with h1 | h1
  ·exact .inl h1
  ·exact .inr (by unfold inN at h1 ⊢; rw [List.any_cons,h1]; simp)
theorem zab {m : Nat} (more : ByteArray) (names : List ByteArray) : ∀ (n : Nat) (t : XT m n),allX (z2v names) n t = true → allX (z2v (more :: names)) n t = true
 | 0,t,_ => nomatch t
 | n + 1,t,h => by
  rw [allX,Bool.and_eq_true,List.all_eq_true] at h ⊢
  refine ⟨?_,fun x hx => zab more names n x (h.2 x hx)⟩
  have h1:=h.1
  unfold z2v at h1 ⊢
  rw [List.all_eq_true] at h1 ⊢
  exact fun f hf => declF_more more names m f (h1 f hf)
theorem parts_plain {m n : Nat} (names : List ByteArray) (x : XT m (n + 1)) (hb : bndX (n + 1) x) (hg : z3i (n + 1) x 2000 ≤ 2000) (hc : z0r names (n + 1) x = 0) :
 (1 ≤ z10 (n + 1) x ∧ z10 (n + 1) x ≤ 64) ∧ (∀ y ∈ x.2.2.1,z0r names n y = 0 ∧ constX n y ≤ constX (n + 1) x) ∧
  (x.2.2.1 ≠ [] → z10 (n + 1) x = wrap64 (z1l (z10 n) 0 x.2.2.1 + 1)) ∧ (∀ f ∈ x.2.1,fmlR names m f = 0) ∧
  ∀ more,z0z (more :: names) = 0 → z0r (more :: names) (n + 1) x = 0:=by
 obtain ⟨c1,c2,c3,c4,c5⟩:=z5c.1 hc
 obtain ⟨_,_,hz⟩:=sizeX_le (n + 1) x hb 2000 (by omega) (by omega)
 have hz:=hz hg
 have hn:=nX_le (n + 1) x
 have ht : nX (n + 1) x ≤ 2000:=by omega
 have hmn:=manyX_n (n + 1) x (by omega)
 have h64 : nX (n + 1) x ≤ 64:=by omega
 have e:=h64
 rw [nX] at e
 have hch : ∀ y ∈ x.2.2.1,z10 n y = nX n y ∧ nX n y ≤ 64:=fun y hy => by
  have:=le_sum (nX n) x.2.2.1 y hy
  exact ⟨manyX_n n y (by omega),by omega⟩
 rw [allX,Bool.and_eq_true,List.all_eq_true] at c2 c4 c5
 have hr:=c2.1
 unfold z0c at hr
 simp only [Bool.and_eq_true,decide_eq_true_eq,beq_iff_eq] at hr
 obtain ⟨⟨⟨⟨⟨r1,r2⟩,r3⟩,r4⟩,r5⟩,r6⟩:=hr
 have hpos : 1 ≤ nX (n + 1) x:=by
  rw [nX]
  split
  ·rename_i h1
   rw [if_pos h1,Bool.and_eq_true,beq_iff_eq] at r6
   obtain ⟨f,hf⟩:=List.length_eq_one_iff.1 r6.1
   have : 1 ≤ nF m f:=by
    cases m with
    | zero => exact nomatch f
    | succ m => rw [nF]; omega
   rw [hf]; simp; omega
  ·omega
 refine ⟨⟨by omega,by omega⟩,fun y hy => ⟨z5c.2 ⟨c1,c2.2 y hy,by have:=hch y hy; omega,c4.2 y hy,c5.2 y hy⟩,(zae (constX n) x.2.2.1 _).2 y hy⟩,fun hne => ?_,fun f hf => ?_,fun more hm => ?_⟩
 ·have hk : x.1 ≠ 1:=fun h1 => by
   rw [h1] at r3
   exact hne (List.eq_nil_of_length_eq_zero r3)
  rw [if_neg hk] at e
  have hs:=z5s (z10 n) (nX n) x.2.2.1 0 (fun y hy => (hch y hy).1) (by omega)
  have hs' : z1l (z10 n) 0 x.2.2.1 = ((x.2.2.1.map (nX n)).sum : Nat):=by rw [Nat.zero_add] at hs; exact hs
  rw [hs',hmn,nX,if_neg hk]
  unfold wrap64; omega
 ·have hk : x.1 = 1:=by
   by_cases h1 : x.1 = 1
   ·exact h1
   ·rw [if_neg h1,beq_iff_eq] at r6
    rw [List.eq_nil_of_length_eq_zero r6] at hf
    exact absurd hf (by simp)
  rw [if_pos hk,Bool.and_eq_true,List.all_eq_true] at r6
  rw [if_pos hk] at e
  have h1:=le_sum (nF m) x.2.1 f hf
  have h2 : fmsC m [f] = ((([f] : List (FT m)).map (nF m)).sum : Nat):=fmsC_n [f] (by simp; omega)
  have h4:=c4.1
  unfold z2v at h4
  rw [List.all_eq_true] at h4
  exact fmlR_zero.2 ⟨c1,r6.2 f hf,by rw [h2]; simp; omega,h4 f hf⟩
 ·refine z5c.2 ⟨hm,?_,c3,?_,?_⟩
  ·rw [allX,Bool.and_eq_true,List.all_eq_true]; exact c2
  ·exact zab more names (n + 1) x (by rw [allX,Bool.and_eq_true,List.all_eq_true]; exact c4)
  ·rw [allX,Bool.and_eq_true,List.all_eq_true]; exact c5
end Go.Proofs.YtockinpjfhhkoaaGreatDoor
/- Plain: names that are not great are short ones. No program. -/
namespace Go.Proofs.YtockinpjfhhkoaaGreatDoor
open Go.RowKit
def gnGo : List ByteArray → Int → Int
 | [],n => n
 | s :: r,n => if n < 10000 then gnGo r (wrap64 (wrap64 (n + 1) + s.size)) else n
def z5r (l : List ByteArray) : Bool:=decide (5000 < gnGo l 0)
theorem gnGo_drop (l : List ByteArray) (k : Nat) (n : Int) (h : k < l.length) (hn : n < 10000) : gnGo (l.drop k) n = gnGo (l.drop (k + 1)) (wrap64 (wrap64 (n + 1) + l[k].size)):=by
 rw [List.drop_eq_getElem_cons h,gnGo,if_pos hn]
theorem gnGo_stop (l : List ByteArray) (n : Int) (hn : ¬ n < 10000) : gnGo l n = n:=by
 cases l with
 | nil => rfl
 | cons x r => rw [gnGo,if_neg hn]
theorem gnGo_end (l : List ByteArray) (n : Int) : gnGo (l.drop l.length) n = n:=by rw [List.drop_length]; rfl
theorem gnGo_le : ∀ (l : List ByteArray) (n : Int),(∀ s ∈ l,s.size ≤ 281474976710656) → 0 ≤ n → n ≤ 300000000000000 → n ≤ gnGo l n ∧ (gnGo l n ≤ 5000 → ∀ s ∈ l,s.size ≤ 5000)
 | [],n,_,_,_ => ⟨by simp [gnGo],fun _ s hs => absurd hs (by simp)⟩
 | x :: r,n,H,h0,h1 => by
  rw [gnGo]
  split
  ·rename_i hn
   have hx:=H x (by simp)
   have hw : wrap64 (wrap64 (n + 1) + x.size) = n + 1 + x.size:=by unfold wrap64; omega
   rw [hw]
   obtain ⟨a,b⟩:=gnGo_le r (n + 1 + x.size) (fun s hs => H s (by simp [hs])) (by omega) (by omega)
   refine ⟨by omega,fun h s hs => ?_⟩
   rcases List.mem_cons.1 hs with rfl | hs
   ·omega
   ·exact b h s hs
  ·rename_i hn
   exact ⟨Int.le_refl _,fun h => absurd h (by omega)⟩
theorem z8z {l : List ByteArray} (h : z5r l = false) (H : ∀ s ∈ l,s.size ≤ 281474976710656) : ∀ s ∈ l,s.size ≤ 1048576:=by
 intro s hs
 have h1 : gnGo l 0 ≤ 5000:=by unfold z5r at h; simpa using h
 have:=(gnGo_le l 0 H (by omega) (by omega)).2 h1 s hs
 omega
end Go.Proofs.YtockinpjfhhkoaaGreatDoor
namespace Go.Proofs.YtockinpjfhhkoaaGreatDoor
open Go.RowKit
open Go.RowKit
inductive F where
 | mk (k : Int) (s : ByteArray) (of : List F)
inductive X where
 | mk (k : Int) (is : List F) (of : List X) (i : Spn)
def toF : (n : Nat) → FT n → F
 | 0,t => nomatch t
 | n + 1,t => .mk t.1 t.2.1 (t.2.2.map (toF n))
def toX {m : Nat} : (n : Nat) → XT m n → X
 | 0,t => nomatch t
 | n + 1,t => .mk t.1 (t.2.1.map (toF m)) (t.2.2.1.map (toX n)) t.2.2.2
def z7m : (n : Nat) → FT n → FT (n + 1)
 | 0,t => nomatch t
 | n + 1,t => (t.1,t.2.1,t.2.2.map (z7m n))
theorem toF_lift : ∀ (n : Nat) (t : FT n),toF (n + 1) (z7m n t) = toF n t
 | 0,t => nomatch t
 | n + 1,t => by
  rw [toF,toF,z7m]
  simp only [List.map_map]
  congr 1
  exact List.map_congr_left fun x _ => toF_lift n x
theorem rep_lift {w : World} {B : Nat} : ∀ {n : Nat} {t : FT n} {v : Value},FRep w B n t v → FRep w B (n + 1) (z7m n t) v
 | 0,t,_,_ => nomatch t
 | n + 1,t,v,⟨a,cap,hv,hm,hr⟩ => by
  refine ⟨a,cap,by rw [hv,z7m]; simp,by rw [z7m]; simpa using hm,?_⟩
  rcases hr with hr | ⟨b,off,ha,hb,hc⟩
  ·exact .inl (by rw [z7m]; simp [hr])
  ·refine .inr ⟨b,off,ha,hb,fun i hi => ?_⟩
   have hi' : i < t.2.2.length:=by rw [z7m] at hi; simpa using hi
   obtain ⟨vs,h1,h2,h3⟩:=hc i hi'
   refine ⟨vs,h1,h2,?_⟩
   have e : (z7m (n + 1) t).2.2[i] = z7m n (t.2.2[i]):=by simp [z7m]
   rw [e]
   exact rep_lift h3
def FRepI (w : World) (B : Nat) (t : F) (v : Value) : Prop:=∃ (n : Nat) (t' : FT n),toF n t' = t ∧ FRep w B n t' v
/-! ### The parser -/
def isT (s : List UInt8) : List Tok → Bool
 | [] => false
 | t :: _ => t.kind != 2 && t.text.data.toList == s
def z1q : List Tok → Int
 | [] => 0
 | t :: _ => t.place
abbrev PRes (α : Type):=Except (Int × Int) (α × List Tok)
def z7v {α : Type} (e : Int) (l : List Tok) : PRes α:=.error (e,z1q l)
def z0s (s : List UInt8) (l : List Tok) : Except (Int × Int) (List Tok):=if isT s l then .ok l.tail else .error (170,z1q l)
def z2i {α : Type} (sign : List UInt8) (one : List Tok → PRes α) (join : α → α → α) : Nat → α → List Tok → PRes α
 | 0,x,l => .ok (x,l)
 | k + 1,x,l =>
  if isT sign l then
   match one l.tail with
   | .error e => .error e
   | .ok (y,r) => z2i sign one join k (join x y) r
  else .ok (x,l)
def z1s {α : Type} (sign : List UInt8) (one : List Tok → PRes α) (join : α → α → α) (l : List Tok) : PRes α :=
 match one l with
 | .error e => .error e
 | .ok (x,r) => z2i sign one join r.length x r
def z0p {α : Type} (o c : List UInt8) (deep : Nat) (one : Nat → List Tok → PRes α) (l : List Tok) : Option (PRes α) :=
 if isT o l then
  some (if deep = 64 then z7v 171 l else
   match one (deep + 1) l.tail with
   | .error e => .error e
   | .ok (x,r) =>
    match z0s c r with
    | .error e => .error e
    | .ok r' => .ok (x,r'))
 else none
def notI (f : F) : F:=.mk 4 ⟨#[]⟩ [f]
def oneR (fm : Nat → List Tok → PRes F) (deep : Nat) : Nat → List Tok → PRes F
 | 0,l => z7v 170 l
 | k + 1,l =>
  match z0p [123] [125] deep fm l with
  | some r => r
  | none =>
   if isT [33] l then
    match oneR fm deep k l.tail with
    | .error e => .error e
    | .ok (f,r) => .ok (notI f,r)
   else if isT [116,114,117,101] l then .ok (.mk 1 ⟨#[]⟩ [],l.tail)
   else if isT [102,97,108,115,101] l then .ok (.mk 2 ⟨#[]⟩ [],l.tail)
   else match l with
    | [] => z7v 170 l
    | t :: r => if t.kind = 1 ∧ zac t.text.data.toList = true then .ok (.mk 3 t.text [],r) else z7v 170 l
def z2h : Nat → Nat → List Tok → PRes F
 | 0,_,l => z7v 170 l
 | d + 1,deep,l => z1s [124,124] (z1s [38,38] (fun l => oneR (z2h d) deep (l.length + 1) l) fun a b => .mk 5 ⟨#[]⟩ [a,b]) (fun a b => .mk 6 ⟨#[]⟩ [a,b]) l
def z2o (l : List UInt8) : Int:=l.foldl (fun n c => 10 * n + ((c.toNat : Int) - 48)) 0
def numR : List Tok → PRes Int
 | [] => z7v 170 []
 | t :: r => if t.kind = 2 then .ok (z2o t.text.data.toList,r) else z7v 170 (t :: r)
def z2g (l : List Tok) : PRes Spn :=
 let ls:=isT [40] l
 match (if ls then .ok l.tail else z0s [91] l) with
 | .error e => .error e
 | .ok l1 =>
  match numR l1 with
  | .error e => .error e
  | .ok (low,l2) =>
   match z0s [44] l2 with
   | .error e => .error e
   | .ok l3 =>
    if isT [111,111] l3 then
     match z0s [41] l3.tail with
     | .error e => .error e
     | .ok l4 => .ok (⟨low,ls,0,false,true⟩,l4)
    else
     match numR l3 with
     | .error e => .error e
     | .ok (high,l4) =>
      let hs:=isT [41] l4
      match (if hs then .ok l4.tail else z0s [93] l4) with
      | .error e => .error e
      | .ok l5 => .ok (⟨low,ls,high,hs,false⟩,l5)
def zax (tr : Nat → List Tok → PRes X) (deep : Nat) (l : List Tok) : PRes X :=
 match z0p [40] [41] deep tr l with
 | some r => r
 | none =>
  match z0p [60] [62] deep tr l with
  | some (.error e) => .error e
  | some (.ok (x,r1)) =>
   match z0s [95] r1 with
   | .error e => .error e
   | .ok r2 =>
    match z2g r2 with
    | .error e => .error e
    | .ok (i,r3) => .ok (.mk 6 [] [x] i,r3)
  | none =>
   match z2h 66 deep l with
   | .error e => .error e
   | .ok (f,r) => .ok (.mk 1 [f] [] z06,r)
def z9o : Nat → X → List Tok → X × List Tok
 | 0,x,l => (x,l)
 | k + 1,x,l => if isT [43] l then z9o k (.mk 5 [] [x] z06) l.tail else (x,l)
def z9p (tr : Nat → List Tok → PRes X) (deep : Nat) (l : List Tok) : PRes X :=
 match zax tr deep l with
 | .error e => .error e
 | .ok (x,r) => .ok (z9o r.length x r)
def z40 (k : Int) (a b : X) : X:=.mk k [] [a,b] z06
def treR : Nat → Nat → List Tok → PRes X
 | 0,_,l => z7v 170 l
 | d + 1,deep,l => z1s [124] (z1s [38] (z1s [59] (z9p (treR d) deep) (z40 4)) (z40 3)) (z40 2) l
def allR (l : List Tok) (stop : Int) : Except (Int × Int) X :=
 match treR 66 0 (l ++ [⟨0,⟨#[]⟩,stop⟩]) with
 | .error e => .error e
 | .ok (x,r) => if 1 < r.length then .error (170,z1q r) else .ok x
open Go.RowKit
def mayP (a : Int × Int) : Bool:=mayQ a.1 a.2
def z07 (a b : Int × Int) : Bool:=mayP a && mayP b && ltQ a.1 a.2 b.1 b.2
def z0i (n : Int) : Int × Int:=(n,1)
def z2j (hold : Int → Bool) (t u : Int × Int) : Int → List (Int × Int) → Option Int
 | at_,[] => some at_
 | at_,s :: r => if z07 (z0i at_) u && z07 t (z0i (at_ + s.1)) && !hold s.2 then none else z2j hold t u (at_ + s.1) r
def z5h (hold : Int → Bool) (l : List (Int × Int)) (t u : Int × Int) : Bool :=
 z07 t u && !z07 t (z0i 0) && (match z2j hold t u 0 l with | none => false | some e => !z07 (z0i e) u)
def z84 (hold : Int → Bool) (t u : Int × Int) : Int → List (Int × Int) → Bool
 | _,[] => true
 | at_,s :: r => !(ltQ at_ 1 u.1 u.2 && ltQ t.1 t.2 (at_ + s.1) 1 && !hold s.2) && z84 hold t u (at_ + s.1) r
def sumG (at_ : Int) (l : List (Int × Int)) : Int:=l.foldl (fun a s => a + s.1) at_
def z97 (hold : Int → Bool) (l : List (Int × Int)) (t u : Int × Int) : Bool :=
 ltQ t.1 t.2 u.1 u.2 && !ltQ t.1 t.2 0 1 && z84 hold t u 0 l && !ltQ (sumG 0 l) 1 u.1 u.2
theorem z7k {n : Int} (h : -2305843009213693952 ≤ n ∧ n ≤ 2305843009213693952) : mayP (z0i n) = true:=by
 unfold mayP mayQ z0i
 dsimp only
 rw [Int.ediv_one,Int.emod_one]
 have h1 : (Nat.gcd n.natAbs (1 : Int).natAbs == 1) = true:=by simp
 rw [h1]
 simp
 omega
theorem atom_go (hold : Int → Bool) {t u : Int × Int} (ht : mayP t = true) (hu : mayP u = true) : ∀ (l : List (Int × Int)) (at_ : Int),(∀ s ∈ l,0 ≤ s.1) → 0 ≤ at_ → sumG at_ l ≤ 2305843009213693952 →
 (z2j hold t u at_ l = if z84 hold t u at_ l then some (sumG at_ l) else none)
 | [],at_,_,_,_ => rfl
 | s :: r,at_,hp,h0,hs => by
  have h1:=hp s (by simp)
  have hr : ∀ x ∈ r,0 ≤ x.1:=fun x hx => hp x (by simp [hx])
  have hs' : sumG (at_ + s.1) r ≤ 2305843009213693952:=hs
  have mono : ∀ (l : List (Int × Int)) (a : Int),(∀ x ∈ l,0 ≤ x.1) → a ≤ sumG a l:=by
   intro l
   induction l with
   | nil => intro a _; exact Int.le_refl a
   | cons x l ih =>
    intro a h
    have:=ih (a + x.1) fun y hy => h y (by simp [hy])
    have hx:=h x (by simp)
    show a ≤ sumG (a + x.1) l
    omega
  have hm:=mono r (at_ + s.1) hr
  have m1 : mayP (z0i at_) = true:=z7k (by omega)
  have m2 : mayP (z0i (at_ + s.1)) = true:=z7k (by omega)
  have e1 : z07 (z0i at_) u = ltQ at_ 1 u.1 u.2:=by unfold z07; rw [m1,hu]; rfl
  have e2 : z07 t (z0i (at_ + s.1)) = ltQ t.1 t.2 (at_ + s.1) 1:=by unfold z07; rw [m2,ht]; rfl
  rw [z2j,z84,e1,e2,atom_go hold ht hu r (at_ + s.1) hr (by omega) hs']
  show _ = if _ then some (sumG (at_ + s.1) r) else none
  cases ltQ at_ 1 u.1 u.2 <;> cases ltQ t.1 t.2 (at_ + s.1) 1 <;> cases hold s.2 <;> simp
theorem atom_same (hold : Int → Bool) {t u : Int × Int} (ht : mayP t = true) (hu : mayP u = true) (l : List (Int × Int)) (hp : ∀ s ∈ l,0 ≤ s.1) (h0 : 0 ≤ sumG 0 l) (hs : sumG 0 l ≤ 2305843009213693952) : z5h hold l t u = z97 hold l t u:=by
 have e1 : z07 t u = ltQ t.1 t.2 u.1 u.2:=by unfold z07; rw [ht,hu]; rfl
 have e2 : z07 t (z0i 0) = ltQ t.1 t.2 0 1:=by unfold z07; rw [z7k (by omega),ht]; rfl
 have e3 : z07 (z0i (sumG 0 l)) u = ltQ (sumG 0 l) 1 u.1 u.2:=by unfold z07; rw [z7k (by omega),hu]; rfl
 unfold z5h z97
 rw [atom_go hold ht hu l 0 hp (by omega) hs,e1,e2]
 cases z84 hold t u 0 l
 ·simp
 ·simp [e3]
def z5j {α : Type} (shows : Int × Int → Int × Int → α → Bool) (u : Int × Int) : Int × Int → List (Int × Int) → List α → Bool
 | t,[],[y] => z07 t u && shows t u y
 | t,a :: r,y :: z => z07 t a && shows t a y && z5j shows u a r z
 | _,_,_ => false
def z7g : List (Int × Int) → Bool
 | [] => true
 | [a] => mayP a
 | a :: b :: r => mayP a && ltQ a.1 a.2 b.1 b.2 && z7g (b :: r)
def rowD {α : Type} (shows : Int × Int → Int × Int → α → Bool) : List (Int × Int) → List α → Bool
 | a :: b :: r,y :: z => shows a b y && rowD shows (b :: r) z
 | _,[] => true
 | _,_ => true
theorem z49 : ∀ {l : List (Int × Int)},z7g l = true → ∀ a ∈ l,mayP a = true
 | [],_,a,ha => by simp at ha
 | [b],h,a,ha => by simp at ha; rw [ha]; exact h
 | b :: c :: r,h,a,ha => by
  rw [z7g] at h
  simp only [Bool.and_eq_true] at h
  rcases List.mem_cons.1 ha with rfl | ha
  ·exact h.1.1
  ·exact z49 h.2 a ha
theorem plus_same {α : Type} (shows : Int × Int → Int × Int → α → Bool) (u : Int × Int) (hu : mayP u = true) : ∀ (l : List (Int × Int)) (t : Int × Int) (of : List α),mayP t = true → of.length = l.length + 1 →
 z5j shows u t l of = (z7g (t :: (l ++ [u])) && rowD shows (t :: (l ++ [u])) of)
 | [],t,of,ht,hl => by
  match of,hl with
  | [y],_ =>
   show (z07 t u && shows t u y) = ((mayP t && ltQ t.1 t.2 u.1 u.2 && mayP u) && (shows t u y && true))
   unfold z07
   rw [ht,hu]
   cases ltQ t.1 t.2 u.1 u.2 <;> simp
 | a :: r,t,of,ht,hl => by
  match of,hl with
  | y :: z,hl =>
   have hz : z.length = r.length + 1:=by simpa using hl
   show (z07 t a && shows t a y && z5j shows u a r z) = ((mayP t && ltQ t.1 t.2 a.1 a.2 && z7g (a :: (r ++ [u]))) && (shows t a y && rowD shows (a :: (r ++ [u])) z))
   by_cases ha : mayP a = true
   ·rw [plus_same shows u hu r a z ha hz]
    unfold z07
    rw [ht,ha]
    cases ltQ t.1 t.2 a.1 a.2 <;> cases shows t a y <;> simp
   ·have hr : z7g (a :: (r ++ [u])) = false:=by
     cases h : z7g (a :: (r ++ [u])) with
     | false => rfl
     | true => exact absurd (z49 h a (by simp)) ha
    have h1 : z07 t a = false:=by
     unfold z07
     have : mayP a = false:=by simpa using ha
     rw [this]; simp
    rw [h1,hr]; simp
open Go.RowKit Go.Shelf
def numB (l : List UInt8) : Bool:=decide (1 ≤ l.length) && z4g l
open Go.RowKit Go.Shelf
def kindB (l : List UInt8) : Int:=if z79 l then 1 else if numB l then 2 else if signB l then 3 else 0
open Go.RowKit Go.Shelf
theorem sign_row_fin : ∀ i : Fin 256,(z17 (UInt8.ofNat i.val) = true → z0o (UInt8.ofNat i.val) = false) ∧ signB [UInt8.ofNat i.val] = z17 (UInt8.ofNat i.val) ∧ (twin (UInt8.ofNat i.val) = (UInt8.ofNat i.val == 124 || UInt8.ofNat i.val == 38)) ∧ (twin (UInt8.ofNat i.val) = true → z17 (UInt8.ofNat i.val) = true) ∧ (z17 (UInt8.ofNat i.val) = true → z14 (UInt8.ofNat i.val) = false) ∧ (z0o (UInt8.ofNat i.val) = true → z14 (UInt8.ofNat i.val) = false):=by decide +kernel
theorem sign_row (b : UInt8) : (z17 b = true → z0o b = false) ∧ signB [b] = z17 b ∧ (twin b = (b == 124 || b == 38)) ∧ (twin b = true → z17 b = true) ∧ (z17 b = true → z14 b = false) ∧ (z0o b = true → z14 b = false):=by
 have:=sign_row_fin ⟨b.toNat,b.toNat_lt⟩
 simpa using this
theorem signB_two (b c : UInt8) : signB [b,c] = (twin b && c == b):=by
 rw [(sign_row b).2.2.1,Bool.eq_iff_iff]
 simp [signB]
 constructor
 ·rintro (⟨rfl,rfl⟩ | ⟨rfl,rfl⟩) <;> simp
 ·rintro ⟨rfl | rfl,rfl⟩ <;> simp
theorem signB_long (b c d : UInt8) (r : List UInt8) : signB (b :: c :: d :: r) = false:=by simp [signB]
theorem signB_cons (b : UInt8) (r : List UInt8) : signB (b :: r) = (z17 b && (r == [] || (twin b && r == [b]))):=by
 cases r with
 | nil => rw [(sign_row b).2.1]; simp
 | cons c r => cases r with
  | nil =>
   rw [signB_two]
   cases ht : twin b with
   | false => simp
   | true => rw [(sign_row b).2.2.2.1 ht]; simp
  | cons d r =>
   rw [signB_long]
   simp
theorem kindB_eq (l : List UInt8) : kindB l = z16 l:=by
 cases l with
 | nil => rfl
 | cons b r =>
  simp only [kindB,z16]
  by_cases hb : z0o b = true
  ·have hs : signB (b :: r) = false:=by
    rw [signB_cons]
    cases h : z17 b with
    | false => rfl
    | true => rw [(sign_row b).1 h] at hb; cases hb
   rw [hs,if_pos hb]
   by_cases hl : z7q b = true
   ·have hn : numB (b :: r) = false:=by
     have : z5g b = false:=by
      simp only [z7q,z5g,Bool.and_eq_true,decide_eq_true_eq] at hl ⊢
      rw [Bool.and_eq_false_iff]
      right; simp; omega
     simp [numB,z4g,this]
    have hw : z79 (b :: r) = (decide (r.length + 1 ≤ 8) && r.all z0o):=by simp [z79,hl]
    rw [hw,hn]
    simp only [z0y,hl,if_true]
    by_cases h8 : r.length + 1 ≤ 8
    ·simp [h8]
    ·simp [h8]
   ·have hl' : z7q b = false:=by simpa using hl
    have hw : z79 (b :: r) = false:=by simp [z79,hl']
    rw [hw]
    simp only [z0y,hl',Bool.false_eq_true,if_false]
    have hnB : numB (b :: r) = z4g (b :: r):=by simp [numB]
    rw [hnB]
    cases hn : z4g (b :: r) with
    | false => simp
    | true =>
     have hall : r.all z0o = true:=by
      simp only [z4g,Bool.and_eq_true,List.all_cons] at hn
      have h1:=hn.1.1.1.2
      rw [List.all_eq_true] at h1 ⊢
      intro x hx
      simp [z0o,h1 x hx]
     simp [hall]
  ·have hb' : z0o b = false:=by simpa using hb
   have hl' : z7q b = false:=by simp only [z0o,Bool.or_eq_false_iff] at hb'; exact hb'.1
   have hd' : z5g b = false:=by simp only [z0o,Bool.or_eq_false_iff] at hb'; exact hb'.2
   have hw : z79 (b :: r) = false:=by simp [z79,hl']
   have hn : numB (b :: r) = false:=by simp [numB,z4g,hd']
   rw [hw,hn,signB_cons,hb']
   rfl
open Go.RowKit Go.Shelf
attribute [local go_sem ↓] Go.wp_at_zero Go.wp_at_succ
open Go.RowKit Go.Shelf
attribute [local go_sem ↓] Go.wp_at_zero Go.wp_at_succ
def cutR (s : ByteArray) : List Tok × Int × Int :=
 if 4096 < s.size then ([],0,3) else match cut 0 s.data.toList with
  | .ok l => (l,0,0)
  | .bad a e => ([],a,e)
open Go.RowKit
open Go.RowKit
open Go.RowKit
abbrev oneD (d deep : Nat) (l : List Tok) : PRes F:=oneR (z2h d) deep (l.length + 1) l
abbrev andD (d deep : Nat) : List Tok → PRes F:=z1s [38,38] (oneD d deep) fun a b => .mk 5 ⟨#[]⟩ [a,b]
theorem formR_succ (d deep : Nat) (l : List Tok) : z2h (d + 1) deep l = z1s [124,124] (andD d deep) (fun a b => .mk 6 ⟨#[]⟩ [a,b]) l:=rfl
open Go.RowKit
open Go.RowKit
abbrev catD (d deep : Nat) : List Tok → PRes X:=z1s [59] (z9p (treR d) deep) (z40 4)
abbrev bothD (d deep : Nat) : List Tok → PRes X:=z1s [38] (catD d deep) (z40 3)
theorem treR_succ (d deep : Nat) (l : List Tok) : treR (d + 1) deep l = z1s [124] (bothD d deep) (z40 2) l:=rfl
section
variable (it : Int → List UInt8) {m n : Nat} (P : Nat → Nat → Prop) (t : XT m n)
variable {it P t}
end
open Go.RowKit
open Go.RowKit
open Go.RowKit
open Go.RowKit
/-! ### Printing hangs on the expression alone -/
theorem z5p {α β γ : Type} {f : α → γ} {g : β → γ} {δ : Type} {p : α → δ} {q : β → δ} : ∀ {l : List α} {r : List β},l.map f = r.map g → (∀ x ∈ l,∀ y ∈ r,f x = g y → p x = q y) → l.map p = r.map q
 | [],[],_,_ => rfl
 | [],_ :: _,h,_ => by simp at h
 | _ :: _,[],h,_ => by simp at h
 | x :: l,y :: r,h,H => by
  simp only [List.map_cons,List.cons.injEq] at h ⊢
  exact ⟨H x (by simp) y (by simp) h.1,z5p h.2 fun a ha b hb => H a (by simp [ha]) b (by simp [hb])⟩
end Go.Proofs.YtockinpjfhhkoaaGreatDoor
