/- Plain laws of layer 16: what is not great is counted without a turn of the machine's numbers; each part of what may be may be. No program. -/
import Derived.Test.YtpgdplmndnopbaaGreatDoorZ01
import Derived.Test.YtpgdplmndnopbaaGreatDoorZ02
import Derived.Test.YtpgdplmndnopbaaGreatDoorZ05
import Derived.Test.YtpgdplmndnopbaaGreatDoorZ03
import Derived.Deep.QuietTactic
set_option maxRecDepth 100000
set_option maxHeartbeats 16000000
namespace Go.Proofs.YtpgdplmndnopbaaGreatDoor
open Go.RowKit
def nF : (n : Nat) → FT n → Nat
 | 0,_ => 1
 | n + 1,t => 1 + (t.2.2.map (nF n)).sum
def nX {m : Nat} : (n : Nat) → XT m n → Nat
 | 0,_ => 1
 | n + 1,t => (if t.1 = 1 then (t.2.1.map (nF m)).sum else 1) + (t.2.2.1.map (nX n)).sum
theorem le_sum {α : Type} (f : α → Nat) : ∀ (l : List α) (x : α),x ∈ l → f x ≤ (l.map f).sum
 | y :: r,x,h => by
  simp only [List.map_cons,List.sum_cons]
  rcases List.mem_cons.1 h with rfl | h
  ·omega
  ·have:=le_sum f r x h; omega
theorem foldC_sum {α : Type} (f : α → Int) (g : α → Nat) : ∀ (l : List α) (a : Nat),(∀ x ∈ l,f x = g x) → a + (l.map g).sum ≤ 1000000 → z2e f a l = ((a + (l.map g).sum : Nat) : Int)
 | [],a,_,_ => by simp [z2e]
 | x :: r,a,H,h => by
  simp only [List.map_cons,List.sum_cons] at h ⊢
  have h1:=H x (by simp)
  have hw : wrap64 ((a : Int) + f x) = ((a + g x : Nat) : Int):=by rw [h1]; unfold wrap64; omega
  show z2e f (wrap64 ((a : Int) + f x)) r = _
  rw [hw,foldC_sum f g r (a + g x) (fun y hy => H y (by simp [hy])) (by omega)]
  congr 1; omega
theorem cntF_n : ∀ (n : Nat) (t : FT n),nF n t ≤ 1000000 → cntF n t = nF n t
 | 0,t,_ => nomatch t
 | n + 1,t,h => by
  rw [nF] at h
  have:=foldC_sum (cntF n) (nF n) t.2.2 1 (fun x hx => cntF_n n x (by have:=le_sum (nF n) t.2.2 x hx; omega)) h
  rw [cntF,nF]; exact this
end Go.Proofs.YtpgdplmndnopbaaGreatDoor
/- Plain: names that are not great are short ones. No program. -/
namespace Go.Proofs.YtpgdplmndnopbaaGreatDoor
open Go.RowKit
def gnGo : List ByteArray → Int → Int
 | [],n => n
 | s :: r,n => if n < 10000 then gnGo r (wrap64 (wrap64 (n + 1) + s.size)) else n
def greatN (l : List ByteArray) : Bool:=decide (5000 < gnGo l 0)
theorem gnGo_drop (l : List ByteArray) (k : Nat) (n : Int) (h : k < l.length) (hn : n < 10000) : gnGo (l.drop k) n = gnGo (l.drop (k + 1)) (wrap64 (wrap64 (n + 1) + l[k].size)):=by
 rw [List.drop_eq_getElem_cons h,gnGo,if_pos hn]
theorem gnGo_stop (l : List ByteArray) (n : Int) (hn : ¬ n < 10000) : gnGo l n = n:=by
 cases l with
 | nil => rfl
 | cons x r => rw [gnGo,if_neg hn]
theorem gnGo_end (l : List ByteArray) (n : Int) : gnGo (l.drop l.length) n = n:=by rw [List.drop_length]; rfl
theorem gnGo_le : ∀ (l : List ByteArray) (n : Int),(∀ s ∈ l,s.size ≤ 281474976710656) → 0 ≤ n → n ≤ 300000000000000 → n ≤ gnGo l n ∧ (gnGo l n ≤ 5000 → ∀ s ∈ l,s.size ≤ 5000)
 | [],n,_,_,_ => ⟨by simp [gnGo],fun _ s hs => absurd hs (by simp)⟩
 | x :: r,n,H,h0,h1 => by
  rw [gnGo]
  split
  ·rename_i hn
   have hx:=H x (by simp)
   have hw : wrap64 (wrap64 (n + 1) + x.size) = n + 1 + x.size:=by unfold wrap64; omega
   rw [hw]
   obtain ⟨a,b⟩:=gnGo_le r (n + 1 + x.size) (fun s hs => H s (by simp [hs])) (by omega) (by omega)
   refine ⟨by omega,fun h s hs => ?_⟩
   rcases List.mem_cons.1 hs with rfl | hs
   ·omega
   ·exact b h s hs
  ·rename_i hn
   exact ⟨Int.le_refl _,fun h => absurd h (by omega)⟩
theorem greatN_not {l : List ByteArray} (h : greatN l = false) (H : ∀ s ∈ l,s.size ≤ 281474976710656) : ∀ s ∈ l,s.size ≤ 1048576:=by
 intro s hs
 have h1 : gnGo l 0 ≤ 5000:=by unfold greatN at h; simpa using h
 have:=(gnGo_le l 0 H (by omega) (by omega)).2 h1 s hs
 omega
end Go.Proofs.YtpgdplmndnopbaaGreatDoor
namespace Go.Proofs.YtpgdplmndnopbaaGreatDoor
open Go.RowKit
abbrev oneD (d deep : Nat) (l : List Tok) : PRes F:=oneR (z1e d) deep (l.length + 1) l
abbrev andD (d deep : Nat) : List Tok → PRes F:=z0g [38,38] (oneD d deep) fun a b => .mk 5 ⟨#[]⟩ [a,b]
theorem formR_succ (d deep : Nat) (l : List Tok) : z1e (d + 1) deep l = z0g [124,124] (andD d deep) (fun a b => .mk 6 ⟨#[]⟩ [a,b]) l:=rfl
end Go.Proofs.YtpgdplmndnopbaaGreatDoor
namespace Go.Proofs.YtpgdplmndnopbaaGreatDoor
open Go.RowKit
end Go.Proofs.YtpgdplmndnopbaaGreatDoor
namespace Go.Proofs.YtpgdplmndnopbaaGreatDoor
open Go.RowKit
abbrev catD (d deep : Nat) : List Tok → PRes X:=z0g [59] (z3b (treR d) deep) (z12 4)
abbrev bothD (d deep : Nat) : List Tok → PRes X:=z0g [38] (catD d deep) (z12 3)
theorem treR_succ (d deep : Nat) (l : List Tok) : treR (d + 1) deep l = z0g [124] (bothD d deep) (z12 2) l:=rfl
section
variable (it : Int → List UInt8) {m n : Nat} (P : Nat → Nat → Prop) (t : XT m n)
variable {it P t}
end
end Go.Proofs.YtpgdplmndnopbaaGreatDoor
namespace Go.Proofs.YtpgdplmndnopbaaGreatDoor
open Go.RowKit
def Sh {α : Type} (l : List Tok) (a : PRes α) : Prop:=∀ x r,a = .ok (x,r) → r.length ≤ l.length
theorem z1x {s : List UInt8} {l : List Tok} (h : isT s l = true) : l.tail.length + 1 = l.length:=by
 cases l with
 | nil => simp [isT] at h
 | cons t l => rfl
theorem z6c {s : List UInt8} {l r : List Tok} (h : z0v s l = .ok r) : r.length + 1 = l.length:=by
 unfold z0v at h
 split at h
 ·rename_i hs
  injection h with h
  subst h
  exact z1x hs
 ·cases h
theorem chain_sh {α : Type} {sign : List UInt8} {one : List Tok → PRes α} {join : α → α → α} (ho : ∀ l,Sh l (one l)) : ∀ (k : Nat) (x : α) (l : List Tok),Sh l (z0n sign one join k x l)
 | 0,x,l => fun y r h => by
  rw [z0n] at h
  injection h with h
  obtain ⟨rfl,rfl⟩:=Prod.mk.inj h
  exact Nat.le_refl _
 | k + 1,x,l => fun y r h => by
  rw [z0n] at h
  split at h
  ·rename_i hs
   have hl:=z1x hs
   cases e : one l.tail with
   | error z => rw [e] at h; cases h
   | ok p =>
    obtain ⟨z,r1⟩:=p
    rw [e] at h
    have h1:=ho _ _ _ e
    have h2:=chain_sh ho k (join x z) r1 _ _ h
    omega
  ·injection h with h
   obtain ⟨rfl,rfl⟩:=Prod.mk.inj h
   exact Nat.le_refl _
theorem z2i {α : Type} {sign : List UInt8} {one : List Tok → PRes α} {join : α → α → α} (ho : ∀ l,Sh l (one l)) (l : List Tok) : Sh l (z0g sign one join l):=fun y r h => by
 unfold z0g at h
 cases e : one l with
 | error z => rw [e] at h; cases h
 | ok p =>
  obtain ⟨x,r1⟩:=p
  rw [e] at h
  have h1:=ho _ _ _ e
  have h2:=chain_sh ho _ x r1 _ _ h
  omega
theorem z6b {α : Type} {o c : List UInt8} {deep : Nat} {one : Nat → List Tok → PRes α} (ho : ∀ d l,Sh l (one d l)) {l : List Tok} {q : PRes α} (h : z0t o c deep one l = some q) : Sh l q:=fun x r e => by
 subst e
 unfold z0t at h
 split at h
 ·rename_i hs
  have hl:=z1x hs
  injection h with e
  split at e
  ·cases e
  ·cases e2 : one (deep + 1) l.tail with
   | error z => rw [e2] at e; cases e
   | ok p =>
    obtain ⟨x1,r1⟩:=p
    rw [e2] at e
    dsimp only at e
    cases e3 : z0v c r1 with
    | error z => rw [e3] at e; cases e
    | ok r2 =>
     rw [e3] at e
     injection e with e
     obtain ⟨rfl,rfl⟩:=Prod.mk.inj e
     have h1:=ho _ _ _ _ e2
     have h2:=z6c e3
     omega
 ·cases h
theorem one_sh {fm : Nat → List Tok → PRes F} (hf : ∀ d l,Sh l (fm d l)) (deep : Nat) : ∀ (k : Nat) (l : List Tok),Sh l (oneR fm deep k l)
 | 0,l => fun x r h => by rw [oneR] at h; cases h
 | k + 1,l => fun x r h => by
  rw [oneR.eq_def] at h
  dsimp only at h
  cases e : z0t [123] [125] deep fm l with
  | some q =>
   rw [e] at h
   dsimp only at h
   exact z6b hf e _ _ h
  | none =>
   rw [e] at h
   dsimp only at h
   split at h
   ·rename_i hs
    have hl:=z1x hs
    cases e2 : oneR fm deep k l.tail with
    | error z => rw [e2] at h; cases h
    | ok p =>
     obtain ⟨x1,r1⟩:=p
     rw [e2] at h
     injection h with h
     obtain ⟨rfl,rfl⟩:=Prod.mk.inj h
     have:=one_sh hf deep k _ _ _ e2
     omega
   ·split at h
    ·rename_i hs
     have hl:=z1x hs
     injection h with h
     obtain ⟨rfl,rfl⟩:=Prod.mk.inj h
     omega
    ·split at h
     ·rename_i hs
      have hl:=z1x hs
      injection h with h
      obtain ⟨rfl,rfl⟩:=Prod.mk.inj h
      omega
     ·cases l with
      | nil => cases h
      | cons t l =>
       dsimp only at h
       split at h
       ·injection h with h
        obtain ⟨rfl,rfl⟩:=Prod.mk.inj h
        simp
       ·cases h
theorem z5n : ∀ (d deep : Nat) (l : List Tok),Sh l (z1e d deep l)
 | 0,deep,l => fun x r h => by rw [z1e] at h; cases h
 | d + 1,deep,l => by
  rw [formR_succ]
  exact z2i (fun l => z2i (fun l => one_sh (fun dd l => z5n d dd l) deep _ l) l) l
theorem num_sh {l r : List Tok} {v : Int} (h : numR l = .ok (v,r)) : r.length + 1 = l.length:=by
 cases l with
 | nil => cases h
 | cons t l =>
  have h' : (if t.kind = 2 then Except.ok (z10 t.text.data.toList,l) else z1k 170 (t :: l)) = (Except.ok (v,r) : PRes Int):=h
  split at h'
  ·injection h' with h'
   obtain ⟨rfl,rfl⟩:=Prod.mk.inj h'
   rfl
  ·cases h'
theorem may_sh {s u : List UInt8} {l r : List Tok} (h : (if isT s l = true then Except.ok l.tail else z0v u l : Except (Int × Int) (List Tok)) = .ok r) : r.length + 1 = l.length:=by
 by_cases hs : isT s l = true
 ·rw [if_pos hs] at h
  injection h with h
  subst h
  exact z1x hs
 ·rw [if_neg hs] at h
  exact z6c h
theorem z6i {l r : List Tok} {i : Spn} (h : z11 l = .ok (i,r)) : r.length ≤ l.length:=by
 unfold z11 at h
 dsimp only at h
 cases e1 : (if isT [40] l = true then Except.ok l.tail else z0v [91] l : Except (Int × Int) (List Tok)) with
 | error z => rw [e1] at h; cases h
 | ok l1 =>
  rw [e1] at h
  have k1:=may_sh e1
  dsimp only at h
  cases e2 : numR l1 with
  | error z => rw [e2] at h; cases h
  | ok p =>
   obtain ⟨low,l2⟩:=p
   rw [e2] at h
   have k2:=num_sh e2
   dsimp only at h
   cases e3 : z0v [44] l2 with
   | error z => rw [e3] at h; cases h
   | ok l3 =>
    rw [e3] at h
    have k3:=z6c e3
    dsimp only at h
    by_cases hs : isT [111,111] l3 = true
    ·rw [if_pos hs] at h
     have k4:=z1x hs
     cases e4 : z0v [41] l3.tail with
     | error z => rw [e4] at h; cases h
     | ok l4 =>
      rw [e4] at h
      have k5:=z6c e4
      injection h with h
      obtain ⟨rfl,rfl⟩:=Prod.mk.inj h
      omega
    ·rw [if_neg hs] at h
     cases e4 : numR l3 with
     | error z => rw [e4] at h; cases h
     | ok p =>
      obtain ⟨high,l4⟩:=p
      rw [e4] at h
      have k4:=num_sh e4
      dsimp only at h
      cases e5 : (if isT [41] l4 = true then Except.ok l4.tail else z0v [93] l4 : Except (Int × Int) (List Tok)) with
      | error z => rw [e5] at h; cases h
      | ok l5 =>
       rw [e5] at h
       have k5:=may_sh e5
       injection h with h
       obtain ⟨rfl,rfl⟩:=Prod.mk.inj h
       omega
theorem plus_sh : ∀ (k : Nat) (x : X) (l : List Tok),(z2s k x l).2.length ≤ l.length
 | 0,x,l => Nat.le_refl _
 | k + 1,x,l => by
  rw [z2s]
  split
  ·rename_i hs
   have hl:=z1x hs
   have:=plus_sh k (.mk 5 [] [x] noSpan) l.tail
   omega
  ·exact Nat.le_refl _
theorem base_sh {tr : Nat → List Tok → PRes X} (hf : ∀ d l,Sh l (tr d l)) (deep : Nat) (l : List Tok) : Sh l (z3o tr deep l):=fun x r h => by
 unfold z3o at h
 cases e : z0t [40] [41] deep tr l with
 | some q =>
  rw [e] at h
  exact z6b hf e _ _ h
 | none =>
  rw [e] at h
  dsimp only at h
  cases e1 : z0t [60] [62] deep tr l with
  | some q =>
   rw [e1] at h
   cases q with
   | error z => cases h
   | ok p =>
    obtain ⟨x1,r1⟩:=p
    dsimp only at h
    have h1:=z6b hf e1 _ _ rfl
    cases e2 : z0v [95] r1 with
    | error z => rw [e2] at h; cases h
    | ok r2 =>
     rw [e2] at h
     have h3:=z6c e2
     dsimp only at h
     cases e3 : z11 r2 with
     | error z => rw [e3] at h; cases h
     | ok p =>
      obtain ⟨i,r3⟩:=p
      rw [e3] at h
      have h4:=z6i e3
      injection h with h
      obtain ⟨rfl,rfl⟩:=Prod.mk.inj h
      omega
  | none =>
   rw [e1] at h
   dsimp only at h
   cases e2 : z1e 66 deep l with
   | error z => rw [e2] at h; cases h
   | ok p =>
    obtain ⟨f,r1⟩:=p
    rw [e2] at h
    injection h with h
    obtain ⟨rfl,rfl⟩:=Prod.mk.inj h
    exact z5n _ _ _ _ _ e2
theorem tre_sh : ∀ (d deep : Nat) (l : List Tok),Sh l (treR d deep l)
 | 0,deep,l => fun x r h => by rw [treR] at h; cases h
 | d + 1,deep,l => by
  rw [treR_succ]
  refine z2i (fun l => z2i (fun l => z2i (fun l x r h => ?_) l) l) l
  unfold z3b at h
  cases e : z3o (treR d) deep l with
  | error z => rw [e] at h; cases h
  | ok p =>
   obtain ⟨x1,r1⟩:=p
   rw [e] at h
   dsimp only at h
   have h1:=base_sh (fun dd l => tre_sh d dd l) deep l _ _ e
   have h2:=plus_sh r1.length x1 r1
   injection h with h
   rw [h] at h2
   dsimp only at h2
   omega
end Go.Proofs.YtpgdplmndnopbaaGreatDoor
namespace Go.Proofs.YtpgdplmndnopbaaGreatDoor
open Go.RowKit
def Hd (r r' : List Tok) : Prop:=∃ t s t' s',r = t :: s ∧ r' = t' :: s' ∧ t.kind = t'.kind ∧ t.text = t'.text
theorem Hd.app {r r' : List Tok} (h : Hd r r') (a : List Tok) : Hd (a ++ r) (a ++ r'):=by
 cases a with
 | nil => exact h
 | cons t a => exact ⟨t,_,t,_,rfl,rfl,rfl,rfl⟩
theorem Hd.isT {r r' : List Tok} (h : Hd r r') (s : List UInt8) : isT s r = isT s r':=by
 obtain ⟨t,s1,t',s1',rfl,rfl,h1,h2⟩:=h
 show (t.kind != 2 && t.text.data.toList == s) = (t'.kind != 2 && t'.text.data.toList == s)
 rw [h1,h2]
theorem Hd.pos {r r' : List Tok} (h : Hd r r') : 1 ≤ r'.length:=by
 obtain ⟨t,s1,t',s1',rfl,rfl,h1,h2⟩:=h
 simp
def Er (c : Int) (r : List Tok) : Prop:=c = 170 ∨ c = 171 ∧ (isT [40] r = true ∨ isT [60] r = true ∨ isT [123] r = true)
inductive Lo {α : Type} (P : List Tok → PRes α → Prop) (l : List Tok) : PRes α → Prop
 | ok (x : α) (a r : List Tok) (hl : l = a ++ r) (he : Ends r) (h : ∀ r',Hd r r' → P (a ++ r') (.ok (x,r'))) : Lo P l (.ok (x,r))
 | err (c : Int) (a r : List Tok) (hl : l = a ++ r) (he : Ends r) (hc : Er c r) (h : ∀ r',Hd r r' → P (a ++ r') (.error (c,z05 r'))) : Lo P l (.error (c,z05 r))
theorem Lo.imp {α : Type} {P P' : List Tok → PRes α → Prop} {l : List Tok} {q : PRes α} (h : Lo P l q) (hi : ∀ l' q,Hd l l' → P l' q → P' l' q) : Lo P' l q:=by
 cases h with
 | ok x a r hl he h => exact .ok x a r hl he fun r' hh => hi _ _ (by rw [hl]; exact hh.app a) (h r' hh)
 | err c a r hl he hc h => exact .err c a r hl he hc fun r' hh => hi _ _ (by rw [hl]; exact hh.app a) (h r' hh)
abbrev LoF {α : Type} (f : List Tok → PRes α) (l : List Tok) : Prop:=Lo (fun l' q => f l' = q) l (f l)
def LocA {α : Type} (f : List Tok → PRes α) : Prop:=∀ l,Ends l → LoF f l
def z1y {α β : Type} (a : PRes α) (f : α → List Tok → PRes β) : PRes β :=
 match a with
 | .error e => .error e
 | .ok (x,r) => f x r
theorem Lo.bind {α β : Type} {P : List Tok → PRes α → Prop} {l : List Tok} {q : PRes α} (h : Lo P l q) {Q : α → List Tok → PRes β} (hQ : ∀ x,LocA (Q x)) : Lo (fun l' q' => ∃ q0,P l' q0 ∧ z1y q0 Q = q') l (z1y q Q):=by
 cases h with
 | ok x a r hl he h =>
  show Lo _ l (Q x r)
  have h2:=hQ x r he
  unfold LoF at h2
  generalize Q x r = q2 at h2 ⊢
  cases h2 with
  | ok y b s hl2 he2 h2 =>
   subst hl2
   exact .ok y (a ++ b) s (by rw [hl]; simp) he2 fun s' hh => ⟨.ok (x,b ++ s'),by rw [List.append_assoc]; exact h _ (hh.app b),h2 s' hh⟩
  | err c b s hl2 he2 hc h2 =>
   subst hl2
   exact .err c (a ++ b) s (by rw [hl]; simp) he2 hc fun s' hh => ⟨.ok (x,b ++ s'),by rw [List.append_assoc]; exact h _ (hh.app b),h2 s' hh⟩
 | err c a r hl he hc h => exact .err c a r hl he hc fun r' hh => ⟨_,h r' hh,rfl⟩
theorem Lo.bindF {α β : Type} {f : List Tok → PRes α} {l : List Tok} (h : LoF f l) {Q : α → List Tok → PRes β} (hQ : ∀ x,LocA (Q x)) : LoF (fun l => z1y (f l) Q) l :=
 (Lo.bind h hQ).imp fun l' q _ ⟨q0,h1,h2⟩ => by rw [← h2,← h1]
theorem LocA.bind {α β : Type} {f : List Tok → PRes α} (h : LocA f) {Q : α → List Tok → PRes β} (hQ : ∀ x,LocA (Q x)) : LocA fun l => z1y (f l) Q:=fun l hl => Lo.bindF (h l hl) hQ
theorem LocA.pure {α : Type} (x : α) : LocA fun l => .ok (x,l):=fun l hl => .ok x [] l rfl hl fun _ _ => rfl
theorem LocA.fail {α : Type} : LocA (fun l => z1k 170 l : List Tok → PRes α):=fun l hl => .err 170 [] l rfl hl (.inl rfl) fun _ _ => rfl
theorem z5d {s : List UInt8} (hs : s ≠ []) {l : List Tok} (hl : Ends l) (h : isT s l = true) : ∃ t l1,l = t :: l1 ∧ Ends l1:=by
 obtain ⟨t,l1,rfl⟩:=hl.cons
 refine ⟨t,l1,rfl,hl.tail (.inr ?_)⟩
 have h' : (t.kind != 2 && t.text.data.toList == s) = true:=h
 simp only [Bool.and_eq_true,beq_iff_eq] at h'
 rw [h'.2]
 exact hs
theorem Lo.step {α : Type} {P : List Tok → PRes α → Prop} {t : Tok} {l1 : List Tok} {q : PRes α} (h : Lo P l1 q) : Lo (fun l' q => ∃ t' l2,l' = t' :: l2 ∧ t' = t ∧ P l2 q) (t :: l1) q:=by
 cases h with
 | ok x a r hl he h => exact .ok x (t :: a) r (by rw [hl]; rfl) he fun r' hh => ⟨t,a ++ r',rfl,rfl,h r' hh⟩
 | err c a r hl he hc h => exact .err c (t :: a) r (by rw [hl]; rfl) he hc fun r' hh => ⟨t,a ++ r',rfl,rfl,h r' hh⟩
theorem LoF.tl {α : Type} {s : List UInt8} (hs : s ≠ []) {f g : List Tok → PRes α} {l : List Tok} (hl : Ends l) (hf : LocA f) (hg : isT s l = false → LoF g l) : LoF (fun l => if isT s l then f l.tail else g l) l:=by
 unfold LoF
 dsimp only
 by_cases h : isT s l = true
 ·rw [if_pos h]
  obtain ⟨t,l1,rfl,h1⟩:=z5d hs hl h
  refine (Lo.step (hf l1 h1)).imp ?_
  rintro l' q hh ⟨t',l2,rfl,rfl,h2⟩
  rw [if_pos (by rw [← hh.isT]; exact h)]
  exact h2
 ·rw [if_neg h]
  refine Lo.imp (hg (by simpa using h)) ?_
  intro l' q hh h2
  rw [if_neg (by rw [← hh.isT]; exact h)]
  exact h2
theorem LocA.tl {α : Type} {s : List UInt8} (hs : s ≠ []) {f g : List Tok → PRes α} (hf : LocA f) (hg : LocA g) : LocA fun l => if isT s l then f l.tail else g l:=fun l hl => LoF.tl hs hl hf fun _ => hg l hl
theorem LoF.ite {α : Type} {s : List UInt8} {f g : List Tok → PRes α} {l : List Tok} (hf : isT s l = true → LoF f l) (hg : isT s l = false → LoF g l) : LoF (fun l => if isT s l then f l else g l) l:=by
 unfold LoF
 dsimp only
 by_cases h : isT s l = true
 ·rw [if_pos h]
  refine Lo.imp (hf h) ?_
  intro l' q hh h2
  rw [if_pos (by rw [← hh.isT]; exact h)]
  exact h2
 ·rw [if_neg h]
  refine Lo.imp (hg (by simpa using h)) ?_
  intro l' q hh h2
  rw [if_neg (by rw [← hh.isT]; exact h)]
  exact h2
theorem LocA.num : LocA numR:=by
 intro l hl
 obtain ⟨t,r,rfl⟩:=hl.cons
 have e : ∀ t r,numR (t :: r) = if t.kind = 2 then .ok (z10 t.text.data.toList,r) else z1k 170 (t :: r):=fun _ _ => rfl
 unfold LoF
 by_cases h : t.kind = 2
 ·rw [e,if_pos h]
  refine .ok _ [t] r rfl (hl.tail (.inl (by rw [h]; decide))) fun r' _ => ?_
  show numR (t :: r') = _
  rw [e,if_pos h]
 ·rw [e,if_neg h]
  refine .err 170 [] (t :: r) rfl hl (.inl rfl) fun r' hh => ?_
  obtain ⟨t1,s1,t',s1',e1,rfl,h1,h2⟩:=hh
  injection e1 with e1 _
  subst e1
  show numR (t' :: s1') = _
  rw [e,if_neg (by rw [← h1]; exact h)]
  rfl
theorem chain_lo {α : Type} {sign : List UInt8} (hs : sign ≠ []) {one : List Tok → PRes α} {join : α → α → α} (ho : LocA one) : ∀ (k : Nat) (x : α) (l : List Tok),Ends l → l.length ≤ k → Lo (fun l' q => ∀ k',l'.length ≤ k' → z0n sign one join k' x l' = q) l (z0n sign one join k x l)
 | 0,x,l,hl,hk => by obtain ⟨t,r,rfl⟩:=hl.cons; simp at hk
 | k + 1,x,l,hl,hk => by
  rw [z0n]
  by_cases h : isT sign l = true
  ·rw [if_pos h]
   obtain ⟨t,l1,rfl,h1⟩:=z5d hs hl h
   have h2:=ho l1 h1
   unfold LoF at h2
   dsimp only [List.tail_cons]
   generalize one l1 = q at h2 ⊢
   cases h2 with
   | ok y a r hl2 he2 h2 =>
    dsimp only
    have h3:=chain_lo (join:=join) hs ho k (join x y) r he2 (by rw [hl2] at hk; simp at hk; omega)
    refine Lo.imp (P:=fun l' q => ∃ r',l' = t :: (a ++ r') ∧ one (a ++ r') = .ok (y,r') ∧ ∀ k',r'.length ≤ k' → z0n sign one join k' (join x y) r' = q) ?_ ?_
    ·generalize z0n sign one join k (join x y) r = q3 at h3 ⊢
     cases h3 with
     | ok z b s hl3 he3 h3 =>
      subst hl3
      exact .ok z (t :: (a ++ b)) s (by rw [hl2]; simp) he3 fun s' hh => ⟨b ++ s',by simp,h2 _ (hh.app b),h3 s' hh⟩
     | err c b s hl3 he3 hc h3 =>
      subst hl3
      exact .err c (t :: (a ++ b)) s (by rw [hl2]; simp) he3 hc fun s' hh => ⟨b ++ s',by simp,h2 _ (hh.app b),h3 s' hh⟩
    ·rintro l' q hh ⟨r',rfl,h4,h5⟩ k' hk'
     cases k' with
     | zero => simp at hk'
     | succ k' =>
      rw [z0n,if_pos (by rw [← hh.isT]; exact h)]
      dsimp only [List.tail_cons]
      rw [h4]
      exact h5 k' (by simp at hk'; omega)
   | err c a r hl2 he2 hc h2 =>
    dsimp only
    refine Lo.imp (P:=fun l' q => ∃ r' p,l' = t :: r' ∧ one r' = .error (c,p) ∧ q = .error (c,p)) ?_ ?_
    ·exact .err c (t :: a) r (by rw [hl2]; rfl) he2 hc fun r' hh => ⟨a ++ r',_,rfl,h2 r' hh,rfl⟩
    ·rintro l' q hh ⟨r',p,rfl,h4,rfl⟩ k' hk'
     cases k' with
     | zero => simp at hk'
     | succ k' =>
      rw [z0n,if_pos (by rw [← hh.isT]; exact h)]
      dsimp only [List.tail_cons]
      rw [h4]
  ·rw [if_neg h]
   refine .ok x [] l rfl hl fun r' hh k' hk' => ?_
   have:=hh.pos
   cases k' with
   | zero => simp at hk'; subst hk'; simp at this
   | succ k' =>
    rw [List.nil_append,z0n,if_neg (by rw [← hh.isT]; exact h)]
theorem LocA.chn {α : Type} {sign : List UInt8} (hs : sign ≠ []) {one : List Tok → PRes α} {join : α → α → α} (ho : LocA one) : LocA (z0g sign one join):=by
 intro l hl
 have h2:=ho l hl
 unfold LoF at h2 ⊢
 have e : z0g sign one join l = match one l with
  | .error e => .error e
  | .ok (x,r) => z0n sign one join r.length x r:=rfl
 rw [e]
 generalize one l = q at h2 ⊢
 cases h2 with
 | ok y a r hl2 he2 h2 =>
  dsimp only
  have h3:=chain_lo (join:=join) hs ho r.length y r he2 (Nat.le_refl _)
  generalize z0n sign one join r.length y r = q3 at h3 ⊢
  cases h3 with
  | ok z b s hl3 he3 h3 =>
   subst hl3
   refine .ok z (a ++ b) s (by rw [hl2]; simp) he3 fun s' hh => ?_
   unfold z0g
   rw [List.append_assoc,h2 _ (hh.app b)]
   exact h3 s' hh _ (Nat.le_refl _)
  | err c b s hl3 he3 hc h3 =>
   subst hl3
   refine .err c (a ++ b) s (by rw [hl2]; simp) he3 hc fun s' hh => ?_
   unfold z0g
   rw [List.append_assoc,h2 _ (hh.app b)]
   exact h3 s' hh _ (Nat.le_refl _)
 | err c a r hl2 he2 hc h2 =>
  refine .err c a r hl2 he2 hc fun r' hh => ?_
  unfold z0g
  rw [h2 r' hh]
def wthR {α : Type} (c : List UInt8) (deep : Nat) (one : Nat → List Tok → PRes α) (l : List Tok) : PRes α :=
 if deep = 64 then z1k 171 l else z1y (one (deep + 1) l.tail) fun x r => if isT c r then .ok (x,r.tail) else z1k 170 r
theorem z5j {α : Type} (o c : List UInt8) (deep : Nat) (one : Nat → List Tok → PRes α) (l : List Tok) : z0t o c deep one l = if isT o l then some (wthR c deep one l) else none:=by
 unfold z0t wthR
 split
 ·congr 1
  split
  ·rfl
  ·unfold z1y
   cases one (deep + 1) l.tail with
   | error e => rfl
   | ok p =>
    obtain ⟨x,r⟩:=p
    dsimp only
    unfold z0v z1k
    by_cases hc : isT c r = true
    ·rw [if_pos hc,if_pos hc]
    ·rw [if_neg hc,if_neg hc]
 ·rfl
theorem wth_lo {α : Type} {o c : List UInt8} (ho : o = [40] ∨ o = [60] ∨ o = [123]) (hc : c ≠ []) {deep : Nat} {one : Nat → List Tok → PRes α} (hone : deep ≠ 64 → LocA (one (deep + 1))) {l : List Tok} (hl : Ends l) (h : isT o l = true) : LoF (wthR c deep one) l:=by
 unfold LoF
 by_cases hd : deep = 64
 ·have e : ∀ l,wthR c deep one l = z1k 171 l:=fun l => by unfold wthR; rw [if_pos hd]
  rw [e]
  refine .err 171 [] l rfl hl (.inr ⟨rfl,?_⟩) fun r' _ => e _
  rcases ho with rfl | rfl | rfl
  ·exact .inl h
  ·exact .inr (.inl h)
  ·exact .inr (.inr h)
 ·have e : ∀ l,wthR c deep one l = z1y (one (deep + 1) l.tail) fun x r => if isT c r then .ok (x,r.tail) else z1k 170 r:=fun l => by unfold wthR; rw [if_neg hd]
  have ho' : o ≠ []:=by rcases ho with rfl | rfl | rfl <;> decide
  obtain ⟨t,l1,rfl,h1⟩:=z5d ho' hl h
  rw [e]
  refine (Lo.step (Lo.bindF (hone hd l1 h1) (Q:=fun x r => if isT c r then .ok (x,r.tail) else z1k 170 r) fun x => LocA.tl hc (LocA.pure x) LocA.fail)).imp ?_
  rintro l' q hh ⟨t',l2,rfl,rfl,h2⟩
  rw [e]
  exact h2
def wordR (l : List Tok) : PRes F :=
 match l with
 | [] => z1k 170 []
 | t :: r => if t.kind = 1 ∧ z3f t.text.data.toList = true then .ok (.mk 3 t.text [],r) else z1k 170 (t :: r)
theorem LocA.word : LocA wordR:=by
 intro l hl
 obtain ⟨t,r,rfl⟩:=hl.cons
 have e : ∀ t r,wordR (t :: r) = if t.kind = 1 ∧ z3f t.text.data.toList = true then .ok (.mk 3 t.text [],r) else z1k 170 (t :: r):=fun _ _ => rfl
 unfold LoF
 by_cases h : t.kind = 1 ∧ z3f t.text.data.toList = true
 ·rw [e,if_pos h]
  refine .ok _ [t] r rfl (hl.tail (.inl (by rw [h.1]; decide))) fun r' _ => ?_
  show wordR (t :: r') = _
  rw [e,if_pos h]
 ·rw [e,if_neg h]
  refine .err 170 [] (t :: r) rfl hl (.inl rfl) fun r' hh => ?_
  obtain ⟨t1,s1,t',s1',e1,rfl,h1,h2⟩:=hh
  injection e1 with e1 _
  subst e1
  show wordR (t' :: s1') = _
  rw [e,if_neg (by rw [← h1,← h2]; exact h)]
  rfl
def restR (l : List Tok) : PRes F :=
 if isT [116,114,117,101] l then .ok (.mk 1 ⟨#[]⟩ [],l.tail) else if isT [102,97,108,115,101] l then .ok (.mk 2 ⟨#[]⟩ [],l.tail) else wordR l
theorem LocA.rest : LocA restR:=LocA.tl (by decide) (LocA.pure _) (LocA.tl (by decide) (LocA.pure _) LocA.word)
theorem z5l (fm : Nat → List Tok → PRes F) (deep k : Nat) (l : List Tok) : oneR fm deep (k + 1) l =
 if isT [123] l then wthR [125] deep fm l else if isT [33] l then z1y (oneR fm deep k l.tail) fun f r => .ok (notI f,r) else restR l:=by
 rw [oneR.eq_def]
 dsimp only
 rw [z5j]
 by_cases h : isT [123] l = true
 ·rw [if_pos h,if_pos h]
 ·rw [if_neg h,if_neg h]
  dsimp only
  split
  ·unfold z1y
   cases oneR fm deep k l.tail with
   | error e => rfl
   | ok p => rfl
  ·unfold restR wordR
   split
   ·rfl
   ·split
    ·rfl
    ·cases l <;> rfl
theorem one_lo {fm : Nat → List Tok → PRes F} {deep : Nat} (hone : deep ≠ 64 → LocA (fm (deep + 1))) : ∀ (k : Nat) (l : List Tok),Ends l → l.length < k → Lo (fun l' q => ∀ k',l'.length < k' → oneR fm deep k' l' = q) l (oneR fm deep k l)
 | 0,l,hl,hk => by omega
 | k + 1,l,hl,hk => by
  rw [z5l]
  by_cases h : isT [123] l = true
  ·rw [if_pos h]
   refine (wth_lo (.inr (.inr rfl)) (by decide : ([125] : List UInt8) ≠ []) hone hl h).imp ?_
   rintro l' q hh h2 k' hk'
   cases k' with
   | zero => omega
   | succ k' => rw [z5l,if_pos (by rw [← hh.isT]; exact h)]; exact h2
  ·rw [if_neg h]
   by_cases h3 : isT [33] l = true
   ·rw [if_pos h3]
    obtain ⟨t,l1,rfl,h1⟩:=z5d (by decide) hl h3
    dsimp only [List.tail_cons]
    refine (Lo.step (Lo.bind (one_lo hone k l1 h1 (by simp at hk; omega)) (Q:=fun f r => .ok (notI f,r)) fun f => LocA.pure _)).imp ?_
    rintro l' q hh ⟨t',l2,rfl,rfl,q0,h4,h5⟩ k' hk'
    cases k' with
    | zero => omega
    | succ k' =>
     rw [z5l,if_neg (by rw [← hh.isT]; exact h),if_pos (by rw [← hh.isT]; exact h3)]
     dsimp only [List.tail_cons]
     rw [h4 k' (by simp at hk'; omega)]
     exact h5
   ·rw [if_neg h3]
    refine (LocA.rest l hl).imp ?_
    rintro l' q hh h2 k' hk'
    cases k' with
    | zero => omega
    | succ k' => rw [z5l,if_neg (by rw [← hh.isT]; exact h),if_neg (by rw [← hh.isT]; exact h3)]; exact h2
theorem z4m : ∀ (d deep : Nat),LocA (z1e d deep)
 | 0,deep => LocA.fail
 | d + 1,deep => by
  have e : z1e (d + 1) deep = z0g [124,124] (z0g [38,38] (fun l => oneR (z1e d) deep (l.length + 1) l) fun a b => .mk 5 ⟨#[]⟩ [a,b]) (fun a b => .mk 6 ⟨#[]⟩ [a,b]):=by
   funext l
   rw [z1e]
  rw [e]
  refine LocA.chn (by decide) (LocA.chn (by decide) fun l hl => ?_)
  refine (one_lo (fun _ => z4m d (deep + 1)) (l.length + 1) l hl (by omega)).imp ?_
  rintro l' q _ h
  exact h _ (by omega)
def itvB (ls : Bool) (low : Int) (l : List Tok) : PRes Spn :=
 if isT [111,111] l then (fun l => if isT [41] l then .ok (⟨low,ls,0,false,true⟩,l.tail) else z1k 170 l) l.tail
 else z1y (numR l) fun high r => if isT [41] r then .ok (⟨low,ls,high,true,false⟩,r.tail) else if isT [93] r then .ok (⟨low,ls,high,false,false⟩,r.tail) else z1k 170 r
def itvA (ls : Bool) (l : List Tok) : PRes Spn:=z1y (numR l) fun low r => if isT [44] r then itvB ls low r.tail else z1k 170 r
theorem LocA.itvB (ls : Bool) (low : Int) : LocA (itvB ls low) :=
 LocA.tl (by decide) (LocA.tl (by decide) (LocA.pure _) LocA.fail) (LocA.bind LocA.num fun high => LocA.tl (by decide) (LocA.pure _) (LocA.tl (by decide) (LocA.pure _) LocA.fail))
theorem LocA.itvA (ls : Bool) : LocA (itvA ls):=LocA.bind LocA.num fun low => LocA.tl (by decide) (LocA.itvB ls low) LocA.fail
theorem z6j (l : List Tok) : z11 l = if isT [40] l then itvA true l.tail else if isT [91] l then itvA false l.tail else z1k 170 l:=by
 have key : ∀ (ls : Bool) (l1 : List Tok),(match numR l1 with
  | .error e => .error e
  | .ok (low,l2) =>
   match z0v [44] l2 with
   | .error e => .error e
   | .ok l3 =>
    if isT [111,111] l3 then
     match z0v [41] l3.tail with
     | .error e => .error e
     | .ok l4 => .ok (⟨low,ls,0,false,true⟩,l4)
    else
     match numR l3 with
     | .error e => .error e
     | .ok (high,l4) =>
      let hs:=isT [41] l4
      match (if hs then .ok l4.tail else z0v [93] l4) with
      | .error e => .error e
      | .ok l5 => .ok (⟨low,ls,high,hs,false⟩,l5) : PRes Spn) = Go.Proofs.YtpgdplmndnopbaaGreatDoor.itvA ls l1:=by
  intro ls l1
  unfold Go.Proofs.YtpgdplmndnopbaaGreatDoor.itvA z1y
  cases numR l1 with
  | error e => rfl
  | ok p =>
   obtain ⟨low,l2⟩:=p
   dsimp only
   unfold z0v
   by_cases h : isT [44] l2 = true
   ·rw [if_pos h,if_pos h]
    dsimp only
    unfold Go.Proofs.YtpgdplmndnopbaaGreatDoor.itvB z1y
    by_cases h2 : isT [111,111] l2.tail = true
    ·rw [if_pos h2,if_pos h2]
     dsimp only
     by_cases h3 : isT [41] l2.tail.tail = true
     ·rw [if_pos h3,if_pos h3]
     ·rw [if_neg h3,if_neg h3]; rfl
    ·rw [if_neg h2,if_neg h2]
     cases numR l2.tail with
     | error e => rfl
     | ok p =>
      obtain ⟨high,l4⟩:=p
      dsimp only
      by_cases h3 : isT [41] l4 = true
      ·rw [if_pos h3,if_pos h3,h3]
      ·have h3' : isT [41] l4 = false:=by simpa using h3
       rw [if_neg h3,if_neg h3]
       by_cases h4 : isT [93] l4 = true
       ·rw [if_pos h4,if_pos h4,h3']
       ·rw [if_neg h4,if_neg h4]; rfl
   ·rw [if_neg h,if_neg h]; rfl
 unfold z11
 dsimp only
 by_cases h : isT [40] l = true
 ·rw [if_pos h,if_pos h,h]
  exact key true l.tail
 ·have h' : isT [40] l = false:=by simpa using h
  rw [if_neg h,if_neg h,h']
  unfold z0v
  by_cases h2 : isT [91] l = true
  ·rw [if_pos h2,if_pos h2]
   exact key false l.tail
  ·rw [if_neg h2,if_neg h2]; rfl
theorem LocA.interval : LocA z11:=by
 have e : z11 = fun l => if isT [40] l then Go.Proofs.YtpgdplmndnopbaaGreatDoor.itvA true l.tail else if isT [91] l then Go.Proofs.YtpgdplmndnopbaaGreatDoor.itvA false l.tail else z1k 170 l:=funext z6j
 rw [e]
 exact LocA.tl (by decide) (LocA.itvA true) (LocA.tl (by decide) (LocA.itvA false) LocA.fail)
def z4p (x : X) (l : List Tok) : PRes X:=if isT [95] l then (fun l => z1y (z11 l) fun i r => .ok (.mk 6 [] [x] i,r)) l.tail else z1k 170 l
theorem LocA.timed (x : X) : LocA (z4p x):=LocA.tl (by decide) (LocA.bind LocA.interval fun _ => LocA.pure _) LocA.fail
def atomR (deep : Nat) (l : List Tok) : PRes X:=z1y (z1e 66 deep l) fun f r => .ok (.mk 1 [f] [] noSpan,r)
theorem baseR_eq (tr : Nat → List Tok → PRes X) (deep : Nat) (l : List Tok) : z3o tr deep l =
 if isT [40] l then wthR [41] deep tr l else if isT [60] l then z1y (wthR [62] deep tr l) z4p else atomR deep l:=by
 unfold z3o
 rw [z5j,z5j]
 by_cases h : isT [40] l = true
 ·rw [if_pos h,if_pos h]
 ·rw [if_neg h,if_neg h]
  dsimp only
  by_cases h2 : isT [60] l = true
  ·rw [if_pos h2,if_pos h2]
   unfold z1y
   cases wthR [62] deep tr l with
   | error e => rfl
   | ok p =>
    obtain ⟨x,r1⟩:=p
    dsimp only
    unfold z4p z0v z1y
    by_cases h3 : isT [95] r1 = true
    ·rw [if_pos h3,if_pos h3]
     dsimp only
     cases z11 r1.tail with
     | error e => rfl
     | ok p => rfl
    ·rw [if_neg h3,if_neg h3]; rfl
  ·rw [if_neg h2,if_neg h2]
   dsimp only
   unfold atomR z1y
   cases z1e 66 deep l with
   | error e => rfl
   | ok p => rfl
theorem base_loc {tr : Nat → List Tok → PRes X} {deep : Nat} (hone : deep ≠ 64 → LocA (tr (deep + 1))) : LocA (z3o tr deep):=by
 have e : z3o tr deep = fun l => if isT [40] l then wthR [41] deep tr l else if isT [60] l then z1y (wthR [62] deep tr l) z4p else atomR deep l:=funext (baseR_eq tr deep)
 rw [e]
 intro l hl
 refine LoF.ite (fun h => wth_lo (.inl rfl) (by decide) hone hl h) fun _ => ?_
 refine LoF.ite (f:=fun l => z1y (wthR [62] deep tr l) z4p) (fun h => Lo.bindF (wth_lo (.inr (.inl rfl)) (by decide) hone hl h) LocA.timed) fun _ => ?_
 exact LocA.bind (z4m 66 deep) (fun f => LocA.pure _) l hl
theorem plus_lo : ∀ (k : Nat) (x : X) (l : List Tok),Ends l → l.length ≤ k → Lo (fun l' q => ∀ k',l'.length ≤ k' → Except.ok (z2s k' x l') = q) l (.ok (z2s k x l))
 | 0,x,l,hl,hk => by obtain ⟨t,r,rfl⟩:=hl.cons; simp at hk
 | k + 1,x,l,hl,hk => by
  rw [z2s]
  by_cases h : isT [43] l = true
  ·rw [if_pos h]
   obtain ⟨t,l1,rfl,h1⟩:=z5d (by decide) hl h
   dsimp only [List.tail_cons]
   refine (Lo.step (plus_lo k _ l1 h1 (by simp at hk; omega))).imp ?_
   rintro l' q hh ⟨t',l2,rfl,rfl,h4⟩ k' hk'
   cases k' with
   | zero => simp at hk'
   | succ k' =>
    rw [z2s,if_pos (by rw [← hh.isT]; exact h)]
    exact h4 k' (by simp at hk'; omega)
  ·rw [if_neg h]
   refine .ok x [] l rfl hl fun r' hh k' hk' => ?_
   have:=hh.pos
   cases k' with
   | zero => simp at hk'; subst hk'; simp at this
   | succ k' =>
    rw [List.nil_append,z2s,if_neg (by rw [← hh.isT]; exact h)]
theorem more_loc {tr : Nat → List Tok → PRes X} {deep : Nat} (hone : deep ≠ 64 → LocA (tr (deep + 1))) : LocA (z3b tr deep):=by
 have e : z3b tr deep = fun l => z1y (z3o tr deep l) fun x r => .ok (z2s r.length x r):=by
  funext l
  unfold z3b z1y
  cases z3o tr deep l with
  | error e => rfl
  | ok p => rfl
 rw [e]
 refine LocA.bind (base_loc hone) fun x l hl => ?_
 refine (plus_lo l.length x l hl (Nat.le_refl _)).imp ?_
 rintro l' q _ h
 exact h _ (Nat.le_refl _)
theorem tre_loc : ∀ (d deep : Nat),LocA (treR d deep)
 | 0,deep => LocA.fail
 | d + 1,deep => by
  have e : treR (d + 1) deep = z0g [124] (z0g [38] (z0g [59] (z3b (treR d) deep) (z12 4)) (z12 3)) (z12 2):=by
   funext l
   rw [treR]
  rw [e]
  exact LocA.chn (by decide) (LocA.chn (by decide) (LocA.chn (by decide) (more_loc fun _ => tre_loc d (deep + 1))))
end Go.Proofs.YtpgdplmndnopbaaGreatDoor
namespace Go.Proofs.YtpgdplmndnopbaaGreatDoor
open Go.RowKit Go.Shelf
theorem z2y (b : UInt8) (w : World) : Calls Tryz.prog 100 #[.int .u8 b.toNat] w fun e w' => e = .returned (.bool (z3g b)) ∧ w' = w:=by
 go_enter Tryz.func100,Tryz.ntmps100
 go_wp2
 all_goals go_ret
 all_goals (refine z1o ?_; rw [Bool.eq_iff_iff]; simp [z3g]; try omega)
theorem z3z (b : UInt8) (w : World) : Calls Tryz.prog 101 #[.int .u8 b.toNat] w fun e w' => e = .returned (.bool (z2d b)) ∧ w' = w:=by
 go_enter Tryz.func101,Tryz.ntmps101
 go_wp2
 all_goals go_ret
 all_goals (refine z1o ?_; rw [Bool.eq_iff_iff]; simp [z2d]; try omega)
theorem word_any (s : ByteArray) (hs : s.size ≤ 4611686018427387904) (w : World) : Calls Tryz.prog 142 #[.string s] w fun e w' => e = .returned (.bool (z41 s.data.toList)) ∧ w' = w:=by
 have HS:=z1j s
 by_cases h1 : 1 ≤ s.size
 ·by_cases h8 : s.size ≤ 8
  ·have hg:=z2k s 0 (by omega)
   generalize hc0 : s[0]'(by omega) = c0 at hg
   have HV : Hid (z41 s.data.toList = (z3g c0 && (s.data.toList.drop 1).all z0h)):=by
    rw [Hid,z41,HS]
    have : s.data.toList.head? = some c0:=by rw [hg,List.head?_eq_getElem?,List.getElem?_eq_getElem]
    simp [h1,h8,this]
   clear hg
   cases hl : z3g c0 with
   | false =>
    have HL:=Lib.hid hl
    clear hl
    go_enter Tryz.func142,Tryz.ntmps142
    go_wp2_with (go_at_call 100; refine (z2y c0 _).mono ?_; rintro e w' ⟨rfl,rfl⟩; rw [HL.out])
    go_ret
    exact z1o (by rw [HV.out,HL.out]; rfl)
   | true =>
    have HL:=Lib.hid hl
    clear hl
    go_enter Tryz.func142,Tryz.ntmps142
    go_wp2_with (go_at_call 100; refine (z2y c0 _).mono ?_; rintro e w' ⟨rfl,rfl⟩; rw [HL.out])
    go_loop [3] (fun i => ∃ k : Nat,1 ≤ k ∧ k ≤ s.size ∧ i = .int .i64 k ∧ Hid ((s.data.toList.drop 1).all z0h = (s.data.toList.drop k).all z0h)) (fun i => s.size - (intOf i).toNat)
    case atStart => exact ⟨1,by omega,by omega,rfl,rfl⟩
    case round =>
     obtain ⟨k,hk1,hk,rfl,HA⟩:=hrel
     by_cases hlt : k < s.size
     ·have hg:=z2k s k hlt
      generalize hck : s[k]'hlt = c at hg
      have HD : Hid ((s.data.toList.drop k).all z0h = (z0h c && (s.data.toList.drop (k + 1)).all z0h)):=by
       rw [Hid,List.drop_eq_getElem_cons (by rw [HS]; exact hlt),← hg]; rfl
      clear hg
      go_wp2_with (first
       | (go_at_call 100; refine (z2y c _).mono ?_; rintro e w' ⟨rfl,rfl⟩)
       | (go_at_call 101; refine (z3z c _).mono ?_; rintro e w' ⟨rfl,rfl⟩))
      ·have hr : z0h c = true:=by simp_all [z0h]
       exact ⟨⟨k + 1,by omega,by omega,by push_cast; rfl,by rw [Hid,HA.out,HD.out,hr]; rfl⟩,by simp [intOf]; omega⟩
      ·have hr : z0h c = false:=by simp_all [z0h]
       go_ret
       exact z1o (by rw [HV.out,HL.out,HA.out,HD.out,hr]; rfl)
      ·have hr : z0h c = true:=by simp_all [z0h]
       exact ⟨⟨k + 1,by omega,by omega,by push_cast; rfl,by rw [Hid,HA.out,HD.out,hr]; rfl⟩,by simp [intOf]; omega⟩
     ·have HE : Hid ((s.data.toList.drop k).all z0h = true):=by rw [Hid,List.drop_of_length_le (by omega)]; rfl
      go_wp2
      go_ret
      exact z1o (by rw [HV.out,HL.out,HA.out,HE.out]; rfl)
  ·go_enter Tryz.func142,Tryz.ntmps142
   go_wp2
   go_ret
   exact z1o (by simp [z41,HS,h8])
 ·go_enter Tryz.func142,Tryz.ntmps142
  go_wp2
  go_ret
  exact z1o (by simp [z41,HS,h1])
theorem z4j (s : ByteArray) (hs : s.size ≤ 4611686018427387904) (w : World) : Calls Tryz.prog 95 #[.string s] w fun e w' => e = .returned (.bool (z3f s.data.toList)) ∧ w' = w:=by
 go_enter Tryz.func95,Tryz.ntmps95
 go_wp2_with (go_at_call 142; refine (word_any _ hs _).mono ?_; rintro e w' ⟨rfl,rfl⟩)
 all_goals go_ret
 all_goals (refine z1o ?_; rw [← ByteArray.toList_eq] at *; simp_all [z3f,bne])
end Go.Proofs.YtpgdplmndnopbaaGreatDoor
