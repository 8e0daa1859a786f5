/- What is parsed of tokens has no more nodes than there are tokens. No program. -/
import Derived.Test.YtpgdplmndnopbaaGreatDoorZ06
import Derived.Test.YtpgdplmndnopbaaGreatDoorZ12
import Derived.Test.YtpgdplmndnopbaaGreatDoorZ03
import Derived.Test.YtpgdplmndnopbaaGreatDoorZ02
set_option maxRecDepth 100000
set_option maxHeartbeats 16000000
namespace Go.Proofs.YtpgdplmndnopbaaGreatDoor
open Go.RowKit
def NdF (x : F) (c : Nat) : Prop:=∀ (n : Nat) (t : FT n),toF n t = x → nF n t ≤ c
def NdX (x : X) (c : Nat) : Prop:=∀ (m n : Nat) (t : XT m n),toX n t = x → nX n t ≤ c
theorem ndF_of {k : Int} {s : ByteArray} {of : List F} {c : Nat} (h : ∀ (n : Nat) (l : List (FT n)),l.map (toF n) = of → 1 + (l.map (nF n)).sum ≤ c) : NdF (.mk k s of) c:=by
 intro n t e
 cases n with
 | zero => exact nomatch t
 | succ n =>
  obtain ⟨k',s',of'⟩:=t
  have e' : F.mk k' s' (of'.map (toF n)) = F.mk k s of:=e
  injection e' with _ _ e3
  exact h n of' e3
theorem ndF_none (k : Int) (s : ByteArray) : NdF (.mk k s []) 1:=ndF_of fun n l h => by
 cases l with
 | nil => simp
 | cons x l => simp at h
theorem ndF_one {k : Int} {s : ByteArray} {a : F} {c : Nat} (ha : NdF a c) : NdF (.mk k s [a]) (c + 1):=ndF_of fun n l h => by
 match l,h with
 | [x],h =>
  simp only [List.map_cons,List.map_nil,List.cons.injEq,and_true] at h
  have:=ha n x h
  simp; omega
theorem ndF_two {k : Int} {s : ByteArray} {a b : F} {c d : Nat} (ha : NdF a c) (hb : NdF b d) : NdF (.mk k s [a,b]) (c + d + 1):=ndF_of fun n l h => by
 match l,h with
 | [x,y],h =>
  simp only [List.map_cons,List.map_nil,List.cons.injEq,and_true] at h
  have:=ha n x h.1
  have:=hb n y h.2
  simp; omega
theorem ndX_of {k : Int} {is : List F} {of : List X} {i : Spn} {c : Nat} (h : ∀ (m n : Nat) (l : List (FT m)) (r : List (XT m n)),l.map (toF m) = is → r.map (toX n) = of → (if k = 1 then (l.map (nF m)).sum else 1) + (r.map (nX n)).sum ≤ c) : NdX (.mk k is of i) c:=by
 intro m n t e
 cases n with
 | zero => exact nomatch t
 | succ n =>
  obtain ⟨k',is',of',i'⟩:=t
  have e' : X.mk k' (is'.map (toF m)) (of'.map (toX n)) i' = X.mk k is of i:=e
  injection e' with e1 e2 e3 _
  subst e1
  exact h m n is' of' e2 e3
theorem ndX_atom {f : F} {i : Spn} {c : Nat} (hf : NdF f c) : NdX (.mk 1 [f] [] i) c:=ndX_of fun m n l r h1 h2 => by
 match l,r,h1,h2 with
 | [x],[],h1,_ =>
  simp only [List.map_cons,List.map_nil,List.cons.injEq,and_true] at h1
  have:=hf m x h1
  simp; omega
theorem ndX_one {k : Int} {x : X} {i : Spn} {c : Nat} (hx : NdX x c) : NdX (.mk k [] [x] i) (c + 1):=ndX_of fun m n l r h1 h2 => by
 match l,r,h1,h2 with
 | [],[y],_,h2 =>
  simp only [List.map_cons,List.map_nil,List.cons.injEq,and_true] at h2
  have:=hx m n y h2
  simp; split <;> omega
theorem ndX_two {k : Int} {x y : X} {c d : Nat} (hx : NdX x c) (hy : NdX y d) : NdX (z12 k x y) (c + d + 1):=ndX_of fun m n l r h1 h2 => by
 match l,r,h1,h2 with
 | [],[a,b],_,h2 =>
  simp only [List.map_cons,List.map_nil,List.cons.injEq,and_true] at h2
  have:=hx m n a h2.1
  have:=hy m n b h2.2
  simp; split <;> omega
def Nd {α : Type} (P : α → Nat → Prop) (N : Nat) (a : PRes α) : Prop:=∀ x r,a = .ok (x,r) → ∃ c,P x c ∧ c + r.length ≤ N
theorem Nd.bad {α : Type} {P : α → Nat → Prop} {N : Nat} {e : Int × Int} : Nd P N (.error e : PRes α):=fun _ _ h => by cases h
theorem Nd.ok {α : Type} {P : α → Nat → Prop} {N : Nat} {x : α} {r : List Tok} {c : Nat} (hp : P x c) (h : c + r.length ≤ N) : Nd P N (.ok (x,r)):=fun y s e => by
 injection e with e
 obtain ⟨rfl,rfl⟩:=Prod.mk.inj e
 exact ⟨c,hp,h⟩
theorem Nd.bind {α β : Type} {P : α → Nat → Prop} {Q : β → Nat → Prop} {N M : Nat} {a : PRes α} {f : α → List Tok → PRes β} (h : Nd P N a) (hf : ∀ x c r,P x c → c + r.length ≤ N → Nd Q M (f x r)) : Nd Q M (z1y a f):=by
 cases a with
 | error e => exact Nd.bad
 | ok p =>
  obtain ⟨x,r⟩:=p
  obtain ⟨c,h1,h2⟩:=h x r rfl
  exact hf x c r h1 h2
theorem chainR_nd {α : Type} {P : α → Nat → Prop} {sign : List UInt8} {one : List Tok → PRes α} {join : α → α → α} (hj : ∀ a b c d,P a c → P b d → P (join a b) (c + d + 1)) (ho : ∀ l,Nd P l.length (one l)) :
 ∀ (k : Nat) (x : α) (l : List Tok) (c N : Nat),P x c → c + l.length ≤ N → Nd P N (z0n sign one join k x l)
 | 0,x,l,c,N,hx,hc => by rw [z0n]; exact Nd.ok hx hc
 | k + 1,x,l,c,N,hx,hc => by
  rw [z0n]
  split
  ·rename_i hs
   have hl:=z1x hs
   cases e : one l.tail with
   | error z => exact Nd.bad
   | ok p =>
    obtain ⟨y,r⟩:=p
    obtain ⟨d,h1,h2⟩:=ho _ _ _ e
    exact chainR_nd hj ho k (join x y) r (c + d + 1) N (hj _ _ _ _ hx h1) (by omega)
  ·exact Nd.ok hx hc
theorem z4g {α : Type} {P : α → Nat → Prop} {sign : List UInt8} {one : List Tok → PRes α} {join : α → α → α} (hj : ∀ a b c d,P a c → P b d → P (join a b) (c + d + 1)) (ho : ∀ l,Nd P l.length (one l)) (l : List Tok) : Nd P l.length (z0g sign one join l):=by
 unfold z0g
 cases e : one l with
 | error z => exact Nd.bad
 | ok p =>
  obtain ⟨x,r⟩:=p
  obtain ⟨c,h1,h2⟩:=ho _ _ _ e
  exact chainR_nd hj ho _ _ _ c _ h1 h2
theorem wth_nd {α : Type} {P : α → Nat → Prop} {o c : List UInt8} {deep : Nat} {one : Nat → List Tok → PRes α} (ho : ∀ d l,Nd P l.length (one d l)) (l : List Tok) (h : isT o l = true) : Nd P l.length (wthR c deep one l):=by
 unfold wthR
 split
 ·exact Nd.bad
 ·have hl:=z1x h
  refine Nd.bind (ho _ _) fun x k r hx hk => ?_
  split
  ·rename_i hs
   have:=z1x hs
   exact Nd.ok hx (by omega)
  ·exact Nd.bad
theorem one_nd {fm : Nat → List Tok → PRes F} (hf : ∀ d l,Nd NdF l.length (fm d l)) (deep : Nat) : ∀ (k : Nat) (l : List Tok),Nd NdF l.length (oneR fm deep k l)
 | 0,l => Nd.bad
 | k + 1,l => by
  rw [z5l]
  split
  ·rename_i h
   exact wth_nd hf l h
  ·split
   ·rename_i h
    have hl:=z1x h
    refine Nd.bind (one_nd hf deep k _) fun x c r hx hc => ?_
    exact Nd.ok (ndF_one hx) (by omega)
   ·unfold restR
    split
    ·rename_i h
     have hl:=z1x h
     exact Nd.ok (ndF_none _ _) (by omega)
    ·split
     ·rename_i h
      have hl:=z1x h
      exact Nd.ok (ndF_none _ _) (by omega)
     ·unfold wordR
      split
      ·exact Nd.bad
      ·split
       ·exact Nd.ok (ndF_none _ _) (by simp; omega)
       ·exact Nd.bad
theorem form_nd : ∀ (d deep : Nat) (l : List Tok),Nd NdF l.length (z1e d deep l)
 | 0,deep,l => Nd.bad
 | d + 1,deep,l => by
  rw [z1e]
  exact z4g (fun a b c d ha hb => ndF_two ha hb) (fun l => z4g (fun a b c d ha hb => ndF_two ha hb) (fun l => one_nd (form_nd d) deep _ l) l) l
theorem plus_nd : ∀ (k : Nat) (x : X) (l : List Tok) (c N : Nat),NdX x c → c + l.length ≤ N → ∃ c',NdX (z2s k x l).1 c' ∧ c' + (z2s k x l).2.length ≤ N
 | 0,x,l,c,N,hx,hc => ⟨c,hx,hc⟩
 | k + 1,x,l,c,N,hx,hc => by
  rw [z2s]
  split
  ·rename_i h
   have hl:=z1x h
   exact plus_nd k _ _ (c + 1) N (ndX_one hx) (by omega)
  ·exact ⟨c,hx,hc⟩
theorem base_nd {tr : Nat → List Tok → PRes X} (hf : ∀ d l,Nd NdX l.length (tr d l)) (deep : Nat) (l : List Tok) : Nd NdX l.length (z3o tr deep l):=by
 rw [baseR_eq]
 split
 ·rename_i h
  exact wth_nd hf l h
 ·split
  ·rename_i h
   have hl:=z1x h
   refine Nd.bind (P:=NdX) (N:=l.length - 1) ?_ fun x c r hx hc => ?_
   ·unfold wthR
    split
    ·exact Nd.bad
    ·refine Nd.bind (hf _ _) fun x k r hx hk => ?_
     split
     ·rename_i hs
      have:=z1x hs
      exact Nd.ok hx (by omega)
     ·exact Nd.bad
   ·unfold z4p
    split
    ·rename_i h2
     have hl2:=z1x h2
     dsimp only
     unfold z1y
     cases e : z11 r.tail with
     | error e => exact Nd.bad
     | ok p =>
      obtain ⟨i,r'⟩:=p
      have:=z6i e
      exact Nd.ok (ndX_one hx) (by omega)
    ·exact Nd.bad
  ·unfold atomR
   refine Nd.bind (form_nd 66 deep l) fun f c r hf hc => Nd.ok (ndX_atom hf) hc
theorem moreR_eq (tr : Nat → List Tok → PRes X) (deep : Nat) (l : List Tok) : z3b tr deep l = z1y (z3o tr deep l) fun x r => .ok (z2s r.length x r):=by
 unfold z3b z1y
 cases z3o tr deep l with
 | error e => rfl
 | ok p => rfl
theorem tre_nd : ∀ (d deep : Nat) (l : List Tok),Nd NdX l.length (treR d deep l)
 | 0,deep,l => Nd.bad
 | d + 1,deep,l => by
  rw [treR]
  refine z4g (fun a b c d ha hb => ndX_two ha hb) (fun l => z4g (fun a b c d ha hb => ndX_two ha hb) (fun l => z4g (fun a b c d ha hb => ndX_two ha hb) (fun l => ?_) l) l) l
  rw [moreR_eq]
  refine Nd.bind (base_nd (tre_nd d) deep l) fun x c r hx hc => ?_
  obtain ⟨c',h1,h2⟩:=plus_nd r.length x r c _ hx hc
  exact Nd.ok h1 h2
theorem more_ne (d deep : Nat) (l : List Tok) (x : X) (r : List Tok) (h : z3b (treR d) deep l = .ok (x,r)) : r.length ≤ l.length:=by
 rw [moreR_eq] at h
 obtain ⟨c,_,h2⟩:=(Nd.bind (base_nd (tre_nd d) deep l) fun x c r hx hc => by
  obtain ⟨c',h1,h2⟩:=plus_nd r.length x r c _ hx hc
  exact Nd.ok (P:=NdX) h1 h2 : Nd NdX l.length _) x r h
 omega
end Go.Proofs.YtpgdplmndnopbaaGreatDoor
namespace Go.Proofs.YtpgdplmndnopbaaGreatDoor
open Go.RowKit
def RTreC (pb tb : Nat) (L : List Tok) (stop bad : Int) (d : Nat) : Prop:=∀ (deep nx : Nat) (w : World),deep ≤ 64 → 65 ≤ deep + d → RP pb tb w L stop nx deep 0 bad → Calls Tryz.prog 48 #[.pointer (some ⟨pb,0,none⟩)] w (OutRX pb tb L stop deep bad w (treR d deep (z01 L stop nx)))
theorem ErX.imp {pb tb : Nat} {L : List Tok} {stop : Int} {P P' : Nat → Int → Prop} {e b : Int} {w w' : World} {en : Ending} (h : ErX pb tb L stop P e b w en w') (hp : ∀ n d,P n d → P' n d) : ErX pb tb L stop P' e b w en w':=by
 obtain ⟨k,a,n,c,b1,m,d1,lo,ls,hi,hs,op,nx,d,h1,h2,h3⟩:=h
 exact ⟨k,a,n,c,b1,m,d1,lo,ls,hi,hs,op,nx,d,h1,hp _ _ h2,h3⟩
theorem base185_any (pb tb : Nat) (L : List Tok) (stop bad : Int) (d : Nat) (htre : RTreC pb tb L stop bad d) (deep nx : Nat) (w : World) (hd : deep ≤ 64) (hdd : 64 ≤ deep + d) (h : RP pb tb w L stop nx deep 0 bad) :
 Calls Tryz.prog 185 #[.pointer (some ⟨pb,0,none⟩)] w (OutRX pb tb L stop deep bad w (z3o (treR d) deep (z01 L stop nx))):=by
 obtain ⟨RES,hR⟩ : ∃ RES,RES = z3o (treR d) deep (z01 L stop nx):=⟨_,rfl⟩
 rw [← hR]
 rw [baseR_eq] at hR
 cases q1 : isT [40] (z01 L stop nx) with
 | true =>
  rw [if_pos q1] at hR
  have hlt:=z0z (s:=[40]) (by decide) q1
  unfold wthR at hR
  by_cases h64 : deep = 64
  ·subst h64
   rw [if_pos rfl] at hR
   rw [hR]
   refine (base185_deepA pb tb L stop bad nx w h q1).mono fun en w' h => ?_
   exact ⟨show (171 : Int) ≠ 0 by decide,h.imp fun n d hd => by omega⟩
  ·rw [if_neg h64,z0p hlt] at hR
   exact base185_in pb tb L stop deep bad nx w h (by omega) RES _ hR q1 (fun w' hb hp => htre (deep + 1) (nx + 1) w' (by omega) (by omega) hp)
 | false =>
  rw [if_neg (by rw [q1]; decide)] at hR
  cases q2 : isT [60] (z01 L stop nx) with
  | true =>
   rw [if_pos q2] at hR
   have hlt:=z0z (s:=[60]) (by decide) q2
   unfold wthR at hR
   by_cases h64 : deep = 64
   ·subst h64
    rw [if_pos rfl] at hR
    rw [hR]
    refine (base185_deepB pb tb L stop bad nx w h q2).mono fun en w' h => ?_
    exact ⟨show (171 : Int) ≠ 0 by decide,h.imp fun n d hd => by omega⟩
   ·rw [if_neg h64,z0p hlt] at hR
    exact base185_tim pb tb L stop deep bad nx w h (by omega) RES _ hR q2 (fun w' hb hp => htre (deep + 1) (nx + 1) w' (by omega) (by omega) hp)
  | false =>
   rw [if_neg (by rw [q2]; decide)] at hR
   exact base185_atom pb tb L stop deep bad nx w h hd RES hR q1 q2
theorem tre48_any (pb tb : Nat) (L : List Tok) (stop bad : Int) : ∀ d : Nat,RTreC pb tb L stop bad d:=by
 intro d
 induction d with
 | zero => intro deep nx w hd hdd; omega
 | succ d ih =>
  intro deep nx w hd hdd h
  have hloc : deep ≠ 64 → LocA (treR d (deep + 1)):=fun _ => tre_loc d (deep + 1)
  have l1 : LocA (z3b (treR d) deep):=more_loc hloc
  have l2 : LocA (z0g [59] (z3b (treR d) deep) (z12 4)):=LocA.chn (by decide) l1
  have l3 : LocA (z0g [38] (z0g [59] (z3b (treR d) deep) (z12 4)) (z12 3)):=LocA.chn (by decide) l2
  have s1 : ∀ l,Sh l (z3b (treR d) deep l):=fun l x r h => more_ne d deep l x r h
  have s2 : ∀ l,Sh l (z0g [59] (z3b (treR d) deep) (z12 4) l):=fun l => z2i s1 l
  have s3 : ∀ l,Sh l (z0g [38] (z0g [59] (z3b (treR d) deep) (z12 4)) (z12 3) l):=fun l => z2i s2 l
  rw [treR]
  refine tre48_chain pb tb L stop deep bad _ (fun l x r e => s3 l x r e) (fun l c hl hq => LocA.ne l3 l c hl hq) nx w h (fun w1 nx1 hb1 hp1 => ?_)
  refine both102_chain pb tb L stop deep bad _ (fun l x r e => s2 l x r e) (fun l c hl hq => LocA.ne l2 l c hl hq) nx1 w1 hp1 (fun w2 nx2 hb2 hp2 => ?_)
  refine cat146_chain pb tb L stop deep bad _ (fun l x r e => s1 l x r e) (fun l c hl hq => LocA.ne l1 l c hl hq) nx2 w2 hp2 (fun w3 nx3 hb3 hp3 => ?_)
  rw [moreR_eq]
  refine more172_chn pb tb L stop deep bad (z3o (treR d) deep) (fun l c hl hq => LocA.ne (base_loc hloc) l c hl hq) nx3 w3 hp3 (fun w4 nx4 hb4 hp4 => ?_)
  exact base185_any pb tb L stop bad d ih deep nx4 w4 hd (by omega) hp4
end Go.Proofs.YtpgdplmndnopbaaGreatDoor
namespace Go.Proofs.YtpgdplmndnopbaaGreatDoor
open Go.RowKit Go.Shelf
theorem z6v (b : UInt8) (w : World) : Calls Tryz.prog 97 #[.int .u8 b.toNat] w fun e w' => e = .returned (.bool (z13 b)) ∧ w' = w:=by
 go_enter Tryz.func97,Tryz.ntmps97
 go_wp2
 all_goals go_ret
 all_goals (refine z1o ?_; rw [Bool.eq_iff_iff]; simp [z13]; try omega)
theorem sign_any (s : ByteArray) (w : World) : Calls Tryz.prog 144 #[.string s] w fun e w' => e = .returned (.bool (z4s s.data.toList)) ∧ w' = w:=by
 go_enter Tryz.func144,Tryz.ntmps144
 go_wp2
 all_goals go_ret
 all_goals (refine z1o ?_; rw [← ByteArray.toList_eq]; simp_all [z4s])
theorem row46_any (s : ByteArray) (at_ : Nat) (hs : s.size ≤ 4611686018427387904) (ha : at_ ≤ s.size) (w : World) : Calls Tryz.prog 143 #[.string s,.int .i64 at_] w fun e w' => e = .returned (.int .i64 (rowN (s.data.toList.drop at_))) ∧ w' = w:=by
 have HS:=z1j s
 go_enter Tryz.func143,Tryz.ntmps143
 go_wp2
 go_loop [5] (fun i => ∃ k : Nat,at_ + k ≤ s.size ∧ i = .int .i64 k ∧ Hid (rowN (s.data.toList.drop at_) = k + rowN (s.data.toList.drop (at_ + k)))) (fun i => s.size - (intOf i).toNat)
 case atStart => exact ⟨0,by omega,rfl,by simp [Hid]⟩
 case round =>
  obtain ⟨k,hk,rfl,HA⟩:=hrel
  by_cases hlt : at_ + k < s.size
  ·have hg:=z2k s (at_ + k) hlt
   generalize hck : s[at_ + k]'hlt = c at hg
   have HD : Hid (rowN (s.data.toList.drop (at_ + k)) = if z0h c then 1 + rowN (s.data.toList.drop (at_ + (k + 1))) else 0):=by
    rw [Hid,List.drop_eq_getElem_cons (by rw [HS]; exact hlt),← hg]
    simp only [rowN,z1f,List.takeWhile_cons]
    rw [show at_ + (k + 1) = at_ + k + 1 by omega]
    split
    ·rw [List.length_cons]; omega
    ·rfl
   clear hg
   have hii : ∀ W,(Instr.index 9 (.string s) (.int .i64 ((at_ : Int) + k))).run Tryz.prog W = .ok (.int .u8 c.toNat) W:=by
    intro W
    rw [run_index_string W 9 s .i64 _ Tryz.underlying9,dif_pos (by omega)]
    have : ((at_ : Int) + k).toNat = at_ + k:=by omega
    simp only [this,hck]
   go_wp2_with (first
    | (go_at_call 100; refine (z2y c _).mono ?_; rintro e w' ⟨rfl,rfl⟩)
    | (go_at_call 101; refine (z3z c _).mono ?_; rintro e w' ⟨rfl,rfl⟩))
   ·have hr : z0h c = true:=by simp_all [z0h]
    rw [if_pos hr] at HD
    exact ⟨⟨k + 1,by omega,by push_cast; rfl,by rw [Hid,HA.out,HD.out]; omega⟩,by simp [intOf]; omega⟩
   ·have hr : z0h c = true:=by simp_all [z0h]
    rw [if_pos hr] at HD
    exact ⟨⟨k + 1,by omega,by push_cast; rfl,by rw [Hid,HA.out,HD.out]; omega⟩,by simp [intOf]; omega⟩
   ·have hr : z0h c = false:=by simp_all [z0h]
    go_ret
    exact z4u (by rw [HA.out,HD.out,hr]; rfl)
  ·have HE : Hid (rowN (s.data.toList.drop (at_ + k)) = 0):=by rw [Hid,List.drop_of_length_le (by omega)]; rfl
   go_wp2
   go_ret
   exact z4u (by rw [HA.out,HE.out]; rfl)
theorem number_any (s : ByteArray) (hs : s.size ≤ 4611686018427387904) (w : World) : Calls Tryz.prog 145 #[.string s] w fun e w' => e = .returned (.bool (numB s.data.toList)) ∧ w' = w:=by
 have HS:=z1j s
 by_cases h1 : 1 ≤ s.size
 ·by_cases h8 : s.size ≤ 18
  ·have hg:=z2k s 0 (by omega)
   generalize hc0 : s[0]'(by omega) = c0 at hg
   have hhd : s.data.toList.head? = some c0:=by rw [hg,List.head?_eq_getElem?,List.getElem?_eq_getElem]
   by_cases hz : 1 < s.size ∧ c0.toNat = 48
   ·have HV : Hid (numB s.data.toList = false):=by
     have h48 : c0 = 48:=UInt8.toNat.inj hz.2
     have : ¬ s.size ≤ 1:=by omega
     simp [Hid,numB,z3e,HS,hhd,h48,this]
    obtain ⟨hz1,hz2⟩:=hz
    clear hg hhd
    go_enter Tryz.func145,Tryz.ntmps145
    go_wp2
    go_ret
    exact z1o HV.out.symm
   ·have HV : Hid (numB s.data.toList = (s.data.toList.all z2d && decide (z1l 0 s.data.toList < 288230376151711744))):=by
     have : (decide (s.size ≤ 1) || (some c0 != some 48)) = true:=by
      by_cases h : s.size ≤ 1
      ·simp [h]
      ·have h48 : c0 ≠ 48:=fun h48 => hz ⟨by omega,by rw [h48]; rfl⟩
       simp [h48]
     simp only [Hid,numB,z3e,HS,hhd,this]
     simp [h1,h8]
    have hz' : decide (1 < (s.size : Int)) = false ∨ (decide (1 < (s.size : Int)) = true ∧ ((c0.toNat : Int) == 48) = false):=by simp; omega
    clear hg hhd hz
    rcases hz' with hz' | ⟨hz',hz2⟩
    all_goals
     go_enter Tryz.func145,Tryz.ntmps145
     go_wp2
     go_loop [3,4] (fun n i => ∃ (k : Nat) (a : Int),k ≤ s.size ∧ i = .int .i64 k ∧ n = .int .i64 a ∧ Hid (a = (z1l 0 (s.data.toList.take k) : Nat) ∧ (s.data.toList.take k).all z2d = true)) (fun _ i => s.size - (intOf i).toNat)
     case atStart => exact ⟨0,0,by omega,rfl,rfl,rfl,rfl⟩
     case round =>
      obtain ⟨k,a,hk,rfl,rfl,HA⟩:=hrel
      by_cases hlt : k < s.size
      ·have ha1 : 0 ≤ a:=by rw [HA.out.1]; omega
       have ha2 : a < 100000000000000000:=by rw [HA.out.1]; have:=digVal_take_lt _ k (by omega) HA.out.2; omega
       have hg:=z2k s k hlt
       generalize hck : s[k]'hlt = c at hg
       have HT : Hid (s.data.toList.take (k + 1) = s.data.toList.take k ++ [c]):=by
        rw [Hid,List.take_succ_eq_append_getElem (by rw [HS]; exact hlt),← hg]
       have HC : Hid (s.data.toList.all z2d = true → z2d c = true):=fun h => by
        rw [List.all_eq_true] at h; exact h c (by rw [hg]; exact List.getElem_mem _)
       have hc256 : c.toNat < 256:=c.toNat_lt
       clear hg
       cases hd : z2d c with
       | false =>
        have HD:=Lib.hid hd
        clear hd
        go_wp2_with (go_at_call 101; refine (z3z c _).mono ?_; rintro e w' ⟨rfl,rfl⟩; rw [HD.out])
        go_ret
        refine z1o ?_
        rw [HV.out]
        cases hx : s.data.toList.all z2d with
        | false => rfl
        | true => exact absurd (HC.out hx) (by rw [HD.out]; decide)
       | true =>
        have HD:=Lib.hid hd
        have hd2:=hd
        simp only [z2d,Bool.and_eq_true,decide_eq_true_eq] at hd2
        obtain ⟨hd2,hd3⟩:=hd2
        clear hd
        go_wp2_with (go_at_call 101; refine (z3z c _).mono ?_; rintro e w' ⟨rfl,rfl⟩; rw [HD.out])
        refine ⟨⟨k + 1,10 * a + (c.toNat : Int) - 48,by omega,by push_cast; rfl,rfl,?_,?_⟩,by simp [intOf]; omega⟩
        ·rw [HT.out,digVal_snoc,HA.out.1]; omega
        ·rw [HT.out]; simp only [List.all_append,HA.out.2,List.all_cons,HD.out,List.all_nil,Bool.and_self]
      ·have HE : Hid (s.data.toList.take k = s.data.toList):=by rw [Hid,List.take_of_length_le (by omega)]
       go_wp2
       go_ret
       refine z1o ?_
       have h:=HA.out
       rw [HE.out] at h
       rw [HV.out,h.1,h.2,Bool.eq_iff_iff]
       simp
       omega
  ·go_enter Tryz.func145,Tryz.ntmps145
   go_wp2
   go_ret
   exact z1o (by simp [numB,z3e,HS,h8])
 ·go_enter Tryz.func145,Tryz.ntmps145
  go_wp2
  go_ret
  exact z1o (by simp [numB,HS,h1])
theorem kind35_any (s : ByteArray) (hs : s.size ≤ 4611686018427387904) (w : World) : Calls Tryz.prog 99 #[.string s] w fun e w' => e = .returned (.int .u8 (kindB s.data.toList)) ∧ w' = w:=by
 go_enter Tryz.func99,Tryz.ntmps99
 go_wp2_with (first
  | (go_at_call 142; refine (word_any _ hs _).mono ?_; rintro e w' ⟨rfl,rfl⟩)
  | (go_at_call 145; refine (number_any _ hs _).mono ?_; rintro e w' ⟨rfl,rfl⟩)
  | (go_at_call 144; refine (sign_any _ _).mono ?_; rintro e w' ⟨rfl,rfl⟩))
 all_goals go_ret
 all_goals (refine z4u ?_; simp_all [kindB])
theorem long_any (s : ByteArray) (at_ : Nat) (hs : s.size ≤ 4611686018427387904) (ha : at_ ≤ s.size) (w : World) : Calls Tryz.prog 98 #[.string s,.int .i64 at_] w fun e w' => e = .returned (.int .i64 (z3q (s.data.toList.drop at_))) ∧ w' = w:=by
 have HS:=z1j s
 have HR:=row46_any s at_ hs ha
 obtain ⟨n,hn⟩ : ∃ n,rowN (s.data.toList.drop at_) = n:=⟨_,rfl⟩
 have hn2 : n ≤ s.size:=by
  have:=rowOf_len (s.data.toList.drop at_)
  rw [List.length_drop,HS] at this
  rw [← hn,rowN]; omega
 rw [hn] at HR
 by_cases h0 : n = 0
 ·subst h0
  by_cases h2 : at_ + 2 ≤ s.size
  ·have HX : Hid ((s.extract at_ (at_ + 2)).data.toList = (s.data.toList.drop at_).take 2):=by rw [Hid,Lib.extract_data]; congr 1; omega
   have hsl : ∀ W,(Instr.slice 9 (.string s) (some (.int .i64 (at_ : Int))) (some (.int .i64 ((at_ : Int) + 2))) none).run Tryz.prog W = .ok (.string (s.extract at_ (at_ + 2))) W:=fun W => by
    rw [run_slice_string W 9 s .i64 .i64 _ _ Tryz.underlying9 (by omega) (by omega) (by omega)]
    rfl
   have HV : Hid (z3q (s.data.toList.drop at_) = if z4s ((s.data.toList.drop at_).take 2) = true then 2 else 1):=by
    have : 2 ≤ s.size - at_:=by omega
    simp [Hid,z3q,hn,this]
   have HN:=Lib.hid hn
   clear hn
   generalize s.extract at_ (at_ + 2) = x at hsl HX
   go_enter Tryz.func98,Tryz.ntmps98
   go_wp2_with (first
    | (go_at_call 143; refine (HR _).mono ?_; rintro e w' ⟨rfl,rfl⟩)
    | (go_at_call 144; refine (sign_any _ _).mono ?_; rintro e w' ⟨rfl,rfl⟩; rw [HX.out]))
   all_goals go_ret
   all_goals (refine z4u ?_; rw [HV.out]; simp_all <;> try omega)
  ·have HV : Hid (z3q (s.data.toList.drop at_) = 1):=by
    have : ¬ 2 ≤ (s.data.toList.drop at_).length:=by rw [List.length_drop,HS]; omega
    rw [Hid,z3q,hn,if_neg (fun h => this h.2.1)]
    rfl
   have HN:=Lib.hid hn
   clear hn
   go_enter Tryz.func98,Tryz.ntmps98
   go_wp2_with (go_at_call 143; refine (HR _).mono ?_; rintro e w' ⟨rfl,rfl⟩)
   go_ret
   exact z4u (by rw [HV.out]; rfl)
 ·have HV : Hid (z3q (s.data.toList.drop at_) = n):=by
   simp [Hid,z3q,hn,h0]
   omega
  have HN:=Lib.hid hn
  have hm : max 1 (n : Int) = n:=by omega
  have h0' : ((n : Int) == 0) = false:=by simp; omega
  clear hn h0
  go_enter Tryz.func98,Tryz.ntmps98
  go_wp2_with (go_at_call 143; refine (HR _).mono ?_; rintro e w' ⟨rfl,rfl⟩)
  all_goals go_ret
  all_goals (refine z4u ?_; rw [HV.out]; try omega)
end Go.Proofs.YtpgdplmndnopbaaGreatDoor
namespace Go.Proofs.YtpgdplmndnopbaaGreatDoor
open Go.RowKit Go.Shelf
theorem cut47_any (s : ByteArray) (w : World) : Calls Tryz.prog 47 #[.string s] w fun e w' =>
 (∃ v',e = .returned (.tuple #[v',.int .i64 (cutR s).2.1,.int .i64 (cutR s).2.2]) ∧ OwnT w' w.heap.size v' (cutR s).1) ∧ Below w.heap.size w w':=by
 obtain ⟨i0,hi,hz0,hz1,hz2⟩:=info_parts Tryz.info51
 by_cases h4 : 4096 < s.size
 ·have HE : Hid (cutR s = ([],0,3)):=by rw [Hid,cutR,if_pos h4]
  by_cases hbig : s.size ≤ 9223372036854775807
  ·go_enter Tryz.func47,Tryz.ntmps47
   go_wp2
   go_ret3
   exact ⟨⟨_,by rw [HE.out]; rfl,by rw [HE.out]; exact World.ownsRow_nil _ _ _ _⟩,Below.refl _ _⟩
  ·go_enter Tryz.func47,Tryz.ntmps47
   go_wp2
   go_ret3
   exact ⟨⟨_,by rw [HE.out]; rfl,by rw [HE.out]; exact World.ownsRow_nil _ _ _ _⟩,Below.refl _ _⟩
 ·have hs4 : s.size ≤ 4096:=by omega
  have HS:=z1j s
  clear h4
  go_enter Tryz.func47,Tryz.ntmps47
  go_wp2_with fail
  go_loopw [5,6] (fun u i wr => ∃ (k : Nat) (toks : List Tok),k ≤ s.size ∧ i = .int .i64 k ∧ OwnT wr w.heap.size u toks ∧ toks.length ≤ k ∧ Hid (Res.app toks (cut k (s.data.toList.drop k)) = cut 0 s.data.toList) ∧ Below w.heap.size w wr) (fun _ i _ => s.size - (intOf i).toNat)
  case atStart => exact ⟨0,[],by omega,rfl,World.ownsRow_nil _ _ _ _,by simp,by rw [Hid,Res.app_nil]; rfl,Below.refl _ _⟩
  case round =>
   obtain ⟨k,toks,hk,rfl,hown,htl,HI,hbw⟩:=hrel
   have hsw:=hbw.size
   by_cases hlt : k < s.size
   ·have hg:=z2k s k hlt
    generalize hck : s[k]'hlt = c at hg
    have hdr : s.data.toList.drop k = c :: s.data.toList.drop (k + 1):=by
     rw [List.drop_eq_getElem_cons (by rw [HS]; exact hlt),← hg]
    clear hg
    cases hbl : z13 c with
    | true =>
     have HBL:=Lib.hid hbl
     have HN : Hid (Res.app toks (cut (k + 1) (s.data.toList.drop (k + 1))) = cut 0 s.data.toList):=by
      have hrow : z0h c = false:=by
       cases h : z0h c with
       | false => rfl
       | true => rw [(sign_row c).2.2.2.2.2 h] at hbl; cases hbl
      rw [Hid,← HI.out,hdr,z40 k c _ hrow hbl]
     clear hbl hdr
     go_wp2_with fail
     refine (z6v c _).mono ?_
     rintro e w1 ⟨rfl,rfl⟩
     rw [HBL.out]
     go_wp2_with fail
     exact ⟨⟨k + 1,toks,by omega,by push_cast; rfl,hown,by omega,HN.out,hbw⟩,by simp [intOf]; omega⟩
    | false =>
     have HBL:=Lib.hid hbl
     have HLO:=Lib.hid (fun W => long_any s k (by omega) hk W)
     obtain ⟨hn1,hn2,hways⟩:=cut_book c (s.data.toList.drop (k + 1)) hbl
     rw [← hdr] at hn1 hn2 hways
     obtain ⟨n,hn⟩ : ∃ n,z3q (s.data.toList.drop k) = n:=⟨_,rfl⟩
     have HNN:=Lib.hid hn
     rw [hn] at hn1 hn2 hways
     rw [List.length_drop,HS] at hn2
     have hkn : k + n ≤ s.size:=by omega
     have hX : s.extract k (k + n) = bsOf ((s.data.toList.drop k).take n):=by
      rw [Lib.extract_eq,show k + n - k = n by omega]; rfl
     have hsl : ∀ W,(Instr.slice 9 (.string s) (some (.int .i64 (k : Int))) (some (.int .i64 ((k : Int) + (n : Int)))) none).run Tryz.prog W = .ok (.string (bsOf ((s.data.toList.drop k).take n))) W:=fun W => by
      rw [run_slice_string W 9 s .i64 .i64 _ _ Tryz.underlying9 (by omega) (by omega) (by omega),← hX]
      rfl
     have hD : ∀ a,(s.data.toList.drop k).drop a = s.data.toList.drop (k + a):=fun a => by rw [List.drop_drop]
     rw [hD] at hways
     generalize hT : (s.data.toList.drop k).take n = T at hsl hways
     have HK:=Lib.hid (fun W => kind35_any (bsOf T) (by rw [bsOf_size,← hT,List.length_take]; omega) W)
     have HKE : Hid (kindB (bsOf T).data.toList = z0u T):=by rw [Hid,z3n,kindB_eq]
     clear hX hD hn
     rcases hways with ⟨hk0,hcut⟩ | ⟨hk0,hcut⟩
     ·have HK0:=Lib.hid hk0
      have HE : Hid (cutR s = ([],(k : Int),if z3g c then 152 else if z2d c then 151 else 150)):=by
       rw [Hid,cutR,if_neg (by omega),← HI.out,hcut]; rfl
      clear hk0 hcut hdr hT hbl
      generalize bsOf T = X at hsl HKE HK
      generalize z0u T = K at HKE HK0
      go_wp2_with fail
      refine (z6v c _).mono ?_
      rintro e w1 ⟨rfl,rfl⟩
      rw [HBL.out]
      go_wp2_with fail
      refine (HLO.out _).mono ?_
      rintro e w2 ⟨rfl,rfl⟩
      rw [HNN.out]
      go_wp2_with fail
      refine (HK.out _).mono ?_
      rintro e w3 ⟨rfl,rfl⟩
      rw [HKE.out,HK0.out]
      cases hlo : z3g c with
      | true =>
       have HLO:=Lib.hid hlo
       clear hlo
       go_wp2_with (go_at_call 100; refine (z2y c _).mono ?_; rintro e w' ⟨rfl,rfl⟩; rw [HLO.out])
       go_ret3
       exact ⟨⟨_,by rw [HE.out,HLO.out]; rfl,by rw [HE.out]; exact World.ownsRow_nil _ _ _ _⟩,hbw⟩
      | false =>
       have HLO:=Lib.hid hlo
       clear hlo
       cases hdi : z2d c with
       | true =>
        have HDI:=Lib.hid hdi
        clear hdi
        go_wp2_with (first
         | (go_at_call 100; refine (z2y c _).mono ?_; rintro e w' ⟨rfl,rfl⟩; rw [HLO.out])
         | (go_at_call 101; refine (z3z c _).mono ?_; rintro e w' ⟨rfl,rfl⟩; rw [HDI.out]))
        go_ret3
        exact ⟨⟨_,by rw [HE.out,HLO.out,HDI.out]; rfl,by rw [HE.out]; exact World.ownsRow_nil _ _ _ _⟩,hbw⟩
       | false =>
        have HDI:=Lib.hid hdi
        clear hdi
        go_wp2_with (first
         | (go_at_call 100; refine (z2y c _).mono ?_; rintro e w' ⟨rfl,rfl⟩; rw [HLO.out])
         | (go_at_call 101; refine (z3z c _).mono ?_; rintro e w' ⟨rfl,rfl⟩; rw [HDI.out]))
        go_ret3
        exact ⟨⟨_,by rw [HE.out,HLO.out,HDI.out]; rfl,by rw [HE.out]; exact World.ownsRow_nil _ _ _ _⟩,hbw⟩
     ·have hk1 : ((z0u T : Int) == 0) = false:=by simpa using hk0
      have HN : Hid (Res.app (toks ++ [⟨z0u T,bsOf T,(k : Int)⟩]) (cut (k + n) (s.data.toList.drop (k + n))) = cut 0 s.data.toList):=by
       rw [Hid,← HI.out,hcut,Res.app_cons]
      clear hk0 hcut hdr hT hbl
      generalize z0u T = K at hk1 HN HKE
      generalize bsOf T = X at hsl HN HKE HK
      go_wp2_with fail
      refine (z6v c _).mono ?_
      rintro e w1 ⟨rfl,rfl⟩
      rw [HBL.out]
      go_wp2_with fail
      refine (HLO.out _).mono ?_
      rintro e w2 ⟨rfl,rfl⟩
      rw [HNN.out]
      go_wp2_with fail
      refine (HK.out _).mono ?_
      rintro e w3 ⟨rfl,rfl⟩
      rw [HKE.out]
      have HBW:=Lib.hid hbw
      clear hbw
      go_wp2_with (at_builtin; refine wpList_append_own_at _ rfl _ _ 47 rfl w.heap.size 51 i0 _ 3 32 Tryz.underlying47 hi hz0 hz1 hz2 rfl (by decide) _ _ _ rfl (World.ownsRow.alloc hown _) _ 1 1 [.int .u8 K,.string X,.int .i64 k] rfl rfl (z0x _ _ _ _ _) ?c2 ?c3 ?c4 ?c5 ?_)
      case c2 => intro u hu; simp at hu; rcases hu with rfl | rfl | rfl <;> rfl
      case c3 => simp [maxLen]; omega
      case c4 => first | omega | (simp; omega)
      case c5 => first | omega | (simp; omega)
      intro v' wz hown' hgrow hnil hat
      clear hnil hat
      have hbz : Below w.heap.size w wz:=(HBW.out.alloc (by omega) _).grown hgrow (by simp; omega) (fun j hj => (World.ownsRow.lt hown j hj).1)
      clear hgrow
      go_wp2_with fail
      refine ⟨⟨k + n,toks ++ [⟨K,X,(k : Int)⟩],hkn,by push_cast; congr 1; try omega,?_,by simp; try omega,HN,hbz⟩,by simp [intOf]; omega⟩
      show wz.ownsRow _ _ _ _ _ _
      rw [z2n,List.length_append]
      exact hown'
   ·have hke : k = s.size:=by omega
    have HE : Hid (cutR s = (toks,0,0)):=by
     rw [Hid,cutR,if_neg (by omega),← HI.out,List.drop_of_length_le (by omega)]
     simp [Res.app]
    go_wp2_with fail
    go_ret3
    exact ⟨⟨_,by rw [HE.out]; rfl,by rw [HE.out]; exact hown⟩,hbw⟩
end Go.Proofs.YtpgdplmndnopbaaGreatDoor
namespace Go.Proofs.YtpgdplmndnopbaaGreatDoor
open Go.RowKit
theorem one58_any (k : Int) (s : ByteArray) (a : Option Addr) (l c : Nat) (w : World) :
 Calls Tryz.prog 123 #[.agg #[.int .u8 k,.string s,.slice a l c]] w fun e w' => e = .returned (.int .i64 1) ∧ Below w.heap.size w w':=by
 go_enter Tryz.func123,Tryz.ntmps123
 go_wp2_with fail
 all_goals go_ret
 all_goals exact ⟨rfl,(Below.refl _ _).alloc (Nat.le_refl _) _⟩
theorem count57_any (n : Nat) : ∀ (t : FT n) (v : Value) (w : World),FRep w w.heap.size n t v →
 Calls Tryz.prog 122 #[v,.func (.func 106) #[] #[],.func (.func 123) #[] #[]] w fun e w' => e = .returned (.int .i64 (cntF n t)) ∧ Below w.heap.size w w':=by
 induction n with
 | zero => intro t v w h; exact h.elim
 | succ n ih =>
  intro t v w h
  obtain ⟨k,s,of⟩:=t
  obtain ⟨a,c,rfl,hR⟩:=h
  dsimp only at hR ⊢
  have hm:=hR.1
  have HR:=Lib.hid hR
  have IH:=Lib.hid ih
  have HE : Hid (cntF (n + 1) (k,s,of) = z2e (cntF n) 1 of):=rfl
  clear hR ih
  go_enter Tryz.func122,Tryz.ntmps122
  go_wp2_with fail
  refine (one58_any _ _ _ _ _ _).mono ?_
  rintro e w1 ⟨rfl,hb1⟩
  have hbl : w1.heap[w.heap.size]? = some (.cells #[.int .u8 k,.string s,.slice a of.length c] 61 (0,0)):=by
   rw [hb1.block _ (by simp)]; exact Array.getElem?_push_size
  have hb2 : Below w.heap.size w w1:=((Below.refl _ w).alloc (Nat.le_refl _) _).trans (hb1.mono (by simp))
  have HB2:=Lib.hid hb2
  obtain ⟨x1,x2,x3⟩:=cc3 hbl
  clear hb1 hb2 hbl
  go_wp2_with fail
  refine (z4b _ _ _ _ _ _).mono ?_
  rintro e w2 ⟨rfl,hb3⟩
  have HB3:=Lib.hid (HB2.out.trans (hb3.mono HB2.out.size))
  clear hb3 x1 x2 x3
  go_wp2_with fail
  go_loopw [6,16] (fun m i wr => ∃ j : Nat,j ≤ of.length ∧ i = .int .i64 j ∧ m = .int .i64 (z2e (cntF n) 1 (of.take j)) ∧ Below w.heap.size w wr) (fun _ i _ => of.length - (intOf i).toNat)
  case atStart => exact ⟨0,Nat.zero_le _,rfl,rfl,HB3.out⟩
  case round =>
   obtain ⟨j,hj,rfl,rfl,hbw⟩:=hrel
   have HBW:=Lib.hid hbw
   by_cases hlt : j < of.length
   ·obtain ⟨b,off,k',s',sa,sl,sc,rfl,hbl,c0,c1,c2,hr⟩:=(FRow.up HR.out hbw (Nat.le_refl _)).at j hlt
    have hz:=hbw.size
    have hbl' : b < wr.heap.size:=by omega
    have hS:=Lib.hid (z3i (cntF n) 1 of j hlt)
    have HC:=Lib.hid (IH.out of[j] _ (wr.alloc (.cells #[.int .u8 k',.string s',.slice sa sl sc] 61)) (hr.up ((Below.refl _ wr).alloc (by omega) _) (by simp; omega)))
    have hba : Below w.heap.size w (wr.alloc (.cells #[.int .u8 k',.string s',.slice sa sl sc] 61)):=hbw.alloc hz _
    have HBA:=Lib.hid hba
    clear hr hbw hba
    go_wp2_with fail
    refine HC.out.mono ?_
    rintro e w3 ⟨rfl,hb4⟩
    have HB4:=Lib.hid (HBA.out.trans (hb4.mono HBA.out.size))
    clear hb4
    go_wp2_with fail
    go_roundw
    case rel => exact ⟨j + 1,by omega,by go_num,by rw [hS.out],HB4.out⟩
    case measure => simp [intOf]; omega
   ·have hje : j = of.length:=by omega
    subst hje
    have HA:=Lib.hid (z6l (cntF n) 1 of)
    clear hbw
    go_wp2_with fail
    all_goals go_ret
    all_goals exact ⟨z2q (by rw [HE.out,HA.out]),HBW.out⟩
theorem formulas41_any (n : Nat) (of : List (FT n)) (a : Option Addr) (c : Nat) (w : World) (hR : FRow w w.heap.size n a of) :
 Calls Tryz.prog 74 #[.slice a of.length c] w fun e w' => e = .returned (.int .i64 (fmsC n of)) ∧ Below w.heap.size w w':=by
 have hm:=hR.1
 have HR:=Lib.hid hR
 have HE : Hid (fmsC n of = z2e (cntF n) 0 of):=rfl
 clear hR
 go_enter Tryz.func74,Tryz.ntmps74
 go_wp2_with fail
 go_loopw [2,7] (fun m i wr => ∃ j : Nat,j ≤ of.length ∧ i = .int .i64 j ∧ m = .int .i64 (z2e (cntF n) 0 (of.take j)) ∧ Below w.heap.size w wr) (fun _ i _ => of.length - (intOf i).toNat)
 case atStart => exact ⟨0,Nat.zero_le _,rfl,rfl,Below.refl _ _⟩
 case round =>
  obtain ⟨j,hj,rfl,rfl,hbw⟩:=hrel
  have HBW:=Lib.hid hbw
  by_cases hlt : j < of.length
  ·obtain ⟨b,off,k',s',sa,sl,sc,rfl,hbl,c0,c1,c2,hr⟩:=(FRow.up HR.out hbw (Nat.le_refl _)).at j hlt
   have hz:=hbw.size
   have hbl' : b < wr.heap.size:=by omega
   have hS:=Lib.hid (z3i (cntF n) 0 of j hlt)
   have HC:=Lib.hid (count57_any n of[j] _ (wr.alloc (.cells #[.int .u8 k',.string s',.slice sa sl sc] 61)) (hr.up ((Below.refl _ wr).alloc (by omega) _) (by simp; omega)))
   have hba : Below w.heap.size w (wr.alloc (.cells #[.int .u8 k',.string s',.slice sa sl sc] 61)):=hbw.alloc hz _
   have HBA:=Lib.hid hba
   clear hr hbw hba
   go_wp2_with fail
   refine HC.out.mono ?_
   rintro e w3 ⟨rfl,hb4⟩
   have HB4:=Lib.hid (HBA.out.trans (hb4.mono HBA.out.size))
   clear hb4
   go_wp2_with fail
   go_roundw
   case rel => exact ⟨j + 1,by omega,by go_num,by rw [hS.out],HB4.out⟩
   case measure => simp [intOf]; omega
  ·have hje : j = of.length:=by omega
   subst hje
   have HA:=Lib.hid (z6l (cntF n) 0 of)
   clear hbw
   go_wp2_with fail
   all_goals go_ret
   all_goals exact ⟨z2q (by rw [HE.out,HA.out]),HBW.out⟩
theorem many40_any (m : Nat) (k : Int) (is : List (FT m)) (a1 : Option Addr) (c1 : Nat) (a : Option Addr) (l c : Nat) (lo hi : Int) (ls hs op : Bool) (w : World) (hR : FRow w w.heap.size m a1 is) :
 Calls Tryz.prog 73 #[.agg #[.int .u8 k,.slice a1 is.length c1,.slice a l c,.int .i64 lo,.bool ls,.int .i64 hi,.bool hs,.bool op]] w fun e w' => e = .returned (.int .i64 (oneX k is)) ∧ Below w.heap.size w w':=by
 have hb : Below w.heap.size w (w.alloc (.cells #[.int .u8 k,.slice a1 is.length c1,.slice a l c,.int .i64 lo,.bool ls,.int .i64 hi,.bool hs,.bool op] 28)):=(Below.refl _ _).alloc (Nat.le_refl _) _
 have HF:=Lib.hid (formulas41_any m is a1 c1 _ (hR.up hb hb.size))
 have HB:=Lib.hid hb
 have HE : Hid (oneX k is = if k = 1 then fmsC m is else 1):=rfl
 clear hb hR
 cases q : k == 1 with
 | true =>
  have HQ:=Lib.hid q
  go_enter Tryz.func73,Tryz.ntmps73
  go_wp2_with fail
  refine HF.out.mono ?_
  rintro e w1 ⟨rfl,hb1⟩
  have HB1:=Lib.hid (HB.out.trans (hb1.mono HB.out.size))
  clear hb1
  go_wp2_with fail
  all_goals go_ret
  all_goals exact ⟨z2q (by rw [HE.out,if_pos (by simpa using HQ.out)]),HB1.out⟩
 | false =>
  have HQ:=Lib.hid q
  go_enter Tryz.func73,Tryz.ntmps73
  go_wp2_with fail
  all_goals go_ret
  all_goals exact ⟨z2q (by rw [HE.out,if_neg (by simpa using HQ.out)]),HB.out⟩
theorem count39_any (m n : Nat) : ∀ (t : XT m n) (v : Value) (w : World),XRep w w.heap.size m n t v →
 Calls Tryz.prog 72 #[v,.func (.func 52) #[] #[],.func (.func 73) #[] #[]] w fun e w' => e = .returned (.int .i64 (cntX oneX n t)) ∧ Below w.heap.size w w':=by
 induction n with
 | zero => intro t v w h; exact h.elim
 | succ n ih =>
  intro t v w h
  obtain ⟨k,is,of,lo,ls,hi,hs,op⟩:=t
  obtain ⟨a1,c1,a,c,rfl,hR1,hR⟩:=h
  dsimp only at hR hR1 ⊢
  have hm:=hR.1
  have HR:=Lib.hid hR
  have IH:=Lib.hid ih
  have HE : Hid (cntX oneX (n + 1) ((k,is,of,⟨lo,ls,hi,hs,op⟩) : XT m (n + 1)) = z2e (cntX oneX n) (oneX k is) of):=rfl
  have hbx : Below w.heap.size w (w.alloc (.cells #[.int .u8 k,.slice a1 is.length c1,.slice a of.length c,.int .i64 lo,.bool ls,.int .i64 hi,.bool hs,.bool op] 28)):=(Below.refl _ _).alloc (Nat.le_refl _) _
  have HONE:=Lib.hid (many40_any m k is a1 c1 a of.length c lo hi ls hs op _ (hR1.up hbx hbx.size))
  clear hR ih hR1 hbx
  go_enter Tryz.func72,Tryz.ntmps72
  go_wp2_with fail
  refine HONE.out.mono ?_
  rintro e w1 ⟨rfl,hb1⟩
  have hbl : w1.heap[w.heap.size]? = some (.cells #[.int .u8 k,.slice a1 is.length c1,.slice a of.length c,.int .i64 lo,.bool ls,.int .i64 hi,.bool hs,.bool op] 28 (0,0)):=by
   rw [hb1.block _ (by simp)]; exact Array.getElem?_push_size
  have hb2 : Below w.heap.size w w1:=((Below.refl _ w).alloc (Nat.le_refl _) _).trans (hb1.mono (by simp))
  have HB2:=Lib.hid hb2
  obtain ⟨x0,x1,x2,x3,x4,x5,x6,x7⟩:=cc8 hbl
  clear hb1 hb2 hbl
  generalize oneX k is = N1 at HE
  go_wp2_with fail
  refine (z6g _ _ _ _ _ _ _ _ _ _ _ _ _).mono ?_
  rintro e w2 ⟨rfl,hb3⟩
  have HB3:=Lib.hid (HB2.out.trans (hb3.mono HB2.out.size))
  clear hb3 x0 x1 x2 x3 x4 x5 x6 x7
  go_wp2_with fail
  go_loopw [6,16] (fun m_ i wr => ∃ j : Nat,j ≤ of.length ∧ i = .int .i64 j ∧ m_ = .int .i64 (z2e (cntX oneX n) N1 (of.take j)) ∧ Below w.heap.size w wr) (fun _ i _ => of.length - (intOf i).toNat)
  case atStart => exact ⟨0,Nat.zero_le _,rfl,rfl,HB3.out⟩
  case round =>
   obtain ⟨j,hj,rfl,rfl,hbw⟩:=hrel
   have HBW:=Lib.hid hbw
   by_cases hlt : j < of.length
   ·obtain ⟨b,off,k',a1',l1',c1',a2',l2',c2',lo',ls',hi',hs',op',rfl,hbl,c0,d1,c2,c3,c4,c5,c6,c7,hr⟩:=(XRow.up HR.out hbw (Nat.le_refl _)).at j hlt
    have hz:=hbw.size
    have hbl' : b < wr.heap.size:=by omega
    have hS:=Lib.hid (z3i (cntX oneX n) N1 of j hlt)
    have HC:=Lib.hid (IH.out of[j] _ (wr.alloc (.cells #[.int .u8 k',.slice a1' l1' c1',.slice a2' l2' c2',.int .i64 lo',.bool ls',.int .i64 hi',.bool hs',.bool op'] 28)) (hr.up ((Below.refl _ wr).alloc (by omega) _) (by simp; omega)))
    have HBA : Hid (∀ o,Below w.heap.size w (wr.alloc o)):=fun o => hbw.alloc hz o
    clear hr hbw
    go_wp2_with fail
    refine HC.out.mono ?_
    rintro e w3 ⟨rfl,hb4⟩
    have HB4:=Lib.hid ((HBA.out _).trans (hb4.mono (HBA.out _).size))
    clear hb4
    go_wp2_with fail
    go_roundw
    case rel => exact ⟨j + 1,by omega,by go_num,by rw [hS.out],HB4.out⟩
    case measure => simp [intOf]; omega
   ·have hje : j = of.length:=by omega
    subst hje
    have HA:=Lib.hid (z6l (cntX oneX n) N1 of)
    clear hbw
    go_wp2_with fail
    all_goals go_ret
    all_goals exact ⟨z2q (by rw [HE.out,HA.out]),HBW.out⟩
theorem many14_any (m n : Nat) (t : XT m n) (v : Value) (w : World) (h : XRep w w.heap.size m n t v) :
 Calls Tryz.prog 33 #[v] w fun e w' => e = .returned (.int .i64 (z2v n t)) ∧ Below w.heap.size w w':=by
 obtain ⟨k,a1,l1,c1,a,l,c,lo,ls,hi,hs,op,rfl⟩:=h.shape
 have hb : Below w.heap.size w (w.alloc (.cells #[.int .u8 k,.slice a1 l1 c1,.slice a l c,.int .i64 lo,.bool ls,.int .i64 hi,.bool hs,.bool op] 28)):=(Below.refl _ _).alloc (Nat.le_refl _) _
 have HC:=Lib.hid (count39_any m n t _ _ (h.up hb hb.size))
 have HB:=Lib.hid hb
 clear h hb
 go_enter Tryz.func33,Tryz.ntmps33
 go_wp2_with fail
 refine HC.out.mono ?_
 rintro e w1 ⟨rfl,hb1⟩
 have HB1:=Lib.hid (HB.out.trans (hb1.mono HB.out.size))
 clear hb1
 go_wp2_with fail
 all_goals go_ret
 all_goals exact ⟨rfl,HB1.out⟩
end Go.Proofs.YtpgdplmndnopbaaGreatDoor
