/- What the parser leaves is no longer than what it began with. No program. -/
import Derived.Test.YtockinpjfhhkoaaGreatDoorZ05
import Derived.Test.YtockinpjfhhkoaaGreatDoorZ10
import Derived.Test.YtockinpjfhhkoaaGreatDoorZ36
import Derived.Test.YtockinpjfhhkoaaGreatDoorZ02
set_option maxRecDepth 100000
set_option maxHeartbeats 16000000
open List renaming setIfInBounds_toArray → J1, set_cons_zero → J2, set_cons_succ → J3
open Go.Lib renaming cell_of_heap → Jc, hid → Jh
open Go.AllReadyH renaming cons → Jd, nil → Je
open Go renaming wpAnyH_ready → Jr
namespace Go.Proofs.YtockinpjfhhkoaaGreatDoor
open Go.RowKit
def Sh {α : Type} (l : List Tok) (a : PRes α) : Prop:=∀ x r,a = .ok (x,r) → r.length ≤ l.length
theorem z57 {s : List UInt8} {l : List Tok} (h : isT s l = true) : l.tail.length + 1 = l.length:=by
 cases l with
 | nil => simp [isT] at h
 | cons t l => rfl
theorem za4 {s : List UInt8} {l r : List Tok} (h : z0s s l = .ok r) : r.length + 1 = l.length:=by
 unfold z0s at h
 split at h
 ·rename_i hs
  injection h with h
  subst h
  exact z57 hs
 ·cases h
theorem chain_sh {α : Type} {sign : List UInt8} {one : List Tok → PRes α} {join : α → α → α} (ho : ∀ l,Sh l (one l)) : ∀ (k : Nat) (x : α) (l : List Tok),Sh l (z2i sign one join k x l)
 | 0,x,l => fun y r h => by
  rw [z2i] at h
  injection h with h
  obtain ⟨rfl,rfl⟩:=Prod.mk.inj h
  exact Nat.le_refl _
 | k + 1,x,l => fun y r h => by
  rw [z2i] at h
  split at h
  ·rename_i hs
   have hl:=z57 hs
   cases e : one l.tail with
   | error z => rw [e] at h; cases h
   | ok p =>
    obtain ⟨z,r1⟩:=p
    rw [e] at h
    have h1:=ho _ _ _ e
    have h2:=chain_sh ho k (join x z) r1 _ _ h
    omega
  ·injection h with h
   obtain ⟨rfl,rfl⟩:=Prod.mk.inj h
   exact Nat.le_refl _
theorem z3e {α : Type} {sign : List UInt8} {one : List Tok → PRes α} {join : α → α → α} (ho : ∀ l,Sh l (one l)) (l : List Tok) : Sh l (z1s sign one join l):=fun y r h => by
 unfold z1s at h
 cases e : one l with
 | error z => rw [e] at h; cases h
 | ok p =>
  obtain ⟨x,r1⟩:=p
  rw [e] at h
  have h1:=ho _ _ _ e
  have h2:=chain_sh ho _ x r1 _ _ h
  omega
theorem za2 {α : Type} {o c : List UInt8} {deep : Nat} {one : Nat → List Tok → PRes α} (ho : ∀ d l,Sh l (one d l)) {l : List Tok} {q : PRes α} (h : z0p o c deep one l = some q) : Sh l q:=fun x r e => by
 subst e
 unfold z0p at h
 split at h
 ·rename_i hs
  have hl:=z57 hs
  injection h with e
  split at e
  ·cases e
  ·cases e2 : one (deep + 1) l.tail with
   | error z => rw [e2] at e; cases e
   | ok p =>
    obtain ⟨x1,r1⟩:=p
    rw [e2] at e
    dsimp only at e
    cases e3 : z0s c r1 with
    | error z => rw [e3] at e; cases e
    | ok r2 =>
     rw [e3] at e
     injection e with e
     obtain ⟨rfl,rfl⟩:=Prod.mk.inj e
     have h1:=ho _ _ _ _ e2
     have h2:=za4 e3
     omega
 ·cases h
theorem one_sh {fm : Nat → List Tok → PRes F} (hf : ∀ d l,Sh l (fm d l)) (deep : Nat) : ∀ (k : Nat) (l : List Tok),Sh l (oneR fm deep k l)
 | 0,l => fun x r h => by rw [oneR] at h; cases h
 | k + 1,l => fun x r h => by
  rw [oneR.eq_def] at h
  dsimp only at h
  cases e : z0p [123] [125] deep fm l with
  | some q =>
   rw [e] at h
   dsimp only at h
   exact za2 hf e _ _ h
  | none =>
   rw [e] at h
   dsimp only at h
   split at h
   ·rename_i hs
    have hl:=z57 hs
    cases e2 : oneR fm deep k l.tail with
    | error z => rw [e2] at h; cases h
    | ok p =>
     obtain ⟨x1,r1⟩:=p
     rw [e2] at h
     injection h with h
     obtain ⟨rfl,rfl⟩:=Prod.mk.inj h
     have:=one_sh hf deep k _ _ _ e2
     omega
   ·split at h
    ·rename_i hs
     have hl:=z57 hs
     injection h with h
     obtain ⟨rfl,rfl⟩:=Prod.mk.inj h
     omega
    ·split at h
     ·rename_i hs
      have hl:=z57 hs
      injection h with h
      obtain ⟨rfl,rfl⟩:=Prod.mk.inj h
      omega
     ·cases l with
      | nil => cases h
      | cons t l =>
       dsimp only at h
       split at h
       ·injection h with h
        obtain ⟨rfl,rfl⟩:=Prod.mk.inj h
        simp
       ·cases h
theorem form_sh : ∀ (d deep : Nat) (l : List Tok),Sh l (z2h d deep l)
 | 0,deep,l => fun x r h => by rw [z2h] at h; cases h
 | d + 1,deep,l => by
  rw [formR_succ]
  exact z3e (fun l => z3e (fun l => one_sh (fun dd l => form_sh d dd l) deep _ l) l) l
theorem num_sh {l r : List Tok} {v : Int} (h : numR l = .ok (v,r)) : r.length + 1 = l.length:=by
 cases l with
 | nil => cases h
 | cons t l =>
  have h' : (if t.kind = 2 then Except.ok (z2o t.text.data.toList,l) else z7v 170 (t :: l)) = (Except.ok (v,r) : PRes Int):=h
  split at h'
  ·injection h' with h'
   obtain ⟨rfl,rfl⟩:=Prod.mk.inj h'
   rfl
  ·cases h'
theorem may_sh {s u : List UInt8} {l r : List Tok} (h : (if isT s l = true then Except.ok l.tail else z0s u l : Except (Int × Int) (List Tok)) = .ok r) : r.length + 1 = l.length:=by
 by_cases hs : isT s l = true
 ·rw [if_pos hs] at h
  injection h with h
  subst h
  exact z57 hs
 ·rw [if_neg hs] at h
  exact za4 h
theorem interval_sh {l r : List Tok} {i : Spn} (h : z2g l = .ok (i,r)) : r.length ≤ l.length:=by
 unfold z2g at h
 dsimp only at h
 cases e1 : (if isT [40] l = true then Except.ok l.tail else z0s [91] l : Except (Int × Int) (List Tok)) with
 | error z => rw [e1] at h; cases h
 | ok l1 =>
  rw [e1] at h
  have k1:=may_sh e1
  dsimp only at h
  cases e2 : numR l1 with
  | error z => rw [e2] at h; cases h
  | ok p =>
   obtain ⟨low,l2⟩:=p
   rw [e2] at h
   have k2:=num_sh e2
   dsimp only at h
   cases e3 : z0s [44] l2 with
   | error z => rw [e3] at h; cases h
   | ok l3 =>
    rw [e3] at h
    have k3:=za4 e3
    dsimp only at h
    by_cases hs : isT [111,111] l3 = true
    ·rw [if_pos hs] at h
     have k4:=z57 hs
     cases e4 : z0s [41] l3.tail with
     | error z => rw [e4] at h; cases h
     | ok l4 =>
      rw [e4] at h
      have k5:=za4 e4
      injection h with h
      obtain ⟨rfl,rfl⟩:=Prod.mk.inj h
      omega
    ·rw [if_neg hs] at h
     cases e4 : numR l3 with
     | error z => rw [e4] at h; cases h
     | ok p =>
      obtain ⟨high,l4⟩:=p
      rw [e4] at h
      have k4:=num_sh e4
      dsimp only at h
      cases e5 : (if isT [41] l4 = true then Except.ok l4.tail else z0s [93] l4 : Except (Int × Int) (List Tok)) with
      | error z => rw [e5] at h; cases h
      | ok l5 =>
       rw [e5] at h
       have k5:=may_sh e5
       injection h with h
       obtain ⟨rfl,rfl⟩:=Prod.mk.inj h
       omega
theorem plus_sh : ∀ (k : Nat) (x : X) (l : List Tok),(z9o k x l).2.length ≤ l.length
 | 0,x,l => Nat.le_refl _
 | k + 1,x,l => by
  rw [z9o]
  split
  ·rename_i hs
   have hl:=z57 hs
   have:=plus_sh k (.mk 5 [] [x] z06) l.tail
   omega
  ·exact Nat.le_refl _
theorem base_sh {tr : Nat → List Tok → PRes X} (hf : ∀ d l,Sh l (tr d l)) (deep : Nat) (l : List Tok) : Sh l (zax tr deep l):=fun x r h => by
 unfold zax at h
 cases e : z0p [40] [41] deep tr l with
 | some q =>
  rw [e] at h
  exact za2 hf e _ _ h
 | none =>
  rw [e] at h
  dsimp only at h
  cases e1 : z0p [60] [62] deep tr l with
  | some q =>
   rw [e1] at h
   cases q with
   | error z => cases h
   | ok p =>
    obtain ⟨x1,r1⟩:=p
    dsimp only at h
    have h1:=za2 hf e1 _ _ rfl
    cases e2 : z0s [95] r1 with
    | error z => rw [e2] at h; cases h
    | ok r2 =>
     rw [e2] at h
     have h3:=za4 e2
     dsimp only at h
     cases e3 : z2g r2 with
     | error z => rw [e3] at h; cases h
     | ok p =>
      obtain ⟨i,r3⟩:=p
      rw [e3] at h
      have h4:=interval_sh e3
      injection h with h
      obtain ⟨rfl,rfl⟩:=Prod.mk.inj h
      omega
  | none =>
   rw [e1] at h
   dsimp only at h
   cases e2 : z2h 66 deep l with
   | error z => rw [e2] at h; cases h
   | ok p =>
    obtain ⟨f,r1⟩:=p
    rw [e2] at h
    injection h with h
    obtain ⟨rfl,rfl⟩:=Prod.mk.inj h
    exact form_sh _ _ _ _ _ e2
theorem tre_sh : ∀ (d deep : Nat) (l : List Tok),Sh l (treR d deep l)
 | 0,deep,l => fun x r h => by rw [treR] at h; cases h
 | d + 1,deep,l => by
  rw [treR_succ]
  refine z3e (fun l => z3e (fun l => z3e (fun l x r h => ?_) l) l) l
  unfold z9p at h
  cases e : zax (treR d) deep l with
  | error z => rw [e] at h; cases h
  | ok p =>
   obtain ⟨x1,r1⟩:=p
   rw [e] at h
   dsimp only at h
   have h1:=base_sh (fun dd l => tre_sh d dd l) deep l _ _ e
   have h2:=plus_sh r1.length x1 r1
   injection h with h
   rw [h] at h2
   dsimp only at h2
   omega
open Go.RowKit
def allP (d deep : Nat) (l : List Tok) : PRes F:=z1s [38,38] (fun l => oneR (z2h d) deep (l.length + 1) l) (fun a b => .mk 5 ⟨#[]⟩ [a,b]) l
theorem all181_any (pb tb d deep kp : Nat) (hp4 : 4 ≤ pb) (hform : FormC pb tb d) (l : List Tok) (w : World) (hd : deep ≤ 64) (hdd : 64 ≤ deep + d) (hrd : Rdy w) (h : Ps pb tb w l deep) (hkp : w.heap[kp]? = some (.cells #[.pointer (some ⟨pb,0,none⟩)] 192 (0,0))) :
 Calls Tryz.prog 256 #[.pointer (some ⟨kp,0,none⟩)] w (OutF pb tb deep w (allP d deep l)):=by
 have HKPP:=Jh (h.other hkp (by decide))
 obtain ⟨kr,hkr⟩ : ∃ kr,kr = w.heap.size:=⟨_,rfl⟩
 have hpb:=h.lt
 have htb:=h.tb_lt
 have hkpl:=(Array.getElem?_eq_some_iff.1 hkp).1
 obtain ⟨WIN,hWIN⟩ : ∃ WIN,WIN = w.alloc (.cells #[.int .u8 0,.string ⟨#[]⟩,.slice none 0 0] 25):=⟨_,rfl⟩
 have hB : BtP pb w WIN:=by rw [hWIN]; exact (BtP.refl pb w).alloc _
 have hP : Ps pb tb WIN l deep:=by rw [hWIN]; exact h.alloc _
 have HKP : Hid (WIN.heap[kp]? = some (.cells #[.pointer (some ⟨pb,0,none⟩)] 192 (0,0))):=by rw [Hid,hWIN]; exact z1c hkp
 have HKR : Hid (WIN.heap[kr]? = some (.cells #[.int .u8 0,.string ⟨#[]⟩,.slice none 0 0] 25 (0,0))):=by rw [Hid,hWIN]; exact z0b hkr
 have HS : Hid (∀ W : World,W.heap[kp]? = some (.cells #[.pointer (some ⟨pb,0,none⟩)] 192 (0,0)) → W.cell? ⟨kp,0,none⟩ = some (Value.pointer (some ⟨pb,0,none⟩))):=fun W hW => Jc hW 0
 have hCH:=z9k pb tb deep ⟨#[38,38]⟩ (by decide) 258 #[.pointer (some ⟨pb,0,none⟩)] #[] (z1r Tryz.func258 (by kernel_rfl) (by kernel_rfl)) WIN.heap.size 5 (fun l => oneR (z2h d) deep (l.length + 1) l) (fun l x r e => one_sh (form_sh d) deep _ l x r e)
  l (WIN.drew.alloc (.cells #[.int .u8 5] 5)) (hP.drew.alloc _) (z0b rfl)
  (fun w' l' hb hp => by have:=one183_any pb tb d hp4 hform (l'.length + 1) deep l' w' (by omega) hd hdd (hrd.bt hp4 (hB.trans (((BtP.refl pb WIN).drew.alloc _).trans hb))) hp; simpa using this)
 obtain ⟨RES,hRES⟩ : ∃ RES,RES = allP d deep l:=⟨_,rfl⟩
 rw [← hRES]
 have HCH : Hid (Calls Tryz.prog 257 #[.pointer (some ⟨pb,0,none⟩),.string ⟨#[38,38]⟩,.func (.func 258) #[.pointer (some ⟨pb,0,none⟩)] #[],.func (.func 274) #[] #[.pointer (some ⟨WIN.heap.size,0,none⟩)]] (WIN.drew.alloc (.cells #[.int .u8 5] 5)) (OutF pb tb deep (WIN.drew.alloc (.cells #[.int .u8 5] 5)) RES)):=by
  rw [hRES]; exact hCH
 have HB:=Jh hB
 have hmf : ∀ (fn : Fn) (first cap : Array Value) (w : World),(Instr.makeFunc fn first cap).run Tryz.prog w = .ok (.func fn first cap) w:=fun _ _ _ _ => rfl
 have HWN:=Jh hWIN.symm
 have HKQ:=Jh hkr.symm
 have hle : w.heap.size ≤ kr:=by omega
 clear hB hP hCH hRES h hkp hrd hform hWIN hkr
 go_enter Tryz.func256,Tryz.ntmps256
 go_wp2_with fail
 rw [HWN.out,HKQ.out]
 clear HWN HKQ
 refine wrd (by kernel_rfl) HS.out (HKP.out) (fun hHeld => ?_)
 refine wpAnyH_take (i:=0) (v:=?_) rfl (by kernel_rfl) (by kernel_rfl) (by kernel_rfl) (fun _ _ _ h => h) (Or.inl ⟨by kernel_rfl,?_⟩) (by assumption) ?_
 rotate_left
 ·(intro w hSw; (try dsimp only at hSw); go_simp)
  with_reducible rfl
 try simp only [Act.put,J1]
 refine wpAnyH_take (i:=1) (v:=?_) rfl (by kernel_rfl) (by kernel_rfl) (by kernel_rfl) (fun _ _ _ h => h) (Or.inl ⟨by kernel_rfl,?_⟩) (by assumption) ?_
 rotate_left
 ·(intro w hSw; (try dsimp only at hSw); go_simp)
  with_reducible rfl
 try simp only [Act.put]
 refine wpAnyH_take (i:=2) (v:=?_) rfl (by kernel_rfl) (by kernel_rfl) (by kernel_rfl) (fun _ _ _ h => h) (Or.inl ⟨by kernel_rfl,?_⟩) (by assumption) ?_
 rotate_left
 ·(intro w hSw; (try dsimp only at hSw); go_simp)
  with_reducible rfl
 try simp only [Act.put]
 refine Jr (rs:=[3]) (by kernel_rfl) (by simp) ?_
 refine Jd rfl (fun K0 hK => ?_) Je
 go_simp
 go_at_call 259
 refine (two184_any 5 _).mono ?_
 rintro e wt ⟨rfl,rfl⟩
 dsimp only
 refine hK.out _ _ (HS.out _ (z1c HKP.out)) (fun _ => ?_)
 clear hK K0
 try simp only [Act.put,J1,J2,J3]
 refine Jr (rs:=[4]) (by kernel_rfl) (by simp) ?_
 refine Jd rfl (fun K0 hK => ?_) Je
 go_simp
 go_at_call 257
 cases q : RES with
 | error c =>
  refine (HCH.out.mono ?_)
  rw [q]
  rintro e w3 ⟨rfl,hb⟩
  have HB3:=Jh (HB.out.trans (((BtP.refl pb WIN).drew.alloc _).trans hb))
  clear hb
  dsimp only
  go_wp2_with fail
  exact ⟨rfl,rfl,HB3.out⟩
 | ok xr =>
  obtain ⟨x,r⟩:=xr
  refine (HCH.out.mono ?_)
  rw [q]
  rintro e w3 ho
  obtain ⟨k1,s1,a1,n1,c1,rfl,hf,hp,hb⟩:=OutF.ok ho
  have hbw:=((BtP.refl pb WIN).drew.alloc (.cells #[.int .u8 5] 5)).trans hb
  have hkr3:=hbw.at HKR.out (by omega)
  have hkp3:=hbw.at HKP.out HKPP.out
  obtain ⟨e0,e1,e2,f0,f1,f2⟩:=cf3 hkr3
  have hsz:=HB.out.2.2.2.1
  have HAT : Hid ((set3 w3 kr (.int .u8 k1) (.string s1) (.slice a1 n1 c1)).heap[kr]? = some (.cells #[.int .u8 k1,.string s1,.slice a1 n1 c1] 25 (0,0))):=z31 hkr3 _ _ _
  have HOUT : Hid (OutF pb tb deep w (.ok (x,r)) (.returned (.agg #[.int .u8 k1,.string s1,.slice a1 n1 c1])) (set3 w3 kr (.int .u8 k1) (.string s1) (.slice a1 n1 c1))):=by
   refine ⟨_,rfl,?_,hp.set3 (by omega) (by omega) _ _ _,(HB.out.trans hbw).set3 (by omega) _ _ _⟩
   have hwin:=(Array.getElem?_eq_some_iff.1 HKR.out).1
   refine hf.go ⟨by rw [z19]; exact Nat.le_refl _,fun b hbz hpn => ?_⟩
   have hpn':=of_decide_eq_true hpn
   have hws : (WIN.drew.alloc (.cells #[.int .u8 5] 5)).heap.size = WIN.heap.size + 1:=Array.size_push ..
   rw [hws] at hpn'
   exact ⟨decide_eq_true (show w.heap.size ≤ b by omega),z0w _ _ _ _ _ _ (by omega)⟩
  have HKP3 : Hid ((set3 w3 kr (.int .u8 k1) (.string s1) (.slice a1 n1 c1)).cell? ⟨kp,0,none⟩ = some (Value.pointer (some ⟨pb,0,none⟩))) :=
   Jc ((z0w w3 kr _ _ _ kp (by omega)).trans hkp3) 0
  have hs3:=HS.out _ hkp3
  clear ho hf hp hb hbw hkr3 hkp3 hsz
  dsimp only
  refine hK.out _ _ hs3 (fun _ => ?_)
  clear hK K0
  try simp only [Act.put,J1,J2,J3]
  refine Jr (rs:=[5]) (by kernel_rfl) (by simp) ?_
  refine Jd rfl (fun K0 hK => ?_) Je
  go_simp
  refine hK.out _ _ HKP3.out (fun _ => ?_)
  clear hK K0
  try simp only [Act.put,J1,J2,J3]
  refine wpAnyH_done (by kernel_rfl) ?_ _
  go_wp2_with fail
  refine And.intro rfl (Exists.intro _ (And.intro (results_cell_row rfl _ _ _ _ _ _ _ rfl HAT.out Tryz.underlying25 rfl (by kernel_rfl)) ?_))
  first | exact HOUT.out | (rw [q]; exact HOUT.out)
theorem formula171_any (pb tb : Nat) (hp4 : 4 ≤ pb) : ∀ d : Nat,FormC pb tb d:=by
 intro d
 induction d with
 | zero => intro deep l w hd hdd; exact absurd hdd (by omega)
 | succ d ih =>
  intro deep l w hd hdd hrd h
  obtain ⟨kp,hkpe⟩ : ∃ kp,kp = w.heap.size:=⟨_,rfl⟩
  obtain ⟨kr,hkr⟩ : ∃ kr,kr = w.heap.size + 1:=⟨_,rfl⟩
  have hpb:=h.lt
  have htb:=h.tb_lt
  have HKPP : Hid (kp ≠ pb):=by rw [Hid]; omega
  obtain ⟨WIN,hWIN⟩ : ∃ WIN,WIN = (w.alloc (.cells #[.pointer (some ⟨pb,0,none⟩)] 192)).alloc (.cells #[.int .u8 0,.string ⟨#[]⟩,.slice none 0 0] 25):=⟨_,rfl⟩
  have hB : BtP pb w WIN:=by rw [hWIN]; exact ((BtP.refl pb w).alloc _).alloc _
  have hP : Ps pb tb WIN l deep:=by rw [hWIN]; exact (h.alloc _).alloc _
  have HKP : Hid (WIN.heap[kp]? = some (.cells #[.pointer (some ⟨pb,0,none⟩)] 192 (0,0))):=by rw [Hid,hWIN]; exact z1c (z0b hkpe)
  have HKR : Hid (WIN.heap[kr]? = some (.cells #[.int .u8 0,.string ⟨#[]⟩,.slice none 0 0] 25 (0,0))):=by rw [Hid,hWIN]; exact z0b (by simp [hkr])
  have hkpl : kp < kr:=by omega
  have HS : Hid (∀ W : World,W.heap[kp]? = some (.cells #[.pointer (some ⟨pb,0,none⟩)] 192 (0,0)) → W.cell? ⟨kp,0,none⟩ = some (Value.pointer (some ⟨pb,0,none⟩))):=fun W hW => Jc hW 0
  have hCH:=z9k pb tb deep ⟨#[124,124]⟩ (by decide) 256 #[] #[.pointer (some ⟨kp,0,none⟩)] (z1r Tryz.func256 (by kernel_rfl) (by kernel_rfl)) WIN.heap.size 6 (allP d deep) (fun l x r e => z3e (fun l => one_sh (form_sh d) deep _ l) l x r e)
   l (WIN.drew.alloc (.cells #[.int .u8 6] 5)) (hP.drew.alloc _) (z0b rfl)
   (fun w' l' hb hp => by
    have hbb:=((BtP.refl pb WIN).drew.alloc (.cells #[.int .u8 6] 5)).trans hb
    have:=all181_any pb tb d deep kp hp4 ih l' w' hd (by omega) (hrd.bt hp4 (hB.trans hbb)) hp (hbb.at HKP.out HKPP.out)
    simpa using this)
  obtain ⟨RES,hRES⟩ : ∃ RES,RES = z2h (d + 1) deep l:=⟨_,rfl⟩
  rw [← hRES]
  have HCH : Hid (Calls Tryz.prog 257 #[.pointer (some ⟨pb,0,none⟩),.string ⟨#[124,124]⟩,.func (.func 256) #[] #[.pointer (some ⟨kp,0,none⟩)],.func (.func 274) #[] #[.pointer (some ⟨WIN.heap.size,0,none⟩)]] (WIN.drew.alloc (.cells #[.int .u8 6] 5)) (OutF pb tb deep (WIN.drew.alloc (.cells #[.int .u8 6] 5)) RES)):=by
   rw [hRES]; exact hCH
  have HB:=Jh hB
  have hmf : ∀ (fn : Fn) (first cap : Array Value) (w : World),(Instr.makeFunc fn first cap).run Tryz.prog w = .ok (.func fn first cap) w:=fun _ _ _ _ => rfl
  have HWN:=Jh hWIN.symm
  have HKQ:=Jh hkr.symm
  have HKO:=Jh hkpe.symm
  have hle : w.heap.size ≤ kr:=by omega
  clear hB hP hCH hRES h hrd ih hWIN hkr hkpe
  go_enter Tryz.func249,Tryz.ntmps249
  go_wp2_with fail
  rw [HWN.out,HKQ.out,HKO.out]
  clear HWN HKQ HKO
  refine wrd (by kernel_rfl) HS.out (HKP.out) (fun hHeld => ?_)
  refine wpAnyH_take (i:=0) (v:=?_) rfl (by kernel_rfl) (by kernel_rfl) (by kernel_rfl) (fun _ _ _ h => h) (Or.inl ⟨by kernel_rfl,?_⟩) (by assumption) ?_
  rotate_left
  ·(intro w hSw; (try dsimp only at hSw); go_simp)
   with_reducible rfl
  try simp only [Act.put,J1]
  refine wpAnyH_take (i:=1) (v:=?_) rfl (by kernel_rfl) (by kernel_rfl) (by kernel_rfl) (fun _ _ _ h => h) (Or.inl ⟨by kernel_rfl,?_⟩) (by assumption) ?_
  rotate_left
  ·(intro w hSw; (try dsimp only at hSw); go_simp)
   with_reducible rfl
  try simp only [Act.put]
  refine Jr (rs:=[2]) (by kernel_rfl) (by simp) ?_
  refine Jd rfl (fun K0 hK => ?_) Je
  go_simp
  go_at_call 259
  refine (two184_any 6 _).mono ?_
  rintro e wt ⟨rfl,rfl⟩
  dsimp only
  refine hK.out _ _ (HS.out _ (z1c HKP.out)) (fun _ => ?_)
  clear hK K0
  try simp only [Act.put,J1,J2,J3]
  refine Jr (rs:=[3]) (by kernel_rfl) (by simp) ?_
  refine Jd rfl (fun K0 hK => ?_) Je
  go_simp
  go_at_call 257
  cases q : RES with
  | error c =>
   refine (HCH.out.mono ?_)
   rw [q]
   rintro e w3 ⟨rfl,hb⟩
   have HB3:=Jh (HB.out.trans (((BtP.refl pb WIN).drew.alloc _).trans hb))
   clear hb
   dsimp only
   go_wp2_with fail
   exact ⟨rfl,rfl,HB3.out⟩
  | ok xr =>
   obtain ⟨x,r⟩:=xr
   refine (HCH.out.mono ?_)
   rw [q]
   rintro e w3 ho
   obtain ⟨k1,s1,a1,n1,c1,rfl,hf,hp,hb⟩:=OutF.ok ho
   have hbw:=((BtP.refl pb WIN).drew.alloc (.cells #[.int .u8 6] 5)).trans hb
   have hkr3:=hbw.at HKR.out (by omega)
   have hkp3:=hbw.at HKP.out HKPP.out
   obtain ⟨e0,e1,e2,f0,f1,f2⟩:=cf3 hkr3
   have hsz:=HB.out.2.2.2.1
   have HAT : Hid ((set3 w3 kr (.int .u8 k1) (.string s1) (.slice a1 n1 c1)).heap[kr]? = some (.cells #[.int .u8 k1,.string s1,.slice a1 n1 c1] 25 (0,0))):=z31 hkr3 _ _ _
   have HOUT : Hid (OutF pb tb deep w (.ok (x,r)) (.returned (.agg #[.int .u8 k1,.string s1,.slice a1 n1 c1])) (set3 w3 kr (.int .u8 k1) (.string s1) (.slice a1 n1 c1))):=by
    refine ⟨_,rfl,?_,hp.set3 (by omega) (by omega) _ _ _,(HB.out.trans hbw).set3 (by omega) _ _ _⟩
    have hwin:=(Array.getElem?_eq_some_iff.1 HKR.out).1
    refine hf.go ⟨by rw [z19]; exact Nat.le_refl _,fun b hbz hpn => ?_⟩
    have hpn':=of_decide_eq_true hpn
    have hws : (WIN.drew.alloc (.cells #[.int .u8 6] 5)).heap.size = WIN.heap.size + 1:=Array.size_push ..
    rw [hws] at hpn'
    exact ⟨decide_eq_true (show w.heap.size ≤ b by omega),z0w _ _ _ _ _ _ (by omega)⟩
   have HKP3 : Hid ((set3 w3 kr (.int .u8 k1) (.string s1) (.slice a1 n1 c1)).cell? ⟨kp,0,none⟩ = some (Value.pointer (some ⟨pb,0,none⟩))) :=
    Jc ((z0w w3 kr _ _ _ kp (by omega)).trans hkp3) 0
   have hs3:=HS.out _ hkp3
   clear ho hf hp hb hbw hkr3 hkp3 hsz
   dsimp only
   refine hK.out _ _ hs3 (fun _ => ?_)
   clear hK K0
   try simp only [Act.put,J1,J2,J3]
   refine Jr (rs:=[4]) (by kernel_rfl) (by simp) ?_
   refine Jd rfl (fun K0 hK => ?_) Je
   go_simp
   refine hK.out _ _ HKP3.out (fun _ => ?_)
   clear hK K0
   try simp only [Act.put,J1,J2,J3]
   refine wpAnyH_done (by kernel_rfl) ?_ _
   go_wp2_with fail
   refine And.intro rfl (Exists.intro _ (And.intro (results_cell_row rfl _ _ _ _ _ _ _ rfl HAT.out Tryz.underlying25 rfl (by kernel_rfl)) ?_))
   first | exact HOUT.out | (rw [q]; exact HOUT.out)
end Go.Proofs.YtockinpjfhhkoaaGreatDoor
