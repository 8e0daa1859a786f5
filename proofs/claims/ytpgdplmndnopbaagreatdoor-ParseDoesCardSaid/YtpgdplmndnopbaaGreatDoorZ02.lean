/- Formulas and expressions of tokens, in Lean: what layer 17 computes of a text's tokens. No program. -/
import Derived.Test.YtpgdplmndnopbaaGreatDoorZ01
import Derived.Test.YtpgdplmndnopbaaGreatDoorZ00
set_option maxRecDepth 100000
set_option maxHeartbeats 16000000
namespace Go.Proofs.YtpgdplmndnopbaaGreatDoor
open Go.RowKit
inductive F where
 | mk (k : Int) (s : ByteArray) (of : List F)
inductive X where
 | mk (k : Int) (is : List F) (of : List X) (i : Spn)
def toF : (n : Nat) → FT n → F
 | 0,t => nomatch t
 | n + 1,t => .mk t.1 t.2.1 (t.2.2.map (toF n))
def toX {m : Nat} : (n : Nat) → XT m n → X
 | 0,t => nomatch t
 | n + 1,t => .mk t.1 (t.2.1.map (toF m)) (t.2.2.1.map (toX n)) t.2.2.2
def z5c : (n : Nat) → FT n → FT (n + 1)
 | 0,t => nomatch t
 | n + 1,t => (t.1,t.2.1,t.2.2.map (z5c n))
theorem toF_lift : ∀ (n : Nat) (t : FT n),toF (n + 1) (z5c n t) = toF n t
 | 0,t => nomatch t
 | n + 1,t => by
  rw [toF,toF,z5c]
  simp only [List.map_map]
  congr 1
  exact List.map_congr_left fun x _ => toF_lift n x
theorem rep_lift {w : World} {B : Nat} : ∀ {n : Nat} {t : FT n} {v : Value},FRep w B n t v → FRep w B (n + 1) (z5c n t) v
 | 0,t,_,_ => nomatch t
 | n + 1,t,v,⟨a,cap,hv,hm,hr⟩ => by
  refine ⟨a,cap,by rw [hv,z5c]; simp,by rw [z5c]; simpa using hm,?_⟩
  rcases hr with hr | ⟨b,off,ha,hb,hc⟩
  ·exact .inl (by rw [z5c]; simp [hr])
  ·refine .inr ⟨b,off,ha,hb,fun i hi => ?_⟩
   have hi' : i < t.2.2.length:=by rw [z5c] at hi; simpa using hi
   obtain ⟨vs,h1,h2,h3⟩:=hc i hi'
   refine ⟨vs,h1,h2,?_⟩
   have e : (z5c (n + 1) t).2.2[i] = z5c n (t.2.2[i]):=by simp [z5c]
   rw [e]
   exact rep_lift h3
def FRepI (w : World) (B : Nat) (t : F) (v : Value) : Prop:=∃ (n : Nat) (t' : FT n),toF n t' = t ∧ FRep w B n t' v
/-! ### The parser -/
def isT (s : List UInt8) : List Tok → Bool
 | [] => false
 | t :: _ => t.kind != 2 && t.text.data.toList == s
def z05 : List Tok → Int
 | [] => 0
 | t :: _ => t.place
abbrev PRes (α : Type):=Except (Int × Int) (α × List Tok)
def z1k {α : Type} (e : Int) (l : List Tok) : PRes α:=.error (e,z05 l)
def z0v (s : List UInt8) (l : List Tok) : Except (Int × Int) (List Tok):=if isT s l then .ok l.tail else .error (170,z05 l)
def z0n {α : Type} (sign : List UInt8) (one : List Tok → PRes α) (join : α → α → α) : Nat → α → List Tok → PRes α
 | 0,x,l => .ok (x,l)
 | k + 1,x,l =>
  if isT sign l then
   match one l.tail with
   | .error e => .error e
   | .ok (y,r) => z0n sign one join k (join x y) r
  else .ok (x,l)
def z0g {α : Type} (sign : List UInt8) (one : List Tok → PRes α) (join : α → α → α) (l : List Tok) : PRes α :=
 match one l with
 | .error e => .error e
 | .ok (x,r) => z0n sign one join r.length x r
def z0t {α : Type} (o c : List UInt8) (deep : Nat) (one : Nat → List Tok → PRes α) (l : List Tok) : Option (PRes α) :=
 if isT o l then
  some (if deep = 64 then z1k 171 l else
   match one (deep + 1) l.tail with
   | .error e => .error e
   | .ok (x,r) =>
    match z0v c r with
    | .error e => .error e
    | .ok r' => .ok (x,r'))
 else none
def notI (f : F) : F:=.mk 4 ⟨#[]⟩ [f]
def oneR (fm : Nat → List Tok → PRes F) (deep : Nat) : Nat → List Tok → PRes F
 | 0,l => z1k 170 l
 | k + 1,l =>
  match z0t [123] [125] deep fm l with
  | some r => r
  | none =>
   if isT [33] l then
    match oneR fm deep k l.tail with
    | .error e => .error e
    | .ok (f,r) => .ok (notI f,r)
   else if isT [116,114,117,101] l then .ok (.mk 1 ⟨#[]⟩ [],l.tail)
   else if isT [102,97,108,115,101] l then .ok (.mk 2 ⟨#[]⟩ [],l.tail)
   else match l with
    | [] => z1k 170 l
    | t :: r => if t.kind = 1 ∧ z3f t.text.data.toList = true then .ok (.mk 3 t.text [],r) else z1k 170 l
def z1e : Nat → Nat → List Tok → PRes F
 | 0,_,l => z1k 170 l
 | d + 1,deep,l => z0g [124,124] (z0g [38,38] (fun l => oneR (z1e d) deep (l.length + 1) l) fun a b => .mk 5 ⟨#[]⟩ [a,b]) (fun a b => .mk 6 ⟨#[]⟩ [a,b]) l
def z10 (l : List UInt8) : Int:=l.foldl (fun n c => 10 * n + ((c.toNat : Int) - 48)) 0
def numR : List Tok → PRes Int
 | [] => z1k 170 []
 | t :: r => if t.kind = 2 then .ok (z10 t.text.data.toList,r) else z1k 170 (t :: r)
def z11 (l : List Tok) : PRes Spn :=
 let ls:=isT [40] l
 match (if ls then .ok l.tail else z0v [91] l) with
 | .error e => .error e
 | .ok l1 =>
  match numR l1 with
  | .error e => .error e
  | .ok (low,l2) =>
   match z0v [44] l2 with
   | .error e => .error e
   | .ok l3 =>
    if isT [111,111] l3 then
     match z0v [41] l3.tail with
     | .error e => .error e
     | .ok l4 => .ok (⟨low,ls,0,false,true⟩,l4)
    else
     match numR l3 with
     | .error e => .error e
     | .ok (high,l4) =>
      let hs:=isT [41] l4
      match (if hs then .ok l4.tail else z0v [93] l4) with
      | .error e => .error e
      | .ok l5 => .ok (⟨low,ls,high,hs,false⟩,l5)
def z3o (tr : Nat → List Tok → PRes X) (deep : Nat) (l : List Tok) : PRes X :=
 match z0t [40] [41] deep tr l with
 | some r => r
 | none =>
  match z0t [60] [62] deep tr l with
  | some (.error e) => .error e
  | some (.ok (x,r1)) =>
   match z0v [95] r1 with
   | .error e => .error e
   | .ok r2 =>
    match z11 r2 with
    | .error e => .error e
    | .ok (i,r3) => .ok (.mk 6 [] [x] i,r3)
  | none =>
   match z1e 66 deep l with
   | .error e => .error e
   | .ok (f,r) => .ok (.mk 1 [f] [] noSpan,r)
def z2s : Nat → X → List Tok → X × List Tok
 | 0,x,l => (x,l)
 | k + 1,x,l => if isT [43] l then z2s k (.mk 5 [] [x] noSpan) l.tail else (x,l)
def z3b (tr : Nat → List Tok → PRes X) (deep : Nat) (l : List Tok) : PRes X :=
 match z3o tr deep l with
 | .error e => .error e
 | .ok (x,r) => .ok (z2s r.length x r)
def z12 (k : Int) (a b : X) : X:=.mk k [] [a,b] noSpan
def treR : Nat → Nat → List Tok → PRes X
 | 0,_,l => z1k 170 l
 | d + 1,deep,l => z0g [124] (z0g [38] (z0g [59] (z3b (treR d) deep) (z12 4)) (z12 3)) (z12 2) l
def allR (l : List Tok) (stop : Int) : Except (Int × Int) X :=
 match treR 66 0 (l ++ [⟨0,⟨#[]⟩,stop⟩]) with
 | .error e => .error e
 | .ok (x,r) => if 1 < r.length then .error (170,z05 r) else .ok x
end Go.Proofs.YtpgdplmndnopbaaGreatDoor
namespace Go.Proofs.YtpgdplmndnopbaaGreatDoor
open Go.RowKit
def cutP (p : Nat → Bool) (w : World) : World:={ w with heap:=w.heap.mapIdx fun i o => if p i then o else .stringIter ⟨#[]⟩ 0 }
theorem cutP_cell {p : Nat → Bool} {w : World} {b off : Nat} {x : Value} (h : (cutP p w).cell? ⟨b,off,none⟩ = some x) : p b = true ∧ w.cell? ⟨b,off,none⟩ = some x:=by
 unfold World.cell? cutP at h
 simp only [Array.getElem?_mapIdx] at h
 cases hq : w.heap[b]? with
 | none => rw [hq] at h; simp at h
 | some o =>
  rw [hq] at h
  cases hp : p b with
  | false => rw [hp] at h; simp at h
  | true =>
   rw [hp] at h
   refine ⟨rfl,?_⟩
   unfold World.cell?
   rw [hq]
   simpa using h
theorem z3a {p : Nat → Bool} {w : World} {b off : Nat} {x : Value} (hp : p b = true) (h : w.cell? ⟨b,off,none⟩ = some x) : (cutP p w).cell? ⟨b,off,none⟩ = some x:=by
 unfold World.cell? at h ⊢
 unfold cutP
 simp only [Array.getElem?_mapIdx]
 cases hq : w.heap[b]? with
 | none => rw [hq] at h; simp at h
 | some o =>
  rw [hq] at h
  simpa [hp] using h
def Has (B : Nat) (w w' : World) : Prop:=∀ (b off : Nat) (x : Value),b < B → w.cell? ⟨b,off,none⟩ = some x → w'.cell? ⟨b,off,none⟩ = some x
theorem RowR.le {w w' : World} {B B' C : Nat} {α : Type} {R R' : α → Value → Prop} {a : Option Addr} {l : List α} (hb : Has B w w') (hB : B ≤ B') (hR : ∀ x ∈ l,∀ v,R x v → R' x v) (h : RowR w B C R a l) : RowR w' B' C R' a l:=by
 obtain ⟨hm,h⟩:=h
 refine ⟨hm,?_⟩
 rcases h with h | ⟨b,off,ha,hlt,hc⟩
 ·exact .inl h
 ·refine .inr ⟨b,off,ha,by omega,fun i hi => ?_⟩
  obtain ⟨vs,h1,h2,h3⟩:=hc i hi
  refine ⟨vs,h1,fun j hj => ?_,hR _ (List.getElem_mem _) _ h3⟩
  have:=h2 j hj
  rw [List.getElem?_eq_getElem (by omega)] at this ⊢
  exact hb _ _ _ hlt this
theorem FRep.le {w w' : World} {B B' : Nat} (hb : Has B w w') (hB : B ≤ B') : ∀ {n : Nat} {t : FT n} {v : Value},FRep w B n t v → FRep w' B' n t v
 | 0,_,_,h => h.elim
 | _ + 1,_,_,⟨a,cap,hv,h⟩ => ⟨a,cap,hv,h.le hb hB fun _ _ _ hx => FRep.le hb hB hx⟩
theorem XRep.le {w w' : World} {B B' m : Nat} (hb : Has B w w') (hB : B ≤ B') : ∀ {n : Nat} {t : XT m n} {v : Value},XRep w B m n t v → XRep w' B' m n t v
 | 0,_,_,h => h.elim
 | _ + 1,_,_,⟨a1,c1,a2,c2,hv,h1,h2⟩ => ⟨a1,c1,a2,c2,hv,h1.le hb hB fun _ _ _ hx => FRep.le hb hB hx,h2.le hb hB fun _ _ _ hx => XRep.le hb hB hx⟩
/-! Of a depth more. -/
def liftM {m : Nat} : (n : Nat) → XT m n → XT (m + 1) n
 | 0,t => nomatch t
 | n + 1,t => (t.1,t.2.1.map (z5c m),t.2.2.1.map (liftM n),t.2.2.2)
def liftX {m : Nat} : (n : Nat) → XT m n → XT m (n + 1)
 | 0,t => nomatch t
 | n + 1,t => (t.1,t.2.1,t.2.2.1.map (liftX n),t.2.2.2)
theorem toX_liftM {m : Nat} : ∀ (n : Nat) (t : XT m n),toX n (liftM n t) = toX n t
 | 0,t => nomatch t
 | n + 1,t => by
  rw [toX,toX,liftM]
  simp only [List.map_map]
  congr 1
  ·exact List.map_congr_left fun x _ => toF_lift m x
  ·exact List.map_congr_left fun x _ => toX_liftM n x
theorem toX_liftX {m : Nat} : ∀ (n : Nat) (t : XT m n),toX (n + 1) (liftX n t) = toX n t
 | 0,t => nomatch t
 | n + 1,t => by
  rw [toX,toX,liftX]
  simp only [List.map_map]
  congr 1
  exact List.map_congr_left fun x _ => toX_liftX n x
theorem RowR.map {w : World} {B C : Nat} {α β : Type} {R : α → Value → Prop} {R' : β → Value → Prop} (f : α → β) {a : Option Addr} {l : List α} (hR : ∀ x ∈ l,∀ v,R x v → R' (f x) v) (h : RowR w B C R a l) : RowR w B C R' a (l.map f):=by
 obtain ⟨hm,h⟩:=h
 refine ⟨by simpa using hm,?_⟩
 rcases h with h | ⟨b,off,ha,hlt,hc⟩
 ·exact .inl (by rw [h]; rfl)
 ·refine .inr ⟨b,off,ha,hlt,fun i hi => ?_⟩
  have hi' : i < l.length:=by simpa using hi
  obtain ⟨vs,h1,h2,h3⟩:=hc i hi'
  refine ⟨vs,h1,h2,?_⟩
  rw [List.getElem_map]
  exact hR _ (List.getElem_mem _) _ h3
theorem repX_liftM {w : World} {B m : Nat} : ∀ {n : Nat} {t : XT m n} {v : Value},XRep w B m n t v → XRep w B (m + 1) n (liftM n t) v
 | 0,t,_,_ => nomatch t
 | n + 1,t,v,⟨a1,c1,a2,c2,hv,h1,h2⟩ => by
  rw [liftM]
  exact ⟨a1,c1,a2,c2,by rw [hv]; simp,RowR.map (z5c m) (fun x _ v h => rep_lift h) h1,RowR.map (liftM n) (fun x _ v h => repX_liftM h) h2⟩
theorem repX_liftX {w : World} {B m : Nat} : ∀ {n : Nat} {t : XT m n} {v : Value},XRep w B m n t v → XRep w B m (n + 1) (liftX n t) v
 | 0,t,_,_ => nomatch t
 | n + 1,t,v,⟨a1,c1,a2,c2,hv,h1,h2⟩ => by
  rw [liftX]
  exact ⟨a1,c1,a2,c2,by rw [hv]; simp,h1,RowR.map (liftX n) (fun x _ v h => repX_liftX h) h2⟩
theorem rep_to {w : World} {B n : Nat} {t : FT n} {v : Value} (h : FRep w B n t v) : ∀ k : Nat,∃ t' : FT (n + k),toF (n + k) t' = toF n t ∧ FRep w B (n + k) t' v
 | 0 => ⟨t,rfl,h⟩
 | k + 1 => by
  obtain ⟨t',h1,h2⟩:=rep_to h k
  exact ⟨z5c _ t',(toF_lift _ _).trans h1,rep_lift h2⟩
theorem repM_to {w : World} {B m n : Nat} {t : XT m n} {v : Value} (h : XRep w B m n t v) : ∀ k : Nat,∃ t' : XT (m + k) n,toX n t' = toX n t ∧ XRep w B (m + k) n t' v
 | 0 => ⟨t,rfl,h⟩
 | k + 1 => by
  obtain ⟨t',h1,h2⟩:=repM_to h k
  exact ⟨liftM _ t',(toX_liftM _ _).trans h1,repX_liftM h2⟩
theorem repX_to {w : World} {B m n : Nat} {t : XT m n} {v : Value} (h : XRep w B m n t v) : ∀ k : Nat,∃ t' : XT m (n + k),toX (n + k) t' = toX n t ∧ XRep w B m (n + k) t' v
 | 0 => ⟨t,rfl,h⟩
 | k + 1 => by
  obtain ⟨t',h1,h2⟩:=repX_to h k
  exact ⟨liftX _ t',(toX_liftX _ _).trans h1,repX_liftX h2⟩
def XRepI (w : World) (B : Nat) (t : X) (v : Value) : Prop:=∃ (m n : Nat) (t' : XT m n),toX n t' = t ∧ XRep w B m n t' v
theorem FRepI.le {w w' : World} {B B' : Nat} {t : F} {v : Value} (hb : Has B w w') (hB : B ≤ B') (h : FRepI w B t v) : FRepI w' B' t v:=by
 obtain ⟨n,t',h1,h2⟩:=h; exact ⟨n,t',h1,h2.le hb hB⟩
theorem XRepI.le {w w' : World} {B B' : Nat} {t : X} {v : Value} (hb : Has B w w') (hB : B ≤ B') (h : XRepI w B t v) : XRepI w' B' t v:=by
 obtain ⟨m,n,t',h1,h2⟩:=h; exact ⟨m,n,t',h1,h2.le hb hB⟩
/-! What is built of blocks that p names. -/
def FI (p : Nat → Bool) (w : World) (t : F) (v : Value) : Prop:=FRepI (cutP p w) w.heap.size t v
def XI (p : Nat → Bool) (w : World) (t : X) (v : Value) : Prop:=XRepI (cutP p w) w.heap.size t v
def Goes (p q : Nat → Bool) (w w' : World) : Prop:=w.heap.size ≤ w'.heap.size ∧ ∀ b,b < w.heap.size → p b = true → q b = true ∧ w'.heap[b]? = w.heap[b]?
theorem Goes.has {p q : Nat → Bool} {w w' : World} (h : Goes p q w w') : Has w.heap.size (cutP p w) (cutP q w'):=by
 intro b off x hb hx
 obtain ⟨hp,hc⟩:=cutP_cell hx
 obtain ⟨hq,he⟩:=h.2 b hb hp
 refine z3a hq ?_
 unfold World.cell? at hc ⊢
 rw [he]; exact hc
theorem FI.go {p q : Nat → Bool} {w w' : World} {t : F} {v : Value} (h : FI p w t v) (hg : Goes p q w w') : FI q w' t v:=FRepI.le hg.has hg.1 h
theorem XI.go {p q : Nat → Bool} {w w' : World} {t : X} {v : Value} (h : XI p w t v) (hg : Goes p q w w') : XI q w' t v:=XRepI.le hg.has hg.1 h
theorem XI.real {p : Nat → Bool} {w : World} {t : X} {v : Value} (h : XI p w t v) : XRepI w w.heap.size t v:=XRepI.le (fun _ _ _ _ hx => (cutP_cell hx).2) (Nat.le_refl _) h
theorem FI.shape {p : Nat → Bool} {w : World} {t : F} {v : Value} (h : FI p w t v) : ∃ k s a l c,v = .agg #[.int .u8 k,.string s,.slice a l c]:=by
 obtain ⟨n,t',_,h2⟩:=h; exact h2.shape
theorem XI.shape {p : Nat → Bool} {w : World} {t : X} {v : Value} (h : XI p w t v) :
 ∃ k a1 l1 c1 a2 l2 c2 lo ls hi hs op,v = .agg #[.int .u8 k,.slice a1 l1 c1,.slice a2 l2 c2,.int .i64 lo,.bool ls,.int .i64 hi,.bool hs,.bool op]:=by
 obtain ⟨m,n,t',_,h2⟩:=h; exact h2.shape
/-! What is put together. -/
theorem FI.none (p : Nat → Bool) (w : World) (k : Int) (s : ByteArray) (a : Option Addr) (c : Nat) : FI p w (.mk k s []) (.agg #[.int .u8 k,.string s,.slice a 0 c]) :=
 ⟨1,(k,s,[]),by simp [toF],a,c,rfl,by simp,.inl rfl⟩
theorem FI.one {p : Nat → Bool} {w : World} {t : F} {k1 : Int} {s1 : ByteArray} {a1 : Option Addr} {l1 c1 : Nat} (h : FI p w t (.agg #[.int .u8 k1,.string s1,.slice a1 l1 c1])) (k : Int) (s : ByteArray) (g c : Nat) (fr : Nat × Nat) (hp : p g = true)
 (hg : w.heap[g]? = some (.cells #[.int .u8 k1,.string s1,.slice a1 l1 c1] 61 fr)) : FI p w (.mk k s [t]) (.agg #[.int .u8 k,.string s,.slice (some ⟨g,0,Option.none⟩) 1 c]):=by
 obtain ⟨n,t',h1,h2⟩:=h
 refine ⟨n + 1,(k,s,[t']),by simp [toF,h1],_,c,rfl,by simp,.inr ⟨g,0,rfl,(Array.getElem?_eq_some_iff.1 hg).1,fun i hi => ?_⟩⟩
 have hi0 : i = 0:=by simp at hi; omega
 subst hi0
 refine ⟨[.int .u8 k1,.string s1,.slice a1 l1 c1],rfl,fun j hj => ?_,h2⟩
 rw [List.getElem?_eq_getElem (by simpa using hj)]
 refine z3a hp ?_
 rw [Lib.cell_of_heap hg]
 match j,hj with
 | 0,_ => rfl
 | 1,_ => rfl
 | 2,_ => rfl
theorem FI.two {p : Nat → Bool} {w : World} {t u : F} {k1 k2 : Int} {s1 s2 : ByteArray} {a1 a2 : Option Addr} {l1 c1 l2 c2 : Nat} (h : FI p w t (.agg #[.int .u8 k1,.string s1,.slice a1 l1 c1])) (h' : FI p w u (.agg #[.int .u8 k2,.string s2,.slice a2 l2 c2]))
 (k : Int) (s : ByteArray) (g c : Nat) (fr : Nat × Nat) (hp : p g = true)
 (hg : w.heap[g]? = some (.cells #[.int .u8 k1,.string s1,.slice a1 l1 c1,.int .u8 k2,.string s2,.slice a2 l2 c2] 61 fr)) : FI p w (.mk k s [t,u]) (.agg #[.int .u8 k,.string s,.slice (some ⟨g,0,Option.none⟩) 2 c]):=by
 obtain ⟨n,t',h1,h2⟩:=h
 obtain ⟨n',u',h1',h2'⟩:=h'
 obtain ⟨t2,e1,e2⟩:=rep_to h2 n'
 obtain ⟨u2,e1',e2'⟩:=rep_to h2' n
 rw [h1] at e1
 rw [h1'] at e1'
 revert u2
 rw [Nat.add_comm n' n]
 intro u2 e1' e2'
 refine ⟨n + n' + 1,(k,s,[t2,u2]),by simp [toF,e1,e1'],_,c,rfl,by simp,.inr ⟨g,0,rfl,(Array.getElem?_eq_some_iff.1 hg).1,fun i hi => ?_⟩⟩
 have hi2 : i = 0 ∨ i = 1:=by simp at hi; omega
 rcases hi2 with rfl | rfl
 ·refine ⟨[.int .u8 k1,.string s1,.slice a1 l1 c1],rfl,fun j hj => ?_,e2⟩
  rw [List.getElem?_eq_getElem (by simpa using hj)]
  refine z3a hp ?_
  rw [Lib.cell_of_heap hg]
  match j,hj with
  | 0,_ => rfl
  | 1,_ => rfl
  | 2,_ => rfl
 ·refine ⟨[.int .u8 k2,.string s2,.slice a2 l2 c2],rfl,fun j hj => ?_,e2'⟩
  rw [List.getElem?_eq_getElem (by simpa using hj)]
  refine z3a hp ?_
  rw [Lib.cell_of_heap hg]
  match j,hj with
  | 0,_ => rfl
  | 1,_ => rfl
  | 2,_ => rfl
end Go.Proofs.YtpgdplmndnopbaaGreatDoor
namespace Go.Proofs.YtpgdplmndnopbaaGreatDoor
open Go.RowKit
theorem cc3 {w : World} {g : Nat} {x0 x1 x2 : Value} {t : TypeId} {z : Nat × Nat} (h : w.heap[g]? = some (.cells #[x0,x1,x2] t z)) : w.cell? ⟨g,0,none⟩ = some x0 ∧ w.cell? ⟨g,1,none⟩ = some x1 ∧ w.cell? ⟨g,2,none⟩ = some x2:=⟨Lib.cell_of_heap h 0,Lib.cell_of_heap h 1,Lib.cell_of_heap h 2⟩
theorem cf3 {w : World} {g : Nat} {x0 x1 x2 : Value} {t : TypeId} (h : w.heap[g]? = some (.cells #[x0,x1,x2] t (0,0))) : w.cell? ⟨g,0,none⟩ = some x0 ∧ w.cell? ⟨g,1,none⟩ = some x1 ∧ w.cell? ⟨g,2,none⟩ = some x2 ∧ w.frozen? ⟨g,0,none⟩ = false ∧ w.frozen? ⟨g,1,none⟩ = false ∧ w.frozen? ⟨g,2,none⟩ = false:=⟨Lib.cell_of_heap h 0,Lib.cell_of_heap h 1,Lib.cell_of_heap h 2,Lib.frozen_of_heap h 0,Lib.frozen_of_heap h 1,Lib.frozen_of_heap h 2⟩
theorem cc5 {w : World} {g : Nat} {x0 x1 x2 x3 x4 : Value} {t : TypeId} {z : Nat × Nat} (h : w.heap[g]? = some (.cells #[x0,x1,x2,x3,x4] t z)) : w.cell? ⟨g,0,none⟩ = some x0 ∧ w.cell? ⟨g,1,none⟩ = some x1 ∧ w.cell? ⟨g,2,none⟩ = some x2 ∧ w.cell? ⟨g,3,none⟩ = some x3 ∧ w.cell? ⟨g,4,none⟩ = some x4:=⟨Lib.cell_of_heap h 0,Lib.cell_of_heap h 1,Lib.cell_of_heap h 2,Lib.cell_of_heap h 3,Lib.cell_of_heap h 4⟩
theorem cf5 {w : World} {g : Nat} {x0 x1 x2 x3 x4 : Value} {t : TypeId} (h : w.heap[g]? = some (.cells #[x0,x1,x2,x3,x4] t (0,0))) : w.cell? ⟨g,0,none⟩ = some x0 ∧ w.cell? ⟨g,1,none⟩ = some x1 ∧ w.cell? ⟨g,2,none⟩ = some x2 ∧ w.cell? ⟨g,3,none⟩ = some x3 ∧ w.cell? ⟨g,4,none⟩ = some x4 ∧ w.frozen? ⟨g,0,none⟩ = false ∧ w.frozen? ⟨g,1,none⟩ = false ∧ w.frozen? ⟨g,2,none⟩ = false ∧ w.frozen? ⟨g,3,none⟩ = false ∧ w.frozen? ⟨g,4,none⟩ = false:=⟨Lib.cell_of_heap h 0,Lib.cell_of_heap h 1,Lib.cell_of_heap h 2,Lib.cell_of_heap h 3,Lib.cell_of_heap h 4,Lib.frozen_of_heap h 0,Lib.frozen_of_heap h 1,Lib.frozen_of_heap h 2,Lib.frozen_of_heap h 3,Lib.frozen_of_heap h 4⟩
theorem cc8 {w : World} {g : Nat} {x0 x1 x2 x3 x4 x5 x6 x7 : Value} {t : TypeId} {z : Nat × Nat} (h : w.heap[g]? = some (.cells #[x0,x1,x2,x3,x4,x5,x6,x7] t z)) : w.cell? ⟨g,0,none⟩ = some x0 ∧ w.cell? ⟨g,1,none⟩ = some x1 ∧ w.cell? ⟨g,2,none⟩ = some x2 ∧ w.cell? ⟨g,3,none⟩ = some x3 ∧ w.cell? ⟨g,4,none⟩ = some x4 ∧ w.cell? ⟨g,5,none⟩ = some x5 ∧ w.cell? ⟨g,6,none⟩ = some x6 ∧ w.cell? ⟨g,7,none⟩ = some x7:=⟨Lib.cell_of_heap h 0,Lib.cell_of_heap h 1,Lib.cell_of_heap h 2,Lib.cell_of_heap h 3,Lib.cell_of_heap h 4,Lib.cell_of_heap h 5,Lib.cell_of_heap h 6,Lib.cell_of_heap h 7⟩
theorem cf8 {w : World} {g : Nat} {x0 x1 x2 x3 x4 x5 x6 x7 : Value} {t : TypeId} (h : w.heap[g]? = some (.cells #[x0,x1,x2,x3,x4,x5,x6,x7] t (0,0))) : w.cell? ⟨g,0,none⟩ = some x0 ∧ w.cell? ⟨g,1,none⟩ = some x1 ∧ w.cell? ⟨g,2,none⟩ = some x2 ∧ w.cell? ⟨g,3,none⟩ = some x3 ∧ w.cell? ⟨g,4,none⟩ = some x4 ∧ w.cell? ⟨g,5,none⟩ = some x5 ∧ w.cell? ⟨g,6,none⟩ = some x6 ∧ w.cell? ⟨g,7,none⟩ = some x7 ∧ w.frozen? ⟨g,0,none⟩ = false ∧ w.frozen? ⟨g,1,none⟩ = false ∧ w.frozen? ⟨g,2,none⟩ = false ∧ w.frozen? ⟨g,3,none⟩ = false ∧ w.frozen? ⟨g,4,none⟩ = false ∧ w.frozen? ⟨g,5,none⟩ = false ∧ w.frozen? ⟨g,6,none⟩ = false ∧ w.frozen? ⟨g,7,none⟩ = false:=⟨Lib.cell_of_heap h 0,Lib.cell_of_heap h 1,Lib.cell_of_heap h 2,Lib.cell_of_heap h 3,Lib.cell_of_heap h 4,Lib.cell_of_heap h 5,Lib.cell_of_heap h 6,Lib.cell_of_heap h 7,Lib.frozen_of_heap h 0,Lib.frozen_of_heap h 1,Lib.frozen_of_heap h 2,Lib.frozen_of_heap h 3,Lib.frozen_of_heap h 4,Lib.frozen_of_heap h 5,Lib.frozen_of_heap h 6,Lib.frozen_of_heap h 7⟩
theorem z4b (k : Int) (s : ByteArray) (a : Option Addr) (l c : Nat) (w : World) :
 Calls Tryz.prog 106 #[.agg #[.int .u8 k,.string s,.slice a l c]] w fun e w' => e = .returned (.slice a l c) ∧ Below w.heap.size w w':=by
 go_enter Tryz.func106,Tryz.ntmps106
 go_wp2_with fail
 all_goals go_ret
 all_goals exact ⟨rfl,(Below.refl _ _).alloc (Nat.le_refl _) _⟩
def Ent (K : Nat) : Prop:=∀ (args : Array Value) (W : World),(callFunc K args).run Tryz.prog W = .ok (.enter K args) W
theorem z2x {K : Nat} {fn : Func} (hf : Tryz.prog.funcs[K]? = some fn) (hn : (fn.name == "runtime.NumGoroutine") = false) (hb : fn.body.isNone = false) : Ent K:=by
 intro args W
 have h1 : fn.name ≠ "runtime.NumGoroutine":=by simpa using hn
 have h3 : ¬ fn.body = none:=by intro h; simp [h] at hb
 simp [callFunc,hf,h1,Sem.run,program,h3]
def FnF (w : World) (n : Nat) (K : Nat) (caps : Array Value) (g : FT n → Bool) : Prop :=
 Ent K ∧ ∀ (t : FT n) (v : Value) (w' : World),Below w.heap.size w w' → FRep w' w'.heap.size n t v → Calls Tryz.prog K (#[v] ++ caps) w' fun e w'' => e = .returned (.bool (g t)) ∧ Below w'.heap.size w' w''
theorem FnF.up {w w1 : World} {n K : Nat} {caps : Array Value} {g : FT n → Bool} (h : FnF w n K caps g) (hb : Below w.heap.size w w1) : FnF w1 n K caps g :=
 ⟨h.1,fun t v w' hb' hr => h.2 t v w' (hb.trans (hb'.mono hb.size)) hr⟩
theorem any_take {α : Type} (g : α → Bool) (l : List α) (k : Nat) (h : k < l.length) (h0 : (l.take k).any g = false) : (l.take (k + 1)).any g = g l[k]:=by
 rw [List.take_succ_eq_append_getElem h,List.any_append,h0]; simp
theorem any_of_at {α : Type} (g : α → Bool) (l : List α) (k : Nat) (h : k < l.length) (h0 : g l[k] = true) : l.any g = true:=List.any_eq_true.2 ⟨_,List.getElem_mem h,h0⟩
theorem index56_any (n : Nat) (l : List (FT n)) (a : Option Addr) (c K : Nat) (caps : Array Value) (g : FT n → Bool) (w : World) (hR : FRow w w.heap.size n a l) (hG : FnF w n K caps g) :
 Calls Tryz.prog 111 #[.slice a l.length c,.func (.func K) #[] caps] w fun e w' => (∃ r : Int,e = .returned (.int .i64 r) ∧ Hid (decide (0 ≤ r) = l.any g)) ∧ Below w.heap.size w w':=by
 have hK:=hG.1
 unfold Ent at hK
 have HG:=Lib.hid hG
 have HR:=Lib.hid hR
 have hm:=hR.1
 clear hG hR
 go_enter Tryz.func111,Tryz.ntmps111
 go_wp2_with fail
 go_loopw [8] (fun i wr => ∃ j : Nat,j ≤ l.length ∧ i = .int .i64 j ∧ Hid ((l.take j).any g = false) ∧ Below w.heap.size w wr) (fun i _ => l.length - (intOf i).toNat)
 case atStart => exact ⟨0,Nat.zero_le _,rfl,by simp [Hid],Below.refl _ _⟩
 case round =>
  obtain ⟨j,hj,rfl,HT,hbw⟩:=hrel
  have HB:=Lib.hid hbw
  by_cases hlt : j < l.length
  ·obtain ⟨b,off,k,s,sa,sl,sc,rfl,hbl,c0,c1,c2,hr⟩:=(HR.out.up hbw (Nat.le_refl _)).at j hlt
   have hz:=hbw.size
   have hbl' : b < wr.heap.size:=by omega
   have HC:=Lib.hid (HG.out.2 l[j] _ wr hbw (hr.up (Below.refl _ _) hz))
   have HS:=Lib.hid (any_take g l j hlt HT.out)
   have HA:=Lib.hid (any_of_at g l j hlt)
   clear hr hbw
   go_wp2_with fail
   refine HC.out.mono ?_
   rintro e w1 ⟨rfl,hb1⟩
   have hbz:=Lib.hid (HB.out.trans (hb1.mono hz))
   clear hb1
   cases hg : g l[j] with
   | true =>
    have HG1:=Lib.hid hg
    clear hg
    go_wp2_with fail
    all_goals go_ret
    all_goals exact ⟨⟨_,rfl,by rw [Hid,HA.out HG1.out]; simp⟩,hbz.out⟩
   | false =>
    have HG1:=Lib.hid hg
    clear hg
    go_wp2_with fail
    go_roundw
    case rel => exact ⟨j + 1,by omega,by go_num,by rw [Hid,HS.out,HG1.out],hbz.out⟩
    case measure => simp [intOf]; omega
  ·have hje : j = l.length:=by omega
   have HE : Hid (l.any g = false):=by rw [Hid]; have:=HT.out; rw [hje,List.take_length] at this; exact this
   clear HT
   go_wp2_with fail
   all_goals go_ret
   all_goals exact ⟨⟨_,rfl,by rw [Hid,HE.out]; rfl⟩,HB.out⟩
theorem z4r (n : Nat) (l : List (FT n)) (a : Option Addr) (c K : Nat) (caps : Array Value) (g : FT n → Bool) (w : World) (hR : FRow w w.heap.size n a l) (hG : FnF w n K caps g) :
 Calls Tryz.prog 55 #[.slice a l.length c,.func (.func K) #[] caps] w fun e w' => e = .returned (.bool (l.any g)) ∧ Below w.heap.size w w':=by
 have HI:=Lib.hid (index56_any n l a c K caps g w hR hG)
 clear hR hG
 go_enter Tryz.func55,Tryz.ntmps55
 go_wp2_with fail
 refine HI.out.mono ?_
 rintro e w1 ⟨⟨r,rfl,hr⟩,hb1⟩
 go_wp2_with fail
 all_goals go_ret
 all_goals exact ⟨z00 (by rw [← hr.out]),hb1⟩
def SoF (w : World) (K : Nat) (caps : Array Value) (so : Int → ByteArray → Nat → Bool) : Prop:=∀ n,FnF w (n + 1) K caps fun t => so t.1 t.2.1 t.2.2.length
theorem SoF.up {w w1 : World} {K : Nat} {caps : Array Value} {so : Int → ByteArray → Nat → Bool} (h : SoF w K caps so) (hb : Below w.heap.size w w1) : SoF w1 K caps so:=fun n => (h n).up hb
theorem blocks3 {w w1 : World} {C1 C2 C3 : Array Value} {t1 t2 t3 : TypeId} (hb : Below (((w.alloc (.cells C1 t1)).alloc (.cells C2 t2)).alloc (.cells C3 t3)).heap.size (((w.alloc (.cells C1 t1)).alloc (.cells C2 t2)).alloc (.cells C3 t3)) w1) :
 w1.heap[w.heap.size]? = some (.cells C1 t1 (0,0)) ∧ w1.heap[w.heap.size + 1]? = some (.cells C2 t2 (0,0)) ∧ w1.heap[w.heap.size + 2]? = some (.cells C3 t3 (0,0)) ∧ Below w.heap.size w w1 ∧ w.heap.size + 3 ≤ w1.heap.size:=by
 have hz : (((w.alloc (.cells C1 t1)).alloc (.cells C2 t2)).alloc (.cells C3 t3)).heap.size = w.heap.size + 3:=by simp
 refine ⟨?_,?_,?_,?_,?_⟩
 ·rw [hb.block _ (by omega)]; simp only [World.alloc,Array.getElem?_push,Array.size_push]
  rw [if_neg (by omega),if_neg (by omega),if_pos trivial]
 ·rw [hb.block _ (by omega)]; simp only [World.alloc,Array.getElem?_push,Array.size_push]
  rw [if_neg (by omega),if_pos trivial]
 ·rw [hb.block _ (by omega)]; simp only [World.alloc,Array.getElem?_push,Array.size_push]
  rw [if_pos trivial]
 ·exact ((((Below.refl _ w).alloc (Nat.le_refl _) _).alloc (by simp) _).alloc (by simp; omega) _).trans (hb.mono (by omega))
 ·have:=hb.size; omega
theorem allF_succ (so : Int → ByteArray → Nat → Bool) (n : Nat) (k : Int) (s : ByteArray) (of : List (FT n)) : allF so (n + 1) (k,s,of) = (so k s of.length && of.all (allF so n)):=rfl
def
 AllF (so : Int → ByteArray → Nat → Bool) (K : Nat) (caps : Array Value) (n : Nat) : Prop:=∀ (t : FT n) (v : Value) (w : World),FRep w w.heap.size n t v → SoF w K caps so →
 Calls Tryz.prog 105 #[v,.func (.func 106) #[] #[],.func (.func K) #[] caps] w fun e w' => e = .returned (.bool (allF so n t)) ∧ Below w.heap.size w w'
theorem clo59_any (so : Int → ByteArray → Nat → Bool) (K : Nat) (caps : Array Value) (n : Nat) (ih : AllF so K caps n) (b1 b2 : Nat) (t : FT n) (v : Value) (w : World) (h : FRep w w.heap.size n t v) (hs : SoF w K caps so)
 (h1 : b1 < w.heap.size) (h2 : b2 < w.heap.size) (c1 : w.cell? ⟨b1,0,none⟩ = some (.func (.func 106) #[] #[])) (c2 : w.cell? ⟨b2,0,none⟩ = some (.func (.func K) #[] caps)) :
 Calls Tryz.prog 148 #[v,.pointer (some ⟨b1,0,none⟩),.pointer (some ⟨b2,0,none⟩)] w fun e w' => e = .returned (.bool (!allF so n t)) ∧ Below w.heap.size w w':=by
 obtain ⟨k,s,a,l,c,rfl⟩:=h.shape
 have hb : Below w.heap.size w (w.alloc (.cells #[.int .u8 k,.string s,.slice a l c] 61)):=(Below.refl _ w).alloc (Nat.le_refl _) _
 have HI:=Lib.hid (ih t _ (w.alloc (.cells #[.int .u8 k,.string s,.slice a l c] 61)) (h.up hb (by simp)) (hs.up hb))
 have HB:=Lib.hid hb
 clear h hs ih hb
 go_enter Tryz.func148,Tryz.ntmps148
 go_wp2_with fail
 refine HI.out.mono ?_
 rintro e w1 ⟨rfl,hb1⟩
 have HB1:=Lib.hid (HB.out.trans (hb1.mono (by simp)))
 clear hb1
 go_wp2_with fail
 all_goals go_ret
 all_goals exact ⟨rfl,HB1.out⟩
theorem all42_any (so : Int → ByteArray → Nat → Bool) (K : Nat) (caps : Array Value) (n : Nat) : AllF so K caps n:=by
 induction n with
 | zero => intro t v w h; exact h.elim
 | succ n ih =>
  intro t v w h hs
  obtain ⟨k,s,of⟩:=t
  have hfr:=h
  obtain ⟨a,c,rfl,hR⟩:=h
  dsimp only at hR hfr ⊢
  have hmf : ∀ (fn : Fn) (first cap : Array Value) (w : World),(Instr.makeFunc fn first cap).run Tryz.prog w = .ok (.func fn first cap) w:=fun _ _ _ _ => rfl
  have hb3 : Below w.heap.size w (((w.alloc (.cells #[.int .u8 k,.string s,.slice a of.length c] 61)).alloc (.cells #[.func (.func 106) #[] #[]] 128)).alloc (.cells #[.func (.func K) #[] caps] 89)) :=
   (((Below.refl _ w).alloc (Nat.le_refl _) _).alloc (by simp) _).alloc (by simp; omega) _
  have hK:=(hs n).1
  unfold Ent at hK
  have HSO:=Lib.hid ((hs n).2 ⟨k,s,of⟩ (.agg #[.int .u8 k,.string s,.slice a of.length c]) _ hb3 (hfr.up hb3 (by simp; omega)))
  have HS:=Lib.hid hs
  have HR:=Lib.hid hR
  have IH:=Lib.hid ih
  have HB3 : Hid (∀ w1,Below (((w.alloc (.cells #[.int .u8 k,.string s,.slice a of.length c] 61)).alloc (.cells #[.func (.func 106) #[] #[]] 128)).alloc (.cells #[.func (.func K) #[] caps] 89)).heap.size (((w.alloc (.cells #[.int .u8 k,.string s,.slice a of.length c] 61)).alloc (.cells #[.func (.func 106) #[] #[]] 128)).alloc (.cells #[.func (.func K) #[] caps] 89)) w1 → _):=fun w1 hb => blocks3 hb
  clear hs hfr hR hb3 ih
  cases hso : so k s of.length with
  | false =>
   have HO : Hid (allF so (n + 1) (k,s,of) = false):=by rw [Hid,allF_succ,hso]; rfl
   simp only [hso] at HSO
   clear hso
   go_enter Tryz.func105,Tryz.ntmps105
   go_wp2_with fail
   refine HSO.out.mono ?_
   rintro e w1 ⟨rfl,hb1⟩
   obtain ⟨d1,d2,d3,hbw,hsz⟩:=HB3.out w1 hb1
   have HBW:=Lib.hid hbw
   clear hbw hb1
   go_wp2_with fail
   all_goals go_ret
   all_goals exact ⟨z00 (by rw [HO.out]),HBW.out⟩
  | true =>
   have HO : Hid (allF so (n + 1) (k,s,of) = !(of.any fun x => !allF so n x)):=by
    rw [Hid,allF_succ,hso,Bool.true_and,List.all_eq_not_any_not]
   simp only [hso] at HSO
   clear hso
   go_enter Tryz.func105,Tryz.ntmps105
   go_wp2_with fail
   refine HSO.out.mono ?_
   rintro e w1 ⟨rfl,hb1⟩
   obtain ⟨d1,d2,d3,hbw,hsz⟩:=HB3.out w1 hb1
   have HBW:=Lib.hid hbw
   clear hbw hb1
   obtain ⟨x1,x2,x3⟩:=cc3 d1
   have x4:=Lib.cell_of_heap d2 0
   have x5:=Lib.cell_of_heap d3 0
   simp only [List.getElem?_toArray,List.getElem?_cons_zero] at x4 x5
   go_wp2_with fail
   refine (z4b k s a of.length c w1).mono ?_
   rintro e w2 ⟨rfl,hb2⟩
   have hbw2 : Below w.heap.size w w2:=HBW.out.trans (hb2.mono (by omega))
   have HCON:=Lib.hid (z4r n of a c 148 #[.pointer (some ⟨w.heap.size + 1,0,none⟩),.pointer (some ⟨w.heap.size + 2,0,none⟩)] (fun x => !allF so n x) w2 (FRow.up HR.out hbw2 hbw2.size)
    ⟨z2x Tryz.func148 (by kernel_rfl) (by kernel_rfl),fun t v w' hb' hr => by
     have hz2:=hb2.size
     have hz':=hb'.size
     refine clo59_any so K caps n IH.out (w.heap.size + 1) (w.heap.size + 2) t v w' hr (SoF.up HS.out (hbw2.trans (hb'.mono hbw2.size))) (by omega) (by omega) ?_ ?_
     ·exact (hb'.cell (p:=⟨w.heap.size + 1,0,none⟩) (by show w.heap.size + 1 < _; omega)).trans ((hb2.cell (p:=⟨w.heap.size + 1,0,none⟩) (by show w.heap.size + 1 < _; omega)).trans (Lib.cell_of_heap d2 0))
     ·exact (hb'.cell (p:=⟨w.heap.size + 2,0,none⟩) (by show w.heap.size + 2 < _; omega)).trans ((hb2.cell (p:=⟨w.heap.size + 2,0,none⟩) (by show w.heap.size + 2 < _; omega)).trans (Lib.cell_of_heap d3 0))⟩)
   have HBW2:=Lib.hid hbw2
   clear hbw2 hb2
   go_wp2_with fail
   refine HCON.out.mono ?_
   rintro e w3 ⟨rfl,hb3⟩
   have HBW3:=Lib.hid (HBW2.out.trans (hb3.mono HBW2.out.size))
   clear hb3
   go_wp2_with fail
   all_goals go_ret
   all_goals exact ⟨z00 (by rw [HO.out]),HBW3.out⟩
end Go.Proofs.YtpgdplmndnopbaaGreatDoor
namespace Go.Proofs.YtpgdplmndnopbaaGreatDoor
open Go.RowKit
theorem z6g (k : Int) (a1 : Option Addr) (l1 c1 : Nat) (a : Option Addr) (l c : Nat) (lo hi : Int) (ls hs op : Bool) (w : World) :
 Calls Tryz.prog 52 #[.agg #[.int .u8 k,.slice a1 l1 c1,.slice a l c,.int .i64 lo,.bool ls,.int .i64 hi,.bool hs,.bool op]] w fun e w' => e = .returned (.slice a l c) ∧ Below w.heap.size w w':=by
 go_enter Tryz.func52,Tryz.ntmps52
 go_wp2_with fail
 all_goals go_ret
 all_goals exact ⟨rfl,(Below.refl _ _).alloc (Nat.le_refl _) _⟩
def FnX {m : Nat} (w : World) (n : Nat) (K : Nat) (caps : Array Value) (g : XT m n → Bool) : Prop :=
 Ent K ∧ ∀ (t : XT m n) (v : Value) (w' : World),Below w.heap.size w w' → XRep w' w'.heap.size m n t v → Calls Tryz.prog K (#[v] ++ caps) w' fun e w'' => e = .returned (.bool (g t)) ∧ Below w'.heap.size w' w''
theorem FnX.up {m : Nat} {w w1 : World} {n K : Nat} {caps : Array Value} {g : XT m n → Bool} (h : FnX w n K caps g) (hb : Below w.heap.size w w1) : FnX w1 n K caps g :=
 ⟨h.1,fun t v w' hb' hr => h.2 t v w' (hb.trans (hb'.mono hb.size)) hr⟩
theorem index69_any {m : Nat} (n : Nat) (l : List (XT m n)) (a : Option Addr) (c K : Nat) (caps : Array Value) (g : XT m n → Bool) (w : World) (hR : XRow w w.heap.size m n a l) (hG : FnX w n K caps g) :
 Calls Tryz.prog 115 #[.slice a l.length c,.func (.func K) #[] caps] w fun e w' => (∃ r : Int,e = .returned (.int .i64 r) ∧ Hid (decide (0 ≤ r) = l.any g)) ∧ Below w.heap.size w w':=by
 have hK:=hG.1
 unfold Ent at hK
 have HG:=Lib.hid hG
 have HR:=Lib.hid hR
 have hm:=hR.1
 clear hG hR
 go_enter Tryz.func115,Tryz.ntmps115
 go_wp2_with fail
 go_loopw [8] (fun i wr => ∃ j : Nat,j ≤ l.length ∧ i = .int .i64 j ∧ Hid ((l.take j).any g = false) ∧ Below w.heap.size w wr) (fun i _ => l.length - (intOf i).toNat)
 case atStart => exact ⟨0,Nat.zero_le _,rfl,by simp [Hid],Below.refl _ _⟩
 case round =>
  obtain ⟨j,hj,rfl,HT,hbw⟩:=hrel
  have HB:=Lib.hid hbw
  by_cases hlt : j < l.length
  ·obtain ⟨b,off,k,a1,l1,cc1,a2,l2,cc2,lo,ls,hi,hs,op,rfl,hbl,c0,c1,c2,c3,c4,c5,c6,c7,hr⟩:=(HR.out.up hbw (Nat.le_refl _)).at j hlt
   have hz:=hbw.size
   have hbl' : b < wr.heap.size:=by omega
   have HC:=Lib.hid (HG.out.2 l[j] _ wr hbw (hr.up (Below.refl _ _) hz))
   have HS:=Lib.hid (any_take g l j hlt HT.out)
   have HA:=Lib.hid (any_of_at g l j hlt)
   clear hr hbw
   go_wp2_with fail
   refine HC.out.mono ?_
   rintro e w1 ⟨rfl,hb1⟩
   have hbz:=Lib.hid (HB.out.trans (hb1.mono hz))
   clear hb1
   cases hg : g l[j] with
   | true =>
    have HG1:=Lib.hid hg
    clear hg
    go_wp2_with fail
    all_goals go_ret
    all_goals exact ⟨⟨_,rfl,by rw [Hid,HA.out HG1.out]; simp⟩,hbz.out⟩
   | false =>
    have HG1:=Lib.hid hg
    clear hg
    go_wp2_with fail
    go_roundw
    case rel => exact ⟨j + 1,by omega,by go_num,by rw [Hid,HS.out,HG1.out],hbz.out⟩
    case measure => simp [intOf]; omega
  ·have hje : j = l.length:=by omega
   have HE : Hid (l.any g = false):=by rw [Hid]; have:=HT.out; rw [hje,List.take_length] at this; exact this
   clear HT
   go_wp2_with fail
   all_goals go_ret
   all_goals exact ⟨⟨_,rfl,by rw [Hid,HE.out]; rfl⟩,HB.out⟩
theorem contains54_any {m : Nat} (n : Nat) (l : List (XT m n)) (a : Option Addr) (c K : Nat) (caps : Array Value) (g : XT m n → Bool) (w : World) (hR : XRow w w.heap.size m n a l) (hG : FnX w n K caps g) :
 Calls Tryz.prog 68 #[.slice a l.length c,.func (.func K) #[] caps] w fun e w' => e = .returned (.bool (l.any g)) ∧ Below w.heap.size w w':=by
 have HI:=Lib.hid (index69_any n l a c K caps g w hR hG)
 clear hR hG
 go_enter Tryz.func68,Tryz.ntmps68
 go_wp2_with fail
 refine HI.out.mono ?_
 rintro e w1 ⟨⟨r,rfl,hr⟩,hb1⟩
 go_wp2_with fail
 all_goals go_ret
 all_goals exact ⟨z00 (by rw [← hr.out]),hb1⟩
def SoX {m : Nat} (w : World) (K : Nat) (caps : Array Value) (so : Int → List (FT m) → Nat → Spn → Bool) : Prop:=∀ n,FnX w (n + 1) K caps fun t => so t.1 t.2.1 t.2.2.1.length t.2.2.2
theorem SoX.up {m : Nat} {w w1 : World} {K : Nat} {caps : Array Value} {so : Int → List (FT m) → Nat → Spn → Bool} (h : SoX w K caps so) (hb : Below w.heap.size w w1) : SoX w1 K caps so:=fun n => (h n).up hb
theorem allX_succ {m : Nat} (so : Int → List (FT m) → Nat → Spn → Bool) (n : Nat) (k : Int) (is : List (FT m)) (of : List (XT m n)) (lo : Int) (ls : Bool) (hi : Int) (hs op : Bool) : allX so (n + 1) (k,is,of,⟨lo,ls,hi,hs,op⟩) = (so k is of.length ⟨lo,ls,hi,hs,op⟩ && of.all (allX so n)):=rfl
def
 AllX {m : Nat} (so : Int → List (FT m) → Nat → Spn → Bool) (K : Nat) (caps : Array Value) (n : Nat) : Prop:=∀ (t : XT m n) (v : Value) (w : World),XRep w w.heap.size m n t v → SoX w K caps so →
 Calls Tryz.prog 51 #[v,.func (.func 52) #[] #[],.func (.func K) #[] caps] w fun e w' => e = .returned (.bool (allX so n t)) ∧ Below w.heap.size w w'
theorem clo55_any {m : Nat} (so : Int → List (FT m) → Nat → Spn → Bool) (K : Nat) (caps : Array Value) (n : Nat) (ih : AllX so K caps n) (b1 b2 : Nat) (t : XT m n) (v : Value) (w : World) (h : XRep w w.heap.size m n t v) (hso' : SoX w K caps so)
 (h1 : b1 < w.heap.size) (h2 : b2 < w.heap.size) (c1 : w.cell? ⟨b1,0,none⟩ = some (.func (.func 52) #[] #[])) (c2 : w.cell? ⟨b2,0,none⟩ = some (.func (.func K) #[] caps)) :
 Calls Tryz.prog 109 #[v,.pointer (some ⟨b1,0,none⟩),.pointer (some ⟨b2,0,none⟩)] w fun e w' => e = .returned (.bool (!allX so n t)) ∧ Below w.heap.size w w':=by
 obtain ⟨k,a1,l1,c1,a,l,c,lo,ls,hi,hs,op,rfl⟩:=h.shape
 have hb : Below w.heap.size w (w.alloc (.cells #[.int .u8 k,.slice a1 l1 c1,.slice a l c,.int .i64 lo,.bool ls,.int .i64 hi,.bool hs,.bool op] 28)):=(Below.refl _ w).alloc (Nat.le_refl _) _
 have HI:=Lib.hid (ih t _ (w.alloc (.cells #[.int .u8 k,.slice a1 l1 c1,.slice a l c,.int .i64 lo,.bool ls,.int .i64 hi,.bool hs,.bool op] 28)) (h.up hb (by simp)) (hso'.up hb))
 have HB:=Lib.hid hb
 clear h hso' ih hb
 go_enter Tryz.func109,Tryz.ntmps109
 go_wp2_with fail
 refine HI.out.mono ?_
 rintro e w1 ⟨rfl,hb1⟩
 have HB1:=Lib.hid (HB.out.trans (hb1.mono (by simp)))
 clear hb1
 go_wp2_with fail
 all_goals go_ret
 all_goals exact ⟨rfl,HB1.out⟩
theorem z6y {m : Nat} (so : Int → List (FT m) → Nat → Spn → Bool) (K : Nat) (caps : Array Value) (n : Nat) : AllX so K caps n:=by
 induction n with
 | zero => intro t v w h; exact h.elim
 | succ n ih =>
  intro t v w h hso'
  obtain ⟨k,is,of,lo,ls,hi,hs,op⟩:=t
  have hfr:=h
  obtain ⟨a1,c1,a,c,rfl,hR1,hR⟩:=h
  dsimp only at hR hfr ⊢
  clear hR1
  have hmf : ∀ (fn : Fn) (first cap : Array Value) (w : World),(Instr.makeFunc fn first cap).run Tryz.prog w = .ok (.func fn first cap) w:=fun _ _ _ _ => rfl
  have hb3 : Below w.heap.size w (((w.alloc (.cells #[.int .u8 k,.slice a1 is.length c1,.slice a of.length c,.int .i64 lo,.bool ls,.int .i64 hi,.bool hs,.bool op] 28)).alloc (.cells #[.func (.func 52) #[] #[]] 92)).alloc (.cells #[.func (.func K) #[] caps] 29)) :=
   (((Below.refl _ w).alloc (Nat.le_refl _) _).alloc (by simp) _).alloc (by simp; omega) _
  have hK:=(hso' n).1
  unfold Ent at hK
  have HSO:=Lib.hid ((hso' n).2 ⟨k,is,of,lo,ls,hi,hs,op⟩ (.agg #[.int .u8 k,.slice a1 is.length c1,.slice a of.length c,.int .i64 lo,.bool ls,.int .i64 hi,.bool hs,.bool op]) _ hb3 (hfr.up hb3 (by simp; omega)))
  have HS:=Lib.hid hso'
  have HR:=Lib.hid hR
  have IH:=Lib.hid ih
  have HB3 : Hid (∀ w1,Below (((w.alloc (.cells #[.int .u8 k,.slice a1 is.length c1,.slice a of.length c,.int .i64 lo,.bool ls,.int .i64 hi,.bool hs,.bool op] 28)).alloc (.cells #[.func (.func 52) #[] #[]] 92)).alloc (.cells #[.func (.func K) #[] caps] 29)).heap.size (((w.alloc (.cells #[.int .u8 k,.slice a1 is.length c1,.slice a of.length c,.int .i64 lo,.bool ls,.int .i64 hi,.bool hs,.bool op] 28)).alloc (.cells #[.func (.func 52) #[] #[]] 92)).alloc (.cells #[.func (.func K) #[] caps] 29)) w1 → _):=fun w1 hb => blocks3 hb
  clear hso' hfr hR hb3 ih
  cases hso : so k is of.length ⟨lo,ls,hi,hs,op⟩ with
  | false =>
   have HO : Hid (allX so (n + 1) (k,is,of,⟨lo,ls,hi,hs,op⟩) = false):=by rw [Hid,allX_succ,hso]; rfl
   simp only [hso] at HSO
   clear hso
   go_enter Tryz.func51,Tryz.ntmps51
   go_wp2_with fail
   refine HSO.out.mono ?_
   rintro e w1 ⟨rfl,hb1⟩
   obtain ⟨d1,d2,d3,hbw,hsz⟩:=HB3.out w1 hb1
   have HBW:=Lib.hid hbw
   clear hbw hb1
   go_wp2_with fail
   all_goals go_ret
   all_goals exact ⟨z00 (by rw [HO.out]),HBW.out⟩
  | true =>
   have HO : Hid (allX so (n + 1) (k,is,of,⟨lo,ls,hi,hs,op⟩) = !(of.any fun x => !allX so n x)):=by
    rw [Hid,allX_succ,hso,Bool.true_and,List.all_eq_not_any_not]
   simp only [hso] at HSO
   clear hso
   go_enter Tryz.func51,Tryz.ntmps51
   go_wp2_with fail
   refine HSO.out.mono ?_
   rintro e w1 ⟨rfl,hb1⟩
   obtain ⟨d1,d2,d3,hbw,hsz⟩:=HB3.out w1 hb1
   have HBW:=Lib.hid hbw
   clear hbw hb1
   obtain ⟨x1,x2,x3,y3,y4,y5,y6,y7⟩:=cc8 d1
   have x4:=Lib.cell_of_heap d2 0
   have x5:=Lib.cell_of_heap d3 0
   simp only [List.getElem?_toArray,List.getElem?_cons_zero] at x4 x5
   go_wp2_with fail
   refine (z6g k a1 is.length c1 a of.length c lo hi ls hs op w1).mono ?_
   rintro e w2 ⟨rfl,hb2⟩
   have hbw2 : Below w.heap.size w w2:=HBW.out.trans (hb2.mono (by omega))
   have HCON:=Lib.hid (contains54_any n of a c 109 #[.pointer (some ⟨w.heap.size + 1,0,none⟩),.pointer (some ⟨w.heap.size + 2,0,none⟩)] (fun x => !allX so n x) w2 (XRow.up HR.out hbw2 hbw2.size)
    ⟨z2x Tryz.func109 (by kernel_rfl) (by kernel_rfl),fun t v w' hb' hr => by
     have hz2:=hb2.size
     have hz':=hb'.size
     refine clo55_any so K caps n IH.out (w.heap.size + 1) (w.heap.size + 2) t v w' hr (SoX.up HS.out (hbw2.trans (hb'.mono hbw2.size))) (by omega) (by omega) ?_ ?_
     ·exact (hb'.cell (p:=⟨w.heap.size + 1,0,none⟩) (by show w.heap.size + 1 < _; omega)).trans ((hb2.cell (p:=⟨w.heap.size + 1,0,none⟩) (by show w.heap.size + 1 < _; omega)).trans (Lib.cell_of_heap d2 0))
     ·exact (hb'.cell (p:=⟨w.heap.size + 2,0,none⟩) (by show w.heap.size + 2 < _; omega)).trans ((hb2.cell (p:=⟨w.heap.size + 2,0,none⟩) (by show w.heap.size + 2 < _; omega)).trans (Lib.cell_of_heap d3 0))⟩)
   have HBW2:=Lib.hid hbw2
   clear hbw2 hb2
   go_wp2_with fail
   refine HCON.out.mono ?_
   rintro e w3 ⟨rfl,hb3⟩
   have HBW3:=Lib.hid (HBW2.out.trans (hb3.mono HBW2.out.size))
   clear hb3
   go_wp2_with fail
   all_goals go_ret
   all_goals exact ⟨z00 (by rw [HO.out]),HBW3.out⟩
end Go.Proofs.YtpgdplmndnopbaaGreatDoor
namespace Go.Proofs.YtpgdplmndnopbaaGreatDoor
open Go.RowKit
theorem z2q {k : IntKind} {a b : Int} (h : a = b) : Ending.returned (.int k a) = .returned (.int k b):=by rw [h]
theorem below27_any (n : Int) (w : World) : Calls Tryz.prog 112 #[.int .i64 n] w fun e w' => e = .returned (.bool (z4h n)) ∧ w' = w:=by
 go_enter Tryz.func112,Tryz.ntmps112
 go_wp2
 all_goals go_ret
 all_goals (refine z1o ?_; unfold z4h; rw [Bool.eq_iff_iff]; simp_all; try omega)
def Spn.val (i : Spn) : Value:=.agg #[.int .i64 i.low,.bool i.ls,.int .i64 i.high,.bool i.hs,.bool i.op]
theorem z5e (i : Spn) (w : World) : Calls Tryz.prog 58 #[i.val] w fun e w' => e = .returned (.int .i64 (ivR i)) ∧ Below w.heap.size w w':=by
 obtain ⟨lo,ls,hi,hs,op⟩:=i
 unfold Spn.val
 dsimp only
 go_enter Tryz.func58,Tryz.ntmps58
 go_wp2_with (go_at_call 112; refine (below27_any _ _).mono ?_; rintro e w' ⟨rfl,rfl⟩)
 all_goals go_ret
 all_goals (refine ⟨?_,(Below.refl _ _).alloc (Nat.le_refl _) _⟩; refine z2q ?_; unfold ivR; dsimp only; simp_all; try omega)
end Go.Proofs.YtpgdplmndnopbaaGreatDoor
