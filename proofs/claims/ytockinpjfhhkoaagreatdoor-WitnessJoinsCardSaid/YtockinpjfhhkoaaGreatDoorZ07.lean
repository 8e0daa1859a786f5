/- What a parser builds, in memory: trees of whatever depth, of blocks that are told. No program. -/
import Derived.Test.YtockinpjfhhkoaaGreatDoorZ05
import Derived.Test.YtockinpjfhhkoaaGreatDoorZ06
import Derived.StillTailTactics
import Derived.WalkLawsBesides
import Derived.Deep.RegionLaw
set_option maxRecDepth 100000
set_option maxHeartbeats 16000000
open List renaming getElem_cons_zero → J5, getElem_cons_succ → J6
open Go.Lib renaming cell_of_heap → Jc, frozen_of_heap → Jf, hid → Jh
namespace Go.Proofs.YtockinpjfhhkoaaGreatDoor
open Go.RowKit
def cutP (p : Nat → Bool) (w : World) : World:={ w with heap:=w.heap.mapIdx fun i o => if p i then o else .stringIter ⟨#[]⟩ 0 }
theorem cutP_cell {p : Nat → Bool} {w : World} {b off : Nat} {x : Value} (h : (cutP p w).cell? ⟨b,off,none⟩ = some x) : p b = true ∧ w.cell? ⟨b,off,none⟩ = some x:=by
 unfold World.cell? cutP at h
 simp only [Array.getElem?_mapIdx] at h
 cases hq : w.heap[b]? with
 | none => rw [hq] at h; simp at h
 | some o =>
  rw [hq] at h
  cases hp : p b with
  | false => rw [hp] at h; simp at h
  | true =>
   rw [hp] at h
   refine ⟨rfl,?_⟩
   unfold World.cell?
   rw [hq]
   simpa using h
theorem z3f {p : Nat → Bool} {w : World} {b off : Nat} {x : Value} (hp : p b = true) (h : w.cell? ⟨b,off,none⟩ = some x) : (cutP p w).cell? ⟨b,off,none⟩ = some x:=by
 unfold World.cell? at h ⊢
 unfold cutP
 simp only [Array.getElem?_mapIdx]
 cases hq : w.heap[b]? with
 | none => rw [hq] at h; simp at h
 | some o =>
  rw [hq] at h
  simpa [hp] using h
def Has (B : Nat) (w w' : World) : Prop:=∀ (b off : Nat) (x : Value),b < B → w.cell? ⟨b,off,none⟩ = some x → w'.cell? ⟨b,off,none⟩ = some x
theorem RowR.le {w w' : World} {B B' C : Nat} {α : Type} {R R' : α → Value → Prop} {a : Option Addr} {l : List α} (hb : Has B w w') (hB : B ≤ B') (hR : ∀ x ∈ l,∀ v,R x v → R' x v) (h : RowR w B C R a l) : RowR w' B' C R' a l:=by
 obtain ⟨hm,h⟩:=h
 refine ⟨hm,?_⟩
 rcases h with h | ⟨b,off,ha,hlt,hc⟩
 ·exact .inl h
 ·refine .inr ⟨b,off,ha,by omega,fun i hi => ?_⟩
  obtain ⟨vs,h1,h2,h3⟩:=hc i hi
  refine ⟨vs,h1,fun j hj => ?_,hR _ (List.getElem_mem _) _ h3⟩
  have:=h2 j hj
  rw [List.getElem?_eq_getElem (by omega)] at this ⊢
  exact hb _ _ _ hlt this
theorem FRep.le {w w' : World} {B B' : Nat} (hb : Has B w w') (hB : B ≤ B') : ∀ {n : Nat} {t : FT n} {v : Value},FRep w B n t v → FRep w' B' n t v
 | 0,_,_,h => h.elim
 | _ + 1,_,_,⟨a,cap,hv,h⟩ => ⟨a,cap,hv,h.le hb hB fun _ _ _ hx => FRep.le hb hB hx⟩
theorem XRep.le {w w' : World} {B B' m : Nat} (hb : Has B w w') (hB : B ≤ B') : ∀ {n : Nat} {t : XT m n} {v : Value},XRep w B m n t v → XRep w' B' m n t v
 | 0,_,_,h => h.elim
 | _ + 1,_,_,⟨a1,c1,a2,c2,hv,h1,h2⟩ => ⟨a1,c1,a2,c2,hv,h1.le hb hB fun _ _ _ hx => FRep.le hb hB hx,h2.le hb hB fun _ _ _ hx => XRep.le hb hB hx⟩
/-! Of a depth more. -/
def liftM {m : Nat} : (n : Nat) → XT m n → XT (m + 1) n
 | 0,t => nomatch t
 | n + 1,t => (t.1,t.2.1.map (z7m m),t.2.2.1.map (liftM n),t.2.2.2)
def liftX {m : Nat} : (n : Nat) → XT m n → XT m (n + 1)
 | 0,t => nomatch t
 | n + 1,t => (t.1,t.2.1,t.2.2.1.map (liftX n),t.2.2.2)
theorem toX_liftM {m : Nat} : ∀ (n : Nat) (t : XT m n),toX n (liftM n t) = toX n t
 | 0,t => nomatch t
 | n + 1,t => by
  rw [toX,toX,liftM]
  simp only [List.map_map]
  congr 1
  ·exact List.map_congr_left fun x _ => toF_lift m x
  ·exact List.map_congr_left fun x _ => toX_liftM n x
theorem toX_liftX {m : Nat} : ∀ (n : Nat) (t : XT m n),toX (n + 1) (liftX n t) = toX n t
 | 0,t => nomatch t
 | n + 1,t => by
  rw [toX,toX,liftX]
  simp only [List.map_map]
  congr 1
  exact List.map_congr_left fun x _ => toX_liftX n x
theorem RowR.map {w : World} {B C : Nat} {α β : Type} {R : α → Value → Prop} {R' : β → Value → Prop} (f : α → β) {a : Option Addr} {l : List α} (hR : ∀ x ∈ l,∀ v,R x v → R' (f x) v) (h : RowR w B C R a l) : RowR w B C R' a (l.map f):=by
 obtain ⟨hm,h⟩:=h
 refine ⟨by simpa using hm,?_⟩
 rcases h with h | ⟨b,off,ha,hlt,hc⟩
 ·exact .inl (by rw [h]; rfl)
 ·refine .inr ⟨b,off,ha,hlt,fun i hi => ?_⟩
  have hi' : i < l.length:=by simpa using hi
  obtain ⟨vs,h1,h2,h3⟩:=hc i hi'
  refine ⟨vs,h1,h2,?_⟩
  rw [List.getElem_map]
  exact hR _ (List.getElem_mem _) _ h3
theorem repX_liftM {w : World} {B m : Nat} : ∀ {n : Nat} {t : XT m n} {v : Value},XRep w B m n t v → XRep w B (m + 1) n (liftM n t) v
 | 0,t,_,_ => nomatch t
 | n + 1,t,v,⟨a1,c1,a2,c2,hv,h1,h2⟩ => by
  rw [liftM]
  exact ⟨a1,c1,a2,c2,by rw [hv]; simp,RowR.map (z7m m) (fun x _ v h => rep_lift h) h1,RowR.map (liftM n) (fun x _ v h => repX_liftM h) h2⟩
theorem repX_liftX {w : World} {B m : Nat} : ∀ {n : Nat} {t : XT m n} {v : Value},XRep w B m n t v → XRep w B m (n + 1) (liftX n t) v
 | 0,t,_,_ => nomatch t
 | n + 1,t,v,⟨a1,c1,a2,c2,hv,h1,h2⟩ => by
  rw [liftX]
  exact ⟨a1,c1,a2,c2,by rw [hv]; simp,h1,RowR.map (liftX n) (fun x _ v h => repX_liftX h) h2⟩
theorem rep_to {w : World} {B n : Nat} {t : FT n} {v : Value} (h : FRep w B n t v) : ∀ k : Nat,∃ t' : FT (n + k),toF (n + k) t' = toF n t ∧ FRep w B (n + k) t' v
 | 0 => ⟨t,rfl,h⟩
 | k + 1 => by
  obtain ⟨t',h1,h2⟩:=rep_to h k
  exact ⟨z7m _ t',(toF_lift _ _).trans h1,rep_lift h2⟩
theorem repM_to {w : World} {B m n : Nat} {t : XT m n} {v : Value} (h : XRep w B m n t v) : ∀ k : Nat,∃ t' : XT (m + k) n,toX n t' = toX n t ∧ XRep w B (m + k) n t' v
 | 0 => ⟨t,rfl,h⟩
 | k + 1 => by
  obtain ⟨t',h1,h2⟩:=repM_to h k
  exact ⟨liftM _ t',(toX_liftM _ _).trans h1,repX_liftM h2⟩
theorem repX_to {w : World} {B m n : Nat} {t : XT m n} {v : Value} (h : XRep w B m n t v) : ∀ k : Nat,∃ t' : XT m (n + k),toX (n + k) t' = toX n t ∧ XRep w B m (n + k) t' v
 | 0 => ⟨t,rfl,h⟩
 | k + 1 => by
  obtain ⟨t',h1,h2⟩:=repX_to h k
  exact ⟨liftX _ t',(toX_liftX _ _).trans h1,repX_liftX h2⟩
def XRepI (w : World) (B : Nat) (t : X) (v : Value) : Prop:=∃ (m n : Nat) (t' : XT m n),toX n t' = t ∧ XRep w B m n t' v
theorem FRepI.le {w w' : World} {B B' : Nat} {t : F} {v : Value} (hb : Has B w w') (hB : B ≤ B') (h : FRepI w B t v) : FRepI w' B' t v:=by
 obtain ⟨n,t',h1,h2⟩:=h; exact ⟨n,t',h1,h2.le hb hB⟩
theorem XRepI.le {w w' : World} {B B' : Nat} {t : X} {v : Value} (hb : Has B w w') (hB : B ≤ B') (h : XRepI w B t v) : XRepI w' B' t v:=by
 obtain ⟨m,n,t',h1,h2⟩:=h; exact ⟨m,n,t',h1,h2.le hb hB⟩
/-! What is built of blocks that p names. -/
def FI (p : Nat → Bool) (w : World) (t : F) (v : Value) : Prop:=FRepI (cutP p w) w.heap.size t v
def XI (p : Nat → Bool) (w : World) (t : X) (v : Value) : Prop:=XRepI (cutP p w) w.heap.size t v
def Goes (p q : Nat → Bool) (w w' : World) : Prop:=w.heap.size ≤ w'.heap.size ∧ ∀ b,b < w.heap.size → p b = true → q b = true ∧ w'.heap[b]? = w.heap[b]?
theorem Goes.has {p q : Nat → Bool} {w w' : World} (h : Goes p q w w') : Has w.heap.size (cutP p w) (cutP q w'):=by
 intro b off x hb hx
 obtain ⟨hp,hc⟩:=cutP_cell hx
 obtain ⟨hq,he⟩:=h.2 b hb hp
 refine z3f hq ?_
 unfold World.cell? at hc ⊢
 rw [he]; exact hc
theorem FI.go {p q : Nat → Bool} {w w' : World} {t : F} {v : Value} (h : FI p w t v) (hg : Goes p q w w') : FI q w' t v:=FRepI.le hg.has hg.1 h
theorem XI.go {p q : Nat → Bool} {w w' : World} {t : X} {v : Value} (h : XI p w t v) (hg : Goes p q w w') : XI q w' t v:=XRepI.le hg.has hg.1 h
theorem XI.real {p : Nat → Bool} {w : World} {t : X} {v : Value} (h : XI p w t v) : XRepI w w.heap.size t v:=XRepI.le (fun _ _ _ _ hx => (cutP_cell hx).2) (Nat.le_refl _) h
theorem FI.shape {p : Nat → Bool} {w : World} {t : F} {v : Value} (h : FI p w t v) : ∃ k s a l c,v = .agg #[.int .u8 k,.string s,.slice a l c]:=by
 obtain ⟨n,t',_,h2⟩:=h; exact h2.shape
theorem XI.shape {p : Nat → Bool} {w : World} {t : X} {v : Value} (h : XI p w t v) :
 ∃ k a1 l1 c1 a2 l2 c2 lo ls hi hs op,v = .agg #[.int .u8 k,.slice a1 l1 c1,.slice a2 l2 c2,.int .i64 lo,.bool ls,.int .i64 hi,.bool hs,.bool op]:=by
 obtain ⟨m,n,t',_,h2⟩:=h; exact h2.shape
/-! What is put together. -/
theorem FI.none (p : Nat → Bool) (w : World) (k : Int) (s : ByteArray) (a : Option Addr) (c : Nat) : FI p w (.mk k s []) (.agg #[.int .u8 k,.string s,.slice a 0 c]) :=
 ⟨1,(k,s,[]),by simp [toF],a,c,rfl,by simp,.inl rfl⟩
theorem FI.one {p : Nat → Bool} {w : World} {t : F} {k1 : Int} {s1 : ByteArray} {a1 : Option Addr} {l1 c1 : Nat} (h : FI p w t (.agg #[.int .u8 k1,.string s1,.slice a1 l1 c1])) (k : Int) (s : ByteArray) (g c : Nat) (fr : Nat × Nat) (hp : p g = true)
 (hg : w.heap[g]? = some (.cells #[.int .u8 k1,.string s1,.slice a1 l1 c1] 25 fr)) : FI p w (.mk k s [t]) (.agg #[.int .u8 k,.string s,.slice (some ⟨g,0,Option.none⟩) 1 c]):=by
 obtain ⟨n,t',h1,h2⟩:=h
 refine ⟨n + 1,(k,s,[t']),by simp [toF,h1],_,c,rfl,by simp,.inr ⟨g,0,rfl,(Array.getElem?_eq_some_iff.1 hg).1,fun i hi => ?_⟩⟩
 have hi0 : i = 0:=by simp at hi; omega
 subst hi0
 refine ⟨[.int .u8 k1,.string s1,.slice a1 l1 c1],rfl,fun j hj => ?_,h2⟩
 rw [List.getElem?_eq_getElem (by simpa using hj)]
 refine z3f hp ?_
 rw [Jc hg]
 match j,hj with
 | 0,_ => rfl
 | 1,_ => rfl
 | 2,_ => rfl
theorem FI.two {p : Nat → Bool} {w : World} {t u : F} {k1 k2 : Int} {s1 s2 : ByteArray} {a1 a2 : Option Addr} {l1 c1 l2 c2 : Nat} (h : FI p w t (.agg #[.int .u8 k1,.string s1,.slice a1 l1 c1])) (h' : FI p w u (.agg #[.int .u8 k2,.string s2,.slice a2 l2 c2]))
 (k : Int) (s : ByteArray) (g c : Nat) (fr : Nat × Nat) (hp : p g = true)
 (hg : w.heap[g]? = some (.cells #[.int .u8 k1,.string s1,.slice a1 l1 c1,.int .u8 k2,.string s2,.slice a2 l2 c2] 25 fr)) : FI p w (.mk k s [t,u]) (.agg #[.int .u8 k,.string s,.slice (some ⟨g,0,Option.none⟩) 2 c]):=by
 obtain ⟨n,t',h1,h2⟩:=h
 obtain ⟨n',u',h1',h2'⟩:=h'
 obtain ⟨t2,e1,e2⟩:=rep_to h2 n'
 obtain ⟨u2,e1',e2'⟩:=rep_to h2' n
 rw [h1] at e1
 rw [h1'] at e1'
 revert u2
 rw [Nat.add_comm n' n]
 intro u2 e1' e2'
 refine ⟨n + n' + 1,(k,s,[t2,u2]),by simp [toF,e1,e1'],_,c,rfl,by simp,.inr ⟨g,0,rfl,(Array.getElem?_eq_some_iff.1 hg).1,fun i hi => ?_⟩⟩
 have hi2 : i = 0 ∨ i = 1:=by simp at hi; omega
 rcases hi2 with rfl | rfl
 ·refine ⟨[.int .u8 k1,.string s1,.slice a1 l1 c1],rfl,fun j hj => ?_,e2⟩
  rw [List.getElem?_eq_getElem (by simpa using hj)]
  refine z3f hp ?_
  rw [Jc hg]
  match j,hj with
  | 0,_ => rfl
  | 1,_ => rfl
  | 2,_ => rfl
 ·refine ⟨[.int .u8 k2,.string s2,.slice a2 l2 c2],rfl,fun j hj => ?_,e2'⟩
  rw [List.getElem?_eq_getElem (by simpa using hj)]
  refine z3f hp ?_
  rw [Jc hg]
  match j,hj with
  | 0,_ => rfl
  | 1,_ => rfl
  | 2,_ => rfl
open Go.RowKit
def BtP (pb : Nat) (w w' : World) : Prop:=w'.os = w.os ∧ w'.tape = w.tape ∧ w'.output = w.output ∧ w.heap.size ≤ w'.heap.size ∧ ∀ k,k < w.heap.size → k ≠ pb → w'.heap[k]? = w.heap[k]?
theorem BtP.refl (pb : Nat) (w : World) : BtP pb w w:=⟨rfl,rfl,rfl,Nat.le_refl _,fun _ _ _ => rfl⟩
theorem BtP.trans {pb : Nat} {w w' w'' : World} (h : BtP pb w w') (k : BtP pb w' w'') : BtP pb w w'' :=
 ⟨k.1.trans h.1,k.2.1.trans h.2.1,k.2.2.1.trans h.2.2.1,Nat.le_trans h.2.2.2.1 k.2.2.2.1,fun i hi hp => (k.2.2.2.2 i (Nat.lt_of_lt_of_le hi h.2.2.2.1) hp).trans (h.2.2.2.2 i hi hp)⟩
theorem BtP.of_below {pb : Nat} {w w' : World} (h : Below w.heap.size w w') : BtP pb w w':=⟨h.os,h.tape,h.output,h.size,fun k hk _ => h.block k hk⟩
theorem BtP.alloc {pb : Nat} {w w' : World} (h : BtP pb w w') (o : Obj) : BtP pb w (w'.alloc o):=h.trans (.of_below ((Below.refl _ _).alloc (Nat.le_refl _) _))
theorem BtP.drew {pb : Nat} {w w' : World} (h : BtP pb w w') : BtP pb w w'.drew:=h
theorem BtP.at {pb : Nat} {w w' : World} (h : BtP pb w w') {k : Nat} {o : Obj} (hk : w.heap[k]? = some o) (hp : k ≠ pb) : w'.heap[k]? = some o :=
 (h.2.2.2.2 k (Array.getElem?_eq_some_iff.1 hk).1 hp).trans hk
def Ends (l : List Tok) : Prop:=∃ (l0 : List Tok) (stop : Int),l = l0 ++ [⟨0,⟨#[]⟩,stop⟩]
theorem Ends.cons {l : List Tok} (h : Ends l) : ∃ t r,l = t :: r:=by
 obtain ⟨l0,stop,rfl⟩:=h
 cases l0 with
 | nil => exact ⟨_,_,rfl⟩
 | cons t r => exact ⟨t,_,rfl⟩
theorem Ends.tail {t : Tok} {r : List Tok} (h : Ends (t :: r)) (hk : t.kind ≠ 0 ∨ t.text.data.toList ≠ []) : Ends r:=by
 obtain ⟨l0,stop,e⟩:=h
 cases l0 with
 | nil =>
  injection e with e1 _
  subst e1
  rcases hk with h | h <;> exact absurd rfl h
 | cons t' r' =>
  injection e with _ e2
  exact ⟨r',stop,e2⟩
def TokG (t : Tok) : Prop:=t.text.size ≤ 1048576 ∧ (t.kind = 2 → t.text.data.toList ≠ [] ∧ t.text.data.toList.length ≤ 18 ∧ ∀ c ∈ t.text.data.toList,48 ≤ c ∧ c ≤ 57)
structure Ps (pb tb : Nat) (w : World) (l : List Tok) (deep : Nat) : Prop where
 blk : ∃ off cap,w.heap[pb]? = some (.cells #[.slice (some ⟨tb,off,none⟩) l.length cap,.int .i64 deep] 196 (0,0)) ∧ l.length ≤ cap ∧ cap ≤ 9223372036854775807 ∧ tb ≠ pb ∧ tb < w.heap.size ∧ TokC w tb off l
 ends : Ends l
 toks : ∀ t ∈ l,TokG t
theorem Ps.lt {pb tb deep : Nat} {w : World} {l : List Tok} (h : Ps pb tb w l deep) : pb < w.heap.size:=by
 obtain ⟨off,cap,hb,_⟩:=h.blk
 exact (Array.getElem?_eq_some_iff.1 hb).1
theorem TokC.agree {w w' : World} {b off : Nat} {l : List Tok} (h : TokC w b off l) (he : w'.heap[b]? = w.heap[b]?) : TokC w' b off l:=by
 intro i hi
 have:=h i hi
 unfold World.cell? at this ⊢
 simp only at this ⊢
 rw [he]; exact this
theorem Ps.below {pb tb deep : Nat} {w w' : World} {l : List Tok} (h : Ps pb tb w l deep) (hb : Below w.heap.size w w') : Ps pb tb w' l deep:=by
 obtain ⟨off,cap,h1,h2,h3,h4,h5,h6⟩:=h.blk
 exact ⟨⟨off,cap,(hb.block _ h.lt).trans h1,h2,h3,h4,Nat.lt_of_lt_of_le h5 hb.size,h6.agree (hb.block _ h5)⟩,h.ends,h.toks⟩
def thr (c at_ : Int) : List PanicEntry:=[{ v:=.iface 190 (.agg #[.int .i64 c,.int .i64 at_]),recovered:=false }]
theorem z0b {w : World} {o : Obj} {k : Nat} (h : k = w.heap.size) : (w.alloc o).heap[k]? = some o:=by subst h; exact Array.getElem?_push_size
theorem z1c {w : World} {o x : Obj} {k : Nat} (h : w.heap[k]? = some x) : (w.alloc o).heap[k]? = some x :=
 (Lib.alloc_old w o k (Array.getElem?_eq_some_iff.1 h).1).trans h
theorem Ps.drew {pb tb deep : Nat} {w : World} {l : List Tok} (h : Ps pb tb w l deep) : Ps pb tb w.drew l deep:=⟨h.blk,h.ends,h.toks⟩
theorem Ps.alloc {pb tb deep : Nat} {w : World} {l : List Tok} (h : Ps pb tb w l deep) (o : Obj) : Ps pb tb (w.alloc o) l deep:=h.below ((Below.refl _ _).alloc (Nat.le_refl _) o)
theorem Ps.at {pb tb deep : Nat} {w : World} {k : Int} {s : ByteArray} {pl : Int} {r : List Tok} (h : Ps pb tb w (⟨k,s,pl⟩ :: r) deep) :
 ∃ off cap,w.cell? ⟨pb,0,none⟩ = some (.slice (some ⟨tb,off,none⟩) (r.length + 1) cap) ∧ w.cell? ⟨pb,1,none⟩ = some (.int .i64 deep) ∧ w.frozen? ⟨pb,0,none⟩ = false ∧ w.frozen? ⟨pb,1,none⟩ = false ∧
  w.cell? ⟨tb,off,none⟩ = some (.int .u8 k) ∧ w.cell? ⟨tb,off + 1,none⟩ = some (.string s) ∧ w.cell? ⟨tb,off + 2,none⟩ = some (.int .i64 pl) ∧ pb < w.heap.size ∧ tb < w.heap.size ∧ tb ≠ pb ∧ r.length + 1 ≤ cap ∧ cap ≤ 9223372036854775807 ∧
  w.heap[pb]? = some (.cells #[.slice (some ⟨tb,off,none⟩) (r.length + 1) cap,.int .i64 deep] 196 (0,0)) ∧ TokC w tb off (⟨k,s,pl⟩ :: r):=by
 obtain ⟨off,cap,hb,hcl,hcm,hne,hlt,hT⟩:=h.blk
 obtain ⟨k0,k1,k2⟩:=hT 0 (by simp)
 simp only [Nat.zero_mul,Nat.add_zero,J5] at k0 k1 k2
 exact ⟨off,cap,by rw [Jc hb]; rfl,by rw [Jc hb]; rfl,Jf hb 0,Jf hb 1,k0,k1,k2,h.lt,hlt,hne,by simpa using hcl,hcm,hb,hT⟩
theorem fld51 (x y z : Value) (w : World) : (Instr.field 194 (.agg #[x,y,z]) 0).run Tryz.prog w = .ok x w ∧ (Instr.field 194 (.agg #[x,y,z]) 1).run Tryz.prog w = .ok y w ∧ (Instr.field 194 (.agg #[x,y,z]) 2).run Tryz.prog w = .ok z w:=by
 refine ⟨?_,?_,?_⟩ <;> simp [Instr.field,run_underlying Tryz.underlying194,Sem.run_bind,Result.andThen,go_sem] <;> rfl
theorem slice47 (tb off n cap : Nat) (h1 : 1 ≤ n) (hc : 2 ≤ cap) (w : World) : (Instr.slice 186 (.slice (some ⟨tb,off,none⟩) n cap) (some (.int .i64 1)) none none).run Tryz.prog w = .ok (.slice (some ⟨tb,off + 3,none⟩) (n - 1) (cap - 1)) w:=by
 rw [run_slice_l (P:=Tryz.prog) (t:=186) (a:=some ⟨tb,off,none⟩) (len:=n) (cap:=cap) (ht:=by kernel_rfl) (kl:=.i64) (l:=1) (h0:=by decide) (h1:=by omega)]
 have hs : (sizeOf (Tryz.prog.elem 186)).run Tryz.prog w = .ok 3 w:=Tryz.sizeOf194 w
 rw [hs]
 simp only [Result.andThen,sliced]
 rw [if_neg (by simp; omega)]
 rfl
theorem z3q (pb tb deep : Nat) (k : Int) (s : ByteArray) (pl : Int) (r : List Tok) (w : World) (h : Ps pb tb w (⟨k,s,pl⟩ :: r) deep) :
 Calls Tryz.prog 202 #[.pointer (some ⟨pb,0,none⟩)] w fun e w' => e = .returned (.agg #[.int .u8 k,.string s,.int .i64 pl]) ∧ Below w.heap.size w w':=by
 obtain ⟨off,cap,c0,_,_,_,k0,k1,k2,hpl,hlt,_,_,_,_⟩:=h.at
 have h0 : (0 : Int) < ((r.length + 1 : Nat) : Int):=by omega
 have HB2 : Hid (∀ o,Below w.heap.size w (w.alloc o)):=fun o => (Below.refl _ w).alloc (Nat.le_refl _) o
 clear h
 go_enter Tryz.func202,Tryz.ntmps202
 go_wp2_with fail
 refine bodyPost_ret (results_cell_row rfl _ _ _ _ _ _ _ rfl (z0b rfl) Tryz.underlying194 rfl (by kernel_rfl)) rfl ?_
 exact ⟨rfl,HB2.out _⟩
theorem z3s (pb tb deep : Nat) (c : Int) (k : Int) (s : ByteArray) (pl : Int) (r : List Tok) (w : World) (h : Ps pb tb w (⟨k,s,pl⟩ :: r) deep) :
 Calls Tryz.prog 129 #[.pointer (some ⟨pb,0,none⟩),.int .i64 c] w fun e w' => e = .panicked (thr c pl) ∧ Below w.heap.size w w':=by
 have HN:=Jh (z3q pb tb deep k s pl r w h)
 have hfd:=fun W => (fld51 (.int .u8 k) (.string s) (.int .i64 pl) W).2.2
 clear h
 go_enter Tryz.func129,Tryz.ntmps129
 go_wp2_with fail
 refine HN.out.mono ?_
 rintro e w1 ⟨rfl,hb⟩
 have HB:=Jh hb
 clear hb
 go_wp2_with fail
 exact ⟨rfl,rfl,HB.out⟩
theorem z3t (pb tb deep : Nat) (k : Int) (s : ByteArray) (pl : Int) (r : List Tok) (w : World) (h : Ps pb tb w (⟨k,s,pl⟩ :: r) deep) (hr : Ends r) :
 Calls Tryz.prog 245 #[.pointer (some ⟨pb,0,none⟩)] w fun e w' => e = .returned (.agg #[.int .u8 k,.string s,.int .i64 pl]) ∧ Ps pb tb w' r deep ∧ BtP pb w w':=by
 obtain ⟨off,cap,c0,_,f0,_,k0,k1,k2,hpl,hlt,hne,hcl,hcm,hb,hT⟩:=h.at
 have h0 : (0 : Int) < ((r.length + 1 : Nat) : Int):=by omega
 have h1 : (1 : Int) ≤ ((r.length + 1 : Nat) : Int):=by omega
 have h2 : ((r.length + 1 : Nat) : Int) ≤ (cap : Int):=by omega
 have HX : Hid (Ps pb tb (((w.setCell ⟨pb,0,none⟩ (.slice (some ⟨tb,off + 3,none⟩) r.length (cap - 1))).alloc (.cells #[.int .u8 k,.string s,.int .i64 pl] 194)).drew) r deep ∧ BtP pb w (((w.setCell ⟨pb,0,none⟩ (.slice (some ⟨tb,off + 3,none⟩) r.length (cap - 1))).alloc (.cells #[.int .u8 k,.string s,.int .i64 pl] 194)).drew)):=by
  have hE : ∀ j,j ≠ pb → (w.setCell ⟨pb,0,none⟩ (.slice (some ⟨tb,off + 3,none⟩) r.length (cap - 1))).heap[j]? = w.heap[j]? :=
   fun j hj => Below.heap_setCell _ _ _ _ (fun e => hj e)
  have hsz : (w.setCell ⟨pb,0,none⟩ (.slice (some ⟨tb,off + 3,none⟩) r.length (cap - 1))).heap.size = w.heap.size:=by simp [World.setCell]
  have hP : Ps pb tb (w.setCell ⟨pb,0,none⟩ (.slice (some ⟨tb,off + 3,none⟩) r.length (cap - 1))) r deep:=by
   refine ⟨⟨off + 3,cap - 1,?_,by omega,by omega,hne,by omega,?_⟩,hr,fun t ht => h.toks t (List.mem_cons_of_mem _ ht)⟩
   ·simp [World.setCell,Array.getElem?_modify,hb]
   ·intro i hi
    have:=hT (i + 1) (by simpa using hi)
    simp only [J6] at this
    have e : off + (i + 1) * 3 = off + 3 + i * 3:=by omega
    rw [e] at this
    have hh:=hE tb hne
    unfold World.cell? at this ⊢
    simp only at this ⊢
    rw [hh]; exact this
  have hB : BtP pb w (w.setCell ⟨pb,0,none⟩ (.slice (some ⟨tb,off + 3,none⟩) r.length (cap - 1))):=⟨rfl,rfl,rfl,by omega,fun j hj hp => hE j hp⟩
  exact ⟨(hP.alloc _).drew,(hB.alloc _).drew⟩
 have HN : Hid ((((w.setCell ⟨pb,0,none⟩ (.slice (some ⟨tb,off + 3,none⟩) r.length (cap - 1))).alloc (.cells #[.int .u8 k,.string s,.int .i64 pl] 194)).drew).heap[w.heap.size]? = some (.cells #[.int .u8 k,.string s,.int .i64 pl] 194 (0,0))):=by
  show ((w.setCell ⟨pb,0,none⟩ (.slice (some ⟨tb,off + 3,none⟩) r.length (cap - 1))).alloc (.cells #[.int .u8 k,.string s,.int .i64 pl] 194)).heap[w.heap.size]? = _
  exact z0b (by simp [World.setCell])
 have hr1 : 1 ≤ r.length:=by obtain ⟨t',r',rfl⟩:=hr.cons; simp
 have hsl:=fun W => slice47 tb off (r.length + 1) cap (by omega) (by omega) W
 clear h hb hT hcl hcm hr1
 go_enter Tryz.func245,Tryz.ntmps245
 go_wp2_with fail
 go_region_law (fail)
 all_goals
  go_wp2_with fail
  refine bodyPost_ret (results_cell_row rfl _ _ _ _ _ _ _ rfl HN.out Tryz.underlying194 rfl (by kernel_rfl)) rfl ?_
  exact ⟨rfl,HX.out⟩
end Go.Proofs.YtockinpjfhhkoaaGreatDoor
