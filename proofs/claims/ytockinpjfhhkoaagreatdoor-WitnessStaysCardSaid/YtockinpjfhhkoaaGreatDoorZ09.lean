/- The parser walked: what joins two. -/
import Derived.Test.YtockinpjfhhkoaaGreatDoorZ08
import Derived.Test.YtockinpjfhhkoaaGreatDoorZ04
import Derived.Deep.RegionHeld3
import Derived.Recover
import Derived.Test.YtockinpjfhhkoaaGreatDoorZ02
set_option maxRecDepth 100000
set_option maxHeartbeats 16000000
open List renaming setIfInBounds_toArray → J1, set_cons_zero → J2, set_cons_succ → J3, getElem?_cons_zero → J7, getElem?_toArray → J9
open Go.Lib renaming cell_of_heap → Jc, frozen_of_heap → Jf, hid → Jh
open Go.AllReadyH renaming cons → Jd, nil → Je
open Go renaming wpAnyH_ready → Jr
namespace Go.Proofs.YtockinpjfhhkoaaGreatDoor
open Go.RowKit
theorem two184_any (kind : Int) (w : World) :
 Calls Tryz.prog 259 #[.int .u8 kind] w fun e w' => e = .returned (.func (.func 274) #[] #[.pointer (some ⟨w.heap.size,0,none⟩)]) ∧ w' = w.alloc (.cells #[.int .u8 kind] 5):=by
 have hmf : ∀ (fn : Fn) (first cap : Array Value) (w : World),(Instr.makeFunc fn first cap).run Tryz.prog w = .ok (.func fn first cap) w:=fun _ _ _ _ => rfl
 go_enter Tryz.func259,Tryz.ntmps259
 go_wp2_with fail
 all_goals go_ret
 all_goals exact ⟨rfl,rfl⟩
theorem z96 (kind : Int) (w : World) :
 Calls Tryz.prog 200 #[.int .u8 kind] w fun e w' => e = .returned (.func (.func 229) #[] #[.pointer (some ⟨w.heap.size,0,none⟩)]) ∧ w' = w.alloc (.cells #[.int .u8 kind] 5):=by
 have hmf : ∀ (fn : Fn) (first cap : Array Value) (w : World),(Instr.makeFunc fn first cap).run Tryz.prog w = .ok (.func fn first cap) w:=fun _ _ _ _ => rfl
 go_enter Tryz.func200,Tryz.ntmps200
 go_wp2_with fail
 all_goals go_ret
 all_goals exact ⟨rfl,rfl⟩
theorem two200_any (kc : Nat) (kind k1 k2 : Int) (s1 s2 : ByteArray) (a1 a2 : Option Addr) (l1 c1 l2 c2 : Nat) (w : World) (hk : w.heap[kc]? = some (.cells #[.int .u8 kind] 5 (0,0))) :
 Calls Tryz.prog 274 #[.agg #[.int .u8 k1,.string s1,.slice a1 l1 c1],.agg #[.int .u8 k2,.string s2,.slice a2 l2 c2],.pointer (some ⟨kc,0,none⟩)] w fun e w' =>
  e = .returned (.agg #[.int .u8 kind,.string ⟨#[]⟩,.slice (some ⟨w.heap.size + 3,0,none⟩) 2 2]) ∧ Below w.heap.size w w' ∧ w'.heap[w.heap.size + 3]? = some (.cells #[.int .u8 k1,.string s1,.slice a1 l1 c1,.int .u8 k2,.string s2,.slice a2 l2 c2] 25 (0,0)):=by
 have c0 : w.cell? ⟨kc,0,none⟩ = some (.int .u8 kind):=by rw [Jc hk]; rfl
 have c3 : ∀ o1 o2 o3,(((w.alloc o1).alloc o2).alloc o3).cell? ⟨kc,0,none⟩ = some (.int .u8 kind):=fun o1 o2 o3 => by
  rw [Jc (z1c (z1c (z1c hk)))]; rfl
 have HB : Hid (∀ o1 o2 o3 o4,Below w.heap.size w ((((w.alloc o1).alloc o2).alloc o3).alloc o4)):=by
  intro o1 o2 o3 o4
  exact ((((Below.refl _ w).alloc (Nat.le_refl _) _).alloc (by simp) _).alloc (by simp; omega) _).alloc (by simp; omega) _
 have HQ : Hid (∀ o1 o2 o3 o4,((((w.alloc o1).alloc o2).alloc o3).alloc o4).heap[w.heap.size + 2]? = some o3 ∧ ((((w.alloc o1).alloc o2).alloc o3).alloc o4).heap[w.heap.size + 3]? = some o4) :=
  fun o1 o2 o3 o4 => ⟨z1c (z0b (by simp)),z0b (by simp)⟩
 clear hk
 go_enter Tryz.func274,Tryz.ntmps274
 go_wp2_with fail
 refine And.intro rfl (Exists.intro _ (And.intro (results_cell_row rfl _ _ _ _ _ _ _ rfl (HQ.out _ _ _ _).1 Tryz.underlying25 rfl (by kernel_rfl)) ?_))
 exact ⟨rfl,HB.out _ _ _ _,(HQ.out _ _ _ _).2⟩
theorem zau (kc : Nat) (kind : Int) (k1 k2 lo1 hi1 lo2 hi2 : Int) (ls1 hs1 op1 ls2 hs2 op2 : Bool) (a1 a2 b1 b2 : Option Addr) (l1 c1 l2 c2 m1 d1 m2 d2 : Nat) (w : World) (hk : w.heap[kc]? = some (.cells #[.int .u8 kind] 5 (0,0))) :
 Calls Tryz.prog 229 #[.agg #[.int .u8 k1,.slice a1 l1 c1,.slice b1 m1 d1,.int .i64 lo1,.bool ls1,.int .i64 hi1,.bool hs1,.bool op1],.agg #[.int .u8 k2,.slice a2 l2 c2,.slice b2 m2 d2,.int .i64 lo2,.bool ls2,.int .i64 hi2,.bool hs2,.bool op2],.pointer (some ⟨kc,0,none⟩)] w fun e w' =>
  e = .returned (.agg #[.int .u8 kind,.slice none 0 0,.slice (some ⟨w.heap.size + 3,0,none⟩) 2 2,.int .i64 0,.bool false,.int .i64 0,.bool false,.bool false]) ∧ Below w.heap.size w w' ∧
  w'.heap[w.heap.size + 3]? = some (.cells #[.int .u8 k1,.slice a1 l1 c1,.slice b1 m1 d1,.int .i64 lo1,.bool ls1,.int .i64 hi1,.bool hs1,.bool op1,.int .u8 k2,.slice a2 l2 c2,.slice b2 m2 d2,.int .i64 lo2,.bool ls2,.int .i64 hi2,.bool hs2,.bool op2] 47 (0,0)):=by
 have c0 : w.cell? ⟨kc,0,none⟩ = some (.int .u8 kind):=by rw [Jc hk]; rfl
 have c3 : ∀ o1 o2 o3,(((w.alloc o1).alloc o2).alloc o3).cell? ⟨kc,0,none⟩ = some (.int .u8 kind):=fun o1 o2 o3 => by
  rw [Jc (z1c (z1c (z1c hk)))]; rfl
 have HB : Hid (∀ o1 o2 o3 o4,Below w.heap.size w ((((w.alloc o1).alloc o2).alloc o3).alloc o4)):=by
  intro o1 o2 o3 o4
  exact ((((Below.refl _ w).alloc (Nat.le_refl _) _).alloc (by simp) _).alloc (by simp; omega) _).alloc (by simp; omega) _
 have HQ : Hid (∀ o1 o2 o3 o4,((((w.alloc o1).alloc o2).alloc o3).alloc o4).heap[w.heap.size + 2]? = some o3 ∧ ((((w.alloc o1).alloc o2).alloc o3).alloc o4).heap[w.heap.size + 3]? = some o4) :=
  fun o1 o2 o3 o4 => ⟨z1c (z0b (by simp)),z0b (by simp)⟩
 clear hk
 go_enter Tryz.func229,Tryz.ntmps229
 go_wp2_with fail
 refine And.intro rfl (Exists.intro _ (And.intro (results_cell_row rfl _ _ _ _ _ _ _ rfl (HQ.out _ _ _ _).1 Tryz.underlying47 rfl (by kernel_rfl)) ?_))
 exact ⟨rfl,HB.out _ _ _ _,(HQ.out _ _ _ _).2⟩
open Go.RowKit
def pN (n : Nat) : Nat → Bool:=fun b => decide (n ≤ b)
def pC (n kr kv : Nat) : Nat → Bool:=fun b => decide (n ≤ b) && b != kr && b != kv
def OutF (pb tb deep : Nat) (w : World) (r : PRes F) (e : Ending) (w' : World) : Prop :=
 match r with
 | .ok (x,l') => ∃ v,e = .returned v ∧ FI (pN w.heap.size) w' x v ∧ Ps pb tb w' l' deep ∧ BtP pb w w'
 | .error c => e = .panicked (thr c.1 c.2) ∧ BtP pb w w'
theorem OutF.ok {pb tb deep : Nat} {w w' : World} {x : F} {l : List Tok} {e : Ending} (h : OutF pb tb deep w (.ok (x,l)) e w') :
 ∃ k s a n c,e = .returned (.agg #[.int .u8 k,.string s,.slice a n c]) ∧ FI (pN w.heap.size) w' x (.agg #[.int .u8 k,.string s,.slice a n c]) ∧ Ps pb tb w' l deep ∧ BtP pb w w':=by
 obtain ⟨v,h1,h2,h3⟩:=h
 obtain ⟨k,s,a,n,c,rfl⟩:=h2.shape
 exact ⟨k,s,a,n,c,h1,h2,h3⟩
def set3 (w : World) (g : Nat) (x y z : Value) : World:=((w.setCell ⟨g,0,none⟩ x).setCell ⟨g,1,none⟩ y).setCell ⟨g,2,none⟩ z
theorem z31 {w : World} {g : Nat} {x' y' z' : Value} {t : TypeId} (h : w.heap[g]? = some (.cells #[x',y',z'] t (0,0))) (x y z : Value) : (set3 w g x y z).heap[g]? = some (.cells #[x,y,z] t (0,0)):=by
 simp [set3,World.setCell,Array.getElem?_modify,h]
theorem z0w (w : World) (g : Nat) (x y z : Value) (j : Nat) (hj : j ≠ g) : (set3 w g x y z).heap[j]? = w.heap[j]?:=by
 unfold set3
 rw [Below.heap_setCell _ _ _ _ (by simpa using hj),Below.heap_setCell _ _ _ _ (by simpa using hj),Below.heap_setCell _ _ _ _ (by simpa using hj)]
theorem z19 (w : World) (g : Nat) (x y z : Value) : (set3 w g x y z).heap.size = w.heap.size:=by simp [set3,World.setCell]
theorem BtP.set3 {pb : Nat} {w w' : World} (h : BtP pb w w') {g : Nat} (hg : w.heap.size ≤ g) (x y z : Value) : BtP pb w (set3 w' g x y z) :=
 ⟨h.1,h.2.1,h.2.2.1,by rw [z19]; exact h.2.2.2.1,fun k hk hp => (z0w _ _ _ _ _ _ (by omega)).trans (h.2.2.2.2 k hk hp)⟩
theorem Ps.set3 {pb tb deep : Nat} {w : World} {l : List Tok} (h : Ps pb tb w l deep) {g : Nat} (hg : pb ≠ g) (hT : tb ≠ g) (x y z : Value) : Ps pb tb (set3 w g x y z) l deep:=by
 obtain ⟨off,cap,h1,h2,h3,h4,h5,h6⟩:=h.blk
 exact ⟨⟨off,cap,(z0w _ _ _ _ _ _ hg).trans h1,h2,h3,h4,by rw [z19]; exact h5,h6.agree (z0w _ _ _ _ _ _ hT)⟩,h.ends,h.toks⟩
open Go.RowKit
theorem XI.atom {p : Nat → Bool} {w : World} {f : F} {k1 : Int} {s1 : ByteArray} {a1 : Option Addr} {l1 c1 : Nat} (h : FI p w f (.agg #[.int .u8 k1,.string s1,.slice a1 l1 c1])) (k : Int) (g c c2 : Nat) (a2 : Option Addr) (fr : Nat × Nat) (hp : p g = true)
 (hg : w.heap[g]? = some (.cells #[.int .u8 k1,.string s1,.slice a1 l1 c1] 25 fr)) :
 XI p w (.mk k [f] [] z06) (.agg #[.int .u8 k,.slice (some ⟨g,0,none⟩) 1 c,.slice a2 0 c2,.int .i64 0,.bool false,.int .i64 0,.bool false,.bool false]):=by
 obtain ⟨n,t',h1,h2⟩:=h
 refine ⟨n,1,(k,[t'],[],z06),by simp [toX,h1],_,c,a2,c2,rfl,⟨by simp,.inr ⟨g,0,rfl,(Array.getElem?_eq_some_iff.1 hg).1,fun i hi => ?_⟩⟩,by simp,.inl rfl⟩
 have hi0 : i = 0:=by simp at hi; omega
 subst hi0
 refine ⟨[.int .u8 k1,.string s1,.slice a1 l1 c1],rfl,fun j hj => ?_,h2⟩
 rw [List.getElem?_eq_getElem (by simpa using hj)]
 refine z3f hp ?_
 rw [Jc hg]
 match j,hj with
 | 0,_ => rfl
 | 1,_ => rfl
 | 2,_ => rfl
theorem XI.one {p : Nat → Bool} {w : World} {t : X} {k1 lo1 hi1 : Int} {ls1 hs1 op1 : Bool} {a1 b1 : Option Addr} {l1 c1 m1 d1 : Nat}
 (h : XI p w t (.agg #[.int .u8 k1,.slice a1 l1 c1,.slice b1 m1 d1,.int .i64 lo1,.bool ls1,.int .i64 hi1,.bool hs1,.bool op1])) (k lo hi : Int) (ls hs op : Bool) (g c c2 : Nat) (a2 : Option Addr) (fr : Nat × Nat) (hp : p g = true)
 (hg : w.heap[g]? = some (.cells #[.int .u8 k1,.slice a1 l1 c1,.slice b1 m1 d1,.int .i64 lo1,.bool ls1,.int .i64 hi1,.bool hs1,.bool op1] 47 fr)) :
 XI p w (.mk k [] [t] ⟨lo,ls,hi,hs,op⟩) (.agg #[.int .u8 k,.slice a2 0 c2,.slice (some ⟨g,0,none⟩) 1 c,.int .i64 lo,.bool ls,.int .i64 hi,.bool hs,.bool op]):=by
 obtain ⟨m,n,t',h1,h2⟩:=h
 refine ⟨m,n + 1,(k,[],[t'],⟨lo,ls,hi,hs,op⟩),by simp [toX,h1],a2,c2,_,c,rfl,⟨by simp,.inl rfl⟩,by simp,.inr ⟨g,0,rfl,(Array.getElem?_eq_some_iff.1 hg).1,fun i hi => ?_⟩⟩
 have hi0 : i = 0:=by simp at hi; omega
 subst hi0
 refine ⟨[.int .u8 k1,.slice a1 l1 c1,.slice b1 m1 d1,.int .i64 lo1,.bool ls1,.int .i64 hi1,.bool hs1,.bool op1],rfl,fun j hj => ?_,h2⟩
 rw [List.getElem?_eq_getElem (by simpa using hj)]
 refine z3f hp ?_
 rw [Jc hg]
 match j,hj with
 | 0,_ => rfl
 | 1,_ => rfl
 | 2,_ => rfl
 | 3,_ => rfl
 | 4,_ => rfl
 | 5,_ => rfl
 | 6,_ => rfl
 | 7,_ => rfl
theorem XI.two {p : Nat → Bool} {w : World} {t u : X} {k1 lo1 hi1 k2 lo2 hi2 : Int} {ls1 hs1 op1 ls2 hs2 op2 : Bool} {a1 b1 a2 b2 : Option Addr} {l1 c1 m1 d1 l2 c2 m2 d2 : Nat}
 (h : XI p w t (.agg #[.int .u8 k1,.slice a1 l1 c1,.slice b1 m1 d1,.int .i64 lo1,.bool ls1,.int .i64 hi1,.bool hs1,.bool op1]))
 (h' : XI p w u (.agg #[.int .u8 k2,.slice a2 l2 c2,.slice b2 m2 d2,.int .i64 lo2,.bool ls2,.int .i64 hi2,.bool hs2,.bool op2])) (k : Int) (g c c0 : Nat) (a0 : Option Addr) (fr : Nat × Nat) (hp : p g = true)
 (hg : w.heap[g]? = some (.cells #[.int .u8 k1,.slice a1 l1 c1,.slice b1 m1 d1,.int .i64 lo1,.bool ls1,.int .i64 hi1,.bool hs1,.bool op1,.int .u8 k2,.slice a2 l2 c2,.slice b2 m2 d2,.int .i64 lo2,.bool ls2,.int .i64 hi2,.bool hs2,.bool op2] 47 fr)) :
 XI p w (z40 k t u) (.agg #[.int .u8 k,.slice a0 0 c0,.slice (some ⟨g,0,none⟩) 2 c,.int .i64 0,.bool false,.int .i64 0,.bool false,.bool false]):=by
 obtain ⟨m,n,t',h1,h2⟩:=h
 obtain ⟨m',n',u',h1',h2'⟩:=h'
 obtain ⟨t1,e1,e2⟩:=repM_to h2 m'
 obtain ⟨u1,e1',e2'⟩:=repM_to h2' m
 obtain ⟨t2,g1,g2⟩:=repX_to e2 n'
 obtain ⟨u2,g1',g2'⟩:=repX_to e2' n
 rw [e1,h1] at g1
 rw [e1',h1'] at g1'
 revert u2
 rw [Nat.add_comm n' n,Nat.add_comm m' m]
 intro u2 g1' g2'
 refine ⟨m + m',n + n' + 1,(k,[],[t2,u2],z06),by simp [toX,g1,g1',z40],a0,c0,_,c,rfl,⟨by simp,.inl rfl⟩,by simp,.inr ⟨g,0,rfl,(Array.getElem?_eq_some_iff.1 hg).1,fun i hi => ?_⟩⟩
 have hi2 : i = 0 ∨ i = 1:=by simp at hi; omega
 rcases hi2 with rfl | rfl
 ·refine ⟨[.int .u8 k1,.slice a1 l1 c1,.slice b1 m1 d1,.int .i64 lo1,.bool ls1,.int .i64 hi1,.bool hs1,.bool op1],rfl,fun j hj => ?_,g2⟩
  rw [List.getElem?_eq_getElem (by simpa using hj)]
  refine z3f hp ?_
  rw [Jc hg]
  match j,hj with
  | 0,_ => rfl
  | 1,_ => rfl
  | 2,_ => rfl
  | 3,_ => rfl
  | 4,_ => rfl
  | 5,_ => rfl
  | 6,_ => rfl
  | 7,_ => rfl
 ·refine ⟨[.int .u8 k2,.slice a2 l2 c2,.slice b2 m2 d2,.int .i64 lo2,.bool ls2,.int .i64 hi2,.bool hs2,.bool op2],rfl,fun j hj => ?_,g2'⟩
  rw [List.getElem?_eq_getElem (by simpa using hj)]
  refine z3f hp ?_
  rw [Jc hg]
  match j,hj with
  | 0,_ => rfl
  | 1,_ => rfl
  | 2,_ => rfl
  | 3,_ => rfl
  | 4,_ => rfl
  | 5,_ => rfl
  | 6,_ => rfl
  | 7,_ => rfl
def OutX (pb tb deep : Nat) (w : World) (r : PRes X) (e : Ending) (w' : World) : Prop :=
 match r with
 | .ok (x,l') => ∃ v,e = .returned v ∧ XI (pN w.heap.size) w' x v ∧ Ps pb tb w' l' deep ∧ BtP pb w w'
 | .error c => e = .panicked (thr c.1 c.2) ∧ BtP pb w w'
theorem OutX.ok {pb tb deep : Nat} {w w' : World} {x : X} {l : List Tok} {e : Ending} (h : OutX pb tb deep w (.ok (x,l)) e w') :
 ∃ k a n c b m d lo ls hi hs op,e = .returned (.agg #[.int .u8 k,.slice a n c,.slice b m d,.int .i64 lo,.bool ls,.int .i64 hi,.bool hs,.bool op]) ∧
  XI (pN w.heap.size) w' x (.agg #[.int .u8 k,.slice a n c,.slice b m d,.int .i64 lo,.bool ls,.int .i64 hi,.bool hs,.bool op]) ∧ Ps pb tb w' l deep ∧ BtP pb w w':=by
 obtain ⟨v,h1,h2,h3⟩:=h
 obtain ⟨k,a,n,c,b,m,d,lo,ls,hi,hs,op,rfl⟩:=h2.shape
 exact ⟨k,a,n,c,b,m,d,lo,ls,hi,hs,op,h1,h2,h3⟩
def set8 (w : World) (g : Nat) (v0 v1 v2 v3 v4 v5 v6 v7 : Value) : World :=
 (((((((w.setCell ⟨g,0,none⟩ v0).setCell ⟨g,1,none⟩ v1).setCell ⟨g,2,none⟩ v2).setCell ⟨g,3,none⟩ v3).setCell ⟨g,4,none⟩ v4).setCell ⟨g,5,none⟩ v5).setCell ⟨g,6,none⟩ v6).setCell ⟨g,7,none⟩ v7
theorem z23 {w : World} {g : Nat} {u0 u1 u2 u3 u4 u5 u6 u7 : Value} {t : TypeId} (h : w.heap[g]? = some (.cells #[u0,u1,u2,u3,u4,u5,u6,u7] t (0,0))) (v0 v1 v2 v3 v4 v5 v6 v7 : Value) :
 (set8 w g v0 v1 v2 v3 v4 v5 v6 v7).heap[g]? = some (.cells #[v0,v1,v2,v3,v4,v5,v6,v7] t (0,0)):=by
 simp [set8,World.setCell,Array.getElem?_modify,h]
theorem z0l {w : World} {g : Nat} {cs : Array Value} {t : TypeId} {fz : Nat × Nat} (h : w.heap[g]? = some (.cells cs t fz)) (j : Nat) (v : Value) : (w.setCell ⟨g,j,none⟩ v).heap[g]? = some (.cells (cs.setIfInBounds j v) t fz):=by
 simp [World.setCell,Array.getElem?_modify,h]
theorem z04 (w : World) (g i : Nat) (v : Value) (j : Nat) (hj : j ≠ g) : (w.setCell ⟨g,i,none⟩ v).heap[j]? = w.heap[j]?:=Below.heap_setCell _ _ _ _ (by simpa using hj)
theorem z09 (w : World) (g : Nat) (v0 v1 v2 v3 v4 v5 v6 v7 : Value) (j : Nat) (hj : j ≠ g) : (set8 w g v0 v1 v2 v3 v4 v5 v6 v7).heap[j]? = w.heap[j]?:=by
 unfold set8
 rw [z04 _ g _ _ j hj,z04 _ g _ _ j hj,z04 _ g _ _ j hj,z04 _ g _ _ j hj,z04 _ g _ _ j hj,z04 _ g _ _ j hj,z04 _ g _ _ j hj,z04 _ g _ _ j hj]
theorem z0m (w : World) (g : Nat) (v0 v1 v2 v3 v4 v5 v6 v7 : Value) : (set8 w g v0 v1 v2 v3 v4 v5 v6 v7).heap.size = w.heap.size:=by simp [set8,World.setCell]
theorem BtP.setCell {pb : Nat} {w w' : World} (h : BtP pb w w') {g : Nat} (hg : w.heap.size ≤ g) (i : Nat) (v : Value) : BtP pb w (w'.setCell ⟨g,i,none⟩ v) :=
 ⟨h.1,h.2.1,h.2.2.1,by simpa [World.setCell] using h.2.2.2.1,fun k hk hp => (z04 _ _ _ _ _ (by omega)).trans (h.2.2.2.2 k hk hp)⟩
theorem BtP.set8 {pb : Nat} {w w' : World} (h : BtP pb w w') {g : Nat} (hg : w.heap.size ≤ g) (v0 v1 v2 v3 v4 v5 v6 v7 : Value) : BtP pb w (set8 w' g v0 v1 v2 v3 v4 v5 v6 v7):=by
 unfold Go.Proofs.YtockinpjfhhkoaaGreatDoor.set8
 exact (((((((h.setCell hg 0 v0).setCell hg 1 v1).setCell hg 2 v2).setCell hg 3 v3).setCell hg 4 v4).setCell hg 5 v5).setCell hg 6 v6).setCell hg 7 v7
theorem Ps.set8 {pb tb deep : Nat} {w : World} {l : List Tok} (h : Ps pb tb w l deep) {g : Nat} (hg : pb ≠ g) (hT : tb ≠ g) (v0 v1 v2 v3 v4 v5 v6 v7 : Value) : Ps pb tb (set8 w g v0 v1 v2 v3 v4 v5 v6 v7) l deep:=by
 obtain ⟨off,cap,h1,h2,h3,h4,h5,h6⟩:=h.blk
 exact ⟨⟨off,cap,(z09 _ _ _ _ _ _ _ _ _ _ _ hg).trans h1,h2,h3,h4,by rw [z0m]; exact h5,h6.agree (z09 _ _ _ _ _ _ _ _ _ _ _ hT)⟩,h.ends,h.toks⟩
open Go.RowKit
theorem clo43_idle (a b c : Value) (w : World) :
 CallsD Tryz.prog 127 #[a,b,c] .returning w fun e u' w' => e = .returned (.tuple #[]) ∧ u' = .returning ∧ w' = w:=by
 refine callsD_of_wpS Tryz.func127 rfl fun c₀ cs hu => ?_
 simp only [Tryz.ntmps127,List.size_toArray,List.length_cons,List.length_nil,Nat.reduceAdd,Nat.reduceSub,Array.replicate_succ,Array.replicate_zero,List.push_toArray,List.append_toArray,List.nil_append,List.cons_append]
 apply wpS_seq
 apply wpS_region
 simp [wpOpsS,go_sem,recoverD,hu,Exit.thenS]
 refine wpS_of_wp ?_
 go_wp2_with fail
 cases c₀
 simp_all [bodyPostS,results,Tryz.results127]
theorem Below.set8 {B : Nat} {w w' : World} (h : Below B w w') {g : Nat} (hg : B ≤ g) (y0 y1 y2 y3 y4 y5 y6 y7 : Value) : Below B w (set8 w' g y0 y1 y2 y3 y4 y5 y6 y7) :=
 ((((((((h.setCell (p:=⟨g,0,none⟩) hg y0).setCell (p:=⟨g,1,none⟩) hg y1).setCell (p:=⟨g,2,none⟩) hg y2).setCell (p:=⟨g,3,none⟩) hg y3).setCell (p:=⟨g,4,none⟩) hg y4).setCell (p:=⟨g,5,none⟩) hg y5).setCell (p:=⟨g,6,none⟩) hg y6).setCell (p:=⟨g,7,none⟩) hg y7)
theorem drewh (w : World) : w.drew.heap = w.heap:=rfl
theorem assert77 (v : Value) (W : World) : (Instr.typeAssert (.iface 190 v) 20 190 true).run Tryz.prog W = .ok (.tuple #[v,.bool true]) W:=by kernel_rfl
def Caught (k4 k5 k6 : Nat) (c at_ : Int) (w w' : World) : Prop :=
 w'.heap[k4]? = some (.cells #[.int .u8 0,.slice none 0 0,.slice none 0 0,.int .i64 0,.bool false,.int .i64 0,.bool false,.bool false] 47 (0,0)) ∧
  w'.heap[k5]? = some (.cells #[.int .i64 at_] 3 (0,0)) ∧ w'.heap[k6]? = some (.cells #[.int .i64 c] 33 (0,0)) ∧
  w'.os = w.os ∧ w'.tape = w.tape ∧ w'.output = w.output ∧ w.heap.size ≤ w'.heap.size ∧ ∀ k,k < w.heap.size → k ≠ k4 → k ≠ k5 → k ≠ k6 → w'.heap[k]? = w.heap[k]?
theorem clo43_caught (k4 k5 k6 : Nat) (x0 x1 x2 x3 x4 x5 x6 x7 y z : Value) (c at_ : Int) (w : World)
 (h4 : w.heap[k4]? = some (.cells #[x0,x1,x2,x3,x4,x5,x6,x7] 47 (0,0))) (h5 : w.heap[k5]? = some (.cells #[y] 3 (0,0))) (h6 : w.heap[k6]? = some (.cells #[z] 33 (0,0))) (h45 : k4 ≠ k5) (h46 : k4 ≠ k6) (h56 : k5 ≠ k6) :
 CallsD Tryz.prog 127 #[.pointer (some ⟨k4,0,none⟩),.pointer (some ⟨k5,0,none⟩),.pointer (some ⟨k6,0,none⟩)] (.panicking (thr c at_)) w fun e u' w' =>
  e = .returned (.tuple #[]) ∧ u' = .panicking [{ v:=.iface 190 (.agg #[.int .i64 c,.int .i64 at_]),recovered:=true }] ∧ Caught k4 k5 k6 c at_ w w':=by
 obtain ⟨WA,hWA⟩ : ∃ WA,WA = w.alloc (.cells #[.int .i64 c,.int .i64 at_] 190):=⟨_,rfl⟩
 have l4:=(Array.getElem?_eq_some_iff.1 h4).1
 have l5:=(Array.getElem?_eq_some_iff.1 h5).1
 have l6:=(Array.getElem?_eq_some_iff.1 h6).1
 have g4 : WA.heap[k4]? = some (.cells #[x0,x1,x2,x3,x4,x5,x6,x7] 47 (0,0)):=by rw [hWA]; exact z1c h4
 have g5 : WA.heap[k5]? = some (.cells #[y] 3 (0,0)):=by rw [hWA]; exact z1c h5
 have g6 : WA.heap[k6]? = some (.cells #[z] 33 (0,0)):=by rw [hWA]; exact z1c h6
 have gb : WA.heap[w.heap.size]? = some (.cells #[.int .i64 c,.int .i64 at_] 190 (0,0)):=by rw [hWA]; exact z0b rfl
 have gz : WA.heap.size = w.heap.size + 1:=by rw [hWA]; simp
 obtain ⟨W1,hW1⟩ : ∃ W1,W1 = (set8 WA k4 (.int .u8 0) (.slice none 0 0) (.slice none 0 0) (.int .i64 0) (.bool false) (.int .i64 0) (.bool false) (.bool false)).drew:=⟨_,rfl⟩
 obtain ⟨W2,hW2⟩ : ∃ W2,W2 = W1.setCell ⟨k5,0,none⟩ (.int .i64 at_):=⟨_,rfl⟩
 obtain ⟨W3,hW3⟩ : ∃ W3,W3 = W2.setCell ⟨k6,0,none⟩ (.int .i64 c):=⟨_,rfl⟩
 have o1 : ∀ j,j ≠ k4 → W1.heap[j]? = WA.heap[j]?:=fun j hj => by rw [hW1,drewh]; exact z09 _ _ _ _ _ _ _ _ _ _ _ hj
 have o2 : ∀ j,j ≠ k5 → W2.heap[j]? = W1.heap[j]?:=fun j hj => by rw [hW2]; exact z04 _ _ _ _ _ hj
 have o3 : ∀ j,j ≠ k6 → W3.heap[j]? = W2.heap[j]?:=fun j hj => by rw [hW3]; exact z04 _ _ _ _ _ hj
 have a1 : W1.heap[k4]? = some (.cells #[.int .u8 0,.slice none 0 0,.slice none 0 0,.int .i64 0,.bool false,.int .i64 0,.bool false,.bool false] 47 (0,0)):=by rw [hW1,drewh]; exact z23 g4 _ _ _ _ _ _ _ _
 have a15 : W1.heap[k5]? = some (.cells #[y] 3 (0,0)):=(o1 _ h45.symm).trans g5
 have a2 : W2.heap[k5]? = some (.cells #[.int .i64 at_] 3 (0,0)):=by rw [hW2]; exact z0l a15 0 _
 have a26 : W2.heap[k6]? = some (.cells #[z] 33 (0,0)):=(o2 _ h56.symm).trans ((o1 _ h46.symm).trans g6)
 have a3 : W3.heap[k6]? = some (.cells #[.int .i64 c] 33 (0,0)):=by rw [hW3]; exact z0l a26 0 _
 have z3 : W3.heap.size = w.heap.size + 1:=by rw [hW3,hW2,hW1]; simp only [World.setCell,Array.size_modify,drewh,z0m]; exact gz
 have hB3 : Below 0 w W3:=by
  rw [hW3,hW2,hW1,hWA]
  exact ((Below.set8 ((Below.refl 0 w).alloc (Nat.zero_le _) _) (Nat.zero_le _) _ _ _ _ _ _ _ _).drew.setCell (p:=⟨k5,0,none⟩) (Nat.zero_le _) _).setCell (p:=⟨k6,0,none⟩) (Nat.zero_le _) _
 have HEND : Hid (Caught k4 k5 k6 c at_ w W3):=by
  refine ⟨(o3 _ h46).trans ((o2 _ h45).trans a1),(o3 _ h56).trans a2,a3,hB3.os,hB3.tape,hB3.output,by omega,fun k hk n4 n5 n6 => ?_⟩
  ·rw [o3 _ n6,o2 _ n5,o1 _ n4,hWA]; exact Lib.alloc_old _ _ _ hk
 have HSA : Hid (WA.cell? ⟨w.heap.size,0,none⟩ = some (.int .i64 c) ∧ WA.cell? ⟨w.heap.size,1,none⟩ = some (.int .i64 at_)):=⟨Jc gb 0,Jc gb 1⟩
 have b1:=(o1 w.heap.size (by omega)).trans gb
 have b2:=(o2 w.heap.size (by omega)).trans b1
 have b3:=(o3 w.heap.size (by omega)).trans b2
 have HS1 : Hid (W1.cell? ⟨w.heap.size,0,none⟩ = some (.int .i64 c) ∧ W1.cell? ⟨w.heap.size,1,none⟩ = some (.int .i64 at_)):=⟨Jc b1 0,Jc b1 1⟩
 have HS2 : Hid (W2.cell? ⟨w.heap.size,0,none⟩ = some (.int .i64 c) ∧ W2.cell? ⟨w.heap.size,1,none⟩ = some (.int .i64 at_)):=⟨Jc b2 0,Jc b2 1⟩
 have HS3 : Hid (W3.cell? ⟨w.heap.size,0,none⟩ = some (.int .i64 c) ∧ W3.cell? ⟨w.heap.size,1,none⟩ = some (.int .i64 at_)):=⟨Jc b3 0,Jc b3 1⟩
 have H4 : Hid (WA.heap[k4]? = some (.cells #[x0,x1,x2,x3,x4,x5,x6,x7] 47 (0,0))):=g4
 have H5:=Jh a15
 have H6:=Jh a26
 have HWA:=Jh hWA.symm
 have HW1 : Hid ((set8 WA k4 (.int .u8 0) (.slice none 0 0) (.slice none 0 0) (.int .i64 0) (.bool false) (.int .i64 0) (.bool false) (.bool false)).drew = W1):=hW1.symm
 have HW2 : Hid (W1.setCell ⟨k5,0,none⟩ (.int .i64 at_) = W2):=hW2.symm
 have HW3 : Hid (W2.setCell ⟨k6,0,none⟩ (.int .i64 c) = W3):=hW3.symm
 have hta:=assert77 (.agg #[.int .i64 c,.int .i64 at_])
 clear hWA h4 h5 h6 h45 h46 h56 l4 l5 l6 g4 g5 g6 gb gz hW1 hW2 hW3 o1 o2 o3 a1 a15 a2 a26 a3 z3 hB3 b1 b2 b3
 refine callsD_of_wpS Tryz.func127 rfl fun c₀ cs hu => ?_
 simp only [Tryz.ntmps127,List.size_toArray,List.length_cons,List.length_nil,Nat.reduceAdd,Nat.reduceSub,Array.replicate_succ,Array.replicate_zero,List.push_toArray,List.append_toArray,List.nil_append,List.cons_append]
 apply wpS_seq
 apply wpS_region
 simp [wpOpsS,go_sem,recoverD,hu,thr,Exit.thenS]
 refine wpS_of_wp ?_
 go_wp2_with fail
 rw [HWA.out]
 clear HWA
 refine wp_region_held_drew (S:=fun W => W.cell? ⟨w.heap.size,0,none⟩ = some (.int .i64 c) ∧ W.cell? ⟨w.heap.size,1,none⟩ = some (.int .i64 at_)) (by kernel_rfl) HSA.out (fun hHeld => ?_)
 refine wpAnyH_take (i:=0) (v:=?_) rfl (by kernel_rfl) (by kernel_rfl) (by kernel_rfl) (fun _ _ _ h => h) (Or.inl ⟨by kernel_rfl,?_⟩) (by assumption) ?_
 rotate_left
 ·(intro w hSw; obtain ⟨s1,s2⟩:=hSw; go_simp)
  with_reducible rfl
 try simp only [Act.put,J1]
 refine wpAnyH_take (i:=1) (v:=?_) rfl (by kernel_rfl) (by kernel_rfl) (by kernel_rfl) (fun _ _ _ h => h) (Or.inl ⟨by kernel_rfl,?_⟩) (by assumption) ?_
 rotate_left
 ·(intro w hSw; obtain ⟨s1,s2⟩:=hSw; go_simp)
  with_reducible rfl
 try simp only [Act.put]
 refine wpAnyH_take (i:=2) (v:=?_) rfl (by kernel_rfl) (by kernel_rfl) (by kernel_rfl) (fun _ _ _ h => h) (Or.inl ⟨by kernel_rfl,?_⟩) (by assumption) ?_
 rotate_left
 ·(intro w hSw; obtain ⟨s1,s2⟩:=hSw; go_simp)
  with_reducible rfl
 try simp only [Act.put]
 refine wpAnyH_take (i:=3) (v:=?_) rfl (by kernel_rfl) (by kernel_rfl) (by kernel_rfl) (fun _ _ _ h => h) (Or.inl ⟨by kernel_rfl,?_⟩) (by assumption) ?_
 rotate_left
 ·(intro w hSw; obtain ⟨s1,s2⟩:=hSw; go_simp)
  with_reducible rfl
 try simp only [Act.put]
 refine wpAnyH_take (i:=4) (v:=?_) rfl (by kernel_rfl) (by kernel_rfl) (by kernel_rfl) (fun _ _ _ h => h) (Or.inl ⟨by kernel_rfl,?_⟩) (by assumption) ?_
 rotate_left
 ·(intro w hSw; obtain ⟨s1,s2⟩:=hSw; go_simp)
  with_reducible rfl
 try simp only [Act.put]
 have hk4:=H4.out
 obtain ⟨e0,e1,e2,e3,e4,e5,e6,e7,f0,f1,f2,f3,f4,f5,f6,f7⟩:=cf8 hk4
 clear hk4
 refine Jr (rs:=[5]) (by kernel_rfl) (by simp) ?_
 refine Jd rfl (fun K0 hK => ?_) Je
 go_simp
 have hw:=HW1.out
 unfold set8 at hw
 rw [hw]
 clear hw e0 e1 e2 e3 e4 e5 e6 e7 f0 f1 f2 f3 f4 f5 f6 f7 HW1
 refine hK.out _ _ HS1.out (fun _ => ?_)
 clear hK K0
 try simp only [Act.put,J1,J2,J3]
 have hk5:=H5.out
 have e0:=Jc hk5 0
 have f0:=Jf hk5 0
 simp only [J9,J7] at e0
 clear hk5
 refine Jr (rs:=[6]) (by kernel_rfl) (by simp) ?_
 refine Jd rfl (fun K0 hK => ?_) Je
 go_simp
 rw [HW2.out]
 clear e0 f0 HW2
 refine hK.out _ _ HS2.out (fun _ => ?_)
 clear hK K0
 try simp only [Act.put,J1,J2,J3]
 have hk6:=H6.out
 have e0:=Jc hk6 0
 have f0:=Jf hk6 0
 simp only [J9,J7] at e0
 clear hk6
 refine Jr (rs:=[7]) (by kernel_rfl) (by simp) ?_
 refine Jd rfl (fun K0 hK => ?_) Je
 go_simp
 rw [HW3.out]
 clear e0 f0 HW3
 refine hK.out _ _ HS3.out (fun _ => ?_)
 clear hK K0
 try simp only [Act.put,J1,J2,J3]
 refine wpAnyH_done (by kernel_rfl) ?_ _
 go_wp2_with fail
 have hend:=HEND.out
 clear HEND HSA HS1 HS2 HS3 H4 H5 H6 hta
 cases c₀
 simp_all [bodyPostS,results,Tryz.results127]
end Go.Proofs.YtockinpjfhhkoaaGreatDoor
