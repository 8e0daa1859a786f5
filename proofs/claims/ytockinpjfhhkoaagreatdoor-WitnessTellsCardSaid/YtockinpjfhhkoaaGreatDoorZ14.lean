/- prop.made walked: a formula as what it says of a number: the function values that are made of one. -/
import Derived.Deep.RegionLaw
import Derived.Deep.AppendLies
import Derived.Test.YtockinpjfhhkoaaGreatDoorZ02
import Derived.Test.YtockinpjfhhkoaaGreatDoorZ13
set_option maxRecDepth 100000
set_option maxHeartbeats 16000000
open List renaming getElem_cons_zero → J5
open Go.Lib renaming cell_of_heap → Jc, frozen_of_heap → Jf, hid → Jh
open Go.RowKit.Below renaming heap_alloc → Jb
namespace Go.Proofs.YtockinpjfhhkoaaGreatDoor
open Go.RowKit
def bitV (names : List ByteArray) (s : ByteArray) : Int:=wrap64 (2 ^ (idxN s names).toNat)
def z0b (names : List ByteArray) : (n : Nat) → FT n → Int → Bool
 | 0,_,_ => false
 | n + 1,t,on =>
  if t.1 = 3 then bits .and .i64 on (bitV names t.2.1) != 0
  else if t.1 = 4 then !((t.2.2.map fun x => z0b names n x on).getD 0 false)
  else if t.1 = 5 then (t.2.2.map fun x => z0b names n x on).getD 0 false && (t.2.2.map fun x => z0b names n x on).getD 1 false
  else if t.1 = 6 then (t.2.2.map fun x => z0b names n x on).getD 0 false || (t.2.2.map fun x => z0b names n x on).getD 1 false
  else t.1 == 1
def FnAt (w : World) (v : Value) (g : Int → Bool) : Prop :=
 ∃ K caps,v = .func (.func K) #[] caps ∧ Ent K ∧ ∀ on : Int,Calls Tryz.prog K (#[.int .i64 on] ++ caps) w fun e w' => e = .returned (.bool (g on)) ∧ w' = w
def FnI (w : World) (lo hi : Nat) (v : Value) (g : Int → Bool) : Prop :=
 ∀ w' : World,(∀ b,lo ≤ b → b < hi → w'.heap[b]? = w.heap[b]?) → FnAt w' v g
theorem FnI.agree {w w1 : World} {lo hi : Nat} {v : Value} {g : Int → Bool} (h : FnI w lo hi v g) (ha : ∀ b,lo ≤ b → b < hi → w1.heap[b]? = w.heap[b]?) : FnI w1 lo hi v g :=
 fun w' h' => h w' fun b h1 h2 => (h' b h1 h2).trans (ha b h1 h2)
theorem clo64_any (b : Nat) (bit on : Int) (w : World) (_hb : b < w.heap.size) (hc : w.cell? ⟨b,0,none⟩ = some (.int .i64 bit)) :
 Calls Tryz.prog 152 #[.int .i64 on,.pointer (some ⟨b,0,none⟩)] w fun e w' => e = .returned (.bool (bits .and .i64 on bit != 0)) ∧ w' = w:=by
 go_enter Tryz.func152,Tryz.ntmps152
 go_wp2_with fail
 all_goals go_ret
 all_goals exact ⟨rfl,rfl⟩
theorem clo68_any (b : Nat) (k : Int) (on : Int) (w : World) (_hb : b < w.heap.size) (hc : w.cell? ⟨b,0,none⟩ = some (.int .u8 k)) :
 Calls Tryz.prog 156 #[.int .i64 on,.pointer (some ⟨b,0,none⟩)] w fun e w' => e = .returned (.bool (k == 1)) ∧ w' = w:=by
 go_enter Tryz.func156,Tryz.ntmps156
 go_wp2_with fail
 all_goals go_ret
 all_goals exact ⟨rfl,rfl⟩
theorem clo65_any (b g : Nat) (l c : Nat) (v0 : Value) (h0 : Int → Bool) (on : Int) (w : World) (hb : b < w.heap.size) (hg : g < w.heap.size) (hl : 0 < l) (hc : w.cell? ⟨b,0,none⟩ = some (.slice (some ⟨g,0,none⟩) l c)) (d0 : w.cell? ⟨g,0,none⟩ = some v0) (hf : FnAt w v0 h0) :
 Calls Tryz.prog 153 #[.int .i64 on,.pointer (some ⟨b,0,none⟩)] w fun e w' => e = .returned (.bool (!h0 on)) ∧ w' = w:=by
 obtain ⟨K,caps,rfl,hK,hC⟩:=hf
 unfold Ent at hK
 have HC:=Jh (hC on)
 clear hC
 go_enter Tryz.func153,Tryz.ntmps153
 go_wp2_with fail
 refine HC.out.mono ?_
 rintro e w1 ⟨rfl,rfl⟩
 go_wp2_with fail
 all_goals go_ret
 all_goals exact ⟨rfl,rfl⟩
theorem clo66_any (b g : Nat) (l c : Nat) (v0 v1 : Value) (h0 h1 : Int → Bool) (on : Int) (w : World) (hb : b < w.heap.size) (hg : g < w.heap.size) (hl : 1 < l) (hc : w.cell? ⟨b,0,none⟩ = some (.slice (some ⟨g,0,none⟩) l c)) (d0 : w.cell? ⟨g,0,none⟩ = some v0) (d1 : w.cell? ⟨g,1,none⟩ = some v1) (hf0 : FnAt w v0 h0) (hf1 : FnAt w v1 h1) :
 Calls Tryz.prog 154 #[.int .i64 on,.pointer (some ⟨b,0,none⟩)] w fun e w' => e = .returned (.bool (h0 on && h1 on)) ∧ w' = w:=by
 obtain ⟨K,caps,rfl,hK,hC⟩:=hf0
 obtain ⟨K1,caps1,rfl,hK1,hC1⟩:=hf1
 unfold Ent at hK hK1
 have HC:=Jh (hC on)
 have HC1:=Jh (hC1 on)
 clear hC hC1
 cases q : h0 on with
 | true =>
  rw [q] at HC
  go_enter Tryz.func154,Tryz.ntmps154
  go_wp2_with fail
  refine HC.out.mono ?_
  rintro e w1 ⟨rfl,rfl⟩
  go_wp2_with fail
  refine HC1.out.mono ?_
  rintro e w1 ⟨rfl,rfl⟩
  go_wp2_with fail
  all_goals go_ret
  all_goals exact ⟨by simp,rfl⟩
 | false =>
  rw [q] at HC
  go_enter Tryz.func154,Tryz.ntmps154
  go_wp2_with fail
  refine HC.out.mono ?_
  rintro e w1 ⟨rfl,rfl⟩
  go_wp2_with fail
  all_goals go_ret
  all_goals exact ⟨by simp,rfl⟩
theorem clo67_any (b g : Nat) (l c : Nat) (v0 v1 : Value) (h0 h1 : Int → Bool) (on : Int) (w : World) (hb : b < w.heap.size) (hg : g < w.heap.size) (hl : 1 < l) (hc : w.cell? ⟨b,0,none⟩ = some (.slice (some ⟨g,0,none⟩) l c)) (d0 : w.cell? ⟨g,0,none⟩ = some v0) (d1 : w.cell? ⟨g,1,none⟩ = some v1) (hf0 : FnAt w v0 h0) (hf1 : FnAt w v1 h1) :
 Calls Tryz.prog 155 #[.int .i64 on,.pointer (some ⟨b,0,none⟩)] w fun e w' => e = .returned (.bool (h0 on || h1 on)) ∧ w' = w:=by
 obtain ⟨K,caps,rfl,hK,hC⟩:=hf0
 obtain ⟨K1,caps1,rfl,hK1,hC1⟩:=hf1
 unfold Ent at hK hK1
 have HC:=Jh (hC on)
 have HC1:=Jh (hC1 on)
 clear hC hC1
 cases q : h0 on with
 | false =>
  rw [q] at HC
  go_enter Tryz.func155,Tryz.ntmps155
  go_wp2_with fail
  refine HC.out.mono ?_
  rintro e w1 ⟨rfl,rfl⟩
  go_wp2_with fail
  refine HC1.out.mono ?_
  rintro e w1 ⟨rfl,rfl⟩
  go_wp2_with fail
  all_goals go_ret
  all_goals exact ⟨by simp,rfl⟩
 | true =>
  rw [q] at HC
  go_enter Tryz.func155,Tryz.ntmps155
  go_wp2_with fail
  refine HC.out.mono ?_
  rintro e w1 ⟨rfl,rfl⟩
  go_wp2_with fail
  all_goals go_ret
  all_goals exact ⟨by simp,rfl⟩
end Go.Proofs.YtockinpjfhhkoaaGreatDoor
/- prop.made: what a round of its loop leaves: the function values of the parts,in a row of the call's own. -/
namespace Go.Proofs.YtockinpjfhhkoaaGreatDoor
open Go.RowKit
theorem own_ne2 {w : World} {B e size n : Nat} {v : Value} {xs : List Value} {cb : Nat} {cs : Array Value} {t : TypeId} {fz : Nat × Nat} (h : w.ownsRow B e size v n xs) (hb : w.heap[cb]? = some (.cells cs t fz)) (ht : t ≠ e) : v.ownBlock ≠ some cb:=by
 rcases h.2 with ⟨rfl,_⟩ | ⟨g,cap,cur,rfl,_,hg,_⟩
 ·simp [Value.ownBlock]
 ·intro hh
  simp only [Value.ownBlock,Option.some.injEq] at hh
  subst hh
  rw [hb] at hg
  cases hg
  exact ht rfl
theorem own_setOther {w : World} {B e size n : Nat} {v : Value} {xs : List Value} {cb j : Nat} {cs : Array Value} {t : TypeId} {fz : Nat × Nat} (h : w.ownsRow B e size v n xs) (hb : w.heap[cb]? = some (.cells cs t fz)) (ht : t ≠ e) (x : Value) : (w.setCell ⟨cb,j,none⟩ x).ownsRow B e size v n xs :=
 World.ownsRow.kept h (row:=some cb) ⟨rfl,rfl,rfl,by simp [World.setCell],fun k _ hk => Below.heap_setCell _ _ _ _ (fun e => hk (by simp [e]))⟩ (Or.inr (own_ne2 h hb ht))
theorem set1_heap1 {w1 : World} {g : Nat} {x : Value} {t : TypeId} (h : w1.heap[g]? = some (.cells #[x] t (0,0))) (y : Value) :
 (w1.setCell ⟨g,0,none⟩ y).heap[g]? = some (.cells #[y] t (0,0)):=heap_setCell_same _ _ _ _ _ _ h
def PartsI (w0 w : World) (names : List ByteArray) (n : Nat) (l : List (FT n)) (pv : Value) (vs : List Value) : Prop :=
 w.ownsRow (w0.heap.size + 2) 143 1 pv l.length vs ∧ ∀ i (h : i < l.length),∃ v lo hi,vs[i]? = some v ∧ FnI w lo hi v (z0b names n l[i]) ∧ w0.heap.size + 2 ≤ lo ∧ hi ≤ w.heap.size ∧ ∀ g,pv.ownBlock = some g → g < lo ∨ hi ≤ g
def MadeI (w0 w : World) (names : List ByteArray) (n : Nat) (fc : Array Value) (l : List (FT n)) (pv : Value) (vs : List Value) : Prop :=
 Below w0.heap.size w0 w ∧ w.heap[w0.heap.size]? = some (.cells fc 25 (0,0)) ∧ w.heap[w0.heap.size + 1]? = some (.cells #[pv] 216 (0,0)) ∧ PartsI w0 w names n l pv vs
theorem made_step {w0 wr w4 Wb W5 : World} {names : List ByteArray} {n : Nat} {fc : Array Value} {l : List (FT n)} {x : FT n} {pv : Value} {vs : List Value} {v4 : Value} {G cap : Nat} {yo : Obj}
 (H : MadeI w0 wr names n fc l pv vs) (hb4 : Below (wr.alloc yo).heap.size (wr.alloc yo) w4) (hf4 : FnI w4 (wr.alloc yo).heap.size w4.heap.size v4 (z0b names n x))
 (ha : Wb.alike2 (w4.alloc (.cells #[v4] 143))) (hg : Wb.grownBy W5 pv.ownBlock) (hown5 : W5.ownsRow (w0.heap.size + 2) 143 1 (.slice (some ⟨G,0,none⟩) (l.length + 1) cap) (l.length + 1) (vs ++ [v4]))
 (hat : pv.ownBlock = some G ∨ G = Wb.heap.size) :
 (W5.cell? ⟨w0.heap.size + 1,0,none⟩ = some pv ∧ W5.frozen? ⟨w0.heap.size + 1,0,none⟩ = false ∧ w0.heap.size + 1 < W5.heap.size) ∧
  MadeI w0 (W5.setCell ⟨w0.heap.size + 1,0,none⟩ (.slice (some ⟨G,0,none⟩) (l.length + 1) cap)) names n fc (l ++ [x]) (.slice (some ⟨G,0,none⟩) (l.length + 1) cap) (vs ++ [v4]):=by
 obtain ⟨hB,h0,h1,hown,hvs⟩:=H
 have hs1 : (wr.alloc yo).heap.size = wr.heap.size + 1:=by simp
 rw [hs1] at hb4 hf4
 have hz:=hB.size
 have hz4:=hb4.size
 have hzb : Wb.heap.size = w4.heap.size + 1:=by rw [ha.1]; simp
 have hz5:=hg.size
 have hob : ∀ g,pv.ownBlock = some g → w0.heap.size + 2 ≤ g ∧ g < wr.heap.size:=fun g hg' => hown.lt g hg'
 have hl1:=(Array.getElem?_eq_some_iff.1 h1).1
 -- blocks that stay
 have k4 : ∀ b,b < w4.heap.size → some b ≠ pv.ownBlock → W5.heap[b]? = w4.heap[b]?:=fun b hb hne => by
  rw [hg.block b (by omega) hne,ha.1]
  exact Jb w4 _ b hb
 have kr : ∀ b,b < wr.heap.size → some b ≠ pv.ownBlock → W5.heap[b]? = wr.heap[b]?:=fun b hb hne => by
  rw [k4 b (by omega) hne,hb4.block b (by omega)]
  exact Jb wr _ b hb
 have ne : ∀ b,b < w0.heap.size + 2 → some b ≠ pv.ownBlock:=fun b hb h => by have:=(hob b h.symm).1; omega
 have e1 : W5.heap[w0.heap.size + 1]? = some (.cells #[pv] 216 (0,0)):=(kr _ hl1 (ne _ (by omega))).trans h1
 have e0 : W5.heap[w0.heap.size]? = some (.cells fc 25 (0,0)):=(kr _ (by omega) (ne _ (by omega))).trans h0
 have hB5 : Below w0.heap.size w0 W5:=by
  have eb : Below w0.heap.size w0 Wb:=by
   have h3:=(hB.alloc hz yo).trans (hb4.mono (by omega))
   have h4:=h3.alloc h3.size (.cells #[v4] 143)
   exact ⟨ha.2.1.trans h4.os,ha.2.2.1.trans h4.tape,ha.2.2.2.trans h4.output,by rw [ha.1]; exact h4.size,fun j hj => by rw [ha.1]; exact h4.block j hj⟩
  exact eb.grown hg eb.size (fun j hj => by have:=(hob j hj).1; omega)
 refine ⟨⟨Jc e1 0,Jf e1 0,(Array.getElem?_eq_some_iff.1 e1).1⟩,hB5.setCell (p:=⟨w0.heap.size + 1,0,none⟩) (by show w0.heap.size ≤ w0.heap.size + 1; omega) _,?_,?_,?_,?_⟩
 ·rw [Below.heap_setCell _ _ _ _ (by show w0.heap.size ≠ w0.heap.size + 1; omega)]; exact e0
 ·exact set1_heap1 e1 _
 ·rw [List.length_append]
  exact own_setOther hown5 e1 (by decide) _
 ·have e6 : ∀ b,b ≠ w0.heap.size + 1 → (W5.setCell ⟨w0.heap.size + 1,0,none⟩ (.slice (some ⟨G,0,none⟩) (l.length + 1) cap)).heap[b]? = W5.heap[b]?:=fun b hb => Below.heap_setCell _ _ _ _ hb
  have hsz6 : (W5.setCell ⟨w0.heap.size + 1,0,none⟩ (.slice (some ⟨G,0,none⟩) (l.length + 1) cap)).heap.size = W5.heap.size:=by simp
  intro i hi
  rw [hsz6]
  have hvl : vs.length = l.length:=by have:=hown.1; omega
  rcases Nat.lt_or_ge i l.length with hlt | hge
  ·obtain ⟨v,lo,hi',q1,q2,q3,q4,q5⟩:=hvs i hlt
   refine ⟨v,lo,hi',by rw [List.getElem?_append_left (by omega)]; exact q1,?_,q3,by omega,?_⟩
   ·rw [List.getElem_append_left hlt]
    refine q2.agree fun b h1' h2' => ?_
    rw [e6 b (by omega)]
    refine kr b (by omega) (fun h => ?_)
    rcases q5 b h.symm with h | h <;> omega
   ·intro g hg'
    obtain rfl : G = g:=by simpa [Value.ownBlock] using hg'
    rcases hat with h | h
    ·exact q5 _ h
    ·right; omega
  ·obtain rfl : i = l.length:=by simp at hi; omega
   refine ⟨v4,wr.heap.size + 1,w4.heap.size,by rw [List.getElem?_append_right (by omega)]; simp [hvl],?_,by omega,by omega,?_⟩
   ·rw [List.getElem_append_right (by omega)]
    simp only [Nat.sub_self,J5]
    refine hf4.agree fun b h1' h2' => ?_
    rw [e6 b (by omega)]
    refine k4 b h2' (fun h => ?_)
    have:=(hob b h.symm).2; omega
   ·intro g hg'
    obtain rfl : G = g:=by simpa [Value.ownBlock] using hg'
    rcases hat with h | h
    ·left; have:=(hob G h).2; omega
    ·right; omega
theorem z6n {w0 w w' : World} {names : List ByteArray} {n : Nat} {fc : Array Value} {l : List (FT n)} {pv : Value} {vs : List Value} (H : MadeI w0 w names n fc l pv vs)
 (ha : ∀ b,w0.heap.size ≤ b → b < w.heap.size → w'.heap[b]? = w.heap[b]?) (hne : 0 < l.length) :
 ∃ g c,pv = .slice (some ⟨g,0,none⟩) l.length c ∧ g < w'.heap.size ∧ w'.cell? ⟨w0.heap.size + 1,0,none⟩ = some pv ∧ w0.heap.size + 1 < w'.heap.size ∧
  ∀ i (h : i < l.length),∃ v,w'.cell? ⟨g,i,none⟩ = some v ∧ FnAt w' v (z0b names n l[i]):=by
 obtain ⟨hB,h0,h1,hown,hvs⟩:=H
 obtain ⟨g,c,rfl,hg1,hg2⟩:=hown.form hne
 have hl1:=(Array.getElem?_eq_some_iff.1 h1).1
 have e1 : w'.heap[w0.heap.size + 1]? = some (.cells #[.slice (some ⟨g,0,none⟩) l.length c] 216 (0,0)):=(ha _ (by omega) hl1).trans h1
 have eg : w'.heap[g]? = w.heap[g]?:=ha g (by omega) hg2
 refine ⟨g,c,rfl,?_,Jc e1 0,(Array.getElem?_eq_some_iff.1 e1).1,fun i hi => ?_⟩
 ·have : g < w.heap.size:=hg2
  rw [Array.getElem?_eq_getElem this] at eg
  exact (Array.getElem?_eq_some_iff.1 eg).1
 ·obtain ⟨v,lo,hi',q1,q2,q3,q4,q5⟩:=hvs i hi
  refine ⟨v,?_,q2 w' fun b h1' h2' => ha b (by omega) (by omega)⟩
  have:=hown.cells (g:=g) rfl i v q1
  rw [Addr.add_lit,Nat.zero_add] at this
  rw [World.cell?_of_block (w:=w) (w':=w') (a:=⟨g,i,none⟩) eg]
  exact this
theorem made_not {w0 w : World} {names : List ByteArray} {n : Nat} {fc : Array Value} {x : FT n} {pv : Value} {vs : List Value} (H : MadeI w0 w names n fc [x] pv vs) :
 FnI w w0.heap.size w.heap.size (.func (.func 153) #[] #[.pointer (some ⟨w0.heap.size + 1,0,none⟩)]) (fun on => !z0b names n x on):=by
 intro w' ha
 obtain ⟨g,c,rfl,hg,hc,hl,hp⟩:=z6n H ha (by simp)
 obtain ⟨v,d0,hf⟩:=hp 0 (by simp)
 exact ⟨153,_,rfl,z2g Tryz.func153 (by kernel_rfl) (by kernel_rfl),fun on => clo65_any _ g _ c v _ on w' hl hg (by simp) hc d0 hf⟩
theorem made_and {w0 w : World} {names : List ByteArray} {n : Nat} {fc : Array Value} {x y : FT n} {pv : Value} {vs : List Value} (H : MadeI w0 w names n fc [x,y] pv vs) :
 FnI w w0.heap.size w.heap.size (.func (.func 154) #[] #[.pointer (some ⟨w0.heap.size + 1,0,none⟩)]) (fun on => z0b names n x on && z0b names n y on):=by
 intro w' ha
 obtain ⟨g,c,rfl,hg,hc,hl,hp⟩:=z6n H ha (by simp)
 obtain ⟨v,d0,hf⟩:=hp 0 (by simp)
 obtain ⟨v1,d1,hf1⟩:=hp 1 (by simp)
 exact ⟨154,_,rfl,z2g Tryz.func154 (by kernel_rfl) (by kernel_rfl),fun on => clo66_any _ g _ c v v1 _ _ on w' hl hg (by simp) hc d0 d1 hf hf1⟩
theorem made_or {w0 w : World} {names : List ByteArray} {n : Nat} {fc : Array Value} {x y : FT n} {pv : Value} {vs : List Value} (H : MadeI w0 w names n fc [x,y] pv vs) :
 FnI w w0.heap.size w.heap.size (.func (.func 155) #[] #[.pointer (some ⟨w0.heap.size + 1,0,none⟩)]) (fun on => z0b names n x on || z0b names n y on):=by
 intro w' ha
 obtain ⟨g,c,rfl,hg,hc,hl,hp⟩:=z6n H ha (by simp)
 obtain ⟨v,d0,hf⟩:=hp 0 (by simp)
 obtain ⟨v1,d1,hf1⟩:=hp 1 (by simp)
 exact ⟨155,_,rfl,z2g Tryz.func155 (by kernel_rfl) (by kernel_rfl),fun on => clo67_any _ g _ c v v1 _ _ on w' hl hg (by simp) hc d0 d1 hf hf1⟩
theorem made_prop {w : World} {lo : Nat} {b : Nat} {bit : Int} {t : TypeId} {fz : Nat × Nat} (hb : w.heap[b]? = some (.cells #[.int .i64 bit] t fz)) (hlo : lo ≤ b) :
 FnI w lo w.heap.size (.func (.func 152) #[] #[.pointer (some ⟨b,0,none⟩)]) (fun on => bits .and .i64 on bit != 0):=by
 intro w' ha
 have e : w'.heap[b]? = _:=(ha b hlo (Array.getElem?_eq_some_iff.1 hb).1).trans hb
 exact ⟨152,_,rfl,z2g Tryz.func152 (by kernel_rfl) (by kernel_rfl),fun on => clo64_any b bit on w' (Array.getElem?_eq_some_iff.1 e).1 (Jc e 0)⟩
theorem made_const {w : World} {lo : Nat} {b : Nat} {k : Int} {s a : Value} {t : TypeId} {fz : Nat × Nat} (hb : w.heap[b]? = some (.cells #[.int .u8 k,s,a] t fz)) (hlo : lo ≤ b) :
 FnI w lo w.heap.size (.func (.func 156) #[] #[.pointer (some ⟨b,0,none⟩)]) (fun _ => k == 1):=by
 intro w' ha
 have e : w'.heap[b]? = _:=(ha b hlo (Array.getElem?_eq_some_iff.1 hb).1).trans hb
 exact ⟨156,_,rfl,z2g Tryz.func156 (by kernel_rfl) (by kernel_rfl),fun on => clo68_any b k on w' (Array.getElem?_eq_some_iff.1 e).1 (Jc e 0)⟩
end Go.Proofs.YtockinpjfhhkoaaGreatDoor
