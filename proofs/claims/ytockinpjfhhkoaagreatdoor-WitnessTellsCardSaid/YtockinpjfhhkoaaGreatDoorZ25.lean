/- Names, intervals, formulas and expressions that came in, read; how long their names are. -/
import Derived.SizedLaws
import Derived.Test.YtockinpjfhhkoaaGreatDoorZ24
import Derived.Test.YtockinpjfhhkoaaGreatDoorZ01
set_option maxRecDepth 100000
set_option maxHeartbeats 16000000
namespace Go.Proofs.YtockinpjfhhkoaaGreatDoor
open Go.ChangeShapes Go.WideShapes Go.ChangeAt Go.RowKit Go.Joins
theorem Tryz.cells4 : Tryz.prog.cellsOf 4 = 1:=by kernel_rfl
theorem Tryz.cells45 : Tryz.prog.cellsOf 45 = 5:=by kernel_rfl
theorem Tryz.cells23 : Tryz.prog.cellsOf 23 = 1:=by kernel_rfl
theorem Tryz.cells43 : Tryz.prog.cellsOf 43 = 1:=by kernel_rfl
theorem Tryz.cells47 : Tryz.prog.cellsOf 47 = 8:=by kernel_rfl
theorem Tryz.cells25 : Tryz.prog.cellsOf 25 = 3:=by kernel_rfl
section
variable {H : Type} {enc : TypeId × Value → H} {w : World} {base : Nat} {spare : Nat → Bool} {held : Bool}
theorem z4e {P : Program} {e : TypeId} : ∀ {l : List (DataW H)} {d : DataW H},d ∈ l → ∀ n ∈ d.weights P e,n ∈ DataW.weightsAll P e l
 | d' :: r,d,hd,n,hn => by
  simp only [DataW.weightsAll,List.mem_append]
  rcases List.mem_cons.1 hd with rfl | h
  ·exact Or.inl hn
  ·exact Or.inr (z4e h n hn)
theorem open_spn {fuel : Nat} {cs : List Value} {x : DataW H × List MemPlace} (h : DataW.trod enc Tryz.prog w base spare held fuel 45 cs = some x) : ∃ i : Spn,cs = i.cells:=by
 obtain ⟨xs,n,_,hx0,hl,hx,hf⟩:=DataW.trod_struct Tryz.underlying45 h
 rw [Tryz.cells45] at hl
 match cs,hl with
 | [c0,c1,c2,c3,c4],_ =>
  match xs,hx with
  | [y0,y1,y2,y3,y4],_ =>
   obtain ⟨a0,e0,_⟩:=DataW.trod_int (k:=.i64) Tryz.underlying3 (by simpa [Tryz.cells3] using hf 0 _ rfl)
   obtain ⟨a1,e1,_⟩:=DataW.trod_bool Tryz.underlying4 (by simpa [Tryz.cells4] using hf 1 _ rfl)
   obtain ⟨a2,e2,_⟩:=DataW.trod_int (k:=.i64) Tryz.underlying3 (by simpa [Tryz.cells3] using hf 2 _ rfl)
   obtain ⟨a3,e3,_⟩:=DataW.trod_bool Tryz.underlying4 (by simpa [Tryz.cells4] using hf 3 _ rfl)
   obtain ⟨a4,e4,_⟩:=DataW.trod_bool Tryz.underlying4 (by simpa [Tryz.cells4] using hf 4 _ rfl)
   simp at e0 e1 e2 e3 e4
   exact ⟨⟨a0,a1,a2,a3,a4⟩,by rw [e0,e1,e2,e3,e4]; rfl⟩
theorem z2w {P : Program} {t e : TypeId} {C fuel : Nat} {cs : List Value} {x : DataW H × List MemPlace}
 (ht : P.underlying t = some (.slice e)) (hC : P.cellsOf e = C) (hC0 : 0 < C) (h : DataW.trod enc P w base spare held fuel t cs = some x) :
 ∃ a len cap,cs = [.slice a len cap] ∧ len ≤ 9223372036854775807 ∧ (len = 0 ∨ ∃ b off,a = some ⟨b,off,none⟩ ∧ b < w.heap.size ∧
  ∀ i,i < len → ∃ cs' y,cs'.length = C ∧ (∀ j,j < C → w.cell? ⟨b,off + i * C + j,none⟩ = cs'[j]?) ∧ DataW.trod enc P w base spare held (fuel - 1) e cs' = some y ∧ ∀ n ∈ y.1.weights P e,n ∈ x.1.weights P t):=by
 rcases DataW.trod_slice ht h with ⟨rfl,_⟩ | ⟨a,len,cap,elems,rest,n,rfl,rfl,hx,_,hl,hm,hel,hat,_⟩
 ·exact ⟨none,0,0,rfl,by omega,.inl rfl⟩
 ·have hml : cap ≤ 9223372036854775807:=hm
  have hd : x.1 = .slice (elems.map (·.1)) (rest.map (·.1)):=by rw [hx]
  refine ⟨some a,len,cap,rfl,by omega,?_⟩
  by_cases h0 : len = 0
  ·exact .inl h0
  ·have key : ∀ i,i < len → ∃ cs' y,cs'.length = C ∧ (∀ j,j < C → w.cell? (a.add (i * C + j)) = cs'[j]?) ∧ DataW.trod enc P w base spare held n e cs' = some y ∧ ∀ n ∈ y.1.weights P e,n ∈ x.1.weights P t:=by
    intro i hi
    have h1:=hat i hi
    rw [hC,List.getElem?_eq_getElem (by omega)] at h1
    obtain ⟨cs',h2,h3⟩:=Option.bind_eq_some_iff.1 h1
    obtain ⟨_,h4,h5⟩:=World.cells?_some h2
    refine ⟨cs',_,h4,fun j hj => by rw [← Go.Deep.add_add]; exact h5 j hj,h3,fun n hn => ?_⟩
    rw [hd]
    simp only [DataW.weights,ht,List.mem_cons,List.mem_append]
    exact .inr (.inl (z4e (List.mem_map.2 ⟨_,List.getElem_mem (by omega),rfl⟩) _ hn))
   obtain ⟨b,off,sp⟩:=a
   obtain ⟨cs0,_,hl0,hc0,_⟩:=key 0 (by omega)
   have hz:=hc0 0 hC0
   rw [List.getElem?_eq_getElem (by omega)] at hz
   have hsp : sp = none ∧ b < w.heap.size:=by
    simp only [Nat.zero_mul,Nat.add_zero,Addr.add,if_true] at hz
    unfold World.cell? at hz
    cases sp with
    | some s =>
     cases hh : w.heap[b]? <;> rw [hh] at hz <;> try (cases hz)
     rename_i o; cases o <;> simp at hz
    | none => exact ⟨rfl,by
     rcases Nat.lt_or_ge b w.heap.size with h | h
     ·exact h
     ·simp [Array.getElem?_eq_none h] at hz⟩
   obtain ⟨rfl,hb⟩:=hsp
   refine .inr ⟨b,off,rfl,hb,fun i hi => ?_⟩
   obtain ⟨cs',y,h1,h2,h3,h4⟩:=key i hi
   refine ⟨cs',y,h1,fun j hj => ?_,h3,h4⟩
   have:=h2 j hj
   rw [← this]
   congr 1
   unfold Addr.add
   split <;> simp <;> omega
theorem row_of {α : Type} {C : Nat} {R : α → Value → Prop} {b off len : Nat} {Q : α → Prop} (hm : len ≤ 9223372036854775807) (hb : b < w.heap.size)
 (key : ∀ i,i < len → ∃ vs : List Value,∃ t : α,vs.length = C ∧ (∀ j,j < C → w.cell? ⟨b,off + i * C + j,none⟩ = vs[j]?) ∧ R t (.agg vs.toArray) ∧ Q t) :
 ∃ l : List α,l.length = len ∧ RowR w w.heap.size C R (some ⟨b,off,none⟩) l ∧ ∀ t ∈ l,Q t:=by
 have key2 : ∀ i : Fin len,∃ t : α,∃ vs : List Value,vs.length = C ∧ (∀ j,j < C → w.cell? ⟨b,off + i.1 * C + j,none⟩ = vs[j]?) ∧ R t (.agg vs.toArray) ∧ Q t:=fun i => by
  obtain ⟨vs,t,h⟩:=key i.1 i.2
  exact ⟨t,vs,h⟩
 refine ⟨List.ofFn fun i => Classical.choose (key2 i),by simp,⟨by simpa using hm,.inr ⟨b,off,rfl,hb,fun i hi => ?_⟩⟩,fun t ht => ?_⟩
 ·obtain ⟨vs,h1,h2,h3,_⟩:=Classical.choose_spec (key2 ⟨i,by simpa using hi⟩)
  refine ⟨vs,h1,h2,?_⟩
  have e : (List.ofFn fun i => Classical.choose (key2 i))[i] = Classical.choose (key2 ⟨i,by simpa using hi⟩):=by simp
  rw [e]; exact h3
 ·rw [List.mem_ofFn] at ht
  obtain ⟨i,rfl⟩:=ht
  obtain ⟨_,_,_,_,h4⟩:=Classical.choose_spec (key2 i)
  exact h4
theorem open_formula (n : Nat) : ∀ (fuel : Nat) (cs : List Value) (x : DataW H × List MemPlace),fuel ≤ 2 * n → DataW.trod enc Tryz.prog w base spare held fuel 25 cs = some x →
 ∃ t : FT n,FRep w w.heap.size n t (.agg cs.toArray) ∧ ((∀ k ∈ x.1.weights Tryz.prog 25,k ≤ reachBytes) → bndF n t):=by
 induction n with
 | zero =>
  intro fuel cs x hf h
  obtain rfl : fuel = 0:=by omega
  simp [DataW.trod] at h
 | succ n ih =>
  intro fuel cs x hfu h
  obtain ⟨xs,m,rfl,hx0,hl,hx,hf⟩:=DataW.trod_struct Tryz.underlying25 h
  rw [Tryz.cells25] at hl
  match cs,hl with
  | [c0,c1,c2],_ =>
   match xs,hx with
   | [y0,y1,y2],_ =>
    have h0:=hf 0 _ rfl
    have h1:=hf 1 _ rfl
    have h2:=hf 2 _ rfl
    simp [Tryz.cells5,Tryz.cells9,Tryz.cells23] at h0 h1 h2
    obtain ⟨k,e0,_⟩:=DataW.trod_int (k:=.u8) Tryz.underlying5 h0
    obtain ⟨s,e1,x1,_⟩:=DataW.trod_string Tryz.underlying9 h1
    obtain ⟨a,len,cap,e2,hm,hc⟩:=z2w Tryz.underlying23 Tryz.cells25 (by omega) h2
    simp at e0 e1 e2
    subst e0 e1 e2
    have hs : (∀ k ∈ x.1.weights Tryz.prog 25,k ≤ reachBytes) → s.size ≤ 281474976710656:=fun hw => by
     have:=hw s.size (by
      subst hx0
      refine (show _ ∈ DataW.weights Tryz.prog 25 (.agg [y0.1,y1.1,y2.1]) from ?_)
      simp only [DataW.weights,Tryz.underlying25]
      refine DataW.weights_mem_each (j:=1) (t:=9) rfl rfl _ ?_
      rw [x1]; simp [DataW.weights])
     simp only [reachBytes] at this; omega
    have hw2 : ∀ q ∈ y2.1.weights Tryz.prog 23,q ∈ x.1.weights Tryz.prog 25:=fun q hq => by
     subst hx0
     refine (show _ ∈ DataW.weights Tryz.prog 25 (.agg [y0.1,y1.1,y2.1]) from ?_)
     simp only [DataW.weights,Tryz.underlying25]
     exact DataW.weights_mem_each (j:=2) (t:=23) rfl rfl _ hq
    rcases hc with rfl | ⟨b,off,rfl,hb,hc⟩
    ·exact ⟨(k,s,[]),⟨a,cap,rfl,by simp,.inl rfl⟩,fun hw => ⟨hs hw,by simp⟩⟩
    ·obtain ⟨l,hl,hrow,hQ⟩:=row_of (w:=w) (C:=3) (R:=FRep w w.heap.size n) (b:=b) (off:=off) (Q:=fun t => (∀ k ∈ x.1.weights Tryz.prog 25,k ≤ reachBytes) → bndF n t) hm hb (fun i hi => by
      obtain ⟨cs',y,g1,g2,g3,g4⟩:=hc i hi
      obtain ⟨t,ht,hbd⟩:=ih _ _ _ (by omega) g3
      exact ⟨cs',t,g1,g2,ht,fun hw => hbd (fun k hk => hw k (hw2 k (g4 k hk)))⟩)
     subst hl
     exact ⟨(k,s,l),⟨some ⟨b,off,none⟩,cap,rfl,hrow⟩,fun hw => ⟨hs hw,fun t ht => hQ t ht hw⟩⟩
theorem open_tre (m n : Nat) : ∀ (fuel : Nat) (cs : List Value) (x : DataW H × List MemPlace),fuel ≤ 2 * n → fuel ≤ 2 * m → DataW.trod enc Tryz.prog w base spare held fuel 47 cs = some x →
 ∃ t : XT m n,XRep w w.heap.size m n t (.agg cs.toArray) ∧ ((∀ k ∈ x.1.weights Tryz.prog 47,k ≤ reachBytes) → bndX n t):=by
 induction n with
 | zero =>
  intro fuel cs x hf _ h
  obtain rfl : fuel = 0:=by omega
  simp [DataW.trod] at h
 | succ n ih =>
  intro fuel cs x hfu hfm h
  obtain ⟨xs,q,rfl,hx0,hl,hx,hf⟩:=DataW.trod_struct Tryz.underlying47 h
  rw [Tryz.cells47] at hl
  match cs,hl with
  | [c0,c1,c2,c3,c4,c5,c6,c7],_ =>
   match xs,hx with
   | [y0,y1,y2,y3],_ =>
    have h0:=hf 0 _ rfl
    have h1:=hf 1 _ rfl
    have h2:=hf 2 _ rfl
    have h3:=hf 3 _ rfl
    simp [Tryz.cells5,Tryz.cells23,Tryz.cells43,Tryz.cells45] at h0 h1 h2 h3
    obtain ⟨k,e0,_⟩:=DataW.trod_int (k:=.u8) Tryz.underlying5 h0
    obtain ⟨a1,len1,cap1,e1,hm1,hc1⟩:=z2w Tryz.underlying23 Tryz.cells25 (by omega) h1
    obtain ⟨a2,len2,cap2,e2,hm2,hc2⟩:=z2w Tryz.underlying43 Tryz.cells47 (by omega) h2
    obtain ⟨i,e3⟩:=open_spn h3
    simp [Spn.cells] at e0 e1 e2 e3
    obtain ⟨i3,i4,i5,i6,i7⟩:=e3
    subst e0 e1 e2 i3 i4 i5 i6 i7
    have hw1 : ∀ q ∈ y1.1.weights Tryz.prog 23,q ∈ x.1.weights Tryz.prog 47:=fun q hq => by
     subst hx0
     refine (show _ ∈ DataW.weights Tryz.prog 47 (.agg [y0.1,y1.1,y2.1,y3.1]) from ?_)
     simp only [DataW.weights,Tryz.underlying47]
     exact DataW.weights_mem_each (j:=1) (t:=23) rfl rfl _ hq
    have hw2 : ∀ q ∈ y2.1.weights Tryz.prog 43,q ∈ x.1.weights Tryz.prog 47:=fun q hq => by
     subst hx0
     refine (show _ ∈ DataW.weights Tryz.prog 47 (.agg [y0.1,y1.1,y2.1,y3.1]) from ?_)
     simp only [DataW.weights,Tryz.underlying47]
     exact DataW.weights_mem_each (j:=2) (t:=43) rfl rfl _ hq
    have K1 : ∃ l : List (FT m),l.length = len1 ∧ FRow w w.heap.size m a1 l ∧ ((∀ k ∈ x.1.weights Tryz.prog 47,k ≤ reachBytes) → ∀ t ∈ l,bndF m t):=by
     rcases hc1 with rfl | ⟨b,off,rfl,hb,hc⟩
     ·exact ⟨[],rfl,⟨by simp,.inl rfl⟩,fun _ => by simp⟩
     ·obtain ⟨l,hl,hrow,hQ⟩:=row_of (w:=w) (C:=3) (R:=FRep w w.heap.size m) (b:=b) (off:=off) (Q:=fun t => (∀ k ∈ x.1.weights Tryz.prog 47,k ≤ reachBytes) → bndF m t) hm1 hb (fun i hi => by
       obtain ⟨cs',y,g1,g2,g3,g4⟩:=hc i hi
       obtain ⟨t,ht,hbd⟩:=open_formula m _ _ _ (by omega) g3
       exact ⟨cs',t,g1,g2,ht,fun hw => hbd (fun k hk => hw k (hw1 k (g4 k hk)))⟩)
      exact ⟨l,hl,hrow,fun hw t ht => hQ t ht hw⟩
    have K2 : ∃ l : List (XT m n),l.length = len2 ∧ XRow w w.heap.size m n a2 l ∧ ((∀ k ∈ x.1.weights Tryz.prog 47,k ≤ reachBytes) → ∀ t ∈ l,bndX n t):=by
     rcases hc2 with rfl | ⟨b,off,rfl,hb,hc⟩
     ·exact ⟨[],rfl,⟨by simp,.inl rfl⟩,fun _ => by simp⟩
     ·obtain ⟨l,hl,hrow,hQ⟩:=row_of (w:=w) (C:=8) (R:=XRep w w.heap.size m n) (b:=b) (off:=off) (Q:=fun t => (∀ k ∈ x.1.weights Tryz.prog 47,k ≤ reachBytes) → bndX n t) hm2 hb (fun i hi => by
       obtain ⟨cs',y,g1,g2,g3,g4⟩:=hc i hi
       obtain ⟨t,ht,hbd⟩:=ih _ _ _ (by omega) (by omega) g3
       exact ⟨cs',t,g1,g2,ht,fun hw => hbd (fun k hk => hw k (hw2 k (g4 k hk)))⟩)
      exact ⟨l,hl,hrow,fun hw t ht => hQ t ht hw⟩
    obtain ⟨l1,r1,s1,b1⟩:=K1
    obtain ⟨l2,r2,s2,b2⟩:=K2
    subst r1 r2
    exact ⟨(k,l1,l2,i),⟨a1,cap1,a2,cap2,rfl,s1,s2⟩,fun hw => ⟨b1 hw,b2 hw⟩⟩
theorem open_names {v : Value} {d : DataW H} {ps : List MemPlace} {W : World} {r : Reach} {b0 : Nat} (hval : Value.okWide Tryz.prog W r b0 22 v) (h : DataW.Trod enc Tryz.prog w base spare held 22 v d ps) :
 ∃ l,NRep w w.heap.size v l ∧ ((∀ n ∈ d.weights Tryz.prog 22,n ≤ reachBytes) → ∀ s ∈ l,s.size ≤ 281474976710656):=by
 obtain ⟨fuel,h⟩:=h
 obtain ⟨a9,len9,cap9,rfl⟩:=okWide_slice Tryz.underlying22 hval
 have hv0 : (Value.slice a9 len9 cap9).cells.toList = [Value.slice a9 len9 cap9]:=by simp [Value.cells]
 rw [hv0] at h
 obtain ⟨a,len,cap,e,hm,hc⟩:=z2w Tryz.underlying22 Tryz.cells9 (by omega) h
 obtain ⟨rfl,rfl,rfl⟩ : a9 = a ∧ len9 = len ∧ cap9 = cap:=by simpa using e
 rcases hc with rfl | ⟨b,off,rfl,hb,hc⟩
 ·exact ⟨[],⟨a9,cap9,rfl,by simp,.inl rfl⟩,fun _ => by simp⟩
 ·have key : ∀ i : Fin len9,∃ s : ByteArray,w.cell? ⟨b,off + i.1,none⟩ = some (.string s) ∧ ((∀ n ∈ d.weights Tryz.prog 22,n ≤ reachBytes) → s.size ≤ 281474976710656):=fun i => by
   obtain ⟨cs',y,g1,g2,g3,g4⟩:=hc i.1 i.2
   obtain ⟨s,e1,x1,_⟩:=DataW.trod_string Tryz.underlying9 g3
   refine ⟨s,?_,fun hw => ?_⟩
   ·have:=g2 0 (by omega)
    rw [e1] at this
    simpa using this
   ·have:=hw s.size (g4 _ (by rw [x1]; simp [DataW.weights]))
    simp only [reachBytes] at this; omega
  refine ⟨List.ofFn fun i => Classical.choose (key i),⟨some ⟨b,off,none⟩,cap9,by simp,by simpa using hm,.inr ⟨b,off,rfl,hb,fun i hi => ?_⟩⟩,fun hw s hs => ?_⟩
  ·have:=(Classical.choose_spec (key ⟨i,by simpa using hi⟩)).1
   simpa using this
  ·rw [List.mem_ofFn] at hs
   obtain ⟨i,rfl⟩:=hs
   exact (Classical.choose_spec (key i)).2 hw
end
end Go.Proofs.YtockinpjfhhkoaaGreatDoor
