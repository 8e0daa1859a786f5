/- tree.Check walked: whether an expression may be; the examples' expressions; alive. -/
import Derived.Test.YtockinpjfhhkoaaGreatDoorZ23
import Derived.Test.YtockinpjfhhkoaaGreatDoorZ40
import Derived.Test.YtockinpjfhhkoaaGreatDoorZ09
import Derived.Test.YtockinpjfhhkoaaGreatDoorZ21
import Derived.Test.YtockinpjfhhkoaaGreatDoorZ20
import Derived.Defers
set_option maxRecDepth 100000
set_option maxHeartbeats 16000000
open List renaming setIfInBounds_toArray → J1, set_cons_zero → J2, set_cons_succ → J3
open Go.Lib renaming cell_of_heap → Jc, frozen_of_heap → Jf, hid → Jh
open Go.AllReadyH renaming cons → Jd, nil → Je
open Go renaming wpAnyH_ready → Jr
namespace Go.Proofs.YtockinpjfhhkoaaGreatDoor
open Go.RowKit
@[local go_sem] theorem run_store_func {P : Program} {w : World} {a : Addr} {m : Mode} (fn : Fn) (x y : Array Value) : (store a (.func fn x y) m).run P w = stored P w a (.func fn x y) m:=run_store P w a _ m rfl
theorem cells8 {W w1 : World} {N : Nat} {x0 x1 x2 x3 x4 x5 x6 x7 : Value} {t : TypeId} {fz : Nat × Nat} (h : W.heap[N]? = some (.cells #[x0,x1,x2,x3,x4,x5,x6,x7] t fz)) (hb : Below W.heap.size W w1) :
 w1.heap[N]? = some (.cells #[x0,x1,x2,x3,x4,x5,x6,x7] t fz) ∧ w1.cell? ⟨N,0,none⟩ = some x0 ∧ w1.cell? ⟨N,1,none⟩ = some x1 ∧ w1.cell? ⟨N,2,none⟩ = some x2 ∧ w1.cell? ⟨N,3,none⟩ = some x3 ∧
  w1.cell? ⟨N,4,none⟩ = some x4 ∧ w1.cell? ⟨N,5,none⟩ = some x5 ∧ w1.cell? ⟨N,6,none⟩ = some x6 ∧ w1.cell? ⟨N,7,none⟩ = some x7 ∧ N < w1.heap.size:=by
 have h1 : w1.heap[N]? = some (.cells #[x0,x1,x2,x3,x4,x5,x6,x7] t fz):=by rw [hb.block N (Array.getElem?_eq_some_iff.1 h).1]; exact h
 exact ⟨h1,Jc h1 0,Jc h1 1,Jc h1 2,Jc h1 3,Jc h1 4,Jc h1 5,Jc h1 6,Jc h1 7,(Array.getElem?_eq_some_iff.1 h1).1⟩
def ChkW (w0 w : World) (cs : Array Value) (names : List ByteArray) (b : Nat) : Prop :=
 Below w0.heap.size w0 w ∧ w.heap[w0.heap.size]? = some (.cells cs 47 (0,0)) ∧ Known w names b (w0.heap.size + 1)
theorem ChkW.up {w0 w w' : World} {cs : Array Value} {names : List ByteArray} {b : Nat} (h : ChkW w0 w cs names b) (hb : Below w.heap.size w w') : ChkW w0 w' cs names b :=
 ⟨h.1.trans (hb.mono h.1.size),by rw [hb.block _ (Array.getElem?_eq_some_iff.1 h.2.1).1]; exact h.2.1,h.2.2.up hb⟩
theorem z71 (names : List ByteArray) (nv : Value) (hs : ∀ s ∈ names,s.size ≤ 1048576) (m n : Nat) (t : XT m n) (v : Value) (w : World) (hr : Rdy w) (hn : NRep w w.heap.size nv names) (hf : XRep w w.heap.size m n t v) :
 Calls Tryz.prog 32 #[nv,v] w fun e w' => e = .returned (.int .i64 (z0r names n t)) ∧ Below w.heap.size w w':=by
 obtain ⟨k,a1,l1,c1,a,l,c,lo,ls,hi,hs',op,rfl⟩:=hf.shape
 obtain ⟨na,nc,hnv,hnr⟩:=id hn
 have hmf : ∀ (fn : Fn) (first cap : Array Value) (w : World),(Instr.makeFunc fn first cap).run Tryz.prog w = .ok (.func fn first cap) w:=fun _ _ _ _ => rfl
 subst hnv
 have HC0 : Hid (∀ w1 : World,w1 = (w.alloc (.cells #[.int .u8 k,.slice a1 l1 c1,.slice a l c,.int .i64 lo,.bool ls,.int .i64 hi,.bool hs',.bool op] 47)).alloc (.cells #[.slice na names.length nc] 22) → ChkW w (w1.alloc (.cells #[.func (.func 130) #[] #[.pointer (some ⟨w.heap.size + 1,0,none⟩)]] 30)) #[.int .u8 k,.slice a1 l1 c1,.slice a l c,.int .i64 lo,.bool ls,.int .i64 hi,.bool hs',.bool op] names w1.heap.size):=by
  rintro w1 rfl
  have hb3 : Below w.heap.size w (((w.alloc (.cells #[.int .u8 k,.slice a1 l1 c1,.slice a l c,.int .i64 lo,.bool ls,.int .i64 hi,.bool hs',.bool op] 47)).alloc (.cells #[.slice na names.length nc] 22)).alloc (.cells #[.func (.func 130) #[] #[.pointer (some ⟨w.heap.size + 1,0,none⟩)]] 30)) :=
   (((Below.refl _ w).alloc (Nat.le_refl _) _).alloc (by simp) _).alloc (by simp; omega) _
  obtain ⟨d1,d2,d3,_,hz⟩:=blocks3 (Below.refl _ (((w.alloc (.cells #[.int .u8 k,.slice a1 l1 c1,.slice a l c,.int .i64 lo,.bool ls,.int .i64 hi,.bool hs',.bool op] 47)).alloc (.cells #[.slice na names.length nc] 22)).alloc (.cells #[.func (.func 130) #[] #[.pointer (some ⟨w.heap.size + 1,0,none⟩)]] 30)))
  have hzz : ((w.alloc (.cells #[.int .u8 k,.slice a1 l1 c1,.slice a l c,.int .i64 lo,.bool ls,.int .i64 hi,.bool hs',.bool op] 47)).alloc (.cells #[.slice na names.length nc] 22)).heap.size = w.heap.size + 2:=by simp
  rw [hzz]
  exact ⟨hb3,d1,_,by omega,by omega,Jc d3 0,Jc d2 0,hn.up hb3 (by omega)⟩
 have HF:=Jh hf
 have HN : Hid (∀ w1 b,ChkW w w1 #[.int .u8 k,.slice a1 l1 c1,.slice a l c,.int .i64 lo,.bool ls,.int .i64 hi,.bool hs',.bool op] names b → Calls Tryz.prog 68 #[.slice na names.length nc] w1 fun e w' => e = .returned (.int .i64 (z0z names)) ∧ Below w1.heap.size w1 w') :=
  fun w1 _ h => z4z names _ hs w1 (hr.below h.1) (hn.up h.1 h.1.size)
 have HX : Hid (∀ w1 b,ChkW w w1 #[.int .u8 k,.slice a1 l1 c1,.slice a l c,.int .i64 lo,.bool ls,.int .i64 hi,.bool hs',.bool op] names b → XRep w1 w1.heap.size m n t (.agg #[.int .u8 k,.slice a1 l1 c1,.slice a l c,.int .i64 lo,.bool ls,.int .i64 hi,.bool hs',.bool op])) :=
  fun w1 _ h => hf.up h.1 h.1.size
 have HE : Hid (z0r names n t = if z0z names ≠ 0 then 2 else if allX z0c n t = false then 8 else if 64 < z10 n t then 160 else if allX (z2v names) n t = false then 161 else if allX z2s n t = false then 162 else 0):=rfl
 clear hr hs hf hn hnr
 go_enter Tryz.func32,Tryz.ntmps32
 go_wp2_with fail
 refine (z4k _ _ _ _).mono ?_
 rintro e w1 ⟨rfl,hw1⟩
 have hc0:=HC0.out w1 hw1
 have HC1:=Jh hc0
 have hbl:=hc0.2.1
 clear hw1 HC0 hc0 hbl
 have HC:=HC1
 clear HC1
 go_wp2_with fail
 refine (HN.out _ _ HC.out).mono ?_
 rintro e w2 ⟨rfl,hbq⟩
 have HC2:=Jh (HC.out.up hbq)
 clear hbq HC
 have HC:=HC2
 clear HC2
 by_cases h1 : z0z names = 0
 ·rw [if_neg (by simp [h1])] at HE
  have q1 : (z0z names != 0) = false:=by simp [h1]
  clear h1
  obtain ⟨_,x0,x1,x2,x3,x4,x5,x6,x7,hNlt⟩:=cells8 HC.out.2.1 (Below.refl _ _)
  go_wp2_with fail
  clear q1
  refine (zb2 z0c 71 #[] n t _ _ (HX.out _ _ HC.out) (so34 _)).mono ?_
  rintro e w3 ⟨rfl,hbq⟩
  have HC2:=Jh (HC.out.up hbq)
  clear hbq HC
  have HC:=HC2
  clear HC2
  clear x0 x1 x2 x3 x4 x5 x6 x7 hNlt
  cases h2 : allX z0c n t with
  | false =>
   have H2 : Hid (z0r names n t = 8):=by rw [Hid,HE.out,if_pos h2]
   clear h2
   go_wp2_with fail
   all_goals go_ret
   all_goals exact ⟨z2l (by rw [H2.out]),HC.out.1⟩
  | true =>
   rw [if_neg (by simp [h2])] at HE
   clear h2
   obtain ⟨_,x0,x1,x2,x3,x4,x5,x6,x7,hNlt⟩:=cells8 HC.out.2.1 (Below.refl _ _)
   go_wp2_with fail
   refine (z4n m n t _ _ (HX.out _ _ HC.out)).mono ?_
   rintro e w4 ⟨rfl,hbq⟩
   have HC2:=Jh (HC.out.up hbq)
   clear hbq HC
   have HC:=HC2
   clear HC2
   clear x0 x1 x2 x3 x4 x5 x6 x7 hNlt
   by_cases h3 : 64 < z10 n t
   ·have H3 : Hid (z0r names n t = 160):=by rw [Hid,HE.out,if_pos h3]
    go_wp2_with fail
    all_goals go_ret
    all_goals exact ⟨z2l (by rw [H3.out]),HC.out.1⟩
   ·rw [if_neg h3] at HE
    obtain ⟨_,x0,x1,x2,x3,x4,x5,x6,x7,hNlt⟩:=cells8 HC.out.2.1 (Below.refl _ _)
    go_wp2_with fail
    refine (zb2 (z2v names) 72 _ n t _ _ (HX.out _ _ HC.out) (so35 names _ _ _ HC.out.2.2)).mono ?_
    rintro e w5 ⟨rfl,hbq⟩
    have HC2:=Jh (HC.out.up hbq)
    clear hbq HC
    have HC:=HC2
    clear HC2
    clear x0 x1 x2 x3 x4 x5 x6 x7 hNlt
    cases h4 : allX (z2v names) n t with
    | false =>
     have H4 : Hid (z0r names n t = 161):=by rw [Hid,HE.out,if_pos h4]
     clear h4
     go_wp2_with fail
     all_goals go_ret
     all_goals exact ⟨z2l (by rw [H4.out]),HC.out.1⟩
    | true =>
     rw [if_neg (by simp [h4])] at HE
     clear h4
     obtain ⟨_,x0,x1,x2,x3,x4,x5,x6,x7,hNlt⟩:=cells8 HC.out.2.1 (Below.refl _ _)
     go_wp2_with fail
     refine (zb2 z2s 75 #[] n t _ _ (HX.out _ _ HC.out) (so38 _)).mono ?_
     rintro e w6 ⟨rfl,hbq⟩
     have HC2:=Jh (HC.out.up hbq)
     clear hbq HC
     have HC:=HC2
     clear HC2
     clear x0 x1 x2 x3 x4 x5 x6 x7 hNlt
     cases h5 : allX z2s n t with
     | false =>
      have H5 : Hid (z0r names n t = 162):=by rw [Hid,HE.out,if_pos h5]
      clear h5
      go_wp2_with fail
      all_goals go_ret
      all_goals exact ⟨z2l (by rw [H5.out]),HC.out.1⟩
     | true =>
      have H5 : Hid (z0r names n t = 0):=by rw [Hid,HE.out,if_neg (by simp [h5])]
      clear h5
      go_wp2_with fail
      all_goals go_ret
      all_goals exact ⟨z2l (by rw [H5.out]),HC.out.1⟩
 ·have H1 : Hid (z0r names n t = 2):=by rw [Hid,HE.out,if_pos h1]
  have q1 : (z0z names != 0) = true:=by simp [h1]
  clear h1
  go_wp2_with fail
  all_goals go_ret
  all_goals exact ⟨z2l (by rw [H1.out]),HC.out.1⟩
open Go.RowKit
def V3 (k4 k5 k6 : Nat) (x0 x1 x2 x3 x4 x5 x6 x7 : Value) (pl cd : Int) (w : World) : Prop :=
 (w.heap[k4]? = some (.cells #[x0,x1,x2,x3,x4,x5,x6,x7] 47 (0,0)) ∧ w.heap[k5]? = some (.cells #[.int .i64 pl] 3 (0,0)) ∧ w.heap[k6]? = some (.cells #[.int .i64 cd] 33 (0,0))) ∧ k4 ≠ k5 ∧ k4 ≠ k6 ∧ k5 ≠ k6
abbrev V3Z (k4 k5 k6 : Nat) (pl cd : Int) (w : World) : Prop:=V3 k4 k5 k6 (.int .u8 0) (.slice none 0 0) (.slice none 0 0) (.int .i64 0) (.bool false) (.int .i64 0) (.bool false) (.bool false) pl cd w
section
variable {k4 k5 k6 : Nat} {x0 x1 x2 x3 x4 x5 x6 x7 : Value} {pl cd : Int} {w w' : World}
theorem V3.same (h : V3 k4 k5 k6 x0 x1 x2 x3 x4 x5 x6 x7 pl cd w) (h0 : w'.heap[k4]? = w.heap[k4]?) (h1 : w'.heap[k5]? = w.heap[k5]?) (h2 : w'.heap[k6]? = w.heap[k6]?) : V3 k4 k5 k6 x0 x1 x2 x3 x4 x5 x6 x7 pl cd w' :=
 ⟨⟨h0.trans h.1.1,h1.trans h.1.2.1,h2.trans h.1.2.2⟩,h.2⟩
theorem V3.lt (h : V3 k4 k5 k6 x0 x1 x2 x3 x4 x5 x6 x7 pl cd w) : k4 < w.heap.size ∧ k5 < w.heap.size ∧ k6 < w.heap.size :=
 ⟨(Array.getElem?_eq_some_iff.1 h.1.1).1,(Array.getElem?_eq_some_iff.1 h.1.2.1).1,(Array.getElem?_eq_some_iff.1 h.1.2.2).1⟩
theorem V3.below (h : V3 k4 k5 k6 x0 x1 x2 x3 x4 x5 x6 x7 pl cd w) (hb : Below w.heap.size w w') : V3 k4 k5 k6 x0 x1 x2 x3 x4 x5 x6 x7 pl cd w' :=
 h.same (hb.block _ h.lt.1) (hb.block _ h.lt.2.1) (hb.block _ h.lt.2.2)
theorem V3.bt {pb : Nat} (h : V3 k4 k5 k6 x0 x1 x2 x3 x4 x5 x6 x7 pl cd w) (hb : BtP pb w w') (h4 : k4 ≠ pb) (h5 : k5 ≠ pb) (h6 : k6 ≠ pb) : V3 k4 k5 k6 x0 x1 x2 x3 x4 x5 x6 x7 pl cd w' :=
 h.same (hb.2.2.2.2 _ h.lt.1 h4) (hb.2.2.2.2 _ h.lt.2.1 h5) (hb.2.2.2.2 _ h.lt.2.2 h6)
theorem V3.code (h : V3 k4 k5 k6 x0 x1 x2 x3 x4 x5 x6 x7 pl cd w) (c : Int) : V3 k4 k5 k6 x0 x1 x2 x3 x4 x5 x6 x7 pl c (w.setCell ⟨k6,0,none⟩ (.int .i64 c)) :=
 ⟨⟨(z04 w k6 0 _ k4 h.2.2.1).trans h.1.1,(z04 w k6 0 _ k5 h.2.2.2).trans h.1.2.1,z0l h.1.2.2 0 _⟩,h.2⟩
theorem V3.place (h : V3 k4 k5 k6 x0 x1 x2 x3 x4 x5 x6 x7 pl cd w) (c : Int) : V3 k4 k5 k6 x0 x1 x2 x3 x4 x5 x6 x7 c cd (w.setCell ⟨k5,0,none⟩ (.int .i64 c)) :=
 ⟨⟨(z04 w k5 0 _ k4 h.2.1).trans h.1.1,z0l h.1.2.1 0 _,(z04 w k5 0 _ k6 h.2.2.2.symm).trans h.1.2.2⟩,h.2⟩
theorem V3.expr (h : V3 k4 k5 k6 x0 x1 x2 x3 x4 x5 x6 x7 pl cd w) (y0 y1 y2 y3 y4 y5 y6 y7 : Value) : V3 k4 k5 k6 y0 y1 y2 y3 y4 y5 y6 y7 pl cd (set8 w k4 y0 y1 y2 y3 y4 y5 y6 y7) :=
 ⟨⟨z23 h.1.1 _ _ _ _ _ _ _ _,(z09 w k4 _ _ _ _ _ _ _ _ k5 h.2.1.symm).trans h.1.2.1,(z09 w k4 _ _ _ _ _ _ _ _ k6 h.2.2.1.symm).trans h.1.2.2⟩,h.2⟩
theorem V3.cells (h : V3 k4 k5 k6 x0 x1 x2 x3 x4 x5 x6 x7 pl cd w) :
 (w.cell? ⟨k4,0,none⟩ = some x0 ∧ w.cell? ⟨k4,1,none⟩ = some x1 ∧ w.cell? ⟨k4,2,none⟩ = some x2 ∧ w.cell? ⟨k4,3,none⟩ = some x3 ∧ w.cell? ⟨k4,4,none⟩ = some x4 ∧ w.cell? ⟨k4,5,none⟩ = some x5 ∧ w.cell? ⟨k4,6,none⟩ = some x6 ∧ w.cell? ⟨k4,7,none⟩ = some x7) ∧
  w.cell? ⟨k5,0,none⟩ = some (.int .i64 pl) ∧ w.cell? ⟨k6,0,none⟩ = some (.int .i64 cd) ∧ (w.frozen? ⟨k4,0,none⟩ = false ∧ w.frozen? ⟨k4,1,none⟩ = false ∧ w.frozen? ⟨k4,2,none⟩ = false ∧ w.frozen? ⟨k4,3,none⟩ = false ∧ w.frozen? ⟨k4,4,none⟩ = false ∧ w.frozen? ⟨k4,5,none⟩ = false ∧ w.frozen? ⟨k4,6,none⟩ = false ∧ w.frozen? ⟨k4,7,none⟩ = false) ∧
  w.frozen? ⟨k5,0,none⟩ = false ∧ w.frozen? ⟨k6,0,none⟩ = false :=
 ⟨⟨Jc h.1.1 0,Jc h.1.1 1,Jc h.1.1 2,Jc h.1.1 3,Jc h.1.1 4,Jc h.1.1 5,Jc h.1.1 6,Jc h.1.1 7⟩,Jc h.1.2.1 0,Jc h.1.2.2 0,
  ⟨Jf h.1.1 0,Jf h.1.1 1,Jf h.1.1 2,Jf h.1.1 3,Jf h.1.1 4,Jf h.1.1 5,Jf h.1.1 6,Jf h.1.1 7⟩,Jf h.1.2.1 0,Jf h.1.2.2 0⟩
end
theorem z0e {tm : Array Value} {k4 k5 k6 : Nat} {x0 x1 x2 x3 x4 x5 x6 x7 : Value} {pl cd : Int} {W : World} (t4 : tm[4]? = some (.pointer (some ⟨k4,0,none⟩))) (t5 : tm[5]? = some (.pointer (some ⟨k5,0,none⟩))) (t6 : tm[6]? = some (.pointer (some ⟨k6,0,none⟩))) (h : V3 k4 k5 k6 x0 x1 x2 x3 x4 x5 x6 x7 pl cd W) :
 (results Tryz.f65 tm).run Tryz.prog W = .ok (.tuple #[.agg #[x0,x1,x2,x3,x4,x5,x6,x7],.int .i64 pl,.int .i64 cd]) W:=by
 obtain ⟨⟨c0,c1,c2,c3,c4,c5,c6,c7⟩,d5,d6,_⟩:=h.cells
 simp [results,Tryz.results65,go_sem,t4,t5,t6,c0,c1,c2,c3,c4,c5,c6,c7,d5,d6]
theorem z0x {R : Ending → World → Prop} {a : Act} {W : World} {v : Value} (ha : a.defers = []) (h : (results Tryz.f65 a.tmps).run Tryz.prog W = .ok v W) (hR : R (.returned v) W) : bodyPostD Tryz.prog Tryz.f65 R Exit.ret a W:=by
 show Leaves Tryz.prog Tryz.f65 a.tmps R a.defers .returning W
 rw [ha]
 exact ⟨v,h,hR⟩
theorem V3.drew {k4 k5 k6 : Nat} {x0 x1 x2 x3 x4 x5 x6 x7 : Value} {pl cd : Int} {w : World} (h : V3 k4 k5 k6 x0 x1 x2 x3 x4 x5 x6 x7 pl cd w) : V3 k4 k5 k6 x0 x1 x2 x3 x4 x5 x6 x7 pl cd w.drew :=
 ⟨⟨by rw [drewh]; exact h.1.1,by rw [drewh]; exact h.1.2.1,by rw [drewh]; exact h.1.2.2⟩,h.2⟩
theorem OwnT.caps {w : World} {B g n cap : Nat} {l : List Tok} (h : OwnT w B (.slice (some ⟨g,0,none⟩) n cap) l) : l.length ≤ cap ∧ cap ≤ 9223372036854775807:=by
 rcases h.2 with ⟨h1,_⟩ | ⟨g',cap',cur,hv,_,_,hn,hm,_⟩
 ·cases h1
 ·injection hv with _ _ h3
  subst h3
  exact ⟨hn,by have:=hm; simp only [maxLen] at this; omega⟩
theorem ps_start {w : World} {B : Nat} {v : Value} {toks : List Tok} {stop : Int} (h : OwnT w B v (toks ++ [⟨0,⟨#[]⟩,stop⟩])) (hg : ∀ t ∈ toks,TokG t) :
 ∃ g cap,v = .slice (some ⟨g,0,none⟩) (toks.length + 1) cap ∧ B ≤ g ∧ g < w.heap.size ∧ Ps w.heap.size g (w.alloc (.cells #[.slice (some ⟨g,0,none⟩) (toks.length + 1) cap,.int .i64 0] 196)) (toks ++ [⟨0,⟨#[]⟩,stop⟩]) 0:=by
 obtain ⟨g,cap,rfl,hB,hlt,hc,_,_⟩:=h.at (by simp)
 have hl : (toks ++ [(⟨0,⟨#[]⟩,stop⟩ : Tok)]).length = toks.length + 1:=by simp
 obtain ⟨h1,h2⟩:=h.caps
 refine ⟨g,cap,by rw [hl],hB,hlt,⟨⟨0,cap,?_,h1,h2,by omega,by simp; omega,hc.agree (Lib.alloc_old _ _ _ hlt)⟩,⟨toks,stop,rfl⟩,fun t ht => ?_⟩⟩
 ·rw [hl]; exact z0b rfl
 ·rcases List.mem_append.1 ht with h | h
  ·exact hg t h
  ·simp at h; subst h; exact end_good stop
theorem BtP.below_of {pb B : Nat} {w w' w0 : World} (h : BtP pb w w') (h0 : Below B w0 w) (hB : B ≤ w.heap.size) (hpb : B ≤ pb) : Below B w0 w' :=
 h0.trans ⟨h.1,h.2.1,h.2.2.1,h.2.2.2.1,fun j hj => h.2.2.2.2 j (by omega) (by omega)⟩
theorem parse21_bad (names : List ByteArray) (nv : Value) (hs : ∀ s ∈ names,s.size ≤ 1048576) (s : ByteArray) (w : World) (hr : Rdy w) (hn : NRep w w.heap.size nv names) (hbad : ¬ (z0z names = 0 ∧ (cutR s).2.2 = 0)) :
 Calls Tryz.prog 65 #[nv,.string s] w fun e w' => ∃ v at_ code,e = .returned (.tuple #[v,.int .i64 at_,.int .i64 code]) ∧ ParseIs names s w' v at_ code ∧ Below w.heap.size w w':=by
 obtain ⟨na,nc,rfl,_⟩:=id hn
 obtain ⟨k5,hk5⟩ : ∃ k5,k5 = w.heap.size + 1:=⟨_,rfl⟩
 obtain ⟨k6,hk6⟩ : ∃ k6,k6 = w.heap.size + 1 + 1:=⟨_,rfl⟩
 obtain ⟨W0,hW0⟩ : ∃ W0,W0 = ((w.alloc (.cells #[.int .u8 0,.slice none 0 0,.slice none 0 0,.int .i64 0,.bool false,.int .i64 0,.bool false,.bool false] 47)).alloc (.cells #[.int .i64 0] 3)).alloc (.cells #[.int .i64 0] 33):=⟨_,rfl⟩
 have hz0 : W0.heap.size = w.heap.size + 3:=by rw [hW0]; simp
 have hb0 : Below w.heap.size w W0:=by rw [hW0]; exact (((Below.refl _ w).alloc (Nat.le_refl _) _).alloc (by simp) _).alloc (by simp; omega) _
 have hv0 : V3Z w.heap.size k5 k6 0 0 W0:=by
  rw [hW0]
  exact ⟨⟨z1c (z1c (z0b rfl)),z1c (z0b (by rw [hk5]; simp)),z0b (by rw [hk6]; simp)⟩,by omega,by omega,by omega⟩
 have hr0:=hr.below hb0
 have hn0:=hn.up hb0 hb0.size
 have HN:=Jh (z4z names _ hs W0 hr0 hn0)
 have HV0:=Jh hv0
 have HB0:=Jh hb0
 have HR:=Jh hr
 have HNR:=Jh hn
 have HS:=Jh hs
 have HK5:=Jh hk5.symm
 have HK6:=Jh hk6.symm
 have HZ0:=Jh hz0
 have HW0:=Jh hW0.symm
 have HL : Hid (w.heap.size ≤ k5 ∧ w.heap.size ≤ k6):=by rw [Hid]; omega
 have hmf : ∀ (fn : Fn) (first cap : Array Value) (w : World),(Instr.makeFunc fn first cap).run Tryz.prog w = .ok (.func fn first cap) w:=fun _ _ _ _ => rfl
 clear hr hn hs hz0 hb0 hv0 hr0 hn0 hk5 hk6 hW0
 have HCUT : Hid (∀ W,Below w.heap.size w W → Calls Tryz.prog 126 #[.string s] W fun e w' => (∃ v',e = .returned (.tuple #[v',.int .i64 (cutR s).2.1,.int .i64 (cutR s).2.2]) ∧ OwnT w' W.heap.size v' (cutR s).1) ∧ Below W.heap.size W w'):=fun W hb => cut9_any s W (HR.out.below hb)
 by_cases hq : z0z names = 0
 ·have HQ:=Jh hq
  rw [hq] at HN
  clear hq
  obtain ⟨pl,hpl⟩ : ∃ pl,pl = (cutR s).2.1:=⟨_,rfl⟩
  obtain ⟨cd,hcd⟩ : ∃ cd,cd = (cutR s).2.2:=⟨_,rfl⟩
  rw [← hpl,← hcd] at HCUT
  have HPL:=Jh hpl
  have HCD:=Jh hcd
  clear hpl hcd
  by_cases hq2 : cd = 0
  ·exact absurd ⟨HQ.out,by rw [← HCD.out]; exact hq2⟩ hbad
  ·have q2 : (cd != 0) = true:=by simpa using hq2
   have HQ2:=Jh hq2
   clear hq2
   go_enter_defers Tryz.func65,Tryz.ntmps65
   go_wp2_with fail
   rw [HW0.out,HK6.out,HK5.out]
   refine HN.out.mono ?_
   rintro e w1 ⟨rfl,hb1⟩
   have hv1:=HV0.out.below hb1
   obtain ⟨_,_,c6,_,_,f6⟩:=hv1.cells
   obtain ⟨W1,hW1⟩ : ∃ W1,W1 = w1.setCell ⟨k6,0,none⟩ (.int .i64 0):=⟨_,rfl⟩
   have HV1 : Hid (V3Z w.heap.size k5 k6 0 0 W1):=by rw [Hid,hW1]; exact hv1.code 0
   have HB1 : Hid (Below w.heap.size w W1):=by rw [Hid,hW1]; exact (HB0.out.trans (hb1.mono HB0.out.size)).setCell (p:=⟨k6,0,none⟩) HL.out.2 (.int .i64 0)
   have HW1:=Jh hW1.symm
   clear hb1 hv1 hW1
   go_wp2_with fail
   rw [HW1.out]
   clear HW1
   refine (HCUT.out W1 HB1.out).mono ?_
   rintro e w2 ⟨⟨v',rfl,hown⟩,hb2⟩
   have hv2:=HV1.out.below hb2
   obtain ⟨_,c5,c6,_,f5,f6⟩:=hv2.cells
   obtain ⟨W2,hW2⟩ : ∃ W2,W2 = (w2.setCell ⟨k5,0,none⟩ (.int .i64 pl)).setCell ⟨k6,0,none⟩ (.int .i64 cd):=⟨_,rfl⟩
   have HV2 : Hid (V3Z w.heap.size k5 k6 pl cd W2):=by rw [Hid,hW2]; exact (hv2.place pl).code cd
   have HB2 : Hid (Below w.heap.size w W2):=by
    rw [Hid,hW2]
    exact ((HB1.out.trans (hb2.mono HB1.out.size)).setCell (p:=⟨k5,0,none⟩) HL.out.1 _).setCell (p:=⟨k6,0,none⟩) HL.out.2 _
   obtain ⟨_,d5,d6,_,g5,g6⟩:=(hv2.place pl).cells
   have HW2:=Jh hW2.symm
   clear hb2 hv2 hW2 hown
   go_wp2_with fail
   try rw [HW2.out]
   clear HW2
   have hv3:=HV2.out.expr (.int .u8 0) (.slice none 0 0) (.slice none 0 0) (.int .i64 0) (.bool false) (.int .i64 0) (.bool false) (.bool false)
   have hv4:=(hv3.drew).place pl
   have hv5:=hv4.code cd
   obtain ⟨W3,hW3⟩ : ∃ W3,W3 = (set8 W2 w.heap.size (.int .u8 0) (.slice none 0 0) (.slice none 0 0) (.int .i64 0) (.bool false) (.int .i64 0) (.bool false) (.bool false)).drew:=⟨_,rfl⟩
   obtain ⟨W4,hW4⟩ : ∃ W4,W4 = W3.setCell ⟨k5,0,none⟩ (.int .i64 pl):=⟨_,rfl⟩
   obtain ⟨W5,hW5⟩ : ∃ W5,W5 = W4.setCell ⟨k6,0,none⟩ (.int .i64 cd):=⟨_,rfl⟩
   have HV3 : Hid (V3Z w.heap.size k5 k6 pl cd W3):=by rw [Hid,hW3]; exact hv3.drew
   have HV4 : Hid (V3Z w.heap.size k5 k6 pl cd W4):=by rw [Hid,hW4,hW3]; exact hv4
   have HV5 : Hid (V3Z w.heap.size k5 k6 pl cd W5):=by rw [Hid,hW5,hW4,hW3]; exact hv5
   have HB5 : Hid (Below w.heap.size w W5):=by
    rw [Hid,hW5,hW4,hW3]
    exact (((Below.set8 HB2.out (Nat.le_refl _) _ _ _ _ _ _ _ _).drew).setCell (p:=⟨k5,0,none⟩) HL.out.1 _).setCell (p:=⟨k6,0,none⟩) HL.out.2 _
   have HW3:=Jh hW3.symm
   have HW4:=Jh hW4.symm
   have HW5:=Jh hW5.symm
   clear hv3 hv4 hv5 hW3 hW4 hW5
   refine wp_region_held_drew (S:=fun _ => True) (by kernel_rfl) trivial (fun hHeld => ?_)
   clear hHeld
   refine Jr (rs:=[0,1,2]) (by kernel_rfl) (by simp) (Jd rfl (fun K0 hK => ?_) (Jd rfl (fun K0 hK => ?_) (Jd rfl (fun K0 hK => ?_) Je)))
   ·obtain ⟨⟨e0,e1,e2,e3,e4,e5,e6,e7⟩,e8,e9,⟨f0,f1,f2,f3,f4,f5,f6,f7⟩,f8,f9⟩:=HV2.out.cells
    go_simp
    refine hK.out _ _ trivial (fun _ => ?_)
    clear hK K0 e0 e1 e2 e3 e4 e5 e6 e7 e8 e9 f0 f1 f2 f3 f4 f5 f6 f7 f8 f9
    try simp only [Act.put,J1,J2,J3]
    refine Jr (rs:=[1,2,3]) (by kernel_rfl) (by simp) (Jd rfl (fun K0 hK => ?_) (Jd rfl (fun K0 hK => ?_) (Jd rfl (fun K0 hK => ?_) Je)))
    ·obtain ⟨⟨e0,e1,e2,e3,e4,e5,e6,e7⟩,e8,e9,⟨f0,f1,f2,f3,f4,f5,f6,f7⟩,f8,f9⟩:=HV2.out.cells
     go_simp
     refine hK.out _ _ trivial (fun _ => ?_)
     clear hK K0 e0 e1 e2 e3 e4 e5 e6 e7 e8 e9 f0 f1 f2 f3 f4 f5 f6 f7 f8 f9
     try simp only [Act.put,J1,J2,J3]
     refine Jr (rs:=[2,3]) (by kernel_rfl) (by simp) (Jd rfl (fun K0 hK => ?_) (Jd rfl (fun K0 hK => ?_) Je))
     ·obtain ⟨⟨e0,e1,e2,e3,e4,e5,e6,e7⟩,e8,e9,⟨f0,f1,f2,f3,f4,f5,f6,f7⟩,f8,f9⟩:=HV2.out.cells
      go_simp
      refine hK.out _ _ trivial (fun _ => ?_)
      clear hK K0 e0 e1 e2 e3 e4 e5 e6 e7 e8 e9 f0 f1 f2 f3 f4 f5 f6 f7 f8 f9
      try simp only [Act.put,J1,J2,J3]
      refine Jr (rs:=[3]) (by kernel_rfl) (by simp) (Jd rfl (fun K0 hK => ?_) Je)
      ·obtain ⟨⟨e0,e1,e2,e3,e4,e5,e6,e7⟩,e8,e9,⟨f0,f1,f2,f3,f4,f5,f6,f7⟩,f8,f9⟩:=HV2.out.cells
       go_simp
       have hw:=HW3.out
       unfold set8 at hw
       rw [hw]
       clear hw
       refine hK.out _ _ trivial (fun _ => ?_)
       clear hK K0 e0 e1 e2 e3 e4 e5 e6 e7 e8 e9 f0 f1 f2 f3 f4 f5 f6 f7 f8 f9
       try simp only [Act.put,J1,J2,J3]
       refine Jr (rs:=[4]) (by kernel_rfl) (by simp) (Jd rfl (fun K0 hK => ?_) Je)
       ·obtain ⟨⟨e0,e1,e2,e3,e4,e5,e6,e7⟩,e8,e9,⟨f0,f1,f2,f3,f4,f5,f6,f7⟩,f8,f9⟩:=HV3.out.cells
        go_simp
        rw [HW4.out]
        refine hK.out _ _ trivial (fun _ => ?_)
        clear hK K0 e0 e1 e2 e3 e4 e5 e6 e7 e8 e9 f0 f1 f2 f3 f4 f5 f6 f7 f8 f9
        try simp only [Act.put,J1,J2,J3]
        refine Jr (rs:=[5]) (by kernel_rfl) (by simp) (Jd rfl (fun K0 hK => ?_) Je)
        ·obtain ⟨⟨e0,e1,e2,e3,e4,e5,e6,e7⟩,e8,e9,⟨f0,f1,f2,f3,f4,f5,f6,f7⟩,f8,f9⟩:=HV4.out.cells
         go_simp
         rw [HW5.out]
         refine hK.out _ _ trivial (fun _ => ?_)
         clear hK K0 e0 e1 e2 e3 e4 e5 e6 e7 e8 e9 f0 f1 f2 f3 f4 f5 f6 f7 f8 f9
         try simp only [Act.put,J1,J2,J3]
         refine wpAnyH_done (by kernel_rfl) ?_ _
         go_wp2_with fail
         refine z0x rfl (z0e rfl rfl rfl HV5.out) ?_
         refine ⟨_,_,_,rfl,?_,HB5.out⟩
         rw [HPL.out,HCD.out]
         exact .cut HQ.out (by rw [← HCD.out]; exact HQ2.out)
     ·obtain ⟨⟨e0,e1,e2,e3,e4,e5,e6,e7⟩,e8,e9,⟨f0,f1,f2,f3,f4,f5,f6,f7⟩,f8,f9⟩:=HV2.out.cells
      go_simp
      have hw:=HW3.out
      unfold set8 at hw
      rw [hw]
      clear hw
      refine hK.out _ _ trivial (fun _ => ?_)
      clear hK K0 e0 e1 e2 e3 e4 e5 e6 e7 e8 e9 f0 f1 f2 f3 f4 f5 f6 f7 f8 f9
      try simp only [Act.put,J1,J2,J3]
      refine Jr (rs:=[2,4]) (by kernel_rfl) (by simp) (Jd rfl (fun K0 hK => ?_) (Jd rfl (fun K0 hK => ?_) Je))
      ·obtain ⟨⟨e0,e1,e2,e3,e4,e5,e6,e7⟩,e8,e9,⟨f0,f1,f2,f3,f4,f5,f6,f7⟩,f8,f9⟩:=HV3.out.cells
       go_simp
       refine hK.out _ _ trivial (fun _ => ?_)
       clear hK K0 e0 e1 e2 e3 e4 e5 e6 e7 e8 e9 f0 f1 f2 f3 f4 f5 f6 f7 f8 f9
       try simp only [Act.put,J1,J2,J3]
       refine Jr (rs:=[4]) (by kernel_rfl) (by simp) (Jd rfl (fun K0 hK => ?_) Je)
       ·obtain ⟨⟨e0,e1,e2,e3,e4,e5,e6,e7⟩,e8,e9,⟨f0,f1,f2,f3,f4,f5,f6,f7⟩,f8,f9⟩:=HV3.out.cells
        go_simp
        rw [HW4.out]
        refine hK.out _ _ trivial (fun _ => ?_)
        clear hK K0 e0 e1 e2 e3 e4 e5 e6 e7 e8 e9 f0 f1 f2 f3 f4 f5 f6 f7 f8 f9
        try simp only [Act.put,J1,J2,J3]
        refine Jr (rs:=[5]) (by kernel_rfl) (by simp) (Jd rfl (fun K0 hK => ?_) Je)
        ·obtain ⟨⟨e0,e1,e2,e3,e4,e5,e6,e7⟩,e8,e9,⟨f0,f1,f2,f3,f4,f5,f6,f7⟩,f8,f9⟩:=HV4.out.cells
         go_simp
         rw [HW5.out]
         refine hK.out _ _ trivial (fun _ => ?_)
         clear hK K0 e0 e1 e2 e3 e4 e5 e6 e7 e8 e9 f0 f1 f2 f3 f4 f5 f6 f7 f8 f9
         try simp only [Act.put,J1,J2,J3]
         refine wpAnyH_done (by kernel_rfl) ?_ _
         go_wp2_with fail
         refine z0x rfl (z0e rfl rfl rfl HV5.out) ?_
         refine ⟨_,_,_,rfl,?_,HB5.out⟩
         rw [HPL.out,HCD.out]
         exact .cut HQ.out (by rw [← HCD.out]; exact HQ2.out)
      ·obtain ⟨⟨e0,e1,e2,e3,e4,e5,e6,e7⟩,e8,e9,⟨f0,f1,f2,f3,f4,f5,f6,f7⟩,f8,f9⟩:=HV3.out.cells
       go_simp
       rw [HW4.out]
       refine hK.out _ _ trivial (fun _ => ?_)
       clear hK K0 e0 e1 e2 e3 e4 e5 e6 e7 e8 e9 f0 f1 f2 f3 f4 f5 f6 f7 f8 f9
       try simp only [Act.put,J1,J2,J3]
       refine Jr (rs:=[2]) (by kernel_rfl) (by simp) (Jd rfl (fun K0 hK => ?_) Je)
       ·obtain ⟨⟨e0,e1,e2,e3,e4,e5,e6,e7⟩,e8,e9,⟨f0,f1,f2,f3,f4,f5,f6,f7⟩,f8,f9⟩:=HV4.out.cells
        go_simp
        refine hK.out _ _ trivial (fun _ => ?_)
        clear hK K0 e0 e1 e2 e3 e4 e5 e6 e7 e8 e9 f0 f1 f2 f3 f4 f5 f6 f7 f8 f9
        try simp only [Act.put,J1,J2,J3]
        refine Jr (rs:=[5]) (by kernel_rfl) (by simp) (Jd rfl (fun K0 hK => ?_) Je)
        ·obtain ⟨⟨e0,e1,e2,e3,e4,e5,e6,e7⟩,e8,e9,⟨f0,f1,f2,f3,f4,f5,f6,f7⟩,f8,f9⟩:=HV4.out.cells
         go_simp
         rw [HW5.out]
         refine hK.out _ _ trivial (fun _ => ?_)
         clear hK K0 e0 e1 e2 e3 e4 e5 e6 e7 e8 e9 f0 f1 f2 f3 f4 f5 f6 f7 f8 f9
         try simp only [Act.put,J1,J2,J3]
         refine wpAnyH_done (by kernel_rfl) ?_ _
         go_wp2_with fail
         refine z0x rfl (z0e rfl rfl rfl HV5.out) ?_
         refine ⟨_,_,_,rfl,?_,HB5.out⟩
         rw [HPL.out,HCD.out]
         exact .cut HQ.out (by rw [← HCD.out]; exact HQ2.out)
    ·obtain ⟨⟨e0,e1,e2,e3,e4,e5,e6,e7⟩,e8,e9,⟨f0,f1,f2,f3,f4,f5,f6,f7⟩,f8,f9⟩:=HV2.out.cells
     go_simp
     refine hK.out _ _ trivial (fun _ => ?_)
     clear hK K0 e0 e1 e2 e3 e4 e5 e6 e7 e8 e9 f0 f1 f2 f3 f4 f5 f6 f7 f8 f9
     try simp only [Act.put,J1,J2,J3]
     refine Jr (rs:=[1,3]) (by kernel_rfl) (by simp) (Jd rfl (fun K0 hK => ?_) (Jd rfl (fun K0 hK => ?_) Je))
     ·obtain ⟨⟨e0,e1,e2,e3,e4,e5,e6,e7⟩,e8,e9,⟨f0,f1,f2,f3,f4,f5,f6,f7⟩,f8,f9⟩:=HV2.out.cells
      go_simp
      refine hK.out _ _ trivial (fun _ => ?_)
      clear hK K0 e0 e1 e2 e3 e4 e5 e6 e7 e8 e9 f0 f1 f2 f3 f4 f5 f6 f7 f8 f9
      try simp only [Act.put,J1,J2,J3]
      refine Jr (rs:=[3]) (by kernel_rfl) (by simp) (Jd rfl (fun K0 hK => ?_) Je)
      ·obtain ⟨⟨e0,e1,e2,e3,e4,e5,e6,e7⟩,e8,e9,⟨f0,f1,f2,f3,f4,f5,f6,f7⟩,f8,f9⟩:=HV2.out.cells
       go_simp
       have hw:=HW3.out
       unfold set8 at hw
       rw [hw]
       clear hw
       refine hK.out _ _ trivial (fun _ => ?_)
       clear hK K0 e0 e1 e2 e3 e4 e5 e6 e7 e8 e9 f0 f1 f2 f3 f4 f5 f6 f7 f8 f9
       try simp only [Act.put,J1,J2,J3]
       refine Jr (rs:=[4]) (by kernel_rfl) (by simp) (Jd rfl (fun K0 hK => ?_) Je)
       ·obtain ⟨⟨e0,e1,e2,e3,e4,e5,e6,e7⟩,e8,e9,⟨f0,f1,f2,f3,f4,f5,f6,f7⟩,f8,f9⟩:=HV3.out.cells
        go_simp
        rw [HW4.out]
        refine hK.out _ _ trivial (fun _ => ?_)
        clear hK K0 e0 e1 e2 e3 e4 e5 e6 e7 e8 e9 f0 f1 f2 f3 f4 f5 f6 f7 f8 f9
        try simp only [Act.put,J1,J2,J3]
        refine Jr (rs:=[5]) (by kernel_rfl) (by simp) (Jd rfl (fun K0 hK => ?_) Je)
        ·obtain ⟨⟨e0,e1,e2,e3,e4,e5,e6,e7⟩,e8,e9,⟨f0,f1,f2,f3,f4,f5,f6,f7⟩,f8,f9⟩:=HV4.out.cells
         go_simp
         rw [HW5.out]
         refine hK.out _ _ trivial (fun _ => ?_)
         clear hK K0 e0 e1 e2 e3 e4 e5 e6 e7 e8 e9 f0 f1 f2 f3 f4 f5 f6 f7 f8 f9
         try simp only [Act.put,J1,J2,J3]
         refine wpAnyH_done (by kernel_rfl) ?_ _
         go_wp2_with fail
         refine z0x rfl (z0e rfl rfl rfl HV5.out) ?_
         refine ⟨_,_,_,rfl,?_,HB5.out⟩
         rw [HPL.out,HCD.out]
         exact .cut HQ.out (by rw [← HCD.out]; exact HQ2.out)
     ·obtain ⟨⟨e0,e1,e2,e3,e4,e5,e6,e7⟩,e8,e9,⟨f0,f1,f2,f3,f4,f5,f6,f7⟩,f8,f9⟩:=HV2.out.cells
      go_simp
      have hw:=HW3.out
      unfold set8 at hw
      rw [hw]
      clear hw
      refine hK.out _ _ trivial (fun _ => ?_)
      clear hK K0 e0 e1 e2 e3 e4 e5 e6 e7 e8 e9 f0 f1 f2 f3 f4 f5 f6 f7 f8 f9
      try simp only [Act.put,J1,J2,J3]
      refine Jr (rs:=[1]) (by kernel_rfl) (by simp) (Jd rfl (fun K0 hK => ?_) Je)
      ·obtain ⟨⟨e0,e1,e2,e3,e4,e5,e6,e7⟩,e8,e9,⟨f0,f1,f2,f3,f4,f5,f6,f7⟩,f8,f9⟩:=HV3.out.cells
       go_simp
       refine hK.out _ _ trivial (fun _ => ?_)
       clear hK K0 e0 e1 e2 e3 e4 e5 e6 e7 e8 e9 f0 f1 f2 f3 f4 f5 f6 f7 f8 f9
       try simp only [Act.put,J1,J2,J3]
       refine Jr (rs:=[4]) (by kernel_rfl) (by simp) (Jd rfl (fun K0 hK => ?_) Je)
       ·obtain ⟨⟨e0,e1,e2,e3,e4,e5,e6,e7⟩,e8,e9,⟨f0,f1,f2,f3,f4,f5,f6,f7⟩,f8,f9⟩:=HV3.out.cells
        go_simp
        rw [HW4.out]
        refine hK.out _ _ trivial (fun _ => ?_)
        clear hK K0 e0 e1 e2 e3 e4 e5 e6 e7 e8 e9 f0 f1 f2 f3 f4 f5 f6 f7 f8 f9
        try simp only [Act.put,J1,J2,J3]
        refine Jr (rs:=[5]) (by kernel_rfl) (by simp) (Jd rfl (fun K0 hK => ?_) Je)
        ·obtain ⟨⟨e0,e1,e2,e3,e4,e5,e6,e7⟩,e8,e9,⟨f0,f1,f2,f3,f4,f5,f6,f7⟩,f8,f9⟩:=HV4.out.cells
         go_simp
         rw [HW5.out]
         refine hK.out _ _ trivial (fun _ => ?_)
         clear hK K0 e0 e1 e2 e3 e4 e5 e6 e7 e8 e9 f0 f1 f2 f3 f4 f5 f6 f7 f8 f9
         try simp only [Act.put,J1,J2,J3]
         refine wpAnyH_done (by kernel_rfl) ?_ _
         go_wp2_with fail
         refine z0x rfl (z0e rfl rfl rfl HV5.out) ?_
         refine ⟨_,_,_,rfl,?_,HB5.out⟩
         rw [HPL.out,HCD.out]
         exact .cut HQ.out (by rw [← HCD.out]; exact HQ2.out)
    ·obtain ⟨⟨e0,e1,e2,e3,e4,e5,e6,e7⟩,e8,e9,⟨f0,f1,f2,f3,f4,f5,f6,f7⟩,f8,f9⟩:=HV2.out.cells
     go_simp
     have hw:=HW3.out
     unfold set8 at hw
     rw [hw]
     clear hw
     refine hK.out _ _ trivial (fun _ => ?_)
     clear hK K0 e0 e1 e2 e3 e4 e5 e6 e7 e8 e9 f0 f1 f2 f3 f4 f5 f6 f7 f8 f9
     try simp only [Act.put,J1,J2,J3]
     refine Jr (rs:=[1,2]) (by kernel_rfl) (by simp) (Jd rfl (fun K0 hK => ?_) (Jd rfl (fun K0 hK => ?_) Je))
     ·obtain ⟨⟨e0,e1,e2,e3,e4,e5,e6,e7⟩,e8,e9,⟨f0,f1,f2,f3,f4,f5,f6,f7⟩,f8,f9⟩:=HV3.out.cells
      go_simp
      refine hK.out _ _ trivial (fun _ => ?_)
      clear hK K0 e0 e1 e2 e3 e4 e5 e6 e7 e8 e9 f0 f1 f2 f3 f4 f5 f6 f7 f8 f9
      try simp only [Act.put,J1,J2,J3]
      refine Jr (rs:=[2,4]) (by kernel_rfl) (by simp) (Jd rfl (fun K0 hK => ?_) (Jd rfl (fun K0 hK => ?_) Je))
      ·obtain ⟨⟨e0,e1,e2,e3,e4,e5,e6,e7⟩,e8,e9,⟨f0,f1,f2,f3,f4,f5,f6,f7⟩,f8,f9⟩:=HV3.out.cells
       go_simp
       refine hK.out _ _ trivial (fun _ => ?_)
       clear hK K0 e0 e1 e2 e3 e4 e5 e6 e7 e8 e9 f0 f1 f2 f3 f4 f5 f6 f7 f8 f9
       try simp only [Act.put,J1,J2,J3]
       refine Jr (rs:=[4]) (by kernel_rfl) (by simp) (Jd rfl (fun K0 hK => ?_) Je)
       ·obtain ⟨⟨e0,e1,e2,e3,e4,e5,e6,e7⟩,e8,e9,⟨f0,f1,f2,f3,f4,f5,f6,f7⟩,f8,f9⟩:=HV3.out.cells
        go_simp
        rw [HW4.out]
        refine hK.out _ _ trivial (fun _ => ?_)
        clear hK K0 e0 e1 e2 e3 e4 e5 e6 e7 e8 e9 f0 f1 f2 f3 f4 f5 f6 f7 f8 f9
        try simp only [Act.put,J1,J2,J3]
        refine Jr (rs:=[5]) (by kernel_rfl) (by simp) (Jd rfl (fun K0 hK => ?_) Je)
        ·obtain ⟨⟨e0,e1,e2,e3,e4,e5,e6,e7⟩,e8,e9,⟨f0,f1,f2,f3,f4,f5,f6,f7⟩,f8,f9⟩:=HV4.out.cells
         go_simp
         rw [HW5.out]
         refine hK.out _ _ trivial (fun _ => ?_)
         clear hK K0 e0 e1 e2 e3 e4 e5 e6 e7 e8 e9 f0 f1 f2 f3 f4 f5 f6 f7 f8 f9
         try simp only [Act.put,J1,J2,J3]
         refine wpAnyH_done (by kernel_rfl) ?_ _
         go_wp2_with fail
         refine z0x rfl (z0e rfl rfl rfl HV5.out) ?_
         refine ⟨_,_,_,rfl,?_,HB5.out⟩
         rw [HPL.out,HCD.out]
         exact .cut HQ.out (by rw [← HCD.out]; exact HQ2.out)
      ·obtain ⟨⟨e0,e1,e2,e3,e4,e5,e6,e7⟩,e8,e9,⟨f0,f1,f2,f3,f4,f5,f6,f7⟩,f8,f9⟩:=HV3.out.cells
       go_simp
       rw [HW4.out]
       refine hK.out _ _ trivial (fun _ => ?_)
       clear hK K0 e0 e1 e2 e3 e4 e5 e6 e7 e8 e9 f0 f1 f2 f3 f4 f5 f6 f7 f8 f9
       try simp only [Act.put,J1,J2,J3]
       refine Jr (rs:=[2]) (by kernel_rfl) (by simp) (Jd rfl (fun K0 hK => ?_) Je)
       ·obtain ⟨⟨e0,e1,e2,e3,e4,e5,e6,e7⟩,e8,e9,⟨f0,f1,f2,f3,f4,f5,f6,f7⟩,f8,f9⟩:=HV4.out.cells
        go_simp
        refine hK.out _ _ trivial (fun _ => ?_)
        clear hK K0 e0 e1 e2 e3 e4 e5 e6 e7 e8 e9 f0 f1 f2 f3 f4 f5 f6 f7 f8 f9
        try simp only [Act.put,J1,J2,J3]
        refine Jr (rs:=[5]) (by kernel_rfl) (by simp) (Jd rfl (fun K0 hK => ?_) Je)
        ·obtain ⟨⟨e0,e1,e2,e3,e4,e5,e6,e7⟩,e8,e9,⟨f0,f1,f2,f3,f4,f5,f6,f7⟩,f8,f9⟩:=HV4.out.cells
         go_simp
         rw [HW5.out]
         refine hK.out _ _ trivial (fun _ => ?_)
         clear hK K0 e0 e1 e2 e3 e4 e5 e6 e7 e8 e9 f0 f1 f2 f3 f4 f5 f6 f7 f8 f9
         try simp only [Act.put,J1,J2,J3]
         refine wpAnyH_done (by kernel_rfl) ?_ _
         go_wp2_with fail
         refine z0x rfl (z0e rfl rfl rfl HV5.out) ?_
         refine ⟨_,_,_,rfl,?_,HB5.out⟩
         rw [HPL.out,HCD.out]
         exact .cut HQ.out (by rw [← HCD.out]; exact HQ2.out)
     ·obtain ⟨⟨e0,e1,e2,e3,e4,e5,e6,e7⟩,e8,e9,⟨f0,f1,f2,f3,f4,f5,f6,f7⟩,f8,f9⟩:=HV3.out.cells
      go_simp
      refine hK.out _ _ trivial (fun _ => ?_)
      clear hK K0 e0 e1 e2 e3 e4 e5 e6 e7 e8 e9 f0 f1 f2 f3 f4 f5 f6 f7 f8 f9
      try simp only [Act.put,J1,J2,J3]
      refine Jr (rs:=[1]) (by kernel_rfl) (by simp) (Jd rfl (fun K0 hK => ?_) Je)
      ·obtain ⟨⟨e0,e1,e2,e3,e4,e5,e6,e7⟩,e8,e9,⟨f0,f1,f2,f3,f4,f5,f6,f7⟩,f8,f9⟩:=HV3.out.cells
       go_simp
       refine hK.out _ _ trivial (fun _ => ?_)
       clear hK K0 e0 e1 e2 e3 e4 e5 e6 e7 e8 e9 f0 f1 f2 f3 f4 f5 f6 f7 f8 f9
       try simp only [Act.put,J1,J2,J3]
       refine Jr (rs:=[4]) (by kernel_rfl) (by simp) (Jd rfl (fun K0 hK => ?_) Je)
       ·obtain ⟨⟨e0,e1,e2,e3,e4,e5,e6,e7⟩,e8,e9,⟨f0,f1,f2,f3,f4,f5,f6,f7⟩,f8,f9⟩:=HV3.out.cells
        go_simp
        rw [HW4.out]
        refine hK.out _ _ trivial (fun _ => ?_)
        clear hK K0 e0 e1 e2 e3 e4 e5 e6 e7 e8 e9 f0 f1 f2 f3 f4 f5 f6 f7 f8 f9
        try simp only [Act.put,J1,J2,J3]
        refine Jr (rs:=[5]) (by kernel_rfl) (by simp) (Jd rfl (fun K0 hK => ?_) Je)
        ·obtain ⟨⟨e0,e1,e2,e3,e4,e5,e6,e7⟩,e8,e9,⟨f0,f1,f2,f3,f4,f5,f6,f7⟩,f8,f9⟩:=HV4.out.cells
         go_simp
         rw [HW5.out]
         refine hK.out _ _ trivial (fun _ => ?_)
         clear hK K0 e0 e1 e2 e3 e4 e5 e6 e7 e8 e9 f0 f1 f2 f3 f4 f5 f6 f7 f8 f9
         try simp only [Act.put,J1,J2,J3]
         refine wpAnyH_done (by kernel_rfl) ?_ _
         go_wp2_with fail
         refine z0x rfl (z0e rfl rfl rfl HV5.out) ?_
         refine ⟨_,_,_,rfl,?_,HB5.out⟩
         rw [HPL.out,HCD.out]
         exact .cut HQ.out (by rw [← HCD.out]; exact HQ2.out)
   ·obtain ⟨⟨e0,e1,e2,e3,e4,e5,e6,e7⟩,e8,e9,⟨f0,f1,f2,f3,f4,f5,f6,f7⟩,f8,f9⟩:=HV2.out.cells
    go_simp
    refine hK.out _ _ trivial (fun _ => ?_)
    clear hK K0 e0 e1 e2 e3 e4 e5 e6 e7 e8 e9 f0 f1 f2 f3 f4 f5 f6 f7 f8 f9
    try simp only [Act.put,J1,J2,J3]
    refine Jr (rs:=[0,2]) (by kernel_rfl) (by simp) (Jd rfl (fun K0 hK => ?_) (Jd rfl (fun K0 hK => ?_) Je))
    ·obtain ⟨⟨e0,e1,e2,e3,e4,e5,e6,e7⟩,e8,e9,⟨f0,f1,f2,f3,f4,f5,f6,f7⟩,f8,f9⟩:=HV2.out.cells
     go_simp
     refine hK.out _ _ trivial (fun _ => ?_)
     clear hK K0 e0 e1 e2 e3 e4 e5 e6 e7 e8 e9 f0 f1 f2 f3 f4 f5 f6 f7 f8 f9
     try simp only [Act.put,J1,J2,J3]
     refine Jr (rs:=[2,3]) (by kernel_rfl) (by simp) (Jd rfl (fun K0 hK => ?_) (Jd rfl (fun K0 hK => ?_) Je))
     ·obtain ⟨⟨e0,e1,e2,e3,e4,e5,e6,e7⟩,e8,e9,⟨f0,f1,f2,f3,f4,f5,f6,f7⟩,f8,f9⟩:=HV2.out.cells
      go_simp
      refine hK.out _ _ trivial (fun _ => ?_)
      clear hK K0 e0 e1 e2 e3 e4 e5 e6 e7 e8 e9 f0 f1 f2 f3 f4 f5 f6 f7 f8 f9
      try simp only [Act.put,J1,J2,J3]
      refine Jr (rs:=[3]) (by kernel_rfl) (by simp) (Jd rfl (fun K0 hK => ?_) Je)
      ·obtain ⟨⟨e0,e1,e2,e3,e4,e5,e6,e7⟩,e8,e9,⟨f0,f1,f2,f3,f4,f5,f6,f7⟩,f8,f9⟩:=HV2.out.cells
       go_simp
       have hw:=HW3.out
       unfold set8 at hw
       rw [hw]
       clear hw
       refine hK.out _ _ trivial (fun _ => ?_)
       clear hK K0 e0 e1 e2 e3 e4 e5 e6 e7 e8 e9 f0 f1 f2 f3 f4 f5 f6 f7 f8 f9
       try simp only [Act.put,J1,J2,J3]
       refine Jr (rs:=[4]) (by kernel_rfl) (by simp) (Jd rfl (fun K0 hK => ?_) Je)
       ·obtain ⟨⟨e0,e1,e2,e3,e4,e5,e6,e7⟩,e8,e9,⟨f0,f1,f2,f3,f4,f5,f6,f7⟩,f8,f9⟩:=HV3.out.cells
        go_simp
        rw [HW4.out]
        refine hK.out _ _ trivial (fun _ => ?_)
        clear hK K0 e0 e1 e2 e3 e4 e5 e6 e7 e8 e9 f0 f1 f2 f3 f4 f5 f6 f7 f8 f9
        try simp only [Act.put,J1,J2,J3]
        refine Jr (rs:=[5]) (by kernel_rfl) (by simp) (Jd rfl (fun K0 hK => ?_) Je)
        ·obtain ⟨⟨e0,e1,e2,e3,e4,e5,e6,e7⟩,e8,e9,⟨f0,f1,f2,f3,f4,f5,f6,f7⟩,f8,f9⟩:=HV4.out.cells
         go_simp
         rw [HW5.out]
         refine hK.out _ _ trivial (fun _ => ?_)
         clear hK K0 e0 e1 e2 e3 e4 e5 e6 e7 e8 e9 f0 f1 f2 f3 f4 f5 f6 f7 f8 f9
         try simp only [Act.put,J1,J2,J3]
         refine wpAnyH_done (by kernel_rfl) ?_ _
         go_wp2_with fail
         refine z0x rfl (z0e rfl rfl rfl HV5.out) ?_
         refine ⟨_,_,_,rfl,?_,HB5.out⟩
         rw [HPL.out,HCD.out]
         exact .cut HQ.out (by rw [← HCD.out]; exact HQ2.out)
     ·obtain ⟨⟨e0,e1,e2,e3,e4,e5,e6,e7⟩,e8,e9,⟨f0,f1,f2,f3,f4,f5,f6,f7⟩,f8,f9⟩:=HV2.out.cells
      go_simp
      have hw:=HW3.out
      unfold set8 at hw
      rw [hw]
      clear hw
      refine hK.out _ _ trivial (fun _ => ?_)
      clear hK K0 e0 e1 e2 e3 e4 e5 e6 e7 e8 e9 f0 f1 f2 f3 f4 f5 f6 f7 f8 f9
      try simp only [Act.put,J1,J2,J3]
      refine Jr (rs:=[2,4]) (by kernel_rfl) (by simp) (Jd rfl (fun K0 hK => ?_) (Jd rfl (fun K0 hK => ?_) Je))
      ·obtain ⟨⟨e0,e1,e2,e3,e4,e5,e6,e7⟩,e8,e9,⟨f0,f1,f2,f3,f4,f5,f6,f7⟩,f8,f9⟩:=HV3.out.cells
       go_simp
       refine hK.out _ _ trivial (fun _ => ?_)
       clear hK K0 e0 e1 e2 e3 e4 e5 e6 e7 e8 e9 f0 f1 f2 f3 f4 f5 f6 f7 f8 f9
       try simp only [Act.put,J1,J2,J3]
       refine Jr (rs:=[4]) (by kernel_rfl) (by simp) (Jd rfl (fun K0 hK => ?_) Je)
       ·obtain ⟨⟨e0,e1,e2,e3,e4,e5,e6,e7⟩,e8,e9,⟨f0,f1,f2,f3,f4,f5,f6,f7⟩,f8,f9⟩:=HV3.out.cells
        go_simp
        rw [HW4.out]
        refine hK.out _ _ trivial (fun _ => ?_)
        clear hK K0 e0 e1 e2 e3 e4 e5 e6 e7 e8 e9 f0 f1 f2 f3 f4 f5 f6 f7 f8 f9
        try simp only [Act.put,J1,J2,J3]
        refine Jr (rs:=[5]) (by kernel_rfl) (by simp) (Jd rfl (fun K0 hK => ?_) Je)
        ·obtain ⟨⟨e0,e1,e2,e3,e4,e5,e6,e7⟩,e8,e9,⟨f0,f1,f2,f3,f4,f5,f6,f7⟩,f8,f9⟩:=HV4.out.cells
         go_simp
         rw [HW5.out]
         refine hK.out _ _ trivial (fun _ => ?_)
         clear hK K0 e0 e1 e2 e3 e4 e5 e6 e7 e8 e9 f0 f1 f2 f3 f4 f5 f6 f7 f8 f9
         try simp only [Act.put,J1,J2,J3]
         refine wpAnyH_done (by kernel_rfl) ?_ _
         go_wp2_with fail
         refine z0x rfl (z0e rfl rfl rfl HV5.out) ?_
         refine ⟨_,_,_,rfl,?_,HB5.out⟩
         rw [HPL.out,HCD.out]
         exact .cut HQ.out (by rw [← HCD.out]; exact HQ2.out)
      ·obtain ⟨⟨e0,e1,e2,e3,e4,e5,e6,e7⟩,e8,e9,⟨f0,f1,f2,f3,f4,f5,f6,f7⟩,f8,f9⟩:=HV3.out.cells
       go_simp
       rw [HW4.out]
       refine hK.out _ _ trivial (fun _ => ?_)
       clear hK K0 e0 e1 e2 e3 e4 e5 e6 e7 e8 e9 f0 f1 f2 f3 f4 f5 f6 f7 f8 f9
       try simp only [Act.put,J1,J2,J3]
       refine Jr (rs:=[2]) (by kernel_rfl) (by simp) (Jd rfl (fun K0 hK => ?_) Je)
       ·obtain ⟨⟨e0,e1,e2,e3,e4,e5,e6,e7⟩,e8,e9,⟨f0,f1,f2,f3,f4,f5,f6,f7⟩,f8,f9⟩:=HV4.out.cells
        go_simp
        refine hK.out _ _ trivial (fun _ => ?_)
        clear hK K0 e0 e1 e2 e3 e4 e5 e6 e7 e8 e9 f0 f1 f2 f3 f4 f5 f6 f7 f8 f9
        try simp only [Act.put,J1,J2,J3]
        refine Jr (rs:=[5]) (by kernel_rfl) (by simp) (Jd rfl (fun K0 hK => ?_) Je)
        ·obtain ⟨⟨e0,e1,e2,e3,e4,e5,e6,e7⟩,e8,e9,⟨f0,f1,f2,f3,f4,f5,f6,f7⟩,f8,f9⟩:=HV4.out.cells
         go_simp
         rw [HW5.out]
         refine hK.out _ _ trivial (fun _ => ?_)
         clear hK K0 e0 e1 e2 e3 e4 e5 e6 e7 e8 e9 f0 f1 f2 f3 f4 f5 f6 f7 f8 f9
         try simp only [Act.put,J1,J2,J3]
         refine wpAnyH_done (by kernel_rfl) ?_ _
         go_wp2_with fail
         refine z0x rfl (z0e rfl rfl rfl HV5.out) ?_
         refine ⟨_,_,_,rfl,?_,HB5.out⟩
         rw [HPL.out,HCD.out]
         exact .cut HQ.out (by rw [← HCD.out]; exact HQ2.out)
    ·obtain ⟨⟨e0,e1,e2,e3,e4,e5,e6,e7⟩,e8,e9,⟨f0,f1,f2,f3,f4,f5,f6,f7⟩,f8,f9⟩:=HV2.out.cells
     go_simp
     refine hK.out _ _ trivial (fun _ => ?_)
     clear hK K0 e0 e1 e2 e3 e4 e5 e6 e7 e8 e9 f0 f1 f2 f3 f4 f5 f6 f7 f8 f9
     try simp only [Act.put,J1,J2,J3]
     refine Jr (rs:=[0]) (by kernel_rfl) (by simp) (Jd rfl (fun K0 hK => ?_) Je)
     ·obtain ⟨⟨e0,e1,e2,e3,e4,e5,e6,e7⟩,e8,e9,⟨f0,f1,f2,f3,f4,f5,f6,f7⟩,f8,f9⟩:=HV2.out.cells
      go_simp
      refine hK.out _ _ trivial (fun _ => ?_)
      clear hK K0 e0 e1 e2 e3 e4 e5 e6 e7 e8 e9 f0 f1 f2 f3 f4 f5 f6 f7 f8 f9
      try simp only [Act.put,J1,J2,J3]
      refine Jr (rs:=[3]) (by kernel_rfl) (by simp) (Jd rfl (fun K0 hK => ?_) Je)
      ·obtain ⟨⟨e0,e1,e2,e3,e4,e5,e6,e7⟩,e8,e9,⟨f0,f1,f2,f3,f4,f5,f6,f7⟩,f8,f9⟩:=HV2.out.cells
       go_simp
       have hw:=HW3.out
       unfold set8 at hw
       rw [hw]
       clear hw
       refine hK.out _ _ trivial (fun _ => ?_)
       clear hK K0 e0 e1 e2 e3 e4 e5 e6 e7 e8 e9 f0 f1 f2 f3 f4 f5 f6 f7 f8 f9
       try simp only [Act.put,J1,J2,J3]
       refine Jr (rs:=[4]) (by kernel_rfl) (by simp) (Jd rfl (fun K0 hK => ?_) Je)
       ·obtain ⟨⟨e0,e1,e2,e3,e4,e5,e6,e7⟩,e8,e9,⟨f0,f1,f2,f3,f4,f5,f6,f7⟩,f8,f9⟩:=HV3.out.cells
        go_simp
        rw [HW4.out]
        refine hK.out _ _ trivial (fun _ => ?_)
        clear hK K0 e0 e1 e2 e3 e4 e5 e6 e7 e8 e9 f0 f1 f2 f3 f4 f5 f6 f7 f8 f9
        try simp only [Act.put,J1,J2,J3]
        refine Jr (rs:=[5]) (by kernel_rfl) (by simp) (Jd rfl (fun K0 hK => ?_) Je)
        ·obtain ⟨⟨e0,e1,e2,e3,e4,e5,e6,e7⟩,e8,e9,⟨f0,f1,f2,f3,f4,f5,f6,f7⟩,f8,f9⟩:=HV4.out.cells
         go_simp
         rw [HW5.out]
         refine hK.out _ _ trivial (fun _ => ?_)
         clear hK K0 e0 e1 e2 e3 e4 e5 e6 e7 e8 e9 f0 f1 f2 f3 f4 f5 f6 f7 f8 f9
         try simp only [Act.put,J1,J2,J3]
         refine wpAnyH_done (by kernel_rfl) ?_ _
         go_wp2_with fail
         refine z0x rfl (z0e rfl rfl rfl HV5.out) ?_
         refine ⟨_,_,_,rfl,?_,HB5.out⟩
         rw [HPL.out,HCD.out]
         exact .cut HQ.out (by rw [← HCD.out]; exact HQ2.out)
   ·obtain ⟨⟨e0,e1,e2,e3,e4,e5,e6,e7⟩,e8,e9,⟨f0,f1,f2,f3,f4,f5,f6,f7⟩,f8,f9⟩:=HV2.out.cells
    go_simp
    refine hK.out _ _ trivial (fun _ => ?_)
    clear hK K0 e0 e1 e2 e3 e4 e5 e6 e7 e8 e9 f0 f1 f2 f3 f4 f5 f6 f7 f8 f9
    try simp only [Act.put,J1,J2,J3]
    refine Jr (rs:=[0,1]) (by kernel_rfl) (by simp) (Jd rfl (fun K0 hK => ?_) (Jd rfl (fun K0 hK => ?_) Je))
    ·obtain ⟨⟨e0,e1,e2,e3,e4,e5,e6,e7⟩,e8,e9,⟨f0,f1,f2,f3,f4,f5,f6,f7⟩,f8,f9⟩:=HV2.out.cells
     go_simp
     refine hK.out _ _ trivial (fun _ => ?_)
     clear hK K0 e0 e1 e2 e3 e4 e5 e6 e7 e8 e9 f0 f1 f2 f3 f4 f5 f6 f7 f8 f9
     try simp only [Act.put,J1,J2,J3]
     refine Jr (rs:=[1,3]) (by kernel_rfl) (by simp) (Jd rfl (fun K0 hK => ?_) (Jd rfl (fun K0 hK => ?_) Je))
     ·obtain ⟨⟨e0,e1,e2,e3,e4,e5,e6,e7⟩,e8,e9,⟨f0,f1,f2,f3,f4,f5,f6,f7⟩,f8,f9⟩:=HV2.out.cells
      go_simp
      refine hK.out _ _ trivial (fun _ => ?_)
      clear hK K0 e0 e1 e2 e3 e4 e5 e6 e7 e8 e9 f0 f1 f2 f3 f4 f5 f6 f7 f8 f9
      try simp only [Act.put,J1,J2,J3]
      refine Jr (rs:=[3]) (by kernel_rfl) (by simp) (Jd rfl (fun K0 hK => ?_) Je)
      ·obtain ⟨⟨e0,e1,e2,e3,e4,e5,e6,e7⟩,e8,e9,⟨f0,f1,f2,f3,f4,f5,f6,f7⟩,f8,f9⟩:=HV2.out.cells
       go_simp
       have hw:=HW3.out
       unfold set8 at hw
       rw [hw]
       clear hw
       refine hK.out _ _ trivial (fun _ => ?_)
       clear hK K0 e0 e1 e2 e3 e4 e5 e6 e7 e8 e9 f0 f1 f2 f3 f4 f5 f6 f7 f8 f9
       try simp only [Act.put,J1,J2,J3]
       refine Jr (rs:=[4]) (by kernel_rfl) (by simp) (Jd rfl (fun K0 hK => ?_) Je)
       ·obtain ⟨⟨e0,e1,e2,e3,e4,e5,e6,e7⟩,e8,e9,⟨f0,f1,f2,f3,f4,f5,f6,f7⟩,f8,f9⟩:=HV3.out.cells
        go_simp
        rw [HW4.out]
        refine hK.out _ _ trivial (fun _ => ?_)
        clear hK K0 e0 e1 e2 e3 e4 e5 e6 e7 e8 e9 f0 f1 f2 f3 f4 f5 f6 f7 f8 f9
        try simp only [Act.put,J1,J2,J3]
        refine Jr (rs:=[5]) (by kernel_rfl) (by simp) (Jd rfl (fun K0 hK => ?_) Je)
        ·obtain ⟨⟨e0,e1,e2,e3,e4,e5,e6,e7⟩,e8,e9,⟨f0,f1,f2,f3,f4,f5,f6,f7⟩,f8,f9⟩:=HV4.out.cells
         go_simp
         rw [HW5.out]
         refine hK.out _ _ trivial (fun _ => ?_)
         clear hK K0 e0 e1 e2 e3 e4 e5 e6 e7 e8 e9 f0 f1 f2 f3 f4 f5 f6 f7 f8 f9
         try simp only [Act.put,J1,J2,J3]
         refine wpAnyH_done (by kernel_rfl) ?_ _
         go_wp2_with fail
         refine z0x rfl (z0e rfl rfl rfl HV5.out) ?_
         refine ⟨_,_,_,rfl,?_,HB5.out⟩
         rw [HPL.out,HCD.out]
         exact .cut HQ.out (by rw [← HCD.out]; exact HQ2.out)
     ·obtain ⟨⟨e0,e1,e2,e3,e4,e5,e6,e7⟩,e8,e9,⟨f0,f1,f2,f3,f4,f5,f6,f7⟩,f8,f9⟩:=HV2.out.cells
      go_simp
      have hw:=HW3.out
      unfold set8 at hw
      rw [hw]
      clear hw
      refine hK.out _ _ trivial (fun _ => ?_)
      clear hK K0 e0 e1 e2 e3 e4 e5 e6 e7 e8 e9 f0 f1 f2 f3 f4 f5 f6 f7 f8 f9
      try simp only [Act.put,J1,J2,J3]
      refine Jr (rs:=[1]) (by kernel_rfl) (by simp) (Jd rfl (fun K0 hK => ?_) Je)
      ·obtain ⟨⟨e0,e1,e2,e3,e4,e5,e6,e7⟩,e8,e9,⟨f0,f1,f2,f3,f4,f5,f6,f7⟩,f8,f9⟩:=HV3.out.cells
       go_simp
       refine hK.out _ _ trivial (fun _ => ?_)
       clear hK K0 e0 e1 e2 e3 e4 e5 e6 e7 e8 e9 f0 f1 f2 f3 f4 f5 f6 f7 f8 f9
       try simp only [Act.put,J1,J2,J3]
       refine Jr (rs:=[4]) (by kernel_rfl) (by simp) (Jd rfl (fun K0 hK => ?_) Je)
       ·obtain ⟨⟨e0,e1,e2,e3,e4,e5,e6,e7⟩,e8,e9,⟨f0,f1,f2,f3,f4,f5,f6,f7⟩,f8,f9⟩:=HV3.out.cells
        go_simp
        rw [HW4.out]
        refine hK.out _ _ trivial (fun _ => ?_)
        clear hK K0 e0 e1 e2 e3 e4 e5 e6 e7 e8 e9 f0 f1 f2 f3 f4 f5 f6 f7 f8 f9
        try simp only [Act.put,J1,J2,J3]
        refine Jr (rs:=[5]) (by kernel_rfl) (by simp) (Jd rfl (fun K0 hK => ?_) Je)
        ·obtain ⟨⟨e0,e1,e2,e3,e4,e5,e6,e7⟩,e8,e9,⟨f0,f1,f2,f3,f4,f5,f6,f7⟩,f8,f9⟩:=HV4.out.cells
         go_simp
         rw [HW5.out]
         refine hK.out _ _ trivial (fun _ => ?_)
         clear hK K0 e0 e1 e2 e3 e4 e5 e6 e7 e8 e9 f0 f1 f2 f3 f4 f5 f6 f7 f8 f9
         try simp only [Act.put,J1,J2,J3]
         refine wpAnyH_done (by kernel_rfl) ?_ _
         go_wp2_with fail
         refine z0x rfl (z0e rfl rfl rfl HV5.out) ?_
         refine ⟨_,_,_,rfl,?_,HB5.out⟩
         rw [HPL.out,HCD.out]
         exact .cut HQ.out (by rw [← HCD.out]; exact HQ2.out)
    ·obtain ⟨⟨e0,e1,e2,e3,e4,e5,e6,e7⟩,e8,e9,⟨f0,f1,f2,f3,f4,f5,f6,f7⟩,f8,f9⟩:=HV2.out.cells
     go_simp
     refine hK.out _ _ trivial (fun _ => ?_)
     clear hK K0 e0 e1 e2 e3 e4 e5 e6 e7 e8 e9 f0 f1 f2 f3 f4 f5 f6 f7 f8 f9
     try simp only [Act.put,J1,J2,J3]
     refine Jr (rs:=[0]) (by kernel_rfl) (by simp) (Jd rfl (fun K0 hK => ?_) Je)
     ·obtain ⟨⟨e0,e1,e2,e3,e4,e5,e6,e7⟩,e8,e9,⟨f0,f1,f2,f3,f4,f5,f6,f7⟩,f8,f9⟩:=HV2.out.cells
      go_simp
      refine hK.out _ _ trivial (fun _ => ?_)
      clear hK K0 e0 e1 e2 e3 e4 e5 e6 e7 e8 e9 f0 f1 f2 f3 f4 f5 f6 f7 f8 f9
      try simp only [Act.put,J1,J2,J3]
      refine Jr (rs:=[3]) (by kernel_rfl) (by simp) (Jd rfl (fun K0 hK => ?_) Je)
      ·obtain ⟨⟨e0,e1,e2,e3,e4,e5,e6,e7⟩,e8,e9,⟨f0,f1,f2,f3,f4,f5,f6,f7⟩,f8,f9⟩:=HV2.out.cells
       go_simp
       have hw:=HW3.out
       unfold set8 at hw
       rw [hw]
       clear hw
       refine hK.out _ _ trivial (fun _ => ?_)
       clear hK K0 e0 e1 e2 e3 e4 e5 e6 e7 e8 e9 f0 f1 f2 f3 f4 f5 f6 f7 f8 f9
       try simp only [Act.put,J1,J2,J3]
       refine Jr (rs:=[4]) (by kernel_rfl) (by simp) (Jd rfl (fun K0 hK => ?_) Je)
       ·obtain ⟨⟨e0,e1,e2,e3,e4,e5,e6,e7⟩,e8,e9,⟨f0,f1,f2,f3,f4,f5,f6,f7⟩,f8,f9⟩:=HV3.out.cells
        go_simp
        rw [HW4.out]
        refine hK.out _ _ trivial (fun _ => ?_)
        clear hK K0 e0 e1 e2 e3 e4 e5 e6 e7 e8 e9 f0 f1 f2 f3 f4 f5 f6 f7 f8 f9
        try simp only [Act.put,J1,J2,J3]
        refine Jr (rs:=[5]) (by kernel_rfl) (by simp) (Jd rfl (fun K0 hK => ?_) Je)
        ·obtain ⟨⟨e0,e1,e2,e3,e4,e5,e6,e7⟩,e8,e9,⟨f0,f1,f2,f3,f4,f5,f6,f7⟩,f8,f9⟩:=HV4.out.cells
         go_simp
         rw [HW5.out]
         refine hK.out _ _ trivial (fun _ => ?_)
         clear hK K0 e0 e1 e2 e3 e4 e5 e6 e7 e8 e9 f0 f1 f2 f3 f4 f5 f6 f7 f8 f9
         try simp only [Act.put,J1,J2,J3]
         refine wpAnyH_done (by kernel_rfl) ?_ _
         go_wp2_with fail
         refine z0x rfl (z0e rfl rfl rfl HV5.out) ?_
         refine ⟨_,_,_,rfl,?_,HB5.out⟩
         rw [HPL.out,HCD.out]
         exact .cut HQ.out (by rw [← HCD.out]; exact HQ2.out)
 ·have q : (z0z names != 0) = true:=by simpa using hq
  have HQ:=Jh hq
  clear hq
  go_enter_defers Tryz.func65,Tryz.ntmps65
  go_wp2_with fail
  rw [HW0.out,HK6.out,HK5.out]
  refine HN.out.mono ?_
  rintro e w1 ⟨rfl,hb1⟩
  have hv1:=HV0.out.below hb1
  have HV1:=Jh (hv1.code (z0z names))
  obtain ⟨_,_,c6,_,_,f6⟩:=hv1.cells
  have HB1:=Jh ((HB0.out.trans (hb1.mono HB0.out.size)).setCell (p:=⟨k6,0,none⟩) HL.out.2 (.int .i64 (z0z names)))
  clear hb1 hv1
  go_wp2_with fail
  refine z0x rfl (z0e rfl rfl rfl HV1.out) ?_
  exact ⟨_,_,_,rfl,.names HQ.out,HB1.out⟩
end Go.Proofs.YtockinpjfhhkoaaGreatDoor
