/- Plain laws of WitnessStays: an atom asks what holds at each moment, so a proof shows the same of a signal that says the same, and of one that goes on. No program. -/
import Derived.Test.YtockinpjfhhkoaaGreatDoorZ08
import Derived.Test.YtockinpjfhhkoaaGreatDoorZ00
import Derived.Test.YtockinpjfhhkoaaGreatDoorZ46
import Derived.Test.YtockinpjfhhkoaaGreatDoorZ27
import Derived.Test.YtockinpjfhhkoaaGreatDoorZ39
import Derived.Deep.RegionHeld
import Derived.Deep.Cut
import Derived.LoopTactic
import Derived.Test.YtockinpjfhhkoaaGreatDoorZ49
import Derived.Test.YtockinpjfhhkoaaGreatDoorZ02
import Derived.Test.YtockinpjfhhkoaaGreatDoorZ21
import Derived.Test.YtockinpjfhhkoaaGreatDoorZ30
set_option maxRecDepth 100000
set_option maxHeartbeats 16000000
open Go.Lib renaming cell_of_heap → Jc, hid → Jh
open Go.RowKit.Below renaming heap_alloc → Jb
namespace Go.Proofs.YtockinpjfhhkoaaGreatDoor
open Go.RowKit
open Go.RowKit
open Go.RowKit
section
variable (hold : F → Int → Bool) (l : List (Int × Int)) (n : Nat) (x y : X) (t s u : Int × Int) (v w : PT n)
end
open Go.RowKit
open Go.RowKit
def z5i : (n : Nat) → PT n → Prop
 | 0,_ => False
 | n + 1,t => ∀ y ∈ t.2.2.2,z5i n y
theorem solid_of {w : World} {B : Nat} : ∀ {n : Nat} {t : PT n} {v : Value},PRep w B n t v → z5i n t
 | 0,_,_,h => h.elim
 | n + 1,t,v,h => by
  obtain ⟨va,a,cap,hv,hm,_,h⟩:=h
  intro y hy
  rcases h with h | ⟨b,off,ha,hlt,hc⟩
  ·rw [h] at hy; cases hy
  ·obtain ⟨i,hi,rfl⟩:=List.mem_iff_getElem.1 hy
   obtain ⟨v0,v1,v2,v3,c0,c1,c2,c3,hp⟩:=hc i hi
   exact solid_of hp
theorem many_row {n : Nat} (ih : ∀ (t : PT n) (l : Int),z5i n t → 0 ≤ l → l ≤ 6000 → 0 ≤ z0j n t l → z0j n t l ≤ l ∧ 1 ≤ z2f n t ∧ z2f n t ≤ l - z0j n t l) :
 ∀ (r : List (PT n)) (m acc : Int),(∀ y ∈ r,z5i n y) → 0 ≤ m → m ≤ 6000 → 1 ≤ acc → acc + m ≤ 20000 → 0 ≤ z1g (z0j n) r m →
  z1g (z0j n) r m ≤ m ∧ 1 ≤ r.foldl (fun acc x => wrap64 (acc + z2f n x)) acc ∧ r.foldl (fun acc x => wrap64 (acc + z2f n x)) acc ≤ acc + (m - z1g (z0j n) r m)
 | [],m,acc,_,_,_,h1,_,_ => ⟨Int.le_refl _,h1,by show acc ≤ acc + (m - m); omega⟩
 | x :: r,m,acc,hs,h0,h6,h1,h2,h => by
  rw [z1g,if_pos h0] at h ⊢
  have hx : 0 ≤ z0j n x m:=by
   rcases Int.lt_or_le (z0j n x m) 0 with hn | hn
   ·rw [z2s _ _ hn] at h; omega
   ·exact hn
  obtain ⟨a1,a2,a3⟩:=ih x m (hs x (by simp)) h0 h6 hx
  have hw : wrap64 (acc + z2f n x) = acc + z2f n x:=IntWalk.wrap64_in _ (by omega)
  obtain ⟨b0,b1,b2⟩:=many_row ih r (z0j n x m) (acc + z2f n x) (fun y hy => hs y (by simp [hy])) hx (by omega) (by omega) (by omega) h
  rw [List.foldl_cons,hw]
  exact ⟨by omega,b1,by omega⟩
theorem many_room : ∀ (n : Nat) (t : PT n) (l : Int),z5i n t → 0 ≤ l → l ≤ 6000 → 0 ≤ z0j n t l → z0j n t l ≤ l ∧ 1 ≤ z2f n t ∧ z2f n t ≤ l - z0j n t l
 | 0,_,_,h,_,_,_ => h.elim
 | n + 1,t,l,hs,h0,h1,h => by
  have hw1 : wrap64 (l - 1) = l - 1:=IntWalk.wrap64_in _ (by omega)
  have hm : 0 ≤ z1d t.2.2.1.length 10000 ∧ z1d t.2.2.1.length 10000 ≤ 10000:=by unfold z1d; split <;> omega
  have hw2 : wrap64 (wrap64 (l - 1) - z1d t.2.2.1.length 10000) = l - 1 - z1d t.2.2.1.length 10000:=by rw [hw1]; exact IntWalk.wrap64_in _ (by omega)
  have e : z0j (n + 1) t l = z1g (z0j n) t.2.2.2 (l - 1 - z1d t.2.2.1.length 10000):=by rw [← hw2]; rfl
  rw [e] at h ⊢
  have hpos : 0 ≤ l - 1 - z1d t.2.2.1.length 10000:=by
   rcases Int.lt_or_le (l - 1 - z1d t.2.2.1.length 10000) 0 with hn | hn
   ·rw [z2s _ _ hn] at h; omega
   ·exact hn
  obtain ⟨b0,b1,b2⟩:=many_row (many_room n) t.2.2.2 _ 1 hs hpos (by omega) (by decide) (by omega) h
  refine ⟨by omega,b1,?_⟩
  show t.2.2.2.foldl (fun acc x => wrap64 (acc + z2f n x)) 1 ≤ _
  omega
open Go.RowKit
theorem fewRow {n : Nat} (ih : ∀ (t : PT n) (l : Int),z5i n t → sideT n t → 0 ≤ l → l ≤ 6000 → 0 ≤ z0j n t l → rngS n t) :
 ∀ (r : List (PT n)) (m : Int),(∀ y ∈ r,z5i n y) → (∀ y ∈ r,sideT n y) → 0 ≤ m → m ≤ 6000 → 0 ≤ z1g (z0j n) r m → (r.length : Int) ≤ m - z1g (z0j n) r m ∧ ∀ y ∈ r,rngS n y
 | [],m,_,_,_,_,_ => ⟨by show (0 : Int) ≤ m - m; omega,fun y hy => by cases hy⟩
 | x :: r,m,hs,hd,h0,h6,h => by
  rw [z1g,if_pos h0] at h ⊢
  have hx : 0 ≤ z0j n x m:=by
   rcases Int.lt_or_le (z0j n x m) 0 with hn | hn
   ·rw [z2s _ _ hn] at h; omega
   ·exact hn
  obtain ⟨a1,a2,a3⟩:=many_room n x m (hs x (by simp)) h0 h6 hx
  obtain ⟨b0,b1⟩:=fewRow ih r (z0j n x m) (fun y hy => hs y (by simp [hy])) (fun y hy => hd y (by simp [hy])) hx (by omega) h
  refine ⟨by rw [List.length_cons]; omega,fun y hy => ?_⟩
  cases hy with
  | head => exact ih x m (hs x (by simp)) (hd x (by simp)) h0 h6 hx
  | tail _ hy => exact b1 y hy
theorem few_room : ∀ (n : Nat) (t : PT n) (l : Int),z5i n t → sideT n t → 0 ≤ l → l ≤ 6000 → 0 ≤ z0j n t l → rngS n t
 | 0,_,_,_,_,_,_,_ => trivial
 | n + 1,t,l,hs,hd,h0,h1,h => by
  have hw1 : wrap64 (l - 1) = l - 1:=IntWalk.wrap64_in _ (by omega)
  have hm : 0 ≤ z1d t.2.2.1.length 10000 ∧ z1d t.2.2.1.length 10000 ≤ 10000:=by unfold z1d; split <;> omega
  have hw2 : wrap64 (wrap64 (l - 1) - z1d t.2.2.1.length 10000) = l - 1 - z1d t.2.2.1.length 10000:=by rw [hw1]; exact IntWalk.wrap64_in _ (by omega)
  have e : z0j (n + 1) t l = z1g (z0j n) t.2.2.2 (l - 1 - z1d t.2.2.1.length 10000):=by rw [← hw2]; rfl
  rw [e] at h
  have hpos : 0 ≤ l - 1 - z1d t.2.2.1.length 10000:=by
   rcases Int.lt_or_le (l - 1 - z1d t.2.2.1.length 10000) 0 with hn | hn
   ·rw [z2s _ _ hn] at h; omega
   ·exact hn
  obtain ⟨b0,b1⟩:=fewRow (few_room n) t.2.2.2 _ hs hd.2 hpos (by omega) h
  exact ⟨⟨hd.1,by omega⟩,b1⟩
theorem rngS_small {w : World} {B n : Nat} {t : PT n} {v : Value} (h : PRep w B n t v) (hd : sideT n t) (k : ¬ z0j n t 6000 < 0) : rngS n t :=
 few_room n t 6000 (solid_of h) hd (by decide) (by decide) (by omega)
open Go.ChangeShapes Go.WideShapes Go.ChangeAt Go.RowKit Go.Joins
section
variable {H : Type} {enc : TypeId × Value → H} {w : World} {base : Nat} {spare : Nat → Bool} {held : Bool}
theorem slice_cap {P : Program} {t e : TypeId} {fuel : Nat} {cs : List Value} {x : DataW H × List MemPlace} (ht : P.underlying t = some (.slice e)) (h : DataW.trod enc P w base spare held fuel t cs = some x) {a : Option Addr} {len cap : Nat} (hc : cs = [.slice a len cap]) : len ≤ cap:=by
 rcases DataW.trod_slice ht h with ⟨rfl,_⟩ | ⟨a,len,cap,elems,rest,n,rfl,rfl,hx,_,hl,hm,hel,hat,_⟩
 ·have:=List.cons.inj hc
  injection this.1 with _ h2 h3
  omega
 ·have:=List.cons.inj hc
  injection this.1 with _ h2 h3
  omega
theorem open_cap (n : Nat) : ∀ (fuel : Nat) (cs : List Value) (x : DataW H × List MemPlace),fuel ≤ 2 * n → DataW.trod enc Tryz.prog w base spare held fuel 47 cs = some x → CapX w w.heap.size n (.agg cs.toArray):=by
 induction n with
 | zero =>
  intro fuel cs x hf h
  obtain rfl : fuel = 0:=by omega
  simp [DataW.trod] at h
 | succ n ih =>
  intro fuel cs x hfu h
  obtain ⟨xs,q,rfl,hx0,hl,hx,hf⟩:=DataW.trod_struct Tryz.underlying47 h
  rw [Tryz.cells47] at hl
  match cs,hl with
  | [c0,c1,c2,c3,c4,c5,c6,c7],_ =>
   match xs,hx with
   | [y0,y1,y2,y3],_ =>
    have h2:=hf 2 _ rfl
    simp [Tryz.cells43] at h2
    obtain ⟨a2,len2,cap2,e2,hm2,hc2⟩:=z2r Tryz.underlying43 Tryz.cells47 (by omega) h2
    have hcap:=slice_cap Tryz.underlying43 h2 e2
    simp at e2
    subst e2
    refine ⟨c0,c1,a2,len2,cap2,c3,c4,c5,c6,c7,rfl,hcap,?_⟩
    rcases hc2 with h0 | ⟨b,off,ha,hb,hc⟩
    ·exact .inl h0
    ·refine .inr ⟨b,off,ha,hb,fun i hi => ?_⟩
     obtain ⟨cs',y,g1,g2,g3⟩:=hc i hi
     exact ⟨cs',g1,g2,ih _ _ _ (by omega) g3⟩
theorem open_sides (n : Nat) : ∀ (fuel : Nat) (cs : List Value) (x : DataW H × List MemPlace) (t : PT n),DataW.trod enc Tryz.prog w base spare held fuel 56 cs = some x → PRep w w.heap.size n t (.agg cs.toArray) → sideT n t:=by
 induction n with
 | zero => exact fun _ _ _ _ _ h => h.elim
 | succ n ih =>
  intro fuel cs x t h hp
  obtain ⟨va,a,cap,hv,hm,hr,hp⟩:=hp
  obtain ⟨xs,m,rfl,_,hl,hx,hf⟩:=DataW.trod_struct Tryz.underlying56 h
  rw [Tryz.cells56] at hl
  match cs,hl with
  | [c0,c1,c2,c3],_ =>
   match xs,hx with
   | [y0,y1,y2,y3],_ =>
    have h1:=hf 1 _ rfl
    have h3:=hf 3 _ rfl
    simp [Tryz.cells5,Tryz.cells54] at h1 h3
    obtain ⟨b,e1,_,wb⟩:=DataW.trod_int (k:=.u8) Tryz.underlying5 h1
    obtain ⟨sa,len,cap',e3,hm',hc⟩:=z2r Tryz.underlying54 Tryz.cells56 (by omega) h3
    simp at e1 e3
    subst e1 e3
    simp only [Value.agg.injEq,Array.mk.injEq,List.cons.injEq,Value.slice.injEq,Value.int.injEq,true_and,and_true] at hv
    obtain ⟨_,e1,_,e2,e3,e4⟩:=hv
    refine ⟨by rw [← e1]; exact wf8w wb,fun y hy => ?_⟩
    obtain ⟨i,hi,rfl⟩:=List.mem_iff_getElem.1 hy
    rcases hp with h0 | ⟨bb,off,ha,hb,hp⟩
    ·rw [h0] at hi; cases hi
    ·rcases hc with h0 | ⟨bb',off',ha',hb',hc⟩
     ·omega
     ·rw [← e2,ha'] at ha
      simp at ha
      obtain ⟨rfl,rfl⟩:=ha
      obtain ⟨v0,v1,v2,v3,k0,k1,k2,k3,hpp⟩:=hp i hi
      obtain ⟨cs',y',g1,g2,g3⟩:=hc i (by omega)
      match cs',g1 with
      | [z0,z1,z2,z3],_ =>
       have q0:=g2 0 (by omega)
       have q1:=g2 1 (by omega)
       have q2:=g2 2 (by omega)
       have q3:=g2 3 (by omega)
       rw [Nat.add_zero,k0] at q0
       rw [k1] at q1
       rw [k2] at q2
       rw [k3] at q3
       simp at q0 q1 q2 q3
       subst q0 q1 q2 q3
       exact ih _ _ _ _ g3 hpp
end
open Go.RowKit
theorem z4z (names : List ByteArray) (nv lv : Value) (hns : ∀ s ∈ names,s.size ≤ 281474976710656) {m d : Nat} (x : XT m d) (xv : Value) (l : List (Int × Int)) (a p b q : Int) {n : Nat} (t : PT n) (wv : Value) (w : World)
 (hr : Rdy w) (hn : NRep w w.heap.size nv names) (hx : XRep w w.heap.size m d x xv) (hcap : CapX w w.heap.size d xv) (hl : Segs w w.heap.size lv l) (hp : PRep w w.heap.size n t wv) (hrt : rngT n t) (hst : sideT n t) (ia : in64 a) (ib : in64 b) (hbb : bndX d x) :
 Calls Tryz.prog 4 #[nv,xv,lv,.agg #[.int .i64 a,.int .i64 p,.int .i64 b,.int .i64 q],wv] w fun e w' => e = .returned (.bool true) ∧ Below w.heap.size w w':=by
 obtain ⟨kx,a1x,n1x,c1x,a2x,n2x,c2x,lox,lsx,hix,hsx,opx,rfl⟩:=hx.shape
 obtain ⟨wk,sd,a3,l3,c3,a4,l4,c4,rfl⟩:=hp.shape
 obtain ⟨na,nc,rfl,_⟩:=id hn
 obtain ⟨la,lc,rfl,hlm,_⟩:=id hl
 obtain ⟨WB,hWWB⟩ : ∃ WB,WB = ((w.alloc (.cells #[.int .u8 kx,.slice a1x n1x c1x,.slice a2x n2x c2x,.int .i64 lox,.bool lsx,.int .i64 hix,.bool hsx,.bool opx] 47)).alloc (.cells #[.int .i64 a,.int .i64 p,.int .i64 b,.int .i64 q] 52)).alloc (.cells #[.int .u8 wk,.int .u8 sd,.slice a3 l3 c3,.slice a4 l4 c4] 56):=⟨_,rfl⟩
 have hbWB : Below w.heap.size w WB:=by rw [hWWB]; exact ((z0c _ _).alloc (by simp <;> omega) _).alloc (by simp <;> omega) _
 have hx0 : WB.heap[w.heap.size]? = some (.cells #[.int .u8 kx,.slice a1x n1x c1x,.slice a2x n2x c2x,.int .i64 lox,.bool lsx,.int .i64 hix,.bool hsx,.bool opx] 47 (0,0)):=by rw [hWWB]; exact (Jb _ _ _ (by simp <;> omega)).trans ((Jb _ _ _ (by simp <;> omega)).trans (z03 rfl))
 have hx1 : WB.heap[w.heap.size + 1]? = some (.cells #[.int .i64 a,.int .i64 p,.int .i64 b,.int .i64 q] 52 (0,0)):=by rw [hWWB]; exact (Jb _ _ _ (by simp <;> omega)).trans (z03 (by simp))
 have hx2 : WB.heap[w.heap.size + 1 + 1]? = some (.cells #[.int .u8 wk,.int .u8 sd,.slice a3 l3 c3,.slice a4 l4 c4] 56 (0,0)):=by rw [hWWB]; exact z03 (by simp)
 have HX : Hid (∀ W,Below WB.heap.size WB W → W.heap[w.heap.size]? = some (.cells #[.int .u8 kx,.slice a1x n1x c1x,.slice a2x n2x c2x,.int .i64 lox,.bool lsx,.int .i64 hix,.bool hsx,.bool opx] 47 (0,0)) ∧ W.heap[w.heap.size + 1]? = some (.cells #[.int .i64 a,.int .i64 p,.int .i64 b,.int .i64 q] 52 (0,0)) ∧ W.heap[w.heap.size + 1 + 1]? = some (.cells #[.int .u8 wk,.int .u8 sd,.slice a3 l3 c3,.slice a4 l4 c4] 56 (0,0))):=fun W hW => ⟨(hW.block _ (Array.getElem?_eq_some_iff.1 hx0).1).trans hx0,(hW.block _ (Array.getElem?_eq_some_iff.1 hx1).1).trans hx1,(hW.block _ (Array.getElem?_eq_some_iff.1 hx2).1).trans hx2⟩
 have HF : Hid (∀ W,Below WB.heap.size WB W → W.cell? ⟨w.heap.size,0,none⟩ = some (.int .u8 kx) ∧ W.cell? ⟨w.heap.size,1,none⟩ = some (.slice a1x n1x c1x) ∧ W.cell? ⟨w.heap.size,2,none⟩ = some (.slice a2x n2x c2x) ∧ W.cell? ⟨w.heap.size,3,none⟩ = some (.int .i64 lox) ∧ W.cell? ⟨w.heap.size,4,none⟩ = some (.bool lsx) ∧ W.cell? ⟨w.heap.size,5,none⟩ = some (.int .i64 hix) ∧ W.cell? ⟨w.heap.size,6,none⟩ = some (.bool hsx) ∧ W.cell? ⟨w.heap.size,7,none⟩ = some (.bool opx) ∧ W.cell? ⟨w.heap.size + 1,0,none⟩ = some (.int .i64 a) ∧ W.cell? ⟨w.heap.size + 1,1,none⟩ = some (.int .i64 p) ∧ W.cell? ⟨w.heap.size + 1,2,none⟩ = some (.int .i64 b) ∧ W.cell? ⟨w.heap.size + 1,3,none⟩ = some (.int .i64 q) ∧ W.cell? ⟨w.heap.size + 1 + 1,0,none⟩ = some (.int .u8 wk) ∧ W.cell? ⟨w.heap.size + 1 + 1,1,none⟩ = some (.int .u8 sd) ∧ W.cell? ⟨w.heap.size + 1 + 1,2,none⟩ = some (.slice a3 l3 c3) ∧ W.cell? ⟨w.heap.size + 1 + 1,3,none⟩ = some (.slice a4 l4 c4) ∧ w.heap.size < W.heap.size ∧ w.heap.size + 1 < W.heap.size ∧ w.heap.size + 1 + 1 < W.heap.size):=by
  intro W hW
  obtain ⟨k0,k1,k2⟩:=HX.out W hW
  exact ⟨Jc k0 0,Jc k0 1,Jc k0 2,Jc k0 3,Jc k0 4,Jc k0 5,Jc k0 6,Jc k0 7,Jc k1 0,Jc k1 1,Jc k1 2,Jc k1 3,Jc k2 0,Jc k2 1,Jc k2 2,Jc k2 3,(Array.getElem?_eq_some_iff.1 k0).1,(Array.getElem?_eq_some_iff.1 k1).1,(Array.getElem?_eq_some_iff.1 k2).1⟩
 have HBB:=Jh hbWB
 have HWB:=Jh hWWB.symm
 clear hWWB hbWB hx0 hx1 hx2
 have HENV : Hid (∀ W,Below WB.heap.size WB W → Rdy W ∧ NRep W W.heap.size (.slice na names.length nc) names ∧ XRep W W.heap.size m d x (.agg #[.int .u8 kx,.slice a1x n1x c1x,.slice a2x n2x c2x,.int .i64 lox,.bool lsx,.int .i64 hix,.bool hsx,.bool opx]) ∧ CapX W W.heap.size d (.agg #[.int .u8 kx,.slice a1x n1x c1x,.slice a2x n2x c2x,.int .i64 lox,.bool lsx,.int .i64 hix,.bool hsx,.bool opx]) ∧ Segs W W.heap.size (.slice la l.length lc) l ∧ PRep W W.heap.size n t (.agg #[.int .u8 wk,.int .u8 sd,.slice a3 l3 c3,.slice a4 l4 c4])):=fun W hW => by
  have h:=HBB.out.trans (hW.mono HBB.out.size)
  exact ⟨hr.below h,hn.up h h.size,hx.up h h.size,hcap.up h h.size,Segs.mono h.size (Segs.below h hl),hp.up h h.size⟩
 have HNS0:=Jh hns
 have HPP:=Jh hp
 have HRT:=Jh hrt
 have HST:=Jh hst
 have HIA:=Jh ia
 have HIB:=Jh ib
 have HBX:=Jh hbb
 clear hr hn hx hcap hl hp hns hrt hst ia ib hlm hbb
 go_enter Tryz.func4,Tryz.ntmps4
 go_upto_region 1 with fail
 rw [HWB.out]
 clear HWB
 obtain ⟨xf0,xf1,xf2,xf3,xf4,xf5,xf6,xf7,xf8,xf9,xf10,xf11,xf12,xf13,xf14,xf15,xf16,xf17,xf18⟩:=HF.out WB (Below.refl _ _)
 go_upto_region 2 with fail
 refine (great11_any m d x _ WB (HENV.out _ (Below.refl _ _)).2.2.1).mono ?_
 obtain ⟨gx,hgx⟩ : ∃ g,decide (2000 < z2x d x 2000) = g:=⟨_,rfl⟩
 rw [hgx]
 rintro e w2 ⟨rfl,hb2⟩
 have HB2:=Jh hb2
 have Hgx:=Jh hgx
 clear hb2 hgx xf0 xf1 xf2 xf3 xf4 xf5 xf6 xf7 xf8 xf9 xf10 xf11 xf12 xf13 xf14 xf15 xf16 xf17 xf18
 obtain ⟨xf0,xf1,xf2,xf3,xf4,xf5,xf6,xf7,xf8,xf9,xf10,xf11,xf12,xf13,xf14,xf15,xf16,xf17,xf18⟩:=HF.out w2 HB2.out
 rcases Bool.eq_false_or_eq_true gx with rfl | rfl
 ·go_wp2_with fail
  all_goals go_ret
  all_goals exact ⟨rfl,HBB.out.trans (HB2.out.mono HBB.out.size)⟩
 go_upto_region 2 with fail
 clear xf0 xf1 xf2 xf3 xf4 xf5 xf6 xf7 xf8 xf9 xf10 xf11 xf12 xf13 xf14 xf15 xf16 xf17 xf18
 have hE:=HENV.out w2 HB2.out
 refine ((z5w names _ w2 hE.2.1).mono fun e w' h => (⟨h.1,h.2 ▸ Below.refl _ _⟩ : e = .returned (.bool (z6q names)) ∧ Below w2.heap.size w2 w')).mono ?_
 obtain ⟨gn,hgn⟩ : ∃ g,z6q names = g:=⟨_,rfl⟩
 rw [hgn]
 rintro e w3 ⟨rfl,hb3⟩
 have HB3 : Hid (Below WB.heap.size WB w3):=belS HB2.out hb3
 have Hgn:=Jh hgn
 clear hb3 hE hgn
 obtain ⟨xf0,xf1,xf2,xf3,xf4,xf5,xf6,xf7,xf8,xf9,xf10,xf11,xf12,xf13,xf14,xf15,xf16,xf17,xf18⟩:=HF.out w3 HB3.out
 rcases Bool.eq_false_or_eq_true gn with rfl | rfl
 ·go_wp2_with fail
  all_goals go_ret
  all_goals exact ⟨rfl,HBB.out.trans (HB3.out.mono HBB.out.size)⟩
 rcases Bool.eq_false_or_eq_true (decide ((1100 : Int) < (l.length : Int))) with dl | dl
 ·go_wp2_with fail
  all_goals go_ret
  all_goals exact ⟨rfl,HBB.out.trans (HB3.out.mono HBB.out.size)⟩
 go_upto_region 2 with fail
 clear xf0 xf1 xf2 xf3 xf4 xf5 xf6 xf7 xf8 xf9 xf10 xf11 xf12 xf13 xf14 xf15 xf16 xf17 xf18 dl
 have hE:=HENV.out w3 HB3.out
 refine (great_any n t _ w3 w3.heap.size hE.2.2.2.2.2 (Nat.le_refl _)).mono ?_
 obtain ⟨gw,hgw⟩ : ∃ g,decide (z0j n t 6000 < 0) = g:=⟨_,rfl⟩
 rw [hgw]
 rintro e w4 ⟨rfl,hb4⟩
 have HB4 : Hid (Below WB.heap.size WB w4):=belS HB3.out hb4
 have Hgw:=Jh hgw
 clear hb4 hE hgw
 obtain ⟨xf0,xf1,xf2,xf3,xf4,xf5,xf6,xf7,xf8,xf9,xf10,xf11,xf12,xf13,xf14,xf15,xf16,xf17,xf18⟩:=HF.out w4 HB4.out
 rcases Bool.eq_false_or_eq_true gw with rfl | rfl
 ·go_wp2_with fail
  all_goals go_ret
  all_goals exact ⟨rfl,HBB.out.trans (HB4.out.mono HBB.out.size)⟩
 have HOK : Hid (okT n t):=okT_small HRT.out (of_decide_eq_false Hgw.out)
 have HSG : Hid (rngS n t):=rngS_small HPP.out HST.out (of_decide_eq_false Hgw.out)
 have HNS:=Jh (greatN_not Hgn.out HNS0.out)
 have HNX : Hid (nX d x ≤ 1000000):=by
  have h1:=of_decide_eq_false Hgx.out
  obtain ⟨_,_,h2⟩:=sizeX_le d x HBX.out 2000 (by decide) (by decide)
  have h3:=nX_le d x
  have h4:=h2 (by omega)
  show nX d x ≤ 1000000
  omega
 clear Hgn Hgw Hgx HRT HNS0 HST HPP HBX
 go_upto_region 3 with fail
 clear xf0 xf1 xf2 xf3 xf4 xf5 xf6 xf7 xf8 xf9 xf10 xf11 xf12 xf13 xf14 xf15 xf16 xf17 xf18
 obtain ⟨xf0,xf1,xf2,xf3,xf4,xf5,xf6,xf7,xf8,xf9,xf10,xf11,xf12,xf13,xf14,xf15,xf16,xf17,xf18⟩:=HF.out w4 HB4.out
 go_upto_region 4 with fail
 have hE:=HENV.out w4 HB4.out
 refine (check21_any names _ _ HNS.out x _ l a p b q t _ w4 hE.1 hE.2.1 hE.2.2.1 hE.2.2.2.2.1 hE.2.2.2.2.2 HOK.out HIA.out HIB.out).mono ?_
 obtain ⟨ans,hans⟩ : ∃ r,z1o names d x l (a,p) (b,q) n t = r:=⟨_,rfl⟩
 rw [hans]
 rintro e w5 ⟨rfl,hbx⟩
 have HB5 : Hid (Below WB.heap.size WB w5):=belS HB4.out hbx
 have HAN:=Jh hans
 clear hbx hE hans xf0 xf1 xf2 xf3 xf4 xf5 xf6 xf7 xf8 xf9 xf10 xf11 xf12 xf13 xf14 xf15 xf16 xf17 xf18
 obtain ⟨xf0,xf1,xf2,xf3,xf4,xf5,xf6,xf7,xf8,xf9,xf10,xf11,xf12,xf13,xf14,xf15,xf16,xf17,xf18⟩:=HF.out w5 HB5.out
 go_upto_region 5 with fail
 have hE:=HENV.out w5 HB5.out
 refine (docCheck22_any names _ _ HNS.out x _ l a p b q t _ w5 hE.1 hE.2.1 hE.2.2.1 hE.2.2.2.1 HNX.out hE.2.2.2.2.1 hE.2.2.2.2.2 HOK.out HSG.out HIA.out HIB.out).mono ?_
 rw [HAN.out]
 obtain ⟨rs,es⟩:=ans
 dsimp only
 rintro e w6 ⟨rfl,hbx⟩
 have HB6 : Hid (Below WB.heap.size WB w6):=belS HB5.out hbx
 clear hbx hE HAN xf0 xf1 xf2 xf3 xf4 xf5 xf6 xf7 xf8 xf9 xf10 xf11 xf12 xf13 xf14 xf15 xf16 xf17 xf18
 have e1 : (rs == rs) = true:=by simp
 have e2 : (es == es) = true:=by simp
 go_wp2_with fail
 all_goals go_ret
 all_goals exact ⟨rfl,HBB.out.trans (HB6.out.mono HBB.out.size)⟩
end Go.Proofs.YtockinpjfhhkoaaGreatDoor
