/- A proof of one behind another; a pair of halves. (Printed by gen_wcb.py.) -/
import Derived.Deep.RegionHeld
import Derived.Deep.Cut
import Derived.LoopTactic
import Derived.Test.YtockinpjfhhkoaaGreatDoorZ43
import Derived.Test.YtockinpjfhhkoaaGreatDoorZ24
import Derived.Test.YtockinpjfhhkoaaGreatDoorZ10
import Derived.Test.YtockinpjfhhkoaaGreatDoorZ21
import Derived.Test.YtockinpjfhhkoaaGreatDoorZ44
import Derived.Test.YtockinpjfhhkoaaGreatDoorZ42
set_option maxRecDepth 100000
set_option maxHeartbeats 16000000
open List renaming setIfInBounds_toArray → J1, set_cons_zero → J2, set_cons_succ → J3, getElem_toArray → J4, getElem_cons_zero → J5, getElem_cons_succ → J6
open Go.Lib renaming cell_of_heap → Jc, frozen_of_heap → Jf, hid → Jh
open Go.AllReadyH renaming cons → Jd, nil → Je
open Go renaming wpAnyH_ready → Jr
open Go.RowKit.Below renaming heap_alloc → Jb
namespace Go.Proofs.YtockinpjfhhkoaaGreatDoor
open Go.RowKit
theorem point66_any {t u n p m q : Int} (h1 : OfT t n p) (h2 : OfT u m q) (w : World) : Calls Tryz.prog 66 #[.int .i64 t,.int .i64 u] w fun e w' => e = .returned (.agg #[.int .i64 n,.int .i64 p,.int .i64 m,.int .i64 q]) ∧ Below w.heap.size w w':=by
 have H1:=fun W => Jh (h1.calls W)
 have H2:=fun W => Jh (h2.calls W)
 clear h1 h2
 obtain ⟨WB,hWWB⟩ : ∃ WB,WB = w.alloc (.cells #[.int .i64 0,.int .i64 0,.int .i64 0,.int .i64 0] 52):=⟨_,rfl⟩
 have hbWB : Below w.heap.size w WB:=by rw [hWWB]; exact z08 _ _
 have hx0 : WB.heap[w.heap.size]? = some (.cells #[.int .i64 0,.int .i64 0,.int .i64 0,.int .i64 0] 52 (0,0)):=by rw [hWWB]; exact z01 rfl
 have HX : Hid (∀ W,Below WB.heap.size WB W → W.heap[w.heap.size]? = some (.cells #[.int .i64 0,.int .i64 0,.int .i64 0,.int .i64 0] 52 (0,0))):=fun W hW => (hW.block _ (Array.getElem?_eq_some_iff.1 hx0).1).trans hx0
 have HF : Hid (∀ W,Below WB.heap.size WB W → W.cell? ⟨w.heap.size,0,none⟩ = some (.int .i64 0) ∧ W.cell? ⟨w.heap.size,1,none⟩ = some (.int .i64 0) ∧ W.cell? ⟨w.heap.size,2,none⟩ = some (.int .i64 0) ∧ W.cell? ⟨w.heap.size,3,none⟩ = some (.int .i64 0) ∧ W.frozen? ⟨w.heap.size,0,none⟩ = false ∧ W.frozen? ⟨w.heap.size,1,none⟩ = false ∧ W.frozen? ⟨w.heap.size,2,none⟩ = false ∧ W.frozen? ⟨w.heap.size,3,none⟩ = false ∧ w.heap.size < W.heap.size):=by
  intro W hW
  have k0:=HX.out W hW
  exact ⟨Jc k0 0,Jc k0 1,Jc k0 2,Jc k0 3,Jf k0 0,Jf k0 1,Jf k0 2,Jf k0 3,(Array.getElem?_eq_some_iff.1 k0).1⟩
 have HBB:=Jh hbWB
 have HWB:=Jh hWWB.symm
 clear hWWB hbWB hx0
 go_enter Tryz.func66,Tryz.ntmps66
 go_upto_region 1 with fail
 rw [HWB.out]
 clear HWB
 go_upto_region 2 with fail
 refine (H1 _).out.mono ?_
 rintro e w1 ⟨rfl,hb1⟩
 have HB1:=Jh hb1
 clear hb1
 go_upto_region 2 with fail
 obtain ⟨W2,hW2⟩ : ∃ W2,W2 = w1.alloc (.cells #[.int .i64 n,.int .i64 p] 50):=⟨_,rfl⟩
 rw [← hW2]
 have HB2 : Hid (Below WB.heap.size WB W2):=by rw [hW2]; exact HB1.out.trans ((z08 _ _).mono HB1.out.size)
 have k0 : W2.heap[w1.heap.size]? = some (.cells #[.int .i64 n,.int .i64 p] 50 (0,0)):=by rw [hW2]; exact z01 rfl
 have HK:=Jh k0
 clear hW2 k0 HB1
 go_upto_region 3 with fail
 refine (H2 _).out.mono ?_
 rintro e w3 ⟨rfl,hb3⟩
 have k3:=Jh ((hb3.block _ (Array.getElem?_eq_some_iff.1 HK.out).1).trans HK.out)
 have HB3:=Jh (HB2.out.trans (hb3.mono HB2.out.size))
 clear hb3 HB2 HK
 go_upto_region 3 with fail
 obtain ⟨W4,hW4⟩ : ∃ W4,W4 = w3.alloc (.cells #[.int .i64 m,.int .i64 q] 50):=⟨_,rfl⟩
 rw [← hW4]
 have HB4 : Hid (Below WB.heap.size WB W4):=by rw [hW4]; exact HB3.out.trans ((z08 _ _).mono HB3.out.size)
 have k4 : W4.heap[w3.heap.size]? = some (.cells #[.int .i64 m,.int .i64 q] 50 (0,0)):=by rw [hW4]; exact z01 rfl
 have k5 : W4.heap[w1.heap.size]? = some (.cells #[.int .i64 n,.int .i64 p] 50 (0,0)):=by rw [hW4]; exact (Jb _ _ _ (Array.getElem?_eq_some_iff.1 k3.out).1).trans k3.out
 have c0:=Jc k4 0
 have c1:=Jc k4 1
 have c2:=Jc k5 0
 have c3:=Jc k5 1
 simp at c0 c1 c2 c3
 clear hW4 k4 k5 k3 HB3
 obtain ⟨xf0,xf1,xf2,xf3,xf4,xf5,xf6,xf7,xf8⟩:=HF.out W4 (HB4.out)
 go_wp2_with fail
 refine bodyPost_ret (results_cell_row rfl _ _ _ _ _ _ _ rfl (set4_at (HX.out _ HB4.out) _ _ _ _) Tryz.underlying52 rfl (by kernel_rfl)) rfl ?_
 exact ⟨rfl,set4_below (HBB.out.trans (HB4.out.mono HBB.out.size)) (Nat.le_refl _) _ _ _ _⟩
def cutT (n p : Int) : PT 2:=(4,0,[(n,p)],[(1,0,[],[]),(1,0,[],[])])
theorem z7y {s n p : Int} (h1 : OfT s n p) (w : World) : Calls Tryz.prog 28 #[.int .i64 s] w fun e w' => ∃ v,e = .returned v ∧ Below w.heap.size w w' ∧ PRep w' w'.heap.size 2 (cutT n p) v:=by
 have H1:=fun W => Jh (h1.calls W)
 clear h1
 obtain ⟨WB,hWWB⟩ : ∃ WB,WB = w.alloc (.cells #[.int .u8 0,.int .u8 0,.slice none 0 0,.slice none 0 0] 56):=⟨_,rfl⟩
 have hbWB : Below w.heap.size w WB:=by rw [hWWB]; exact z08 _ _
 have hx0 : WB.heap[w.heap.size]? = some (.cells #[.int .u8 0,.int .u8 0,.slice none 0 0,.slice none 0 0] 56 (0,0)):=by rw [hWWB]; exact z01 rfl
 have HX : Hid (∀ W,Below WB.heap.size WB W → W.heap[w.heap.size]? = some (.cells #[.int .u8 0,.int .u8 0,.slice none 0 0,.slice none 0 0] 56 (0,0))):=fun W hW => (hW.block _ (Array.getElem?_eq_some_iff.1 hx0).1).trans hx0
 have HF : Hid (∀ W,Below WB.heap.size WB W → W.cell? ⟨w.heap.size,0,none⟩ = some (.int .u8 0) ∧ W.cell? ⟨w.heap.size,1,none⟩ = some (.int .u8 0) ∧ W.cell? ⟨w.heap.size,2,none⟩ = some (.slice none 0 0) ∧ W.cell? ⟨w.heap.size,3,none⟩ = some (.slice none 0 0) ∧ W.frozen? ⟨w.heap.size,0,none⟩ = false ∧ W.frozen? ⟨w.heap.size,1,none⟩ = false ∧ W.frozen? ⟨w.heap.size,2,none⟩ = false ∧ W.frozen? ⟨w.heap.size,3,none⟩ = false ∧ w.heap.size < W.heap.size):=by
  intro W hW
  have k0:=HX.out W hW
  exact ⟨Jc k0 0,Jc k0 1,Jc k0 2,Jc k0 3,Jf k0 0,Jf k0 1,Jf k0 2,Jf k0 3,(Array.getElem?_eq_some_iff.1 k0).1⟩
 have HBB:=Jh hbWB
 have HWB:=Jh hWWB.symm
 clear hWWB hbWB hx0
 go_enter Tryz.func28,Tryz.ntmps28
 go_upto_region 1 with fail
 rw [HWB.out]
 clear HWB
 go_upto_region 2 with fail
 refine (H1 _).out.mono ?_
 rintro e w1 ⟨rfl,hb1⟩
 have HB1:=Jh hb1
 clear hb1
 go_upto_region 3 with fail
 obtain ⟨W3,hW3⟩ : ∃ W3,W3 = ((w1.alloc (.cells #[.int .i64 n,.int .i64 p] 50)).alloc (.cells #[.int .u8 1,.int .u8 0,.slice none 0 0,.slice none 0 0] 56)):=⟨_,rfl⟩
 rw [← hW3]
 have HB3 : Hid (Below WB.heap.size WB W3):=by rw [hW3]; exact HB1.out.trans (((z08 _ _).alloc (by simp) _).mono HB1.out.size)
 have k4 : W3.heap[w1.heap.size + 1]? = some (.cells #[.int .u8 1,.int .u8 0,.slice none 0 0,.slice none 0 0] 56 (0,0)):=by rw [hW3]; exact z01 (by simp)
 have k5 : W3.heap[w1.heap.size]? = some (.cells #[.int .i64 n,.int .i64 p] 50 (0,0)):=by rw [hW3]; exact (Jb _ _ _ (by simp)).trans (z01 rfl)
 have HZ : Hid (W3.heap.size = w1.heap.size + 2):=by rw [hW3]; simp [Hid]
 have c0:=Jc k4 0
 have c1:=Jc k4 1
 have c2:=Jc k4 2
 have c3:=Jc k4 3
 have c4:=Jc k5 0
 have c5:=Jc k5 1
 have l0 : w1.heap.size < W3.heap.size:=by have:=HZ.out; omega
 have l1 : w1.heap.size + 1 < W3.heap.size:=by have:=HZ.out; omega
 simp at c0 c1 c2 c3 c4 c5
 clear hW3 k4 k5 HB1
 obtain ⟨xf0,xf1,xf2,xf3,xf4,xf5,xf6,xf7,xf8⟩:=HF.out W3 (HB3.out)
 go_wp2_with fail
 have a1 : (set4 W3 w.heap.size (.int .u8 4) (.int .u8 0) (.slice (some ⟨W3.heap.size,0,none⟩) 1 1) (.slice (some ⟨W3.heap.size + 1,0,none⟩) 2 2)).heap.size = W3.heap.size:=by simp [set4]
 have a0:=set4_at (HX.out _ HB3.out) (.int .u8 4) (.int .u8 0) (.slice (some ⟨W3.heap.size,0,none⟩) 1 1) (.slice (some ⟨W3.heap.size + 1,0,none⟩) 2 2)
 have a2:=set4_below (HBB.out.trans (HB3.out.mono HBB.out.size)) (Nat.le_refl _) (.int .u8 4) (.int .u8 0) (.slice (some ⟨W3.heap.size,0,none⟩) 1 1) (.slice (some ⟨W3.heap.size + 1,0,none⟩) 2 2)
 change bodyPost _ _ _ _ _ (((set4 W3 w.heap.size (.int .u8 4) (.int .u8 0) (.slice (some ⟨W3.heap.size,0,none⟩) 1 1) (.slice (some ⟨W3.heap.size + 1,0,none⟩) 2 2)).alloc (.cells #[.int .i64 n,.int .i64 p] 50)).alloc (.cells #[.int .u8 1,.int .u8 0,.slice none 0 0,.slice none 0 0,.int .u8 1,.int .u8 0,.slice none 0 0,.slice none 0 0] 56))
 generalize set4 W3 w.heap.size (.int .u8 4) (.int .u8 0) (.slice (some ⟨W3.heap.size,0,none⟩) 1 1) (.slice (some ⟨W3.heap.size + 1,0,none⟩) 2 2) = W5 at a0 a1 a2 ⊢
 have hlt : w.heap.size < W5.heap.size:=(Array.getElem?_eq_some_iff.1 a0).1
 obtain ⟨WF,hWF⟩ : ∃ WF,WF = ((W5.alloc (.cells #[.int .i64 n,.int .i64 p] 50)).alloc (.cells #[.int .u8 1,.int .u8 0,.slice none 0 0,.slice none 0 0,.int .u8 1,.int .u8 0,.slice none 0 0,.slice none 0 0] 56)):=⟨_,rfl⟩
 rw [← hWF]
 have f0 : WF.heap[w.heap.size]? = some (.cells #[.int .u8 4,.int .u8 0,.slice (some ⟨W3.heap.size,0,none⟩) 1 1,.slice (some ⟨W3.heap.size + 1,0,none⟩) 2 2] 56 (0,0)):=by
  rw [hWF]; exact (Jb _ _ _ (by simp; omega)).trans ((Jb _ _ _ hlt).trans a0)
 have f1 : WF.heap[W3.heap.size]? = some (.cells #[.int .i64 n,.int .i64 p] 50 (0,0)):=by
  rw [hWF]; exact (Jb _ _ _ (by simp; omega)).trans (z01 a1.symm)
 have f2 : WF.heap[W3.heap.size + 1]? = some (.cells #[.int .u8 1,.int .u8 0,.slice none 0 0,.slice none 0 0,.int .u8 1,.int .u8 0,.slice none 0 0,.slice none 0 0] 56 (0,0)):=by
  rw [hWF]; exact z01 (by simp; omega)
 have g1:=(Array.getElem?_eq_some_iff.1 f1).1
 have g2:=(Array.getElem?_eq_some_iff.1 f2).1
 refine bodyPost_ret (results_cell_row rfl _ _ _ _ _ _ _ rfl f0 Tryz.underlying56 rfl (by kernel_rfl)) rfl ?_
 have hA : PRep WF WF.heap.size 1 (1,0,[],[]) (.agg #[.int .u8 1,.int .u8 0,.slice none 0 0,.slice none 0 0]) :=
  ⟨_,none,0,rfl,by decide,⟨none,0,rfl,by decide,.inl rfl⟩,.inl rfl⟩
 refine ⟨_,rfl,by rw [hWF]; exact (a2.alloc (by omega) _).alloc (by simp; omega) _,_,some ⟨W3.heap.size + 1,0,none⟩,2,rfl,(show (2 : Nat) ≤ 9223372036854775807 by decide),⟨some ⟨W3.heap.size,0,none⟩,1,rfl,(show (1 : Nat) ≤ 9223372036854775807 by decide),.inr ⟨W3.heap.size,0,rfl,g1,?_⟩⟩,.inr ⟨W3.heap.size + 1,0,rfl,g2,?_⟩⟩
 ·intro i hi
  have hi' : i < 1:=hi
  obtain rfl : i = 0:=by omega
  exact ⟨Jc f1 0,Jc f1 1⟩
 ·intro i hi
  have hi' : i < 2:=hi
  rcases (by omega : i = 0 ∨ i = 1) with rfl | rfl
  ·exact ⟨_,_,_,_,Jc f2 0,Jc f2 1,Jc f2 2,Jc f2 3,hA⟩
  ·exact ⟨_,_,_,_,Jc f2 4,Jc f2 5,Jc f2 6,Jc f2 7,hA⟩
open Go.RowKit
theorem segs_two {w : World} {b : Nat} {T : TypeId} (h : w.heap[b]? = some (.cells #[.int .i64 1,.int .u8 1,.int .i64 1,.int .u8 2] T (0,0))) : Segs w w.heap.size (.slice (some ⟨b,0,none⟩) 2 2) [(1,1),(1,2)]:=by
 refine ⟨some ⟨b,0,none⟩,2,rfl,by decide,.inr ⟨b,0,rfl,(Array.getElem?_eq_some_iff.1 h).1,?_⟩,by decide⟩
 intro i hi
 have hi' : i < 2:=hi
 rcases (by omega : i = 0 ∨ i = 1) with rfl | rfl
 ·exact ⟨Jc h 0,Jc h 1⟩
 ·exact ⟨Jc h 2,Jc h 3⟩
theorem z30 (src : ByteArray) {m d : Nat} (x : XT m d) (hcut : (cutR src).2.2 = 0) (hall : allR (cutR src).1 src.size = .ok (toX d x)) (hchk : z0r pqL d x = 0)
 {t u a p b q : Int} (h1 : OfT t a p) (h2 : OfT u b q) (ia : in64 a) (ib : in64 b) {n : Nat} (tp : PT n) (wv : Value) (r : Bool)
 (hres : ∀ (m' n' : Nat) (t' : XT m' n'),toX n' t' = toX d x → z0a pqL n' t' [(1,1),(1,2)] (a,p) (b,q) n tp = (r,0))
 (w : World) (hr : Rdy w) (hp : PRep w w.heap.size n tp wv) (hok : okT n tp) :
 Calls Tryz.prog 30 #[.string src,.int .i64 t,.int .i64 u,wv] w fun e w' => e = .returned (.bool r) ∧ Below w.heap.size w w':=by
 obtain ⟨wk,sd,a3,l3,c3,a4,l4,c4,rfl⟩:=hp.shape
 have HPT:=fun W => Jh (point66_any h1 h2 W)
 have HR:=Jh hr
 have HP:=Jh hp
 have HRES:=Jh hres
 have HCUT:=Jh hcut
 have HALL:=Jh hall
 have HCHK:=Jh hchk
 have HOK:=Jh hok
 have HIA:=Jh ia
 have HIB:=Jh ib
 clear hr hp hres hcut hall hchk hok h1 h2 ia ib
 obtain ⟨WB,hWWB⟩ : ∃ WB,WB = w.alloc (.cells #[.int .u8 wk,.int .u8 sd,.slice a3 l3 c3,.slice a4 l4 c4] 56):=⟨_,rfl⟩
 have hbWB : Below w.heap.size w WB:=by rw [hWWB]; exact z08 _ _
 have hx0 : WB.heap[w.heap.size]? = some (.cells #[.int .u8 wk,.int .u8 sd,.slice a3 l3 c3,.slice a4 l4 c4] 56 (0,0)):=by rw [hWWB]; exact z01 rfl
 have HX : Hid (∀ W,Below WB.heap.size WB W → W.heap[w.heap.size]? = some (.cells #[.int .u8 wk,.int .u8 sd,.slice a3 l3 c3,.slice a4 l4 c4] 56 (0,0))):=fun W hW => (hW.block _ (Array.getElem?_eq_some_iff.1 hx0).1).trans hx0
 have HF : Hid (∀ W,Below WB.heap.size WB W → W.cell? ⟨w.heap.size,0,none⟩ = some (.int .u8 wk) ∧ W.cell? ⟨w.heap.size,1,none⟩ = some (.int .u8 sd) ∧ W.cell? ⟨w.heap.size,2,none⟩ = some (.slice a3 l3 c3) ∧ W.cell? ⟨w.heap.size,3,none⟩ = some (.slice a4 l4 c4) ∧ w.heap.size < W.heap.size):=by
  intro W hW
  have k0:=HX.out W hW
  exact ⟨Jc k0 0,Jc k0 1,Jc k0 2,Jc k0 3,(Array.getElem?_eq_some_iff.1 k0).1⟩
 have HBB:=Jh hbWB
 have HWB:=Jh hWWB.symm
 clear hWWB hbWB hx0
 go_enter Tryz.func30,Tryz.ntmps30
 go_upto_region 1 with fail
 rw [HWB.out]
 clear HWB
 go_upto_region 2 with fail
 obtain ⟨W1,hW1⟩ : ∃ W1,W1 = WB.alloc (.cells #[.string ⟨#[112]⟩,.string ⟨#[113]⟩] 9):=⟨_,rfl⟩
 rw [← hW1]
 have HB1 : Hid (Below WB.heap.size WB W1):=by rw [hW1]; exact z08 _ _
 have HN1 : Hid (NRep W1 W1.heap.size (.slice (some ⟨WB.heap.size,0,none⟩) 2 2) pqL):=nrep_pq _ WB.heap.size (0,0) (by rw [hW1]; exact z01 rfl) _
 clear hW1
 go_upto_region 3 with fail
 refine (parse21_any pqL _ pq_small src W1 (HR.out.below (HBB.out.trans (HB1.out.mono HBB.out.size))) HN1.out).mono ?_
 rintro e w2 ⟨xv,at_,cd,rfl,hps,hb2⟩
 obtain ⟨rfl,rfl,m',n',t',ht,hx⟩:=hps.at_ok pq_right HCUT.out HALL.out HCHK.out
 obtain ⟨k,a1,n1,e1,a2,n2,e2,lo,ls,hi,hs,op,rfl⟩:=hx.shape
 have HC:=Jh (HRES.out m' n' t' ht)
 have HB2:=Jh (HB1.out.trans (hb2.mono HB1.out.size))
 have HN2:=Jh (HN1.out.up hb2 hb2.size)
 have HX2:=Jh hx
 clear hps hb2 hx ht HRES HCUT HALL HCHK HB1 HN1
 go_upto_region 3 with fail
 obtain ⟨W3,hW3⟩ : ∃ W3,W3 = w2.alloc (.cells #[.int .u8 k,.slice a1 n1 e1,.slice a2 n2 e2,.int .i64 lo,.bool ls,.int .i64 hi,.bool hs,.bool op] 47):=⟨_,rfl⟩
 rw [← hW3]
 have hb3 : Below w2.heap.size w2 W3:=by rw [hW3]; exact z08 _ _
 have HB3:=Jh (HB2.out.trans (hb3.mono HB2.out.size))
 have HN3:=Jh (HN2.out.up hb3 hb3.size)
 have HX3:=Jh (HX2.out.up hb3 hb3.size)
 have HK : Hid (W3.heap[w2.heap.size]? = some (.cells #[.int .u8 k,.slice a1 n1 e1,.slice a2 n2 e2,.int .i64 lo,.bool ls,.int .i64 hi,.bool hs,.bool op] 47 (0,0))):=by rw [hW3]; exact z01 rfl
 have HH : Hid (∀ W,Below W3.heap.size W3 W → (W.cell? ⟨w2.heap.size,0,none⟩ = some (.int .u8 k) ∧ W.cell? ⟨w2.heap.size,1,none⟩ = some (.slice a1 n1 e1) ∧ W.cell? ⟨w2.heap.size,2,none⟩ = some (.slice a2 n2 e2) ∧ W.cell? ⟨w2.heap.size,3,none⟩ = some (.int .i64 lo) ∧ W.cell? ⟨w2.heap.size,4,none⟩ = some (.bool ls) ∧ W.cell? ⟨w2.heap.size,5,none⟩ = some (.int .i64 hi) ∧ W.cell? ⟨w2.heap.size,6,none⟩ = some (.bool hs) ∧ W.cell? ⟨w2.heap.size,7,none⟩ = some (.bool op) ∧ w2.heap.size < W.heap.size) ∧ W.cell? ⟨w.heap.size,0,none⟩ = some (.int .u8 wk) ∧ W.cell? ⟨w.heap.size,1,none⟩ = some (.int .u8 sd) ∧ W.cell? ⟨w.heap.size,2,none⟩ = some (.slice a3 l3 c3) ∧ W.cell? ⟨w.heap.size,3,none⟩ = some (.slice a4 l4 c4) ∧ w.heap.size < W.heap.size):=by
  intro W hW
  have k0:=(hW.block _ (Array.getElem?_eq_some_iff.1 HK.out).1).trans HK.out
  refine ⟨⟨Jc k0 0,Jc k0 1,Jc k0 2,Jc k0 3,Jc k0 4,Jc k0 5,Jc k0 6,Jc k0 7,(Array.getElem?_eq_some_iff.1 k0).1⟩,?_⟩
  have k0:=HX.out W (HB3.out.trans (hW.mono HB3.out.size))
  exact ⟨Jc k0 0,Jc k0 1,Jc k0 2,Jc k0 3,(Array.getElem?_eq_some_iff.1 k0).1⟩
 have HW0:=Jh (HBB.out.trans (HB3.out.mono HBB.out.size))
 have HENV : Hid (∀ W,Below W3.heap.size W3 W → Rdy W ∧ NRep W W.heap.size (.slice (some ⟨WB.heap.size,0,none⟩) 2 2) pqL ∧ XRep W W.heap.size m' n' t' (.agg #[.int .u8 k,.slice a1 n1 e1,.slice a2 n2 e2,.int .i64 lo,.bool ls,.int .i64 hi,.bool hs,.bool op]) ∧ PRep W W.heap.size n tp (.agg #[.int .u8 wk,.int .u8 sd,.slice a3 l3 c3,.slice a4 l4 c4])):=fun W hW =>
  ⟨HR.out.below (HW0.out.trans (hW.mono HW0.out.size)),HN3.out.up hW hW.size,HX3.out.up hW hW.size,(HP.out.up (HW0.out.trans (hW.mono HW0.out.size)) (Nat.le_trans HW0.out.size hW.size))⟩
 clear hW3 hb3 HB2 HN2 HX2 HN3 HX3 HK HB3 HR HP
 refine wrd (by kernel_rfl) HH.out ((Below.refl _ W3).drew) (fun hHeld => ?_)
 refine z00 (f:=8) (by kernel_rfl) (by assumption) [(0,true),(1,true),(2,true),(3,true),(5,true),(6,true),(8,true)] rfl (by kernel_rfl) ?_
 repeat (refine SeqH.take (v:=?_) rfl (fun _ _ _ h => h) (by kernel_rfl) ?_ ?_; rotate_left; (· (intro w hSw; (try dsimp only at hSw); go_simp) <;> with_reducible rfl); (try simp only [Act.put,J1,J2,J3,J4,J5,J6]))
 refine SeqH.nil ?_
 refine Jr (rs:=[4,7]) (by kernel_rfl) (by simp) ?_
 refine Jd rfl (fun K hK => ?_) (Jd rfl (fun K hK => ?_) Je)
 ·go_simp
  obtain ⟨W4,hW4⟩ : ∃ W4,W4 = (W3.alloc (.cells #[.int .i64 1,.int .u8 1,.int .i64 1,.int .u8 2] 29)).drew:=⟨_,rfl⟩
  rw [← hW4]
  have HB4 : Hid (Below W3.heap.size W3 W4):=by rw [hW4]; exact belS (Below.refl _ W3) (z08 _ _).drew
  have hs4:=segs_two (T:=29) (b:=W3.heap.size) (w:=W4) (by rw [hW4]; exact z01 rfl)
  have HS4:=Jh hs4
  clear hW4 hs4
  try dsimp only
  refine hK.out _ _ (HH.out _ HB4.out) (fun hHeld => ?_)
  clear hK K
  try simp only [Act.put,J1,J2,J3,J4,J5,J6]
  refine Jr (rs:=[7]) (by kernel_rfl) (by simp) ?_
  refine Jd rfl (fun K hK => ?_) Je
  go_simp
  go_at_call 66
  refine (HPT _).out.mono ?_
  rintro e w7 ⟨rfl,hb7⟩
  have HB7 : Hid (Below W3.heap.size W3 w7):=belS (HB4.out) hb7
  have HSEG : Hid (Segs w7 w7.heap.size (.slice (some ⟨W3.heap.size,0,none⟩) 2 2) [(1,1),(1,2)]):=Segs.mono hb7.size (Segs.below hb7 HS4.out)
  clear hb7
  try dsimp only
  refine hK.out _ _ (HH.out _ HB7.out) (fun hHeld => ?_)
  clear hK K
  try simp only [Act.put,J1,J2,J3,J4,J5,J6]
  refine Jr (rs:=[9]) (by kernel_rfl) (by simp) ?_
  refine Jd rfl (fun K hK => ?_) Je
  go_simp
  go_at_call 21
  have hE:=HENV.out w7 HB7.out
  refine (z03 pqL _ _ pq_small t' _ [(1,1),(1,2)] a p b q tp _ w7 hE.1 hE.2.1 hE.2.2.1 HSEG.out hE.2.2.2 HOK.out HIA.out HIB.out).mono ?_
  rw [HC.out]
  rintro e w9 ⟨rfl,hb9⟩
  have HB9 : Hid (Below W3.heap.size W3 w9):=belS HB7.out hb9
  clear hb9 hE
  try dsimp only
  refine hK.out _ _ (HH.out _ HB9.out) (fun hHeld => ?_)
  clear hK K
  try simp only [Act.put,J1,J2,J3,J4,J5,J6]
  refine z00 (f:=0) (by kernel_rfl) (by assumption) [(10,true),(11,true),(12,true),(13,true),(14,true)] rfl (by kernel_rfl) ?_
  repeat (refine SeqH.take (v:=?_) rfl (fun _ _ _ h => h) (by kernel_rfl) ?_ ?_; rotate_left; (· (intro w hSw; (try dsimp only at hSw); go_simp) <;> with_reducible rfl); (try simp only [Act.put,J1,J2,J3,J4,J5,J6]))
  refine SeqH.nil ?_
  refine wpAnyH_done (by kernel_rfl) ?_ _
  clear hHeld
  go_wp2_with fail
  all_goals go_ret
  all_goals exact ⟨by simp,HW0.out.trans (HB9.out.mono HW0.out.size)⟩
 ·go_simp
  go_at_call 66
  refine (HPT _).out.mono ?_
  rintro e w7 ⟨rfl,hb7⟩
  have HB7 : Hid (Below W3.heap.size W3 w7):=belS ((Below.refl _ W3).drew) hb7
  skip
  clear hb7
  try dsimp only
  refine hK.out _ _ (HH.out _ HB7.out) (fun hHeld => ?_)
  clear hK K
  try simp only [Act.put,J1,J2,J3,J4,J5,J6]
  refine Jr (rs:=[4]) (by kernel_rfl) (by simp) ?_
  refine Jd rfl (fun K hK => ?_) Je
  go_simp
  obtain ⟨W4,hW4⟩ : ∃ W4,W4 = w7.alloc (.cells #[.int .i64 1,.int .u8 1,.int .i64 1,.int .u8 2] 29):=⟨_,rfl⟩
  rw [← hW4]
  have HB4 : Hid (Below W3.heap.size W3 W4):=by rw [hW4]; exact belS (HB7.out) (z08 _ _)
  have hs4:=segs_two (T:=29) (b:=w7.heap.size) (w:=W4) (by rw [hW4]; exact z01 rfl)
  have HSEG:=Jh hs4
  clear hW4 hs4
  try dsimp only
  refine hK.out _ _ (HH.out _ HB4.out) (fun hHeld => ?_)
  clear hK K
  try simp only [Act.put,J1,J2,J3,J4,J5,J6]
  refine Jr (rs:=[9]) (by kernel_rfl) (by simp) ?_
  refine Jd rfl (fun K hK => ?_) Je
  go_simp
  go_at_call 21
  have hE:=HENV.out W4 HB4.out
  refine (z03 pqL _ _ pq_small t' _ [(1,1),(1,2)] a p b q tp _ W4 hE.1 hE.2.1 hE.2.2.1 HSEG.out hE.2.2.2 HOK.out HIA.out HIB.out).mono ?_
  rw [HC.out]
  rintro e w9 ⟨rfl,hb9⟩
  have HB9 : Hid (Below W3.heap.size W3 w9):=belS HB4.out hb9
  clear hb9 hE
  try dsimp only
  refine hK.out _ _ (HH.out _ HB9.out) (fun hHeld => ?_)
  clear hK K
  try simp only [Act.put,J1,J2,J3,J4,J5,J6]
  refine z00 (f:=0) (by kernel_rfl) (by assumption) [(10,true),(11,true),(12,true),(13,true),(14,true)] rfl (by kernel_rfl) ?_
  repeat (refine SeqH.take (v:=?_) rfl (fun _ _ _ h => h) (by kernel_rfl) ?_ ?_; rotate_left; (· (intro w hSw; (try dsimp only at hSw); go_simp) <;> with_reducible rfl); (try simp only [Act.put,J1,J2,J3,J4,J5,J6]))
  refine SeqH.nil ?_
  refine wpAnyH_done (by kernel_rfl) ?_ _
  clear hHeld
  go_wp2_with fail
  all_goals go_ret
  all_goals exact ⟨by simp,HW0.out.trans (HB9.out.mono HW0.out.size)⟩
open Go.RowKit
theorem zaj {m : Nat} {s : ByteArray} (h : ∃ tp : FT m,toF m tp = .mk 3 s []) (on : Int) : z0v pqL m (.mk 3 s []) on = z2t pqL (m:=1) (3,s,[]) on:=by
 obtain ⟨tp,h⟩:=h
 rw [← h,holdE_at]
 cases m with
 | zero => exact nomatch tp
 | succ m =>
  obtain ⟨k,s',of⟩:=tp
  have h' : F.mk k s' (of.map (toF m)) = .mk 3 s []:=h
  injection h' with h1 h2 h3
  have h4 : of = []:=by simpa using h3
  subst h1 h2 h4
  rfl
theorem p_one : z2t pqL (m:=1) (3,bP,[]) 1 = true:=by decide +kernel
theorem p_two : z2t pqL (m:=1) (3,bP,[]) 2 = false:=by decide +kernel
theorem q_one : z2t pqL (m:=1) (3,bQ,[]) 1 = false:=by decide +kernel
theorem q_two : z2t pqL (m:=1) (3,bQ,[]) 2 = true:=by decide +kernel
theorem z9u {m d : Nat} {t : XT m d} {k : Int} {is : List F} {xs : List X} {i : Spn} (h : toX d t = .mk k is xs i) :
 (∀ f ∈ is,∃ tp : FT m,toF m tp = f) ∧ ∀ x ∈ xs,∃ (d' : Nat) (t' : XT m d'),toX d' t' = x:=by
 cases d with
 | zero => exact nomatch t
 | succ d =>
  obtain ⟨k',is',of,i'⟩:=t
  have h' : X.mk k' (is'.map (toF m)) (of.map (toX d)) i' = .mk k is xs i:=h
  injection h' with h1 h2 h3 h4
  subst h2 h3
  exact ⟨fun f hf => by obtain ⟨a,_,ha⟩:=List.mem_map.1 hf; exact ⟨a,ha⟩,fun x hx => by obtain ⟨a,_,ha⟩:=List.mem_map.1 hx; exact ⟨d,a,ha⟩⟩
theorem atom_two (g : Int → Bool) (t u : Int × Int) : z5h g [(1,1),(1,2)] t u =
 (z07 t u && !z07 t (z0i 0) && (if z07 (z0i 0) u && z07 t (z0i 1) && !g 1 then false else if z07 (z0i 1) u && z07 t (z0i 2) && !g 2 then false else !z07 (z0i 2) u)):=by
 unfold z5h
 simp only [z2j]
 congr 1
 show (match (if z07 (z0i 0) u && z07 t (z0i 1) && !g 1 then none else if z07 (z0i 1) u && z07 t (z0i 2) && !g 2 then none else some (2 : Int)) with | none => false | some e => !z07 (z0i e) u) = _
 by_cases h1 : (z07 (z0i 0) u && z07 t (z0i 1) && !g 1) = true
 ·rw [if_pos h1,if_pos h1]
 ·rw [if_neg h1,if_neg h1]
  by_cases h2 : (z07 (z0i 1) u && z07 t (z0i 2) && !g 2) = true
  ·rw [if_pos h2,if_pos h2]
  ·rw [if_neg h2,if_neg h2]
def fPF : F:=.mk 3 bP []
def fQF : F:=.mk 3 bQ []
def xC : XT 2 2:=(4,[],[(1,[fP],[],z06),(1,[fQ],[],z06)],z06)
def xP : XT 2 2:=(1,[fP],[],z06)
def sC : ByteArray:=⟨#[112,59,113]⟩
def sP : ByteArray:=⟨#[112]⟩
theorem sC_cut : (cutR sC).2.2 = 0:=by kernel_rfl
theorem sC_all : allR (cutR sC).1 sC.size = .ok (toX 2 xC):=by kernel_rfl
theorem sP_cut : (cutR sP).2.2 = 0:=by kernel_rfl
theorem sP_all : allR (cutR sP).1 sP.size = .ok (toX 2 xP):=by kernel_rfl
theorem z78 : z0r pqL 2 xC = 0:=by decide +kernel
theorem z9t : z0r pqL 2 xP = 0:=by decide +kernel
theorem xC_is : toX 2 xC = .mk 4 [] [.mk 1 [fPF] [] z06,.mk 1 [fQF] [] z06] z06:=rfl
theorem xP_is : toX 2 xP = .mk 1 [fPF] [] z06:=rfl
theorem shows_cut (hold : F → Int → Bool) (s : Int × Int) (t u : Int × Int) : z05 hold [(1,1),(1,2)] 2 (toX 2 xC) t u (cutT s.1 s.2) =
 (z07 t s && z07 s u && z5h (hold fPF) [(1,1),(1,2)] t s && z5h (hold fQF) [(1,1),(1,2)] s u):=rfl
theorem shows_one (hold : F → Int → Bool) (t u : Int × Int) : z05 hold [(1,1),(1,2)] 1 (toX 2 xP) t u (1,0,[],[]) = z5h (hold fPF) [(1,1),(1,2)] t u:=rfl
theorem za3 {m d : Nat} {t' : XT m d} {m0 d0 : Nat} {x : XT m0 d0} (ht : toX d t' = toX d0 x) (hc : z0r pqL d0 x = 0) {t u : Int × Int} (h1 : mayP t = true) (h2 : mayP u = true) {n : Nat} {w : PT n} (hw : z0t n w ≤ 4096) :
 z0a pqL d t' [(1,1),(1,2)] t u n w = (z05 (z0v pqL m) [(1,1),(1,2)] n (toX d0 x) t u w,0):=by
 unfold z0a
 rw [z70 pqL ht,hc,if_neg (by simp),if_neg (by decide +kernel),if_neg (by rw [h1,h2]; simp),if_neg (by omega),ht]
theorem cut_many (n p : Int) (s : Int) : z0t 2 ((4,s,[(n,p)],[(1,0,[],[]),(1,0,[],[])]) : PT 2) ≤ 4096:=by
 have h : z0t 2 ((4,s,[(n,p)],[(1,0,[],[]),(1,0,[],[])]) : PT 2) = 3:=by kernel_rfl
 rw [h]; decide
theorem one_many : z0t 1 ((1,0,[],[]) : PT 1) ≤ 4096:=by
 have h : z0t 1 ((1,0,[],[]) : PT 1) = 1:=by kernel_rfl
 rw [h]; decide
theorem cut_is (n p : Int) (r : Bool) (hr : (z07 (1,2) (n,p) && z07 (n,p) (3,2) && (z07 (1,2) (n,p) && !z07 (1,2) (z0i 0) && (if z07 (z0i 0) (n,p) && z07 (1,2) (z0i 1) && !true then false else if z07 (z0i 1) (n,p) && z07 (1,2) (z0i 2) && !false then false else !z07 (z0i 2) (n,p))) &&
 (z07 (n,p) (3,2) && !z07 (n,p) (z0i 0) && (if z07 (z0i 0) (3,2) && z07 (n,p) (z0i 1) && !false then false else if z07 (z0i 1) (3,2) && z07 (n,p) (z0i 2) && !true then false else !z07 (z0i 2) (3,2)))) = r)
 (m d : Nat) (t' : XT m d) (ht : toX d t' = toX 2 xC) : z0a pqL d t' [(1,1),(1,2)] (1,2) (3,2) 2 (cutT n p) = (r,0):=by
 have hx:=z9u (ht.trans xC_is)
 obtain ⟨d1,t1,e1⟩:=hx.2 (.mk 1 [fPF] [] z06) (by simp)
 obtain ⟨d2,t2,e2⟩:=hx.2 (.mk 1 [fQF] [] z06) (by simp)
 have hP:=zaj ((z9u e1).1 fPF (by simp))
 have hQ:=zaj ((z9u e2).1 fQF (by simp))
 rw [za3 (w:=cutT n p) ht z78 (by decide) (by decide) (cut_many n p 0),shows_cut (z0v pqL m) (n,p),atom_two,atom_two]
 rw [show z0v pqL m fPF 1 = true from (hP 1).trans p_one,show z0v pqL m fPF 2 = false from (hP 2).trans p_two,show z0v pqL m fQF 1 = false from (hQ 1).trans q_one,show z0v pqL m fQF 2 = true from (hQ 2).trans q_two]
 rw [← hr]
theorem cutw_two (m d : Nat) (t' : XT m d) (ht : toX d t' = toX 2 xC) : z0a pqL d t' [(1,1),(1,2)] (1,2) (3,2) 2 (cutT 1 1) = (true,0):=cut_is 1 1 true (by decide +kernel) m d t' ht
theorem cutw_one (m d : Nat) (t' : XT m d) (ht : toX d t' = toX 2 xC) : z0a pqL d t' [(1,1),(1,2)] (1,2) (3,2) 2 (cutT 1 2) = (false,0):=cut_is 1 2 false (by decide +kernel) m d t' ht
theorem one_is {t u : Int × Int} (h1 : mayP t = true) (h2 : mayP u = true) (r : Bool) (hr : (z07 t u && !z07 t (z0i 0) && (if z07 (z0i 0) u && z07 t (z0i 1) && !true then false else if z07 (z0i 1) u && z07 t (z0i 2) && !false then false else !z07 (z0i 2) u)) = r)
 (m d : Nat) (t' : XT m d) (ht : toX d t' = toX 2 xP) : z0a pqL d t' [(1,1),(1,2)] t u 1 (1,0,[],[]) = (r,0):=by
 have hP:=zaj ((z9u (ht.trans xP_is)).1 fPF (by simp))
 rw [za3 ht z9t h1 h2 one_many,shows_one,atom_two]
 rw [show z0v pqL m fPF 1 = true from (hP 1).trans p_one,show z0v pqL m fPF 2 = false from (hP 2).trans p_two]
 rw [← hr]
theorem odd_is (m d : Nat) (t' : XT m d) (ht : toX d t' = toX 2 xC) : z0a pqL d t' [(1,1),(1,2)] (1,2) (3,2) 2 ((4,1,[(1,1)],[(1,0,[],[]),(1,0,[],[])]) : PT 2) = (false,0):=by
 rw [za3 ht z78 (by decide) (by decide) (cut_many 1 1 1)]
 rfl
open Go.RowKit
theorem za9 : okT 1 ((1,0,[],[]) : PT 1):=⟨fun x hx => by simp at hx,by decide,fun y hy => by simp at hy⟩
theorem okT_cut (s n p : Int) (h : in64 n) : okT 2 ((4,s,[(n,p)],[(1,0,[],[]),(1,0,[],[])]) : PT 2):=by
 refine ⟨fun x hx => ?_,(show (1 : Nat) ≤ 100000 by decide),fun y hy => ?_⟩
 ·have : x = (n,p):=by simpa using hx
  rw [this]; exact h
 ·cases hy with
  | head => exact za9
  | tail _ hy => cases hy with
   | head => exact za9
   | tail _ hy => cases hy
theorem z12 {x : Int} (h : -100 ≤ x ∧ x ≤ 100) : in64 x:=⟨by omega,by omega⟩
theorem z5d (w : World) (hr : Rdy w) : Calls Tryz.prog 29 #[] w fun e w' => e = .returned (.bool true) ∧ Below w.heap.size w w':=by
 have HR:=Jh hr
 clear hr
 go_enter Tryz.func29,Tryz.ntmps29
 go_wp2_with fail
 refine (z7y ofT_2 w).mono ?_
 rintro e w1 ⟨v1,rfl,hb1,hp1⟩
 have HB1:=Jh hb1
 have HP1:=Jh hp1
 clear hb1 hp1
 go_wp2_with fail
 refine (z30 sC xC sC_cut sC_all z78 ofT_1 ofT_3 (z12 (by decide)) (z12 (by decide)) (cutT 1 1) v1 true cutw_two w1 (HR.out.below HB1.out) HP1.out (okT_cut _ _ _ (z12 (by decide)))).mono ?_
 rintro e w2 ⟨rfl,hb2⟩
 have HB2:=Jh (HB1.out.trans (hb2.mono HB1.out.size))
 clear hb2 HB1 HP1
 go_wp2_with fail
 refine (z7y ofT_1 w2).mono ?_
 rintro e w3 ⟨v3,rfl,hb3,hp3⟩
 have HB3:=Jh (HB2.out.trans (hb3.mono HB2.out.size))
 have HP3:=Jh hp3
 clear hb3 hp3 HB2
 go_wp2_with fail
 refine (z30 sC xC sC_cut sC_all z78 ofT_1 ofT_3 (z12 (by decide)) (z12 (by decide)) (cutT 1 2) v3 false cutw_one w3 (HR.out.below HB3.out) HP3.out (okT_cut _ _ _ (z12 (by decide)))).mono ?_
 rintro e w4 ⟨rfl,hb4⟩
 have HB4:=Jh (HB3.out.trans (hb4.mono HB3.out.size))
 clear hb4 HB3 HP3
 go_wp2_with fail
 all_goals go_ret
 all_goals exact ⟨rfl,HB4.out⟩
end Go.Proofs.YtockinpjfhhkoaaGreatDoor
