/- Proofs of matches: checker.shows, of whatever expression and proof. -/
import Derived.Test.YtockinpjfhhkoaaGreatDoorZ45
import Derived.Deep.RegionHeld
import Derived.Deep.Cut
import Derived.LoopTactic
import Derived.Test.YtockinpjfhhkoaaGreatDoorZ27
import Derived.Test.YtockinpjfhhkoaaGreatDoorZ21
import Derived.Test.YtockinpjfhhkoaaGreatDoorZ02
set_option maxRecDepth 100000
set_option maxHeartbeats 16000000
open Go.Lib renaming cell_of_heap → Jc, hid → Jh
open Go.RowKit.Below renaming heap_alloc → Jb
namespace Go.Proofs.YtockinpjfhhkoaaGreatDoor
open Go.RowKit
theorem RatsRep.up {w w' : World} {B B' : Nat} (hb : Below B w w') (hB : B ≤ B') {v : Value} {l : List (Int × Int)} (h : RatsRep w B v l) : RatsRep w' B' v l:=by
 obtain ⟨ra,rc,rv,rm,hr⟩:=h
 refine ⟨ra,rc,rv,rm,?_⟩
 rcases hr with hr | ⟨b,off,ha,hlt,hc⟩
 ·exact .inl hr
 ·exact .inr ⟨b,off,ha,Nat.lt_of_lt_of_le hlt hB,fun i hi => ⟨(hb.cell (p:=⟨b,_,none⟩) hlt).trans (hc i hi).1,(hb.cell (p:=⟨b,_,none⟩) hlt).trans (hc i hi).2⟩⟩
theorem right_len {m : Nat} {k : Int} {is : List (FT m)} {n : Nat} {i : Spn} (h : z02 k is n i = true) : (1 ≤ k ∧ k ≤ 6) ∧ n = z0m k ∧ (k = 1 → is.length = 1):=by
 unfold z02 at h
 simp only [Bool.and_eq_true,decide_eq_true_eq,beq_iff_eq] at h
 obtain ⟨⟨⟨⟨⟨h1,h2⟩,h3⟩,_⟩,_⟩,h6⟩:=h
 refine ⟨⟨h1,h2⟩,h3,fun hk => ?_⟩
 rw [if_pos hk] at h6
 simp only [Bool.and_eq_true,beq_iff_eq] at h6
 exact h6.1
theorem open_span_in {m : Nat} {is : List (FT m)} {n : Nat} {i : Spn} (h : z11 6 is n i = true) : ivR i = 0:=by
 unfold z11 at h
 simpa using h
theorem shows53_any {names : List ByteArray} {m : Nat} {nv : Value} {la : Option Addr} {lc : Nat} {l : List (Int × Int)} (hns : ∀ s ∈ names,s.size ≤ 1048576) (hsum : SumOk l) : ∀ n d,ShowsC names m nv la lc l d n:=by
 intro n
 induction n with
 | zero => intro d x xv a p b q t wv W _ _ _ _ hp; exact hp.elim
 | succ n ih =>
  intro d x xv a p b q t wv W he hx hrx hox hp hok ht hu ia ib
  cases d with
  | zero => exact hx.elim
  | succ d =>
  obtain ⟨k,is,of,i⟩:=x
  obtain ⟨wk,sd,ats,ps⟩:=t
  obtain ⟨a1,c1,a2,c2,rfl,hf1,hx2⟩:=hx
  obtain ⟨va,a4,c4,rfl,hm4,hra,hpr⟩:=hp
  have hra':=hra
  obtain ⟨a3,c3,rfl,hm3,_⟩:=hra'
  obtain ⟨his,hlen,hps⟩:=hok
  have hr1 : z02 k is of.length i = true ∧ of.all (allX z02 d) = true:=by
   have h : (z02 k is of.length i && of.all (allX z02 d)) = true:=hrx
   simpa using h
  have ho1 : z11 k is of.length i = true ∧ of.all (allX z11 d) = true:=by
   have h : (z11 k is of.length i && of.all (allX z11 d)) = true:=hox
   simpa using h
  dsimp only at hf1 hx2 hm4 hra hpr hm3 his hlen hps
  have hX : toX (d + 1) (k,is,of,i) = .mk k (is.map (toF m)) (of.map (toX d)) i:=rfl
  rw [hX,z6c]
  by_cases hk : wk = k
  rotate_left
  ·have hk' : (wk == k) = false:=by simpa using hk
   rw [step_no _ _ _ hk']
   exact shows_no nv la l.length lc k a1 a2 a3 a4 is.length of.length ats.length ps.length c1 c2 c3 c4 i a p b q wk sd W hk'
  subst hk
  obtain ⟨⟨k1,k2⟩,hl,hf⟩:=right_len hr1.1
  have hpr2 : PRow W W.heap.size n a4 ps:=hpr
  have hcase : wk = 1 ∨ wk = 2 ∨ wk = 3 ∨ wk = 4 ∨ wk = 5 ∨ wk = 6:=by omega
  rcases hcase with rfl | rfl | rfl | rfl | rfl | rfl
  ·obtain ⟨f,rfl⟩:=z64 (hf rfl)
   rw [List.map_cons,List.map_nil,step1 _ _ _ _ _ _ _ _ _ _ _ _ _ rfl rfl,holdE_at]
   exact shows_k1 nv la l.length lc a1 a2 a3 a4 1 of.length ats.length ps.length c1 c2 c3 c4 i a p b q sd W _ (fun W' h =>
    atom171_any names nv hns f 1 a1 a2 c1 of.length c2 i.low i.high i.ls i.hs i.op la lc l a p b q 1 sd a3 a4 ats.length ps.length c3 c4 W' (he.up h).1 (he.up h).2.1 (FRow.up hf1 h h.size) (he.up h).2.2 hsum ia ib)
  ·obtain ⟨x1,x2,rfl⟩:=z4j of hl
   obtain ⟨r1,r2⟩:=z5h hr1.2
   obtain ⟨o1,o2⟩:=z5h ho1.2
   rw [List.map_cons,List.map_cons,List.map_nil,step2]
   exact shows_k2 nv la l.length lc a1 a2 a3 a4 is.length 2 ats.length ps.length c1 c2 c3 c4 i a p b q sd W _ (fun W' h =>
    or172_any (ih d) 2 is.length i x1 x2 a p b q 2 sd ats ps ats.length ps.length rfl rfl a1 a2 a3 a4 c1 c2 c3 c4 W' (he.up h) (XRow.up hx2 h h.size) r1 r2 o1 o2 (hpr2.up h h.size) hps ht hu ia ib)
  ·obtain ⟨x1,x2,rfl⟩:=z4j of hl
   obtain ⟨r1,r2⟩:=z5h hr1.2
   obtain ⟨o1,o2⟩:=z5h ho1.2
   rw [List.map_cons,List.map_cons,List.map_nil,step3]
   exact shows_k3 nv la l.length lc a1 a2 a3 a4 is.length 2 ats.length ps.length c1 c2 c3 c4 i a p b q sd W _ (fun W' h =>
    and173_any (ih d) 3 is.length i x1 x2 a p b q 3 sd ats ps ats.length ps.length rfl rfl a1 a2 a3 a4 c1 c2 c3 c4 W' (he.up h) (XRow.up hx2 h h.size) r1 r2 o1 o2 (hpr2.up h h.size) hps ht hu ia ib)
  ·obtain ⟨x1,x2,rfl⟩:=z4j of hl
   obtain ⟨r1,r2⟩:=z5h hr1.2
   obtain ⟨o1,o2⟩:=z5h ho1.2
   rw [List.map_cons,List.map_cons,List.map_nil,step4]
   exact shows_k4 nv la l.length lc a1 a2 a3 a4 is.length 2 ats.length ps.length c1 c2 c3 c4 i a p b q sd W _ (fun W' h =>
    cat174_any (ih d) 4 is.length i x1 x2 a p b q 4 sd ats ps ats.length ps.length rfl rfl a1 a2 a3 a4 c1 c2 c3 c4 W' (he.up h) (XRow.up hx2 h h.size) r1 r2 o1 o2 (hra.up h h.size) his (hpr2.up h h.size) hps ht hu ia ib)
  ·obtain ⟨x1,rfl⟩:=z64 (l:=of) hl
   have r1:=all_one hr1.2
   have o1:=all_one ho1.2
   rw [List.map_cons,List.map_nil,step5]
   exact shows_k5 nv la l.length lc a1 a2 a3 a4 is.length 1 ats.length ps.length c1 c2 c3 c4 i a p b q sd W _ (fun W' h =>
    plus175_any (ih d) 5 is.length i x1 a p b q 5 sd ats ps ats.length ps.length rfl rfl a1 a2 a3 a4 c1 c2 c3 c4 W' (he.up h) (XRow.up hx2 h h.size) r1 o1 (hra.up h h.size) his hlen (hpr2.up h h.size) hps ht hu ia ib)
  ·obtain ⟨x1,rfl⟩:=z64 (l:=of) hl
   have r1:=all_one hr1.2
   have o1:=all_one ho1.2
   obtain ⟨b1,b2,b3,b4⟩:=span_in (open_span_in ho1.1)
   rw [List.map_cons,List.map_nil,step6]
   exact shows_k6 nv la l.length lc a1 a2 a3 a4 is.length 1 ats.length ps.length c1 c2 c3 c4 i a p b q sd W _ (fun W' h =>
    timed176_any (ih d) 6 is.length i.low i.ls i.high i.hs i.op x1 a p b q 6 sd ats ps ats.length ps.length rfl rfl a1 a2 a3 a4 c1 c2 c3 c4 W' (he.up h) (XRow.up hx2 h h.size) r1 o1 b1 b2 b3 b4 (hpr2.up h h.size) hps ht hu ia ib)
open Go.RowKit
theorem z38 : ∀ (l : List (Int × Int)) (a : Int),sumG a l = a + sumL l
 | [],a => by show a = a + 0; omega
 | x :: r,a => by
  show sumG (a + x.1) r = a + (x.1 + sumL r)
  rw [z38 r]; omega
theorem sumL_take {l : List (Int × Int)} (h : Long1 l) (k : Nat) : 0 ≤ sumL (l.take k) ∧ sumL (l.take k) ≤ sumL l:=by
 have h1 : Long1 (l.take k):=fun s hs => h s (List.mem_of_mem_take hs)
 have h2 : Long1 (l.drop k):=fun s hs => h s (List.mem_of_mem_drop hs)
 have e:=z38 l 0
 rw [← List.take_append_drop k l] at e
 unfold sumG at e
 rw [List.foldl_append] at e
 have e1:=z38 (l.take k) 0
 have e2:=z38 (l.drop k) (sumG 0 (l.take k))
 unfold sumG at e1 e2
 rw [e2,e1,List.take_append_drop] at e
 have:=z1s h1
 have:=z1s h2
 omega
theorem sumOk_of {p : Int} {l : List (Int × Int)} (hr : ∀ s ∈ l,InR s) (hc : z0p p l = 0) : SumOk l:=by
 obtain ⟨h1,h2,_⟩:=good_of hr hc
 intro k _
 rw [z38]
 have:=sumL_take h1 k
 omega
theorem Segs.inR {w : World} {B : Nat} {v : Value} {l : List (Int × Int)} (h : Segs w B v l) : ∀ s ∈ l,InR s:=by
 obtain ⟨_,_,_,_,_,hr⟩:=h
 exact fun s hs => hr s hs
noncomputable def z1o (names : List ByteArray) {m : Nat} (d : Nat) (x : XT m d) (l : List (Int × Int)) (t u : Int × Int) (n : Nat) (w : PT n) : Bool × Int :=
 if z0z names d x ≠ 0 then (false,z0z names d x) else if z0p names.length l ≠ 0 then (false,z0p names.length l)
 else if mayP t = false ∨ mayP u = false then (false,2) else if 4096 < z2f n w then (false,4) else (z08 (z09 names m) l n (toX d x) t u w,0)
theorem check21_any (names : List ByteArray) (nv lv : Value) (hns : ∀ s ∈ names,s.size ≤ 1048576) {m d : Nat} (x : XT m d) (xv : Value) (l : List (Int × Int)) (a p b q : Int) {n : Nat} (t : PT n) (wv : Value) (w : World)
 (hr : Rdy w) (hn : NRep w w.heap.size nv names) (hx : XRep w w.heap.size m d x xv) (hl : Segs w w.heap.size lv l) (hp : PRep w w.heap.size n t wv) (hok : okT n t) (ia : in64 a) (ib : in64 b) :
 Calls Tryz.prog 21 #[nv,xv,lv,.agg #[.int .i64 a,.int .i64 p,.int .i64 b,.int .i64 q],wv] w fun e w' => e = .returned (.tuple #[.bool (z1o names d x l (a,p) (b,q) n t).1,.int .i64 (z1o names d x l (a,p) (b,q) n t).2]) ∧ Below w.heap.size w w':=by
 obtain ⟨k,a1,n1,c1,a2,n2,c2,lo,ls,hi,hs,op,rfl⟩:=hx.shape
 obtain ⟨wk,sd,a3,l3,c3,a4,l4,c4,rfl⟩:=hp.shape
 obtain ⟨na,nc,rfl,_⟩:=id hn
 obtain ⟨la,lc,rfl,_⟩:=id hl
 obtain ⟨WB,hWWB⟩ : ∃ WB,WB = ((w.alloc (.cells #[.int .u8 k,.slice a1 n1 c1,.slice a2 n2 c2,.int .i64 lo,.bool ls,.int .i64 hi,.bool hs,.bool op] 47)).alloc (.cells #[.int .i64 a,.int .i64 p,.int .i64 b,.int .i64 q] 52)).alloc (.cells #[.int .u8 wk,.int .u8 sd,.slice a3 l3 c3,.slice a4 l4 c4] 56):=⟨_,rfl⟩
 have hbWB : Below w.heap.size w WB:=by rw [hWWB]; exact ((z0c _ _).alloc (by simp <;> omega) _).alloc (by simp <;> omega) _
 have hx0 : WB.heap[w.heap.size]? = some (.cells #[.int .u8 k,.slice a1 n1 c1,.slice a2 n2 c2,.int .i64 lo,.bool ls,.int .i64 hi,.bool hs,.bool op] 47 (0,0)):=by rw [hWWB]; exact (Jb _ _ _ (by simp <;> omega)).trans ((Jb _ _ _ (by simp <;> omega)).trans (z03 rfl))
 have hx1 : WB.heap[w.heap.size + 1]? = some (.cells #[.int .i64 a,.int .i64 p,.int .i64 b,.int .i64 q] 52 (0,0)):=by rw [hWWB]; exact (Jb _ _ _ (by simp <;> omega)).trans (z03 (by simp))
 have hx2 : WB.heap[w.heap.size + 1 + 1]? = some (.cells #[.int .u8 wk,.int .u8 sd,.slice a3 l3 c3,.slice a4 l4 c4] 56 (0,0)):=by rw [hWWB]; exact z03 (by simp)
 have HX : Hid (∀ W,Below WB.heap.size WB W → W.heap[w.heap.size]? = some (.cells #[.int .u8 k,.slice a1 n1 c1,.slice a2 n2 c2,.int .i64 lo,.bool ls,.int .i64 hi,.bool hs,.bool op] 47 (0,0)) ∧ W.heap[w.heap.size + 1]? = some (.cells #[.int .i64 a,.int .i64 p,.int .i64 b,.int .i64 q] 52 (0,0)) ∧ W.heap[w.heap.size + 1 + 1]? = some (.cells #[.int .u8 wk,.int .u8 sd,.slice a3 l3 c3,.slice a4 l4 c4] 56 (0,0))):=fun W hW => ⟨(hW.block _ (Array.getElem?_eq_some_iff.1 hx0).1).trans hx0,(hW.block _ (Array.getElem?_eq_some_iff.1 hx1).1).trans hx1,(hW.block _ (Array.getElem?_eq_some_iff.1 hx2).1).trans hx2⟩
 have HF : Hid (∀ W,Below WB.heap.size WB W → W.cell? ⟨w.heap.size,0,none⟩ = some (.int .u8 k) ∧ W.cell? ⟨w.heap.size,1,none⟩ = some (.slice a1 n1 c1) ∧ W.cell? ⟨w.heap.size,2,none⟩ = some (.slice a2 n2 c2) ∧ W.cell? ⟨w.heap.size,3,none⟩ = some (.int .i64 lo) ∧ W.cell? ⟨w.heap.size,4,none⟩ = some (.bool ls) ∧ W.cell? ⟨w.heap.size,5,none⟩ = some (.int .i64 hi) ∧ W.cell? ⟨w.heap.size,6,none⟩ = some (.bool hs) ∧ W.cell? ⟨w.heap.size,7,none⟩ = some (.bool op) ∧ W.cell? ⟨w.heap.size + 1,0,none⟩ = some (.int .i64 a) ∧ W.cell? ⟨w.heap.size + 1,1,none⟩ = some (.int .i64 p) ∧ W.cell? ⟨w.heap.size + 1,2,none⟩ = some (.int .i64 b) ∧ W.cell? ⟨w.heap.size + 1,3,none⟩ = some (.int .i64 q) ∧ W.cell? ⟨w.heap.size + 1 + 1,0,none⟩ = some (.int .u8 wk) ∧ W.cell? ⟨w.heap.size + 1 + 1,1,none⟩ = some (.int .u8 sd) ∧ W.cell? ⟨w.heap.size + 1 + 1,2,none⟩ = some (.slice a3 l3 c3) ∧ W.cell? ⟨w.heap.size + 1 + 1,3,none⟩ = some (.slice a4 l4 c4) ∧ w.heap.size < W.heap.size ∧ w.heap.size + 1 < W.heap.size ∧ w.heap.size + 1 + 1 < W.heap.size):=by
  intro W hW
  obtain ⟨k0,k1,k2⟩:=HX.out W hW
  exact ⟨Jc k0 0,Jc k0 1,Jc k0 2,Jc k0 3,Jc k0 4,Jc k0 5,Jc k0 6,Jc k0 7,Jc k1 0,Jc k1 1,Jc k1 2,Jc k1 3,Jc k2 0,Jc k2 1,Jc k2 2,Jc k2 3,(Array.getElem?_eq_some_iff.1 k0).1,(Array.getElem?_eq_some_iff.1 k1).1,(Array.getElem?_eq_some_iff.1 k2).1⟩
 have HBB:=Jh hbWB
 have HWB:=Jh hWWB.symm
 clear hWWB hbWB hx0 hx1 hx2
 have HBW : Hid (∀ W,Below WB.heap.size WB W → Below w.heap.size w W):=fun W h => HBB.out.trans (h.mono HBB.out.size)
 have HCK : Hid (∀ W,Below WB.heap.size WB W → Calls Tryz.prog 32 #[.slice na names.length nc,.agg #[.int .u8 k,.slice a1 n1 c1,.slice a2 n2 c2,.int .i64 lo,.bool ls,.int .i64 hi,.bool hs,.bool op]] W fun e w' => e = .returned (.int .i64 (z0z names d x)) ∧ Below W.heap.size W w'):=fun W h => check13_any names _ hns m d x _ W (hr.below (HBW.out W h)) (hn.up (HBW.out W h) (HBW.out W h).size) (hx.up (HBW.out W h) (HBW.out W h).size)
 have HSC : Hid (∀ W,Below WB.heap.size WB W → Calls Tryz.prog 51 #[.int .i64 names.length,.slice la l.length lc] W fun e w' => e = .returned (.int .i64 (z0p names.length l)) ∧ Below W.heap.size W w'):=fun W h => check_any _ _ l W (Segs.mono (HBW.out W h).size (Segs.below (HBW.out W h) hl))
 have HR1:=fun W => Jh (z4a a p W ia)
 have HR2:=fun W => Jh (z4a b q W ib)
 have HMY : Hid (∀ W,Below WB.heap.size WB W → Calls Tryz.prog 31 #[.agg #[.int .u8 wk,.int .u8 sd,.slice a3 l3 c3,.slice a4 l4 c4]] W fun e w' => e = .returned (.int .i64 (z2f n t)) ∧ Below W.heap.size W w'):=fun W h => many_any n t _ W W.heap.size (PRep.up (HBW.out W h) (HBW.out W h).size hp) (Nat.le_refl _)
 have HSH : Hid (z0z names d x = 0 → z0p names.length l = 0 → mayP (a,p) = true → mayP (b,q) = true → ∀ W,Below WB.heap.size WB W → Calls Tryz.prog 53 #[.agg #[.slice na names.length nc,.slice la l.length lc],.agg #[.int .u8 k,.slice a1 n1 c1,.slice a2 n2 c2,.int .i64 lo,.bool ls,.int .i64 hi,.bool hs,.bool op],.agg #[.int .i64 a,.int .i64 p],.agg #[.int .i64 b,.int .i64 q],.agg #[.int .u8 wk,.int .u8 sd,.slice a3 l3 c3,.slice a4 l4 c4]] W fun e w' => e = .returned (.bool (z08 (z09 names m) l n (toX d x) (a,p) (b,q) t)) ∧ Below W.heap.size W w'):=by
  intro h1 h2 h3 h4 W h
  obtain ⟨_,z1,_,_,z2⟩:=z6y.1 h1
  have hb:=HBW.out W h
  exact shows53_any hns (sumOk_of hl.inR h2) n d x _ a p b q t _ W ⟨hr.below hb,hn.up hb hb.size,Segs.mono hb.size (Segs.below hb hl)⟩ (hx.up hb hb.size) z1 z2 (PRep.up hb hb.size hp) hok h3 h4 ia ib
 have HD : Hid (z1o names d x l (a,p) (b,q) n t = if z0z names d x ≠ 0 then (false,z0z names d x) else if z0p names.length l ≠ 0 then (false,z0p names.length l)
  else if mayP (a,p) = false ∨ mayP (b,q) = false then (false,2) else if 4096 < z2f n t then (false,4) else (z08 (z09 names m) l n (toX d x) (a,p) (b,q) t,0)):=rfl
 have HRA : Hid (ratE a p = if mayP (a,p) = true then 0 else 8):=rfl
 have HRB : Hid (ratE b q = if mayP (b,q) = true then 0 else 8):=rfl
 obtain ⟨R,hR⟩ : ∃ R,z08 (z09 names m) l n (toX d x) (a,p) (b,q) t = R:=⟨_,rfl⟩
 obtain ⟨my,hmy⟩ : ∃ my,z2f n t = my:=⟨_,rfl⟩
 obtain ⟨e1,he1⟩ : ∃ e,z0z names d x = e:=⟨_,rfl⟩
 obtain ⟨e2,he2⟩ : ∃ e,z0p names.length l = e:=⟨_,rfl⟩
 obtain ⟨m1,hm1⟩ : ∃ e,mayP (a,p) = e:=⟨_,rfl⟩
 obtain ⟨m2,hm2⟩ : ∃ e,mayP (b,q) = e:=⟨_,rfl⟩
 obtain ⟨r1,hr1⟩ : ∃ e,ratE a p = e:=⟨_,rfl⟩
 obtain ⟨r2,hr2⟩ : ∃ e,ratE b q = e:=⟨_,rfl⟩
 rw [hR,hmy,he1,he2,hm1,hm2] at HD
 rw [hR,he1,he2,hm1,hm2] at HSH
 rw [hmy] at HMY
 rw [he1] at HCK
 rw [he2] at HSC
 rw [hr1] at HR1
 rw [hr2] at HR2
 rw [hr1,hm1] at HRA
 rw [hr2,hm2] at HRB
 clear hR hmy he1 he2 hm1 hm2 hr1 hr2 hr hn hx hl hp hok hns ia ib
 go_enter Tryz.func21,Tryz.ntmps21
 go_upto_region 1 with fail
 rw [HWB.out]
 clear HWB
 obtain ⟨xf0,xf1,xf2,xf3,xf4,xf5,xf6,xf7,xf8,xf9,xf10,xf11,xf12,xf13,xf14,xf15,xf16,xf17,xf18⟩:=HF.out WB (Below.refl _ _)
 go_wp2_with fail
 refine (HCK.out _ (Below.refl WB.heap.size WB)).mono ?_
 rintro e w1 ⟨rfl,hb⟩
 have HBw1 : Hid (Below WB.heap.size WB w1):=belS (Below.refl WB.heap.size WB) hb
 clear hb xf0 xf1 xf2 xf3 xf4 xf5 xf6 xf7 xf8 xf9 xf10 xf11 xf12 xf13 xf14 xf15 xf16 xf17 xf18
 obtain ⟨xf0,xf1,xf2,xf3,xf4,xf5,xf6,xf7,xf8,xf9,xf10,xf11,xf12,xf13,xf14,xf15,xf16,xf17,xf18⟩:=HF.out w1 HBw1.out
 by_cases g1 : e1 = 0
 rotate_left
 ·have d1 : (e1 == 0) = false:=by simpa using g1
  have d2 : (e1 != 0) = true:=by simpa using g1
  have HV : Hid (z1o names d x l (a,p) (b,q) n t = (false,e1)):=by rw [Hid,HD.out,if_pos g1]
  clear g1 HD
  go_wp2_with fail
  all_goals go_ret2
  all_goals exact ⟨by rw [HV.out]; rfl,HBW.out _ (HBw1.out)⟩
 subst g1
 go_wp2_with fail
 refine (HSC.out _ HBw1.out).mono ?_
 rintro e w2 ⟨rfl,hb⟩
 have HBw2 : Hid (Below WB.heap.size WB w2):=belS (HBw1.out) hb
 clear hb xf0 xf1 xf2 xf3 xf4 xf5 xf6 xf7 xf8 xf9 xf10 xf11 xf12 xf13 xf14 xf15 xf16 xf17 xf18
 obtain ⟨xf0,xf1,xf2,xf3,xf4,xf5,xf6,xf7,xf8,xf9,xf10,xf11,xf12,xf13,xf14,xf15,xf16,xf17,xf18⟩:=HF.out w2 HBw2.out
 by_cases g2 : e2 = 0
 rotate_left
 ·have d2 : (e2 != 0) = true:=by simpa using g2
  have HV : Hid (z1o names d x l (a,p) (b,q) n t = (false,e2)):=by rw [Hid,HD.out,if_neg (by simp),if_pos g2]
  clear g2 HD
  go_wp2_with fail
  all_goals go_ret2
  all_goals exact ⟨by rw [HV.out]; rfl,HBW.out _ (HBw2.out)⟩
 subst g2
 go_wp2_with fail
 refine (HR1 _).out.mono ?_
 rintro e w3 ⟨rfl,hb⟩
 have HBw3 : Hid (Below WB.heap.size WB w3):=belS (HBw2.out) hb
 clear hb xf0 xf1 xf2 xf3 xf4 xf5 xf6 xf7 xf8 xf9 xf10 xf11 xf12 xf13 xf14 xf15 xf16 xf17 xf18
 obtain ⟨xf0,xf1,xf2,xf3,xf4,xf5,xf6,xf7,xf8,xf9,xf10,xf11,xf12,xf13,xf14,xf15,xf16,xf17,xf18⟩:=HF.out w3 HBw3.out
 cases m1 with
 | false =>
  obtain rfl : r1 = 8:=HRA.out
  have HV : Hid (z1o names d x l (a,p) (b,q) n t = (false,2)):=by rw [Hid,HD.out,if_neg (by simp),if_neg (by simp),if_pos (.inl rfl)]
  clear HD
  go_wp2_with fail
  all_goals go_ret2
  all_goals exact ⟨by rw [HV.out]; rfl,HBW.out _ (HBw3.out)⟩
 | true =>
 obtain rfl : r1 = 0:=HRA.out
 go_wp2_with fail
 refine (HR2 _).out.mono ?_
 rintro e w4 ⟨rfl,hb⟩
 have HBw4 : Hid (Below WB.heap.size WB w4):=belS (HBw3.out) hb
 clear hb xf0 xf1 xf2 xf3 xf4 xf5 xf6 xf7 xf8 xf9 xf10 xf11 xf12 xf13 xf14 xf15 xf16 xf17 xf18
 obtain ⟨xf0,xf1,xf2,xf3,xf4,xf5,xf6,xf7,xf8,xf9,xf10,xf11,xf12,xf13,xf14,xf15,xf16,xf17,xf18⟩:=HF.out w4 HBw4.out
 cases m2 with
 | false =>
  obtain rfl : r2 = 8:=HRB.out
  have HV : Hid (z1o names d x l (a,p) (b,q) n t = (false,2)):=by rw [Hid,HD.out,if_neg (by simp),if_neg (by simp),if_pos (.inr rfl)]
  clear HD
  go_wp2_with fail
  all_goals go_ret2
  all_goals exact ⟨by rw [HV.out]; rfl,HBW.out _ (HBw4.out)⟩
 | true =>
 obtain rfl : r2 = 0:=HRB.out
 go_wp2_with fail
 refine (HMY.out _ HBw4.out).mono ?_
 rintro e w5 ⟨rfl,hb⟩
 have HBw5 : Hid (Below WB.heap.size WB w5):=belS (HBw4.out) hb
 clear hb xf0 xf1 xf2 xf3 xf4 xf5 xf6 xf7 xf8 xf9 xf10 xf11 xf12 xf13 xf14 xf15 xf16 xf17 xf18
 obtain ⟨xf0,xf1,xf2,xf3,xf4,xf5,xf6,xf7,xf8,xf9,xf10,xf11,xf12,xf13,xf14,xf15,xf16,xf17,xf18⟩:=HF.out w5 HBw5.out
 by_cases g5 : 4096 < my
 ·have d5 : decide (4096 < my) = true:=by simpa using g5
  have HV : Hid (z1o names d x l (a,p) (b,q) n t = (false,4)):=by rw [Hid,HD.out,if_neg (by simp),if_neg (by simp),if_neg (by simp),if_pos g5]
  clear HD g5
  go_wp2_with fail
  all_goals go_ret2
  all_goals exact ⟨by rw [HV.out]; rfl,HBW.out _ (HBw5.out)⟩
 have d5 : decide (4096 < my) = false:=by simpa using g5
 have HV : Hid (z1o names d x l (a,p) (b,q) n t = (R,0)):=by rw [Hid,HD.out,if_neg (by simp),if_neg (by simp),if_neg (by simp),if_neg g5]
 clear HD g5
 go_wp2_with fail
 refine (HSH.out (by trivial) (by trivial) (by trivial) (by trivial) _ HBw5.out).mono ?_
 rintro e w6 ⟨rfl,hb⟩
 have HBw6 : Hid (Below WB.heap.size WB w6):=belS (HBw5.out) hb
 clear hb xf0 xf1 xf2 xf3 xf4 xf5 xf6 xf7 xf8 xf9 xf10 xf11 xf12 xf13 xf14 xf15 xf16 xf17 xf18
 obtain ⟨xf0,xf1,xf2,xf3,xf4,xf5,xf6,xf7,xf8,xf9,xf10,xf11,xf12,xf13,xf14,xf15,xf16,xf17,xf18⟩:=HF.out w6 HBw6.out
 go_wp2_with fail
 all_goals go_ret2
 all_goals exact ⟨by rw [HV.out]; rfl,HBW.out _ (HBw6.out)⟩
end Go.Proofs.YtockinpjfhhkoaaGreatDoor
