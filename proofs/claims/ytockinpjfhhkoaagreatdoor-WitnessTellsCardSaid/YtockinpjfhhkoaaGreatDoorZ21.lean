/- Layer 16 walked: what Check hands on; Formula; Check. -/
import Derived.Test.YtockinpjfhhkoaaGreatDoorZ20
import Derived.Test.YtockinpjfhhkoaaGreatDoorZ07
import Derived.StillTailTactics
import Derived.Deep.RegionHeld3
import Derived.Deep.RegionLaw
set_option maxRecDepth 100000
set_option maxHeartbeats 16000000
open Go.Lib renaming cell_of_heap → Jc, hid → Jh
namespace Go.Proofs.YtockinpjfhhkoaaGreatDoor
open Go.RowKit
theorem open38_any (m : Nat) (k : Int) (is : List (FT m)) (a1 : Option Addr) (c1 : Nat) (a : Option Addr) (l c : Nat) (lo hi : Int) (ls hs op : Bool) (w : World) :
 Calls Tryz.prog 75 #[.agg #[.int .u8 k,.slice a1 is.length c1,.slice a l c,.int .i64 lo,.bool ls,.int .i64 hi,.bool hs,.bool op]] w fun e w' => e = .returned (.bool (z11 k is l ⟨lo,ls,hi,hs,op⟩)) ∧ Below w.heap.size w w':=by
 have hb : Below w.heap.size w (w.alloc (.cells #[.int .u8 k,.slice a1 is.length c1,.slice a l c,.int .i64 lo,.bool ls,.int .i64 hi,.bool hs,.bool op] 47)):=(Below.refl _ _).alloc (Nat.le_refl _) _
 have HI:=Jh (z4m ⟨lo,ls,hi,hs,op⟩)
 have HE : Hid (z11 k is l ⟨lo,ls,hi,hs,op⟩ = (k != 6 || ivR ⟨lo,ls,hi,hs,op⟩ == 0)):=rfl
 unfold Spn.val at HI
 dsimp only at HI
 generalize ivR ⟨lo,ls,hi,hs,op⟩ = iv at HI HE
 have HB:=Jh hb
 clear hb
 cases q : k != 6 with
 | true =>
  have HQ:=Jh q
  go_enter Tryz.func75,Tryz.ntmps75
  go_wp2_with fail
  all_goals go_ret
  all_goals exact ⟨z01 (by rw [HE.out,HQ.out]; rfl),HB.out⟩
 | false =>
  have HQ:=Jh q
  go_enter Tryz.func75,Tryz.ntmps75
  go_wp2_with fail
  refine (HI.out _).mono ?_
  rintro e w1 ⟨rfl,hb1⟩
  have HB1:=Jh (HB.out.trans (hb1.mono HB.out.size))
  clear hb1
  go_wp2_with fail
  all_goals go_ret
  all_goals exact ⟨z01 (by rw [HE.out,HQ.out]; rfl),HB1.out⟩
theorem so38 {m : Nat} (w : World) : SoX (m:=m) w 75 #[] z11:=by
 intro n
 refine ⟨z2g Tryz.func75 (by kernel_rfl) (by kernel_rfl),fun t v w' hb' hr => ?_⟩
 obtain ⟨k,is,of,lo,ls,hi,hs,op⟩:=t
 obtain ⟨a1,c1,a,c,rfl,_,_⟩:=hr
 exact open38_any m k is a1 c1 a of.length c lo hi ls hs op w'
def Known (w : World) (names : List ByteArray) (b b0 : Nat) : Prop :=
 ∃ nv,b < w.heap.size ∧ b0 < w.heap.size ∧ w.cell? ⟨b,0,none⟩ = some (.func (.func 130) #[] #[.pointer (some ⟨b0,0,none⟩)]) ∧ w.cell? ⟨b0,0,none⟩ = some nv ∧ NRep w w.heap.size nv names
theorem Known.up {w w' : World} {names : List ByteArray} {b b0 : Nat} (h : Known w names b b0) (hb : Below w.heap.size w w') : Known w' names b b0:=by
 obtain ⟨nv,h1,h2,h3,h4,h5⟩:=h
 have hz:=hb.size
 exact ⟨nv,by omega,by omega,(hb.cell (p:=⟨b,0,none⟩) h1).trans h3,(hb.cell (p:=⟨b0,0,none⟩) h2).trans h4,h5.up hb hz⟩
theorem not37_any (names : List ByteArray) (b b0 n : Nat) (t : FT n) (v : Value) (w : World) (h : Known w names b b0) (hr : FRep w w.heap.size n t v) :
 Calls Tryz.prog 74 #[v,.pointer (some ⟨b,0,none⟩)] w fun e w' => e = .returned (.bool (!allF (z0g names) n t)) ∧ Below w.heap.size w w':=by
 obtain ⟨k,s,a,l,c,rfl⟩:=hr.shape
 have hbw : Below w.heap.size w (w.alloc (.cells #[.int .u8 k,.string s,.slice a l c] 25)):=(Below.refl _ _).alloc (Nat.le_refl _) _
 obtain ⟨nv,h1,h2,h3,h4,h5⟩:=h.up hbw
 have HD:=Jh (z3u names nv b0 n t _ _ h2 h4 h5 (hr.up hbw hbw.size))
 obtain ⟨_,g1,_,g3,_,_⟩:=h
 have HB:=Jh hbw
 clear h5 hr hbw h1 h2 h3 h4
 go_enter Tryz.func74,Tryz.ntmps74
 go_wp2_with fail
 refine HD.out.mono ?_
 rintro e w1 ⟨rfl,hb1⟩
 have HB1:=Jh (HB.out.trans (hb1.mono HB.out.size))
 clear hb1
 go_wp2_with fail
 all_goals go_ret
 all_goals exact ⟨rfl,HB1.out⟩
theorem names35_any (m : Nat) (names : List ByteArray) (b b0 : Nat) (k : Int) (is : List (FT m)) (a1 : Option Addr) (c1 : Nat) (a : Option Addr) (l c : Nat) (lo hi : Int) (ls hs op : Bool) (w : World) (h : Known w names b b0) (hR : FRow w w.heap.size m a1 is) :
 Calls Tryz.prog 72 #[.agg #[.int .u8 k,.slice a1 is.length c1,.slice a l c,.int .i64 lo,.bool ls,.int .i64 hi,.bool hs,.bool op],.pointer (some ⟨b,0,none⟩)] w fun e w' => e = .returned (.bool (z12 names k is l ⟨lo,ls,hi,hs,op⟩)) ∧ Below w.heap.size w w':=by
 have hmf : ∀ (fn : Fn) (first cap : Array Value) (w : World),(Instr.makeFunc fn first cap).run Tryz.prog w = .ok (.func fn first cap) w:=fun _ _ _ _ => rfl
 have hb : Below w.heap.size w (w.alloc (.cells #[.int .u8 k,.slice a1 is.length c1,.slice a l c,.int .i64 lo,.bool ls,.int .i64 hi,.bool hs,.bool op] 47)):=(Below.refl _ _).alloc (Nat.le_refl _) _
 have HC:=Jh (z3v m is a1 c1 74 #[.pointer (some ⟨b,0,none⟩)] (fun f => !allF (z0g names) m f) _ (FRow.up hR hb hb.size)
  ⟨z2g Tryz.func74 (by kernel_rfl) (by kernel_rfl),fun t v w' hb' hr => not37_any names b b0 m t v w' ((h.up hb).up hb') hr⟩)
 have HE : Hid (z12 names k is l ⟨lo,ls,hi,hs,op⟩ = !(is.any fun f => !allF (z0g names) m f)):=by rw [Hid]; unfold z12; rw [List.all_eq_not_any_not]
 have HB:=Jh hb
 clear hb hR h
 go_enter Tryz.func72,Tryz.ntmps72
 go_wp2_with fail
 refine HC.out.mono ?_
 rintro e w1 ⟨rfl,hb1⟩
 have HB1:=Jh (HB.out.trans (hb1.mono HB.out.size))
 clear hb1
 go_wp2_with fail
 all_goals go_ret
 all_goals exact ⟨z01 (by rw [HE.out]),HB1.out⟩
theorem so35 {m : Nat} (names : List ByteArray) (b b0 : Nat) (w : World) (h : Known w names b b0) : SoX (m:=m) w 72 #[.pointer (some ⟨b,0,none⟩)] (z12 names):=by
 intro n
 refine ⟨z2g Tryz.func72 (by kernel_rfl) (by kernel_rfl),fun t v w' hb' hr => ?_⟩
 obtain ⟨k,is,of,lo,ls,hi,hs,op⟩:=t
 obtain ⟨a1,c1,a,c,rfl,hR,_⟩:=hr
 exact names35_any m names b b0 k is a1 c1 a of.length c lo hi ls hs op w' (h.up hb') hR
open Go.RowKit
attribute [local go_sem ↓] Go.wp_at_zero Go.wp_at_succ
theorem box_cells3 {W w1 : World} {x y z : Value} {t : TypeId} (hb : Below (W.alloc (.cells #[x,y,z] t)).heap.size (W.alloc (.cells #[x,y,z] t)) w1) :
 w1.cell? ⟨W.heap.size,0,none⟩ = some x ∧ w1.cell? ⟨W.heap.size,1,none⟩ = some y ∧ w1.cell? ⟨W.heap.size,2,none⟩ = some z ∧ W.heap.size < w1.heap.size:=by
 have h : w1.heap[W.heap.size]? = some (.cells #[x,y,z] t (0,0)):=by rw [hb.block _ (by simp)]; exact Array.getElem?_push_size
 exact ⟨Jc h 0,Jc h 1,Jc h 2,(Array.getElem?_eq_some_iff.1 h).1⟩
open Go.RowKit
attribute [local go_sem ↓] Go.wp_at_zero Go.wp_at_succ
theorem formula16_any (names : List ByteArray) (nv : Value) (hs : ∀ s ∈ names,s.size ≤ 1048576) (n : Nat) (t : FT n) (v : Value) (w : World) (hr : Rdy w) (hn : NRep w w.heap.size nv names) (hf : FRep w w.heap.size n t v) :
 Calls Tryz.prog 85 #[nv,v] w fun e w' => e = .returned (.int .i64 (fmlR names n t)) ∧ Below w.heap.size w w':=by
 obtain ⟨k,s,a,l,c,rfl⟩:=hf.shape
 have hb : Below w.heap.size w (w.alloc (.cells #[.int .u8 k,.string s,.slice a l c] 25)):=(Below.refl _ _).alloc (Nat.le_refl _) _
 have HN:=Jh (z6i names nv hs _ (hr.below hb) (hn.up hb hb.size))
 have HB:=Jh hb
 have HF:=Jh hf
 have HNR:=Jh hn
 have hshape:=hn
 obtain ⟨na,nc,hnv,_⟩:=hshape
 have HE : Hid (fmlR names n t = if z0r names ≠ 0 then 2 else if allF z04 n t = false then 8 else if 64 < fmsC n [t] then 160 else if allF (z0g names) n t = false then 161 else 0):=rfl
 clear hr hs hb hf hn
 subst hnv
 by_cases h1 : z0r names = 0
 ·have q1 : (z0r names != 0) = false:=by simp [h1]
  have HB1 : Hid (∀ w1,Below (w.alloc (.cells #[.int .u8 k,.string s,.slice a l c] 25)).heap.size (w.alloc (.cells #[.int .u8 k,.string s,.slice a l c] 25)) w1 → Below w.heap.size w w1 ∧ w1.cell? ⟨w.heap.size,0,none⟩ = some (.int .u8 k) ∧ w1.cell? ⟨w.heap.size,1,none⟩ = some (.string s) ∧ w1.cell? ⟨w.heap.size,2,none⟩ = some (.slice a l c) ∧ w.heap.size < w1.heap.size) :=
   fun w1 hb1 => ⟨HB.out.trans (hb1.mono HB.out.size),box_cells3 hb1⟩
  rw [if_neg (by simp [h1])] at HE
  clear h1
  cases h2 : allF z04 n t with
  | false =>
   have H2:=Jh h2
   go_enter Tryz.func85,Tryz.ntmps85
   go_wp2_with fail
   refine HN.out.mono ?_
   rintro e w1 ⟨rfl,hb1⟩
   obtain ⟨hbw,x0,x1,x2,hz⟩:=HB1.out w1 hb1
   have HA:=Jh (z4t z04 140 #[] n t _ w1 (HF.out.up hbw hbw.size) (so44 _))
   have HBW:=Jh hbw
   rw [h2] at HA
   clear hb1 hbw h2
   go_wp2_with fail
   refine HA.out.mono ?_
   rintro e w2 ⟨rfl,hb2⟩
   have HBW2:=Jh (HBW.out.trans (hb2.mono HBW.out.size))
   clear hb2
   go_wp2_with fail
   all_goals go_ret
   all_goals exact ⟨z0u (by rw [HE.out,H2.out]; rfl),HBW2.out⟩
  | true =>
   have H2:=Jh h2
   go_enter Tryz.func85,Tryz.ntmps85
   go_wp2_with fail
   refine HN.out.mono ?_
   rintro e w1 ⟨rfl,hb1⟩
   obtain ⟨hbw,x0,x1,x2,hz⟩:=HB1.out w1 hb1
   have HA:=Jh (z4t z04 140 #[] n t _ w1 (HF.out.up hbw hbw.size) (so44 _))
   have HBW:=Jh hbw
   rw [h2] at HA
   clear hb1 hbw h2
   go_wp2_with fail
   refine HA.out.mono ?_
   rintro e w2 ⟨rfl,hb2⟩
   have hbw2:=HBW.out.trans (hb2.mono HBW.out.size)
   have HBW2:=Jh hbw2
   have y0:=(hb2.cell (p:=⟨w.heap.size,0,none⟩) hz).trans x0
   have y1:=(hb2.cell (p:=⟨w.heap.size,1,none⟩) hz).trans x1
   have y2:=(hb2.cell (p:=⟨w.heap.size,2,none⟩) hz).trans x2
   have hz2 : w.heap.size < w2.heap.size:=by have:=hb2.size; omega
   have hb3 : Below w2.heap.size w2 (w2.alloc (.cells #[.int .u8 k,.string s,.slice a l c] 25)):=(Below.refl _ _).alloc (Nat.le_refl _) _
   have hrow : FRow (w2.alloc (.cells #[.int .u8 k,.string s,.slice a l c] 25)) (w2.alloc (.cells #[.int .u8 k,.string s,.slice a l c] 25)).heap.size n (some ⟨w2.heap.size,0,none⟩) [t]:=by
    refine ⟨by simp,.inr ⟨w2.heap.size,0,rfl,by simp,fun i hi => ?_⟩⟩
    obtain rfl : i = 0:=by simpa using hi
    refine ⟨[.int .u8 k,.string s,.slice a l c],rfl,fun j hj => ?_,HF.out.up (hbw2.trans (hb3.mono hbw2.size)) (by simp; omega)⟩
    rw [World.cell?_alloc_at _ _ _ _ rfl]
    simp
   have HFM:=Jh (z3t n [t] _ 1 _ hrow)
   have HB3 : Hid (∀ w3,Below (w2.alloc (.cells #[.int .u8 k,.string s,.slice a l c] 25)).heap.size (w2.alloc (.cells #[.int .u8 k,.string s,.slice a l c] 25)) w3 → Below w2.heap.size w2 w3):=fun w3 h => hb3.trans (h.mono hb3.size)
   clear hb2 hbw2 x0 x1 x2 hz hb3 hrow
   go_wp2_with fail
   refine HFM.out.mono ?_
   rintro e w3 ⟨rfl,hb3⟩
   have hb3':=HB3.out w3 hb3
   have hbw3:=HBW2.out.trans (hb3'.mono HBW2.out.size)
   have HBW3:=Jh hbw3
   by_cases h3 : 64 < fmsC n [t]
   ·have H3 : Hid (fmlR names n t = 160):=by rw [Hid,HE.out,H2.out,if_neg (by simp),if_pos h3]
    clear hb3 hb3' hbw3
    go_wp2_with fail
    all_goals go_ret
    all_goals exact ⟨z0u (by rw [H3.out]),HBW3.out⟩
   ·have H3 : Hid (fmlR names n t = if allF (z0g names) n t = false then 161 else 0):=by rw [Hid,HE.out,H2.out,if_neg (by simp),if_neg h3]
    have z0:=(hb3'.cell (p:=⟨w.heap.size,0,none⟩) hz2).trans y0
    have z1:=(hb3'.cell (p:=⟨w.heap.size,1,none⟩) hz2).trans y1
    have z2:=(hb3'.cell (p:=⟨w.heap.size,2,none⟩) hz2).trans y2
    have hz3 : w.heap.size < w3.heap.size:=by have:=hb3'.size; omega
    have HD : Hid (∀ (W : World) (N : Nat),Below w3.heap.size w3 W → W.heap[N]? = some (.cells #[.slice na names.length nc] 22 (0,0)) → N < W.heap.size → Calls Tryz.prog 130 #[.agg #[.int .u8 k,.string s,.slice a l c],.pointer (some ⟨N,0,none⟩)] W fun e w' => e = .returned (.bool (allF (z0g names) n t)) ∧ Below w3.heap.size w3 w'):=by
     intro W N hW hbl hlt
     have hbW:=hbw3.trans (hW.mono hbw3.size)
     exact (z3u names _ N n t _ W hlt (Jc hbl 0) (HNR.out.up hbW hbW.size) (HF.out.up hbW hbW.size)).mono fun e w' h => ⟨h.1,hW.trans (h.2.mono hW.size)⟩
    clear hb3 hb3' hbw3 y0 y1 y2 hz2
    have HD2 : Hid (Calls Tryz.prog 130 #[.agg #[.int .u8 k,.string s,.slice a l c],.pointer (some ⟨w3.heap.size,0,none⟩)] (w3.drew.alloc (.cells #[.slice na names.length nc] 22)) fun e w' => e = .returned (.bool (allF (z0g names) n t)) ∧ Below w3.heap.size w3 w') :=
     HD.out _ _ ((Below.refl _ w3).drew.alloc (Nat.le_refl _) _) (by show (w3.heap.push _)[w3.heap.size]? = _; exact Array.getElem?_push_size) (by show w3.heap.size < (w3.heap.push _).size; simp)
    clear HD
    cases h4 : allF (z0g names) n t with
    | false =>
     have H4 : Hid (fmlR names n t = 161):=by rw [Hid,H3.out,if_pos h4]
     rw [h4] at HD2
     clear h4
     go_wp2_with fail
     go_region_law (first | (go_simp; go_at_call 67; refine (z2p _ _ _ _).mono ?_; rintro e w4 ⟨rfl,rfl⟩) | (go_simp; go_at_call 130; refine HD2.out.mono ?_; rintro e w4 ⟨rfl,hb4⟩))
     all_goals
      have HBW4:=Jh (HBW3.out.trans (hb4.mono HBW3.out.size))
      clear hb4
      go_wp2_with fail
     all_goals go_ret
     all_goals exact ⟨z0u (by rw [H4.out]),HBW4.out⟩
    | true =>
     have H4 : Hid (fmlR names n t = 0):=by rw [Hid,H3.out,if_neg (by simp [h4])]
     rw [h4] at HD2
     clear h4
     go_wp2_with fail
     go_region_law (first | (go_simp; go_at_call 67; refine (z2p _ _ _ _).mono ?_; rintro e w4 ⟨rfl,rfl⟩) | (go_simp; go_at_call 130; refine HD2.out.mono ?_; rintro e w4 ⟨rfl,hb4⟩))
     all_goals
      have HBW4:=Jh (HBW3.out.trans (hb4.mono HBW3.out.size))
      clear hb4
      go_wp2_with fail
     all_goals go_ret
     all_goals exact ⟨z0u (by rw [H4.out]),HBW4.out⟩
 ·have q1 : (z0r names != 0) = true:=by simp [h1]
  have H1 : Hid (fmlR names n t = 2):=by rw [Hid,HE.out,if_pos h1]
  clear h1
  go_enter Tryz.func85,Tryz.ntmps85
  go_wp2_with fail
  refine HN.out.mono ?_
  rintro e w1 ⟨rfl,hb1⟩
  have HBW:=Jh (HB.out.trans (hb1.mono HB.out.size))
  clear hb1
  go_wp2_with fail
  all_goals go_ret
  all_goals exact ⟨z0u (by rw [H1.out]),HBW.out⟩
open Go.RowKit
@[local go_sem] theorem run_store_func {P : Program} {w : World} {a : Addr} {m : Mode} (fn : Fn) (x y : Array Value) : (store a (.func fn x y) m).run P w = stored P w a (.func fn x y) m:=run_store P w a _ m rfl
theorem cells8 {W w1 : World} {N : Nat} {x0 x1 x2 x3 x4 x5 x6 x7 : Value} {t : TypeId} {fz : Nat × Nat} (h : W.heap[N]? = some (.cells #[x0,x1,x2,x3,x4,x5,x6,x7] t fz)) (hb : Below W.heap.size W w1) :
 w1.heap[N]? = some (.cells #[x0,x1,x2,x3,x4,x5,x6,x7] t fz) ∧ w1.cell? ⟨N,0,none⟩ = some x0 ∧ w1.cell? ⟨N,1,none⟩ = some x1 ∧ w1.cell? ⟨N,2,none⟩ = some x2 ∧ w1.cell? ⟨N,3,none⟩ = some x3 ∧
  w1.cell? ⟨N,4,none⟩ = some x4 ∧ w1.cell? ⟨N,5,none⟩ = some x5 ∧ w1.cell? ⟨N,6,none⟩ = some x6 ∧ w1.cell? ⟨N,7,none⟩ = some x7 ∧ N < w1.heap.size:=by
 have h1 : w1.heap[N]? = some (.cells #[x0,x1,x2,x3,x4,x5,x6,x7] t fz):=by rw [hb.block N (Array.getElem?_eq_some_iff.1 h).1]; exact h
 exact ⟨h1,Jc h1 0,Jc h1 1,Jc h1 2,Jc h1 3,Jc h1 4,Jc h1 5,Jc h1 6,Jc h1 7,(Array.getElem?_eq_some_iff.1 h1).1⟩
def ChkW (w0 w : World) (cs : Array Value) (names : List ByteArray) (b : Nat) : Prop :=
 Below w0.heap.size w0 w ∧ w.heap[w0.heap.size]? = some (.cells cs 47 (0,0)) ∧ Known w names b (w0.heap.size + 1)
theorem ChkW.up {w0 w w' : World} {cs : Array Value} {names : List ByteArray} {b : Nat} (h : ChkW w0 w cs names b) (hb : Below w.heap.size w w') : ChkW w0 w' cs names b :=
 ⟨h.1.trans (hb.mono h.1.size),by rw [hb.block _ (Array.getElem?_eq_some_iff.1 h.2.1).1]; exact h.2.1,h.2.2.up hb⟩
theorem check13_any (names : List ByteArray) (nv : Value) (hs : ∀ s ∈ names,s.size ≤ 1048576) (m n : Nat) (t : XT m n) (v : Value) (w : World) (hr : Rdy w) (hn : NRep w w.heap.size nv names) (hf : XRep w w.heap.size m n t v) :
 Calls Tryz.prog 32 #[nv,v] w fun e w' => e = .returned (.int .i64 (z0z names n t)) ∧ Below w.heap.size w w':=by
 obtain ⟨k,a1,l1,c1,a,l,c,lo,ls,hi,hs',op,rfl⟩:=hf.shape
 obtain ⟨na,nc,hnv,hnr⟩:=id hn
 have hmf : ∀ (fn : Fn) (first cap : Array Value) (w : World),(Instr.makeFunc fn first cap).run Tryz.prog w = .ok (.func fn first cap) w:=fun _ _ _ _ => rfl
 subst hnv
 have HC0 : Hid (∀ w1 : World,w1 = (w.alloc (.cells #[.int .u8 k,.slice a1 l1 c1,.slice a l c,.int .i64 lo,.bool ls,.int .i64 hi,.bool hs',.bool op] 47)).alloc (.cells #[.slice na names.length nc] 22) → ChkW w (w1.alloc (.cells #[.func (.func 130) #[] #[.pointer (some ⟨w.heap.size + 1,0,none⟩)]] 30)) #[.int .u8 k,.slice a1 l1 c1,.slice a l c,.int .i64 lo,.bool ls,.int .i64 hi,.bool hs',.bool op] names w1.heap.size):=by
  rintro w1 rfl
  have hb3 : Below w.heap.size w (((w.alloc (.cells #[.int .u8 k,.slice a1 l1 c1,.slice a l c,.int .i64 lo,.bool ls,.int .i64 hi,.bool hs',.bool op] 47)).alloc (.cells #[.slice na names.length nc] 22)).alloc (.cells #[.func (.func 130) #[] #[.pointer (some ⟨w.heap.size + 1,0,none⟩)]] 30)) :=
   (((Below.refl _ w).alloc (Nat.le_refl _) _).alloc (by simp) _).alloc (by simp; omega) _
  obtain ⟨d1,d2,d3,_,hz⟩:=blocks3 (Below.refl _ (((w.alloc (.cells #[.int .u8 k,.slice a1 l1 c1,.slice a l c,.int .i64 lo,.bool ls,.int .i64 hi,.bool hs',.bool op] 47)).alloc (.cells #[.slice na names.length nc] 22)).alloc (.cells #[.func (.func 130) #[] #[.pointer (some ⟨w.heap.size + 1,0,none⟩)]] 30)))
  have hzz : ((w.alloc (.cells #[.int .u8 k,.slice a1 l1 c1,.slice a l c,.int .i64 lo,.bool ls,.int .i64 hi,.bool hs',.bool op] 47)).alloc (.cells #[.slice na names.length nc] 22)).heap.size = w.heap.size + 2:=by simp
  rw [hzz]
  exact ⟨hb3,d1,_,by omega,by omega,Jc d3 0,Jc d2 0,hn.up hb3 (by omega)⟩
 have HF:=Jh hf
 have HN : Hid (∀ w1 b,ChkW w w1 #[.int .u8 k,.slice a1 l1 c1,.slice a l c,.int .i64 lo,.bool ls,.int .i64 hi,.bool hs',.bool op] names b → Calls Tryz.prog 68 #[.slice na names.length nc] w1 fun e w' => e = .returned (.int .i64 (z0r names)) ∧ Below w1.heap.size w1 w') :=
  fun w1 _ h => z6i names _ hs w1 (hr.below h.1) (hn.up h.1 h.1.size)
 have HX : Hid (∀ w1 b,ChkW w w1 #[.int .u8 k,.slice a1 l1 c1,.slice a l c,.int .i64 lo,.bool ls,.int .i64 hi,.bool hs',.bool op] names b → XRep w1 w1.heap.size m n t (.agg #[.int .u8 k,.slice a1 l1 c1,.slice a l c,.int .i64 lo,.bool ls,.int .i64 hi,.bool hs',.bool op])) :=
  fun w1 _ h => hf.up h.1 h.1.size
 have HE : Hid (z0z names n t = if z0r names ≠ 0 then 2 else if allX z02 n t = false then 8 else if 64 < z1m n t then 160 else if allX (z12 names) n t = false then 161 else if allX z11 n t = false then 162 else 0):=rfl
 clear hr hs hf hn hnr
 go_enter Tryz.func32,Tryz.ntmps32
 go_wp2_with fail
 refine (z2p _ _ _ _).mono ?_
 rintro e w1 ⟨rfl,hw1⟩
 have hc0:=HC0.out w1 hw1
 have HC1:=Jh hc0
 have hbl:=hc0.2.1
 clear hw1 HC0 hc0 hbl
 have HC:=HC1
 clear HC1
 go_wp2_with fail
 refine (HN.out _ _ HC.out).mono ?_
 rintro e w2 ⟨rfl,hbq⟩
 have HC2:=Jh (HC.out.up hbq)
 clear hbq HC
 have HC:=HC2
 clear HC2
 by_cases h1 : z0r names = 0
 ·rw [if_neg (by simp [h1])] at HE
  have q1 : (z0r names != 0) = false:=by simp [h1]
  clear h1
  obtain ⟨_,x0,x1,x2,x3,x4,x5,x6,x7,hNlt⟩:=cells8 HC.out.2.1 (Below.refl _ _)
  go_wp2_with fail
  clear q1
  refine (z71 z02 71 #[] n t _ _ (HX.out _ _ HC.out) (so34 _)).mono ?_
  rintro e w3 ⟨rfl,hbq⟩
  have HC2:=Jh (HC.out.up hbq)
  clear hbq HC
  have HC:=HC2
  clear HC2
  clear x0 x1 x2 x3 x4 x5 x6 x7 hNlt
  cases h2 : allX z02 n t with
  | false =>
   have H2 : Hid (z0z names n t = 8):=by rw [Hid,HE.out,if_pos h2]
   clear h2
   go_wp2_with fail
   all_goals go_ret
   all_goals exact ⟨z0u (by rw [H2.out]),HC.out.1⟩
  | true =>
   rw [if_neg (by simp [h2])] at HE
   clear h2
   obtain ⟨_,x0,x1,x2,x3,x4,x5,x6,x7,hNlt⟩:=cells8 HC.out.2.1 (Below.refl _ _)
   go_wp2_with fail
   refine (many14_any m n t _ _ (HX.out _ _ HC.out)).mono ?_
   rintro e w4 ⟨rfl,hbq⟩
   have HC2:=Jh (HC.out.up hbq)
   clear hbq HC
   have HC:=HC2
   clear HC2
   clear x0 x1 x2 x3 x4 x5 x6 x7 hNlt
   by_cases h3 : 64 < z1m n t
   ·have H3 : Hid (z0z names n t = 160):=by rw [Hid,HE.out,if_pos h3]
    go_wp2_with fail
    all_goals go_ret
    all_goals exact ⟨z0u (by rw [H3.out]),HC.out.1⟩
   ·rw [if_neg h3] at HE
    obtain ⟨_,x0,x1,x2,x3,x4,x5,x6,x7,hNlt⟩:=cells8 HC.out.2.1 (Below.refl _ _)
    go_wp2_with fail
    refine (z71 (z12 names) 72 _ n t _ _ (HX.out _ _ HC.out) (so35 names _ _ _ HC.out.2.2)).mono ?_
    rintro e w5 ⟨rfl,hbq⟩
    have HC2:=Jh (HC.out.up hbq)
    clear hbq HC
    have HC:=HC2
    clear HC2
    clear x0 x1 x2 x3 x4 x5 x6 x7 hNlt
    cases h4 : allX (z12 names) n t with
    | false =>
     have H4 : Hid (z0z names n t = 161):=by rw [Hid,HE.out,if_pos h4]
     clear h4
     go_wp2_with fail
     all_goals go_ret
     all_goals exact ⟨z0u (by rw [H4.out]),HC.out.1⟩
    | true =>
     rw [if_neg (by simp [h4])] at HE
     clear h4
     obtain ⟨_,x0,x1,x2,x3,x4,x5,x6,x7,hNlt⟩:=cells8 HC.out.2.1 (Below.refl _ _)
     go_wp2_with fail
     refine (z71 z11 75 #[] n t _ _ (HX.out _ _ HC.out) (so38 _)).mono ?_
     rintro e w6 ⟨rfl,hbq⟩
     have HC2:=Jh (HC.out.up hbq)
     clear hbq HC
     have HC:=HC2
     clear HC2
     clear x0 x1 x2 x3 x4 x5 x6 x7 hNlt
     cases h5 : allX z11 n t with
     | false =>
      have H5 : Hid (z0z names n t = 162):=by rw [Hid,HE.out,if_pos h5]
      clear h5
      go_wp2_with fail
      all_goals go_ret
      all_goals exact ⟨z0u (by rw [H5.out]),HC.out.1⟩
     | true =>
      have H5 : Hid (z0z names n t = 0):=by rw [Hid,HE.out,if_neg (by simp [h5])]
      clear h5
      go_wp2_with fail
      all_goals go_ret
      all_goals exact ⟨z0u (by rw [H5.out]),HC.out.1⟩
 ·have H1 : Hid (z0z names n t = 2):=by rw [Hid,HE.out,if_pos h1]
  have q1 : (z0r names != 0) = true:=by simp [h1]
  clear h1
  go_wp2_with fail
  all_goals go_ret
  all_goals exact ⟨z0u (by rw [H1.out]),HC.out.1⟩
end Go.Proofs.YtockinpjfhhkoaaGreatDoor
