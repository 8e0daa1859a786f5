/- lex.row: the token that letters and digits in a row are. -/
import Derived.Test.YtpgdplmndnopbaaGreatDoorZ01
import Derived.Test.YtpgdplmndnopbaaGreatDoorZ04
import Derived.Deep.RegionHeld3
import Derived.Test.YtpgdplmndnopbaaGreatDoorZ02
set_option maxRecDepth 100000
set_option maxHeartbeats 16000000
namespace Go.Proofs.YtpgdplmndnopbaaGreatDoor
open Go.RowKit Go.Shelf
attribute [local go_sem ↓] Go.wp_at_zero Go.wp_at_succ
def rowR (s : ByteArray) : Tok × Int :=
 match z0y s.data.toList with
 | .ok k => (⟨k,s,0⟩,0)
 | .error e => (z5m,e)
theorem kindR_low (b : UInt8) : ((z4x b.toNat == 2) : Bool) = z3g b:=by
 simp only [z4x,z3g]
 rw [Bool.eq_iff_iff]
 simp only [beq_iff_eq,Bool.and_eq_true,decide_eq_true_eq]
 constructor
 ·intro h
  split at h
  ·omega
  ·split at h
   ·cases h
   ·split at h <;> cases h
 ·rintro ⟨h1,h2⟩
  rw [if_pos ⟨by omega,by omega⟩]
theorem parse_le (M : Nat) (l : List UInt8) : ∀ a n,a ≤ M → Lib.parseUintM M a l = .ok n → n ≤ M:=by
 induction l with
 | nil => intro a n ha h; simp only [Lib.parseUintM,Lib.NumEnd.ok.injEq] at h; omega
 | cons b r ih =>
  intro a n ha h
  simp only [Lib.parseUintM] at h
  split at h
  ·split at h
   ·cases h
   ·split at h
    ·cases h
    ·exact ih _ _ (by omega) h
  ·cases h
theorem loadVar3 {P : Program} {w : World} {g : Nat} {ty : TypeId} {x y z : Value} (hagg : (isAgg ty).run P w = .ok true w) (hsz : (Go.sizeOf ty).run P w = .ok 3 w)
 (h0 : w.cell? ⟨g,0,none⟩ = some x) (h1 : w.cell? ⟨g,1,none⟩ = some y) (h2 : w.cell? ⟨g,2,none⟩ = some z) : (loadVar ty ⟨g,0,none⟩).run P w = .ok (.agg #[x,y,z]) w:=by
 have hl : (loadCells ⟨g,0,none⟩ [x,y,z].length).run P w = .ok [x,y,z].toArray w :=
  run_loadCells_list (P:=P) w ⟨g,0,none⟩ [x,y,z] (fun j v hj => by
   match j,hj with
   | 0,hj => simp at hj; subst hj; exact h0
   | 1,hj => simp at hj; subst hj; exact h1
   | 2,hj => simp at hj; subst hj; exact h2)
 have hl' : (loadCells ⟨g,0,none⟩ 3).run P w = .ok #[x,y,z] w:=hl
 simp [loadVar,Sem.run_bind,hagg,hsz,hl']
theorem z0w {fn : Func} {q u : Tmp} {ty : TypeId} (h : fn.results = #[.cell q ty,.tmp u]) {tmps : Array Value} {P : Program} {w : World} {g : Nat} {x y z v : Value}
 (hp : tmps.getD q undef = .pointer (some ⟨g,0,none⟩)) (hv : tmps.getD u undef = v) (hagg : (isAgg ty).run P w = .ok true w) (hsz : (Go.sizeOf ty).run P w = .ok 3 w)
 (h0 : w.cell? ⟨g,0,none⟩ = some x) (h1 : w.cell? ⟨g,1,none⟩ = some y) (h2 : w.cell? ⟨g,2,none⟩ = some z) : (results fn tmps).run P w = .ok (.tuple #[.agg #[x,y,z],v]) w:=by
 rw [results_cell_tmp h,hp,hv]
 simp [asAddr,loadVar3 hagg hsz h0 h1 h2]
theorem z2j {w1 : World} {g : Nat} {x' y' z' : Value} {t : TypeId} {fz : Nat × Nat} (h : w1.heap[g]? = some (.cells #[x',y',z'] t fz)) (x y z : Value) :
 (((w1.setCell ⟨g,0,none⟩ x).setCell ⟨g,1,none⟩ y).setCell ⟨g,2,none⟩ z).cell? ⟨g,0,none⟩ = some x ∧ (((w1.setCell ⟨g,0,none⟩ x).setCell ⟨g,1,none⟩ y).setCell ⟨g,2,none⟩ z).cell? ⟨g,1,none⟩ = some y ∧
 (((w1.setCell ⟨g,0,none⟩ x).setCell ⟨g,1,none⟩ y).setCell ⟨g,2,none⟩ z).cell? ⟨g,2,none⟩ = some z:=by
 have c0:=Lib.cell_of_heap h 0
 have c1:=Lib.cell_of_heap h 1
 have c2:=Lib.cell_of_heap h 2
 refine ⟨?_,?_,?_⟩
 ·rw [World.cell?_setCell_other _ _ _ _ (by simp),World.cell?_setCell_other _ _ _ _ (by simp)]
  exact World.cell?_setCell_same _ _ _ c0
 ·rw [World.cell?_setCell_other _ _ _ _ (by simp)]
  exact World.cell?_setCell_same _ _ _ ((World.cell?_setCell_other _ _ _ _ (by simp)).trans c1)
 ·exact World.cell?_setCell_same _ _ _ ((World.cell?_setCell_other _ _ _ _ (by simp)).trans ((World.cell?_setCell_other _ _ _ _ (by simp)).trans c2))
theorem z26 {B : Nat} {w w1 : World} {g : Nat} (hb : Below B w w1) (hg : B ≤ g) (x y z : Value) : Below B w (((w1.setCell ⟨g,0,none⟩ x).setCell ⟨g,1,none⟩ y).setCell ⟨g,2,none⟩ z) :=
 ((hb.setCell (p:=⟨g,0,none⟩) hg x).setCell (p:=⟨g,1,none⟩) hg y).setCell (p:=⟨g,2,none⟩) hg z
theorem row41_any (s : ByteArray) (h0 : 0 < s.size) (hs : s.size ≤ 281474976710656) (w : World) (hr : Rdy w) : Calls Tryz.prog 113 #[.string s] w fun e w' =>
 e = .returned (.tuple #[(rowR s).1.val,.int .i64 (rowR s).2]) ∧ Below w.heap.size w w':=by
 have HS:=z1j s
 have hg:=z2k s 0 h0
 generalize hc0 : s[0]'h0 = b at hg
 obtain ⟨r,hl⟩ : ∃ r,s.data.toList = b :: r:=by
  cases h : s.data.toList with
  | nil => rw [h] at HS; simp at HS; omega
  | cons c r => simp only [h,List.getElem_cons_zero] at hg; exact ⟨r,by rw [hg]⟩
 have hrl : r.length + 1 = s.size:=by rw [← HS,hl]; rfl
 have hk:=kindR_low b
 clear hg
 have hw32 : wrap32 (b.toNat : Int) = (b.toNat : Int):=by have:=b.toNat_lt; unfold wrap32; omega
 cases hlo : z3g b with
 | true =>
  rw [hlo] at hk
  by_cases h8 : s.size ≤ 8
  ·have HE : Hid (rowR s = (⟨1,s,0⟩,0)):=by simp [Hid,rowR,hl,z0y,hlo,show r.length + 1 ≤ 8 by omega]
   clear hl hlo
   go_enter Tryz.func113,Tryz.ntmps113
   go_wp2_with (go_at_call 61; refine (z4k _ _).mono ?_; rintro e w' ⟨rfl,rfl⟩)
   exact bodyPost_ret (z0w rfl rfl rfl (Tryz.isAgg51 _) (Tryz.sizeOf51 _) (World.cell?_alloc_new ..) (World.cell?_alloc_new ..) (World.cell?_alloc_new ..)) rfl ⟨by rw [HE.out]; rfl,(Below.refl _ w).alloc (Nat.le_refl _) _⟩
  ·have HE : Hid (rowR s = (z5m,152)):=by simp [Hid,rowR,hl,z0y,hlo,show ¬ r.length + 1 ≤ 8 by omega]
   clear hl hlo
   go_enter Tryz.func113,Tryz.ntmps113
   go_wp2_with (go_at_call 61; refine (z4k _ _).mono ?_; rintro e w' ⟨rfl,rfl⟩)
   exact bodyPost_ret (z0w rfl rfl rfl (Tryz.isAgg51 _) (Tryz.sizeOf51 _) (World.cell?_alloc_new ..) (World.cell?_alloc_new ..) (World.cell?_alloc_new ..)) rfl ⟨by rw [HE.out]; rfl,(Below.refl _ w).alloc (Nat.le_refl _) _⟩
 | false =>
  rw [hlo] at hk
  have hne : s.data.toList ≠ []:=by rw [hl]; simp
  have HE : Hid (rowR s = if z3e s.data.toList then (⟨2,s,0⟩,0) else (z5m,151)):=by
   simp only [Hid,rowR,hl,z0y,hlo]
   cases z3e (b :: r) <;> rfl
  have HQ:=Lib.hid (numOk_iff s.data.toList hne)
  clear hl hlo
  have hr1 : Rdy (w.alloc (.cells #[.int .u8 0,.string .empty,.int .i64 0] 51)):=hr.below ((Below.refl _ w).alloc (Nat.le_refl _) _)
  have HP:=Lib.hid (parse49_any s (by omega) hs _ hr1)
  have HR1:=Lib.hid hr1
  clear hr1
  go_enter Tryz.func113,Tryz.ntmps113
  go_wp2_with (go_at_call 61; refine (z4k _ _).mono ?_; rintro e w' ⟨rfl,rfl⟩)
  refine HP.out.mono ?_
  rintro e w1 ⟨⟨u,ev,rfl,hpu⟩,hb1⟩
  have HR2:=Lib.hid (HR1.out.below hb1)
  have hbw : Below w.heap.size w w1:=((Below.refl _ w).alloc (Nat.le_refl _) _).trans (hb1.mono (by simp))
  have hblk : w1.heap[w.heap.size]? = some (.cells #[.int .u8 0,.string .empty,.int .i64 0] 51 (0,0)):=by
   have hz : (w.alloc (.cells #[.int .u8 0,.string .empty,.int .i64 0] 51)).heap.size = w.heap.size + 1:=by simp
   rw [hb1.block w.heap.size (by rw [hz]; omega)]
   exact Array.getElem?_push_size
  have HBW:=Lib.hid hbw
  have HBL:=Lib.hid hblk
  clear hbw hblk hb1
  unfold z5w at hpu
  rcases hpp : Lib.parseUintM 4611686018427387903 0 s.data.toList with n | _ | _
  ·rw [hpp] at hpu
   obtain ⟨rfl,rfl⟩:=hpu
   have hn62 : u ≤ 4611686018427387903:=parse_le _ _ _ _ (by omega) hpp
   have HPP:=Lib.hid hpp
   clear hpp
   have c0:=Lib.cell_of_heap HBL.out 0
   have c1:=Lib.cell_of_heap HBL.out 1
   have c2:=Lib.cell_of_heap HBL.out 2
   have f0:=Lib.frozen_of_heap HBL.out 0
   have f1:=Lib.frozen_of_heap HBL.out 1
   have f2:=Lib.frozen_of_heap HBL.out 2
   simp only [List.getElem?_toArray,List.getElem?_cons_zero,List.getElem?_cons_succ] at c0 c1 c2
   by_cases hbig : 288230376151711744 ≤ u
   ·have HF : Hid (rowR s = (z5m,151)):=by
     have : z3e s.data.toList = false:=by
      rw [Bool.eq_false_iff]; intro h
      obtain ⟨n,h1,h2,_⟩:=HQ.out.1 h
      rw [HPP.out] at h1; cases h1; omega
     rw [Hid,HE.out,this]; rfl
    have hbi : (288230376151711744 : Int) ≤ u:=by omega
    clear hbig
    go_wp2_with fail
    obtain ⟨k0,k1,k2⟩:=z2j HBL.out (.int .u8 0) (.string .empty) (.int .i64 0)
    exact bodyPost_ret (z0w rfl rfl rfl (Tryz.isAgg51 _) (Tryz.sizeOf51 _) k0 k1 k2) rfl ⟨by rw [HF.out]; rfl,z26 HBW.out (Nat.le_refl _) _ _ _⟩
   ·have hbi : (u : Int) < 288230376151711744:=by omega
    have HFM:=Lib.hid (format50_any u (by omega) w1 HR2.out)
    have HBIG : Hid (u < 288230376151711744):=by rw [Hid]; omega
    clear hbig
    obtain ⟨a,ha⟩ : ∃ a : Int,(u : Int) = a:=⟨_,rfl⟩
    rw [ha] at hbi HFM ⊢
    have HAA:=Lib.hid ha
    clear ha
    by_cases heq : bsOf (Lib.decDigits u) = s
    ·have HF : Hid (rowR s = (⟨2,s,0⟩,0)):=by
      have : z3e s.data.toList = true:=HQ.out.2 ⟨u,HPP.out,HBIG.out,by rw [← heq,z3n]⟩
      rw [Hid,HE.out,this]; rfl
     have HEQ:=Lib.hid heq
     clear heq
     go_wp2_with fail
     refine HFM.out.mono ?_
     rintro e w2 ⟨rfl,hb2⟩
     rw [HEQ.out]
     have HBW2:=Lib.hid (HBW.out.trans (hb2.mono HBW.out.size))
     have HBL2:=Lib.hid ((hb2.block w.heap.size (by exact (Array.getElem?_eq_some_iff.1 HBL.out).1)).trans HBL.out)
     clear hb2 c0 c1 c2 f0 f1 f2
     have c0:=Lib.cell_of_heap HBL2.out 0
     have c1:=Lib.cell_of_heap HBL2.out 1
     have c2:=Lib.cell_of_heap HBL2.out 2
     have f0:=Lib.frozen_of_heap HBL2.out 0
     have f1:=Lib.frozen_of_heap HBL2.out 1
     have f2:=Lib.frozen_of_heap HBL2.out 2
     simp only [List.getElem?_toArray,List.getElem?_cons_zero,List.getElem?_cons_succ] at c0 c1 c2
     go_wp2_with fail
     obtain ⟨k0,k1,k2⟩:=z2j HBL2.out (.int .u8 2) (.string s) (.int .i64 0)
     exact bodyPost_ret (z0w rfl rfl rfl (Tryz.isAgg51 _) (Tryz.sizeOf51 _) k0 k1 k2) rfl ⟨by rw [HF.out]; rfl,z26 HBW2.out (Nat.le_refl _) _ _ _⟩
    ·have HF : Hid (rowR s = (z5m,151)):=by
      have : z3e s.data.toList = false:=by
       rw [Bool.eq_false_iff]; intro h
       obtain ⟨n,h1,h2,h3⟩:=HQ.out.1 h
       rw [HPP.out] at h1; cases h1
       exact heq (by rw [h3,bsOf_of])
      rw [Hid,HE.out,this]; rfl
     have hss : ((bsOf (Lib.decDigits u)).toList == s.toList) = false:=by simpa using fun h => heq (toList_inj h)
     generalize bsOf (Lib.decDigits u) = D at hss HFM
     clear heq
     go_wp2_with fail
     refine HFM.out.mono ?_
     rintro e w2 ⟨rfl,hb2⟩
     have HBW2:=Lib.hid (HBW.out.trans (hb2.mono HBW.out.size))
     have HBL2:=Lib.hid ((hb2.block w.heap.size (by exact (Array.getElem?_eq_some_iff.1 HBL.out).1)).trans HBL.out)
     clear hb2 c0 c1 c2 f0 f1 f2
     have c0:=Lib.cell_of_heap HBL2.out 0
     have c1:=Lib.cell_of_heap HBL2.out 1
     have c2:=Lib.cell_of_heap HBL2.out 2
     have f0:=Lib.frozen_of_heap HBL2.out 0
     have f1:=Lib.frozen_of_heap HBL2.out 1
     have f2:=Lib.frozen_of_heap HBL2.out 2
     simp only [List.getElem?_toArray,List.getElem?_cons_zero,List.getElem?_cons_succ] at c0 c1 c2
     go_wp2_with fail
     obtain ⟨k0,k1,k2⟩:=z2j HBL2.out (.int .u8 0) (.string .empty) (.int .i64 0)
     exact bodyPost_ret (z0w rfl rfl rfl (Tryz.isAgg51 _) (Tryz.sizeOf51 _) k0 k1 k2) rfl ⟨by rw [HF.out]; rfl,z26 HBW2.out (Nat.le_refl _) _ _ _⟩
  ·rw [hpp] at hpu
   obtain ⟨te,pe,rfl⟩:=hpu
   have HF : Hid (rowR s = (z5m,151)):=by
    have : z3e s.data.toList = false:=by
     rw [Bool.eq_false_iff]; intro h
     obtain ⟨n,h1,_⟩:=HQ.out.1 h
     rw [hpp] at h1; cases h1
    rw [Hid,HE.out,this]; rfl
   clear hpp
   have c0:=Lib.cell_of_heap HBL.out 0
   have c1:=Lib.cell_of_heap HBL.out 1
   have c2:=Lib.cell_of_heap HBL.out 2
   have f0:=Lib.frozen_of_heap HBL.out 0
   have f1:=Lib.frozen_of_heap HBL.out 1
   have f2:=Lib.frozen_of_heap HBL.out 2
   simp only [List.getElem?_toArray,List.getElem?_cons_zero,List.getElem?_cons_succ] at c0 c1 c2
   go_wp2_with fail
   obtain ⟨k0,k1,k2⟩:=z2j HBL.out (.int .u8 0) (.string .empty) (.int .i64 0)
   exact bodyPost_ret (z0w rfl rfl rfl (Tryz.isAgg51 _) (Tryz.sizeOf51 _) k0 k1 k2) rfl ⟨by rw [HF.out]; rfl,z26 HBW.out (Nat.le_refl _) _ _ _⟩
  ·rw [hpp] at hpu
   obtain ⟨te,pe,rfl⟩:=hpu
   have HF : Hid (rowR s = (z5m,151)):=by
    have : z3e s.data.toList = false:=by
     rw [Bool.eq_false_iff]; intro h
     obtain ⟨n,h1,_⟩:=HQ.out.1 h
     rw [hpp] at h1; cases h1
    rw [Hid,HE.out,this]; rfl
   clear hpp
   have c0:=Lib.cell_of_heap HBL.out 0
   have c1:=Lib.cell_of_heap HBL.out 1
   have c2:=Lib.cell_of_heap HBL.out 2
   have f0:=Lib.frozen_of_heap HBL.out 0
   have f1:=Lib.frozen_of_heap HBL.out 1
   have f2:=Lib.frozen_of_heap HBL.out 2
   simp only [List.getElem?_toArray,List.getElem?_cons_zero,List.getElem?_cons_succ] at c0 c1 c2
   go_wp2_with fail
   obtain ⟨k0,k1,k2⟩:=z2j HBL.out (.int .u8 0) (.string .empty) (.int .i64 0)
   exact bodyPost_ret (z0w rfl rfl rfl (Tryz.isAgg51 _) (Tryz.sizeOf51 _) k0 k1 k2) rfl ⟨by rw [HF.out]; rfl,z26 HBW.out (Nat.le_refl _) _ _ _⟩
end Go.Proofs.YtpgdplmndnopbaaGreatDoor
namespace Go.Proofs.YtpgdplmndnopbaaGreatDoor
open Go.RowKit
def pN (n : Nat) : Nat → Bool:=fun b => decide (n ≤ b)
def pC (n kr kv : Nat) : Nat → Bool:=fun b => decide (n ≤ b) && b != kr && b != kv
def OutF (pb tb deep : Nat) (w : World) (r : PRes F) (e : Ending) (w' : World) : Prop :=
 match r with
 | .ok (x,l') => ∃ v,e = .returned v ∧ FI (pN w.heap.size) w' x v ∧ Ps pb tb w' l' deep ∧ Bt pb w w'
 | .error c => e = .panicked (thr c.1 c.2) ∧ Bt pb w w'
theorem OutF.ok {pb tb deep : Nat} {w w' : World} {x : F} {l : List Tok} {e : Ending} (h : OutF pb tb deep w (.ok (x,l)) e w') :
 ∃ k s a n c,e = .returned (.agg #[.int .u8 k,.string s,.slice a n c]) ∧ FI (pN w.heap.size) w' x (.agg #[.int .u8 k,.string s,.slice a n c]) ∧ Ps pb tb w' l deep ∧ Bt pb w w':=by
 obtain ⟨v,h1,h2,h3⟩:=h
 obtain ⟨k,s,a,n,c,rfl⟩:=h2.shape
 exact ⟨k,s,a,n,c,h1,h2,h3⟩
def set3 (w : World) (g : Nat) (x y z : Value) : World:=((w.setCell ⟨g,0,none⟩ x).setCell ⟨g,1,none⟩ y).setCell ⟨g,2,none⟩ z
theorem z0q {w : World} {g : Nat} {x' y' z' : Value} {t : TypeId} (h : w.heap[g]? = some (.cells #[x',y',z'] t (0,0))) (x y z : Value) : (set3 w g x y z).heap[g]? = some (.cells #[x,y,z] t (0,0)):=by
 simp [set3,World.setCell,Array.getElem?_modify,h]
theorem z0f (w : World) (g : Nat) (x y z : Value) (j : Nat) (hj : j ≠ g) : (set3 w g x y z).heap[j]? = w.heap[j]?:=by
 unfold set3
 rw [Below.heap_setCell _ _ _ _ (by simpa using hj),Below.heap_setCell _ _ _ _ (by simpa using hj),Below.heap_setCell _ _ _ _ (by simpa using hj)]
theorem z0s (w : World) (g : Nat) (x y z : Value) : (set3 w g x y z).heap.size = w.heap.size:=by simp [set3,World.setCell]
theorem Bt.set3 {pb : Nat} {w w' : World} (h : Bt pb w w') {g : Nat} (hg : w.heap.size ≤ g) (x y z : Value) : Bt pb w (set3 w' g x y z) :=
 ⟨h.1,h.2.1,h.2.2.1,by rw [z0s]; exact h.2.2.2.1,fun k hk hp => (z0f _ _ _ _ _ _ (by omega)).trans (h.2.2.2.2 k hk hp)⟩
theorem Ps.set3 {pb tb deep : Nat} {w : World} {l : List Tok} (h : Ps pb tb w l deep) {g : Nat} (hg : pb ≠ g) (hT : tb ≠ g) (x y z : Value) : Ps pb tb (set3 w g x y z) l deep:=by
 obtain ⟨off,cap,h1,h2,h3,h4,h5,h6⟩:=h.blk
 exact ⟨⟨off,cap,(z0f _ _ _ _ _ _ hg).trans h1,h2,h3,h4,by rw [z0s]; exact h5,h6.agree (z0f _ _ _ _ _ _ hT)⟩,h.ends,h.toks⟩
end Go.Proofs.YtpgdplmndnopbaaGreatDoor
namespace Go.Proofs.YtpgdplmndnopbaaGreatDoor
open Go.RowKit
def z4w (pb : Nat) (w : World) : Nat:=match w.cell? ⟨pb,0,none⟩ with | some (.slice _ n _) => n | _ => 0
theorem Ps.left {pb tb deep : Nat} {w : World} {l : List Tok} (h : Ps pb tb w l deep) : z4w pb w = l.length:=by
 obtain ⟨off,cap,h1,_⟩:=h.blk
 have : w.cell? ⟨pb,0,none⟩ = some (.slice (some ⟨tb,off,none⟩) l.length cap):=by rw [Lib.cell_of_heap h1]; rfl
 unfold z4w
 rw [this]
theorem Ps.tb_lt {pb tb deep : Nat} {w : World} {l : List Tok} (h : Ps pb tb w l deep) : tb < w.heap.size:=by
 obtain ⟨off,cap,_,_,_,_,h5,_⟩:=h.blk; exact h5
theorem Ps.other {pb tb deep : Nat} {w : World} {l : List Tok} (h : Ps pb tb w l deep) {k : Nat} {cs : Array Value} {T : TypeId} {fr : Nat × Nat} (hk : w.heap[k]? = some (.cells cs T fr)) (hT : T ≠ 81) : k ≠ pb:=by
 rintro rfl
 obtain ⟨off,cap,h1,_⟩:=h.blk
 rw [h1] at hk
 simp only [Option.some.injEq,Obj.cells.injEq] at hk
 exact hT hk.2.1.symm
structure ChF (pb tb deep kr kv : Nat) (w wr : World) (x : F) (l : List Tok) : Prop where
 acc : ∃ k s a n c,wr.heap[kv]? = some (.cells #[.int .u8 k,.string s,.slice a n c] 61 (0,0)) ∧ FI (pC w.heap.size kr kv) wr x (.agg #[.int .u8 k,.string s,.slice a n c])
 ps : Ps pb tb wr l deep
 bt : Bt pb w wr
 res : wr.heap[kr]? = some (.cells #[.int .u8 0,.string ⟨#[]⟩,.slice none 0 0] 61 (0,0))
theorem z5u (pb tb deep : Nat) (s : ByteArray) (hs : s.data.toList ≠ []) (K : Nat) (first caps : Array Value) (hE : Ent K) (kc : Nat) (kind : Int) (one : List Tok → PRes F) (hsh : ∀ l x r,one l = .ok (x,r) → r.length ≤ l.length)
 (l : List Tok) (w : World) (h : Ps pb tb w l deep) (hk : w.heap[kc]? = some (.cells #[.int .u8 kind] 5 (0,0)))
 (hone : ∀ w' l',Bt pb w w' → Ps pb tb w' l' deep → Calls Tryz.prog K (first ++ caps) w' (OutF pb tb deep w' (one l'))) :
 Calls Tryz.prog 182 #[.pointer (some ⟨pb,0,none⟩),.string s,.func (.func K) first caps,.func (.func 200) #[] #[.pointer (some ⟨kc,0,none⟩)]] w (OutF pb tb deep w (z0g s.data.toList one (fun a b => .mk kind ⟨#[]⟩ [a,b]) l)):=by
 have hkp:=h.other hk (by decide)
 have hpb:=h.lt
 have htb:=h.tb_lt
 obtain ⟨W1,hW1⟩ : ∃ W1,W1 = w.alloc (.cells #[.int .u8 0,.string ⟨#[]⟩,.slice none 0 0] 61):=⟨_,rfl⟩
 have hb1 : Bt pb w W1:=by rw [hW1]; exact (Bt.refl _ _).alloc _
 have hP1 : Ps pb tb W1 l deep:=by rw [hW1]; exact h.alloc _
 have hr1 : W1.heap[w.heap.size]? = some (.cells #[.int .u8 0,.string ⟨#[]⟩,.slice none 0 0] 61 (0,0)):=by rw [hW1]; exact z06 rfl
 have hz1 : W1.heap.size = w.heap.size + 1:=by rw [hW1]; simp
 have hH1:=hone W1 l hb1 hP1
 unfold Ent at hE
 have hE200 : ∀ (args : Array Value) (W : World),(callFunc 200 args).run Tryz.prog W = .ok (.enter 200 args) W:=z2x Tryz.func200 (by kernel_rfl) (by kernel_rfl)
 have HSH:=Lib.hid hsh
 have HON:=Lib.hid hone
 have HKC:=Lib.hid hk
 clear hsh hone hk h
 cases q : one l with
 | error c =>
  rw [q] at hH1
  have HR : Hid (z0g s.data.toList one (fun a b => .mk kind ⟨#[]⟩ [a,b]) l = .error c):=by rw [Hid]; unfold z0g; rw [q]
  rw [HR.out]
  have HO:=Lib.hid hH1
  have HB1:=Lib.hid hb1
  rw [hW1] at HO HB1
  clear q hH1 hb1 hP1 hr1 hz1 hW1
  go_enter Tryz.func182,Tryz.ntmps182
  go_wp2_with fail
  refine HO.out.mono ?_
  rintro e w1 ⟨rfl,hb⟩
  have HB:=Lib.hid (HB1.out.trans hb)
  clear hb
  go_wp2_with fail
  exact ⟨rfl,rfl,HB.out⟩
 | ok xr =>
  obtain ⟨x,r⟩:=xr
  rw [q] at hH1
  have HR : Hid (z0g s.data.toList one (fun a b => .mk kind ⟨#[]⟩ [a,b]) l = z0n s.data.toList one (fun a b => .mk kind ⟨#[]⟩ [a,b]) r.length x r):=by rw [Hid]; unfold z0g; rw [q]
  rw [HR.out]
  have HO:=Lib.hid hH1
  have HB1:=Lib.hid hb1
  have HR1:=Lib.hid hr1
  clear q hH1 hb1 hP1 hr1 HR
  rw [hW1] at HO
  go_enter Tryz.func182,Tryz.ntmps182
  go_wp2_with fail
  refine HO.out.mono ?_
  rintro e w1 ho
  obtain ⟨k1,s1,a1,n1,c1,rfl,hf,hp,hb⟩:=OutF.ok ho
  rw [← hW1] at hf hb
  obtain ⟨kv,hkv⟩ : ∃ kv,kv = w1.heap.size:=⟨_,rfl⟩
  have hzb:=hb.2.2.2.1
  have hkr : w.heap.size ≠ kv:=by omega
  have hkvp : kv ≠ pb:=by omega
  have hkvt : tb ≠ kv:=by omega
  have hle : w.heap.size ≤ kv:=by omega
  have H0 : Hid (ChF pb tb deep w.heap.size kv w (w1.alloc (.cells #[.int .u8 k1,.string s1,.slice a1 n1 c1] 61)) x r):=by
   refine ⟨⟨k1,s1,a1,n1,c1,z06 hkv,hf.go ⟨by simp,fun b hb' hpn => ⟨?_,Lib.alloc_old _ _ _ hb'⟩⟩⟩,hp.alloc _,(HB1.out.trans hb).alloc _,z0d (hb.at HR1.out (by omega))⟩
   have : W1.heap.size ≤ b:=by simpa [pN] using hpn
   simp only [pC,Bool.and_eq_true,decide_eq_true_eq,bne_iff_ne,ne_eq]
   omega
  have HWB : Hid (w1.alloc (.cells #[.int .u8 k1,.string s1,.slice a1 n1 c1] 61) = w1.alloc (.cells #[.int .u8 k1,.string s1,.slice a1 n1 c1] 61)):=rfl
  clear ho hf hp hb HO HB1 HR1 hW1 hz1 hzb
  go_wp2_with fail
  rw [← hkv]
  clear hkv HWB
  go_loopw [] (fun wr => ∃ (x' : F) (l' : List Tok) (n' : Nat),l'.length ≤ n' ∧ Hid (z0n s.data.toList one (fun a b => .mk kind ⟨#[]⟩ [a,b]) r.length x r = z0n s.data.toList one (fun a b => .mk kind ⟨#[]⟩ [a,b]) n' x' l') ∧ Hid (ChF pb tb deep w.heap.size kv w wr x' l')) (fun wr => z4w pb wr)
  case atStart => exact ⟨x,r,r.length,Nat.le_refl _,rfl,H0⟩
  case round =>
  clear H0
  obtain ⟨x',l',n',hn',HEQ,HC⟩:=hrel
  obtain ⟨k',s',a',m',c',hkvb,hfi⟩:=HC.out.acc
  have HM:=Lib.hid (z1s pb tb deep l' s hs wr HC.out.ps)
  have HKV:=Lib.hid hkvb
  have HFI:=Lib.hid hfi
  obtain ⟨t0,l0,hl0⟩:=HC.out.ps.ends.cons
  have hn1 : 1 ≤ n':=by rw [hl0] at hn'; simp at hn'; omega
  obtain ⟨n0,rfl⟩ : ∃ n0,n' = n0 + 1:=⟨n' - 1,by omega⟩
  have HL0:=Lib.hid hl0
  clear hkvb hfi hl0 hn1
  cases qi : isT s.data.toList l' with
  | false =>
   rw [qi] at HM
   simp only [Bool.false_eq_true,if_false] at HM
   have HFIN : Hid (z0n s.data.toList one (fun a b => .mk kind ⟨#[]⟩ [a,b]) r.length x r = .ok (x',l')):=by
    rw [Hid,HEQ.out]; simp only [z0n]; rw [qi]; simp
   clear qi
   go_wp2_with fail
   refine HM.out.mono ?_
   rintro e w2 ⟨rfl,hp2,hb2⟩
   have hkv2:=hb2.at HKV.out hkvp
   have hkr2:=hb2.at HC.out.res (by omega)
   obtain ⟨d0,d1,d2⟩:=cc3 hkv2
   obtain ⟨e0,e1,e2,f0,f1,f2⟩:=cf3 hkr2
   have HAT : Hid ((set3 w2 w.heap.size (.int .u8 k') (.string s') (.slice a' m' c')).heap[w.heap.size]? = some (.cells #[.int .u8 k',.string s',.slice a' m' c'] 61 (0,0))):=z0q hkr2 _ _ _
   have HOUT : Hid (OutF pb tb deep w (.ok (x',l')) (.returned (.agg #[.int .u8 k',.string s',.slice a' m' c'])) (set3 w2 w.heap.size (.int .u8 k') (.string s') (.slice a' m' c'))):=by
    have hbb : Bt pb w w2:=HC.out.bt.trans hb2
    refine ⟨_,rfl,?_,hp2.set3 (by omega) (by omega) _ _ _,hbb.set3 (Nat.le_refl _) _ _ _⟩
    refine HFI.out.go ⟨?_,fun b hbz hpc => ?_⟩
    ·rw [z0s]; exact hb2.2.2.2.1
    ·simp only [pC,Bool.and_eq_true,decide_eq_true_eq,bne_iff_ne,ne_eq] at hpc
     exact ⟨by simpa [pN] using hpc.1.1,(z0f _ _ _ _ _ _ hpc.1.2).trans (hb2.2.2.2.2 b hbz (by omega))⟩
   clear hkv2 hkr2 hp2 hb2
   go_wp2_with fail
   refine bodyPost_ret (results_cell_row rfl _ _ _ _ _ _ _ rfl HAT.out Tryz.underlying61 rfl (by kernel_rfl)) rfl ?_
   rw [HFIN.out]
   exact HOUT.out
  | true =>
   rw [qi] at HM
   simp only [if_true] at HM
   have HSTEP : Hid (z0n s.data.toList one (fun a b => .mk kind ⟨#[]⟩ [a,b]) r.length x r = match one l'.tail with
    | .error e => .error e
    | .ok (y,r') => z0n s.data.toList one (fun a b => .mk kind ⟨#[]⟩ [a,b]) n0 (.mk kind ⟨#[]⟩ [x',y]) r'):=by
    rw [Hid,HEQ.out]; simp only [z0n]; rw [qi]; simp only [if_true]; cases one l'.tail <;> rfl
   clear qi
   go_wp2_with fail
   refine HM.out.mono ?_
   rintro e w2 ⟨rfl,hp2,hb2⟩
   have hBW : Bt pb w w2:=HC.out.bt.trans hb2
   have hkv2:=hb2.at HKV.out hkvp
   have HS : Hid (∀ W,Bt pb w2 W → W.cell? ⟨kv,0,none⟩ = some (.int .u8 k') ∧ W.cell? ⟨kv,1,none⟩ = some (.string s') ∧ W.cell? ⟨kv,2,none⟩ = some (.slice a' m' c')):=by
    intro W hW
    have e:=hW.at hkv2 hkvp
    exact ⟨Lib.cell_of_heap e 0,Lib.cell_of_heap e 1,Lib.cell_of_heap e 2⟩
   have HCALL:=Lib.hid (HON.out w2.drew l'.tail hBW.drew hp2.drew)
   have HP2:=Lib.hid hp2
   have HBW:=Lib.hid hBW
   have HB2:=Lib.hid hb2
   have HKV2:=Lib.hid hkv2
   have hself : Bt pb w2 w2:=Bt.refl _ _
   clear hp2 hb2 hBW hkv2
   cases q2 : one l'.tail with
   | error c2 =>
    rw [q2] at HCALL HSTEP
    go_wp2_with fail
    refine wp_region_held_drew (S:=fun W => W.cell? ⟨kv,0,none⟩ = some (.int .u8 k') ∧ W.cell? ⟨kv,1,none⟩ = some (.string s') ∧ W.cell? ⟨kv,2,none⟩ = some (.slice a' m' c')) (by kernel_rfl) (HS.out _ hself.drew) (fun hHeld => ?_)
    refine wpAnyH_take (i:=0) (v:=?_) rfl (by kernel_rfl) (by kernel_rfl) (by kernel_rfl) (fun _ _ _ h => h) (Or.inl ⟨by kernel_rfl,?_⟩) (by assumption) ?_
    rotate_left
    ·(intro w hSw; (try dsimp only at hSw); go_simp)
     with_reducible rfl
    try simp only [Act.put,List.setIfInBounds_toArray]
    refine wpAnyH_take (i:=1) (v:=?_) rfl (by kernel_rfl) (by kernel_rfl) (by kernel_rfl) (fun _ _ _ h => h) (Or.inl ⟨by kernel_rfl,?_⟩) (by assumption) ?_
    rotate_left
    ·(intro w hSw; (try dsimp only at hSw); go_simp)
     with_reducible rfl
    try simp only [Act.put]
    refine wpAnyH_take (i:=2) (v:=?_) rfl (by kernel_rfl) (by kernel_rfl) (by kernel_rfl) (fun _ _ _ h => h) (Or.inl ⟨by kernel_rfl,?_⟩) (by assumption) ?_
    rotate_left
    ·(intro w hSw; (try dsimp only at hSw); go_simp)
     with_reducible rfl
    try simp only [Act.put]
    refine wpAnyH_ready (rs:=[3]) (by kernel_rfl) (by simp) ?_
    refine AllReadyH.cons rfl (fun K0 hK => ?_) AllReadyH.nil
    go_simp
    refine HCALL.out.mono ?_
    rintro e w3 ⟨rfl,hb3⟩
    have HB3:=Lib.hid (HBW.out.trans hb3)
    clear hb3 hHeld hK
    dsimp only
    go_wp2_with fail
    refine ⟨rfl,?_⟩
    rw [HSTEP.out]
    exact ⟨rfl,HB3.out⟩
   | ok yr =>
    obtain ⟨y,r'⟩:=yr
    rw [q2] at HCALL HSTEP
    have HRL:=Lib.hid (HSH.out _ _ _ q2)
    clear q2
    go_wp2_with fail
    refine wp_region_held_drew (S:=fun _ => True) (by kernel_rfl) trivial (fun hHeld => ?_)
    refine wpAnyH_take (i:=0) (v:=?_) rfl (by kernel_rfl) (by kernel_rfl) (by kernel_rfl) (fun _ _ _ h => h) (Or.inl ⟨by kernel_rfl,?_⟩) (by assumption) ?_
    rotate_left
    ·(intro w hSw; (try dsimp only at hSw); go_simp)
     with_reducible rfl
    try simp only [Act.put,List.setIfInBounds_toArray]
    refine wpAnyH_take (i:=2) (v:=?_) rfl (by kernel_rfl) (by kernel_rfl) (by kernel_rfl) (fun _ _ _ h => h) (Or.inl ⟨by kernel_rfl,?_⟩) (by assumption) ?_
    rotate_left
    ·(intro w hSw; (try dsimp only at hSw); go_simp)
     with_reducible rfl
    try simp only [Act.put]
    refine wpAnyH_ready (rs:=[1,3]) (by kernel_rfl) (by simp) ?_
    have v0:=(HS.out _ hself).1
    have v1:=(HS.out _ hself).2.1
    have v2:=(HS.out _ hself).2.2
    refine AllReadyH.cons rfl (fun K0 hK => ?_) (AllReadyH.cons rfl (fun K0 hK => ?_) AllReadyH.nil)
    ·go_simp
     refine hK.out _ _ trivial (fun _ => ?_)
     clear hK K0
     try simp only [Act.put,List.setIfInBounds_toArray,List.set_cons_zero,List.set_cons_succ]
     refine wpAnyH_ready (rs:=[3]) (by kernel_rfl) (by simp) ?_
     refine AllReadyH.cons rfl (fun K0 hK => ?_) AllReadyH.nil
     go_simp
     refine HCALL.out.mono ?_
     rintro e w3 ho
     obtain ⟨k2,s2,a2,n2,c2,rfl,hf2,hp3,hb3⟩:=OutF.ok ho
     dsimp only
     have hkv3:=hb3.at HKV2.out hkvp
     obtain ⟨g0,g1,g2⟩:=cc3 hkv3
     have HF2:=Lib.hid hf2
     have HP3:=Lib.hid hp3
     have HB3:=Lib.hid (HBW.out.trans hb3)
     have HBB:=Lib.hid hb3
     have HKV3:=Lib.hid hkv3
     clear ho hf2 hp3 hb3 hkv3
     refine hK.out _ _ trivial (fun _ => ?_)
     clear hK K0
     try simp only [Act.put,List.setIfInBounds_toArray,List.set_cons_zero,List.set_cons_succ]
     refine wpAnyH_ready (rs:=[4]) (by kernel_rfl) (by simp) ?_
     refine AllReadyH.cons rfl (fun K0 hK => ?_) AllReadyH.nil
     go_simp
     go_at_call 200
     refine (two200_any kc kind k' k2 s' s2 a' a2 m' c' n2 c2 w3 (HB3.out.at HKC.out hkp)).mono ?_
     rintro e w4 ⟨rfl,hb4,hg4⟩
     dsimp only
     refine hK.out _ _ trivial (fun _ => ?_)
     clear hK K0
     try simp only [Act.put,List.setIfInBounds_toArray,List.set_cons_zero,List.set_cons_succ]
     have hkv4:=(hb4.block _ (Array.getElem?_eq_some_iff.1 HKV3.out).1).trans HKV3.out
     have hkr4:=(Bt.of_below (pb:=pb) hb4).at (HBB.out.at (HB2.out.at HC.out.res (by omega)) (by omega)) (by omega)
     obtain ⟨d0,d1,d2,f0,f1,f2⟩:=cf3 hkv4
     have HNEW : Hid (ChF pb tb deep w.heap.size kv w (set3 w4 kv (.int .u8 kind) (.string ⟨#[]⟩) (.slice (some ⟨w3.heap.size + 3,0,none⟩) 2 2)) (.mk kind ⟨#[]⟩ [x',y]) r'):=by
      have hsz3:=HB3.out.2.2.2.1
      have hs4:=hb4.size
      have hb24 : Bt pb w2 w4:=HBB.out.trans (.of_below hb4)
      have hlt4:=(Array.getElem?_eq_some_iff.1 hg4).1
      have hkvl:=(Array.getElem?_eq_some_iff.1 HKV2.out).1
      have hfx : FI (pC w.heap.size w.heap.size kv) w4 x' (.agg #[.int .u8 k',.string s',.slice a' m' c']):=by
       refine HFI.out.go ⟨?_,fun b hbz hpc => ⟨hpc,?_⟩⟩
       ·exact Nat.le_trans HB2.out.2.2.2.1 hb24.2.2.2.1
       ·simp only [pC,Bool.and_eq_true,decide_eq_true_eq,bne_iff_ne,ne_eq] at hpc
        exact ((HB2.out.trans hb24).2.2.2.2 b hbz (by omega))
      have hfy : FI (pC w.heap.size w.heap.size kv) w4 y (.agg #[.int .u8 k2,.string s2,.slice a2 n2 c2]):=by
       refine HF2.out.go ⟨hs4,fun b hbz hpn => ⟨?_,hb4.block b hbz⟩⟩
       have hpn' : w2.heap.size ≤ b:=of_decide_eq_true (show decide (w2.heap.size ≤ b) = true from hpn)
       have:=HBW.out.2.2.2.1
       simp only [pC,Bool.and_eq_true,decide_eq_true_eq,bne_iff_ne,ne_eq]
       omega
      have hft:=FI.two hfx hfy kind ⟨#[]⟩ (w3.heap.size + 3) 2 (0,0) (by
       simp only [pC,Bool.and_eq_true,decide_eq_true_eq,bne_iff_ne,ne_eq]
       have:=HBB.out.2.2.2.1
       have h2 : w2.drew.heap.size = w2.heap.size:=rfl
       omega) hg4
      refine ⟨⟨_,_,_,_,_,z0q hkv4 _ _ _,hft.go ⟨by rw [z0s]; exact Nat.le_refl _,fun b hbz hpc => ⟨hpc,z0f _ _ _ _ _ _ ?_⟩⟩⟩,((HP3.out.below hb4).set3 (fun e => hkvp e.symm) hkvt _ _ _),((HB3.out.trans (.of_below hb4)).set3 hle _ _ _),(z0f _ _ _ _ _ _ hkr).trans hkr4⟩
      simp only [pC,Bool.and_eq_true,decide_eq_true_eq,bne_iff_ne,ne_eq] at hpc
      exact hpc.2
     clear hb4 hg4 hkv4 hkr4
     refine wpAnyH_ready (rs:=[5]) (by kernel_rfl) (by simp) ?_
     refine AllReadyH.cons rfl (fun K0 hK => ?_) AllReadyH.nil
     go_simp
     refine hK.out _ _ trivial (fun _ => ?_)
     clear hK K0
     try simp only [Act.put,List.setIfInBounds_toArray,List.set_cons_zero,List.set_cons_succ]
     refine wpAnyH_done (by kernel_rfl) ?_ _
     have HLEFT : Hid (z4w pb (set3 w4 kv (.int .u8 kind) (.string ⟨#[]⟩) (.slice (some ⟨w3.heap.size + 3,0,none⟩) 2 2)) < z4w pb wr):=by
      rw [Hid,HNEW.out.ps.left,HC.out.ps.left,HL0.out]
      have:=HRL.out
      rw [HL0.out] at this
      simp at this
      simp; omega
     have HLE : Hid (r'.length ≤ n0):=by
      rw [Hid]
      have:=HRL.out
      have h2:=hn'
      rw [HL0.out] at this h2
      simp at this h2
      omega
     clear d0 d1 d2 f0 f1 f2
     go_wp2_with fail
     go_roundw
     case rel => exact ⟨_,r',n0,HLE.out,by rw [Hid,HSTEP.out],HNEW⟩
     case measure => exact HLEFT.out
    ·go_simp
     refine HCALL.out.mono ?_
     rintro e w3 ho
     obtain ⟨k2,s2,a2,n2,c2,rfl,hf2,hp3,hb3⟩:=OutF.ok ho
     dsimp only
     have hkv3:=hb3.at HKV2.out hkvp
     obtain ⟨g0,g1,g2⟩:=cc3 hkv3
     have HF2:=Lib.hid hf2
     have HP3:=Lib.hid hp3
     have HB3:=Lib.hid (HBW.out.trans hb3)
     have HBB:=Lib.hid hb3
     have HKV3:=Lib.hid hkv3
     clear ho hf2 hp3 hb3 hkv3
     refine hK.out _ _ trivial (fun _ => ?_)
     clear hK K0
     try simp only [Act.put,List.setIfInBounds_toArray,List.set_cons_zero,List.set_cons_succ]
     refine wpAnyH_ready (rs:=[1]) (by kernel_rfl) (by simp) ?_
     refine AllReadyH.cons rfl (fun K0 hK => ?_) AllReadyH.nil
     go_simp
     refine hK.out _ _ trivial (fun _ => ?_)
     clear hK K0
     try simp only [Act.put,List.setIfInBounds_toArray,List.set_cons_zero,List.set_cons_succ]
     refine wpAnyH_ready (rs:=[4]) (by kernel_rfl) (by simp) ?_
     refine AllReadyH.cons rfl (fun K0 hK => ?_) AllReadyH.nil
     go_simp
     go_at_call 200
     refine (two200_any kc kind k' k2 s' s2 a' a2 m' c' n2 c2 w3 (HB3.out.at HKC.out hkp)).mono ?_
     rintro e w4 ⟨rfl,hb4,hg4⟩
     dsimp only
     refine hK.out _ _ trivial (fun _ => ?_)
     clear hK K0
     try simp only [Act.put,List.setIfInBounds_toArray,List.set_cons_zero,List.set_cons_succ]
     have hkv4:=(hb4.block _ (Array.getElem?_eq_some_iff.1 HKV3.out).1).trans HKV3.out
     have hkr4:=(Bt.of_below (pb:=pb) hb4).at (HBB.out.at (HB2.out.at HC.out.res (by omega)) (by omega)) (by omega)
     obtain ⟨d0,d1,d2,f0,f1,f2⟩:=cf3 hkv4
     have HNEW : Hid (ChF pb tb deep w.heap.size kv w (set3 w4 kv (.int .u8 kind) (.string ⟨#[]⟩) (.slice (some ⟨w3.heap.size + 3,0,none⟩) 2 2)) (.mk kind ⟨#[]⟩ [x',y]) r'):=by
      have hsz3:=HB3.out.2.2.2.1
      have hs4:=hb4.size
      have hb24 : Bt pb w2 w4:=HBB.out.trans (.of_below hb4)
      have hlt4:=(Array.getElem?_eq_some_iff.1 hg4).1
      have hkvl:=(Array.getElem?_eq_some_iff.1 HKV2.out).1
      have hfx : FI (pC w.heap.size w.heap.size kv) w4 x' (.agg #[.int .u8 k',.string s',.slice a' m' c']):=by
       refine HFI.out.go ⟨?_,fun b hbz hpc => ⟨hpc,?_⟩⟩
       ·exact Nat.le_trans HB2.out.2.2.2.1 hb24.2.2.2.1
       ·simp only [pC,Bool.and_eq_true,decide_eq_true_eq,bne_iff_ne,ne_eq] at hpc
        exact ((HB2.out.trans hb24).2.2.2.2 b hbz (by omega))
      have hfy : FI (pC w.heap.size w.heap.size kv) w4 y (.agg #[.int .u8 k2,.string s2,.slice a2 n2 c2]):=by
       refine HF2.out.go ⟨hs4,fun b hbz hpn => ⟨?_,hb4.block b hbz⟩⟩
       have hpn' : w2.heap.size ≤ b:=of_decide_eq_true (show decide (w2.heap.size ≤ b) = true from hpn)
       have:=HBW.out.2.2.2.1
       simp only [pC,Bool.and_eq_true,decide_eq_true_eq,bne_iff_ne,ne_eq]
       omega
      have hft:=FI.two hfx hfy kind ⟨#[]⟩ (w3.heap.size + 3) 2 (0,0) (by
       simp only [pC,Bool.and_eq_true,decide_eq_true_eq,bne_iff_ne,ne_eq]
       have:=HBB.out.2.2.2.1
       have h2 : w2.drew.heap.size = w2.heap.size:=rfl
       omega) hg4
      refine ⟨⟨_,_,_,_,_,z0q hkv4 _ _ _,hft.go ⟨by rw [z0s]; exact Nat.le_refl _,fun b hbz hpc => ⟨hpc,z0f _ _ _ _ _ _ ?_⟩⟩⟩,((HP3.out.below hb4).set3 (fun e => hkvp e.symm) hkvt _ _ _),((HB3.out.trans (.of_below hb4)).set3 hle _ _ _),(z0f _ _ _ _ _ _ hkr).trans hkr4⟩
      simp only [pC,Bool.and_eq_true,decide_eq_true_eq,bne_iff_ne,ne_eq] at hpc
      exact hpc.2
     clear hb4 hg4 hkv4 hkr4
     refine wpAnyH_ready (rs:=[5]) (by kernel_rfl) (by simp) ?_
     refine AllReadyH.cons rfl (fun K0 hK => ?_) AllReadyH.nil
     go_simp
     refine hK.out _ _ trivial (fun _ => ?_)
     clear hK K0
     try simp only [Act.put,List.setIfInBounds_toArray,List.set_cons_zero,List.set_cons_succ]
     refine wpAnyH_done (by kernel_rfl) ?_ _
     have HLEFT : Hid (z4w pb (set3 w4 kv (.int .u8 kind) (.string ⟨#[]⟩) (.slice (some ⟨w3.heap.size + 3,0,none⟩) 2 2)) < z4w pb wr):=by
      rw [Hid,HNEW.out.ps.left,HC.out.ps.left,HL0.out]
      have:=HRL.out
      rw [HL0.out] at this
      simp at this
      simp; omega
     have HLE : Hid (r'.length ≤ n0):=by
      rw [Hid]
      have:=HRL.out
      have h2:=hn'
      rw [HL0.out] at this h2
      simp at this h2
      omega
     clear d0 d1 d2 f0 f1 f2
     go_wp2_with fail
     go_roundw
     case rel => exact ⟨_,r',n0,HLE.out,by rw [Hid,HSTEP.out],HNEW⟩
     case measure => exact HLEFT.out
end Go.Proofs.YtpgdplmndnopbaaGreatDoor
namespace Go.Proofs.YtpgdplmndnopbaaGreatDoor
open Go.RowKit
theorem XI.atom {p : Nat → Bool} {w : World} {f : F} {k1 : Int} {s1 : ByteArray} {a1 : Option Addr} {l1 c1 : Nat} (h : FI p w f (.agg #[.int .u8 k1,.string s1,.slice a1 l1 c1])) (k : Int) (g c c2 : Nat) (a2 : Option Addr) (fr : Nat × Nat) (hp : p g = true)
 (hg : w.heap[g]? = some (.cells #[.int .u8 k1,.string s1,.slice a1 l1 c1] 61 fr)) :
 XI p w (.mk k [f] [] noSpan) (.agg #[.int .u8 k,.slice (some ⟨g,0,none⟩) 1 c,.slice a2 0 c2,.int .i64 0,.bool false,.int .i64 0,.bool false,.bool false]):=by
 obtain ⟨n,t',h1,h2⟩:=h
 refine ⟨n,1,(k,[t'],[],noSpan),by simp [toX,h1],_,c,a2,c2,rfl,⟨by simp,.inr ⟨g,0,rfl,(Array.getElem?_eq_some_iff.1 hg).1,fun i hi => ?_⟩⟩,by simp,.inl rfl⟩
 have hi0 : i = 0:=by simp at hi; omega
 subst hi0
 refine ⟨[.int .u8 k1,.string s1,.slice a1 l1 c1],rfl,fun j hj => ?_,h2⟩
 rw [List.getElem?_eq_getElem (by simpa using hj)]
 refine z3a hp ?_
 rw [Lib.cell_of_heap hg]
 match j,hj with
 | 0,_ => rfl
 | 1,_ => rfl
 | 2,_ => rfl
theorem XI.one {p : Nat → Bool} {w : World} {t : X} {k1 lo1 hi1 : Int} {ls1 hs1 op1 : Bool} {a1 b1 : Option Addr} {l1 c1 m1 d1 : Nat}
 (h : XI p w t (.agg #[.int .u8 k1,.slice a1 l1 c1,.slice b1 m1 d1,.int .i64 lo1,.bool ls1,.int .i64 hi1,.bool hs1,.bool op1])) (k lo hi : Int) (ls hs op : Bool) (g c c2 : Nat) (a2 : Option Addr) (fr : Nat × Nat) (hp : p g = true)
 (hg : w.heap[g]? = some (.cells #[.int .u8 k1,.slice a1 l1 c1,.slice b1 m1 d1,.int .i64 lo1,.bool ls1,.int .i64 hi1,.bool hs1,.bool op1] 28 fr)) :
 XI p w (.mk k [] [t] ⟨lo,ls,hi,hs,op⟩) (.agg #[.int .u8 k,.slice a2 0 c2,.slice (some ⟨g,0,none⟩) 1 c,.int .i64 lo,.bool ls,.int .i64 hi,.bool hs,.bool op]):=by
 obtain ⟨m,n,t',h1,h2⟩:=h
 refine ⟨m,n + 1,(k,[],[t'],⟨lo,ls,hi,hs,op⟩),by simp [toX,h1],a2,c2,_,c,rfl,⟨by simp,.inl rfl⟩,by simp,.inr ⟨g,0,rfl,(Array.getElem?_eq_some_iff.1 hg).1,fun i hi => ?_⟩⟩
 have hi0 : i = 0:=by simp at hi; omega
 subst hi0
 refine ⟨[.int .u8 k1,.slice a1 l1 c1,.slice b1 m1 d1,.int .i64 lo1,.bool ls1,.int .i64 hi1,.bool hs1,.bool op1],rfl,fun j hj => ?_,h2⟩
 rw [List.getElem?_eq_getElem (by simpa using hj)]
 refine z3a hp ?_
 rw [Lib.cell_of_heap hg]
 match j,hj with
 | 0,_ => rfl
 | 1,_ => rfl
 | 2,_ => rfl
 | 3,_ => rfl
 | 4,_ => rfl
 | 5,_ => rfl
 | 6,_ => rfl
 | 7,_ => rfl
theorem XI.two {p : Nat → Bool} {w : World} {t u : X} {k1 lo1 hi1 k2 lo2 hi2 : Int} {ls1 hs1 op1 ls2 hs2 op2 : Bool} {a1 b1 a2 b2 : Option Addr} {l1 c1 m1 d1 l2 c2 m2 d2 : Nat}
 (h : XI p w t (.agg #[.int .u8 k1,.slice a1 l1 c1,.slice b1 m1 d1,.int .i64 lo1,.bool ls1,.int .i64 hi1,.bool hs1,.bool op1]))
 (h' : XI p w u (.agg #[.int .u8 k2,.slice a2 l2 c2,.slice b2 m2 d2,.int .i64 lo2,.bool ls2,.int .i64 hi2,.bool hs2,.bool op2])) (k : Int) (g c c0 : Nat) (a0 : Option Addr) (fr : Nat × Nat) (hp : p g = true)
 (hg : w.heap[g]? = some (.cells #[.int .u8 k1,.slice a1 l1 c1,.slice b1 m1 d1,.int .i64 lo1,.bool ls1,.int .i64 hi1,.bool hs1,.bool op1,.int .u8 k2,.slice a2 l2 c2,.slice b2 m2 d2,.int .i64 lo2,.bool ls2,.int .i64 hi2,.bool hs2,.bool op2] 28 fr)) :
 XI p w (z12 k t u) (.agg #[.int .u8 k,.slice a0 0 c0,.slice (some ⟨g,0,none⟩) 2 c,.int .i64 0,.bool false,.int .i64 0,.bool false,.bool false]):=by
 obtain ⟨m,n,t',h1,h2⟩:=h
 obtain ⟨m',n',u',h1',h2'⟩:=h'
 obtain ⟨t1,e1,e2⟩:=repM_to h2 m'
 obtain ⟨u1,e1',e2'⟩:=repM_to h2' m
 obtain ⟨t2,g1,g2⟩:=repX_to e2 n'
 obtain ⟨u2,g1',g2'⟩:=repX_to e2' n
 rw [e1,h1] at g1
 rw [e1',h1'] at g1'
 revert u2
 rw [Nat.add_comm n' n,Nat.add_comm m' m]
 intro u2 g1' g2'
 refine ⟨m + m',n + n' + 1,(k,[],[t2,u2],noSpan),by simp [toX,g1,g1',z12],a0,c0,_,c,rfl,⟨by simp,.inl rfl⟩,by simp,.inr ⟨g,0,rfl,(Array.getElem?_eq_some_iff.1 hg).1,fun i hi => ?_⟩⟩
 have hi2 : i = 0 ∨ i = 1:=by simp at hi; omega
 rcases hi2 with rfl | rfl
 ·refine ⟨[.int .u8 k1,.slice a1 l1 c1,.slice b1 m1 d1,.int .i64 lo1,.bool ls1,.int .i64 hi1,.bool hs1,.bool op1],rfl,fun j hj => ?_,g2⟩
  rw [List.getElem?_eq_getElem (by simpa using hj)]
  refine z3a hp ?_
  rw [Lib.cell_of_heap hg]
  match j,hj with
  | 0,_ => rfl
  | 1,_ => rfl
  | 2,_ => rfl
  | 3,_ => rfl
  | 4,_ => rfl
  | 5,_ => rfl
  | 6,_ => rfl
  | 7,_ => rfl
 ·refine ⟨[.int .u8 k2,.slice a2 l2 c2,.slice b2 m2 d2,.int .i64 lo2,.bool ls2,.int .i64 hi2,.bool hs2,.bool op2],rfl,fun j hj => ?_,g2'⟩
  rw [List.getElem?_eq_getElem (by simpa using hj)]
  refine z3a hp ?_
  rw [Lib.cell_of_heap hg]
  match j,hj with
  | 0,_ => rfl
  | 1,_ => rfl
  | 2,_ => rfl
  | 3,_ => rfl
  | 4,_ => rfl
  | 5,_ => rfl
  | 6,_ => rfl
  | 7,_ => rfl
def OutX (pb tb deep : Nat) (w : World) (r : PRes X) (e : Ending) (w' : World) : Prop :=
 match r with
 | .ok (x,l') => ∃ v,e = .returned v ∧ XI (pN w.heap.size) w' x v ∧ Ps pb tb w' l' deep ∧ Bt pb w w'
 | .error c => e = .panicked (thr c.1 c.2) ∧ Bt pb w w'
theorem OutX.ok {pb tb deep : Nat} {w w' : World} {x : X} {l : List Tok} {e : Ending} (h : OutX pb tb deep w (.ok (x,l)) e w') :
 ∃ k a n c b m d lo ls hi hs op,e = .returned (.agg #[.int .u8 k,.slice a n c,.slice b m d,.int .i64 lo,.bool ls,.int .i64 hi,.bool hs,.bool op]) ∧
  XI (pN w.heap.size) w' x (.agg #[.int .u8 k,.slice a n c,.slice b m d,.int .i64 lo,.bool ls,.int .i64 hi,.bool hs,.bool op]) ∧ Ps pb tb w' l deep ∧ Bt pb w w':=by
 obtain ⟨v,h1,h2,h3⟩:=h
 obtain ⟨k,a,n,c,b,m,d,lo,ls,hi,hs,op,rfl⟩:=h2.shape
 exact ⟨k,a,n,c,b,m,d,lo,ls,hi,hs,op,h1,h2,h3⟩
def set8 (w : World) (g : Nat) (v0 v1 v2 v3 v4 v5 v6 v7 : Value) : World :=
 (((((((w.setCell ⟨g,0,none⟩ v0).setCell ⟨g,1,none⟩ v1).setCell ⟨g,2,none⟩ v2).setCell ⟨g,3,none⟩ v3).setCell ⟨g,4,none⟩ v4).setCell ⟨g,5,none⟩ v5).setCell ⟨g,6,none⟩ v6).setCell ⟨g,7,none⟩ v7
theorem z0c {w : World} {g : Nat} {u0 u1 u2 u3 u4 u5 u6 u7 : Value} {t : TypeId} (h : w.heap[g]? = some (.cells #[u0,u1,u2,u3,u4,u5,u6,u7] t (0,0))) (v0 v1 v2 v3 v4 v5 v6 v7 : Value) :
 (set8 w g v0 v1 v2 v3 v4 v5 v6 v7).heap[g]? = some (.cells #[v0,v1,v2,v3,v4,v5,v6,v7] t (0,0)):=by
 simp [set8,World.setCell,Array.getElem?_modify,h]
theorem z09 {w : World} {g : Nat} {cs : Array Value} {t : TypeId} {fz : Nat × Nat} (h : w.heap[g]? = some (.cells cs t fz)) (j : Nat) (v : Value) : (w.setCell ⟨g,j,none⟩ v).heap[g]? = some (.cells (cs.setIfInBounds j v) t fz):=by
 simp [World.setCell,Array.getElem?_modify,h]
theorem z02 (w : World) (g i : Nat) (v : Value) (j : Nat) (hj : j ≠ g) : (w.setCell ⟨g,i,none⟩ v).heap[j]? = w.heap[j]?:=Below.heap_setCell _ _ _ _ (by simpa using hj)
theorem z03 (w : World) (g : Nat) (v0 v1 v2 v3 v4 v5 v6 v7 : Value) (j : Nat) (hj : j ≠ g) : (set8 w g v0 v1 v2 v3 v4 v5 v6 v7).heap[j]? = w.heap[j]?:=by
 unfold set8
 rw [z02 _ g _ _ j hj,z02 _ g _ _ j hj,z02 _ g _ _ j hj,z02 _ g _ _ j hj,z02 _ g _ _ j hj,z02 _ g _ _ j hj,z02 _ g _ _ j hj,z02 _ g _ _ j hj]
theorem z0b (w : World) (g : Nat) (v0 v1 v2 v3 v4 v5 v6 v7 : Value) : (set8 w g v0 v1 v2 v3 v4 v5 v6 v7).heap.size = w.heap.size:=by simp [set8,World.setCell]
theorem Bt.setCell {pb : Nat} {w w' : World} (h : Bt pb w w') {g : Nat} (hg : w.heap.size ≤ g) (i : Nat) (v : Value) : Bt pb w (w'.setCell ⟨g,i,none⟩ v) :=
 ⟨h.1,h.2.1,h.2.2.1,by simpa [World.setCell] using h.2.2.2.1,fun k hk hp => (z02 _ _ _ _ _ (by omega)).trans (h.2.2.2.2 k hk hp)⟩
theorem Bt.set8 {pb : Nat} {w w' : World} (h : Bt pb w w') {g : Nat} (hg : w.heap.size ≤ g) (v0 v1 v2 v3 v4 v5 v6 v7 : Value) : Bt pb w (set8 w' g v0 v1 v2 v3 v4 v5 v6 v7):=by
 unfold Go.Proofs.YtpgdplmndnopbaaGreatDoor.set8
 exact (((((((h.setCell hg 0 v0).setCell hg 1 v1).setCell hg 2 v2).setCell hg 3 v3).setCell hg 4 v4).setCell hg 5 v5).setCell hg 6 v6).setCell hg 7 v7
theorem Ps.set8 {pb tb deep : Nat} {w : World} {l : List Tok} (h : Ps pb tb w l deep) {g : Nat} (hg : pb ≠ g) (hT : tb ≠ g) (v0 v1 v2 v3 v4 v5 v6 v7 : Value) : Ps pb tb (set8 w g v0 v1 v2 v3 v4 v5 v6 v7) l deep:=by
 obtain ⟨off,cap,h1,h2,h3,h4,h5,h6⟩:=h.blk
 exact ⟨⟨off,cap,(z03 _ _ _ _ _ _ _ _ _ _ _ hg).trans h1,h2,h3,h4,by rw [z0b]; exact h5,h6.agree (z03 _ _ _ _ _ _ _ _ _ _ _ hT)⟩,h.ends,h.toks⟩
end Go.Proofs.YtpgdplmndnopbaaGreatDoor
namespace Go.Proofs.YtpgdplmndnopbaaGreatDoor
open Go.RowKit
end Go.Proofs.YtpgdplmndnopbaaGreatDoor
namespace Go.Proofs.YtpgdplmndnopbaaGreatDoor
open Go.RowKit
end Go.Proofs.YtpgdplmndnopbaaGreatDoor
