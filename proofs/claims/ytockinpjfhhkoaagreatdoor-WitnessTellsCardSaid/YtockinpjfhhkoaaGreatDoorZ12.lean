/- A row of digits is a number just if strconv parses it, it is small, and it prints as itself: no program in sight. -/
import Derived.Lib.ParseIntB
import Derived.Lib.ItoaNum
import Derived.Lib.ItoaLen
import Derived.Test.YtockinpjfhhkoaaGreatDoorZ00
import Derived.Test.YtockinpjfhhkoaaGreatDoorZ11
set_option maxRecDepth 100000
set_option maxHeartbeats 16000000
open List renaming getElem_cons_zero → J5, getElem?_cons_zero → J7, getElem?_cons_succ → J8, getElem?_toArray → J9
open Go.Lib renaming cell_of_heap → Jc, frozen_of_heap → Jf, hid → Jh
namespace Go.Proofs.YtockinpjfhhkoaaGreatDoor
theorem digVal_snoc' (l : List UInt8) (c : UInt8) : ∀ a,z1a a (l ++ [c]) = 10 * z1a a l + (c.toNat - 48):=by
 induction l with
 | nil => intro a; rfl
 | cons b r ih => intro a; rw [List.cons_append,z0w,z0w,ih]
theorem digVal_ge (l : List UInt8) : ∀ a,a ≤ z1a a l:=by
 induction l with
 | nil => intro a; exact Nat.le_refl _
 | cons b r ih =>
  intro a
  rw [z0w]
  have:=ih (10 * a + (b.toNat - 48))
  omega
theorem parse_ok (M : Nat) (l : List UInt8) : ∀ a n,Lib.parseUintM M a l = .ok n → l.all z33 = true ∧ n = z1a a l:=by
 induction l with
 | nil => intro a n h; simp only [Lib.parseUintM,Lib.NumEnd.ok.injEq] at h; exact ⟨rfl,h.symm⟩
 | cons b r ih =>
  intro a n h
  simp only [Lib.parseUintM] at h
  split at h
  ·rename_i hd
   split at h
   ·cases h
   ·split at h
    ·cases h
    ·obtain ⟨h1,h2⟩:=ih _ _ h
     refine ⟨?_,?_⟩
     ·simp only [List.all_cons,h1,z33,hd.1,hd.2]; rfl
     ·rw [h2,z0w]; congr 1; omega
  ·cases h
theorem parse_small (l : List UInt8) : ∀ a,l.all z33 = true → z1a a l < 288230376151711744 → Lib.parseUintM 4611686018427387903 a l = .ok (z1a a l):=by
 induction l with
 | nil => intro a _ _; rfl
 | cons b r ih =>
  intro a h hv
  simp only [List.all_cons,Bool.and_eq_true] at h
  have hd:=h.1
  simp only [z33,Bool.and_eq_true,decide_eq_true_eq] at hd
  rw [z0w] at hv ⊢
  have h1:=digVal_ge r (10 * a + (b.toNat - 48))
  simp only [Lib.parseUintM]
  rw [if_pos hd,if_neg (by omega),if_neg (by omega),show a * 10 + (b.toNat - 48) = 10 * a + (b.toNat - 48) by omega]
  exact ih _ h.2 hv
theorem digVal_lt' (l : List UInt8) (h : l.all z33 = true) : ∀ a,z1a a l < (a + 1) * 10 ^ l.length:=by
 induction l with
 | nil => intro a; simp [z1a]
 | cons b r ih =>
  intro a
  simp only [List.all_cons,Bool.and_eq_true] at h
  have h1:=h.1
  simp only [z33,Bool.and_eq_true,decide_eq_true_eq] at h1
  have:=ih h.2 (10 * a + (b.toNat - 48))
  rw [z0w,List.length_cons,Nat.pow_succ]
  refine Nat.lt_of_lt_of_le this ?_
  calc (10 * a + (b.toNat - 48) + 1) * 10 ^ r.length ≤ ((a + 1) * 10) * 10 ^ r.length:=Nat.mul_le_mul_right _ (by omega)
   _ = (a + 1) * (10 ^ r.length * 10):=by rw [Nat.mul_assoc,Nat.mul_comm 10]
theorem digVal_lead (l : List UInt8) : ∀ a,a * 10 ^ l.length ≤ z1a a l:=by
 induction l with
 | nil => intro a; simp [z1a]
 | cons b r ih =>
  intro a
  rw [z0w,List.length_cons,Nat.pow_succ]
  refine Nat.le_trans ?_ (ih _)
  calc a * (10 ^ r.length * 10) = (10 * a) * 10 ^ r.length:=by rw [Nat.mul_comm (10 ^ r.length),← Nat.mul_assoc,Nat.mul_comm a]
   _ ≤ _:=Nat.mul_le_mul_right _ (by omega)
theorem dec_of_digits (l : List UInt8) (hne : l ≠ []) (h : l.all z33 = true) (hz : l.length ≤ 1 ∨ l.head? ≠ some 48) : Lib.decDigits (z1a 0 l) = l:=by
 generalize hn : l.length = n
 induction n using Nat.strongRecOn generalizing l with
 | ind n ih =>
  rcases List.eq_nil_or_concat l with rfl | ⟨p,c,rfl⟩
  ·exact absurd rfl hne
  ·rw [List.concat_eq_append] at *
   rw [digVal_snoc']
   simp only [List.all_append,List.all_cons,List.all_nil,Bool.and_true,Bool.and_eq_true] at h
   have hc:=h.2
   simp only [z33,Bool.and_eq_true,decide_eq_true_eq] at hc
   have hb : UInt8.ofNat (48 + (c.toNat - 48)) = c:=by
    have : 48 + (c.toNat - 48) = c.toNat:=by omega
    rw [this]; simp
   cases p with
   | nil =>
    have : z1a 0 [] = 0:=rfl
    rw [this,Nat.mul_zero,Nat.zero_add,Lib.decDigits,dif_pos (by omega),hb]
    rfl
   | cons b r =>
    have hh : b ≠ 48:=by
     rcases hz with hz | hz
     ·simp at hz
     ·simpa using hz
    have hbd:=h.1
    simp only [List.all_cons,Bool.and_eq_true] at hbd
    have hbd1:=hbd.1
    simp only [z33,Bool.and_eq_true,decide_eq_true_eq] at hbd1
    have hb48 : b.toNat ≠ 48:=fun e => hh (UInt8.toNat.inj e)
    have hpos : 1 ≤ z1a 0 (b :: r):=by
     rw [z0w]
     have:=digVal_ge r (10 * 0 + (b.toNat - 48))
     omega
    have hi:=ih (b :: r).length (by rw [← hn]; simp) (b :: r) (by simp) h.1 (.inr (by simpa using hh)) rfl
    rw [Lib.decDigits,dif_neg (by omega),show (10 * z1a 0 (b :: r) + (c.toNat - 48)) / 10 = z1a 0 (b :: r) by omega,show (10 * z1a 0 (b :: r) + (c.toNat - 48)) % 10 = c.toNat - 48 by omega,hi,hb]
theorem numOk_iff (l : List UInt8) (hne : l ≠ []) : z32 l = true ↔ ∃ n,Lib.parseUintM 4611686018427387903 0 l = .ok n ∧ n < 288230376151711744 ∧ Lib.decDigits n = l:=by
 constructor
 ·intro h
  simp only [z32,Bool.and_eq_true,Bool.or_eq_true,decide_eq_true_eq,bne_iff_ne] at h
  obtain ⟨⟨⟨h1,_⟩,h3⟩,h4⟩:=h
  exact ⟨_,parse_small l 0 h1 h4,h4,dec_of_digits l hne h1 h3⟩
 ·rintro ⟨n,h1,h2,h3⟩
  obtain ⟨hall,rfl⟩:=parse_ok _ _ _ _ h1
  have hz : l.length ≤ 1 ∨ l.head? ≠ some 48:=by
   cases l with
   | nil => exact absurd rfl hne
   | cons b r =>
    by_cases h : r = []
    ·subst h; left; simp
    ·right
     intro hb
     simp only [List.head?_cons,Option.some.injEq] at hb
     subst hb
     have e : z1a 0 (48 :: r) = z1a 0 r:=by rw [z0w]; rfl
     rw [e] at h3
     simp only [List.all_cons,Bool.and_eq_true] at hall
     have hlt:=digVal_lt' r hall.2 0
     have hr : 1 ≤ r.length:=List.length_pos_iff.2 h
     have hl:=congrArg List.length h3
     rw [Lib.decDigits_length,List.length_cons] at hl
     -- a number below 10 ^ r.length has at most r.length digits
     have hnd : Lib.nDigits (z1a 0 r) ≤ r.length:=by
      rw [Nat.zero_add,Nat.one_mul] at hlt
      have : ∀ k u,1 ≤ k → u < 10 ^ k → Lib.nDigits u ≤ k:=by
       intro k
       induction k with
       | zero => intro u h; omega
       | succ k ih =>
        intro u _ hu
        by_cases h10 : u < 10
        ·rw [Lib.nDigits_small h10]; omega
        ·rw [Lib.nDigits_big h10]
         have hk : 1 ≤ k:=by
          rcases Nat.eq_zero_or_pos k with rfl | hk
          ·simp at hu; omega
          ·exact hk
         have:=ih (u / 10) hk (by rw [Nat.pow_succ] at hu; omega)
         omega
      exact this _ _ hr hlt
     omega
  have hlen : l.length ≤ 18:=by
   rcases hz with hz | hz
   ·omega
   ·cases l with
    | nil => simp
    | cons b r =>
     have hb48 : b ≠ 48:=by simpa using hz
     have hbt : b.toNat ≠ 48:=fun e => hb48 (UInt8.toNat.inj e)
     simp only [List.all_cons,Bool.and_eq_true] at hall
     have hd:=hall.1
     simp only [z33,Bool.and_eq_true,decide_eq_true_eq] at hd
     rw [z0w] at h2
     have h5:=digVal_lead r (10 * 0 + (b.toNat - 48))
     have h6 : 10 ^ r.length ≤ (10 * 0 + (b.toNat - 48)) * 10 ^ r.length:=Nat.le_mul_of_pos_left _ (by omega)
     have h7 : 10 ^ r.length < 10 ^ 18:=by
      refine Nat.lt_of_le_of_lt (Nat.le_trans h6 h5) (Nat.lt_of_lt_of_le h2 (by decide))
     have h8:=(Nat.pow_lt_pow_iff_right (by decide : 1 < 10)).1 h7
     simp only [List.length_cons]; omega
  simp only [z32,Bool.and_eq_true,Bool.or_eq_true,decide_eq_true_eq,bne_iff_ne]
  exact ⟨⟨⟨hall,hlen⟩,hz⟩,h2⟩
open Go.RowKit Go.Shelf
attribute [local go_sem ↓] Go.wp_at_zero Go.wp_at_succ
def rowR (s : ByteArray) : Tok × Int :=
 match z0k s.data.toList with
 | .ok k => (⟨k,s,0⟩,0)
 | .error e => (z58,e)
theorem kindR_low (b : UInt8) : ((z43 b.toNat == 2) : Bool) = z3p b:=by
 simp only [z43,z3p]
 rw [Bool.eq_iff_iff]
 simp only [beq_iff_eq,Bool.and_eq_true,decide_eq_true_eq]
 constructor
 ·intro h
  split at h
  ·omega
  ·split at h
   ·cases h
   ·split at h <;> cases h
 ·rintro ⟨h1,h2⟩
  rw [if_pos ⟨by omega,by omega⟩]
theorem parse_le (M : Nat) (l : List UInt8) : ∀ a n,a ≤ M → Lib.parseUintM M a l = .ok n → n ≤ M:=by
 induction l with
 | nil => intro a n ha h; simp only [Lib.parseUintM,Lib.NumEnd.ok.injEq] at h; omega
 | cons b r ih =>
  intro a n ha h
  simp only [Lib.parseUintM] at h
  split at h
  ·split at h
   ·cases h
   ·split at h
    ·cases h
    ·exact ih _ _ (by omega) h
  ·cases h
theorem loadVar3 {P : Program} {w : World} {g : Nat} {ty : TypeId} {x y z : Value} (hagg : (isAgg ty).run P w = .ok true w) (hsz : (Go.sizeOf ty).run P w = .ok 3 w)
 (h0 : w.cell? ⟨g,0,none⟩ = some x) (h1 : w.cell? ⟨g,1,none⟩ = some y) (h2 : w.cell? ⟨g,2,none⟩ = some z) : (loadVar ty ⟨g,0,none⟩).run P w = .ok (.agg #[x,y,z]) w:=by
 have hl : (loadCells ⟨g,0,none⟩ [x,y,z].length).run P w = .ok [x,y,z].toArray w :=
  run_loadCells_list (P:=P) w ⟨g,0,none⟩ [x,y,z] (fun j v hj => by
   match j,hj with
   | 0,hj => simp at hj; subst hj; exact h0
   | 1,hj => simp at hj; subst hj; exact h1
   | 2,hj => simp at hj; subst hj; exact h2)
 have hl' : (loadCells ⟨g,0,none⟩ 3).run P w = .ok #[x,y,z] w:=hl
 simp [loadVar,Sem.run_bind,hagg,hsz,hl']
theorem z0d {fn : Func} {q u : Tmp} {ty : TypeId} (h : fn.results = #[.cell q ty,.tmp u]) {tmps : Array Value} {P : Program} {w : World} {g : Nat} {x y z v : Value}
 (hp : tmps.getD q undef = .pointer (some ⟨g,0,none⟩)) (hv : tmps.getD u undef = v) (hagg : (isAgg ty).run P w = .ok true w) (hsz : (Go.sizeOf ty).run P w = .ok 3 w)
 (h0 : w.cell? ⟨g,0,none⟩ = some x) (h1 : w.cell? ⟨g,1,none⟩ = some y) (h2 : w.cell? ⟨g,2,none⟩ = some z) : (results fn tmps).run P w = .ok (.tuple #[.agg #[x,y,z],v]) w:=by
 rw [results_cell_tmp h,hp,hv]
 simp [asAddr,loadVar3 hagg hsz h0 h1 h2]
theorem z18 {w1 : World} {g : Nat} {x' y' z' : Value} {t : TypeId} {fz : Nat × Nat} (h : w1.heap[g]? = some (.cells #[x',y',z'] t fz)) (x y z : Value) :
 (((w1.setCell ⟨g,0,none⟩ x).setCell ⟨g,1,none⟩ y).setCell ⟨g,2,none⟩ z).cell? ⟨g,0,none⟩ = some x ∧ (((w1.setCell ⟨g,0,none⟩ x).setCell ⟨g,1,none⟩ y).setCell ⟨g,2,none⟩ z).cell? ⟨g,1,none⟩ = some y ∧
 (((w1.setCell ⟨g,0,none⟩ x).setCell ⟨g,1,none⟩ y).setCell ⟨g,2,none⟩ z).cell? ⟨g,2,none⟩ = some z:=by
 have c0:=Jc h 0
 have c1:=Jc h 1
 have c2:=Jc h 2
 refine ⟨?_,?_,?_⟩
 ·rw [World.cell?_setCell_other _ _ _ _ (by simp),World.cell?_setCell_other _ _ _ _ (by simp)]
  exact World.cell?_setCell_same _ _ _ c0
 ·rw [World.cell?_setCell_other _ _ _ _ (by simp)]
  exact World.cell?_setCell_same _ _ _ ((World.cell?_setCell_other _ _ _ _ (by simp)).trans c1)
 ·exact World.cell?_setCell_same _ _ _ ((World.cell?_setCell_other _ _ _ _ (by simp)).trans ((World.cell?_setCell_other _ _ _ _ (by simp)).trans c2))
theorem z13 {B : Nat} {w w1 : World} {g : Nat} (hb : Below B w w1) (hg : B ≤ g) (x y z : Value) : Below B w (((w1.setCell ⟨g,0,none⟩ x).setCell ⟨g,1,none⟩ y).setCell ⟨g,2,none⟩ z) :=
 ((hb.setCell (p:=⟨g,0,none⟩) hg x).setCell (p:=⟨g,1,none⟩) hg y).setCell (p:=⟨g,2,none⟩) hg z
theorem row41_any (s : ByteArray) (h0 : 0 < s.size) (hs : s.size ≤ 281474976710656) (w : World) (hr : Rdy w) : Calls Tryz.prog 225 #[.string s] w fun e w' =>
 e = .returned (.tuple #[(rowR s).1.val,.int .i64 (rowR s).2]) ∧ Below w.heap.size w w':=by
 have HS:=z3b s
 have hg:=z2l s 0 h0
 generalize hc0 : s[0]'h0 = b at hg
 obtain ⟨r,hl⟩ : ∃ r,s.data.toList = b :: r:=by
  cases h : s.data.toList with
  | nil => rw [h] at HS; simp at HS; omega
  | cons c r => simp only [h,J5] at hg; exact ⟨r,by rw [hg]⟩
 have hrl : r.length + 1 = s.size:=by rw [← HS,hl]; rfl
 have hk:=kindR_low b
 clear hg
 have hw32 : wrap32 (b.toNat : Int) = (b.toNat : Int):=by have:=b.toNat_lt; unfold wrap32; omega
 cases hlo : z3p b with
 | true =>
  rw [hlo] at hk
  by_cases h8 : s.size ≤ 8
  ·have HE : Hid (rowR s = (⟨1,s,0⟩,0)):=by simp [Hid,rowR,hl,z0k,hlo,show r.length + 1 ≤ 8 by omega]
   clear hl hlo
   go_enter Tryz.func225,Tryz.ntmps225
   go_wp2_with (go_at_call 195; refine (z3m _ _).mono ?_; rintro e w' ⟨rfl,rfl⟩)
   exact bodyPost_ret (z0d rfl rfl rfl (Tryz.isAgg194 _) (Tryz.sizeOf194 _) (World.cell?_alloc_new ..) (World.cell?_alloc_new ..) (World.cell?_alloc_new ..)) rfl ⟨by rw [HE.out]; rfl,(Below.refl _ w).alloc (Nat.le_refl _) _⟩
  ·have HE : Hid (rowR s = (z58,152)):=by simp [Hid,rowR,hl,z0k,hlo,show ¬ r.length + 1 ≤ 8 by omega]
   clear hl hlo
   go_enter Tryz.func225,Tryz.ntmps225
   go_wp2_with (go_at_call 195; refine (z3m _ _).mono ?_; rintro e w' ⟨rfl,rfl⟩)
   exact bodyPost_ret (z0d rfl rfl rfl (Tryz.isAgg194 _) (Tryz.sizeOf194 _) (World.cell?_alloc_new ..) (World.cell?_alloc_new ..) (World.cell?_alloc_new ..)) rfl ⟨by rw [HE.out]; rfl,(Below.refl _ w).alloc (Nat.le_refl _) _⟩
 | false =>
  rw [hlo] at hk
  have hne : s.data.toList ≠ []:=by rw [hl]; simp
  have HE : Hid (rowR s = if z32 s.data.toList then (⟨2,s,0⟩,0) else (z58,151)):=by
   simp only [Hid,rowR,hl,z0k,hlo]
   cases z32 (b :: r) <;> rfl
  have HQ:=Jh (numOk_iff s.data.toList hne)
  clear hl hlo
  have hr1 : Rdy (w.alloc (.cells #[.int .u8 0,.string .empty,.int .i64 0] 194)):=hr.below ((Below.refl _ w).alloc (Nat.le_refl _) _)
  have HP:=Jh (parse49_any s (by omega) hs _ hr1)
  have HR1:=Jh hr1
  clear hr1
  go_enter Tryz.func225,Tryz.ntmps225
  go_wp2_with (go_at_call 195; refine (z3m _ _).mono ?_; rintro e w' ⟨rfl,rfl⟩)
  refine HP.out.mono ?_
  rintro e w1 ⟨⟨u,ev,rfl,hpu⟩,hb1⟩
  have HR2:=Jh (HR1.out.below hb1)
  have hbw : Below w.heap.size w w1:=((Below.refl _ w).alloc (Nat.le_refl _) _).trans (hb1.mono (by simp))
  have hblk : w1.heap[w.heap.size]? = some (.cells #[.int .u8 0,.string .empty,.int .i64 0] 194 (0,0)):=by
   have hz : (w.alloc (.cells #[.int .u8 0,.string .empty,.int .i64 0] 194)).heap.size = w.heap.size + 1:=by simp
   rw [hb1.block w.heap.size (by rw [hz]; omega)]
   exact Array.getElem?_push_size
  have HBW:=Jh hbw
  have HBL:=Jh hblk
  clear hbw hblk hb1
  unfold z5v at hpu
  rcases hpp : Lib.parseUintM 4611686018427387903 0 s.data.toList with n | _ | _
  ·rw [hpp] at hpu
   obtain ⟨rfl,rfl⟩:=hpu
   have hn62 : u ≤ 4611686018427387903:=parse_le _ _ _ _ (by omega) hpp
   have HPP:=Jh hpp
   clear hpp
   have c0:=Jc HBL.out 0
   have c1:=Jc HBL.out 1
   have c2:=Jc HBL.out 2
   have f0:=Jf HBL.out 0
   have f1:=Jf HBL.out 1
   have f2:=Jf HBL.out 2
   simp only [J9,J7,J8] at c0 c1 c2
   by_cases hbig : 288230376151711744 ≤ u
   ·have HF : Hid (rowR s = (z58,151)):=by
     have : z32 s.data.toList = false:=by
      rw [Bool.eq_false_iff]; intro h
      obtain ⟨n,h1,h2,_⟩:=HQ.out.1 h
      rw [HPP.out] at h1; cases h1; omega
     rw [Hid,HE.out,this]; rfl
    have hbi : (288230376151711744 : Int) ≤ u:=by omega
    clear hbig
    go_wp2_with fail
    obtain ⟨k0,k1,k2⟩:=z18 HBL.out (.int .u8 0) (.string .empty) (.int .i64 0)
    exact bodyPost_ret (z0d rfl rfl rfl (Tryz.isAgg194 _) (Tryz.sizeOf194 _) k0 k1 k2) rfl ⟨by rw [HF.out]; rfl,z13 HBW.out (Nat.le_refl _) _ _ _⟩
   ·have hbi : (u : Int) < 288230376151711744:=by omega
    have HFM:=Jh (format50_any u (by omega) w1 HR2.out)
    have HBIG : Hid (u < 288230376151711744):=by rw [Hid]; omega
    clear hbig
    obtain ⟨a,ha⟩ : ∃ a : Int,(u : Int) = a:=⟨_,rfl⟩
    rw [ha] at hbi HFM ⊢
    have HAA:=Jh ha
    clear ha
    by_cases heq : bsOf (Lib.decDigits u) = s
    ·have HF : Hid (rowR s = (⟨2,s,0⟩,0)):=by
      have : z32 s.data.toList = true:=HQ.out.2 ⟨u,HPP.out,HBIG.out,by rw [← heq,z3g]⟩
      rw [Hid,HE.out,this]; rfl
     have HEQ:=Jh heq
     clear heq
     go_wp2_with fail
     refine HFM.out.mono ?_
     rintro e w2 ⟨rfl,hb2⟩
     rw [HEQ.out]
     have HBW2:=Jh (HBW.out.trans (hb2.mono HBW.out.size))
     have HBL2:=Jh ((hb2.block w.heap.size (by exact (Array.getElem?_eq_some_iff.1 HBL.out).1)).trans HBL.out)
     clear hb2 c0 c1 c2 f0 f1 f2
     have c0:=Jc HBL2.out 0
     have c1:=Jc HBL2.out 1
     have c2:=Jc HBL2.out 2
     have f0:=Jf HBL2.out 0
     have f1:=Jf HBL2.out 1
     have f2:=Jf HBL2.out 2
     simp only [J9,J7,J8] at c0 c1 c2
     go_wp2_with fail
     obtain ⟨k0,k1,k2⟩:=z18 HBL2.out (.int .u8 2) (.string s) (.int .i64 0)
     exact bodyPost_ret (z0d rfl rfl rfl (Tryz.isAgg194 _) (Tryz.sizeOf194 _) k0 k1 k2) rfl ⟨by rw [HF.out]; rfl,z13 HBW2.out (Nat.le_refl _) _ _ _⟩
    ·have HF : Hid (rowR s = (z58,151)):=by
      have : z32 s.data.toList = false:=by
       rw [Bool.eq_false_iff]; intro h
       obtain ⟨n,h1,h2,h3⟩:=HQ.out.1 h
       rw [HPP.out] at h1; cases h1
       exact heq (by rw [h3,bsOf_of])
      rw [Hid,HE.out,this]; rfl
     have hss : ((bsOf (Lib.decDigits u)).toList == s.toList) = false:=by simpa using fun h => heq (z54 h)
     generalize bsOf (Lib.decDigits u) = D at hss HFM
     clear heq
     go_wp2_with fail
     refine HFM.out.mono ?_
     rintro e w2 ⟨rfl,hb2⟩
     have HBW2:=Jh (HBW.out.trans (hb2.mono HBW.out.size))
     have HBL2:=Jh ((hb2.block w.heap.size (by exact (Array.getElem?_eq_some_iff.1 HBL.out).1)).trans HBL.out)
     clear hb2 c0 c1 c2 f0 f1 f2
     have c0:=Jc HBL2.out 0
     have c1:=Jc HBL2.out 1
     have c2:=Jc HBL2.out 2
     have f0:=Jf HBL2.out 0
     have f1:=Jf HBL2.out 1
     have f2:=Jf HBL2.out 2
     simp only [J9,J7,J8] at c0 c1 c2
     go_wp2_with fail
     obtain ⟨k0,k1,k2⟩:=z18 HBL2.out (.int .u8 0) (.string .empty) (.int .i64 0)
     exact bodyPost_ret (z0d rfl rfl rfl (Tryz.isAgg194 _) (Tryz.sizeOf194 _) k0 k1 k2) rfl ⟨by rw [HF.out]; rfl,z13 HBW2.out (Nat.le_refl _) _ _ _⟩
  ·rw [hpp] at hpu
   obtain ⟨te,pe,rfl⟩:=hpu
   have HF : Hid (rowR s = (z58,151)):=by
    have : z32 s.data.toList = false:=by
     rw [Bool.eq_false_iff]; intro h
     obtain ⟨n,h1,_⟩:=HQ.out.1 h
     rw [hpp] at h1; cases h1
    rw [Hid,HE.out,this]; rfl
   clear hpp
   have c0:=Jc HBL.out 0
   have c1:=Jc HBL.out 1
   have c2:=Jc HBL.out 2
   have f0:=Jf HBL.out 0
   have f1:=Jf HBL.out 1
   have f2:=Jf HBL.out 2
   simp only [J9,J7,J8] at c0 c1 c2
   go_wp2_with fail
   obtain ⟨k0,k1,k2⟩:=z18 HBL.out (.int .u8 0) (.string .empty) (.int .i64 0)
   exact bodyPost_ret (z0d rfl rfl rfl (Tryz.isAgg194 _) (Tryz.sizeOf194 _) k0 k1 k2) rfl ⟨by rw [HF.out]; rfl,z13 HBW.out (Nat.le_refl _) _ _ _⟩
  ·rw [hpp] at hpu
   obtain ⟨te,pe,rfl⟩:=hpu
   have HF : Hid (rowR s = (z58,151)):=by
    have : z32 s.data.toList = false:=by
     rw [Bool.eq_false_iff]; intro h
     obtain ⟨n,h1,_⟩:=HQ.out.1 h
     rw [hpp] at h1; cases h1
    rw [Hid,HE.out,this]; rfl
   clear hpp
   have c0:=Jc HBL.out 0
   have c1:=Jc HBL.out 1
   have c2:=Jc HBL.out 2
   have f0:=Jf HBL.out 0
   have f1:=Jf HBL.out 1
   have f2:=Jf HBL.out 2
   simp only [J9,J7,J8] at c0 c1 c2
   go_wp2_with fail
   obtain ⟨k0,k1,k2⟩:=z18 HBL.out (.int .u8 0) (.string .empty) (.int .i64 0)
   exact bodyPost_ret (z0d rfl rfl rfl (Tryz.isAgg194 _) (Tryz.sizeOf194 _) k0 k1 k2) rfl ⟨by rw [HF.out]; rfl,z13 HBW.out (Nat.le_refl _) _ _ _⟩
end Go.Proofs.YtockinpjfhhkoaaGreatDoor
