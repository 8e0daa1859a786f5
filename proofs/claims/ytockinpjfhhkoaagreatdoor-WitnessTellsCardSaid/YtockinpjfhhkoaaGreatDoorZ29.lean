/- The book of layer 16: formulas that are made right. (Printed by gen_bkd.py.) -/
import Derived.Test.YtockinpjfhhkoaaGreatDoorZ28
import Derived.Test.YtockinpjfhhkoaaGreatDoorZ07
set_option maxRecDepth 100000
set_option maxHeartbeats 16000000
open List renaming getElem?_cons_zero → J7, getElem?_cons_succ → J8, getElem?_toArray → J9
open Go.Lib renaming cell_of_heap → Jc, hid → Jh
namespace Go.Proofs.YtockinpjfhhkoaaGreatDoor
open Go.RowKit
theorem z6z {w : World} {o : Obj} {k : Nat} (h : k = w.heap.size) : (w.alloc o).heap[k]? = some o:=by subst h; exact Array.getElem?_push_size
theorem z06 {α : Type} (p : α → Bool) (l : List α) (j : Nat) (h : j < l.length) : (l.take (j + 1)).all p = ((l.take j).all p && p l[j]):=by
 rw [List.take_succ_eq_append_getElem h,List.all_append]; simp
theorem rightF128_any (n : Nat) : ∀ (t : FT n) (v : Value) (w : World),FRep w w.heap.size n t v →
 Calls Tryz.prog 162 #[v] w fun e w' => e = .returned (.bool (allF z04 n t)) ∧ Below w.heap.size w w':=by
 induction n with
 | zero => intro t v w h; exact h.elim
 | succ n ih =>
  intro t v w h
  obtain ⟨k,s,of⟩:=t
  obtain ⟨a,c,rfl,hR⟩:=h
  have hR : FRow w w.heap.size n a of:=hR
  dsimp only
  have HIH:=Jh ih
  have HR:=Jh hR
  have hm:=hR.1
  have HS:=Jh (empty_size s)
  have hb0 : Below w.heap.size w (w.alloc (.cells #[.int .u8 k,.string s,.slice a of.length c] 25)):=(Below.refl _ w).alloc (Nat.le_refl _) _
  have HB0:=Jh hb0
  have HA : Hid (allF z04 (n + 1) (k,s,of) = (z04 k s of.length && of.all (allF z04 n))):=rfl
  clear hR ih hb0
  have hk : k < 1 ∨ k = 1 ∨ k = 2 ∨ k = 3 ∨ k = 4 ∨ k = 5 ∨ k = 6 ∨ 6 < k:=by omega
  rcases hk with h | rfl | rfl | rfl | rfl | rfl | rfl | h
  ·have HRB : Hid (z04 k s of.length = false):=by
    have : decide (1 ≤ k) = false:=by simp; omega
    rw [Hid]; unfold z04; rw [this]; simp
   have q4 : (k == 4) = false:=by simp; omega
   have q5 : (k == 5) = false:=by simp; omega
   have q6 : (k == 6) = false:=by simp; omega
   have HRES : Hid (allF z04 (n + 1) (k,s,of) = false):=by rw [Hid,HA.out,HRB.out,Bool.false_and]
   go_enter Tryz.func162,Tryz.ntmps162
   go_wp2_with fail
   all_goals go_ret
   all_goals exact ⟨z01 (by rw [HRES.out]),HB0.out⟩
  ·by_cases hl : of.length = 0
   ·have hl1 : (((of.length : Nat) : Int) != 0) = false:=by rw [bne_eq_false_iff_eq]; omega
    have hl2 : ((of.length : Nat) : Int) = 0:=by omega
    have HL:=Jh hl
    clear hl
    cases qs : s.toList.isEmpty with
    | true =>
     have HRB : Hid (z04 1 s of.length = true):=by
      have h:=HS.out
      have h0 : s.toList = []:=List.isEmpty_iff.1 qs
      rw [h0] at h
      have h1 : decide (s.size = 0) = true:=by rw [← h]; rfl
      rw [Hid]; unfold z04 z0h; rw [HL.out,h1]; rfl
     clear hl2
     go_enter Tryz.func162,Tryz.ntmps162
     go_wp2_with fail
     go_loopw [4] (fun i wr => ∃ j : Nat,j ≤ of.length ∧ i = .int .i64 j ∧ Hid ((of.take j).all (allF z04 n) = true) ∧ Hid (Below (w.alloc (.cells #[.int .u8 1,.string s,.slice a of.length c] 25)).heap.size (w.alloc (.cells #[.int .u8 1,.string s,.slice a of.length c] 25)) wr)) (fun i _ => of.length - (intOf i).toNat)
     case atStart => exact ⟨0,Nat.zero_le _,rfl,by simp [Hid],Below.refl _ _⟩
     case round =>
      obtain ⟨j,hj,rfl,HT,HBW⟩:=hrel
      have hkb : wr.heap[w.heap.size]? = some (.cells #[.int .u8 1,.string s,.slice a of.length c] 25 (0,0)):=(HBW.out.block _ (by simp)).trans (z6z rfl)
      have HBF : Hid (Below w.heap.size w wr):=HB0.out.trans (HBW.out.mono HB0.out.size)
      have HKB:=Jh hkb
      have x2:=Jc hkb 2
      simp only [J9,J7,J8] at x2
      clear hkb
      by_cases hlt : j < of.length
      ·have hltI : ((j : Nat) : Int) < ((of.length : Nat) : Int):=by omega
       obtain ⟨b,off,k',s',sa,sl,sc,rfl,hbl,c0,c1,c2,hr⟩:=(HR.out.up HBF.out (Nat.le_refl _)).at j hlt
       have hz:=HBF.out.size
       have hbl' : b < wr.heap.size:=by omega
       have HC:=Jh (HIH.out of[j] _ wr (hr.up (Below.refl _ _) hz))
       have HTK:=Jh (z06 (allF z04 n) of j hlt)
       have HF : Hid (allF z04 n of[j] = false → of.all (allF z04 n) = false):=fun h => List.all_eq_false.2 ⟨_,List.getElem_mem hlt,by rw [h]; simp⟩
       clear hr hz
       cases qq : allF z04 n of[j] with
       | true =>
        have HT' : Hid ((of.take (j + 1)).all (allF z04 n) = true):=by rw [Hid,HTK.out,HT.out,qq]; rfl
        rw [qq] at HC
        clear qq
        go_wp2_with fail
        refine HC.out.mono ?_
        rintro e w3 ⟨rfl,hb3⟩
        have HB3:=Jh (HBW.out.trans (hb3.mono HBW.out.size))
        clear hb3 c0 c1 c2 hbl hbl' x2
        go_wp2_with fail
        go_roundw
        case rel => exact ⟨j + 1,by omega,by go_num,HT',HB3⟩
        case measure => simp [intOf]; omega
       | false =>
        have HRES : Hid (allF z04 (n + 1) (1,s,of) = false):=by rw [Hid,HA.out,HF.out qq,Bool.and_false]
        rw [qq] at HC
        clear qq
        go_wp2_with fail
        refine HC.out.mono ?_
        rintro e w3 ⟨rfl,hb3⟩
        have HB3:=Jh (HBF.out.trans (hb3.mono HBF.out.size))
        clear hb3 c0 c1 c2 hbl hbl' x2
        go_wp2_with fail
        all_goals go_ret
        all_goals exact ⟨z01 (by rw [HRES.out]),HB3.out⟩
      ·have hje : j = of.length:=by omega
       subst hje
       have hltI : ¬ ((of.length : Nat) : Int) < ((of.length : Nat) : Int):=by omega
       have HRES : Hid (allF z04 (n + 1) (1,s,of) = true):=by
        have h:=HT.out
        rw [List.take_length] at h
        rw [Hid,HA.out,h,HRB.out]; rfl
       go_wp2_with fail
       all_goals go_ret
       all_goals exact ⟨z01 (by rw [HRES.out]),HBF.out⟩
    | false =>
     have HS0 : Hid (decide (s.size = 0) = false):=by
      rw [Hid,← HS.out]
      cases hh : s.toList with
      | nil => rw [hh] at qs; simp at qs
      | cons b r => rfl
     have HRB : Hid (z04 1 s of.length = false):=by rw [Hid]; unfold z04 z0h; rw [HL.out,HS0.out]; rfl
     clear hl2
     have HRES : Hid (allF z04 (n + 1) (1,s,of) = false):=by rw [Hid,HA.out,HRB.out,Bool.false_and]
     go_enter Tryz.func162,Tryz.ntmps162
     go_wp2_with fail
     all_goals go_ret
     all_goals exact ⟨z01 (by rw [HRES.out]),HB0.out⟩
   ·have hl1 : (((of.length : Nat) : Int) != 0) = true:=by rw [bne_iff_ne]; omega
    have HRB : Hid (z04 1 s of.length = false):=by
     have : (of.length == z0h 1) = false:=by rw [show z0h 1 = 0 from rfl,beq_eq_false_iff_ne]; exact hl
     rw [Hid]; unfold z04; rw [this]; simp
    clear hl
    have HRES : Hid (allF z04 (n + 1) (1,s,of) = false):=by rw [Hid,HA.out,HRB.out,Bool.false_and]
    go_enter Tryz.func162,Tryz.ntmps162
    go_wp2_with fail
    all_goals go_ret
    all_goals exact ⟨z01 (by rw [HRES.out]),HB0.out⟩
  ·by_cases hl : of.length = 0
   ·have hl1 : (((of.length : Nat) : Int) != 0) = false:=by rw [bne_eq_false_iff_eq]; omega
    have hl2 : ((of.length : Nat) : Int) = 0:=by omega
    have HL:=Jh hl
    clear hl
    cases qs : s.toList.isEmpty with
    | true =>
     have HRB : Hid (z04 2 s of.length = true):=by
      have h:=HS.out
      have h0 : s.toList = []:=List.isEmpty_iff.1 qs
      rw [h0] at h
      have h1 : decide (s.size = 0) = true:=by rw [← h]; rfl
      rw [Hid]; unfold z04 z0h; rw [HL.out,h1]; rfl
     clear hl2
     go_enter Tryz.func162,Tryz.ntmps162
     go_wp2_with fail
     go_loopw [4] (fun i wr => ∃ j : Nat,j ≤ of.length ∧ i = .int .i64 j ∧ Hid ((of.take j).all (allF z04 n) = true) ∧ Hid (Below (w.alloc (.cells #[.int .u8 2,.string s,.slice a of.length c] 25)).heap.size (w.alloc (.cells #[.int .u8 2,.string s,.slice a of.length c] 25)) wr)) (fun i _ => of.length - (intOf i).toNat)
     case atStart => exact ⟨0,Nat.zero_le _,rfl,by simp [Hid],Below.refl _ _⟩
     case round =>
      obtain ⟨j,hj,rfl,HT,HBW⟩:=hrel
      have hkb : wr.heap[w.heap.size]? = some (.cells #[.int .u8 2,.string s,.slice a of.length c] 25 (0,0)):=(HBW.out.block _ (by simp)).trans (z6z rfl)
      have HBF : Hid (Below w.heap.size w wr):=HB0.out.trans (HBW.out.mono HB0.out.size)
      have HKB:=Jh hkb
      have x2:=Jc hkb 2
      simp only [J9,J7,J8] at x2
      clear hkb
      by_cases hlt : j < of.length
      ·have hltI : ((j : Nat) : Int) < ((of.length : Nat) : Int):=by omega
       obtain ⟨b,off,k',s',sa,sl,sc,rfl,hbl,c0,c1,c2,hr⟩:=(HR.out.up HBF.out (Nat.le_refl _)).at j hlt
       have hz:=HBF.out.size
       have hbl' : b < wr.heap.size:=by omega
       have HC:=Jh (HIH.out of[j] _ wr (hr.up (Below.refl _ _) hz))
       have HTK:=Jh (z06 (allF z04 n) of j hlt)
       have HF : Hid (allF z04 n of[j] = false → of.all (allF z04 n) = false):=fun h => List.all_eq_false.2 ⟨_,List.getElem_mem hlt,by rw [h]; simp⟩
       clear hr hz
       cases qq : allF z04 n of[j] with
       | true =>
        have HT' : Hid ((of.take (j + 1)).all (allF z04 n) = true):=by rw [Hid,HTK.out,HT.out,qq]; rfl
        rw [qq] at HC
        clear qq
        go_wp2_with fail
        refine HC.out.mono ?_
        rintro e w3 ⟨rfl,hb3⟩
        have HB3:=Jh (HBW.out.trans (hb3.mono HBW.out.size))
        clear hb3 c0 c1 c2 hbl hbl' x2
        go_wp2_with fail
        go_roundw
        case rel => exact ⟨j + 1,by omega,by go_num,HT',HB3⟩
        case measure => simp [intOf]; omega
       | false =>
        have HRES : Hid (allF z04 (n + 1) (2,s,of) = false):=by rw [Hid,HA.out,HF.out qq,Bool.and_false]
        rw [qq] at HC
        clear qq
        go_wp2_with fail
        refine HC.out.mono ?_
        rintro e w3 ⟨rfl,hb3⟩
        have HB3:=Jh (HBF.out.trans (hb3.mono HBF.out.size))
        clear hb3 c0 c1 c2 hbl hbl' x2
        go_wp2_with fail
        all_goals go_ret
        all_goals exact ⟨z01 (by rw [HRES.out]),HB3.out⟩
      ·have hje : j = of.length:=by omega
       subst hje
       have hltI : ¬ ((of.length : Nat) : Int) < ((of.length : Nat) : Int):=by omega
       have HRES : Hid (allF z04 (n + 1) (2,s,of) = true):=by
        have h:=HT.out
        rw [List.take_length] at h
        rw [Hid,HA.out,h,HRB.out]; rfl
       go_wp2_with fail
       all_goals go_ret
       all_goals exact ⟨z01 (by rw [HRES.out]),HBF.out⟩
    | false =>
     have HS0 : Hid (decide (s.size = 0) = false):=by
      rw [Hid,← HS.out]
      cases hh : s.toList with
      | nil => rw [hh] at qs; simp at qs
      | cons b r => rfl
     have HRB : Hid (z04 2 s of.length = false):=by rw [Hid]; unfold z04 z0h; rw [HL.out,HS0.out]; rfl
     clear hl2
     have HRES : Hid (allF z04 (n + 1) (2,s,of) = false):=by rw [Hid,HA.out,HRB.out,Bool.false_and]
     go_enter Tryz.func162,Tryz.ntmps162
     go_wp2_with fail
     all_goals go_ret
     all_goals exact ⟨z01 (by rw [HRES.out]),HB0.out⟩
   ·have hl1 : (((of.length : Nat) : Int) != 0) = true:=by rw [bne_iff_ne]; omega
    have HRB : Hid (z04 2 s of.length = false):=by
     have : (of.length == z0h 2) = false:=by rw [show z0h 2 = 0 from rfl,beq_eq_false_iff_ne]; exact hl
     rw [Hid]; unfold z04; rw [this]; simp
    clear hl
    have HRES : Hid (allF z04 (n + 1) (2,s,of) = false):=by rw [Hid,HA.out,HRB.out,Bool.false_and]
    go_enter Tryz.func162,Tryz.ntmps162
    go_wp2_with fail
    all_goals go_ret
    all_goals exact ⟨z01 (by rw [HRES.out]),HB0.out⟩
  ·by_cases hl : of.length = 0
   ·have hl1 : (((of.length : Nat) : Int) != 0) = false:=by rw [bne_eq_false_iff_eq]; omega
    have hl2 : ((of.length : Nat) : Int) = 0:=by omega
    have HL:=Jh hl
    clear hl
    cases qs : s.toList.isEmpty with
    | true =>
     have HRB : Hid (z04 3 s of.length = true):=by
      have h:=HS.out
      have h0 : s.toList = []:=List.isEmpty_iff.1 qs
      rw [h0] at h
      have h1 : decide (s.size = 0) = true:=by rw [← h]; rfl
      rw [Hid]; unfold z04 z0h; rw [HL.out,h1]; rfl
     clear hl2
     go_enter Tryz.func162,Tryz.ntmps162
     go_wp2_with fail
     go_loopw [4] (fun i wr => ∃ j : Nat,j ≤ of.length ∧ i = .int .i64 j ∧ Hid ((of.take j).all (allF z04 n) = true) ∧ Hid (Below (w.alloc (.cells #[.int .u8 3,.string s,.slice a of.length c] 25)).heap.size (w.alloc (.cells #[.int .u8 3,.string s,.slice a of.length c] 25)) wr)) (fun i _ => of.length - (intOf i).toNat)
     case atStart => exact ⟨0,Nat.zero_le _,rfl,by simp [Hid],Below.refl _ _⟩
     case round =>
      obtain ⟨j,hj,rfl,HT,HBW⟩:=hrel
      have hkb : wr.heap[w.heap.size]? = some (.cells #[.int .u8 3,.string s,.slice a of.length c] 25 (0,0)):=(HBW.out.block _ (by simp)).trans (z6z rfl)
      have HBF : Hid (Below w.heap.size w wr):=HB0.out.trans (HBW.out.mono HB0.out.size)
      have HKB:=Jh hkb
      have x2:=Jc hkb 2
      simp only [J9,J7,J8] at x2
      clear hkb
      by_cases hlt : j < of.length
      ·have hltI : ((j : Nat) : Int) < ((of.length : Nat) : Int):=by omega
       obtain ⟨b,off,k',s',sa,sl,sc,rfl,hbl,c0,c1,c2,hr⟩:=(HR.out.up HBF.out (Nat.le_refl _)).at j hlt
       have hz:=HBF.out.size
       have hbl' : b < wr.heap.size:=by omega
       have HC:=Jh (HIH.out of[j] _ wr (hr.up (Below.refl _ _) hz))
       have HTK:=Jh (z06 (allF z04 n) of j hlt)
       have HF : Hid (allF z04 n of[j] = false → of.all (allF z04 n) = false):=fun h => List.all_eq_false.2 ⟨_,List.getElem_mem hlt,by rw [h]; simp⟩
       clear hr hz
       cases qq : allF z04 n of[j] with
       | true =>
        have HT' : Hid ((of.take (j + 1)).all (allF z04 n) = true):=by rw [Hid,HTK.out,HT.out,qq]; rfl
        rw [qq] at HC
        clear qq
        go_wp2_with fail
        refine HC.out.mono ?_
        rintro e w3 ⟨rfl,hb3⟩
        have HB3:=Jh (HBW.out.trans (hb3.mono HBW.out.size))
        clear hb3 c0 c1 c2 hbl hbl' x2
        go_wp2_with fail
        go_roundw
        case rel => exact ⟨j + 1,by omega,by go_num,HT',HB3⟩
        case measure => simp [intOf]; omega
       | false =>
        have HRES : Hid (allF z04 (n + 1) (3,s,of) = false):=by rw [Hid,HA.out,HF.out qq,Bool.and_false]
        rw [qq] at HC
        clear qq
        go_wp2_with fail
        refine HC.out.mono ?_
        rintro e w3 ⟨rfl,hb3⟩
        have HB3:=Jh (HBF.out.trans (hb3.mono HBF.out.size))
        clear hb3 c0 c1 c2 hbl hbl' x2
        go_wp2_with fail
        all_goals go_ret
        all_goals exact ⟨z01 (by rw [HRES.out]),HB3.out⟩
      ·have hje : j = of.length:=by omega
       subst hje
       have hltI : ¬ ((of.length : Nat) : Int) < ((of.length : Nat) : Int):=by omega
       have HRES : Hid (allF z04 (n + 1) (3,s,of) = true):=by
        have h:=HT.out
        rw [List.take_length] at h
        rw [Hid,HA.out,h,HRB.out]; rfl
       go_wp2_with fail
       all_goals go_ret
       all_goals exact ⟨z01 (by rw [HRES.out]),HBF.out⟩
    | false =>
     have HS0 : Hid (decide (s.size = 0) = false):=by
      rw [Hid,← HS.out]
      cases hh : s.toList with
      | nil => rw [hh] at qs; simp at qs
      | cons b r => rfl
     have HRB : Hid (z04 3 s of.length = true):=by rw [Hid]; unfold z04 z0h; rw [HL.out]; simp
     clear hl2
     go_enter Tryz.func162,Tryz.ntmps162
     go_wp2_with fail
     go_loopw [4] (fun i wr => ∃ j : Nat,j ≤ of.length ∧ i = .int .i64 j ∧ Hid ((of.take j).all (allF z04 n) = true) ∧ Hid (Below (w.alloc (.cells #[.int .u8 3,.string s,.slice a of.length c] 25)).heap.size (w.alloc (.cells #[.int .u8 3,.string s,.slice a of.length c] 25)) wr)) (fun i _ => of.length - (intOf i).toNat)
     case atStart => exact ⟨0,Nat.zero_le _,rfl,by simp [Hid],Below.refl _ _⟩
     case round =>
      obtain ⟨j,hj,rfl,HT,HBW⟩:=hrel
      have hkb : wr.heap[w.heap.size]? = some (.cells #[.int .u8 3,.string s,.slice a of.length c] 25 (0,0)):=(HBW.out.block _ (by simp)).trans (z6z rfl)
      have HBF : Hid (Below w.heap.size w wr):=HB0.out.trans (HBW.out.mono HB0.out.size)
      have HKB:=Jh hkb
      have x2:=Jc hkb 2
      simp only [J9,J7,J8] at x2
      clear hkb
      by_cases hlt : j < of.length
      ·have hltI : ((j : Nat) : Int) < ((of.length : Nat) : Int):=by omega
       obtain ⟨b,off,k',s',sa,sl,sc,rfl,hbl,c0,c1,c2,hr⟩:=(HR.out.up HBF.out (Nat.le_refl _)).at j hlt
       have hz:=HBF.out.size
       have hbl' : b < wr.heap.size:=by omega
       have HC:=Jh (HIH.out of[j] _ wr (hr.up (Below.refl _ _) hz))
       have HTK:=Jh (z06 (allF z04 n) of j hlt)
       have HF : Hid (allF z04 n of[j] = false → of.all (allF z04 n) = false):=fun h => List.all_eq_false.2 ⟨_,List.getElem_mem hlt,by rw [h]; simp⟩
       clear hr hz
       cases qq : allF z04 n of[j] with
       | true =>
        have HT' : Hid ((of.take (j + 1)).all (allF z04 n) = true):=by rw [Hid,HTK.out,HT.out,qq]; rfl
        rw [qq] at HC
        clear qq
        go_wp2_with fail
        refine HC.out.mono ?_
        rintro e w3 ⟨rfl,hb3⟩
        have HB3:=Jh (HBW.out.trans (hb3.mono HBW.out.size))
        clear hb3 c0 c1 c2 hbl hbl' x2
        go_wp2_with fail
        go_roundw
        case rel => exact ⟨j + 1,by omega,by go_num,HT',HB3⟩
        case measure => simp [intOf]; omega
       | false =>
        have HRES : Hid (allF z04 (n + 1) (3,s,of) = false):=by rw [Hid,HA.out,HF.out qq,Bool.and_false]
        rw [qq] at HC
        clear qq
        go_wp2_with fail
        refine HC.out.mono ?_
        rintro e w3 ⟨rfl,hb3⟩
        have HB3:=Jh (HBF.out.trans (hb3.mono HBF.out.size))
        clear hb3 c0 c1 c2 hbl hbl' x2
        go_wp2_with fail
        all_goals go_ret
        all_goals exact ⟨z01 (by rw [HRES.out]),HB3.out⟩
      ·have hje : j = of.length:=by omega
       subst hje
       have hltI : ¬ ((of.length : Nat) : Int) < ((of.length : Nat) : Int):=by omega
       have HRES : Hid (allF z04 (n + 1) (3,s,of) = true):=by
        have h:=HT.out
        rw [List.take_length] at h
        rw [Hid,HA.out,h,HRB.out]; rfl
       go_wp2_with fail
       all_goals go_ret
       all_goals exact ⟨z01 (by rw [HRES.out]),HBF.out⟩
   ·have hl1 : (((of.length : Nat) : Int) != 0) = true:=by rw [bne_iff_ne]; omega
    have HRB : Hid (z04 3 s of.length = false):=by
     have : (of.length == z0h 3) = false:=by rw [show z0h 3 = 0 from rfl,beq_eq_false_iff_ne]; exact hl
     rw [Hid]; unfold z04; rw [this]; simp
    clear hl
    have HRES : Hid (allF z04 (n + 1) (3,s,of) = false):=by rw [Hid,HA.out,HRB.out,Bool.false_and]
    go_enter Tryz.func162,Tryz.ntmps162
    go_wp2_with fail
    all_goals go_ret
    all_goals exact ⟨z01 (by rw [HRES.out]),HB0.out⟩
  ·by_cases hl : of.length = 1
   ·have hl1 : (((of.length : Nat) : Int) != 1) = false:=by rw [bne_eq_false_iff_eq]; omega
    have hl2 : ((of.length : Nat) : Int) = 1:=by omega
    have HL:=Jh hl
    clear hl
    cases qs : s.toList.isEmpty with
    | true =>
     have HRB : Hid (z04 4 s of.length = true):=by
      have h:=HS.out
      have h0 : s.toList = []:=List.isEmpty_iff.1 qs
      rw [h0] at h
      have h1 : decide (s.size = 0) = true:=by rw [← h]; rfl
      rw [Hid]; unfold z04 z0h; rw [HL.out,h1]; rfl
     clear hl2
     go_enter Tryz.func162,Tryz.ntmps162
     go_wp2_with fail
     go_loopw [4] (fun i wr => ∃ j : Nat,j ≤ of.length ∧ i = .int .i64 j ∧ Hid ((of.take j).all (allF z04 n) = true) ∧ Hid (Below (w.alloc (.cells #[.int .u8 4,.string s,.slice a of.length c] 25)).heap.size (w.alloc (.cells #[.int .u8 4,.string s,.slice a of.length c] 25)) wr)) (fun i _ => of.length - (intOf i).toNat)
     case atStart => exact ⟨0,Nat.zero_le _,rfl,by simp [Hid],Below.refl _ _⟩
     case round =>
      obtain ⟨j,hj,rfl,HT,HBW⟩:=hrel
      have hkb : wr.heap[w.heap.size]? = some (.cells #[.int .u8 4,.string s,.slice a of.length c] 25 (0,0)):=(HBW.out.block _ (by simp)).trans (z6z rfl)
      have HBF : Hid (Below w.heap.size w wr):=HB0.out.trans (HBW.out.mono HB0.out.size)
      have HKB:=Jh hkb
      have x2:=Jc hkb 2
      simp only [J9,J7,J8] at x2
      clear hkb
      by_cases hlt : j < of.length
      ·have hltI : ((j : Nat) : Int) < ((of.length : Nat) : Int):=by omega
       obtain ⟨b,off,k',s',sa,sl,sc,rfl,hbl,c0,c1,c2,hr⟩:=(HR.out.up HBF.out (Nat.le_refl _)).at j hlt
       have hz:=HBF.out.size
       have hbl' : b < wr.heap.size:=by omega
       have HC:=Jh (HIH.out of[j] _ wr (hr.up (Below.refl _ _) hz))
       have HTK:=Jh (z06 (allF z04 n) of j hlt)
       have HF : Hid (allF z04 n of[j] = false → of.all (allF z04 n) = false):=fun h => List.all_eq_false.2 ⟨_,List.getElem_mem hlt,by rw [h]; simp⟩
       clear hr hz
       cases qq : allF z04 n of[j] with
       | true =>
        have HT' : Hid ((of.take (j + 1)).all (allF z04 n) = true):=by rw [Hid,HTK.out,HT.out,qq]; rfl
        rw [qq] at HC
        clear qq
        go_wp2_with fail
        refine HC.out.mono ?_
        rintro e w3 ⟨rfl,hb3⟩
        have HB3:=Jh (HBW.out.trans (hb3.mono HBW.out.size))
        clear hb3 c0 c1 c2 hbl hbl' x2
        go_wp2_with fail
        go_roundw
        case rel => exact ⟨j + 1,by omega,by go_num,HT',HB3⟩
        case measure => simp [intOf]; omega
       | false =>
        have HRES : Hid (allF z04 (n + 1) (4,s,of) = false):=by rw [Hid,HA.out,HF.out qq,Bool.and_false]
        rw [qq] at HC
        clear qq
        go_wp2_with fail
        refine HC.out.mono ?_
        rintro e w3 ⟨rfl,hb3⟩
        have HB3:=Jh (HBF.out.trans (hb3.mono HBF.out.size))
        clear hb3 c0 c1 c2 hbl hbl' x2
        go_wp2_with fail
        all_goals go_ret
        all_goals exact ⟨z01 (by rw [HRES.out]),HB3.out⟩
      ·have hje : j = of.length:=by omega
       subst hje
       have hltI : ¬ ((of.length : Nat) : Int) < ((of.length : Nat) : Int):=by omega
       have HRES : Hid (allF z04 (n + 1) (4,s,of) = true):=by
        have h:=HT.out
        rw [List.take_length] at h
        rw [Hid,HA.out,h,HRB.out]; rfl
       go_wp2_with fail
       all_goals go_ret
       all_goals exact ⟨z01 (by rw [HRES.out]),HBF.out⟩
    | false =>
     have HS0 : Hid (decide (s.size = 0) = false):=by
      rw [Hid,← HS.out]
      cases hh : s.toList with
      | nil => rw [hh] at qs; simp at qs
      | cons b r => rfl
     have HRB : Hid (z04 4 s of.length = false):=by rw [Hid]; unfold z04 z0h; rw [HL.out,HS0.out]; rfl
     clear hl2
     have HRES : Hid (allF z04 (n + 1) (4,s,of) = false):=by rw [Hid,HA.out,HRB.out,Bool.false_and]
     go_enter Tryz.func162,Tryz.ntmps162
     go_wp2_with fail
     all_goals go_ret
     all_goals exact ⟨z01 (by rw [HRES.out]),HB0.out⟩
   ·have hl1 : (((of.length : Nat) : Int) != 1) = true:=by rw [bne_iff_ne]; omega
    have HRB : Hid (z04 4 s of.length = false):=by
     have : (of.length == z0h 4) = false:=by rw [show z0h 4 = 1 from rfl,beq_eq_false_iff_ne]; exact hl
     rw [Hid]; unfold z04; rw [this]; simp
    clear hl
    have HRES : Hid (allF z04 (n + 1) (4,s,of) = false):=by rw [Hid,HA.out,HRB.out,Bool.false_and]
    go_enter Tryz.func162,Tryz.ntmps162
    go_wp2_with fail
    all_goals go_ret
    all_goals exact ⟨z01 (by rw [HRES.out]),HB0.out⟩
  ·by_cases hl : of.length = 2
   ·have hl1 : (((of.length : Nat) : Int) != 2) = false:=by rw [bne_eq_false_iff_eq]; omega
    have hl2 : ((of.length : Nat) : Int) = 2:=by omega
    have HL:=Jh hl
    clear hl
    cases qs : s.toList.isEmpty with
    | true =>
     have HRB : Hid (z04 5 s of.length = true):=by
      have h:=HS.out
      have h0 : s.toList = []:=List.isEmpty_iff.1 qs
      rw [h0] at h
      have h1 : decide (s.size = 0) = true:=by rw [← h]; rfl
      rw [Hid]; unfold z04 z0h; rw [HL.out,h1]; rfl
     clear hl2
     go_enter Tryz.func162,Tryz.ntmps162
     go_wp2_with fail
     go_loopw [4] (fun i wr => ∃ j : Nat,j ≤ of.length ∧ i = .int .i64 j ∧ Hid ((of.take j).all (allF z04 n) = true) ∧ Hid (Below (w.alloc (.cells #[.int .u8 5,.string s,.slice a of.length c] 25)).heap.size (w.alloc (.cells #[.int .u8 5,.string s,.slice a of.length c] 25)) wr)) (fun i _ => of.length - (intOf i).toNat)
     case atStart => exact ⟨0,Nat.zero_le _,rfl,by simp [Hid],Below.refl _ _⟩
     case round =>
      obtain ⟨j,hj,rfl,HT,HBW⟩:=hrel
      have hkb : wr.heap[w.heap.size]? = some (.cells #[.int .u8 5,.string s,.slice a of.length c] 25 (0,0)):=(HBW.out.block _ (by simp)).trans (z6z rfl)
      have HBF : Hid (Below w.heap.size w wr):=HB0.out.trans (HBW.out.mono HB0.out.size)
      have HKB:=Jh hkb
      have x2:=Jc hkb 2
      simp only [J9,J7,J8] at x2
      clear hkb
      by_cases hlt : j < of.length
      ·have hltI : ((j : Nat) : Int) < ((of.length : Nat) : Int):=by omega
       obtain ⟨b,off,k',s',sa,sl,sc,rfl,hbl,c0,c1,c2,hr⟩:=(HR.out.up HBF.out (Nat.le_refl _)).at j hlt
       have hz:=HBF.out.size
       have hbl' : b < wr.heap.size:=by omega
       have HC:=Jh (HIH.out of[j] _ wr (hr.up (Below.refl _ _) hz))
       have HTK:=Jh (z06 (allF z04 n) of j hlt)
       have HF : Hid (allF z04 n of[j] = false → of.all (allF z04 n) = false):=fun h => List.all_eq_false.2 ⟨_,List.getElem_mem hlt,by rw [h]; simp⟩
       clear hr hz
       cases qq : allF z04 n of[j] with
       | true =>
        have HT' : Hid ((of.take (j + 1)).all (allF z04 n) = true):=by rw [Hid,HTK.out,HT.out,qq]; rfl
        rw [qq] at HC
        clear qq
        go_wp2_with fail
        refine HC.out.mono ?_
        rintro e w3 ⟨rfl,hb3⟩
        have HB3:=Jh (HBW.out.trans (hb3.mono HBW.out.size))
        clear hb3 c0 c1 c2 hbl hbl' x2
        go_wp2_with fail
        go_roundw
        case rel => exact ⟨j + 1,by omega,by go_num,HT',HB3⟩
        case measure => simp [intOf]; omega
       | false =>
        have HRES : Hid (allF z04 (n + 1) (5,s,of) = false):=by rw [Hid,HA.out,HF.out qq,Bool.and_false]
        rw [qq] at HC
        clear qq
        go_wp2_with fail
        refine HC.out.mono ?_
        rintro e w3 ⟨rfl,hb3⟩
        have HB3:=Jh (HBF.out.trans (hb3.mono HBF.out.size))
        clear hb3 c0 c1 c2 hbl hbl' x2
        go_wp2_with fail
        all_goals go_ret
        all_goals exact ⟨z01 (by rw [HRES.out]),HB3.out⟩
      ·have hje : j = of.length:=by omega
       subst hje
       have hltI : ¬ ((of.length : Nat) : Int) < ((of.length : Nat) : Int):=by omega
       have HRES : Hid (allF z04 (n + 1) (5,s,of) = true):=by
        have h:=HT.out
        rw [List.take_length] at h
        rw [Hid,HA.out,h,HRB.out]; rfl
       go_wp2_with fail
       all_goals go_ret
       all_goals exact ⟨z01 (by rw [HRES.out]),HBF.out⟩
    | false =>
     have HS0 : Hid (decide (s.size = 0) = false):=by
      rw [Hid,← HS.out]
      cases hh : s.toList with
      | nil => rw [hh] at qs; simp at qs
      | cons b r => rfl
     have HRB : Hid (z04 5 s of.length = false):=by rw [Hid]; unfold z04 z0h; rw [HL.out,HS0.out]; rfl
     clear hl2
     have HRES : Hid (allF z04 (n + 1) (5,s,of) = false):=by rw [Hid,HA.out,HRB.out,Bool.false_and]
     go_enter Tryz.func162,Tryz.ntmps162
     go_wp2_with fail
     all_goals go_ret
     all_goals exact ⟨z01 (by rw [HRES.out]),HB0.out⟩
   ·have hl1 : (((of.length : Nat) : Int) != 2) = true:=by rw [bne_iff_ne]; omega
    have HRB : Hid (z04 5 s of.length = false):=by
     have : (of.length == z0h 5) = false:=by rw [show z0h 5 = 2 from rfl,beq_eq_false_iff_ne]; exact hl
     rw [Hid]; unfold z04; rw [this]; simp
    clear hl
    have HRES : Hid (allF z04 (n + 1) (5,s,of) = false):=by rw [Hid,HA.out,HRB.out,Bool.false_and]
    go_enter Tryz.func162,Tryz.ntmps162
    go_wp2_with fail
    all_goals go_ret
    all_goals exact ⟨z01 (by rw [HRES.out]),HB0.out⟩
  ·by_cases hl : of.length = 2
   ·have hl1 : (((of.length : Nat) : Int) != 2) = false:=by rw [bne_eq_false_iff_eq]; omega
    have hl2 : ((of.length : Nat) : Int) = 2:=by omega
    have HL:=Jh hl
    clear hl
    cases qs : s.toList.isEmpty with
    | true =>
     have HRB : Hid (z04 6 s of.length = true):=by
      have h:=HS.out
      have h0 : s.toList = []:=List.isEmpty_iff.1 qs
      rw [h0] at h
      have h1 : decide (s.size = 0) = true:=by rw [← h]; rfl
      rw [Hid]; unfold z04 z0h; rw [HL.out,h1]; rfl
     clear hl2
     go_enter Tryz.func162,Tryz.ntmps162
     go_wp2_with fail
     go_loopw [4] (fun i wr => ∃ j : Nat,j ≤ of.length ∧ i = .int .i64 j ∧ Hid ((of.take j).all (allF z04 n) = true) ∧ Hid (Below (w.alloc (.cells #[.int .u8 6,.string s,.slice a of.length c] 25)).heap.size (w.alloc (.cells #[.int .u8 6,.string s,.slice a of.length c] 25)) wr)) (fun i _ => of.length - (intOf i).toNat)
     case atStart => exact ⟨0,Nat.zero_le _,rfl,by simp [Hid],Below.refl _ _⟩
     case round =>
      obtain ⟨j,hj,rfl,HT,HBW⟩:=hrel
      have hkb : wr.heap[w.heap.size]? = some (.cells #[.int .u8 6,.string s,.slice a of.length c] 25 (0,0)):=(HBW.out.block _ (by simp)).trans (z6z rfl)
      have HBF : Hid (Below w.heap.size w wr):=HB0.out.trans (HBW.out.mono HB0.out.size)
      have HKB:=Jh hkb
      have x2:=Jc hkb 2
      simp only [J9,J7,J8] at x2
      clear hkb
      by_cases hlt : j < of.length
      ·have hltI : ((j : Nat) : Int) < ((of.length : Nat) : Int):=by omega
       obtain ⟨b,off,k',s',sa,sl,sc,rfl,hbl,c0,c1,c2,hr⟩:=(HR.out.up HBF.out (Nat.le_refl _)).at j hlt
       have hz:=HBF.out.size
       have hbl' : b < wr.heap.size:=by omega
       have HC:=Jh (HIH.out of[j] _ wr (hr.up (Below.refl _ _) hz))
       have HTK:=Jh (z06 (allF z04 n) of j hlt)
       have HF : Hid (allF z04 n of[j] = false → of.all (allF z04 n) = false):=fun h => List.all_eq_false.2 ⟨_,List.getElem_mem hlt,by rw [h]; simp⟩
       clear hr hz
       cases qq : allF z04 n of[j] with
       | true =>
        have HT' : Hid ((of.take (j + 1)).all (allF z04 n) = true):=by rw [Hid,HTK.out,HT.out,qq]; rfl
        rw [qq] at HC
        clear qq
        go_wp2_with fail
        refine HC.out.mono ?_
        rintro e w3 ⟨rfl,hb3⟩
        have HB3:=Jh (HBW.out.trans (hb3.mono HBW.out.size))
        clear hb3 c0 c1 c2 hbl hbl' x2
        go_wp2_with fail
        go_roundw
        case rel => exact ⟨j + 1,by omega,by go_num,HT',HB3⟩
        case measure => simp [intOf]; omega
       | false =>
        have HRES : Hid (allF z04 (n + 1) (6,s,of) = false):=by rw [Hid,HA.out,HF.out qq,Bool.and_false]
        rw [qq] at HC
        clear qq
        go_wp2_with fail
        refine HC.out.mono ?_
        rintro e w3 ⟨rfl,hb3⟩
        have HB3:=Jh (HBF.out.trans (hb3.mono HBF.out.size))
        clear hb3 c0 c1 c2 hbl hbl' x2
        go_wp2_with fail
        all_goals go_ret
        all_goals exact ⟨z01 (by rw [HRES.out]),HB3.out⟩
      ·have hje : j = of.length:=by omega
       subst hje
       have hltI : ¬ ((of.length : Nat) : Int) < ((of.length : Nat) : Int):=by omega
       have HRES : Hid (allF z04 (n + 1) (6,s,of) = true):=by
        have h:=HT.out
        rw [List.take_length] at h
        rw [Hid,HA.out,h,HRB.out]; rfl
       go_wp2_with fail
       all_goals go_ret
       all_goals exact ⟨z01 (by rw [HRES.out]),HBF.out⟩
    | false =>
     have HS0 : Hid (decide (s.size = 0) = false):=by
      rw [Hid,← HS.out]
      cases hh : s.toList with
      | nil => rw [hh] at qs; simp at qs
      | cons b r => rfl
     have HRB : Hid (z04 6 s of.length = false):=by rw [Hid]; unfold z04 z0h; rw [HL.out,HS0.out]; rfl
     clear hl2
     have HRES : Hid (allF z04 (n + 1) (6,s,of) = false):=by rw [Hid,HA.out,HRB.out,Bool.false_and]
     go_enter Tryz.func162,Tryz.ntmps162
     go_wp2_with fail
     all_goals go_ret
     all_goals exact ⟨z01 (by rw [HRES.out]),HB0.out⟩
   ·have hl1 : (((of.length : Nat) : Int) != 2) = true:=by rw [bne_iff_ne]; omega
    have HRB : Hid (z04 6 s of.length = false):=by
     have : (of.length == z0h 6) = false:=by rw [show z0h 6 = 2 from rfl,beq_eq_false_iff_ne]; exact hl
     rw [Hid]; unfold z04; rw [this]; simp
    clear hl
    have HRES : Hid (allF z04 (n + 1) (6,s,of) = false):=by rw [Hid,HA.out,HRB.out,Bool.false_and]
    go_enter Tryz.func162,Tryz.ntmps162
    go_wp2_with fail
    all_goals go_ret
    all_goals exact ⟨z01 (by rw [HRES.out]),HB0.out⟩
  ·have HRB : Hid (z04 k s of.length = false):=by
    have : decide (k ≤ 6) = false:=by simp; omega
    rw [Hid]; unfold z04; rw [this]; simp
   have q4 : (k == 4) = false:=by simp; omega
   have q5 : (k == 5) = false:=by simp; omega
   have q6 : (k == 6) = false:=by simp; omega
   have q1 : ¬ k < 1:=by omega
   have HRES : Hid (allF z04 (n + 1) (k,s,of) = false):=by rw [Hid,HA.out,HRB.out,Bool.false_and]
   go_enter Tryz.func162,Tryz.ntmps162
   go_wp2_with fail
   all_goals go_ret
   all_goals exact ⟨z01 (by rw [HRES.out]),HB0.out⟩
end Go.Proofs.YtockinpjfhhkoaaGreatDoor
