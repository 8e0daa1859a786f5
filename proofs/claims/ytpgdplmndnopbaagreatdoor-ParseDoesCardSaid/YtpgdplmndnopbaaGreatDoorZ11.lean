/- The book's parser walked: intervals. (Printed by gen_rcint.py.) -/
import Derived.Test.YtpgdplmndnopbaaGreatDoorZ07
import Derived.Test.YtpgdplmndnopbaaGreatDoorZ05
import Derived.Test.YtpgdplmndnopbaaGreatDoorZ06
import Derived.Deep.Cut
import Derived.Test.YtpgdplmndnopbaaGreatDoorZ02
set_option maxRecDepth 100000
set_option maxHeartbeats 16000000
namespace Go.Proofs.YtpgdplmndnopbaaGreatDoor
open Go.RowKit
def set5 (w : World) (g : Nat) (v0 v1 v2 v3 v4 : Value) : World:=((((w.setCell ⟨g,0,none⟩ v0).setCell ⟨g,1,none⟩ v1).setCell ⟨g,2,none⟩ v2).setCell ⟨g,3,none⟩ v3).setCell ⟨g,4,none⟩ v4
theorem z27 {w : World} {g : Nat} {u0 u1 u2 u3 u4 : Value} {t : TypeId} (h : w.heap[g]? = some (.cells #[u0,u1,u2,u3,u4] t (0,0))) (v0 v1 v2 v3 v4 : Value) : (set5 w g v0 v1 v2 v3 v4).heap[g]? = some (.cells #[v0,v1,v2,v3,v4] t (0,0)):=by
 simp [set5,World.setCell,Array.getElem?_modify,h]
theorem Same.set5 {pb tb : Nat} {w w' : World} {L : List Tok} {stop : Int} {nx : Nat} {d e b : Int} (h : Same pb tb w w' L stop nx d e b) {g : Nat} (hg : w.heap.size ≤ g) (hB : pb < w.heap.size ∧ (L = [] ∨ tb < w.heap.size)) (v0 v1 v2 v3 v4 : Value) : Same pb tb w (Go.Proofs.YtpgdplmndnopbaaGreatDoor.set5 w' g v0 v1 v2 v3 v4) L stop nx d e b :=
 ((((h.setCell hg hB 0 v0).setCell hg hB 1 v1).setCell hg hB 2 v2).setCell hg hB 3 v3).setCell hg hB 4 v4
theorem z69 (L : List Tok) (stop : Int) (nx : Nat) : numR (z01 L stop nx) = if h : ∃ hl : nx < L.length,L[nx].kind = 2 then .ok (z10 (L[nx]'h.1).text.data.toList,z01 L stop (nx + 1)) else .error (170,z05 (z01 L stop nx)):=by
 by_cases hl : nx < L.length
 ·have e : z01 L stop nx = L[nx] :: z01 L stop (nx + 1):=by unfold z01; rw [List.drop_eq_getElem_cons hl]; rfl
  rw [e]
  by_cases hk : L[nx].kind = 2
  ·rw [dif_pos ⟨hl,hk⟩]; show (if L[nx].kind = 2 then _ else _) = _; rw [if_pos hk]
  ·rw [dif_neg (fun h => hk h.2)]; show (if L[nx].kind = 2 then _ else _) = _; rw [if_neg hk]; rfl
 ·rw [dif_neg (fun h => hl h.1)]
  have e : z01 L stop nx = [⟨0,⟨#[]⟩,stop⟩]:=by unfold z01; rw [List.drop_of_length_le (by omega)]; rfl
  rw [e]; rfl
def z45 (pb tb : Nat) (L : List Tok) (stop deep bad : Int) (w : World) (r : PRes Spn) (en : Ending) (w' : World) : Prop :=
 match r with
 | .ok (i,l') => ∃ nx,en = .returned i.val ∧ l' = z01 L stop nx ∧ Same pb tb w w' L stop nx deep 0 bad
 | .error c => c.1 ≠ 0 ∧ ∃ (i : Spn) (nx : Nat),en = .returned i.val ∧ Same pb tb w w' L stop nx deep c.1 c.2
def OutSI (pb tb : Nat) (L : List Tok) (stop : Int) (nx : Nat) (deep e b : Int) (w : World) (en : Ending) (w' : World) : Prop:=∃ i : Spn,en = .returned i.val ∧ Same pb tb w w' L stop nx deep e b
theorem z1g (pb tb : Nat) (L : List Tok) (stop : Int) (nx : Nat) (deep e b : Int) (he : e ≠ 0) (w : World) (h : RP pb tb w L stop nx deep e b) :
 Calls Tryz.prog 204 #[.pointer (some ⟨pb,0,none⟩)] w (OutSI pb tb L stop nx deep e b w):=by
 have HE:=Lib.hid he
 clear he
 have HB:=Lib.hid h.base
 have hkp : w.heap.size ≠ pb:=by have:=HB.out.1; omega
 have hkip : w.heap.size + 1 ≠ pb:=by have:=HB.out.1; omega
 have HS1 : Hid (Same pb tb w ((w.alloc (.cells #[.int .i64 0,.bool false,.int .i64 0,.bool false,.bool false] 26)).alloc (.cells #[.int .i64 0,.bool false,.int .i64 0,.bool false,.bool false] 26)) L stop nx deep e b):=(h.self.alloc _).alloc _
 have HKR1 : Hid (((w.alloc (.cells #[.int .i64 0,.bool false,.int .i64 0,.bool false,.bool false] 26)).alloc (.cells #[.int .i64 0,.bool false,.int .i64 0,.bool false,.bool false] 26)).heap[w.heap.size]? = some (.cells #[.int .i64 0,.bool false,.int .i64 0,.bool false,.bool false] 26 (0,0))):=z0d (z06 rfl)
 have HKI1 : Hid (((w.alloc (.cells #[.int .i64 0,.bool false,.int .i64 0,.bool false,.bool false] 26)).alloc (.cells #[.int .i64 0,.bool false,.int .i64 0,.bool false,.bool false] 26)).heap[w.heap.size + 1]? = some (.cells #[.int .i64 0,.bool false,.int .i64 0,.bool false,.bool false] 26 (0,0))):=z06 (by simp)
 clear h
 go_enter Tryz.func204,Tryz.ntmps204
 have HM2:=Lib.hid (z08 pb tb L stop _ deep e b ⟨#[40]⟩ HE.out _ HS1.out.1)
 go_wp2_with fail
 refine HM2.out.mono ?_
 rintro en w2 ⟨rfl,hs2⟩
 have HS2:=Lib.hid (RP.same HS1.out hs2)
 have HKR2:=Lib.hid (hs2.at HKR1.out hkp)
 have HKI2:=Lib.hid (hs2.at HKI1.out hkip)
 clear hs2 HM2
 have HM3:=Lib.hid (z0i pb tb L stop _ deep e b ⟨#[91]⟩ HE.out _ HS2.out.1)
 go_wp2_with fail
 refine HM3.out.mono ?_
 rintro en w3 ⟨rfl,hs2⟩
 have HS3:=Lib.hid (RP.same HS2.out hs2)
 have HKR3:=Lib.hid (hs2.at HKR2.out hkp)
 have HKI3:=Lib.hid (hs2.at HKI2.out hkip)
 clear hs2 HM3
 have HM4:=Lib.hid (z18 pb tb L stop _ deep e b HE.out _ HS3.out.1)
 go_wp2_with fail
 refine HM4.out.mono ?_
 rintro en w4 ⟨rfl,hs2⟩
 have HS4:=Lib.hid (RP.same HS3.out hs2)
 have HKR4:=Lib.hid (hs2.at HKR3.out hkp)
 have HKI4:=Lib.hid (hs2.at HKI3.out hkip)
 clear hs2 HM4
 have hki:=HKI4.out
 have e0:=Lib.cell_of_heap hki 0
 have f0:=Lib.frozen_of_heap hki 0
 have hltk:=(Array.getElem?_eq_some_iff.1 hki).1
 simp only [List.getElem?_toArray,List.getElem?_cons_zero] at e0
 clear hki
 go_upto_region 6 with fail
 clear e0 f0 hltk
 generalize hq : World.setCell _ _ _ = w5
 have HS5 : Hid (Same pb tb w w5 L stop (nx) deep e b):=by rw [Hid,← hq]; exact HS4.out.setCell (by omega) HB.out _ _
 have HKR5 : Hid (w5.heap[w.heap.size]? = some (.cells #[.int .i64 0,.bool false,.int .i64 0,.bool false,.bool false] 26 (0,0))):=by rw [Hid,← hq]; exact (z02 _ _ _ _ _ (by omega)).trans HKR4.out
 have HKI5 : Hid (w5.heap[w.heap.size + 1]? = some (.cells #[.int .i64 0,.bool false,.int .i64 0,.bool false,.bool false] 26 (0,0))):=by rw [Hid,← hq]; exact z09 HKI4.out 0 _
 clear hq
 have HM6:=Lib.hid (z0i pb tb L stop _ deep e b ⟨#[44]⟩ HE.out _ HS5.out.1)
 go_wp2_with fail
 refine HM6.out.mono ?_
 rintro en w6 ⟨rfl,hs2⟩
 have HS6:=Lib.hid (RP.same HS5.out hs2)
 have HKR6:=Lib.hid (hs2.at HKR5.out hkp)
 have HKI6:=Lib.hid (hs2.at HKI5.out hkip)
 clear hs2 HM6
 have HM7:=Lib.hid (z08 pb tb L stop _ deep e b ⟨#[111,111]⟩ HE.out _ HS6.out.1)
 go_wp2_with fail
 refine HM7.out.mono ?_
 rintro en w7 ⟨rfl,hs2⟩
 have HS7:=Lib.hid (RP.same HS6.out hs2)
 have HKR7:=Lib.hid (hs2.at HKR6.out hkp)
 have HKI7:=Lib.hid (hs2.at HKI6.out hkip)
 clear hs2 HM7
 have HM8:=Lib.hid (z18 pb tb L stop _ deep e b HE.out _ HS7.out.1)
 go_wp2_with fail
 refine HM8.out.mono ?_
 rintro en w8 ⟨rfl,hs2⟩
 have HS8:=Lib.hid (RP.same HS7.out hs2)
 have HKR8:=Lib.hid (hs2.at HKR7.out hkp)
 have HKI8:=Lib.hid (hs2.at HKI7.out hkip)
 clear hs2 HM8
 have hki:=HKI8.out
 have e2:=Lib.cell_of_heap hki 2
 have f2:=Lib.frozen_of_heap hki 2
 have hltk:=(Array.getElem?_eq_some_iff.1 hki).1
 simp only [List.getElem?_toArray,List.getElem?_cons_zero,List.getElem?_cons_succ] at e2
 clear hki
 go_upto_region 12 with fail
 clear e2 f2 hltk
 generalize hq : World.setCell _ _ _ = w9
 have HS9 : Hid (Same pb tb w w9 L stop (nx) deep e b):=by rw [Hid,← hq]; exact HS8.out.setCell (by omega) HB.out _ _
 have HKR9 : Hid (w9.heap[w.heap.size]? = some (.cells #[.int .i64 0,.bool false,.int .i64 0,.bool false,.bool false] 26 (0,0))):=by rw [Hid,← hq]; exact (z02 _ _ _ _ _ (by omega)).trans HKR8.out
 have HKI9 : Hid (w9.heap[w.heap.size + 1]? = some (.cells #[.int .i64 0,.bool false,.int .i64 0,.bool false,.bool false] 26 (0,0))):=by rw [Hid,← hq]; exact z09 HKI8.out 2 _
 clear hq
 have HM10:=Lib.hid (z08 pb tb L stop _ deep e b ⟨#[41]⟩ HE.out _ HS9.out.1)
 go_wp2_with fail
 refine HM10.out.mono ?_
 rintro en w10 ⟨rfl,hs2⟩
 have HS10:=Lib.hid (RP.same HS9.out hs2)
 have HKR10:=Lib.hid (hs2.at HKR9.out hkp)
 have HKI10:=Lib.hid (hs2.at HKI9.out hkip)
 clear hs2 HM10
 have HM11:=Lib.hid (z0i pb tb L stop _ deep e b ⟨#[93]⟩ HE.out _ HS10.out.1)
 go_wp2_with fail
 refine HM11.out.mono ?_
 rintro en w11 ⟨rfl,hs2⟩
 have HS11:=Lib.hid (RP.same HS10.out hs2)
 have HKR11:=Lib.hid (hs2.at HKR10.out hkp)
 have HKI11:=Lib.hid (hs2.at HKI10.out hkip)
 clear hs2 HM11
 have hki:=HKI11.out
 have hkr:=HKR11.out
 obtain ⟨d0,d1,d2,d3,d4⟩:=cc5 hki
 obtain ⟨e0,e1,e2,e3,e4,f0,f1,f2,f3,f4⟩:=cf5 hkr
 have hltk:=(Array.getElem?_eq_some_iff.1 hki).1
 have hltr:=(Array.getElem?_eq_some_iff.1 hkr).1
 have HAT : Hid ((set5 w11 w.heap.size (.int .i64 0) (.bool false) (.int .i64 0) (.bool false) (.bool false)).heap[w.heap.size]? = some (.cells #[.int .i64 0,.bool false,.int .i64 0,.bool false,.bool false] 26 (0,0))):=z27 hkr _ _ _ _ _
 have HOUT : Hid (OutSI pb tb L stop nx deep e b w (.returned (.agg #[.int .i64 0,.bool false,.int .i64 0,.bool false,.bool false])) (set5 w11 w.heap.size (.int .i64 0) (.bool false) (.int .i64 0) (.bool false) (.bool false))):=⟨⟨0,false,0,false,false⟩,rfl,HS11.out.set5 (Nat.le_refl _) HB.out _ _ _ _ _⟩
 clear hki hkr
 go_wp2_with fail
 refine bodyPost_ret (results_cell_row rfl _ _ _ _ _ _ _ rfl HAT.out Tryz.underlying26 rfl (by kernel_rfl)) rfl ?_
 exact HOUT.out
theorem z4e (pb tb : Nat) (L : List Tok) (stop : Int) (nx : Nat) (deep bad : Int) (w : World) (h : RP pb tb w L stop nx deep 0 bad) :
 Calls Tryz.prog 204 #[.pointer (some ⟨pb,0,none⟩)] w (z45 pb tb L stop deep bad w (z11 (z01 L stop nx))):=by
 have HE : Hid ((170 : Int) ≠ 0):=by rw [Hid]; decide
 obtain ⟨RES,hR⟩ : ∃ RES,RES = z11 (z01 L stop nx):=⟨_,rfl⟩
 rw [← hR]
 have HR : Hid (RES = if isT [40] (z01 L stop nx) then itvA true (z01 L stop nx).tail else if isT [91] (z01 L stop nx) then itvA false (z01 L stop nx).tail else z1k 170 (z01 L stop nx)):=hR.trans (z6j _)
 clear hR
 have HB:=Lib.hid h.base
 have hkp : w.heap.size ≠ pb:=by have:=HB.out.1; omega
 have hkip : w.heap.size + 1 ≠ pb:=by have:=HB.out.1; omega
 have HS1 : Hid (Same pb tb w ((w.alloc (.cells #[.int .i64 0,.bool false,.int .i64 0,.bool false,.bool false] 26)).alloc (.cells #[.int .i64 0,.bool false,.int .i64 0,.bool false,.bool false] 26)) L stop nx deep 0 bad):=(h.self.alloc _).alloc _
 have HKR1 : Hid (((w.alloc (.cells #[.int .i64 0,.bool false,.int .i64 0,.bool false,.bool false] 26)).alloc (.cells #[.int .i64 0,.bool false,.int .i64 0,.bool false,.bool false] 26)).heap[w.heap.size]? = some (.cells #[.int .i64 0,.bool false,.int .i64 0,.bool false,.bool false] 26 (0,0))):=z0d (z06 rfl)
 have HKI1 : Hid (((w.alloc (.cells #[.int .i64 0,.bool false,.int .i64 0,.bool false,.bool false] 26)).alloc (.cells #[.int .i64 0,.bool false,.int .i64 0,.bool false,.bool false] 26)).heap[w.heap.size + 1]? = some (.cells #[.int .i64 0,.bool false,.int .i64 0,.bool false,.bool false] 26 (0,0))):=z06 (by simp)
 clear h
 go_enter Tryz.func204,Tryz.ntmps204
 have HA:=z0e pb tb L stop _ deep bad ⟨#[40]⟩ (by decide) _ HS1.out.1
 cases q1 : isT [40] (z01 L stop (nx)) with
 | true =>
  rw [show (⟨#[40]⟩ : ByteArray).data.toList = [40] from rfl,q1] at HA
  simp only [if_true] at HA
  have hlt1:=z0z (s:=[40]) (by decide) q1
  have HM2:=Lib.hid HA
  clear HA
  go_wp2_with fail
  refine HM2.out.mono ?_
  rintro en w2 ⟨rfl,hs2⟩
  have HS2:=Lib.hid (RP.same HS1.out hs2)
  have HKR2:=Lib.hid (hs2.at HKR1.out hkp)
  have HKI2:=Lib.hid (hs2.at HKI1.out hkip)
  clear hs2 HM2
  have HR' : Hid (RES = itvA true (z01 L stop (nx + 1))):=by
   rw [Hid,HR.out]
   rw [if_pos q1,z0p hlt1]
  clear HR
  have HR:=HR'
  clear HR'
  clear q1 hlt1
  have hki:=HKI2.out
  have e1:=Lib.cell_of_heap hki 1
  have f1:=Lib.frozen_of_heap hki 1
  have hltk:=(Array.getElem?_eq_some_iff.1 hki).1
  simp only [List.getElem?_toArray,List.getElem?_cons_zero,List.getElem?_cons_succ] at e1
  clear hki
  go_upto_region 5 with fail
  clear e1 f1 hltk
  generalize hq : World.setCell _ _ _ = w3
  have HS3 : Hid (Same pb tb w w3 L stop (nx + 1) deep 0 bad):=by rw [Hid,← hq]; exact HS2.out.setCell (by omega) HB.out _ _
  have HKR3 : Hid (w3.heap[w.heap.size]? = some (.cells #[.int .i64 0,.bool false,.int .i64 0,.bool false,.bool false] 26 (0,0))):=by rw [Hid,← hq]; exact (z02 _ _ _ _ _ (by omega)).trans HKR2.out
  have HKI3 : Hid (w3.heap[w.heap.size + 1]? = some (.cells #[.int .i64 0,.bool true,.int .i64 0,.bool false,.bool false] 26 (0,0))):=by rw [Hid,← hq]; exact z09 HKI2.out 1 _
  clear hq
  have HNR:=z69 L stop (nx + 1)
  by_cases hk3 : ∃ hl : nx + 1 < L.length,L[nx + 1].kind = 2
  ·have HA:=z3r pb tb L stop _ deep bad _ HS3.out.1 hk3.1 hk3.2
   rw [dif_pos hk3] at HNR
   generalize z10 (L[nx + 1]'hk3.1).text.data.toList = z0 at HA HNR
   have HM4:=Lib.hid HA
   have HNQ:=Lib.hid HNR
   clear HA HNR
   go_wp2_with fail
   refine HM4.out.mono ?_
   rintro en w4 ⟨rfl,hs2⟩
   have HS4:=Lib.hid (RP.same HS3.out hs2)
   have HKR4:=Lib.hid (hs2.at HKR3.out hkp)
   have HKI4:=Lib.hid (hs2.at HKI3.out hkip)
   clear hs2 HM4
   have hki:=HKI4.out
   have e0:=Lib.cell_of_heap hki 0
   have f0:=Lib.frozen_of_heap hki 0
   have hltk:=(Array.getElem?_eq_some_iff.1 hki).1
   simp only [List.getElem?_toArray,List.getElem?_cons_zero] at e0
   clear hki
   go_upto_region 6 with fail
   clear e0 f0 hltk
   generalize hq : World.setCell _ _ _ = w5
   have HS5 : Hid (Same pb tb w w5 L stop (nx + 1 + 1) deep 0 bad):=by rw [Hid,← hq]; exact HS4.out.setCell (by omega) HB.out _ _
   have HKR5 : Hid (w5.heap[w.heap.size]? = some (.cells #[.int .i64 0,.bool false,.int .i64 0,.bool false,.bool false] 26 (0,0))):=by rw [Hid,← hq]; exact (z02 _ _ _ _ _ (by omega)).trans HKR4.out
   have HKI5 : Hid (w5.heap[w.heap.size + 1]? = some (.cells #[.int .i64 z0,.bool true,.int .i64 0,.bool false,.bool false] 26 (0,0))):=by rw [Hid,← hq]; exact z09 HKI4.out 0 _
   clear hq
   have HR' : Hid (RES = if isT [44] (z01 L stop (nx + 1 + 1)) then itvB true z0 (z01 L stop (nx + 1 + 1)).tail else z1k 170 (z01 L stop (nx + 1 + 1))):=by
    rw [Hid,HR.out]
    unfold itvA; rw [HNQ.out]; rfl
   clear HR
   have HR:=HR'
   clear HR'
   clear HNQ
   cases q5 : isT [44] (z01 L stop (nx + 1 + 1)) with
   | true =>
    have hlt5:=z0z (s:=[44]) (by decide) q5
    have HM6:=Lib.hid (z1q pb tb L stop _ deep bad ⟨#[44]⟩ (by decide) _ HS5.out.1 q5)
    go_wp2_with fail
    refine HM6.out.mono ?_
    rintro en w6 ⟨rfl,hs2⟩
    have HS6:=Lib.hid (RP.same HS5.out hs2)
    have HKR6:=Lib.hid (hs2.at HKR5.out hkp)
    have HKI6:=Lib.hid (hs2.at HKI5.out hkip)
    clear hs2 HM6
    have HR' : Hid (RES = itvB true z0 (z01 L stop (nx + 1 + 1 + 1))):=by
     rw [Hid,HR.out]
     rw [if_pos q5,z0p hlt5]
    clear HR
    have HR:=HR'
    clear HR'
    clear q5 hlt5
    have HA:=z0e pb tb L stop _ deep bad ⟨#[111,111]⟩ (by decide) _ HS6.out.1
    cases q6 : isT [111,111] (z01 L stop (nx + 1 + 1 + 1)) with
    | true =>
     rw [show (⟨#[111,111]⟩ : ByteArray).data.toList = [111,111] from rfl,q6] at HA
     simp only [if_true] at HA
     have hlt6:=z0z (s:=[111,111]) (by decide) q6
     have HM7:=Lib.hid HA
     clear HA
     go_wp2_with fail
     refine HM7.out.mono ?_
     rintro en w7 ⟨rfl,hs2⟩
     have HS7:=Lib.hid (RP.same HS6.out hs2)
     have HKR7:=Lib.hid (hs2.at HKR6.out hkp)
     have HKI7:=Lib.hid (hs2.at HKI6.out hkip)
     clear hs2 HM7
     have HR' : Hid (RES = if isT [41] (z01 L stop (nx + 1 + 1 + 1 + 1)) then .ok (⟨z0,true,0,false,true⟩,(z01 L stop (nx + 1 + 1 + 1 + 1)).tail) else z1k 170 (z01 L stop (nx + 1 + 1 + 1 + 1))):=by
      rw [Hid,HR.out]
      unfold itvB; rw [if_pos q6,z0p hlt6]
     clear HR
     have HR:=HR'
     clear HR'
     clear q6 hlt6
     cases q7 : isT [41] (z01 L stop (nx + 1 + 1 + 1 + 1)) with
     | true =>
      have hlt7:=z0z (s:=[41]) (by decide) q7
      have HM8:=Lib.hid (z1q pb tb L stop _ deep bad ⟨#[41]⟩ (by decide) _ HS7.out.1 q7)
      go_wp2_with fail
      refine HM8.out.mono ?_
      rintro en w8 ⟨rfl,hs2⟩
      have HS8:=Lib.hid (RP.same HS7.out hs2)
      have HKR8:=Lib.hid (hs2.at HKR7.out hkp)
      have HKI8:=Lib.hid (hs2.at HKI7.out hkip)
      clear hs2 HM8
      have HR' : Hid (RES = .ok (⟨z0,true,0,false,true⟩,(z01 L stop (nx + 1 + 1 + 1 + 1 + 1)))):=by
       rw [Hid,HR.out]
       rw [if_pos q7,z0p hlt7]
      clear HR
      have HR:=HR'
      clear HR'
      clear q7 hlt7
      have hki:=HKI8.out
      have e4:=Lib.cell_of_heap hki 4
      have f4:=Lib.frozen_of_heap hki 4
      have hltk:=(Array.getElem?_eq_some_iff.1 hki).1
      simp only [List.getElem?_toArray,List.getElem?_cons_zero,List.getElem?_cons_succ] at e4
      clear hki
      go_upto_region 10 with fail
      clear e4 f4 hltk
      generalize hq : World.setCell _ _ _ = w9
      have HS9 : Hid (Same pb tb w w9 L stop (nx + 1 + 1 + 1 + 1 + 1) deep 0 bad):=by rw [Hid,← hq]; exact HS8.out.setCell (by omega) HB.out _ _
      have HKR9 : Hid (w9.heap[w.heap.size]? = some (.cells #[.int .i64 0,.bool false,.int .i64 0,.bool false,.bool false] 26 (0,0))):=by rw [Hid,← hq]; exact (z02 _ _ _ _ _ (by omega)).trans HKR8.out
      have HKI9 : Hid (w9.heap[w.heap.size + 1]? = some (.cells #[.int .i64 z0,.bool true,.int .i64 0,.bool false,.bool true] 26 (0,0))):=by rw [Hid,← hq]; exact z09 HKI8.out 4 _
      clear hq
      have hki:=HKI9.out
      have hkr:=HKR9.out
      obtain ⟨d0,d1,d2,d3,d4⟩:=cc5 hki
      obtain ⟨e0,e1,e2,e3,e4,f0,f1,f2,f3,f4⟩:=cf5 hkr
      have hltk:=(Array.getElem?_eq_some_iff.1 hki).1
      have hltr:=(Array.getElem?_eq_some_iff.1 hkr).1
      have HAT : Hid ((set5 w9 w.heap.size (.int .i64 z0) (.bool true) (.int .i64 0) (.bool false) (.bool true)).heap[w.heap.size]? = some (.cells #[.int .i64 z0,.bool true,.int .i64 0,.bool false,.bool true] 26 (0,0))):=z27 hkr _ _ _ _ _
      have HOUT : Hid (z45 pb tb L stop deep bad w (.ok (⟨z0,true,0,false,true⟩,z01 L stop (nx + 1 + 1 + 1 + 1 + 1))) (.returned (.agg #[.int .i64 z0,.bool true,.int .i64 0,.bool false,.bool true])) (set5 w9 w.heap.size (.int .i64 z0) (.bool true) (.int .i64 0) (.bool false) (.bool true))):=⟨_,rfl,rfl,HS9.out.set5 (Nat.le_refl _) HB.out _ _ _ _ _⟩
      clear hki hkr
      go_wp2_with fail
      refine bodyPost_ret (results_cell_row rfl _ _ _ _ _ _ _ rfl HAT.out Tryz.underlying26 rfl (by kernel_rfl)) rfl ?_
      rw [HR.out]
      exact HOUT.out
     | false =>
      have HM8:=Lib.hid (z1r pb tb L stop _ deep bad ⟨#[41]⟩ (by decide) _ HS7.out.1 q7)
      go_wp2_with fail
      refine HM8.out.mono ?_
      rintro en w8 ⟨rfl,hs2⟩
      have HS8:=Lib.hid (RP.same HS7.out hs2)
      have HKR8:=Lib.hid (hs2.at HKR7.out hkp)
      have HKI8:=Lib.hid (hs2.at HKI7.out hkip)
      clear hs2 HM8
      have HR' : Hid (RES = .error (170,(z05 (z01 L stop (nx + 1 + 1 + 1 + 1))))):=by
       rw [Hid,HR.out]
       rw [if_neg (by rw [q7]; decide)]; rfl
      clear HR
      have HR:=HR'
      clear HR'
      clear q7
      have hki:=HKI8.out
      have e4:=Lib.cell_of_heap hki 4
      have f4:=Lib.frozen_of_heap hki 4
      have hltk:=(Array.getElem?_eq_some_iff.1 hki).1
      simp only [List.getElem?_toArray,List.getElem?_cons_zero,List.getElem?_cons_succ] at e4
      clear hki
      go_upto_region 10 with fail
      clear e4 f4 hltk
      generalize hq : World.setCell _ _ _ = w9
      have HS9 : Hid (Same pb tb w w9 L stop (nx + 1 + 1 + 1 + 1) deep 170 (z05 (z01 L stop (nx + 1 + 1 + 1 + 1)))):=by rw [Hid,← hq]; exact HS8.out.setCell (by omega) HB.out _ _
      have HKR9 : Hid (w9.heap[w.heap.size]? = some (.cells #[.int .i64 0,.bool false,.int .i64 0,.bool false,.bool false] 26 (0,0))):=by rw [Hid,← hq]; exact (z02 _ _ _ _ _ (by omega)).trans HKR8.out
      have HKI9 : Hid (w9.heap[w.heap.size + 1]? = some (.cells #[.int .i64 z0,.bool true,.int .i64 0,.bool false,.bool true] 26 (0,0))):=by rw [Hid,← hq]; exact z09 HKI8.out 4 _
      clear hq
      have hki:=HKI9.out
      have hkr:=HKR9.out
      obtain ⟨d0,d1,d2,d3,d4⟩:=cc5 hki
      obtain ⟨e0,e1,e2,e3,e4,f0,f1,f2,f3,f4⟩:=cf5 hkr
      have hltk:=(Array.getElem?_eq_some_iff.1 hki).1
      have hltr:=(Array.getElem?_eq_some_iff.1 hkr).1
      have HAT : Hid ((set5 w9 w.heap.size (.int .i64 z0) (.bool true) (.int .i64 0) (.bool false) (.bool true)).heap[w.heap.size]? = some (.cells #[.int .i64 z0,.bool true,.int .i64 0,.bool false,.bool true] 26 (0,0))):=z27 hkr _ _ _ _ _
      have HOUT : Hid (z45 pb tb L stop deep bad w (.error (170,(z05 (z01 L stop (nx + 1 + 1 + 1 + 1))))) (.returned (.agg #[.int .i64 z0,.bool true,.int .i64 0,.bool false,.bool true])) (set5 w9 w.heap.size (.int .i64 z0) (.bool true) (.int .i64 0) (.bool false) (.bool true))):=⟨show (170 : Int) ≠ 0 by decide,⟨z0,true,0,false,true⟩,_,rfl,HS9.out.set5 (Nat.le_refl _) HB.out _ _ _ _ _⟩
      clear hki hkr
      go_wp2_with fail
      refine bodyPost_ret (results_cell_row rfl _ _ _ _ _ _ _ rfl HAT.out Tryz.underlying26 rfl (by kernel_rfl)) rfl ?_
      rw [HR.out]
      exact HOUT.out
    | false =>
     rw [show (⟨#[111,111]⟩ : ByteArray).data.toList = [111,111] from rfl,q6] at HA
     simp only [Bool.false_eq_true,if_false] at HA
     have HM7:=Lib.hid HA
     clear HA
     go_wp2_with fail
     refine HM7.out.mono ?_
     rintro en w7 ⟨rfl,hs2⟩
     have HS7:=Lib.hid (RP.same HS6.out hs2)
     have HKR7:=Lib.hid (hs2.at HKR6.out hkp)
     have HKI7:=Lib.hid (hs2.at HKI6.out hkip)
     clear hs2 HM7
     have HR' : Hid (RES = z1y (numR (z01 L stop (nx + 1 + 1 + 1))) fun high r => if isT [41] r then .ok (⟨z0,true,high,true,false⟩,r.tail) else if isT [93] r then .ok (⟨z0,true,high,false,false⟩,r.tail) else z1k 170 r):=by
      rw [Hid,HR.out]
      unfold itvB; rw [if_neg (by rw [q6]; decide)]
     clear HR
     have HR:=HR'
     clear HR'
     clear q6
     have HNR:=z69 L stop (nx + 1 + 1 + 1)
     by_cases hk7 : ∃ hl : nx + 1 + 1 + 1 < L.length,L[nx + 1 + 1 + 1].kind = 2
     ·have HA:=z3r pb tb L stop _ deep bad _ HS7.out.1 hk7.1 hk7.2
      rw [dif_pos hk7] at HNR
      generalize z10 (L[nx + 1 + 1 + 1]'hk7.1).text.data.toList = z1 at HA HNR
      have HM8:=Lib.hid HA
      have HNQ:=Lib.hid HNR
      clear HA HNR
      go_wp2_with fail
      refine HM8.out.mono ?_
      rintro en w8 ⟨rfl,hs2⟩
      have HS8:=Lib.hid (RP.same HS7.out hs2)
      have HKR8:=Lib.hid (hs2.at HKR7.out hkp)
      have HKI8:=Lib.hid (hs2.at HKI7.out hkip)
      clear hs2 HM8
      have hki:=HKI8.out
      have e2:=Lib.cell_of_heap hki 2
      have f2:=Lib.frozen_of_heap hki 2
      have hltk:=(Array.getElem?_eq_some_iff.1 hki).1
      simp only [List.getElem?_toArray,List.getElem?_cons_zero,List.getElem?_cons_succ] at e2
      clear hki
      go_upto_region 12 with fail
      clear e2 f2 hltk
      generalize hq : World.setCell _ _ _ = w9
      have HS9 : Hid (Same pb tb w w9 L stop (nx + 1 + 1 + 1 + 1) deep 0 bad):=by rw [Hid,← hq]; exact HS8.out.setCell (by omega) HB.out _ _
      have HKR9 : Hid (w9.heap[w.heap.size]? = some (.cells #[.int .i64 0,.bool false,.int .i64 0,.bool false,.bool false] 26 (0,0))):=by rw [Hid,← hq]; exact (z02 _ _ _ _ _ (by omega)).trans HKR8.out
      have HKI9 : Hid (w9.heap[w.heap.size + 1]? = some (.cells #[.int .i64 z0,.bool true,.int .i64 z1,.bool false,.bool false] 26 (0,0))):=by rw [Hid,← hq]; exact z09 HKI8.out 2 _
      clear hq
      have HR' : Hid (RES = if isT [41] (z01 L stop (nx + 1 + 1 + 1 + 1)) then .ok (⟨z0,true,z1,true,false⟩,(z01 L stop (nx + 1 + 1 + 1 + 1)).tail) else if isT [93] (z01 L stop (nx + 1 + 1 + 1 + 1)) then .ok (⟨z0,true,z1,false,false⟩,(z01 L stop (nx + 1 + 1 + 1 + 1)).tail) else z1k 170 (z01 L stop (nx + 1 + 1 + 1 + 1))):=by
       rw [Hid,HR.out]
       rw [HNQ.out]; rfl
      clear HR
      have HR:=HR'
      clear HR'
      clear HNQ
      have HA:=z0e pb tb L stop _ deep bad ⟨#[41]⟩ (by decide) _ HS9.out.1
      cases q9 : isT [41] (z01 L stop (nx + 1 + 1 + 1 + 1)) with
      | true =>
       rw [show (⟨#[41]⟩ : ByteArray).data.toList = [41] from rfl,q9] at HA
       simp only [if_true] at HA
       have hlt9:=z0z (s:=[41]) (by decide) q9
       have HM10:=Lib.hid HA
       clear HA
       go_wp2_with fail
       refine HM10.out.mono ?_
       rintro en w10 ⟨rfl,hs2⟩
       have HS10:=Lib.hid (RP.same HS9.out hs2)
       have HKR10:=Lib.hid (hs2.at HKR9.out hkp)
       have HKI10:=Lib.hid (hs2.at HKI9.out hkip)
       clear hs2 HM10
       have HR' : Hid (RES = .ok (⟨z0,true,z1,true,false⟩,(z01 L stop (nx + 1 + 1 + 1 + 1 + 1)))):=by
        rw [Hid,HR.out]
        rw [if_pos q9,z0p hlt9]
       clear HR
       have HR:=HR'
       clear HR'
       clear q9 hlt9
       have hki:=HKI10.out
       have e3:=Lib.cell_of_heap hki 3
       have f3:=Lib.frozen_of_heap hki 3
       have hltk:=(Array.getElem?_eq_some_iff.1 hki).1
       simp only [List.getElem?_toArray,List.getElem?_cons_zero,List.getElem?_cons_succ] at e3
       clear hki
       go_upto_region 15 with fail
       clear e3 f3 hltk
       generalize hq : World.setCell _ _ _ = w11
       have HS11 : Hid (Same pb tb w w11 L stop (nx + 1 + 1 + 1 + 1 + 1) deep 0 bad):=by rw [Hid,← hq]; exact HS10.out.setCell (by omega) HB.out _ _
       have HKR11 : Hid (w11.heap[w.heap.size]? = some (.cells #[.int .i64 0,.bool false,.int .i64 0,.bool false,.bool false] 26 (0,0))):=by rw [Hid,← hq]; exact (z02 _ _ _ _ _ (by omega)).trans HKR10.out
       have HKI11 : Hid (w11.heap[w.heap.size + 1]? = some (.cells #[.int .i64 z0,.bool true,.int .i64 z1,.bool true,.bool false] 26 (0,0))):=by rw [Hid,← hq]; exact z09 HKI10.out 3 _
       clear hq
       have hki:=HKI11.out
       have hkr:=HKR11.out
       obtain ⟨d0,d1,d2,d3,d4⟩:=cc5 hki
       obtain ⟨e0,e1,e2,e3,e4,f0,f1,f2,f3,f4⟩:=cf5 hkr
       have hltk:=(Array.getElem?_eq_some_iff.1 hki).1
       have hltr:=(Array.getElem?_eq_some_iff.1 hkr).1
       have HAT : Hid ((set5 w11 w.heap.size (.int .i64 z0) (.bool true) (.int .i64 z1) (.bool true) (.bool false)).heap[w.heap.size]? = some (.cells #[.int .i64 z0,.bool true,.int .i64 z1,.bool true,.bool false] 26 (0,0))):=z27 hkr _ _ _ _ _
       have HOUT : Hid (z45 pb tb L stop deep bad w (.ok (⟨z0,true,z1,true,false⟩,z01 L stop (nx + 1 + 1 + 1 + 1 + 1))) (.returned (.agg #[.int .i64 z0,.bool true,.int .i64 z1,.bool true,.bool false])) (set5 w11 w.heap.size (.int .i64 z0) (.bool true) (.int .i64 z1) (.bool true) (.bool false))):=⟨_,rfl,rfl,HS11.out.set5 (Nat.le_refl _) HB.out _ _ _ _ _⟩
       clear hki hkr
       go_wp2_with fail
       refine bodyPost_ret (results_cell_row rfl _ _ _ _ _ _ _ rfl HAT.out Tryz.underlying26 rfl (by kernel_rfl)) rfl ?_
       rw [HR.out]
       exact HOUT.out
      | false =>
       rw [show (⟨#[41]⟩ : ByteArray).data.toList = [41] from rfl,q9] at HA
       simp only [Bool.false_eq_true,if_false] at HA
       have HM10:=Lib.hid HA
       clear HA
       go_wp2_with fail
       refine HM10.out.mono ?_
       rintro en w10 ⟨rfl,hs2⟩
       have HS10:=Lib.hid (RP.same HS9.out hs2)
       have HKR10:=Lib.hid (hs2.at HKR9.out hkp)
       have HKI10:=Lib.hid (hs2.at HKI9.out hkip)
       clear hs2 HM10
       cases q10 : isT [93] (z01 L stop (nx + 1 + 1 + 1 + 1)) with
       | true =>
        have hlt10:=z0z (s:=[93]) (by decide) q10
        have HM11:=Lib.hid (z1q pb tb L stop _ deep bad ⟨#[93]⟩ (by decide) _ HS10.out.1 q10)
        go_wp2_with fail
        refine HM11.out.mono ?_
        rintro en w11 ⟨rfl,hs2⟩
        have HS11:=Lib.hid (RP.same HS10.out hs2)
        have HKR11:=Lib.hid (hs2.at HKR10.out hkp)
        have HKI11:=Lib.hid (hs2.at HKI10.out hkip)
        clear hs2 HM11
        have HR' : Hid (RES = .ok (⟨z0,true,z1,false,false⟩,(z01 L stop (nx + 1 + 1 + 1 + 1 + 1)))):=by
         rw [Hid,HR.out]
         rw [if_neg (by rw [q9]; decide),if_pos q10,z0p hlt10]
        clear HR
        have HR:=HR'
        clear HR'
        clear q9 q10 hlt10
        have hki:=HKI11.out
        have hkr:=HKR11.out
        obtain ⟨d0,d1,d2,d3,d4⟩:=cc5 hki
        obtain ⟨e0,e1,e2,e3,e4,f0,f1,f2,f3,f4⟩:=cf5 hkr
        have hltk:=(Array.getElem?_eq_some_iff.1 hki).1
        have hltr:=(Array.getElem?_eq_some_iff.1 hkr).1
        have HAT : Hid ((set5 w11 w.heap.size (.int .i64 z0) (.bool true) (.int .i64 z1) (.bool false) (.bool false)).heap[w.heap.size]? = some (.cells #[.int .i64 z0,.bool true,.int .i64 z1,.bool false,.bool false] 26 (0,0))):=z27 hkr _ _ _ _ _
        have HOUT : Hid (z45 pb tb L stop deep bad w (.ok (⟨z0,true,z1,false,false⟩,z01 L stop (nx + 1 + 1 + 1 + 1 + 1))) (.returned (.agg #[.int .i64 z0,.bool true,.int .i64 z1,.bool false,.bool false])) (set5 w11 w.heap.size (.int .i64 z0) (.bool true) (.int .i64 z1) (.bool false) (.bool false))):=⟨_,rfl,rfl,HS11.out.set5 (Nat.le_refl _) HB.out _ _ _ _ _⟩
        clear hki hkr
        go_wp2_with fail
        refine bodyPost_ret (results_cell_row rfl _ _ _ _ _ _ _ rfl HAT.out Tryz.underlying26 rfl (by kernel_rfl)) rfl ?_
        rw [HR.out]
        exact HOUT.out
       | false =>
        have HM11:=Lib.hid (z1r pb tb L stop _ deep bad ⟨#[93]⟩ (by decide) _ HS10.out.1 q10)
        go_wp2_with fail
        refine HM11.out.mono ?_
        rintro en w11 ⟨rfl,hs2⟩
        have HS11:=Lib.hid (RP.same HS10.out hs2)
        have HKR11:=Lib.hid (hs2.at HKR10.out hkp)
        have HKI11:=Lib.hid (hs2.at HKI10.out hkip)
        clear hs2 HM11
        have HR' : Hid (RES = .error (170,(z05 (z01 L stop (nx + 1 + 1 + 1 + 1))))):=by
         rw [Hid,HR.out]
         rw [if_neg (by rw [q9]; decide),if_neg (by rw [q10]; decide)]; rfl
        clear HR
        have HR:=HR'
        clear HR'
        clear q9 q10
        have hki:=HKI11.out
        have hkr:=HKR11.out
        obtain ⟨d0,d1,d2,d3,d4⟩:=cc5 hki
        obtain ⟨e0,e1,e2,e3,e4,f0,f1,f2,f3,f4⟩:=cf5 hkr
        have hltk:=(Array.getElem?_eq_some_iff.1 hki).1
        have hltr:=(Array.getElem?_eq_some_iff.1 hkr).1
        have HAT : Hid ((set5 w11 w.heap.size (.int .i64 z0) (.bool true) (.int .i64 z1) (.bool false) (.bool false)).heap[w.heap.size]? = some (.cells #[.int .i64 z0,.bool true,.int .i64 z1,.bool false,.bool false] 26 (0,0))):=z27 hkr _ _ _ _ _
        have HOUT : Hid (z45 pb tb L stop deep bad w (.error (170,(z05 (z01 L stop (nx + 1 + 1 + 1 + 1))))) (.returned (.agg #[.int .i64 z0,.bool true,.int .i64 z1,.bool false,.bool false])) (set5 w11 w.heap.size (.int .i64 z0) (.bool true) (.int .i64 z1) (.bool false) (.bool false))):=⟨show (170 : Int) ≠ 0 by decide,⟨z0,true,z1,false,false⟩,_,rfl,HS11.out.set5 (Nat.le_refl _) HB.out _ _ _ _ _⟩
        clear hki hkr
        go_wp2_with fail
        refine bodyPost_ret (results_cell_row rfl _ _ _ _ _ _ _ rfl HAT.out Tryz.underlying26 rfl (by kernel_rfl)) rfl ?_
        rw [HR.out]
        exact HOUT.out
     ·rw [dif_neg hk7] at HNR
      have HA:=z3d pb tb L stop _ deep bad _ HS7.out.1 (fun hl hk => hk7 ⟨hl,hk⟩)
      have HM8:=Lib.hid HA
      have HNQ:=Lib.hid HNR
      clear HA HNR
      go_wp2_with fail
      refine HM8.out.mono ?_
      rintro en w8 ⟨rfl,hs2⟩
      have HS8:=Lib.hid (RP.same HS7.out hs2)
      have HKR8:=Lib.hid (hs2.at HKR7.out hkp)
      have HKI8:=Lib.hid (hs2.at HKI7.out hkip)
      clear hs2 HM8
      have hki:=HKI8.out
      have e2:=Lib.cell_of_heap hki 2
      have f2:=Lib.frozen_of_heap hki 2
      have hltk:=(Array.getElem?_eq_some_iff.1 hki).1
      simp only [List.getElem?_toArray,List.getElem?_cons_zero,List.getElem?_cons_succ] at e2
      clear hki
      go_upto_region 12 with fail
      clear e2 f2 hltk
      generalize hq : World.setCell _ _ _ = w9
      have HS9 : Hid (Same pb tb w w9 L stop (nx + 1 + 1 + 1) deep 170 (z05 (z01 L stop (nx + 1 + 1 + 1)))):=by rw [Hid,← hq]; exact HS8.out.setCell (by omega) HB.out _ _
      have HKR9 : Hid (w9.heap[w.heap.size]? = some (.cells #[.int .i64 0,.bool false,.int .i64 0,.bool false,.bool false] 26 (0,0))):=by rw [Hid,← hq]; exact (z02 _ _ _ _ _ (by omega)).trans HKR8.out
      have HKI9 : Hid (w9.heap[w.heap.size + 1]? = some (.cells #[.int .i64 z0,.bool true,.int .i64 0,.bool false,.bool false] 26 (0,0))):=by rw [Hid,← hq]; exact z09 HKI8.out 2 _
      clear hq
      have HR' : Hid (RES = .error (170,(z05 (z01 L stop (nx + 1 + 1 + 1))))):=by
       rw [Hid,HR.out]
       rw [HNQ.out]; rfl
      clear HR
      have HR:=HR'
      clear HR'
      have HM10:=Lib.hid (z08 pb tb L stop _ deep 170 (z05 (z01 L stop (nx + 1 + 1 + 1))) ⟨#[41]⟩ HE.out _ HS9.out.1)
      go_wp2_with fail
      refine HM10.out.mono ?_
      rintro en w10 ⟨rfl,hs2⟩
      have HS10:=Lib.hid (RP.same HS9.out hs2)
      have HKR10:=Lib.hid (hs2.at HKR9.out hkp)
      have HKI10:=Lib.hid (hs2.at HKI9.out hkip)
      clear hs2 HM10
      have HM11:=Lib.hid (z0i pb tb L stop _ deep 170 (z05 (z01 L stop (nx + 1 + 1 + 1))) ⟨#[93]⟩ HE.out _ HS10.out.1)
      go_wp2_with fail
      refine HM11.out.mono ?_
      rintro en w11 ⟨rfl,hs2⟩
      have HS11:=Lib.hid (RP.same HS10.out hs2)
      have HKR11:=Lib.hid (hs2.at HKR10.out hkp)
      have HKI11:=Lib.hid (hs2.at HKI10.out hkip)
      clear hs2 HM11
      have hki:=HKI11.out
      have hkr:=HKR11.out
      obtain ⟨d0,d1,d2,d3,d4⟩:=cc5 hki
      obtain ⟨e0,e1,e2,e3,e4,f0,f1,f2,f3,f4⟩:=cf5 hkr
      have hltk:=(Array.getElem?_eq_some_iff.1 hki).1
      have hltr:=(Array.getElem?_eq_some_iff.1 hkr).1
      have HAT : Hid ((set5 w11 w.heap.size (.int .i64 z0) (.bool true) (.int .i64 0) (.bool false) (.bool false)).heap[w.heap.size]? = some (.cells #[.int .i64 z0,.bool true,.int .i64 0,.bool false,.bool false] 26 (0,0))):=z27 hkr _ _ _ _ _
      have HOUT : Hid (z45 pb tb L stop deep bad w (.error (170,(z05 (z01 L stop (nx + 1 + 1 + 1))))) (.returned (.agg #[.int .i64 z0,.bool true,.int .i64 0,.bool false,.bool false])) (set5 w11 w.heap.size (.int .i64 z0) (.bool true) (.int .i64 0) (.bool false) (.bool false))):=⟨show (170 : Int) ≠ 0 by decide,⟨z0,true,0,false,false⟩,_,rfl,HS11.out.set5 (Nat.le_refl _) HB.out _ _ _ _ _⟩
      clear hki hkr
      go_wp2_with fail
      refine bodyPost_ret (results_cell_row rfl _ _ _ _ _ _ _ rfl HAT.out Tryz.underlying26 rfl (by kernel_rfl)) rfl ?_
      rw [HR.out]
      exact HOUT.out
   | false =>
    have HM6:=Lib.hid (z1r pb tb L stop _ deep bad ⟨#[44]⟩ (by decide) _ HS5.out.1 q5)
    go_wp2_with fail
    refine HM6.out.mono ?_
    rintro en w6 ⟨rfl,hs2⟩
    have HS6:=Lib.hid (RP.same HS5.out hs2)
    have HKR6:=Lib.hid (hs2.at HKR5.out hkp)
    have HKI6:=Lib.hid (hs2.at HKI5.out hkip)
    clear hs2 HM6
    have HR' : Hid (RES = .error (170,(z05 (z01 L stop (nx + 1 + 1))))):=by
     rw [Hid,HR.out]
     rw [if_neg (by rw [q5]; decide)]; rfl
    clear HR
    have HR:=HR'
    clear HR'
    have HM7:=Lib.hid (z08 pb tb L stop _ deep 170 (z05 (z01 L stop (nx + 1 + 1))) ⟨#[111,111]⟩ HE.out _ HS6.out.1)
    go_wp2_with fail
    refine HM7.out.mono ?_
    rintro en w7 ⟨rfl,hs2⟩
    have HS7:=Lib.hid (RP.same HS6.out hs2)
    have HKR7:=Lib.hid (hs2.at HKR6.out hkp)
    have HKI7:=Lib.hid (hs2.at HKI6.out hkip)
    clear hs2 HM7
    have HM8:=Lib.hid (z18 pb tb L stop _ deep 170 (z05 (z01 L stop (nx + 1 + 1))) HE.out _ HS7.out.1)
    go_wp2_with fail
    refine HM8.out.mono ?_
    rintro en w8 ⟨rfl,hs2⟩
    have HS8:=Lib.hid (RP.same HS7.out hs2)
    have HKR8:=Lib.hid (hs2.at HKR7.out hkp)
    have HKI8:=Lib.hid (hs2.at HKI7.out hkip)
    clear hs2 HM8
    have hki:=HKI8.out
    have e2:=Lib.cell_of_heap hki 2
    have f2:=Lib.frozen_of_heap hki 2
    have hltk:=(Array.getElem?_eq_some_iff.1 hki).1
    simp only [List.getElem?_toArray,List.getElem?_cons_zero,List.getElem?_cons_succ] at e2
    clear hki
    go_upto_region 12 with fail
    clear e2 f2 hltk
    generalize hq : World.setCell _ _ _ = w9
    have HS9 : Hid (Same pb tb w w9 L stop (nx + 1 + 1) deep 170 (z05 (z01 L stop (nx + 1 + 1)))):=by rw [Hid,← hq]; exact HS8.out.setCell (by omega) HB.out _ _
    have HKR9 : Hid (w9.heap[w.heap.size]? = some (.cells #[.int .i64 0,.bool false,.int .i64 0,.bool false,.bool false] 26 (0,0))):=by rw [Hid,← hq]; exact (z02 _ _ _ _ _ (by omega)).trans HKR8.out
    have HKI9 : Hid (w9.heap[w.heap.size + 1]? = some (.cells #[.int .i64 z0,.bool true,.int .i64 0,.bool false,.bool false] 26 (0,0))):=by rw [Hid,← hq]; exact z09 HKI8.out 2 _
    clear hq
    have HM10:=Lib.hid (z08 pb tb L stop _ deep 170 (z05 (z01 L stop (nx + 1 + 1))) ⟨#[41]⟩ HE.out _ HS9.out.1)
    go_wp2_with fail
    refine HM10.out.mono ?_
    rintro en w10 ⟨rfl,hs2⟩
    have HS10:=Lib.hid (RP.same HS9.out hs2)
    have HKR10:=Lib.hid (hs2.at HKR9.out hkp)
    have HKI10:=Lib.hid (hs2.at HKI9.out hkip)
    clear hs2 HM10
    have HM11:=Lib.hid (z0i pb tb L stop _ deep 170 (z05 (z01 L stop (nx + 1 + 1))) ⟨#[93]⟩ HE.out _ HS10.out.1)
    go_wp2_with fail
    refine HM11.out.mono ?_
    rintro en w11 ⟨rfl,hs2⟩
    have HS11:=Lib.hid (RP.same HS10.out hs2)
    have HKR11:=Lib.hid (hs2.at HKR10.out hkp)
    have HKI11:=Lib.hid (hs2.at HKI10.out hkip)
    clear hs2 HM11
    have hki:=HKI11.out
    have hkr:=HKR11.out
    obtain ⟨d0,d1,d2,d3,d4⟩:=cc5 hki
    obtain ⟨e0,e1,e2,e3,e4,f0,f1,f2,f3,f4⟩:=cf5 hkr
    have hltk:=(Array.getElem?_eq_some_iff.1 hki).1
    have hltr:=(Array.getElem?_eq_some_iff.1 hkr).1
    have HAT : Hid ((set5 w11 w.heap.size (.int .i64 z0) (.bool true) (.int .i64 0) (.bool false) (.bool false)).heap[w.heap.size]? = some (.cells #[.int .i64 z0,.bool true,.int .i64 0,.bool false,.bool false] 26 (0,0))):=z27 hkr _ _ _ _ _
    have HOUT : Hid (z45 pb tb L stop deep bad w (.error (170,(z05 (z01 L stop (nx + 1 + 1))))) (.returned (.agg #[.int .i64 z0,.bool true,.int .i64 0,.bool false,.bool false])) (set5 w11 w.heap.size (.int .i64 z0) (.bool true) (.int .i64 0) (.bool false) (.bool false))):=⟨show (170 : Int) ≠ 0 by decide,⟨z0,true,0,false,false⟩,_,rfl,HS11.out.set5 (Nat.le_refl _) HB.out _ _ _ _ _⟩
    clear hki hkr
    go_wp2_with fail
    refine bodyPost_ret (results_cell_row rfl _ _ _ _ _ _ _ rfl HAT.out Tryz.underlying26 rfl (by kernel_rfl)) rfl ?_
    rw [HR.out]
    exact HOUT.out
  ·rw [dif_neg hk3] at HNR
   have HA:=z3d pb tb L stop _ deep bad _ HS3.out.1 (fun hl hk => hk3 ⟨hl,hk⟩)
   have HM4:=Lib.hid HA
   have HNQ:=Lib.hid HNR
   clear HA HNR
   go_wp2_with fail
   refine HM4.out.mono ?_
   rintro en w4 ⟨rfl,hs2⟩
   have HS4:=Lib.hid (RP.same HS3.out hs2)
   have HKR4:=Lib.hid (hs2.at HKR3.out hkp)
   have HKI4:=Lib.hid (hs2.at HKI3.out hkip)
   clear hs2 HM4
   have hki:=HKI4.out
   have e0:=Lib.cell_of_heap hki 0
   have f0:=Lib.frozen_of_heap hki 0
   have hltk:=(Array.getElem?_eq_some_iff.1 hki).1
   simp only [List.getElem?_toArray,List.getElem?_cons_zero] at e0
   clear hki
   go_upto_region 6 with fail
   clear e0 f0 hltk
   generalize hq : World.setCell _ _ _ = w5
   have HS5 : Hid (Same pb tb w w5 L stop (nx + 1) deep 170 (z05 (z01 L stop (nx + 1)))):=by rw [Hid,← hq]; exact HS4.out.setCell (by omega) HB.out _ _
   have HKR5 : Hid (w5.heap[w.heap.size]? = some (.cells #[.int .i64 0,.bool false,.int .i64 0,.bool false,.bool false] 26 (0,0))):=by rw [Hid,← hq]; exact (z02 _ _ _ _ _ (by omega)).trans HKR4.out
   have HKI5 : Hid (w5.heap[w.heap.size + 1]? = some (.cells #[.int .i64 0,.bool true,.int .i64 0,.bool false,.bool false] 26 (0,0))):=by rw [Hid,← hq]; exact z09 HKI4.out 0 _
   clear hq
   have HR' : Hid (RES = .error (170,(z05 (z01 L stop (nx + 1))))):=by
    rw [Hid,HR.out]
    unfold itvA; rw [HNQ.out]; rfl
   clear HR
   have HR:=HR'
   clear HR'
   have HM6:=Lib.hid (z0i pb tb L stop _ deep 170 (z05 (z01 L stop (nx + 1))) ⟨#[44]⟩ HE.out _ HS5.out.1)
   go_wp2_with fail
   refine HM6.out.mono ?_
   rintro en w6 ⟨rfl,hs2⟩
   have HS6:=Lib.hid (RP.same HS5.out hs2)
   have HKR6:=Lib.hid (hs2.at HKR5.out hkp)
   have HKI6:=Lib.hid (hs2.at HKI5.out hkip)
   clear hs2 HM6
   have HM7:=Lib.hid (z08 pb tb L stop _ deep 170 (z05 (z01 L stop (nx + 1))) ⟨#[111,111]⟩ HE.out _ HS6.out.1)
   go_wp2_with fail
   refine HM7.out.mono ?_
   rintro en w7 ⟨rfl,hs2⟩
   have HS7:=Lib.hid (RP.same HS6.out hs2)
   have HKR7:=Lib.hid (hs2.at HKR6.out hkp)
   have HKI7:=Lib.hid (hs2.at HKI6.out hkip)
   clear hs2 HM7
   have HM8:=Lib.hid (z18 pb tb L stop _ deep 170 (z05 (z01 L stop (nx + 1))) HE.out _ HS7.out.1)
   go_wp2_with fail
   refine HM8.out.mono ?_
   rintro en w8 ⟨rfl,hs2⟩
   have HS8:=Lib.hid (RP.same HS7.out hs2)
   have HKR8:=Lib.hid (hs2.at HKR7.out hkp)
   have HKI8:=Lib.hid (hs2.at HKI7.out hkip)
   clear hs2 HM8
   have hki:=HKI8.out
   have e2:=Lib.cell_of_heap hki 2
   have f2:=Lib.frozen_of_heap hki 2
   have hltk:=(Array.getElem?_eq_some_iff.1 hki).1
   simp only [List.getElem?_toArray,List.getElem?_cons_zero,List.getElem?_cons_succ] at e2
   clear hki
   go_upto_region 12 with fail
   clear e2 f2 hltk
   generalize hq : World.setCell _ _ _ = w9
   have HS9 : Hid (Same pb tb w w9 L stop (nx + 1) deep 170 (z05 (z01 L stop (nx + 1)))):=by rw [Hid,← hq]; exact HS8.out.setCell (by omega) HB.out _ _
   have HKR9 : Hid (w9.heap[w.heap.size]? = some (.cells #[.int .i64 0,.bool false,.int .i64 0,.bool false,.bool false] 26 (0,0))):=by rw [Hid,← hq]; exact (z02 _ _ _ _ _ (by omega)).trans HKR8.out
   have HKI9 : Hid (w9.heap[w.heap.size + 1]? = some (.cells #[.int .i64 0,.bool true,.int .i64 0,.bool false,.bool false] 26 (0,0))):=by rw [Hid,← hq]; exact z09 HKI8.out 2 _
   clear hq
   have HM10:=Lib.hid (z08 pb tb L stop _ deep 170 (z05 (z01 L stop (nx + 1))) ⟨#[41]⟩ HE.out _ HS9.out.1)
   go_wp2_with fail
   refine HM10.out.mono ?_
   rintro en w10 ⟨rfl,hs2⟩
   have HS10:=Lib.hid (RP.same HS9.out hs2)
   have HKR10:=Lib.hid (hs2.at HKR9.out hkp)
   have HKI10:=Lib.hid (hs2.at HKI9.out hkip)
   clear hs2 HM10
   have HM11:=Lib.hid (z0i pb tb L stop _ deep 170 (z05 (z01 L stop (nx + 1))) ⟨#[93]⟩ HE.out _ HS10.out.1)
   go_wp2_with fail
   refine HM11.out.mono ?_
   rintro en w11 ⟨rfl,hs2⟩
   have HS11:=Lib.hid (RP.same HS10.out hs2)
   have HKR11:=Lib.hid (hs2.at HKR10.out hkp)
   have HKI11:=Lib.hid (hs2.at HKI10.out hkip)
   clear hs2 HM11
   have hki:=HKI11.out
   have hkr:=HKR11.out
   obtain ⟨d0,d1,d2,d3,d4⟩:=cc5 hki
   obtain ⟨e0,e1,e2,e3,e4,f0,f1,f2,f3,f4⟩:=cf5 hkr
   have hltk:=(Array.getElem?_eq_some_iff.1 hki).1
   have hltr:=(Array.getElem?_eq_some_iff.1 hkr).1
   have HAT : Hid ((set5 w11 w.heap.size (.int .i64 0) (.bool true) (.int .i64 0) (.bool false) (.bool false)).heap[w.heap.size]? = some (.cells #[.int .i64 0,.bool true,.int .i64 0,.bool false,.bool false] 26 (0,0))):=z27 hkr _ _ _ _ _
   have HOUT : Hid (z45 pb tb L stop deep bad w (.error (170,(z05 (z01 L stop (nx + 1))))) (.returned (.agg #[.int .i64 0,.bool true,.int .i64 0,.bool false,.bool false])) (set5 w11 w.heap.size (.int .i64 0) (.bool true) (.int .i64 0) (.bool false) (.bool false))):=⟨show (170 : Int) ≠ 0 by decide,⟨0,true,0,false,false⟩,_,rfl,HS11.out.set5 (Nat.le_refl _) HB.out _ _ _ _ _⟩
   clear hki hkr
   go_wp2_with fail
   refine bodyPost_ret (results_cell_row rfl _ _ _ _ _ _ _ rfl HAT.out Tryz.underlying26 rfl (by kernel_rfl)) rfl ?_
   rw [HR.out]
   exact HOUT.out
 | false =>
  rw [show (⟨#[40]⟩ : ByteArray).data.toList = [40] from rfl,q1] at HA
  simp only [Bool.false_eq_true,if_false] at HA
  have HM2:=Lib.hid HA
  clear HA
  go_wp2_with fail
  refine HM2.out.mono ?_
  rintro en w2 ⟨rfl,hs2⟩
  have HS2:=Lib.hid (RP.same HS1.out hs2)
  have HKR2:=Lib.hid (hs2.at HKR1.out hkp)
  have HKI2:=Lib.hid (hs2.at HKI1.out hkip)
  clear hs2 HM2
  cases q2 : isT [91] (z01 L stop (nx)) with
  | true =>
   have hlt2:=z0z (s:=[91]) (by decide) q2
   have HM3:=Lib.hid (z1q pb tb L stop _ deep bad ⟨#[91]⟩ (by decide) _ HS2.out.1 q2)
   go_wp2_with fail
   refine HM3.out.mono ?_
   rintro en w3 ⟨rfl,hs2⟩
   have HS3:=Lib.hid (RP.same HS2.out hs2)
   have HKR3:=Lib.hid (hs2.at HKR2.out hkp)
   have HKI3:=Lib.hid (hs2.at HKI2.out hkip)
   clear hs2 HM3
   have HR' : Hid (RES = itvA false (z01 L stop (nx + 1))):=by
    rw [Hid,HR.out]
    rw [if_neg (by rw [q1]; decide),if_pos q2,z0p hlt2]
   clear HR
   have HR:=HR'
   clear HR'
   clear q2 hlt2
   have HNR:=z69 L stop (nx + 1)
   by_cases hk3 : ∃ hl : nx + 1 < L.length,L[nx + 1].kind = 2
   ·have HA:=z3r pb tb L stop _ deep bad _ HS3.out.1 hk3.1 hk3.2
    rw [dif_pos hk3] at HNR
    generalize z10 (L[nx + 1]'hk3.1).text.data.toList = z0 at HA HNR
    have HM4:=Lib.hid HA
    have HNQ:=Lib.hid HNR
    clear HA HNR
    go_wp2_with fail
    refine HM4.out.mono ?_
    rintro en w4 ⟨rfl,hs2⟩
    have HS4:=Lib.hid (RP.same HS3.out hs2)
    have HKR4:=Lib.hid (hs2.at HKR3.out hkp)
    have HKI4:=Lib.hid (hs2.at HKI3.out hkip)
    clear hs2 HM4
    have hki:=HKI4.out
    have e0:=Lib.cell_of_heap hki 0
    have f0:=Lib.frozen_of_heap hki 0
    have hltk:=(Array.getElem?_eq_some_iff.1 hki).1
    simp only [List.getElem?_toArray,List.getElem?_cons_zero] at e0
    clear hki
    go_upto_region 6 with fail
    clear e0 f0 hltk
    generalize hq : World.setCell _ _ _ = w5
    have HS5 : Hid (Same pb tb w w5 L stop (nx + 1 + 1) deep 0 bad):=by rw [Hid,← hq]; exact HS4.out.setCell (by omega) HB.out _ _
    have HKR5 : Hid (w5.heap[w.heap.size]? = some (.cells #[.int .i64 0,.bool false,.int .i64 0,.bool false,.bool false] 26 (0,0))):=by rw [Hid,← hq]; exact (z02 _ _ _ _ _ (by omega)).trans HKR4.out
    have HKI5 : Hid (w5.heap[w.heap.size + 1]? = some (.cells #[.int .i64 z0,.bool false,.int .i64 0,.bool false,.bool false] 26 (0,0))):=by rw [Hid,← hq]; exact z09 HKI4.out 0 _
    clear hq
    have HR' : Hid (RES = if isT [44] (z01 L stop (nx + 1 + 1)) then itvB false z0 (z01 L stop (nx + 1 + 1)).tail else z1k 170 (z01 L stop (nx + 1 + 1))):=by
     rw [Hid,HR.out]
     unfold itvA; rw [HNQ.out]; rfl
    clear HR
    have HR:=HR'
    clear HR'
    clear HNQ
    cases q5 : isT [44] (z01 L stop (nx + 1 + 1)) with
    | true =>
     have hlt5:=z0z (s:=[44]) (by decide) q5
     have HM6:=Lib.hid (z1q pb tb L stop _ deep bad ⟨#[44]⟩ (by decide) _ HS5.out.1 q5)
     go_wp2_with fail
     refine HM6.out.mono ?_
     rintro en w6 ⟨rfl,hs2⟩
     have HS6:=Lib.hid (RP.same HS5.out hs2)
     have HKR6:=Lib.hid (hs2.at HKR5.out hkp)
     have HKI6:=Lib.hid (hs2.at HKI5.out hkip)
     clear hs2 HM6
     have HR' : Hid (RES = itvB false z0 (z01 L stop (nx + 1 + 1 + 1))):=by
      rw [Hid,HR.out]
      rw [if_pos q5,z0p hlt5]
     clear HR
     have HR:=HR'
     clear HR'
     clear q5 hlt5
     have HA:=z0e pb tb L stop _ deep bad ⟨#[111,111]⟩ (by decide) _ HS6.out.1
     cases q6 : isT [111,111] (z01 L stop (nx + 1 + 1 + 1)) with
     | true =>
      rw [show (⟨#[111,111]⟩ : ByteArray).data.toList = [111,111] from rfl,q6] at HA
      simp only [if_true] at HA
      have hlt6:=z0z (s:=[111,111]) (by decide) q6
      have HM7:=Lib.hid HA
      clear HA
      go_wp2_with fail
      refine HM7.out.mono ?_
      rintro en w7 ⟨rfl,hs2⟩
      have HS7:=Lib.hid (RP.same HS6.out hs2)
      have HKR7:=Lib.hid (hs2.at HKR6.out hkp)
      have HKI7:=Lib.hid (hs2.at HKI6.out hkip)
      clear hs2 HM7
      have HR' : Hid (RES = if isT [41] (z01 L stop (nx + 1 + 1 + 1 + 1)) then .ok (⟨z0,false,0,false,true⟩,(z01 L stop (nx + 1 + 1 + 1 + 1)).tail) else z1k 170 (z01 L stop (nx + 1 + 1 + 1 + 1))):=by
       rw [Hid,HR.out]
       unfold itvB; rw [if_pos q6,z0p hlt6]
      clear HR
      have HR:=HR'
      clear HR'
      clear q6 hlt6
      cases q7 : isT [41] (z01 L stop (nx + 1 + 1 + 1 + 1)) with
      | true =>
       have hlt7:=z0z (s:=[41]) (by decide) q7
       have HM8:=Lib.hid (z1q pb tb L stop _ deep bad ⟨#[41]⟩ (by decide) _ HS7.out.1 q7)
       go_wp2_with fail
       refine HM8.out.mono ?_
       rintro en w8 ⟨rfl,hs2⟩
       have HS8:=Lib.hid (RP.same HS7.out hs2)
       have HKR8:=Lib.hid (hs2.at HKR7.out hkp)
       have HKI8:=Lib.hid (hs2.at HKI7.out hkip)
       clear hs2 HM8
       have HR' : Hid (RES = .ok (⟨z0,false,0,false,true⟩,(z01 L stop (nx + 1 + 1 + 1 + 1 + 1)))):=by
        rw [Hid,HR.out]
        rw [if_pos q7,z0p hlt7]
       clear HR
       have HR:=HR'
       clear HR'
       clear q7 hlt7
       have hki:=HKI8.out
       have e4:=Lib.cell_of_heap hki 4
       have f4:=Lib.frozen_of_heap hki 4
       have hltk:=(Array.getElem?_eq_some_iff.1 hki).1
       simp only [List.getElem?_toArray,List.getElem?_cons_zero,List.getElem?_cons_succ] at e4
       clear hki
       go_upto_region 10 with fail
       clear e4 f4 hltk
       generalize hq : World.setCell _ _ _ = w9
       have HS9 : Hid (Same pb tb w w9 L stop (nx + 1 + 1 + 1 + 1 + 1) deep 0 bad):=by rw [Hid,← hq]; exact HS8.out.setCell (by omega) HB.out _ _
       have HKR9 : Hid (w9.heap[w.heap.size]? = some (.cells #[.int .i64 0,.bool false,.int .i64 0,.bool false,.bool false] 26 (0,0))):=by rw [Hid,← hq]; exact (z02 _ _ _ _ _ (by omega)).trans HKR8.out
       have HKI9 : Hid (w9.heap[w.heap.size + 1]? = some (.cells #[.int .i64 z0,.bool false,.int .i64 0,.bool false,.bool true] 26 (0,0))):=by rw [Hid,← hq]; exact z09 HKI8.out 4 _
       clear hq
       have hki:=HKI9.out
       have hkr:=HKR9.out
       obtain ⟨d0,d1,d2,d3,d4⟩:=cc5 hki
       obtain ⟨e0,e1,e2,e3,e4,f0,f1,f2,f3,f4⟩:=cf5 hkr
       have hltk:=(Array.getElem?_eq_some_iff.1 hki).1
       have hltr:=(Array.getElem?_eq_some_iff.1 hkr).1
       have HAT : Hid ((set5 w9 w.heap.size (.int .i64 z0) (.bool false) (.int .i64 0) (.bool false) (.bool true)).heap[w.heap.size]? = some (.cells #[.int .i64 z0,.bool false,.int .i64 0,.bool false,.bool true] 26 (0,0))):=z27 hkr _ _ _ _ _
       have HOUT : Hid (z45 pb tb L stop deep bad w (.ok (⟨z0,false,0,false,true⟩,z01 L stop (nx + 1 + 1 + 1 + 1 + 1))) (.returned (.agg #[.int .i64 z0,.bool false,.int .i64 0,.bool false,.bool true])) (set5 w9 w.heap.size (.int .i64 z0) (.bool false) (.int .i64 0) (.bool false) (.bool true))):=⟨_,rfl,rfl,HS9.out.set5 (Nat.le_refl _) HB.out _ _ _ _ _⟩
       clear hki hkr
       go_wp2_with fail
       refine bodyPost_ret (results_cell_row rfl _ _ _ _ _ _ _ rfl HAT.out Tryz.underlying26 rfl (by kernel_rfl)) rfl ?_
       rw [HR.out]
       exact HOUT.out
      | false =>
       have HM8:=Lib.hid (z1r pb tb L stop _ deep bad ⟨#[41]⟩ (by decide) _ HS7.out.1 q7)
       go_wp2_with fail
       refine HM8.out.mono ?_
       rintro en w8 ⟨rfl,hs2⟩
       have HS8:=Lib.hid (RP.same HS7.out hs2)
       have HKR8:=Lib.hid (hs2.at HKR7.out hkp)
       have HKI8:=Lib.hid (hs2.at HKI7.out hkip)
       clear hs2 HM8
       have HR' : Hid (RES = .error (170,(z05 (z01 L stop (nx + 1 + 1 + 1 + 1))))):=by
        rw [Hid,HR.out]
        rw [if_neg (by rw [q7]; decide)]; rfl
       clear HR
       have HR:=HR'
       clear HR'
       clear q7
       have hki:=HKI8.out
       have e4:=Lib.cell_of_heap hki 4
       have f4:=Lib.frozen_of_heap hki 4
       have hltk:=(Array.getElem?_eq_some_iff.1 hki).1
       simp only [List.getElem?_toArray,List.getElem?_cons_zero,List.getElem?_cons_succ] at e4
       clear hki
       go_upto_region 10 with fail
       clear e4 f4 hltk
       generalize hq : World.setCell _ _ _ = w9
       have HS9 : Hid (Same pb tb w w9 L stop (nx + 1 + 1 + 1 + 1) deep 170 (z05 (z01 L stop (nx + 1 + 1 + 1 + 1)))):=by rw [Hid,← hq]; exact HS8.out.setCell (by omega) HB.out _ _
       have HKR9 : Hid (w9.heap[w.heap.size]? = some (.cells #[.int .i64 0,.bool false,.int .i64 0,.bool false,.bool false] 26 (0,0))):=by rw [Hid,← hq]; exact (z02 _ _ _ _ _ (by omega)).trans HKR8.out
       have HKI9 : Hid (w9.heap[w.heap.size + 1]? = some (.cells #[.int .i64 z0,.bool false,.int .i64 0,.bool false,.bool true] 26 (0,0))):=by rw [Hid,← hq]; exact z09 HKI8.out 4 _
       clear hq
       have hki:=HKI9.out
       have hkr:=HKR9.out
       obtain ⟨d0,d1,d2,d3,d4⟩:=cc5 hki
       obtain ⟨e0,e1,e2,e3,e4,f0,f1,f2,f3,f4⟩:=cf5 hkr
       have hltk:=(Array.getElem?_eq_some_iff.1 hki).1
       have hltr:=(Array.getElem?_eq_some_iff.1 hkr).1
       have HAT : Hid ((set5 w9 w.heap.size (.int .i64 z0) (.bool false) (.int .i64 0) (.bool false) (.bool true)).heap[w.heap.size]? = some (.cells #[.int .i64 z0,.bool false,.int .i64 0,.bool false,.bool true] 26 (0,0))):=z27 hkr _ _ _ _ _
       have HOUT : Hid (z45 pb tb L stop deep bad w (.error (170,(z05 (z01 L stop (nx + 1 + 1 + 1 + 1))))) (.returned (.agg #[.int .i64 z0,.bool false,.int .i64 0,.bool false,.bool true])) (set5 w9 w.heap.size (.int .i64 z0) (.bool false) (.int .i64 0) (.bool false) (.bool true))):=⟨show (170 : Int) ≠ 0 by decide,⟨z0,false,0,false,true⟩,_,rfl,HS9.out.set5 (Nat.le_refl _) HB.out _ _ _ _ _⟩
       clear hki hkr
       go_wp2_with fail
       refine bodyPost_ret (results_cell_row rfl _ _ _ _ _ _ _ rfl HAT.out Tryz.underlying26 rfl (by kernel_rfl)) rfl ?_
       rw [HR.out]
       exact HOUT.out
     | false =>
      rw [show (⟨#[111,111]⟩ : ByteArray).data.toList = [111,111] from rfl,q6] at HA
      simp only [Bool.false_eq_true,if_false] at HA
      have HM7:=Lib.hid HA
      clear HA
      go_wp2_with fail
      refine HM7.out.mono ?_
      rintro en w7 ⟨rfl,hs2⟩
      have HS7:=Lib.hid (RP.same HS6.out hs2)
      have HKR7:=Lib.hid (hs2.at HKR6.out hkp)
      have HKI7:=Lib.hid (hs2.at HKI6.out hkip)
      clear hs2 HM7
      have HR' : Hid (RES = z1y (numR (z01 L stop (nx + 1 + 1 + 1))) fun high r => if isT [41] r then .ok (⟨z0,false,high,true,false⟩,r.tail) else if isT [93] r then .ok (⟨z0,false,high,false,false⟩,r.tail) else z1k 170 r):=by
       rw [Hid,HR.out]
       unfold itvB; rw [if_neg (by rw [q6]; decide)]
      clear HR
      have HR:=HR'
      clear HR'
      clear q6
      have HNR:=z69 L stop (nx + 1 + 1 + 1)
      by_cases hk7 : ∃ hl : nx + 1 + 1 + 1 < L.length,L[nx + 1 + 1 + 1].kind = 2
      ·have HA:=z3r pb tb L stop _ deep bad _ HS7.out.1 hk7.1 hk7.2
       rw [dif_pos hk7] at HNR
       generalize z10 (L[nx + 1 + 1 + 1]'hk7.1).text.data.toList = z1 at HA HNR
       have HM8:=Lib.hid HA
       have HNQ:=Lib.hid HNR
       clear HA HNR
       go_wp2_with fail
       refine HM8.out.mono ?_
       rintro en w8 ⟨rfl,hs2⟩
       have HS8:=Lib.hid (RP.same HS7.out hs2)
       have HKR8:=Lib.hid (hs2.at HKR7.out hkp)
       have HKI8:=Lib.hid (hs2.at HKI7.out hkip)
       clear hs2 HM8
       have hki:=HKI8.out
       have e2:=Lib.cell_of_heap hki 2
       have f2:=Lib.frozen_of_heap hki 2
       have hltk:=(Array.getElem?_eq_some_iff.1 hki).1
       simp only [List.getElem?_toArray,List.getElem?_cons_zero,List.getElem?_cons_succ] at e2
       clear hki
       go_upto_region 12 with fail
       clear e2 f2 hltk
       generalize hq : World.setCell _ _ _ = w9
       have HS9 : Hid (Same pb tb w w9 L stop (nx + 1 + 1 + 1 + 1) deep 0 bad):=by rw [Hid,← hq]; exact HS8.out.setCell (by omega) HB.out _ _
       have HKR9 : Hid (w9.heap[w.heap.size]? = some (.cells #[.int .i64 0,.bool false,.int .i64 0,.bool false,.bool false] 26 (0,0))):=by rw [Hid,← hq]; exact (z02 _ _ _ _ _ (by omega)).trans HKR8.out
       have HKI9 : Hid (w9.heap[w.heap.size + 1]? = some (.cells #[.int .i64 z0,.bool false,.int .i64 z1,.bool false,.bool false] 26 (0,0))):=by rw [Hid,← hq]; exact z09 HKI8.out 2 _
       clear hq
       have HR' : Hid (RES = if isT [41] (z01 L stop (nx + 1 + 1 + 1 + 1)) then .ok (⟨z0,false,z1,true,false⟩,(z01 L stop (nx + 1 + 1 + 1 + 1)).tail) else if isT [93] (z01 L stop (nx + 1 + 1 + 1 + 1)) then .ok (⟨z0,false,z1,false,false⟩,(z01 L stop (nx + 1 + 1 + 1 + 1)).tail) else z1k 170 (z01 L stop (nx + 1 + 1 + 1 + 1))):=by
        rw [Hid,HR.out]
        rw [HNQ.out]; rfl
       clear HR
       have HR:=HR'
       clear HR'
       clear HNQ
       have HA:=z0e pb tb L stop _ deep bad ⟨#[41]⟩ (by decide) _ HS9.out.1
       cases q9 : isT [41] (z01 L stop (nx + 1 + 1 + 1 + 1)) with
       | true =>
        rw [show (⟨#[41]⟩ : ByteArray).data.toList = [41] from rfl,q9] at HA
        simp only [if_true] at HA
        have hlt9:=z0z (s:=[41]) (by decide) q9
        have HM10:=Lib.hid HA
        clear HA
        go_wp2_with fail
        refine HM10.out.mono ?_
        rintro en w10 ⟨rfl,hs2⟩
        have HS10:=Lib.hid (RP.same HS9.out hs2)
        have HKR10:=Lib.hid (hs2.at HKR9.out hkp)
        have HKI10:=Lib.hid (hs2.at HKI9.out hkip)
        clear hs2 HM10
        have HR' : Hid (RES = .ok (⟨z0,false,z1,true,false⟩,(z01 L stop (nx + 1 + 1 + 1 + 1 + 1)))):=by
         rw [Hid,HR.out]
         rw [if_pos q9,z0p hlt9]
        clear HR
        have HR:=HR'
        clear HR'
        clear q9 hlt9
        have hki:=HKI10.out
        have e3:=Lib.cell_of_heap hki 3
        have f3:=Lib.frozen_of_heap hki 3
        have hltk:=(Array.getElem?_eq_some_iff.1 hki).1
        simp only [List.getElem?_toArray,List.getElem?_cons_zero,List.getElem?_cons_succ] at e3
        clear hki
        go_upto_region 15 with fail
        clear e3 f3 hltk
        generalize hq : World.setCell _ _ _ = w11
        have HS11 : Hid (Same pb tb w w11 L stop (nx + 1 + 1 + 1 + 1 + 1) deep 0 bad):=by rw [Hid,← hq]; exact HS10.out.setCell (by omega) HB.out _ _
        have HKR11 : Hid (w11.heap[w.heap.size]? = some (.cells #[.int .i64 0,.bool false,.int .i64 0,.bool false,.bool false] 26 (0,0))):=by rw [Hid,← hq]; exact (z02 _ _ _ _ _ (by omega)).trans HKR10.out
        have HKI11 : Hid (w11.heap[w.heap.size + 1]? = some (.cells #[.int .i64 z0,.bool false,.int .i64 z1,.bool true,.bool false] 26 (0,0))):=by rw [Hid,← hq]; exact z09 HKI10.out 3 _
        clear hq
        have hki:=HKI11.out
        have hkr:=HKR11.out
        obtain ⟨d0,d1,d2,d3,d4⟩:=cc5 hki
        obtain ⟨e0,e1,e2,e3,e4,f0,f1,f2,f3,f4⟩:=cf5 hkr
        have hltk:=(Array.getElem?_eq_some_iff.1 hki).1
        have hltr:=(Array.getElem?_eq_some_iff.1 hkr).1
        have HAT : Hid ((set5 w11 w.heap.size (.int .i64 z0) (.bool false) (.int .i64 z1) (.bool true) (.bool false)).heap[w.heap.size]? = some (.cells #[.int .i64 z0,.bool false,.int .i64 z1,.bool true,.bool false] 26 (0,0))):=z27 hkr _ _ _ _ _
        have HOUT : Hid (z45 pb tb L stop deep bad w (.ok (⟨z0,false,z1,true,false⟩,z01 L stop (nx + 1 + 1 + 1 + 1 + 1))) (.returned (.agg #[.int .i64 z0,.bool false,.int .i64 z1,.bool true,.bool false])) (set5 w11 w.heap.size (.int .i64 z0) (.bool false) (.int .i64 z1) (.bool true) (.bool false))):=⟨_,rfl,rfl,HS11.out.set5 (Nat.le_refl _) HB.out _ _ _ _ _⟩
        clear hki hkr
        go_wp2_with fail
        refine bodyPost_ret (results_cell_row rfl _ _ _ _ _ _ _ rfl HAT.out Tryz.underlying26 rfl (by kernel_rfl)) rfl ?_
        rw [HR.out]
        exact HOUT.out
       | false =>
        rw [show (⟨#[41]⟩ : ByteArray).data.toList = [41] from rfl,q9] at HA
        simp only [Bool.false_eq_true,if_false] at HA
        have HM10:=Lib.hid HA
        clear HA
        go_wp2_with fail
        refine HM10.out.mono ?_
        rintro en w10 ⟨rfl,hs2⟩
        have HS10:=Lib.hid (RP.same HS9.out hs2)
        have HKR10:=Lib.hid (hs2.at HKR9.out hkp)
        have HKI10:=Lib.hid (hs2.at HKI9.out hkip)
        clear hs2 HM10
        cases q10 : isT [93] (z01 L stop (nx + 1 + 1 + 1 + 1)) with
        | true =>
         have hlt10:=z0z (s:=[93]) (by decide) q10
         have HM11:=Lib.hid (z1q pb tb L stop _ deep bad ⟨#[93]⟩ (by decide) _ HS10.out.1 q10)
         go_wp2_with fail
         refine HM11.out.mono ?_
         rintro en w11 ⟨rfl,hs2⟩
         have HS11:=Lib.hid (RP.same HS10.out hs2)
         have HKR11:=Lib.hid (hs2.at HKR10.out hkp)
         have HKI11:=Lib.hid (hs2.at HKI10.out hkip)
         clear hs2 HM11
         have HR' : Hid (RES = .ok (⟨z0,false,z1,false,false⟩,(z01 L stop (nx + 1 + 1 + 1 + 1 + 1)))):=by
          rw [Hid,HR.out]
          rw [if_neg (by rw [q9]; decide),if_pos q10,z0p hlt10]
         clear HR
         have HR:=HR'
         clear HR'
         clear q9 q10 hlt10
         have hki:=HKI11.out
         have hkr:=HKR11.out
         obtain ⟨d0,d1,d2,d3,d4⟩:=cc5 hki
         obtain ⟨e0,e1,e2,e3,e4,f0,f1,f2,f3,f4⟩:=cf5 hkr
         have hltk:=(Array.getElem?_eq_some_iff.1 hki).1
         have hltr:=(Array.getElem?_eq_some_iff.1 hkr).1
         have HAT : Hid ((set5 w11 w.heap.size (.int .i64 z0) (.bool false) (.int .i64 z1) (.bool false) (.bool false)).heap[w.heap.size]? = some (.cells #[.int .i64 z0,.bool false,.int .i64 z1,.bool false,.bool false] 26 (0,0))):=z27 hkr _ _ _ _ _
         have HOUT : Hid (z45 pb tb L stop deep bad w (.ok (⟨z0,false,z1,false,false⟩,z01 L stop (nx + 1 + 1 + 1 + 1 + 1))) (.returned (.agg #[.int .i64 z0,.bool false,.int .i64 z1,.bool false,.bool false])) (set5 w11 w.heap.size (.int .i64 z0) (.bool false) (.int .i64 z1) (.bool false) (.bool false))):=⟨_,rfl,rfl,HS11.out.set5 (Nat.le_refl _) HB.out _ _ _ _ _⟩
         clear hki hkr
         go_wp2_with fail
         refine bodyPost_ret (results_cell_row rfl _ _ _ _ _ _ _ rfl HAT.out Tryz.underlying26 rfl (by kernel_rfl)) rfl ?_
         rw [HR.out]
         exact HOUT.out
        | false =>
         have HM11:=Lib.hid (z1r pb tb L stop _ deep bad ⟨#[93]⟩ (by decide) _ HS10.out.1 q10)
         go_wp2_with fail
         refine HM11.out.mono ?_
         rintro en w11 ⟨rfl,hs2⟩
         have HS11:=Lib.hid (RP.same HS10.out hs2)
         have HKR11:=Lib.hid (hs2.at HKR10.out hkp)
         have HKI11:=Lib.hid (hs2.at HKI10.out hkip)
         clear hs2 HM11
         have HR' : Hid (RES = .error (170,(z05 (z01 L stop (nx + 1 + 1 + 1 + 1))))):=by
          rw [Hid,HR.out]
          rw [if_neg (by rw [q9]; decide),if_neg (by rw [q10]; decide)]; rfl
         clear HR
         have HR:=HR'
         clear HR'
         clear q9 q10
         have hki:=HKI11.out
         have hkr:=HKR11.out
         obtain ⟨d0,d1,d2,d3,d4⟩:=cc5 hki
         obtain ⟨e0,e1,e2,e3,e4,f0,f1,f2,f3,f4⟩:=cf5 hkr
         have hltk:=(Array.getElem?_eq_some_iff.1 hki).1
         have hltr:=(Array.getElem?_eq_some_iff.1 hkr).1
         have HAT : Hid ((set5 w11 w.heap.size (.int .i64 z0) (.bool false) (.int .i64 z1) (.bool false) (.bool false)).heap[w.heap.size]? = some (.cells #[.int .i64 z0,.bool false,.int .i64 z1,.bool false,.bool false] 26 (0,0))):=z27 hkr _ _ _ _ _
         have HOUT : Hid (z45 pb tb L stop deep bad w (.error (170,(z05 (z01 L stop (nx + 1 + 1 + 1 + 1))))) (.returned (.agg #[.int .i64 z0,.bool false,.int .i64 z1,.bool false,.bool false])) (set5 w11 w.heap.size (.int .i64 z0) (.bool false) (.int .i64 z1) (.bool false) (.bool false))):=⟨show (170 : Int) ≠ 0 by decide,⟨z0,false,z1,false,false⟩,_,rfl,HS11.out.set5 (Nat.le_refl _) HB.out _ _ _ _ _⟩
         clear hki hkr
         go_wp2_with fail
         refine bodyPost_ret (results_cell_row rfl _ _ _ _ _ _ _ rfl HAT.out Tryz.underlying26 rfl (by kernel_rfl)) rfl ?_
         rw [HR.out]
         exact HOUT.out
      ·rw [dif_neg hk7] at HNR
       have HA:=z3d pb tb L stop _ deep bad _ HS7.out.1 (fun hl hk => hk7 ⟨hl,hk⟩)
       have HM8:=Lib.hid HA
       have HNQ:=Lib.hid HNR
       clear HA HNR
       go_wp2_with fail
       refine HM8.out.mono ?_
       rintro en w8 ⟨rfl,hs2⟩
       have HS8:=Lib.hid (RP.same HS7.out hs2)
       have HKR8:=Lib.hid (hs2.at HKR7.out hkp)
       have HKI8:=Lib.hid (hs2.at HKI7.out hkip)
       clear hs2 HM8
       have hki:=HKI8.out
       have e2:=Lib.cell_of_heap hki 2
       have f2:=Lib.frozen_of_heap hki 2
       have hltk:=(Array.getElem?_eq_some_iff.1 hki).1
       simp only [List.getElem?_toArray,List.getElem?_cons_zero,List.getElem?_cons_succ] at e2
       clear hki
       go_upto_region 12 with fail
       clear e2 f2 hltk
       generalize hq : World.setCell _ _ _ = w9
       have HS9 : Hid (Same pb tb w w9 L stop (nx + 1 + 1 + 1) deep 170 (z05 (z01 L stop (nx + 1 + 1 + 1)))):=by rw [Hid,← hq]; exact HS8.out.setCell (by omega) HB.out _ _
       have HKR9 : Hid (w9.heap[w.heap.size]? = some (.cells #[.int .i64 0,.bool false,.int .i64 0,.bool false,.bool false] 26 (0,0))):=by rw [Hid,← hq]; exact (z02 _ _ _ _ _ (by omega)).trans HKR8.out
       have HKI9 : Hid (w9.heap[w.heap.size + 1]? = some (.cells #[.int .i64 z0,.bool false,.int .i64 0,.bool false,.bool false] 26 (0,0))):=by rw [Hid,← hq]; exact z09 HKI8.out 2 _
       clear hq
       have HR' : Hid (RES = .error (170,(z05 (z01 L stop (nx + 1 + 1 + 1))))):=by
        rw [Hid,HR.out]
        rw [HNQ.out]; rfl
       clear HR
       have HR:=HR'
       clear HR'
       have HM10:=Lib.hid (z08 pb tb L stop _ deep 170 (z05 (z01 L stop (nx + 1 + 1 + 1))) ⟨#[41]⟩ HE.out _ HS9.out.1)
       go_wp2_with fail
       refine HM10.out.mono ?_
       rintro en w10 ⟨rfl,hs2⟩
       have HS10:=Lib.hid (RP.same HS9.out hs2)
       have HKR10:=Lib.hid (hs2.at HKR9.out hkp)
       have HKI10:=Lib.hid (hs2.at HKI9.out hkip)
       clear hs2 HM10
       have HM11:=Lib.hid (z0i pb tb L stop _ deep 170 (z05 (z01 L stop (nx + 1 + 1 + 1))) ⟨#[93]⟩ HE.out _ HS10.out.1)
       go_wp2_with fail
       refine HM11.out.mono ?_
       rintro en w11 ⟨rfl,hs2⟩
       have HS11:=Lib.hid (RP.same HS10.out hs2)
       have HKR11:=Lib.hid (hs2.at HKR10.out hkp)
       have HKI11:=Lib.hid (hs2.at HKI10.out hkip)
       clear hs2 HM11
       have hki:=HKI11.out
       have hkr:=HKR11.out
       obtain ⟨d0,d1,d2,d3,d4⟩:=cc5 hki
       obtain ⟨e0,e1,e2,e3,e4,f0,f1,f2,f3,f4⟩:=cf5 hkr
       have hltk:=(Array.getElem?_eq_some_iff.1 hki).1
       have hltr:=(Array.getElem?_eq_some_iff.1 hkr).1
       have HAT : Hid ((set5 w11 w.heap.size (.int .i64 z0) (.bool false) (.int .i64 0) (.bool false) (.bool false)).heap[w.heap.size]? = some (.cells #[.int .i64 z0,.bool false,.int .i64 0,.bool false,.bool false] 26 (0,0))):=z27 hkr _ _ _ _ _
       have HOUT : Hid (z45 pb tb L stop deep bad w (.error (170,(z05 (z01 L stop (nx + 1 + 1 + 1))))) (.returned (.agg #[.int .i64 z0,.bool false,.int .i64 0,.bool false,.bool false])) (set5 w11 w.heap.size (.int .i64 z0) (.bool false) (.int .i64 0) (.bool false) (.bool false))):=⟨show (170 : Int) ≠ 0 by decide,⟨z0,false,0,false,false⟩,_,rfl,HS11.out.set5 (Nat.le_refl _) HB.out _ _ _ _ _⟩
       clear hki hkr
       go_wp2_with fail
       refine bodyPost_ret (results_cell_row rfl _ _ _ _ _ _ _ rfl HAT.out Tryz.underlying26 rfl (by kernel_rfl)) rfl ?_
       rw [HR.out]
       exact HOUT.out
    | false =>
     have HM6:=Lib.hid (z1r pb tb L stop _ deep bad ⟨#[44]⟩ (by decide) _ HS5.out.1 q5)
     go_wp2_with fail
     refine HM6.out.mono ?_
     rintro en w6 ⟨rfl,hs2⟩
     have HS6:=Lib.hid (RP.same HS5.out hs2)
     have HKR6:=Lib.hid (hs2.at HKR5.out hkp)
     have HKI6:=Lib.hid (hs2.at HKI5.out hkip)
     clear hs2 HM6
     have HR' : Hid (RES = .error (170,(z05 (z01 L stop (nx + 1 + 1))))):=by
      rw [Hid,HR.out]
      rw [if_neg (by rw [q5]; decide)]; rfl
     clear HR
     have HR:=HR'
     clear HR'
     have HM7:=Lib.hid (z08 pb tb L stop _ deep 170 (z05 (z01 L stop (nx + 1 + 1))) ⟨#[111,111]⟩ HE.out _ HS6.out.1)
     go_wp2_with fail
     refine HM7.out.mono ?_
     rintro en w7 ⟨rfl,hs2⟩
     have HS7:=Lib.hid (RP.same HS6.out hs2)
     have HKR7:=Lib.hid (hs2.at HKR6.out hkp)
     have HKI7:=Lib.hid (hs2.at HKI6.out hkip)
     clear hs2 HM7
     have HM8:=Lib.hid (z18 pb tb L stop _ deep 170 (z05 (z01 L stop (nx + 1 + 1))) HE.out _ HS7.out.1)
     go_wp2_with fail
     refine HM8.out.mono ?_
     rintro en w8 ⟨rfl,hs2⟩
     have HS8:=Lib.hid (RP.same HS7.out hs2)
     have HKR8:=Lib.hid (hs2.at HKR7.out hkp)
     have HKI8:=Lib.hid (hs2.at HKI7.out hkip)
     clear hs2 HM8
     have hki:=HKI8.out
     have e2:=Lib.cell_of_heap hki 2
     have f2:=Lib.frozen_of_heap hki 2
     have hltk:=(Array.getElem?_eq_some_iff.1 hki).1
     simp only [List.getElem?_toArray,List.getElem?_cons_zero,List.getElem?_cons_succ] at e2
     clear hki
     go_upto_region 12 with fail
     clear e2 f2 hltk
     generalize hq : World.setCell _ _ _ = w9
     have HS9 : Hid (Same pb tb w w9 L stop (nx + 1 + 1) deep 170 (z05 (z01 L stop (nx + 1 + 1)))):=by rw [Hid,← hq]; exact HS8.out.setCell (by omega) HB.out _ _
     have HKR9 : Hid (w9.heap[w.heap.size]? = some (.cells #[.int .i64 0,.bool false,.int .i64 0,.bool false,.bool false] 26 (0,0))):=by rw [Hid,← hq]; exact (z02 _ _ _ _ _ (by omega)).trans HKR8.out
     have HKI9 : Hid (w9.heap[w.heap.size + 1]? = some (.cells #[.int .i64 z0,.bool false,.int .i64 0,.bool false,.bool false] 26 (0,0))):=by rw [Hid,← hq]; exact z09 HKI8.out 2 _
     clear hq
     have HM10:=Lib.hid (z08 pb tb L stop _ deep 170 (z05 (z01 L stop (nx + 1 + 1))) ⟨#[41]⟩ HE.out _ HS9.out.1)
     go_wp2_with fail
     refine HM10.out.mono ?_
     rintro en w10 ⟨rfl,hs2⟩
     have HS10:=Lib.hid (RP.same HS9.out hs2)
     have HKR10:=Lib.hid (hs2.at HKR9.out hkp)
     have HKI10:=Lib.hid (hs2.at HKI9.out hkip)
     clear hs2 HM10
     have HM11:=Lib.hid (z0i pb tb L stop _ deep 170 (z05 (z01 L stop (nx + 1 + 1))) ⟨#[93]⟩ HE.out _ HS10.out.1)
     go_wp2_with fail
     refine HM11.out.mono ?_
     rintro en w11 ⟨rfl,hs2⟩
     have HS11:=Lib.hid (RP.same HS10.out hs2)
     have HKR11:=Lib.hid (hs2.at HKR10.out hkp)
     have HKI11:=Lib.hid (hs2.at HKI10.out hkip)
     clear hs2 HM11
     have hki:=HKI11.out
     have hkr:=HKR11.out
     obtain ⟨d0,d1,d2,d3,d4⟩:=cc5 hki
     obtain ⟨e0,e1,e2,e3,e4,f0,f1,f2,f3,f4⟩:=cf5 hkr
     have hltk:=(Array.getElem?_eq_some_iff.1 hki).1
     have hltr:=(Array.getElem?_eq_some_iff.1 hkr).1
     have HAT : Hid ((set5 w11 w.heap.size (.int .i64 z0) (.bool false) (.int .i64 0) (.bool false) (.bool false)).heap[w.heap.size]? = some (.cells #[.int .i64 z0,.bool false,.int .i64 0,.bool false,.bool false] 26 (0,0))):=z27 hkr _ _ _ _ _
     have HOUT : Hid (z45 pb tb L stop deep bad w (.error (170,(z05 (z01 L stop (nx + 1 + 1))))) (.returned (.agg #[.int .i64 z0,.bool false,.int .i64 0,.bool false,.bool false])) (set5 w11 w.heap.size (.int .i64 z0) (.bool false) (.int .i64 0) (.bool false) (.bool false))):=⟨show (170 : Int) ≠ 0 by decide,⟨z0,false,0,false,false⟩,_,rfl,HS11.out.set5 (Nat.le_refl _) HB.out _ _ _ _ _⟩
     clear hki hkr
     go_wp2_with fail
     refine bodyPost_ret (results_cell_row rfl _ _ _ _ _ _ _ rfl HAT.out Tryz.underlying26 rfl (by kernel_rfl)) rfl ?_
     rw [HR.out]
     exact HOUT.out
   ·rw [dif_neg hk3] at HNR
    have HA:=z3d pb tb L stop _ deep bad _ HS3.out.1 (fun hl hk => hk3 ⟨hl,hk⟩)
    have HM4:=Lib.hid HA
    have HNQ:=Lib.hid HNR
    clear HA HNR
    go_wp2_with fail
    refine HM4.out.mono ?_
    rintro en w4 ⟨rfl,hs2⟩
    have HS4:=Lib.hid (RP.same HS3.out hs2)
    have HKR4:=Lib.hid (hs2.at HKR3.out hkp)
    have HKI4:=Lib.hid (hs2.at HKI3.out hkip)
    clear hs2 HM4
    have hki:=HKI4.out
    have e0:=Lib.cell_of_heap hki 0
    have f0:=Lib.frozen_of_heap hki 0
    have hltk:=(Array.getElem?_eq_some_iff.1 hki).1
    simp only [List.getElem?_toArray,List.getElem?_cons_zero] at e0
    clear hki
    go_upto_region 6 with fail
    clear e0 f0 hltk
    generalize hq : World.setCell _ _ _ = w5
    have HS5 : Hid (Same pb tb w w5 L stop (nx + 1) deep 170 (z05 (z01 L stop (nx + 1)))):=by rw [Hid,← hq]; exact HS4.out.setCell (by omega) HB.out _ _
    have HKR5 : Hid (w5.heap[w.heap.size]? = some (.cells #[.int .i64 0,.bool false,.int .i64 0,.bool false,.bool false] 26 (0,0))):=by rw [Hid,← hq]; exact (z02 _ _ _ _ _ (by omega)).trans HKR4.out
    have HKI5 : Hid (w5.heap[w.heap.size + 1]? = some (.cells #[.int .i64 0,.bool false,.int .i64 0,.bool false,.bool false] 26 (0,0))):=by rw [Hid,← hq]; exact z09 HKI4.out 0 _
    clear hq
    have HR' : Hid (RES = .error (170,(z05 (z01 L stop (nx + 1))))):=by
     rw [Hid,HR.out]
     unfold itvA; rw [HNQ.out]; rfl
    clear HR
    have HR:=HR'
    clear HR'
    have HM6:=Lib.hid (z0i pb tb L stop _ deep 170 (z05 (z01 L stop (nx + 1))) ⟨#[44]⟩ HE.out _ HS5.out.1)
    go_wp2_with fail
    refine HM6.out.mono ?_
    rintro en w6 ⟨rfl,hs2⟩
    have HS6:=Lib.hid (RP.same HS5.out hs2)
    have HKR6:=Lib.hid (hs2.at HKR5.out hkp)
    have HKI6:=Lib.hid (hs2.at HKI5.out hkip)
    clear hs2 HM6
    have HM7:=Lib.hid (z08 pb tb L stop _ deep 170 (z05 (z01 L stop (nx + 1))) ⟨#[111,111]⟩ HE.out _ HS6.out.1)
    go_wp2_with fail
    refine HM7.out.mono ?_
    rintro en w7 ⟨rfl,hs2⟩
    have HS7:=Lib.hid (RP.same HS6.out hs2)
    have HKR7:=Lib.hid (hs2.at HKR6.out hkp)
    have HKI7:=Lib.hid (hs2.at HKI6.out hkip)
    clear hs2 HM7
    have HM8:=Lib.hid (z18 pb tb L stop _ deep 170 (z05 (z01 L stop (nx + 1))) HE.out _ HS7.out.1)
    go_wp2_with fail
    refine HM8.out.mono ?_
    rintro en w8 ⟨rfl,hs2⟩
    have HS8:=Lib.hid (RP.same HS7.out hs2)
    have HKR8:=Lib.hid (hs2.at HKR7.out hkp)
    have HKI8:=Lib.hid (hs2.at HKI7.out hkip)
    clear hs2 HM8
    have hki:=HKI8.out
    have e2:=Lib.cell_of_heap hki 2
    have f2:=Lib.frozen_of_heap hki 2
    have hltk:=(Array.getElem?_eq_some_iff.1 hki).1
    simp only [List.getElem?_toArray,List.getElem?_cons_zero,List.getElem?_cons_succ] at e2
    clear hki
    go_upto_region 12 with fail
    clear e2 f2 hltk
    generalize hq : World.setCell _ _ _ = w9
    have HS9 : Hid (Same pb tb w w9 L stop (nx + 1) deep 170 (z05 (z01 L stop (nx + 1)))):=by rw [Hid,← hq]; exact HS8.out.setCell (by omega) HB.out _ _
    have HKR9 : Hid (w9.heap[w.heap.size]? = some (.cells #[.int .i64 0,.bool false,.int .i64 0,.bool false,.bool false] 26 (0,0))):=by rw [Hid,← hq]; exact (z02 _ _ _ _ _ (by omega)).trans HKR8.out
    have HKI9 : Hid (w9.heap[w.heap.size + 1]? = some (.cells #[.int .i64 0,.bool false,.int .i64 0,.bool false,.bool false] 26 (0,0))):=by rw [Hid,← hq]; exact z09 HKI8.out 2 _
    clear hq
    have HM10:=Lib.hid (z08 pb tb L stop _ deep 170 (z05 (z01 L stop (nx + 1))) ⟨#[41]⟩ HE.out _ HS9.out.1)
    go_wp2_with fail
    refine HM10.out.mono ?_
    rintro en w10 ⟨rfl,hs2⟩
    have HS10:=Lib.hid (RP.same HS9.out hs2)
    have HKR10:=Lib.hid (hs2.at HKR9.out hkp)
    have HKI10:=Lib.hid (hs2.at HKI9.out hkip)
    clear hs2 HM10
    have HM11:=Lib.hid (z0i pb tb L stop _ deep 170 (z05 (z01 L stop (nx + 1))) ⟨#[93]⟩ HE.out _ HS10.out.1)
    go_wp2_with fail
    refine HM11.out.mono ?_
    rintro en w11 ⟨rfl,hs2⟩
    have HS11:=Lib.hid (RP.same HS10.out hs2)
    have HKR11:=Lib.hid (hs2.at HKR10.out hkp)
    have HKI11:=Lib.hid (hs2.at HKI10.out hkip)
    clear hs2 HM11
    have hki:=HKI11.out
    have hkr:=HKR11.out
    obtain ⟨d0,d1,d2,d3,d4⟩:=cc5 hki
    obtain ⟨e0,e1,e2,e3,e4,f0,f1,f2,f3,f4⟩:=cf5 hkr
    have hltk:=(Array.getElem?_eq_some_iff.1 hki).1
    have hltr:=(Array.getElem?_eq_some_iff.1 hkr).1
    have HAT : Hid ((set5 w11 w.heap.size (.int .i64 0) (.bool false) (.int .i64 0) (.bool false) (.bool false)).heap[w.heap.size]? = some (.cells #[.int .i64 0,.bool false,.int .i64 0,.bool false,.bool false] 26 (0,0))):=z27 hkr _ _ _ _ _
    have HOUT : Hid (z45 pb tb L stop deep bad w (.error (170,(z05 (z01 L stop (nx + 1))))) (.returned (.agg #[.int .i64 0,.bool false,.int .i64 0,.bool false,.bool false])) (set5 w11 w.heap.size (.int .i64 0) (.bool false) (.int .i64 0) (.bool false) (.bool false))):=⟨show (170 : Int) ≠ 0 by decide,⟨0,false,0,false,false⟩,_,rfl,HS11.out.set5 (Nat.le_refl _) HB.out _ _ _ _ _⟩
    clear hki hkr
    go_wp2_with fail
    refine bodyPost_ret (results_cell_row rfl _ _ _ _ _ _ _ rfl HAT.out Tryz.underlying26 rfl (by kernel_rfl)) rfl ?_
    rw [HR.out]
    exact HOUT.out
  | false =>
   have HM3:=Lib.hid (z1r pb tb L stop _ deep bad ⟨#[91]⟩ (by decide) _ HS2.out.1 q2)
   go_wp2_with fail
   refine HM3.out.mono ?_
   rintro en w3 ⟨rfl,hs2⟩
   have HS3:=Lib.hid (RP.same HS2.out hs2)
   have HKR3:=Lib.hid (hs2.at HKR2.out hkp)
   have HKI3:=Lib.hid (hs2.at HKI2.out hkip)
   clear hs2 HM3
   have HR' : Hid (RES = .error (170,(z05 (z01 L stop (nx))))):=by
    rw [Hid,HR.out]
    rw [if_neg (by rw [q1]; decide),if_neg (by rw [q2]; decide)]; rfl
   clear HR
   have HR:=HR'
   clear HR'
   have HM4:=Lib.hid (z18 pb tb L stop _ deep 170 (z05 (z01 L stop (nx))) HE.out _ HS3.out.1)
   go_wp2_with fail
   refine HM4.out.mono ?_
   rintro en w4 ⟨rfl,hs2⟩
   have HS4:=Lib.hid (RP.same HS3.out hs2)
   have HKR4:=Lib.hid (hs2.at HKR3.out hkp)
   have HKI4:=Lib.hid (hs2.at HKI3.out hkip)
   clear hs2 HM4
   have hki:=HKI4.out
   have e0:=Lib.cell_of_heap hki 0
   have f0:=Lib.frozen_of_heap hki 0
   have hltk:=(Array.getElem?_eq_some_iff.1 hki).1
   simp only [List.getElem?_toArray,List.getElem?_cons_zero] at e0
   clear hki
   go_upto_region 6 with fail
   clear e0 f0 hltk
   generalize hq : World.setCell _ _ _ = w5
   have HS5 : Hid (Same pb tb w w5 L stop (nx) deep 170 (z05 (z01 L stop (nx)))):=by rw [Hid,← hq]; exact HS4.out.setCell (by omega) HB.out _ _
   have HKR5 : Hid (w5.heap[w.heap.size]? = some (.cells #[.int .i64 0,.bool false,.int .i64 0,.bool false,.bool false] 26 (0,0))):=by rw [Hid,← hq]; exact (z02 _ _ _ _ _ (by omega)).trans HKR4.out
   have HKI5 : Hid (w5.heap[w.heap.size + 1]? = some (.cells #[.int .i64 0,.bool false,.int .i64 0,.bool false,.bool false] 26 (0,0))):=by rw [Hid,← hq]; exact z09 HKI4.out 0 _
   clear hq
   have HM6:=Lib.hid (z0i pb tb L stop _ deep 170 (z05 (z01 L stop (nx))) ⟨#[44]⟩ HE.out _ HS5.out.1)
   go_wp2_with fail
   refine HM6.out.mono ?_
   rintro en w6 ⟨rfl,hs2⟩
   have HS6:=Lib.hid (RP.same HS5.out hs2)
   have HKR6:=Lib.hid (hs2.at HKR5.out hkp)
   have HKI6:=Lib.hid (hs2.at HKI5.out hkip)
   clear hs2 HM6
   have HM7:=Lib.hid (z08 pb tb L stop _ deep 170 (z05 (z01 L stop (nx))) ⟨#[111,111]⟩ HE.out _ HS6.out.1)
   go_wp2_with fail
   refine HM7.out.mono ?_
   rintro en w7 ⟨rfl,hs2⟩
   have HS7:=Lib.hid (RP.same HS6.out hs2)
   have HKR7:=Lib.hid (hs2.at HKR6.out hkp)
   have HKI7:=Lib.hid (hs2.at HKI6.out hkip)
   clear hs2 HM7
   have HM8:=Lib.hid (z18 pb tb L stop _ deep 170 (z05 (z01 L stop (nx))) HE.out _ HS7.out.1)
   go_wp2_with fail
   refine HM8.out.mono ?_
   rintro en w8 ⟨rfl,hs2⟩
   have HS8:=Lib.hid (RP.same HS7.out hs2)
   have HKR8:=Lib.hid (hs2.at HKR7.out hkp)
   have HKI8:=Lib.hid (hs2.at HKI7.out hkip)
   clear hs2 HM8
   have hki:=HKI8.out
   have e2:=Lib.cell_of_heap hki 2
   have f2:=Lib.frozen_of_heap hki 2
   have hltk:=(Array.getElem?_eq_some_iff.1 hki).1
   simp only [List.getElem?_toArray,List.getElem?_cons_zero,List.getElem?_cons_succ] at e2
   clear hki
   go_upto_region 12 with fail
   clear e2 f2 hltk
   generalize hq : World.setCell _ _ _ = w9
   have HS9 : Hid (Same pb tb w w9 L stop (nx) deep 170 (z05 (z01 L stop (nx)))):=by rw [Hid,← hq]; exact HS8.out.setCell (by omega) HB.out _ _
   have HKR9 : Hid (w9.heap[w.heap.size]? = some (.cells #[.int .i64 0,.bool false,.int .i64 0,.bool false,.bool false] 26 (0,0))):=by rw [Hid,← hq]; exact (z02 _ _ _ _ _ (by omega)).trans HKR8.out
   have HKI9 : Hid (w9.heap[w.heap.size + 1]? = some (.cells #[.int .i64 0,.bool false,.int .i64 0,.bool false,.bool false] 26 (0,0))):=by rw [Hid,← hq]; exact z09 HKI8.out 2 _
   clear hq
   have HM10:=Lib.hid (z08 pb tb L stop _ deep 170 (z05 (z01 L stop (nx))) ⟨#[41]⟩ HE.out _ HS9.out.1)
   go_wp2_with fail
   refine HM10.out.mono ?_
   rintro en w10 ⟨rfl,hs2⟩
   have HS10:=Lib.hid (RP.same HS9.out hs2)
   have HKR10:=Lib.hid (hs2.at HKR9.out hkp)
   have HKI10:=Lib.hid (hs2.at HKI9.out hkip)
   clear hs2 HM10
   have HM11:=Lib.hid (z0i pb tb L stop _ deep 170 (z05 (z01 L stop (nx))) ⟨#[93]⟩ HE.out _ HS10.out.1)
   go_wp2_with fail
   refine HM11.out.mono ?_
   rintro en w11 ⟨rfl,hs2⟩
   have HS11:=Lib.hid (RP.same HS10.out hs2)
   have HKR11:=Lib.hid (hs2.at HKR10.out hkp)
   have HKI11:=Lib.hid (hs2.at HKI10.out hkip)
   clear hs2 HM11
   have hki:=HKI11.out
   have hkr:=HKR11.out
   obtain ⟨d0,d1,d2,d3,d4⟩:=cc5 hki
   obtain ⟨e0,e1,e2,e3,e4,f0,f1,f2,f3,f4⟩:=cf5 hkr
   have hltk:=(Array.getElem?_eq_some_iff.1 hki).1
   have hltr:=(Array.getElem?_eq_some_iff.1 hkr).1
   have HAT : Hid ((set5 w11 w.heap.size (.int .i64 0) (.bool false) (.int .i64 0) (.bool false) (.bool false)).heap[w.heap.size]? = some (.cells #[.int .i64 0,.bool false,.int .i64 0,.bool false,.bool false] 26 (0,0))):=z27 hkr _ _ _ _ _
   have HOUT : Hid (z45 pb tb L stop deep bad w (.error (170,(z05 (z01 L stop (nx))))) (.returned (.agg #[.int .i64 0,.bool false,.int .i64 0,.bool false,.bool false])) (set5 w11 w.heap.size (.int .i64 0) (.bool false) (.int .i64 0) (.bool false) (.bool false))):=⟨show (170 : Int) ≠ 0 by decide,⟨0,false,0,false,false⟩,_,rfl,HS11.out.set5 (Nat.le_refl _) HB.out _ _ _ _ _⟩
   clear hki hkr
   go_wp2_with fail
   refine bodyPost_ret (results_cell_row rfl _ _ _ _ _ _ _ rfl HAT.out Tryz.underlying26 rfl (by kernel_rfl)) rfl ?_
   rw [HR.out]
   exact HOUT.out
end Go.Proofs.YtpgdplmndnopbaaGreatDoor
