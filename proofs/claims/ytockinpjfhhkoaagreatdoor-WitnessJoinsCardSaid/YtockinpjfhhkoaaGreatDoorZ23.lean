/- tree.Names walked: which names may be declared (the set of those that were seen lies in a map). -/
import Derived.Maps.OwnOps
import Derived.Maps.Views
import Derived.Test.YtockinpjfhhkoaaGreatDoorZ21
import Derived.Test.YtockinpjfhhkoaaGreatDoorZ06
import Derived.Test.YtockinpjfhhkoaaGreatDoorZ22
import Derived.StillTailTactics
import Derived.Deep.RegionHeld3
import Derived.Deep.RegionLaw
set_option maxRecDepth 100000
set_option maxHeartbeats 16000000
open Go.Lib renaming cell_of_heap → Jc, hid → Jh
namespace Go.Proofs.YtockinpjfhhkoaaGreatDoor
open Go.RowKit Go.Maps
def seenD : List ByteArray → DataW Unit
 | [] => .map []
 | x :: r => (seenD r).put (.string x.data.toList) (.lit (.int .i64 1))
theorem za6 : ∀ l,IsMap (seenD l)
 | [] => ⟨[],rfl⟩
 | x :: r => by
  obtain ⟨es,h⟩:=za6 r
  show IsMap ((seenD r).put _ _)
  rw [h]; exact ⟨_,rfl⟩
theorem seenD_at (s : ByteArray) : ∀ l,(seenD l).atKey (.string s.data.toList) (.lit (.int .i64 0)) = .lit (.int .i64 (if inN s l then 1 else 0))
 | [] => rfl
 | x :: r => by
  show ((seenD r).put _ _).atKey _ _ = _
  by_cases h : s.data.toList = x.data.toList
  ·rw [h,atKey_put_same (za6 r) (show WideAt.IsKeyLit (.string _) from trivial)]
   have : inN s (x :: r) = true:=by unfold inN; rw [List.any_cons,ByteArray.toList_eq,ByteArray.toList_eq,h]; simp
   rw [this]; rfl
  ·rw [atKey_put_other (fun e => h (by injection e)),seenD_at s r]
   have : inN s (x :: r) = inN s r:=by
    unfold inN; rw [List.any_cons,ByteArray.toList_eq,ByteArray.toList_eq]
    have : (s.data.toList == x.data.toList) = false:=by simpa using h
    rw [this,Bool.false_or]
   rw [this]
theorem law9 : Keyed Tryz.prog 9:=string_keyed Tryz.underlying9
theorem zero3 (w : World) : (zeroValue 3).run Tryz.prog w = .ok (.int .i64 0) w:=by kernel_rfl
def Seen (w : World) (N n : Nat) (seen : List ByteArray) : Prop:=w.ownsMap Tryz.prog 9 (plainElem Tryz.prog 3) N n (seenD seen) ∧ w.cell? ⟨N + 1,0,none⟩ = some (.map (some N))
theorem odd45_any (s : ByteArray) (hs : s.size ≤ 1048576) (seen : List ByteArray) (N n : Nat) (w : World) (hr : Rdy w) (hN : 4 ≤ N) (hn : n < 100) (h : Seen w N n seen) :
 Calls Tryz.prog 135 #[.string s,.pointer (some ⟨N + 1,0,none⟩)] w fun e w' => e = .returned (.bool (inN s seen || !zac s.data.toList)) ∧ (inN s seen = false → Seen w' N (n + 1) (s :: seen)) ∧ w.grownBy w' (some N):=by
 obtain ⟨hown,hc⟩:=h
 have hml : s.size ≤ maxLen:=by unfold maxLen; omega
 have hkey:=Go.WideMaps.keyOf_string_mk (P:=Tryz.prog) Tryz.underlying9 hml
 have HKEY:=Jh hkey
 have HAT:=Jh (seenD_at s seen)
 have HOWN:=Jh hown
 have HR:=Jh hr
 have hNs:=hown.lt
 have HNM : Hid (∀ W,Rdy W → Calls Tryz.prog 136 #[.string s] W fun e w' => e = .returned (.bool (zac s.data.toList)) ∧ Below W.heap.size W w'):=fun W hW => name19_any s hs W hW
 have hcs : N + 1 < w.heap.size:=by
  have h3:=hc
  unfold World.cell? at h3
  rcases Nat.lt_or_ge (N + 1) w.heap.size with h | h
  ·exact h
  ·simp [Array.getElem?_eq_none h] at h3
 have HPUT : Hid (seenD (s :: seen) = (seenD seen).put (.string s.data.toList) (.lit (.int .i64 1))):=rfl
 clear hown hkey hr hs hml
 have HRG : Hid (∀ w1,w.grownBy w1 (some N) → Rdy w1):=fun w1 hg1 => HR.out.belowB hN ((Below.refl N w).grown hg1 (by omega) (fun k hk => by cases hk; omega))
 cases q : inN s seen with
 | true =>
  have HCC : Hid (∀ c : Int,(seenD seen).atKey (.string s.data.toList) (.lit (.int .i64 0)) = .lit (.int .i64 c) → c = 1):=fun c h => by
   rw [HAT.out,q] at h; simpa using h.symm
  clear q
  go_enter Tryz.func135,Tryz.ntmps135
  go_wp2_with (first
   | (at_lookup; refine wpList_lookup_own_int _ rfl _ _ 202 rfl 9 3 .i64 law9 Tryz.underlying202 Tryz.underlying3 (zero3 _) N n _ rfl HOWN.out _ _ rfl HKEY.out ?_; intro c hat hwc; obtain rfl:=HCC.out c hat; clear hat hwc)
   | (at_mapUpdate; refine wpList_mapUpdate_own _ rfl _ _ _ 202 rfl 9 3 law9 Tryz.underlying202 _ N n _ rfl HOWN.out (by unfold maxLen; omega) _ _ _ rfl rfl HKEY.out _ [] (plainElem_int Tryz.underlying3 (by decide)) ?_; intro w1 hown1 hg1; have HOWN1:=Jh hown1; have HG1:=Jh hg1; have HC1:=Jh (hg1.cell hc (by simp)); have HR1:=Jh (HRG.out w1 hg1); clear hown1 hg1))
  all_goals go_ret
  all_goals exact ⟨rfl,(fun h => by cases h),HG1.out⟩
 | false =>
  have HCC : Hid (∀ c : Int,(seenD seen).atKey (.string s.data.toList) (.lit (.int .i64 0)) = .lit (.int .i64 c) → c = 0):=fun c h => by
   rw [HAT.out,q] at h; simpa using h.symm
  clear q
  go_enter Tryz.func135,Tryz.ntmps135
  go_wp2_with (first
   | (at_lookup; refine wpList_lookup_own_int _ rfl _ _ 202 rfl 9 3 .i64 law9 Tryz.underlying202 Tryz.underlying3 (zero3 _) N n _ rfl HOWN.out _ _ rfl HKEY.out ?_; intro c hat hwc; obtain rfl:=HCC.out c hat; clear hat hwc)
   | (at_mapUpdate; refine wpList_mapUpdate_own _ rfl _ _ _ 202 rfl 9 3 law9 Tryz.underlying202 _ N n _ rfl HOWN.out (by unfold maxLen; omega) _ _ _ rfl rfl HKEY.out _ [] (plainElem_int Tryz.underlying3 (by decide)) ?_; intro w1 hown1 hg1; have HOWN1:=Jh hown1; have HG1:=Jh hg1; have HC1:=Jh (hg1.cell hc (by simp)); have HR1:=Jh (HRG.out w1 hg1); clear hown1 hg1))
  refine (HNM.out _ HR1.out).mono ?_
  rintro e w2 ⟨rfl,hb2⟩
  have hz1:=HG1.out.size
  have hg2 : w.grownBy w2 (some N):=HG1.out.trans ⟨hb2.os,hb2.tape,hb2.output,hb2.size,fun k hk _ => hb2.block k hk⟩
  have HG2:=Jh hg2
  have hs2 : Seen w2 N (n + 1) (s :: seen):=by
   refine ⟨?_,(hb2.cell (p:=⟨N + 1,0,none⟩) (by show N + 1 < _; omega)).trans HC1.out⟩
   have h3:=HOWN1.out
   rw [HPUT.out]
   exact h3.kept (row:=none) ⟨hb2.os,hb2.tape,hb2.output,hb2.size,fun k hk _ => hb2.block k hk⟩ (by simp)
  have HS2:=Jh hs2
  clear hb2 hg2 hs2
  go_wp2_with fail
  all_goals go_ret
  all_goals exact ⟨rfl,fun _ => HS2.out,HG2.out⟩
theorem z5n (seen : List ByteArray) (x : ByteArray) (r : List ByteArray) : z3u seen (x :: r) = (!inN x seen && zac x.data.toList && z3u (x :: seen) r):=rfl
theorem index62_any (l : List ByteArray) (v : Value) (hs : ∀ s ∈ l,s.size ≤ 1048576) (hl : l.length ≤ 50) (N : Nat) (w : World) (hr : Rdy w) (hN : 4 ≤ N) (hNw : N + 1 < w.heap.size) (hn : NRep w N v l) (h : Seen w N 0 []) :
 Calls Tryz.prog 206 #[v,.func (.func 135) #[] #[.pointer (some ⟨N + 1,0,none⟩)]] w fun e w' => (∃ r : Int,e = .returned (.int .i64 r) ∧ Hid (decide (0 ≤ r) = !z3u [] l)) ∧ Below N w w':=by
 obtain ⟨a,c,rfl,hm,hc⟩:=hn
 have HS0:=Jh h
 have HR:=Jh hr
 have HL:=Jh hs
 have HCC:=Jh hc
 clear h hr hs hc
 go_enter Tryz.func206,Tryz.ntmps206
 go_wp2_with fail
 go_loopw [8] (fun i wr => ∃ j : Nat,j ≤ l.length ∧ i = .int .i64 j ∧ Hid (z3u [] l = z3u (l.take j).reverse (l.drop j)) ∧ Hid (Seen wr N j (l.take j).reverse) ∧ Below N w wr) (fun i _ => l.length - (intOf i).toNat)
 case atStart => exact ⟨0,Nat.zero_le _,rfl,rfl,HS0,Below.refl _ _⟩
 case round =>
  obtain ⟨j,hj,rfl,HT,HSJ,hbw⟩:=hrel
  have HB:=Jh hbw
  have hz:=hbw.size
  by_cases hlt : j < l.length
  ·rcases HCC.out with hc | ⟨b,off,rfl,hb,hc⟩
   ·rw [hc] at hlt; exact absurd hlt (by simp)
   ·have c0:=(hbw.cell (p:=⟨b,off + j,none⟩) hb).trans (hc j hlt)
    have hbl : b < wr.heap.size:=by omega
    have HO:=Jh (odd45_any l[j] (HL.out _ (List.getElem_mem _)) (l.take j).reverse N j wr (HR.out.belowB hN hbw) hN (by omega) HSJ.out)
    have HD : Hid (l.drop j = l[j] :: l.drop (j + 1)):=List.drop_eq_getElem_cons hlt
    have HTK : Hid ((l.take (j + 1)).reverse = l[j] :: (l.take j).reverse):=by rw [Hid,List.take_succ_eq_append_getElem hlt,List.reverse_append]; rfl
    generalize l[j] = s at c0 HO HD HTK
    clear hc hbw hb
    cases q1 : inN s (l.take j).reverse with
    | true =>
     have HQ:=Jh q1
     clear q1
     go_wp2_with fail
     refine HO.out.mono ?_
     rintro e w1 ⟨rfl,_,hg⟩
     rw [HQ.out]
     have HG:=Jh (HB.out.grown hg (by omega) (fun k hk => by cases hk; exact Nat.le_refl _))
     clear hg
     go_wp2_with fail
     all_goals go_ret
     all_goals exact ⟨⟨_,rfl,by rw [Hid,HT.out,HD.out,z5n,HQ.out]; simp⟩,HG.out⟩
    | false =>
     cases q2 : zac s.data.toList with
     | false =>
      have HQ:=Jh q1
      have HQ2:=Jh q2
      clear q1 q2
      go_wp2_with fail
      refine HO.out.mono ?_
      rintro e w1 ⟨rfl,_,hg⟩
      rw [HQ.out,HQ2.out]
      have HG:=Jh (HB.out.grown hg (by omega) (fun k hk => by cases hk; exact Nat.le_refl _))
      clear hg
      go_wp2_with fail
      all_goals go_ret
      all_goals exact ⟨⟨_,rfl,by rw [Hid,HT.out,HD.out,z5n,HQ.out,HQ2.out]; simp⟩,HG.out⟩
     | true =>
      have HQ:=Jh q1
      have HQ2:=Jh q2
      clear q1 q2
      go_wp2_with fail
      refine HO.out.mono ?_
      rintro e w1 ⟨rfl,hsn,hg⟩
      have HSN:=Jh (hsn HQ.out)
      rw [HQ.out,HQ2.out]
      have HG:=Jh (HB.out.grown hg (by omega) (fun k hk => by cases hk; exact Nat.le_refl _))
      clear hg hsn
      go_wp2_with fail
      go_roundw
      case rel => exact ⟨j + 1,by omega,by go_num,by rw [Hid,HT.out,HD.out,z5n,HQ.out,HQ2.out,HTK.out]; rfl,by rw [Hid,HTK.out]; exact HSN.out,HG.out⟩
      case measure => simp [intOf]; omega
  ·have hje : j = l.length:=by omega
   have HE : Hid (z3u [] l = true):=by rw [Hid,HT.out,hje,List.drop_length]; rfl
   clear HT hbw
   go_wp2_with fail
   all_goals go_ret
   all_goals exact ⟨⟨_,rfl,by rw [Hid,HE.out]; rfl⟩,HB.out⟩
theorem contains47_any (l : List ByteArray) (v : Value) (hs : ∀ s ∈ l,s.size ≤ 1048576) (hl : l.length ≤ 50) (N : Nat) (w : World) (hr : Rdy w) (hN : 4 ≤ N) (hNw : N + 1 < w.heap.size) (hn : NRep w N v l) (h : Seen w N 0 []) :
 Calls Tryz.prog 137 #[v,.func (.func 135) #[] #[.pointer (some ⟨N + 1,0,none⟩)]] w fun e w' => e = .returned (.bool (!z3u [] l)) ∧ Below N w w':=by
 have HI:=Jh (index62_any l v hs hl N w hr hN hNw hn h)
 obtain ⟨a,c,rfl,hm,hc⟩:=hn
 clear hr hs hc h
 go_enter Tryz.func137,Tryz.ntmps137
 go_wp2_with fail
 refine HI.out.mono ?_
 rintro e w1 ⟨⟨r,rfl,hr⟩,hb1⟩
 go_wp2_with fail
 all_goals go_ret
 all_goals exact ⟨z02 (by rw [← hr.out]),hb1⟩
theorem z4z (l : List ByteArray) (v : Value) (hs : ∀ s ∈ l,s.size ≤ 1048576) (w : World) (hr : Rdy w) (hn : NRep w w.heap.size v l) :
 Calls Tryz.prog 68 #[v] w fun e w' => e = .returned (.int .i64 (z0z l)) ∧ Below w.heap.size w w':=by
 have hmm:=@run_makeMap Tryz.prog
 have hmf : ∀ (fn : Fn) (first cap : Array Value) (w : World),(Instr.makeFunc fn first cap).run Tryz.prog w = .ok (.func fn first cap) w:=fun _ _ _ _ => rfl
 have hb2 : Below w.heap.size w ((w.alloc (.map #[] 0)).alloc (.cells #[.map (some w.heap.size)] 202)):=((Below.refl _ _).alloc (Nat.le_refl _) _).alloc (by simp) _
 have HB2:=Jh hb2
 have HLT:=Jh hr.lt
 have HSN : Hid (Seen ((w.alloc (.map #[] 0)).alloc (.cells #[.map (some w.heap.size)] 202)) w.heap.size 0 []):=by
  refine ⟨(World.ownsMap_made w Tryz.prog 9 _).alloc _,?_⟩
  rw [World.cell?_alloc_at _ _ _ _ (by simp)]; rfl
 have HCON : Hid (l.length ≤ 8 → _):=fun hl => contains47_any l v hs (by omega) w.heap.size _ (hr.belowB hr.lt hb2) hr.lt (by simp) (hn.up hb2 (Nat.le_refl _)) HSN.out
 have HE : Hid (z0z l = if decide (8 < l.length) || !z3u [] l then 2 else 0):=rfl
 obtain ⟨a,c,rfl,hm,hc⟩:=hn
 clear hr hs hc hb2 HSN
 by_cases h8 : 8 < l.length
 ·have H8 : Hid (decide (8 < l.length) = true):=by rw [Hid]; simp; omega
  go_enter Tryz.func68,Tryz.ntmps68
  go_wp2_with fail
  all_goals go_ret
  all_goals exact ⟨z2l (by rw [HE.out,H8.out]; rfl),HB2.out⟩
 ·have HC8:=Jh (HCON.out (by omega))
  have H8 : Hid (decide (8 < l.length) = false):=by rw [Hid]; simp; omega
  cases q : z3u [] l with
  | true =>
   have HQ:=Jh q
   clear q
   go_enter Tryz.func68,Tryz.ntmps68
   go_wp2_with fail
   refine HC8.out.mono ?_
   rintro e w1 ⟨rfl,hb1⟩
   rw [HQ.out]
   have HB1:=Jh (HB2.out.trans hb1)
   clear hb1
   go_wp2_with fail
   all_goals go_ret
   all_goals exact ⟨z2l (by rw [HE.out,H8.out,HQ.out]; rfl),HB1.out⟩
  | false =>
   have HQ:=Jh q
   clear q
   go_enter Tryz.func68,Tryz.ntmps68
   go_wp2_with fail
   refine HC8.out.mono ?_
   rintro e w1 ⟨rfl,hb1⟩
   rw [HQ.out]
   have HB1:=Jh (HB2.out.trans hb1)
   clear hb1
   go_wp2_with fail
   all_goals go_ret
   all_goals exact ⟨z2l (by rw [HE.out,H8.out,HQ.out]; rfl),HB1.out⟩
open Go.RowKit
theorem open38_any (m : Nat) (k : Int) (is : List (FT m)) (a1 : Option Addr) (c1 : Nat) (a : Option Addr) (l c : Nat) (lo hi : Int) (ls hs op : Bool) (w : World) :
 Calls Tryz.prog 75 #[.agg #[.int .u8 k,.slice a1 is.length c1,.slice a l c,.int .i64 lo,.bool ls,.int .i64 hi,.bool hs,.bool op]] w fun e w' => e = .returned (.bool (z2s k is l ⟨lo,ls,hi,hs,op⟩)) ∧ Below w.heap.size w w':=by
 have hb : Below w.heap.size w (w.alloc (.cells #[.int .u8 k,.slice a1 is.length c1,.slice a l c,.int .i64 lo,.bool ls,.int .i64 hi,.bool hs,.bool op] 47)):=(Below.refl _ _).alloc (Nat.le_refl _) _
 have HI:=Jh (z7r ⟨lo,ls,hi,hs,op⟩)
 have HE : Hid (z2s k is l ⟨lo,ls,hi,hs,op⟩ = (k != 6 || ivR ⟨lo,ls,hi,hs,op⟩ == 0)):=rfl
 unfold Spn.val at HI
 dsimp only at HI
 generalize ivR ⟨lo,ls,hi,hs,op⟩ = iv at HI HE
 have HB:=Jh hb
 clear hb
 cases q : k != 6 with
 | true =>
  have HQ:=Jh q
  go_enter Tryz.func75,Tryz.ntmps75
  go_wp2_with fail
  all_goals go_ret
  all_goals exact ⟨z02 (by rw [HE.out,HQ.out]; rfl),HB.out⟩
 | false =>
  have HQ:=Jh q
  go_enter Tryz.func75,Tryz.ntmps75
  go_wp2_with fail
  refine (HI.out _).mono ?_
  rintro e w1 ⟨rfl,hb1⟩
  have HB1:=Jh (HB.out.trans (hb1.mono HB.out.size))
  clear hb1
  go_wp2_with fail
  all_goals go_ret
  all_goals exact ⟨z02 (by rw [HE.out,HQ.out]; rfl),HB1.out⟩
theorem so38 {m : Nat} (w : World) : SoX (m:=m) w 75 #[] z2s:=by
 intro n
 refine ⟨z1r Tryz.func75 (by kernel_rfl) (by kernel_rfl),fun t v w' hb' hr => ?_⟩
 obtain ⟨k,is,of,lo,ls,hi,hs,op⟩:=t
 obtain ⟨a1,c1,a,c,rfl,_,_⟩:=hr
 exact open38_any m k is a1 c1 a of.length c lo hi ls hs op w'
def Known (w : World) (names : List ByteArray) (b b0 : Nat) : Prop :=
 ∃ nv,b < w.heap.size ∧ b0 < w.heap.size ∧ w.cell? ⟨b,0,none⟩ = some (.func (.func 130) #[] #[.pointer (some ⟨b0,0,none⟩)]) ∧ w.cell? ⟨b0,0,none⟩ = some nv ∧ NRep w w.heap.size nv names
theorem Known.up {w w' : World} {names : List ByteArray} {b b0 : Nat} (h : Known w names b b0) (hb : Below w.heap.size w w') : Known w' names b b0:=by
 obtain ⟨nv,h1,h2,h3,h4,h5⟩:=h
 have hz:=hb.size
 exact ⟨nv,by omega,by omega,(hb.cell (p:=⟨b,0,none⟩) h1).trans h3,(hb.cell (p:=⟨b0,0,none⟩) h2).trans h4,h5.up hb hz⟩
theorem not37_any (names : List ByteArray) (b b0 n : Nat) (t : FT n) (v : Value) (w : World) (h : Known w names b b0) (hr : FRep w w.heap.size n t v) :
 Calls Tryz.prog 74 #[v,.pointer (some ⟨b,0,none⟩)] w fun e w' => e = .returned (.bool (!allF (z3o names) n t)) ∧ Below w.heap.size w w':=by
 obtain ⟨k,s,a,l,c,rfl⟩:=hr.shape
 have hbw : Below w.heap.size w (w.alloc (.cells #[.int .u8 k,.string s,.slice a l c] 25)):=(Below.refl _ _).alloc (Nat.le_refl _) _
 obtain ⟨nv,h1,h2,h3,h4,h5⟩:=h.up hbw
 have HD:=Jh (z6k names nv b0 n t _ _ h2 h4 h5 (hr.up hbw hbw.size))
 obtain ⟨_,g1,_,g3,_,_⟩:=h
 have HB:=Jh hbw
 clear h5 hr hbw h1 h2 h3 h4
 go_enter Tryz.func74,Tryz.ntmps74
 go_wp2_with fail
 refine HD.out.mono ?_
 rintro e w1 ⟨rfl,hb1⟩
 have HB1:=Jh (HB.out.trans (hb1.mono HB.out.size))
 clear hb1
 go_wp2_with fail
 all_goals go_ret
 all_goals exact ⟨rfl,HB1.out⟩
theorem names35_any (m : Nat) (names : List ByteArray) (b b0 : Nat) (k : Int) (is : List (FT m)) (a1 : Option Addr) (c1 : Nat) (a : Option Addr) (l c : Nat) (lo hi : Int) (ls hs op : Bool) (w : World) (h : Known w names b b0) (hR : FRow w w.heap.size m a1 is) :
 Calls Tryz.prog 72 #[.agg #[.int .u8 k,.slice a1 is.length c1,.slice a l c,.int .i64 lo,.bool ls,.int .i64 hi,.bool hs,.bool op],.pointer (some ⟨b,0,none⟩)] w fun e w' => e = .returned (.bool (z2v names k is l ⟨lo,ls,hi,hs,op⟩)) ∧ Below w.heap.size w w':=by
 have hmf : ∀ (fn : Fn) (first cap : Array Value) (w : World),(Instr.makeFunc fn first cap).run Tryz.prog w = .ok (.func fn first cap) w:=fun _ _ _ _ => rfl
 have hb : Below w.heap.size w (w.alloc (.cells #[.int .u8 k,.slice a1 is.length c1,.slice a l c,.int .i64 lo,.bool ls,.int .i64 hi,.bool hs,.bool op] 47)):=(Below.refl _ _).alloc (Nat.le_refl _) _
 have HC:=Jh (z6l m is a1 c1 74 #[.pointer (some ⟨b,0,none⟩)] (fun f => !allF (z3o names) m f) _ (FRow.up hR hb hb.size)
  ⟨z1r Tryz.func74 (by kernel_rfl) (by kernel_rfl),fun t v w' hb' hr => not37_any names b b0 m t v w' ((h.up hb).up hb') hr⟩)
 have HE : Hid (z2v names k is l ⟨lo,ls,hi,hs,op⟩ = !(is.any fun f => !allF (z3o names) m f)):=by rw [Hid]; unfold z2v; rw [List.all_eq_not_any_not]
 have HB:=Jh hb
 clear hb hR h
 go_enter Tryz.func72,Tryz.ntmps72
 go_wp2_with fail
 refine HC.out.mono ?_
 rintro e w1 ⟨rfl,hb1⟩
 have HB1:=Jh (HB.out.trans (hb1.mono HB.out.size))
 clear hb1
 go_wp2_with fail
 all_goals go_ret
 all_goals exact ⟨z02 (by rw [HE.out]),HB1.out⟩
theorem so35 {m : Nat} (names : List ByteArray) (b b0 : Nat) (w : World) (h : Known w names b b0) : SoX (m:=m) w 72 #[.pointer (some ⟨b,0,none⟩)] (z2v names):=by
 intro n
 refine ⟨z1r Tryz.func72 (by kernel_rfl) (by kernel_rfl),fun t v w' hb' hr => ?_⟩
 obtain ⟨k,is,of,lo,ls,hi,hs,op⟩:=t
 obtain ⟨a1,c1,a,c,rfl,hR,_⟩:=hr
 exact names35_any m names b b0 k is a1 c1 a of.length c lo hi ls hs op w' (h.up hb') hR
open Go.RowKit
attribute [local go_sem ↓] Go.wp_at_zero Go.wp_at_succ
theorem box_cells3 {W w1 : World} {x y z : Value} {t : TypeId} (hb : Below (W.alloc (.cells #[x,y,z] t)).heap.size (W.alloc (.cells #[x,y,z] t)) w1) :
 w1.cell? ⟨W.heap.size,0,none⟩ = some x ∧ w1.cell? ⟨W.heap.size,1,none⟩ = some y ∧ w1.cell? ⟨W.heap.size,2,none⟩ = some z ∧ W.heap.size < w1.heap.size:=by
 have h : w1.heap[W.heap.size]? = some (.cells #[x,y,z] t (0,0)):=by rw [hb.block _ (by simp)]; exact Array.getElem?_push_size
 exact ⟨Jc h 0,Jc h 1,Jc h 2,(Array.getElem?_eq_some_iff.1 h).1⟩
open Go.RowKit
attribute [local go_sem ↓] Go.wp_at_zero Go.wp_at_succ
theorem formula16_any (names : List ByteArray) (nv : Value) (hs : ∀ s ∈ names,s.size ≤ 1048576) (n : Nat) (t : FT n) (v : Value) (w : World) (hr : Rdy w) (hn : NRep w w.heap.size nv names) (hf : FRep w w.heap.size n t v) :
 Calls Tryz.prog 85 #[nv,v] w fun e w' => e = .returned (.int .i64 (fmlR names n t)) ∧ Below w.heap.size w w':=by
 obtain ⟨k,s,a,l,c,rfl⟩:=hf.shape
 have hb : Below w.heap.size w (w.alloc (.cells #[.int .u8 k,.string s,.slice a l c] 25)):=(Below.refl _ _).alloc (Nat.le_refl _) _
 have HN:=Jh (z4z names nv hs _ (hr.below hb) (hn.up hb hb.size))
 have HB:=Jh hb
 have HF:=Jh hf
 have HNR:=Jh hn
 have hshape:=hn
 obtain ⟨na,nc,hnv,_⟩:=hshape
 have HE : Hid (fmlR names n t = if z0z names ≠ 0 then 2 else if allF z13 n t = false then 8 else if 64 < fmsC n [t] then 160 else if allF (z3o names) n t = false then 161 else 0):=rfl
 clear hr hs hb hf hn
 subst hnv
 by_cases h1 : z0z names = 0
 ·have q1 : (z0z names != 0) = false:=by simp [h1]
  have HB1 : Hid (∀ w1,Below (w.alloc (.cells #[.int .u8 k,.string s,.slice a l c] 25)).heap.size (w.alloc (.cells #[.int .u8 k,.string s,.slice a l c] 25)) w1 → Below w.heap.size w w1 ∧ w1.cell? ⟨w.heap.size,0,none⟩ = some (.int .u8 k) ∧ w1.cell? ⟨w.heap.size,1,none⟩ = some (.string s) ∧ w1.cell? ⟨w.heap.size,2,none⟩ = some (.slice a l c) ∧ w.heap.size < w1.heap.size) :=
   fun w1 hb1 => ⟨HB.out.trans (hb1.mono HB.out.size),box_cells3 hb1⟩
  rw [if_neg (by simp [h1])] at HE
  clear h1
  cases h2 : allF z13 n t with
  | false =>
   have H2:=Jh h2
   go_enter Tryz.func85,Tryz.ntmps85
   go_wp2_with fail
   refine HN.out.mono ?_
   rintro e w1 ⟨rfl,hb1⟩
   obtain ⟨hbw,x0,x1,x2,hz⟩:=HB1.out w1 hb1
   have HA:=Jh (z88 z13 140 #[] n t _ w1 (HF.out.up hbw hbw.size) (so44 _))
   have HBW:=Jh hbw
   rw [h2] at HA
   clear hb1 hbw h2
   go_wp2_with fail
   refine HA.out.mono ?_
   rintro e w2 ⟨rfl,hb2⟩
   have HBW2:=Jh (HBW.out.trans (hb2.mono HBW.out.size))
   clear hb2
   go_wp2_with fail
   all_goals go_ret
   all_goals exact ⟨z2l (by rw [HE.out,H2.out]; rfl),HBW2.out⟩
  | true =>
   have H2:=Jh h2
   go_enter Tryz.func85,Tryz.ntmps85
   go_wp2_with fail
   refine HN.out.mono ?_
   rintro e w1 ⟨rfl,hb1⟩
   obtain ⟨hbw,x0,x1,x2,hz⟩:=HB1.out w1 hb1
   have HA:=Jh (z88 z13 140 #[] n t _ w1 (HF.out.up hbw hbw.size) (so44 _))
   have HBW:=Jh hbw
   rw [h2] at HA
   clear hb1 hbw h2
   go_wp2_with fail
   refine HA.out.mono ?_
   rintro e w2 ⟨rfl,hb2⟩
   have hbw2:=HBW.out.trans (hb2.mono HBW.out.size)
   have HBW2:=Jh hbw2
   have y0:=(hb2.cell (p:=⟨w.heap.size,0,none⟩) hz).trans x0
   have y1:=(hb2.cell (p:=⟨w.heap.size,1,none⟩) hz).trans x1
   have y2:=(hb2.cell (p:=⟨w.heap.size,2,none⟩) hz).trans x2
   have hz2 : w.heap.size < w2.heap.size:=by have:=hb2.size; omega
   have hb3 : Below w2.heap.size w2 (w2.alloc (.cells #[.int .u8 k,.string s,.slice a l c] 25)):=(Below.refl _ _).alloc (Nat.le_refl _) _
   have hrow : FRow (w2.alloc (.cells #[.int .u8 k,.string s,.slice a l c] 25)) (w2.alloc (.cells #[.int .u8 k,.string s,.slice a l c] 25)).heap.size n (some ⟨w2.heap.size,0,none⟩) [t]:=by
    refine ⟨by simp,.inr ⟨w2.heap.size,0,rfl,by simp,fun i hi => ?_⟩⟩
    obtain rfl : i = 0:=by simpa using hi
    refine ⟨[.int .u8 k,.string s,.slice a l c],rfl,fun j hj => ?_,HF.out.up (hbw2.trans (hb3.mono hbw2.size)) (by simp; omega)⟩
    rw [World.cell?_alloc_at _ _ _ _ rfl]
    simp
   have HFM:=Jh (z6j n [t] _ 1 _ hrow)
   have HB3 : Hid (∀ w3,Below (w2.alloc (.cells #[.int .u8 k,.string s,.slice a l c] 25)).heap.size (w2.alloc (.cells #[.int .u8 k,.string s,.slice a l c] 25)) w3 → Below w2.heap.size w2 w3):=fun w3 h => hb3.trans (h.mono hb3.size)
   clear hb2 hbw2 x0 x1 x2 hz hb3 hrow
   go_wp2_with fail
   refine HFM.out.mono ?_
   rintro e w3 ⟨rfl,hb3⟩
   have hb3':=HB3.out w3 hb3
   have hbw3:=HBW2.out.trans (hb3'.mono HBW2.out.size)
   have HBW3:=Jh hbw3
   by_cases h3 : 64 < fmsC n [t]
   ·have H3 : Hid (fmlR names n t = 160):=by rw [Hid,HE.out,H2.out,if_neg (by simp),if_pos h3]
    clear hb3 hb3' hbw3
    go_wp2_with fail
    all_goals go_ret
    all_goals exact ⟨z2l (by rw [H3.out]),HBW3.out⟩
   ·have H3 : Hid (fmlR names n t = if allF (z3o names) n t = false then 161 else 0):=by rw [Hid,HE.out,H2.out,if_neg (by simp),if_neg h3]
    have z0:=(hb3'.cell (p:=⟨w.heap.size,0,none⟩) hz2).trans y0
    have z1:=(hb3'.cell (p:=⟨w.heap.size,1,none⟩) hz2).trans y1
    have z2:=(hb3'.cell (p:=⟨w.heap.size,2,none⟩) hz2).trans y2
    have hz3 : w.heap.size < w3.heap.size:=by have:=hb3'.size; omega
    have HD : Hid (∀ (W : World) (N : Nat),Below w3.heap.size w3 W → W.heap[N]? = some (.cells #[.slice na names.length nc] 22 (0,0)) → N < W.heap.size → Calls Tryz.prog 130 #[.agg #[.int .u8 k,.string s,.slice a l c],.pointer (some ⟨N,0,none⟩)] W fun e w' => e = .returned (.bool (allF (z3o names) n t)) ∧ Below w3.heap.size w3 w'):=by
     intro W N hW hbl hlt
     have hbW:=hbw3.trans (hW.mono hbw3.size)
     exact (z6k names _ N n t _ W hlt (Jc hbl 0) (HNR.out.up hbW hbW.size) (HF.out.up hbW hbW.size)).mono fun e w' h => ⟨h.1,hW.trans (h.2.mono hW.size)⟩
    clear hb3 hb3' hbw3 y0 y1 y2 hz2
    have HD2 : Hid (Calls Tryz.prog 130 #[.agg #[.int .u8 k,.string s,.slice a l c],.pointer (some ⟨w3.heap.size,0,none⟩)] (w3.drew.alloc (.cells #[.slice na names.length nc] 22)) fun e w' => e = .returned (.bool (allF (z3o names) n t)) ∧ Below w3.heap.size w3 w') :=
     HD.out _ _ ((Below.refl _ w3).drew.alloc (Nat.le_refl _) _) (by show (w3.heap.push _)[w3.heap.size]? = _; exact Array.getElem?_push_size) (by show w3.heap.size < (w3.heap.push _).size; simp)
    clear HD
    cases h4 : allF (z3o names) n t with
    | false =>
     have H4 : Hid (fmlR names n t = 161):=by rw [Hid,H3.out,if_pos h4]
     rw [h4] at HD2
     clear h4
     go_wp2_with fail
     go_region_law (first | (go_simp; go_at_call 67; refine (z4k _ _ _ _).mono ?_; rintro e w4 ⟨rfl,rfl⟩) | (go_simp; go_at_call 130; refine HD2.out.mono ?_; rintro e w4 ⟨rfl,hb4⟩))
     all_goals
      have HBW4:=Jh (HBW3.out.trans (hb4.mono HBW3.out.size))
      clear hb4
      go_wp2_with fail
     all_goals go_ret
     all_goals exact ⟨z2l (by rw [H4.out]),HBW4.out⟩
    | true =>
     have H4 : Hid (fmlR names n t = 0):=by rw [Hid,H3.out,if_neg (by simp [h4])]
     rw [h4] at HD2
     clear h4
     go_wp2_with fail
     go_region_law (first | (go_simp; go_at_call 67; refine (z4k _ _ _ _).mono ?_; rintro e w4 ⟨rfl,rfl⟩) | (go_simp; go_at_call 130; refine HD2.out.mono ?_; rintro e w4 ⟨rfl,hb4⟩))
     all_goals
      have HBW4:=Jh (HBW3.out.trans (hb4.mono HBW3.out.size))
      clear hb4
      go_wp2_with fail
     all_goals go_ret
     all_goals exact ⟨z2l (by rw [H4.out]),HBW4.out⟩
 ·have q1 : (z0z names != 0) = true:=by simp [h1]
  have H1 : Hid (fmlR names n t = 2):=by rw [Hid,HE.out,if_pos h1]
  clear h1
  go_enter Tryz.func85,Tryz.ntmps85
  go_wp2_with fail
  refine HN.out.mono ?_
  rintro e w1 ⟨rfl,hb1⟩
  have HBW:=Jh (HB.out.trans (hb1.mono HB.out.size))
  clear hb1
  go_wp2_with fail
  all_goals go_ret
  all_goals exact ⟨z2l (by rw [H1.out]),HBW.out⟩
end Go.Proofs.YtockinpjfhhkoaaGreatDoor
