/- tree.Names walked: which names may be declared (the set of those that were seen lies in a map). -/
import Derived.Maps.OwnOps
import Derived.Maps.Views
import Derived.Test.YtpgdplmndnopbaaGreatDoorZ25
import Derived.Test.YtpgdplmndnopbaaGreatDoorZ03
import Derived.Test.YtpgdplmndnopbaaGreatDoorZ14
set_option maxRecDepth 100000
set_option maxHeartbeats 16000000
namespace Go.Proofs.YtpgdplmndnopbaaGreatDoor
open Go.RowKit Go.Maps
def seenD : List ByteArray → DataW Unit
 | [] => .map []
 | x :: r => (seenD r).put (.string x.data.toList) (.lit (.int .i64 1))
theorem z6e : ∀ l,IsMap (seenD l)
 | [] => ⟨[],rfl⟩
 | x :: r => by
  obtain ⟨es,h⟩:=z6e r
  show IsMap ((seenD r).put _ _)
  rw [h]; exact ⟨_,rfl⟩
theorem seenD_at (s : ByteArray) : ∀ l,(seenD l).atKey (.string s.data.toList) (.lit (.int .i64 0)) = .lit (.int .i64 (if inN s l then 1 else 0))
 | [] => rfl
 | x :: r => by
  show ((seenD r).put _ _).atKey _ _ = _
  by_cases h : s.data.toList = x.data.toList
  ·rw [h,atKey_put_same (z6e r) (show WideAt.IsKeyLit (.string _) from trivial)]
   have : inN s (x :: r) = true:=by unfold inN; rw [List.any_cons,ByteArray.toList_eq,ByteArray.toList_eq,h]; simp
   rw [this]; rfl
  ·rw [atKey_put_other (fun e => h (by injection e)),seenD_at s r]
   have : inN s (x :: r) = inN s r:=by
    unfold inN; rw [List.any_cons,ByteArray.toList_eq,ByteArray.toList_eq]
    have : (s.data.toList == x.data.toList) = false:=by simpa using h
    rw [this,Bool.false_or]
   rw [this]
theorem law9 : Keyed Tryz.prog 9:=string_keyed Tryz.underlying9
theorem zero3 (w : World) : (zeroValue 3).run Tryz.prog w = .ok (.int .i64 0) w:=by kernel_rfl
def Seen (w : World) (N n : Nat) (seen : List ByteArray) : Prop:=w.ownsMap Tryz.prog 9 (plainElem Tryz.prog 3) N n (seenD seen) ∧ w.cell? ⟨N + 1,0,none⟩ = some (.map (some N))
theorem odd45_any (s : ByteArray) (hs : s.size ≤ 1048576) (seen : List ByteArray) (N n : Nat) (w : World) (hr : Rdy w) (hN : 4 ≤ N) (hn : n < 100) (h : Seen w N n seen) :
 Calls Tryz.prog 86 #[.string s,.pointer (some ⟨N + 1,0,none⟩)] w fun e w' => e = .returned (.bool (inN s seen || !z3f s.data.toList)) ∧ (inN s seen = false → Seen w' N (n + 1) (s :: seen)) ∧ w.grownBy w' (some N):=by
 obtain ⟨hown,hc⟩:=h
 have hml : s.size ≤ maxLen:=by unfold maxLen; omega
 have hkey:=Go.WideMaps.keyOf_string_mk (P:=Tryz.prog) Tryz.underlying9 hml
 have HKEY:=Lib.hid hkey
 have HAT:=Lib.hid (seenD_at s seen)
 have HOWN:=Lib.hid hown
 have HR:=Lib.hid hr
 have hNs:=hown.lt
 have HNM : Hid (∀ W,Rdy W → Calls Tryz.prog 87 #[.string s] W fun e w' => e = .returned (.bool (z3f s.data.toList)) ∧ Below W.heap.size W w'):=fun W hW => name19_any s hs W hW
 have hcs : N + 1 < w.heap.size:=by
  have h3:=hc
  unfold World.cell? at h3
  rcases Nat.lt_or_ge (N + 1) w.heap.size with h | h
  ·exact h
  ·simp [Array.getElem?_eq_none h] at h3
 have HPUT : Hid (seenD (s :: seen) = (seenD seen).put (.string s.data.toList) (.lit (.int .i64 1))):=rfl
 clear hown hkey hr hs hml
 have HRG : Hid (∀ w1,w.grownBy w1 (some N) → Rdy w1):=fun w1 hg1 => HR.out.belowB hN ((Below.refl N w).grown hg1 (by omega) (fun k hk => by cases hk; omega))
 cases q : inN s seen with
 | true =>
  have HCC : Hid (∀ c : Int,(seenD seen).atKey (.string s.data.toList) (.lit (.int .i64 0)) = .lit (.int .i64 c) → c = 1):=fun c h => by
   rw [HAT.out,q] at h; simpa using h.symm
  clear q
  go_enter Tryz.func86,Tryz.ntmps86
  go_wp2_with (first
   | (at_lookup; refine wpList_lookup_own_int _ rfl _ _ 116 rfl 9 3 .i64 law9 Tryz.underlying116 Tryz.underlying3 (zero3 _) N n _ rfl HOWN.out _ _ rfl HKEY.out ?_; intro c hat hwc; obtain rfl:=HCC.out c hat; clear hat hwc)
   | (at_mapUpdate; refine wpList_mapUpdate_own _ rfl _ _ _ 116 rfl 9 3 law9 Tryz.underlying116 _ N n _ rfl HOWN.out (by unfold maxLen; omega) _ _ _ rfl rfl HKEY.out _ [] (plainElem_int Tryz.underlying3 (by decide)) ?_; intro w1 hown1 hg1; have HOWN1:=Lib.hid hown1; have HG1:=Lib.hid hg1; have HC1:=Lib.hid (hg1.cell hc (by simp)); have HR1:=Lib.hid (HRG.out w1 hg1); clear hown1 hg1))
  all_goals go_ret
  all_goals exact ⟨rfl,(fun h => by cases h),HG1.out⟩
 | false =>
  have HCC : Hid (∀ c : Int,(seenD seen).atKey (.string s.data.toList) (.lit (.int .i64 0)) = .lit (.int .i64 c) → c = 0):=fun c h => by
   rw [HAT.out,q] at h; simpa using h.symm
  clear q
  go_enter Tryz.func86,Tryz.ntmps86
  go_wp2_with (first
   | (at_lookup; refine wpList_lookup_own_int _ rfl _ _ 116 rfl 9 3 .i64 law9 Tryz.underlying116 Tryz.underlying3 (zero3 _) N n _ rfl HOWN.out _ _ rfl HKEY.out ?_; intro c hat hwc; obtain rfl:=HCC.out c hat; clear hat hwc)
   | (at_mapUpdate; refine wpList_mapUpdate_own _ rfl _ _ _ 116 rfl 9 3 law9 Tryz.underlying116 _ N n _ rfl HOWN.out (by unfold maxLen; omega) _ _ _ rfl rfl HKEY.out _ [] (plainElem_int Tryz.underlying3 (by decide)) ?_; intro w1 hown1 hg1; have HOWN1:=Lib.hid hown1; have HG1:=Lib.hid hg1; have HC1:=Lib.hid (hg1.cell hc (by simp)); have HR1:=Lib.hid (HRG.out w1 hg1); clear hown1 hg1))
  refine (HNM.out _ HR1.out).mono ?_
  rintro e w2 ⟨rfl,hb2⟩
  have hz1:=HG1.out.size
  have hg2 : w.grownBy w2 (some N):=HG1.out.trans ⟨hb2.os,hb2.tape,hb2.output,hb2.size,fun k hk _ => hb2.block k hk⟩
  have HG2:=Lib.hid hg2
  have hs2 : Seen w2 N (n + 1) (s :: seen):=by
   refine ⟨?_,(hb2.cell (p:=⟨N + 1,0,none⟩) (by show N + 1 < _; omega)).trans HC1.out⟩
   have h3:=HOWN1.out
   rw [HPUT.out]
   exact h3.kept (row:=none) ⟨hb2.os,hb2.tape,hb2.output,hb2.size,fun k hk _ => hb2.block k hk⟩ (by simp)
  have HS2:=Lib.hid hs2
  clear hb2 hg2 hs2
  go_wp2_with fail
  all_goals go_ret
  all_goals exact ⟨rfl,fun _ => HS2.out,HG2.out⟩
theorem z4c (seen : List ByteArray) (x : ByteArray) (r : List ByteArray) : z2l seen (x :: r) = (!inN x seen && z3f x.data.toList && z2l (x :: seen) r):=rfl
theorem index62_any (l : List ByteArray) (v : Value) (hs : ∀ s ∈ l,s.size ≤ 1048576) (hl : l.length ≤ 50) (N : Nat) (w : World) (hr : Rdy w) (hN : 4 ≤ N) (hNw : N + 1 < w.heap.size) (hn : NRep w N v l) (h : Seen w N 0 []) :
 Calls Tryz.prog 138 #[v,.func (.func 86) #[] #[.pointer (some ⟨N + 1,0,none⟩)]] w fun e w' => (∃ r : Int,e = .returned (.int .i64 r) ∧ Hid (decide (0 ≤ r) = !z2l [] l)) ∧ Below N w w':=by
 obtain ⟨a,c,rfl,hm,hc⟩:=hn
 have HS0:=Lib.hid h
 have HR:=Lib.hid hr
 have HL:=Lib.hid hs
 have HCC:=Lib.hid hc
 clear h hr hs hc
 go_enter Tryz.func138,Tryz.ntmps138
 go_wp2_with fail
 go_loopw [8] (fun i wr => ∃ j : Nat,j ≤ l.length ∧ i = .int .i64 j ∧ Hid (z2l [] l = z2l (l.take j).reverse (l.drop j)) ∧ Hid (Seen wr N j (l.take j).reverse) ∧ Below N w wr) (fun i _ => l.length - (intOf i).toNat)
 case atStart => exact ⟨0,Nat.zero_le _,rfl,rfl,HS0,Below.refl _ _⟩
 case round =>
  obtain ⟨j,hj,rfl,HT,HSJ,hbw⟩:=hrel
  have HB:=Lib.hid hbw
  have hz:=hbw.size
  by_cases hlt : j < l.length
  ·rcases HCC.out with hc | ⟨b,off,rfl,hb,hc⟩
   ·rw [hc] at hlt; exact absurd hlt (by simp)
   ·have c0:=(hbw.cell (p:=⟨b,off + j,none⟩) hb).trans (hc j hlt)
    have hbl : b < wr.heap.size:=by omega
    have HO:=Lib.hid (odd45_any l[j] (HL.out _ (List.getElem_mem _)) (l.take j).reverse N j wr (HR.out.belowB hN hbw) hN (by omega) HSJ.out)
    have HD : Hid (l.drop j = l[j] :: l.drop (j + 1)):=List.drop_eq_getElem_cons hlt
    have HTK : Hid ((l.take (j + 1)).reverse = l[j] :: (l.take j).reverse):=by rw [Hid,List.take_succ_eq_append_getElem hlt,List.reverse_append]; rfl
    generalize l[j] = s at c0 HO HD HTK
    clear hc hbw hb
    cases q1 : inN s (l.take j).reverse with
    | true =>
     have HQ:=Lib.hid q1
     clear q1
     go_wp2_with fail
     refine HO.out.mono ?_
     rintro e w1 ⟨rfl,_,hg⟩
     rw [HQ.out]
     have HG:=Lib.hid (HB.out.grown hg (by omega) (fun k hk => by cases hk; exact Nat.le_refl _))
     clear hg
     go_wp2_with fail
     all_goals go_ret
     all_goals exact ⟨⟨_,rfl,by rw [Hid,HT.out,HD.out,z4c,HQ.out]; simp⟩,HG.out⟩
    | false =>
     cases q2 : z3f s.data.toList with
     | false =>
      have HQ:=Lib.hid q1
      have HQ2:=Lib.hid q2
      clear q1 q2
      go_wp2_with fail
      refine HO.out.mono ?_
      rintro e w1 ⟨rfl,_,hg⟩
      rw [HQ.out,HQ2.out]
      have HG:=Lib.hid (HB.out.grown hg (by omega) (fun k hk => by cases hk; exact Nat.le_refl _))
      clear hg
      go_wp2_with fail
      all_goals go_ret
      all_goals exact ⟨⟨_,rfl,by rw [Hid,HT.out,HD.out,z4c,HQ.out,HQ2.out]; simp⟩,HG.out⟩
     | true =>
      have HQ:=Lib.hid q1
      have HQ2:=Lib.hid q2
      clear q1 q2
      go_wp2_with fail
      refine HO.out.mono ?_
      rintro e w1 ⟨rfl,hsn,hg⟩
      have HSN:=Lib.hid (hsn HQ.out)
      rw [HQ.out,HQ2.out]
      have HG:=Lib.hid (HB.out.grown hg (by omega) (fun k hk => by cases hk; exact Nat.le_refl _))
      clear hg hsn
      go_wp2_with fail
      go_roundw
      case rel => exact ⟨j + 1,by omega,by go_num,by rw [Hid,HT.out,HD.out,z4c,HQ.out,HQ2.out,HTK.out]; rfl,by rw [Hid,HTK.out]; exact HSN.out,HG.out⟩
      case measure => simp [intOf]; omega
  ·have hje : j = l.length:=by omega
   have HE : Hid (z2l [] l = true):=by rw [Hid,HT.out,hje,List.drop_length]; rfl
   clear HT hbw
   go_wp2_with fail
   all_goals go_ret
   all_goals exact ⟨⟨_,rfl,by rw [Hid,HE.out]; rfl⟩,HB.out⟩
theorem contains47_any (l : List ByteArray) (v : Value) (hs : ∀ s ∈ l,s.size ≤ 1048576) (hl : l.length ≤ 50) (N : Nat) (w : World) (hr : Rdy w) (hN : 4 ≤ N) (hNw : N + 1 < w.heap.size) (hn : NRep w N v l) (h : Seen w N 0 []) :
 Calls Tryz.prog 88 #[v,.func (.func 86) #[] #[.pointer (some ⟨N + 1,0,none⟩)]] w fun e w' => e = .returned (.bool (!z2l [] l)) ∧ Below N w w':=by
 have HI:=Lib.hid (index62_any l v hs hl N w hr hN hNw hn h)
 obtain ⟨a,c,rfl,hm,hc⟩:=hn
 clear hr hs hc h
 go_enter Tryz.func88,Tryz.ntmps88
 go_wp2_with fail
 refine HI.out.mono ?_
 rintro e w1 ⟨⟨r,rfl,hr⟩,hb1⟩
 go_wp2_with fail
 all_goals go_ret
 all_goals exact ⟨z00 (by rw [← hr.out]),hb1⟩
theorem z4v (l : List ByteArray) (v : Value) (hs : ∀ s ∈ l,s.size ≤ 1048576) (w : World) (hr : Rdy w) (hn : NRep w w.heap.size v l) :
 Calls Tryz.prog 42 #[v] w fun e w' => e = .returned (.int .i64 (z15 l)) ∧ Below w.heap.size w w':=by
 have hmm:=@run_makeMap Tryz.prog
 have hmf : ∀ (fn : Fn) (first cap : Array Value) (w : World),(Instr.makeFunc fn first cap).run Tryz.prog w = .ok (.func fn first cap) w:=fun _ _ _ _ => rfl
 have hb2 : Below w.heap.size w ((w.alloc (.map #[] 0)).alloc (.cells #[.map (some w.heap.size)] 116)):=((Below.refl _ _).alloc (Nat.le_refl _) _).alloc (by simp) _
 have HB2:=Lib.hid hb2
 have HLT:=Lib.hid hr.lt
 have HSN : Hid (Seen ((w.alloc (.map #[] 0)).alloc (.cells #[.map (some w.heap.size)] 116)) w.heap.size 0 []):=by
  refine ⟨(World.ownsMap_made w Tryz.prog 9 _).alloc _,?_⟩
  rw [World.cell?_alloc_at _ _ _ _ (by simp)]; rfl
 have HCON : Hid (l.length ≤ 8 → _):=fun hl => contains47_any l v hs (by omega) w.heap.size _ (hr.belowB hr.lt hb2) hr.lt (by simp) (hn.up hb2 (Nat.le_refl _)) HSN.out
 have HE : Hid (z15 l = if decide (8 < l.length) || !z2l [] l then 2 else 0):=rfl
 obtain ⟨a,c,rfl,hm,hc⟩:=hn
 clear hr hs hc hb2 HSN
 by_cases h8 : 8 < l.length
 ·have H8 : Hid (decide (8 < l.length) = true):=by rw [Hid]; simp; omega
  go_enter Tryz.func42,Tryz.ntmps42
  go_wp2_with fail
  all_goals go_ret
  all_goals exact ⟨z2q (by rw [HE.out,H8.out]; rfl),HB2.out⟩
 ·have HC8:=Lib.hid (HCON.out (by omega))
  have H8 : Hid (decide (8 < l.length) = false):=by rw [Hid]; simp; omega
  cases q : z2l [] l with
  | true =>
   have HQ:=Lib.hid q
   clear q
   go_enter Tryz.func42,Tryz.ntmps42
   go_wp2_with fail
   refine HC8.out.mono ?_
   rintro e w1 ⟨rfl,hb1⟩
   rw [HQ.out]
   have HB1:=Lib.hid (HB2.out.trans hb1)
   clear hb1
   go_wp2_with fail
   all_goals go_ret
   all_goals exact ⟨z2q (by rw [HE.out,H8.out,HQ.out]; rfl),HB1.out⟩
  | false =>
   have HQ:=Lib.hid q
   clear q
   go_enter Tryz.func42,Tryz.ntmps42
   go_wp2_with fail
   refine HC8.out.mono ?_
   rintro e w1 ⟨rfl,hb1⟩
   rw [HQ.out]
   have HB1:=Lib.hid (HB2.out.trans hb1)
   clear hb1
   go_wp2_with fail
   all_goals go_ret
   all_goals exact ⟨z2q (by rw [HE.out,H8.out,HQ.out]; rfl),HB1.out⟩
end Go.Proofs.YtpgdplmndnopbaaGreatDoor
namespace Go.Proofs.YtpgdplmndnopbaaGreatDoor
open Go.RowKit
theorem open38_any (m : Nat) (k : Int) (is : List (FT m)) (a1 : Option Addr) (c1 : Nat) (a : Option Addr) (l c : Nat) (lo hi : Int) (ls hs op : Bool) (w : World) :
 Calls Tryz.prog 57 #[.agg #[.int .u8 k,.slice a1 is.length c1,.slice a l c,.int .i64 lo,.bool ls,.int .i64 hi,.bool hs,.bool op]] w fun e w' => e = .returned (.bool (z49 k is l ⟨lo,ls,hi,hs,op⟩)) ∧ Below w.heap.size w w':=by
 have hb : Below w.heap.size w (w.alloc (.cells #[.int .u8 k,.slice a1 is.length c1,.slice a l c,.int .i64 lo,.bool ls,.int .i64 hi,.bool hs,.bool op] 28)):=(Below.refl _ _).alloc (Nat.le_refl _) _
 have HI:=Lib.hid (z5e ⟨lo,ls,hi,hs,op⟩)
 have HE : Hid (z49 k is l ⟨lo,ls,hi,hs,op⟩ = (k != 6 || ivR ⟨lo,ls,hi,hs,op⟩ == 0)):=rfl
 unfold Spn.val at HI
 dsimp only at HI
 generalize ivR ⟨lo,ls,hi,hs,op⟩ = iv at HI HE
 have HB:=Lib.hid hb
 clear hb
 cases q : k != 6 with
 | true =>
  have HQ:=Lib.hid q
  go_enter Tryz.func57,Tryz.ntmps57
  go_wp2_with fail
  all_goals go_ret
  all_goals exact ⟨z00 (by rw [HE.out,HQ.out]; rfl),HB.out⟩
 | false =>
  have HQ:=Lib.hid q
  go_enter Tryz.func57,Tryz.ntmps57
  go_wp2_with fail
  refine (HI.out _).mono ?_
  rintro e w1 ⟨rfl,hb1⟩
  have HB1:=Lib.hid (HB.out.trans (hb1.mono HB.out.size))
  clear hb1
  go_wp2_with fail
  all_goals go_ret
  all_goals exact ⟨z00 (by rw [HE.out,HQ.out]; rfl),HB1.out⟩
theorem so38 {m : Nat} (w : World) : SoX (m:=m) w 57 #[] z49:=by
 intro n
 refine ⟨z2x Tryz.func57 (by kernel_rfl) (by kernel_rfl),fun t v w' hb' hr => ?_⟩
 obtain ⟨k,is,of,lo,ls,hi,hs,op⟩:=t
 obtain ⟨a1,c1,a,c,rfl,_,_⟩:=hr
 exact open38_any m k is a1 c1 a of.length c lo hi ls hs op w'
def Known (w : World) (names : List ByteArray) (b b0 : Nat) : Prop :=
 ∃ nv,b < w.heap.size ∧ b0 < w.heap.size ∧ w.cell? ⟨b,0,none⟩ = some (.func (.func 104) #[] #[.pointer (some ⟨b0,0,none⟩)]) ∧ w.cell? ⟨b0,0,none⟩ = some nv ∧ NRep w w.heap.size nv names
theorem Known.up {w w' : World} {names : List ByteArray} {b b0 : Nat} (h : Known w names b b0) (hb : Below w.heap.size w w') : Known w' names b b0:=by
 obtain ⟨nv,h1,h2,h3,h4,h5⟩:=h
 have hz:=hb.size
 exact ⟨nv,by omega,by omega,(hb.cell (p:=⟨b,0,none⟩) h1).trans h3,(hb.cell (p:=⟨b0,0,none⟩) h2).trans h4,h5.up hb hz⟩
theorem not37_any (names : List ByteArray) (b b0 n : Nat) (t : FT n) (v : Value) (w : World) (h : Known w names b b0) (hr : FRep w w.heap.size n t v) :
 Calls Tryz.prog 56 #[v,.pointer (some ⟨b,0,none⟩)] w fun e w' => e = .returned (.bool (!allF (z1n names) n t)) ∧ Below w.heap.size w w':=by
 obtain ⟨k,s,a,l,c,rfl⟩:=hr.shape
 have hbw : Below w.heap.size w (w.alloc (.cells #[.int .u8 k,.string s,.slice a l c] 61)):=(Below.refl _ _).alloc (Nat.le_refl _) _
 obtain ⟨nv,h1,h2,h3,h4,h5⟩:=h.up hbw
 have HD:=Lib.hid (declared51_any names nv b0 n t _ _ h2 h4 h5 (hr.up hbw hbw.size))
 obtain ⟨_,g1,_,g3,_,_⟩:=h
 have HB:=Lib.hid hbw
 clear h5 hr hbw h1 h2 h3 h4
 go_enter Tryz.func56,Tryz.ntmps56
 go_wp2_with fail
 refine HD.out.mono ?_
 rintro e w1 ⟨rfl,hb1⟩
 have HB1:=Lib.hid (HB.out.trans (hb1.mono HB.out.size))
 clear hb1
 go_wp2_with fail
 all_goals go_ret
 all_goals exact ⟨rfl,HB1.out⟩
theorem names35_any (m : Nat) (names : List ByteArray) (b b0 : Nat) (k : Int) (is : List (FT m)) (a1 : Option Addr) (c1 : Nat) (a : Option Addr) (l c : Nat) (lo hi : Int) (ls hs op : Bool) (w : World) (h : Known w names b b0) (hR : FRow w w.heap.size m a1 is) :
 Calls Tryz.prog 54 #[.agg #[.int .u8 k,.slice a1 is.length c1,.slice a l c,.int .i64 lo,.bool ls,.int .i64 hi,.bool hs,.bool op],.pointer (some ⟨b,0,none⟩)] w fun e w' => e = .returned (.bool (z28 names k is l ⟨lo,ls,hi,hs,op⟩)) ∧ Below w.heap.size w w':=by
 have hmf : ∀ (fn : Fn) (first cap : Array Value) (w : World),(Instr.makeFunc fn first cap).run Tryz.prog w = .ok (.func fn first cap) w:=fun _ _ _ _ => rfl
 have hb : Below w.heap.size w (w.alloc (.cells #[.int .u8 k,.slice a1 is.length c1,.slice a l c,.int .i64 lo,.bool ls,.int .i64 hi,.bool hs,.bool op] 28)):=(Below.refl _ _).alloc (Nat.le_refl _) _
 have HC:=Lib.hid (z4r m is a1 c1 56 #[.pointer (some ⟨b,0,none⟩)] (fun f => !allF (z1n names) m f) _ (FRow.up hR hb hb.size)
  ⟨z2x Tryz.func56 (by kernel_rfl) (by kernel_rfl),fun t v w' hb' hr => not37_any names b b0 m t v w' ((h.up hb).up hb') hr⟩)
 have HE : Hid (z28 names k is l ⟨lo,ls,hi,hs,op⟩ = !(is.any fun f => !allF (z1n names) m f)):=by rw [Hid]; unfold z28; rw [List.all_eq_not_any_not]
 have HB:=Lib.hid hb
 clear hb hR h
 go_enter Tryz.func54,Tryz.ntmps54
 go_wp2_with fail
 refine HC.out.mono ?_
 rintro e w1 ⟨rfl,hb1⟩
 have HB1:=Lib.hid (HB.out.trans (hb1.mono HB.out.size))
 clear hb1
 go_wp2_with fail
 all_goals go_ret
 all_goals exact ⟨z00 (by rw [HE.out]),HB1.out⟩
theorem so35 {m : Nat} (names : List ByteArray) (b b0 : Nat) (w : World) (h : Known w names b b0) : SoX (m:=m) w 54 #[.pointer (some ⟨b,0,none⟩)] (z28 names):=by
 intro n
 refine ⟨z2x Tryz.func54 (by kernel_rfl) (by kernel_rfl),fun t v w' hb' hr => ?_⟩
 obtain ⟨k,is,of,lo,ls,hi,hs,op⟩:=t
 obtain ⟨a1,c1,a,c,rfl,hR,_⟩:=hr
 exact names35_any m names b b0 k is a1 c1 a of.length c lo hi ls hs op w' (h.up hb') hR
end Go.Proofs.YtpgdplmndnopbaaGreatDoor
namespace Go.Proofs.YtpgdplmndnopbaaGreatDoor
open Go.RowKit
@[local go_sem] theorem run_store_func {P : Program} {w : World} {a : Addr} {m : Mode} (fn : Fn) (x y : Array Value) : (store a (.func fn x y) m).run P w = stored P w a (.func fn x y) m:=run_store P w a _ m rfl
theorem cells8 {W w1 : World} {N : Nat} {x0 x1 x2 x3 x4 x5 x6 x7 : Value} {t : TypeId} {fz : Nat × Nat} (h : W.heap[N]? = some (.cells #[x0,x1,x2,x3,x4,x5,x6,x7] t fz)) (hb : Below W.heap.size W w1) :
 w1.heap[N]? = some (.cells #[x0,x1,x2,x3,x4,x5,x6,x7] t fz) ∧ w1.cell? ⟨N,0,none⟩ = some x0 ∧ w1.cell? ⟨N,1,none⟩ = some x1 ∧ w1.cell? ⟨N,2,none⟩ = some x2 ∧ w1.cell? ⟨N,3,none⟩ = some x3 ∧
  w1.cell? ⟨N,4,none⟩ = some x4 ∧ w1.cell? ⟨N,5,none⟩ = some x5 ∧ w1.cell? ⟨N,6,none⟩ = some x6 ∧ w1.cell? ⟨N,7,none⟩ = some x7 ∧ N < w1.heap.size:=by
 have h1 : w1.heap[N]? = some (.cells #[x0,x1,x2,x3,x4,x5,x6,x7] t fz):=by rw [hb.block N (Array.getElem?_eq_some_iff.1 h).1]; exact h
 exact ⟨h1,Lib.cell_of_heap h1 0,Lib.cell_of_heap h1 1,Lib.cell_of_heap h1 2,Lib.cell_of_heap h1 3,Lib.cell_of_heap h1 4,Lib.cell_of_heap h1 5,Lib.cell_of_heap h1 6,Lib.cell_of_heap h1 7,(Array.getElem?_eq_some_iff.1 h1).1⟩
def ChkW (w0 w : World) (cs : Array Value) (names : List ByteArray) (b : Nat) : Prop :=
 Below w0.heap.size w0 w ∧ w.heap[w0.heap.size]? = some (.cells cs 28 (0,0)) ∧ Known w names b (w0.heap.size + 1)
theorem ChkW.up {w0 w w' : World} {cs : Array Value} {names : List ByteArray} {b : Nat} (h : ChkW w0 w cs names b) (hb : Below w.heap.size w w') : ChkW w0 w' cs names b :=
 ⟨h.1.trans (hb.mono h.1.size),by rw [hb.block _ (Array.getElem?_eq_some_iff.1 h.2.1).1]; exact h.2.1,h.2.2.up hb⟩
theorem check13_any (names : List ByteArray) (nv : Value) (hs : ∀ s ∈ names,s.size ≤ 1048576) (m n : Nat) (t : XT m n) (v : Value) (w : World) (hr : Rdy w) (hn : NRep w w.heap.size nv names) (hf : XRep w w.heap.size m n t v) :
 Calls Tryz.prog 25 #[nv,v] w fun e w' => e = .returned (.int .i64 (z2o names n t)) ∧ Below w.heap.size w w':=by
 obtain ⟨k,a1,l1,c1,a,l,c,lo,ls,hi,hs',op,rfl⟩:=hf.shape
 obtain ⟨na,nc,hnv,hnr⟩:=id hn
 have hmf : ∀ (fn : Fn) (first cap : Array Value) (w : World),(Instr.makeFunc fn first cap).run Tryz.prog w = .ok (.func fn first cap) w:=fun _ _ _ _ => rfl
 subst hnv
 have HC0 : Hid (∀ w1 : World,w1 = (w.alloc (.cells #[.int .u8 k,.slice a1 l1 c1,.slice a l c,.int .i64 lo,.bool ls,.int .i64 hi,.bool hs',.bool op] 28)).alloc (.cells #[.slice na names.length nc] 22) → ChkW w (w1.alloc (.cells #[.func (.func 104) #[] #[.pointer (some ⟨w.heap.size + 1,0,none⟩)]] 89)) #[.int .u8 k,.slice a1 l1 c1,.slice a l c,.int .i64 lo,.bool ls,.int .i64 hi,.bool hs',.bool op] names w1.heap.size):=by
  rintro w1 rfl
  have hb3 : Below w.heap.size w (((w.alloc (.cells #[.int .u8 k,.slice a1 l1 c1,.slice a l c,.int .i64 lo,.bool ls,.int .i64 hi,.bool hs',.bool op] 28)).alloc (.cells #[.slice na names.length nc] 22)).alloc (.cells #[.func (.func 104) #[] #[.pointer (some ⟨w.heap.size + 1,0,none⟩)]] 89)) :=
   (((Below.refl _ w).alloc (Nat.le_refl _) _).alloc (by simp) _).alloc (by simp; omega) _
  obtain ⟨d1,d2,d3,_,hz⟩:=blocks3 (Below.refl _ (((w.alloc (.cells #[.int .u8 k,.slice a1 l1 c1,.slice a l c,.int .i64 lo,.bool ls,.int .i64 hi,.bool hs',.bool op] 28)).alloc (.cells #[.slice na names.length nc] 22)).alloc (.cells #[.func (.func 104) #[] #[.pointer (some ⟨w.heap.size + 1,0,none⟩)]] 89)))
  have hzz : ((w.alloc (.cells #[.int .u8 k,.slice a1 l1 c1,.slice a l c,.int .i64 lo,.bool ls,.int .i64 hi,.bool hs',.bool op] 28)).alloc (.cells #[.slice na names.length nc] 22)).heap.size = w.heap.size + 2:=by simp
  rw [hzz]
  exact ⟨hb3,d1,_,by omega,by omega,Lib.cell_of_heap d3 0,Lib.cell_of_heap d2 0,hn.up hb3 (by omega)⟩
 have HF:=Lib.hid hf
 have HN : Hid (∀ w1 b,ChkW w w1 #[.int .u8 k,.slice a1 l1 c1,.slice a l c,.int .i64 lo,.bool ls,.int .i64 hi,.bool hs',.bool op] names b → Calls Tryz.prog 42 #[.slice na names.length nc] w1 fun e w' => e = .returned (.int .i64 (z15 names)) ∧ Below w1.heap.size w1 w') :=
  fun w1 _ h => z4v names _ hs w1 (hr.below h.1) (hn.up h.1 h.1.size)
 have HX : Hid (∀ w1 b,ChkW w w1 #[.int .u8 k,.slice a1 l1 c1,.slice a l c,.int .i64 lo,.bool ls,.int .i64 hi,.bool hs',.bool op] names b → XRep w1 w1.heap.size m n t (.agg #[.int .u8 k,.slice a1 l1 c1,.slice a l c,.int .i64 lo,.bool ls,.int .i64 hi,.bool hs',.bool op])) :=
  fun w1 _ h => hf.up h.1 h.1.size
 have HE : Hid (z2o names n t = if z15 names ≠ 0 then 2 else if allX z04 n t = false then 8 else if 64 < z2v n t then 160 else if allX (z28 names) n t = false then 161 else if allX z49 n t = false then 162 else 0):=rfl
 clear hr hs hf hn hnr
 go_enter Tryz.func25,Tryz.ntmps25
 go_wp2_with fail
 refine (declared31_any _ _ _ _).mono ?_
 rintro e w1 ⟨rfl,hw1⟩
 have hc0:=HC0.out w1 hw1
 have HC1:=Lib.hid hc0
 have hbl:=hc0.2.1
 clear hw1 HC0 hc0 hbl
 have HC:=HC1
 clear HC1
 go_wp2_with fail
 refine (HN.out _ _ HC.out).mono ?_
 rintro e w2 ⟨rfl,hbq⟩
 have HC2:=Lib.hid (HC.out.up hbq)
 clear hbq HC
 have HC:=HC2
 clear HC2
 by_cases h1 : z15 names = 0
 ·rw [if_neg (by simp [h1])] at HE
  have q1 : (z15 names != 0) = false:=by simp [h1]
  clear h1
  obtain ⟨_,x0,x1,x2,x3,x4,x5,x6,x7,hNlt⟩:=cells8 HC.out.2.1 (Below.refl _ _)
  go_wp2_with fail
  clear q1
  refine (z6y z04 53 #[] n t _ _ (HX.out _ _ HC.out) (so34 _)).mono ?_
  rintro e w3 ⟨rfl,hbq⟩
  have HC2:=Lib.hid (HC.out.up hbq)
  clear hbq HC
  have HC:=HC2
  clear HC2
  clear x0 x1 x2 x3 x4 x5 x6 x7 hNlt
  cases h2 : allX z04 n t with
  | false =>
   have H2 : Hid (z2o names n t = 8):=by rw [Hid,HE.out,if_pos h2]
   clear h2
   go_wp2_with fail
   all_goals go_ret
   all_goals exact ⟨z2q (by rw [H2.out]),HC.out.1⟩
  | true =>
   rw [if_neg (by simp [h2])] at HE
   clear h2
   obtain ⟨_,x0,x1,x2,x3,x4,x5,x6,x7,hNlt⟩:=cells8 HC.out.2.1 (Below.refl _ _)
   go_wp2_with fail
   refine (many14_any m n t _ _ (HX.out _ _ HC.out)).mono ?_
   rintro e w4 ⟨rfl,hbq⟩
   have HC2:=Lib.hid (HC.out.up hbq)
   clear hbq HC
   have HC:=HC2
   clear HC2
   clear x0 x1 x2 x3 x4 x5 x6 x7 hNlt
   by_cases h3 : 64 < z2v n t
   ·have H3 : Hid (z2o names n t = 160):=by rw [Hid,HE.out,if_pos h3]
    go_wp2_with fail
    all_goals go_ret
    all_goals exact ⟨z2q (by rw [H3.out]),HC.out.1⟩
   ·rw [if_neg h3] at HE
    obtain ⟨_,x0,x1,x2,x3,x4,x5,x6,x7,hNlt⟩:=cells8 HC.out.2.1 (Below.refl _ _)
    go_wp2_with fail
    refine (z6y (z28 names) 54 _ n t _ _ (HX.out _ _ HC.out) (so35 names _ _ _ HC.out.2.2)).mono ?_
    rintro e w5 ⟨rfl,hbq⟩
    have HC2:=Lib.hid (HC.out.up hbq)
    clear hbq HC
    have HC:=HC2
    clear HC2
    clear x0 x1 x2 x3 x4 x5 x6 x7 hNlt
    cases h4 : allX (z28 names) n t with
    | false =>
     have H4 : Hid (z2o names n t = 161):=by rw [Hid,HE.out,if_pos h4]
     clear h4
     go_wp2_with fail
     all_goals go_ret
     all_goals exact ⟨z2q (by rw [H4.out]),HC.out.1⟩
    | true =>
     rw [if_neg (by simp [h4])] at HE
     clear h4
     obtain ⟨_,x0,x1,x2,x3,x4,x5,x6,x7,hNlt⟩:=cells8 HC.out.2.1 (Below.refl _ _)
     go_wp2_with fail
     refine (z6y z49 57 #[] n t _ _ (HX.out _ _ HC.out) (so38 _)).mono ?_
     rintro e w6 ⟨rfl,hbq⟩
     have HC2:=Lib.hid (HC.out.up hbq)
     clear hbq HC
     have HC:=HC2
     clear HC2
     clear x0 x1 x2 x3 x4 x5 x6 x7 hNlt
     cases h5 : allX z49 n t with
     | false =>
      have H5 : Hid (z2o names n t = 162):=by rw [Hid,HE.out,if_pos h5]
      clear h5
      go_wp2_with fail
      all_goals go_ret
      all_goals exact ⟨z2q (by rw [H5.out]),HC.out.1⟩
     | true =>
      have H5 : Hid (z2o names n t = 0):=by rw [Hid,HE.out,if_neg (by simp [h5])]
      clear h5
      go_wp2_with fail
      all_goals go_ret
      all_goals exact ⟨z2q (by rw [H5.out]),HC.out.1⟩
 ·have H1 : Hid (z2o names n t = 2):=by rw [Hid,HE.out,if_pos h1]
  have q1 : (z15 names != 0) = true:=by simp [h1]
  clear h1
  go_wp2_with fail
  all_goals go_ret
  all_goals exact ⟨z2q (by rw [H1.out]),HC.out.1⟩
end Go.Proofs.YtpgdplmndnopbaaGreatDoor
