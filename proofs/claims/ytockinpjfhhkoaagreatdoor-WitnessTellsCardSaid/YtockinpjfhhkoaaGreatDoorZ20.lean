/- tree.Names walked: which names may be declared (the set of those that were seen lies in a map). -/
import Derived.Maps.OwnOps
import Derived.Maps.Views
import Derived.Test.YtockinpjfhhkoaaGreatDoorZ19
import Derived.Test.YtockinpjfhhkoaaGreatDoorZ02
set_option maxRecDepth 100000
set_option maxHeartbeats 16000000
open Go.Lib renaming hid → Jh
namespace Go.Proofs.YtockinpjfhhkoaaGreatDoor
open Go.RowKit Go.Maps
def seenD : List ByteArray → DataW Unit
 | [] => .map []
 | x :: r => (seenD r).put (.string x.data.toList) (.lit (.int .i64 1))
theorem z6f : ∀ l,IsMap (seenD l)
 | [] => ⟨[],rfl⟩
 | x :: r => by
  obtain ⟨es,h⟩:=z6f r
  show IsMap ((seenD r).put _ _)
  rw [h]; exact ⟨_,rfl⟩
theorem seenD_at (s : ByteArray) : ∀ l,(seenD l).atKey (.string s.data.toList) (.lit (.int .i64 0)) = .lit (.int .i64 (if inN s l then 1 else 0))
 | [] => rfl
 | x :: r => by
  show ((seenD r).put _ _).atKey _ _ = _
  by_cases h : s.data.toList = x.data.toList
  ·rw [h,atKey_put_same (z6f r) (show WideAt.IsKeyLit (.string _) from trivial)]
   have : inN s (x :: r) = true:=by unfold inN; rw [List.any_cons,ByteArray.toList_eq,ByteArray.toList_eq,h]; simp
   rw [this]; rfl
  ·rw [atKey_put_other (fun e => h (by injection e)),seenD_at s r]
   have : inN s (x :: r) = inN s r:=by
    unfold inN; rw [List.any_cons,ByteArray.toList_eq,ByteArray.toList_eq]
    have : (s.data.toList == x.data.toList) = false:=by simpa using h
    rw [this,Bool.false_or]
   rw [this]
theorem law9 : Keyed Tryz.prog 9:=string_keyed Tryz.underlying9
theorem zero3 (w : World) : (zeroValue 3).run Tryz.prog w = .ok (.int .i64 0) w:=by kernel_rfl
def Seen (w : World) (N n : Nat) (seen : List ByteArray) : Prop:=w.ownsMap Tryz.prog 9 (plainElem Tryz.prog 3) N n (seenD seen) ∧ w.cell? ⟨N + 1,0,none⟩ = some (.map (some N))
theorem odd45_any (s : ByteArray) (hs : s.size ≤ 1048576) (seen : List ByteArray) (N n : Nat) (w : World) (hr : Rdy w) (hN : 4 ≤ N) (hn : n < 100) (h : Seen w N n seen) :
 Calls Tryz.prog 135 #[.string s,.pointer (some ⟨N + 1,0,none⟩)] w fun e w' => e = .returned (.bool (inN s seen || !z4g s.data.toList)) ∧ (inN s seen = false → Seen w' N (n + 1) (s :: seen)) ∧ w.grownBy w' (some N):=by
 obtain ⟨hown,hc⟩:=h
 have hml : s.size ≤ maxLen:=by unfold maxLen; omega
 have hkey:=Go.WideMaps.keyOf_string_mk (P:=Tryz.prog) Tryz.underlying9 hml
 have HKEY:=Jh hkey
 have HAT:=Jh (seenD_at s seen)
 have HOWN:=Jh hown
 have HR:=Jh hr
 have hNs:=hown.lt
 have HNM : Hid (∀ W,Rdy W → Calls Tryz.prog 136 #[.string s] W fun e w' => e = .returned (.bool (z4g s.data.toList)) ∧ Below W.heap.size W w'):=fun W hW => name19_any s hs W hW
 have hcs : N + 1 < w.heap.size:=by
  have h3:=hc
  unfold World.cell? at h3
  rcases Nat.lt_or_ge (N + 1) w.heap.size with h | h
  ·exact h
  ·simp [Array.getElem?_eq_none h] at h3
 have HPUT : Hid (seenD (s :: seen) = (seenD seen).put (.string s.data.toList) (.lit (.int .i64 1))):=rfl
 clear hown hkey hr hs hml
 have HRG : Hid (∀ w1,w.grownBy w1 (some N) → Rdy w1):=fun w1 hg1 => HR.out.belowB hN ((Below.refl N w).grown hg1 (by omega) (fun k hk => by cases hk; omega))
 cases q : inN s seen with
 | true =>
  have HCC : Hid (∀ c : Int,(seenD seen).atKey (.string s.data.toList) (.lit (.int .i64 0)) = .lit (.int .i64 c) → c = 1):=fun c h => by
   rw [HAT.out,q] at h; simpa using h.symm
  clear q
  go_enter Tryz.func135,Tryz.ntmps135
  go_wp2_with (first
   | (at_lookup; refine wpList_lookup_own_int _ rfl _ _ 202 rfl 9 3 .i64 law9 Tryz.underlying202 Tryz.underlying3 (zero3 _) N n _ rfl HOWN.out _ _ rfl HKEY.out ?_; intro c hat hwc; obtain rfl:=HCC.out c hat; clear hat hwc)
   | (at_mapUpdate; refine wpList_mapUpdate_own _ rfl _ _ _ 202 rfl 9 3 law9 Tryz.underlying202 _ N n _ rfl HOWN.out (by unfold maxLen; omega) _ _ _ rfl rfl HKEY.out _ [] (plainElem_int Tryz.underlying3 (by decide)) ?_; intro w1 hown1 hg1; have HOWN1:=Jh hown1; have HG1:=Jh hg1; have HC1:=Jh (hg1.cell hc (by simp)); have HR1:=Jh (HRG.out w1 hg1); clear hown1 hg1))
  all_goals go_ret
  all_goals exact ⟨rfl,(fun h => by cases h),HG1.out⟩
 | false =>
  have HCC : Hid (∀ c : Int,(seenD seen).atKey (.string s.data.toList) (.lit (.int .i64 0)) = .lit (.int .i64 c) → c = 0):=fun c h => by
   rw [HAT.out,q] at h; simpa using h.symm
  clear q
  go_enter Tryz.func135,Tryz.ntmps135
  go_wp2_with (first
   | (at_lookup; refine wpList_lookup_own_int _ rfl _ _ 202 rfl 9 3 .i64 law9 Tryz.underlying202 Tryz.underlying3 (zero3 _) N n _ rfl HOWN.out _ _ rfl HKEY.out ?_; intro c hat hwc; obtain rfl:=HCC.out c hat; clear hat hwc)
   | (at_mapUpdate; refine wpList_mapUpdate_own _ rfl _ _ _ 202 rfl 9 3 law9 Tryz.underlying202 _ N n _ rfl HOWN.out (by unfold maxLen; omega) _ _ _ rfl rfl HKEY.out _ [] (plainElem_int Tryz.underlying3 (by decide)) ?_; intro w1 hown1 hg1; have HOWN1:=Jh hown1; have HG1:=Jh hg1; have HC1:=Jh (hg1.cell hc (by simp)); have HR1:=Jh (HRG.out w1 hg1); clear hown1 hg1))
  refine (HNM.out _ HR1.out).mono ?_
  rintro e w2 ⟨rfl,hb2⟩
  have hz1:=HG1.out.size
  have hg2 : w.grownBy w2 (some N):=HG1.out.trans ⟨hb2.os,hb2.tape,hb2.output,hb2.size,fun k hk _ => hb2.block k hk⟩
  have HG2:=Jh hg2
  have hs2 : Seen w2 N (n + 1) (s :: seen):=by
   refine ⟨?_,(hb2.cell (p:=⟨N + 1,0,none⟩) (by show N + 1 < _; omega)).trans HC1.out⟩
   have h3:=HOWN1.out
   rw [HPUT.out]
   exact h3.kept (row:=none) ⟨hb2.os,hb2.tape,hb2.output,hb2.size,fun k hk _ => hb2.block k hk⟩ (by simp)
  have HS2:=Jh hs2
  clear hb2 hg2 hs2
  go_wp2_with fail
  all_goals go_ret
  all_goals exact ⟨rfl,fun _ => HS2.out,HG2.out⟩
theorem z3d (seen : List ByteArray) (x : ByteArray) (r : List ByteArray) : z1c seen (x :: r) = (!inN x seen && z4g x.data.toList && z1c (x :: seen) r):=rfl
theorem index62_any (l : List ByteArray) (v : Value) (hs : ∀ s ∈ l,s.size ≤ 1048576) (hl : l.length ≤ 50) (N : Nat) (w : World) (hr : Rdy w) (hN : 4 ≤ N) (hNw : N + 1 < w.heap.size) (hn : NRep w N v l) (h : Seen w N 0 []) :
 Calls Tryz.prog 206 #[v,.func (.func 135) #[] #[.pointer (some ⟨N + 1,0,none⟩)]] w fun e w' => (∃ r : Int,e = .returned (.int .i64 r) ∧ Hid (decide (0 ≤ r) = !z1c [] l)) ∧ Below N w w':=by
 obtain ⟨a,c,rfl,hm,hc⟩:=hn
 have HS0:=Jh h
 have HR:=Jh hr
 have HL:=Jh hs
 have HCC:=Jh hc
 clear h hr hs hc
 go_enter Tryz.func206,Tryz.ntmps206
 go_wp2_with fail
 go_loopw [8] (fun i wr => ∃ j : Nat,j ≤ l.length ∧ i = .int .i64 j ∧ Hid (z1c [] l = z1c (l.take j).reverse (l.drop j)) ∧ Hid (Seen wr N j (l.take j).reverse) ∧ Below N w wr) (fun i _ => l.length - (intOf i).toNat)
 case atStart => exact ⟨0,Nat.zero_le _,rfl,rfl,HS0,Below.refl _ _⟩
 case round =>
  obtain ⟨j,hj,rfl,HT,HSJ,hbw⟩:=hrel
  have HB:=Jh hbw
  have hz:=hbw.size
  by_cases hlt : j < l.length
  ·rcases HCC.out with hc | ⟨b,off,rfl,hb,hc⟩
   ·rw [hc] at hlt; exact absurd hlt (by simp)
   ·have c0:=(hbw.cell (p:=⟨b,off + j,none⟩) hb).trans (hc j hlt)
    have hbl : b < wr.heap.size:=by omega
    have HO:=Jh (odd45_any l[j] (HL.out _ (List.getElem_mem _)) (l.take j).reverse N j wr (HR.out.belowB hN hbw) hN (by omega) HSJ.out)
    have HD : Hid (l.drop j = l[j] :: l.drop (j + 1)):=List.drop_eq_getElem_cons hlt
    have HTK : Hid ((l.take (j + 1)).reverse = l[j] :: (l.take j).reverse):=by rw [Hid,List.take_succ_eq_append_getElem hlt,List.reverse_append]; rfl
    generalize l[j] = s at c0 HO HD HTK
    clear hc hbw hb
    cases q1 : inN s (l.take j).reverse with
    | true =>
     have HQ:=Jh q1
     clear q1
     go_wp2_with fail
     refine HO.out.mono ?_
     rintro e w1 ⟨rfl,_,hg⟩
     rw [HQ.out]
     have HG:=Jh (HB.out.grown hg (by omega) (fun k hk => by cases hk; exact Nat.le_refl _))
     clear hg
     go_wp2_with fail
     all_goals go_ret
     all_goals exact ⟨⟨_,rfl,by rw [Hid,HT.out,HD.out,z3d,HQ.out]; simp⟩,HG.out⟩
    | false =>
     cases q2 : z4g s.data.toList with
     | false =>
      have HQ:=Jh q1
      have HQ2:=Jh q2
      clear q1 q2
      go_wp2_with fail
      refine HO.out.mono ?_
      rintro e w1 ⟨rfl,_,hg⟩
      rw [HQ.out,HQ2.out]
      have HG:=Jh (HB.out.grown hg (by omega) (fun k hk => by cases hk; exact Nat.le_refl _))
      clear hg
      go_wp2_with fail
      all_goals go_ret
      all_goals exact ⟨⟨_,rfl,by rw [Hid,HT.out,HD.out,z3d,HQ.out,HQ2.out]; simp⟩,HG.out⟩
     | true =>
      have HQ:=Jh q1
      have HQ2:=Jh q2
      clear q1 q2
      go_wp2_with fail
      refine HO.out.mono ?_
      rintro e w1 ⟨rfl,hsn,hg⟩
      have HSN:=Jh (hsn HQ.out)
      rw [HQ.out,HQ2.out]
      have HG:=Jh (HB.out.grown hg (by omega) (fun k hk => by cases hk; exact Nat.le_refl _))
      clear hg hsn
      go_wp2_with fail
      go_roundw
      case rel => exact ⟨j + 1,by omega,by go_num,by rw [Hid,HT.out,HD.out,z3d,HQ.out,HQ2.out,HTK.out]; rfl,by rw [Hid,HTK.out]; exact HSN.out,HG.out⟩
      case measure => simp [intOf]; omega
  ·have hje : j = l.length:=by omega
   have HE : Hid (z1c [] l = true):=by rw [Hid,HT.out,hje,List.drop_length]; rfl
   clear HT hbw
   go_wp2_with fail
   all_goals go_ret
   all_goals exact ⟨⟨_,rfl,by rw [Hid,HE.out]; rfl⟩,HB.out⟩
theorem contains47_any (l : List ByteArray) (v : Value) (hs : ∀ s ∈ l,s.size ≤ 1048576) (hl : l.length ≤ 50) (N : Nat) (w : World) (hr : Rdy w) (hN : 4 ≤ N) (hNw : N + 1 < w.heap.size) (hn : NRep w N v l) (h : Seen w N 0 []) :
 Calls Tryz.prog 137 #[v,.func (.func 135) #[] #[.pointer (some ⟨N + 1,0,none⟩)]] w fun e w' => e = .returned (.bool (!z1c [] l)) ∧ Below N w w':=by
 have HI:=Jh (index62_any l v hs hl N w hr hN hNw hn h)
 obtain ⟨a,c,rfl,hm,hc⟩:=hn
 clear hr hs hc h
 go_enter Tryz.func137,Tryz.ntmps137
 go_wp2_with fail
 refine HI.out.mono ?_
 rintro e w1 ⟨⟨r,rfl,hr⟩,hb1⟩
 go_wp2_with fail
 all_goals go_ret
 all_goals exact ⟨z01 (by rw [← hr.out]),hb1⟩
theorem z6i (l : List ByteArray) (v : Value) (hs : ∀ s ∈ l,s.size ≤ 1048576) (w : World) (hr : Rdy w) (hn : NRep w w.heap.size v l) :
 Calls Tryz.prog 68 #[v] w fun e w' => e = .returned (.int .i64 (z0r l)) ∧ Below w.heap.size w w':=by
 have hmm:=@run_makeMap Tryz.prog
 have hmf : ∀ (fn : Fn) (first cap : Array Value) (w : World),(Instr.makeFunc fn first cap).run Tryz.prog w = .ok (.func fn first cap) w:=fun _ _ _ _ => rfl
 have hb2 : Below w.heap.size w ((w.alloc (.map #[] 0)).alloc (.cells #[.map (some w.heap.size)] 202)):=((Below.refl _ _).alloc (Nat.le_refl _) _).alloc (by simp) _
 have HB2:=Jh hb2
 have HLT:=Jh hr.lt
 have HSN : Hid (Seen ((w.alloc (.map #[] 0)).alloc (.cells #[.map (some w.heap.size)] 202)) w.heap.size 0 []):=by
  refine ⟨(World.ownsMap_made w Tryz.prog 9 _).alloc _,?_⟩
  rw [World.cell?_alloc_at _ _ _ _ (by simp)]; rfl
 have HCON : Hid (l.length ≤ 8 → _):=fun hl => contains47_any l v hs (by omega) w.heap.size _ (hr.belowB hr.lt hb2) hr.lt (by simp) (hn.up hb2 (Nat.le_refl _)) HSN.out
 have HE : Hid (z0r l = if decide (8 < l.length) || !z1c [] l then 2 else 0):=rfl
 obtain ⟨a,c,rfl,hm,hc⟩:=hn
 clear hr hs hc hb2 HSN
 by_cases h8 : 8 < l.length
 ·have H8 : Hid (decide (8 < l.length) = true):=by rw [Hid]; simp; omega
  go_enter Tryz.func68,Tryz.ntmps68
  go_wp2_with fail
  all_goals go_ret
  all_goals exact ⟨z0u (by rw [HE.out,H8.out]; rfl),HB2.out⟩
 ·have HC8:=Jh (HCON.out (by omega))
  have H8 : Hid (decide (8 < l.length) = false):=by rw [Hid]; simp; omega
  cases q : z1c [] l with
  | true =>
   have HQ:=Jh q
   clear q
   go_enter Tryz.func68,Tryz.ntmps68
   go_wp2_with fail
   refine HC8.out.mono ?_
   rintro e w1 ⟨rfl,hb1⟩
   rw [HQ.out]
   have HB1:=Jh (HB2.out.trans hb1)
   clear hb1
   go_wp2_with fail
   all_goals go_ret
   all_goals exact ⟨z0u (by rw [HE.out,H8.out,HQ.out]; rfl),HB1.out⟩
  | false =>
   have HQ:=Jh q
   clear q
   go_enter Tryz.func68,Tryz.ntmps68
   go_wp2_with fail
   refine HC8.out.mono ?_
   rintro e w1 ⟨rfl,hb1⟩
   rw [HQ.out]
   have HB1:=Jh (HB2.out.trans hb1)
   clear hb1
   go_wp2_with fail
   all_goals go_ret
   all_goals exact ⟨z0u (by rw [HE.out,H8.out,HQ.out]; rfl),HB1.out⟩
end Go.Proofs.YtockinpjfhhkoaaGreatDoor
