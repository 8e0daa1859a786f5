/- prop.made walked: what a formula is made to answers as the formula holds. -/
import Derived.Test.YtockinpjfhhkoaaGreatDoorZ14
import Derived.Test.YtockinpjfhhkoaaGreatDoorZ01
set_option maxRecDepth 100000
set_option maxHeartbeats 16000000
open List renaming getElem?_cons_zero → J7, getElem?_toArray → J9
open Go.Lib renaming cell_of_heap → Jc, hid → Jh
namespace Go.Proofs.YtockinpjfhhkoaaGreatDoor
open Go.RowKit
attribute [local go_sem ↓] Go.wp_at_zero Go.wp_at_succ
attribute [local go_sem] Oper.semAt_some
theorem info55 : (Tryz.prog.info? 143).map (fun i => (i.zero,i.size,i.bytes)) = some (some .nilFunc,1,8):=by kernel_rfl
theorem idx_found {names : List ByteArray} {s : ByteArray} (h : inN s names = true) : ∃ d : Nat,idxN s names = d ∧ d < names.length:=by
 unfold inN at h
 unfold idxN
 cases q : names.findIdx? (fun x => s.toList == x.toList) with
 | none =>
  rw [List.findIdx?_eq_none_iff] at q
  rw [List.any_eq_true] at h
  obtain ⟨x,hx,hp⟩:=h
  rw [q x hx] at hp
  exact absurd hp (by simp)
 | some k => exact ⟨k,rfl,(List.findIdx?_eq_some_iff_getElem.1 q).1⟩
theorem z5k {k : Int} {s : ByteArray} {l : Nat} (h : z04 k s l = true) : (k = 1 ∨ k = 2 ∨ k = 3 ∨ k = 4 ∨ k = 5 ∨ k = 6) ∧ l = z0h k:=by
 unfold z04 at h
 simp only [Bool.and_eq_true,decide_eq_true_eq,beq_iff_eq] at h
 obtain ⟨⟨⟨h1,h2⟩,h3⟩,_⟩:=h
 exact ⟨by omega,h3⟩
theorem made48_any (names : List ByteArray) (nv : Value) (hnl : names.length ≤ 8) (n : Nat) : ∀ (t : FT n) (v : Value) (w : World),NRep w w.heap.size nv names → FRep w w.heap.size n t v → allF z04 n t = true → allF (z0g names) n t = true →
 Calls Tryz.prog 86 #[nv,v] w fun e w' => (∃ v',e = .returned v' ∧ FnI w' w.heap.size w'.heap.size v' (z0b names n t)) ∧ Below w.heap.size w w':=by
 induction n with
 | zero => intro t v w _ h; exact h.elim
 | succ n ih =>
  intro t v w hn hf hrt hdc
  obtain ⟨k,s,of⟩:=t
  obtain ⟨a,c,rfl,hR⟩:=hf
  dsimp only at hR ⊢
  rw [z70,Bool.and_eq_true,List.all_eq_true] at hrt hdc
  obtain ⟨hr1,hr2⟩:=hrt
  obtain ⟨hd1,hd2⟩:=hdc
  obtain ⟨na,nc,rfl,_⟩:=id hn
  have hm:=hR.1
  have HR:=Jh hR
  have HN:=Jh hn
  have HIH : Hid (∀ x ∈ of,∀ (v : Value) (W : World),NRep W W.heap.size (.slice na names.length nc) names → FRep W W.heap.size n x v → Calls Tryz.prog 86 #[.slice na names.length nc,v] W fun e w' => (∃ v',e = .returned v' ∧ FnI w' W.heap.size w'.heap.size v' (z0b names n x)) ∧ Below W.heap.size W w') :=
   fun x hx v W h1 h2 => ih x v W h1 h2 (hr2 x hx) (hd2 x hx)
  have HK:=Jh (z5k hr1)
  have HD : Hid (z0g names k s of.length = true):=hd1
  have hol : of.length ≤ 2:=by
   rw [(z5k hr1).2]; unfold z0h; split <;> (try split) <;> omega
  clear hR hn ih hr1 hr2 hd1 hd2
  have HM0 : Hid (∀ fc,fc = (#[.int .u8 k,.string s,.slice a of.length c] : Array Value) → MadeI w ((w.alloc (.cells #[.int .u8 k,.string s,.slice a of.length c] 25)).alloc (.cells #[.slice none 0 0] 216)) names n fc (of.take 0) (.slice none 0 0) []):=by
   rintro fc rfl
   refine ⟨((Below.refl _ w).alloc (Nat.le_refl _) _).alloc (by simp) _,?_,?_,World.ownsRow_nil _ _ _ _,fun i h => absurd h (by simp)⟩
   ·show ((w.heap.push _).push _)[w.heap.size]? = _
    rw [Array.getElem?_push,if_neg (by simp),Array.getElem?_push_size]
   ·exact heap_alloc2_new _ _ _
  obtain ⟨fc,hfc⟩ : ∃ fc,fc = (#[.int .u8 k,.string s,.slice a of.length c] : Array Value):=⟨_,rfl⟩
  have HFC:=Jh hfc
  clear hfc
  go_enter Tryz.func86,Tryz.ntmps86
  go_wp2_with fail
  go_loopw [12] (fun i wr => ∃ (j : Nat) (pv : Value) (vs : List Value),j ≤ of.length ∧ i = .int .i64 j ∧ Hid (MadeI w wr names n fc (of.take j) pv vs)) (fun i _ => of.length - (intOf i).toNat)
  case atStart => exact ⟨0,_,_,Nat.zero_le _,rfl,HM0.out _ HFC.out⟩
  case round =>
   clear HM0
   obtain ⟨j,pv,vs,hj,rfl,HI⟩:=hrel
   by_cases hlt : j < of.length
   ·obtain ⟨b,off,k',s',sa,sl,sc,rfl,hbl,c0,c1,c2,hr⟩:=(FRow.up HR.out HI.out.1 (Nat.le_refl _)).at j hlt
    have hz:=HI.out.1.size
    have hbl' : b < wr.heap.size:=by omega
    have hM : w.heap.size + 1 < wr.heap.size:=(Array.getElem?_eq_some_iff.1 HI.out.2.2.1).1
    have HY:=Jh hr
    clear hr
    go_upto_region 5 with fail
    obtain ⟨W1,hW1⟩ : ∃ W1,W1 = wr.alloc (.cells #[.int .u8 k',.string s',.slice sa sl sc] 25):=⟨_,rfl⟩
    have hs1 : W1.heap.size = wr.heap.size + 1:=by rw [hW1]; simp
    have hbr1 : Below wr.heap.size wr W1:=by rw [hW1]; exact (Below.refl _ _).alloc (Nat.le_refl _) _
    have hbw1 : Below w.heap.size w W1:=HI.out.1.trans (hbr1.mono hz)
    have hy : W1.heap[wr.heap.size]? = some (.cells #[.int .u8 k',.string s',.slice sa sl sc] 25 (0,0)):=by rw [hW1]; exact Array.getElem?_push_size
    have hm1 : W1.heap[w.heap.size + 1]? = some (.cells #[pv] 216 (0,0)):=(hbr1.block _ hM).trans HI.out.2.2.1
    have HC : Hid (∀ W : World,W.alike2 W1 → Calls Tryz.prog 86 #[.slice na names.length nc,.agg #[.int .u8 k',.string s',.slice sa sl sc]] W fun e w' => (∃ K4 caps4,e = .returned (.func (.func K4) #[] caps4) ∧ FnI w' W1.heap.size w'.heap.size (.func (.func K4) #[] caps4) (z0b names n of[j])) ∧ Below W1.heap.size W1 w'):=by
     intro W ha
     have hbW : Below w.heap.size w W:=⟨ha.2.1.trans hbw1.os,ha.2.2.1.trans hbw1.tape,ha.2.2.2.trans hbw1.output,by rw [ha.1]; exact hbw1.size,fun j hj => by rw [ha.1]; exact hbw1.block j hj⟩
     have hbrW : Below wr.heap.size wr W:=⟨ha.2.1.trans hbr1.os,ha.2.2.1.trans hbr1.tape,ha.2.2.2.trans hbr1.output,by rw [ha.1]; exact hbr1.size,fun j hj => by rw [ha.1]; exact hbr1.block j hj⟩
     refine (HIH.out of[j] (List.getElem_mem hlt) _ W (HN.out.up hbW hbW.size) (HY.out.up (hbrW.mono hz) (by have:=hbrW.size; omega))).mono ?_
     rintro e w' ⟨⟨v',rfl,h1⟩,h2⟩
     obtain ⟨K4,caps4,rfl,_⟩:=h1 w' fun _ _ _ => rfl
     have hsW : W.heap.size = W1.heap.size:=by rw [ha.1]
     rw [hsW] at h1
     exact ⟨⟨K4,caps4,rfl,h1⟩,by rw [← hsW] at *; exact ha.below h2⟩
    have hpl : (of.take j).length = j:=by simp; omega
    have hown:=HI.out.2.2.2.1
    rw [hpl] at hown
    have HQ : Hid (∀ (w4 Wb W5 : World) (v4 : Value) (G cap : Nat),Below W1.heap.size W1 w4 → FnI w4 W1.heap.size w4.heap.size v4 (z0b names n of[j]) → Wb.alike2 (w4.alloc (.cells #[v4] 143)) → Wb.grownBy W5 pv.ownBlock →
     W5.ownsRow (w.heap.size + 2) 143 1 (.slice (some ⟨G,0,none⟩) (j + 1) cap) (j + 1) (vs ++ [v4]) → (pv.ownBlock = some G ∨ G = Wb.heap.size) →
     (W5.cell? ⟨w.heap.size + 1,0,none⟩ = some pv ∧ W5.frozen? ⟨w.heap.size + 1,0,none⟩ = false ∧ w.heap.size + 1 < W5.heap.size) ∧
     MadeI w (W5.setCell ⟨w.heap.size + 1,0,none⟩ (.slice (some ⟨G,0,none⟩) (j + 1) cap)) names n fc (of.take (j + 1)) (.slice (some ⟨G,0,none⟩) (j + 1) cap) (vs ++ [v4])):=by
     intro w4 Wb W5 v4 G cap g1 g2 g3 g4 g5 g6
     rw [List.take_succ_eq_append_getElem hlt]
     have:=made_step (x:=of[j]) (l:=of.take j) (G:=G) (cap:=cap) HI.out (by rw [← hW1]; exact g1) (by rw [← hW1]; exact g2) g3 g4 (by rw [hpl]; exact g5) g6
     rw [hpl] at this
     exact this
    have HO : Hid (∀ w4,Below W1.heap.size W1 w4 → w4.ownsRow (w.heap.size + 2) 143 1 pv j vs):=by
     intro w4 h4
     refine hown.kept (row:=none) (⟨h4.os.trans hbr1.os,h4.tape.trans hbr1.tape,h4.output.trans hbr1.output,by have:=h4.size; omega,fun b hb _ => (h4.block b (by omega)).trans (hbr1.block b hb)⟩) ?_
     cases q : pv.ownBlock <;> simp
    have HM4 : Hid (∀ w4,Below W1.heap.size W1 w4 → w4.cell? ⟨w.heap.size + 1,0,none⟩ = some pv ∧ w.heap.size + 1 < w4.heap.size ∧ w.heap.size + 2 ≤ w4.heap.size):=by
     intro w4 h4
     have e : w4.heap[w.heap.size + 1]? = some (.cells #[pv] 216 (0,0)):=(h4.block _ (by omega)).trans hm1
     have:=(Array.getElem?_eq_some_iff.1 e).1
     exact ⟨Jc e 0,this,by omega⟩
    obtain ⟨y0,y1,y2⟩:=cc3 hy
    have m1:=Jc hm1 0
    have hM1 : w.heap.size + 1 < W1.heap.size:=by omega
    have hY1 : wr.heap.size < W1.heap.size:=by omega
    simp only [J9,J7] at m1
    rw [← hW1]
    have HW1:=Jh hW1
    obtain ⟨i0,hi,hz0,hz1,hz2⟩:=info_parts info55
    clear hW1 hbr1 hbw1 hy hm1 c0 c1 c2
    have hown':=True.intro
    clear hown'
    go_region_law (first
     | (go_simp; go_at_call 86; refine (HC.out _ (by exact ⟨rfl,rfl,rfl,rfl⟩)).mono ?_; rintro e w4 ⟨⟨K4,caps4,rfl,hf4⟩,hb4⟩; have HF4:=Jh hf4; have HB4:=Jh hb4; clear hf4 hb4; obtain ⟨m4,hM4,hM5⟩:=HM4.out w4 HB4.out; have HO4:=Jh (HO.out w4 HB4.out))
     | (refine step_append_lies _ rfl _ _ 216 rfl (w.heap.size + 2) 143 i0 _ 1 8 Tryz.underlying216 hi hz0 hz1 hz2 rfl (by decide) _ _ _ rfl (World.ownsRow.alloc (show World.ownsRow _ _ _ _ _ _ _ from HO4.out) _) _ 1 1 [.func (.func K4) #[] caps4] rfl rfl (by intro q u hu; have hq:=cell_one_new w4 (.func (.func K4) #[] caps4) 143 q u hu; simpa using hq) (by intro u hu; simp at hu; subst hu; rfl) (by decide) (by simp only [maxLen]; omega) (by omega) (by simp; omega) _ rfl ?_; intro G cp W5 hown5 hgrow5 hat5 hlt5; obtain ⟨⟨u1,u2,u3⟩,hi5⟩:=HQ.out w4 _ W5 _ G cp HB4.out HF4.out ⟨rfl,rfl,rfl,rfl⟩ hgrow5 hown5 hat5; have HI5:=Jh hi5; clear hown5 hgrow5 hat5 hi5))
    all_goals (
     go_wp2_with fail
     go_roundw
     case rel => exact ⟨j + 1,_,_,by omega,by go_num,HI5⟩
     case measure => simp [intOf]; omega)
   ·have hje : j = of.length:=by omega
    subst hje
    have hi:=HI.out
    rw [List.take_length] at hi
    have HI2:=Jh hi
    clear HI
    obtain ⟨hB,h0,h1,_⟩:=hi
    have hz:=hB.size
    rw [HFC.out] at h0
    obtain ⟨x0,x1,x2⟩:=cc3 h0
    have hN1:=(Array.getElem?_eq_some_iff.1 h0).1
    have hM1:=(Array.getElem?_eq_some_iff.1 h1).1
    have HH0:=Jh h0
    have HB:=Jh hB
    clear h0 h1 hB
    obtain ⟨hk,hl⟩:=HK.out
    have hmf : ∀ (fn : Fn) (first cap : Array Value) (w : World),(Instr.makeFunc fn first cap).run Tryz.prog w = .ok (.func fn first cap) w:=fun _ _ _ _ => rfl
    rcases hk with rfl | rfl | rfl | rfl | rfl | rfl
    ·clear hl
     go_wp2_with fail
     all_goals go_ret
     exact ⟨⟨_,rfl,made_const HH0.out (Nat.le_refl _)⟩,HB.out⟩
    ·clear hl
     go_wp2_with fail
     all_goals go_ret
     exact ⟨⟨_,rfl,made_const HH0.out (Nat.le_refl _)⟩,HB.out⟩
    ·have hin : inN s names = true:=by
      have:=HD.out
      unfold z0g at this
      simpa using this
     obtain ⟨d,hd,hd8⟩:=idx_found hin
     have HX:=z6p names (.slice na names.length nc) s wr (HN.out.up HB.out HB.out.size)
     rw [hd] at HX
     have HXX:=Jh HX
     have HDD:=Jh hd
     clear hin hl HX hd
     go_wp2_with fail
     refine HXX.out.mono ?_
     rintro e w1 ⟨rfl,rfl⟩
     go_wp2_with fail
     all_goals go_ret
     have hfun : (fun on => bits .and .i64 on (wrap64 (2 ^ d)) != 0) = z0b names (n + 1) (3,s,of):=by
      funext on
      show _ = (bits .and .i64 on (bitV names s) != 0)
      unfold bitV
      rw [HDD.out]
      rfl
     refine ⟨⟨_,rfl,?_⟩,HB.out.alloc HB.out.size _⟩
     rw [← hfun]
     exact made_prop (heap_alloc_new _ _) HB.out.size
    ·obtain ⟨x,rfl⟩:=List.length_eq_one_iff.1 (show of.length = 1 from hl)
     clear hl
     go_wp2_with fail
     all_goals go_ret
     exact ⟨⟨_,rfl,made_not HI2.out⟩,HB.out⟩
    ·obtain ⟨x,y,rfl⟩ : ∃ x y,of = [x,y]:=by
      have : of.length = 2:=hl
      match of,this with
      | [x,y],_ => exact ⟨x,y,rfl⟩
     clear hl
     go_wp2_with fail
     all_goals go_ret
     exact ⟨⟨_,rfl,made_and HI2.out⟩,HB.out⟩
    ·obtain ⟨x,y,rfl⟩ : ∃ x y,of = [x,y]:=by
      have : of.length = 2:=hl
      match of,this with
      | [x,y],_ => exact ⟨x,y,rfl⟩
     clear hl
     go_wp2_with fail
     all_goals go_ret
     exact ⟨⟨_,rfl,made_or HI2.out⟩,HB.out⟩
end Go.Proofs.YtockinpjfhhkoaaGreatDoor
