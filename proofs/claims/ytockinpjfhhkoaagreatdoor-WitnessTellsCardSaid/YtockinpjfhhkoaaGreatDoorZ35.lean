/- The document's proofs: a whole number, rising times, how long. (Printed by gen_tea.py.) -/
import Derived.Deep.RegionHeld
import Derived.Deep.Cut
import Derived.LoopTactic
import Derived.Test.YtockinpjfhhkoaaGreatDoorZ23
import Derived.Test.YtockinpjfhhkoaaGreatDoorZ32
import Derived.Test.YtockinpjfhhkoaaGreatDoorZ33
import Derived.Test.YtockinpjfhhkoaaGreatDoorZ34
import Derived.Test.YtockinpjfhhkoaaGreatDoorZ08
import Derived.Test.YtockinpjfhhkoaaGreatDoorZ09
import Derived.Test.YtockinpjfhhkoaaGreatDoorZ05
set_option maxRecDepth 100000
set_option maxHeartbeats 16000000
open List renaming setIfInBounds_toArray → J1, set_cons_zero → J2, set_cons_succ → J3, getElem_toArray → J4, getElem_cons_zero → J5, getElem_cons_succ → J6, getElem?_cons_zero → J7, getElem?_cons_succ → J8, getElem?_toArray → J9
open Go.Lib renaming cell_of_heap → Jc, frozen_of_heap → Jf, hid → Jh
open Go.AllReadyH renaming cons → Jd, nil → Je
open Go renaming wpAnyH_ready → Jr
open Go.RowKit.Below renaming heap_alloc → Jb
namespace Go.Proofs.YtockinpjfhhkoaaGreatDoor
open Go.RowKit
theorem whole181_any (n : Int) (w : World) : Calls Tryz.prog 181 #[.int .i64 n] w fun e w' => e = .returned (.agg #[.int .i64 n,.int .i64 1]) ∧ Below w.heap.size w w':=by
 obtain ⟨W1,hW1⟩ : ∃ W1,W1 = w.alloc (.cells #[.int .i64 0,.int .i64 0] 50):=⟨_,rfl⟩
 have hb1 : Below w.heap.size w W1:=by rw [hW1]; exact z0c _ _
 have hx : W1.heap[w.heap.size]? = some (.cells #[.int .i64 0,.int .i64 0] 50 (0,0)):=by rw [hW1]; exact z03 rfl
 have HB:=Jh hb1
 have HX:=Jh hx
 have HW:=Jh hW1.symm
 have x0:=Jc hx 0
 have x1:=Jc hx 1
 have x2:=Jf hx 0
 have x3:=Jf hx 1
 have x4 : w.heap.size < W1.heap.size:=(Array.getElem?_eq_some_iff.1 hx).1
 simp only [J9,J7,J8] at x0 x1
 clear hb1 hx hW1
 go_enter Tryz.func181,Tryz.ntmps181
 go_upto_region 1 with fail
 rw [HW.out]
 clear HW
 go_wp2_with fail
 refine bodyPost_ret (results_cell_row rfl _ _ _ _ _ _ _ rfl (z57 HX.out _ _) Tryz.underlying50 rfl (by kernel_rfl)) rfl ?_
 exact ⟨rfl,z56 HB.out (by omega) _ _⟩
def riseG : Option (Int × Int) → List (Int × Int) → Bool
 | _,[] => true
 | b,a :: r => mayP a && (match b with | none => true | some c => ltQ c.1 c.2 a.1 a.2) && riseG (some a) r
theorem rise_some : ∀ (r : List (Int × Int)) (a : Int × Int),z23 (a :: r) = (mayP a && riseG (some a) r)
 | [],a => by show mayP a = (mayP a && true); rw [Bool.and_true]
 | b :: r,a => by
  show (mayP a && ltQ a.1 a.2 b.1 b.2 && z23 (b :: r)) = (mayP a && (mayP b && ltQ a.1 a.2 b.1 b.2 && riseG (some b) r))
  rw [rise_some r b]
  cases mayP a <;> cases mayP b <;> cases ltQ a.1 a.2 b.1 b.2 <;> rfl
theorem rise_none : ∀ (l : List (Int × Int)),z23 l = riseG none l
 | [] => rfl
 | a :: r => by rw [rise_some]; show _ = (mayP a && true && riseG (some a) r); rw [Bool.and_true]
def z35 (l : List (Int × Int)) (j : Nat) : Option (Int × Int):=if j = 0 then none else l[j - 1]?
theorem rise_step (l : List (Int × Int)) (j : Nat) (h : j < l.length) : riseG (z35 l j) (l.drop j) = (mayP l[j] && (match z35 l j with | none => true | some c => ltQ c.1 c.2 l[j].1 l[j].2) && riseG (z35 l (j + 1)) (l.drop (j + 1))):=by
 rw [List.drop_eq_getElem_cons h]
 have e : z35 l (j + 1) = some l[j]:=by unfold z35; rw [if_neg (by omega),Nat.add_sub_cancel,List.getElem?_eq_getElem h]
 rw [e]
 cases z35 l j <;> rfl
theorem checkB_small (x : Int) (h0 : -600000000000000000 ≤ x) (h1 : x ≤ 600000000000000000) : z1b x = true:=by unfold z1b z3r; simp; omega
theorem z68 {a p : Int} (h : mayQ a p = true) : 1 ≤ p ∧ p ≤ 1048576:=by
 obtain ⟨h1,h2,_⟩:=z1u h
 exact ⟨h1,h2⟩
theorem rise113_any (v : Value) (l : List (Int × Int)) (w : World) (h : RatsRep w w.heap.size v l) (hi : ∀ s ∈ l,in64 s.1) (hz : l.length ≤ 200000) : Calls Tryz.prog 113 #[v] w fun e w' => e = .returned (.bool (z23 l)) ∧ Below w.heap.size w w':=by
 obtain ⟨sa,cap,rfl,hm,hc⟩:=h
 have HC0 : Hid (∀ j,j < l.length → ∃ g off,sa = some ⟨g,off,none⟩ ∧ g < w.heap.size ∧ ∀ i (h : i < l.length),w.cell? ⟨g,off + i * 2,none⟩ = some (.int .i64 l[i].1) ∧ w.cell? ⟨g,off + i * 2 + 1,none⟩ = some (.int .i64 l[i].2)):=by
  intro j hj
  rcases hc with hc | ⟨g,off,h1,h2,h3⟩
  ·rw [hc] at hj; simp at hj
  ·exact ⟨g,off,h1,h2,h3⟩
 have HI:=Jh hi
 have HZ:=Jh hz
 have HR0:=Jh (rise_none l)
 obtain ⟨R,hR⟩ : ∃ R,z23 l = R:=⟨_,rfl⟩
 rw [hR] at HR0 ⊢
 clear hc hi hz hm hR
 go_enter Tryz.func113,Tryz.ntmps113
 go_wp2_with fail
 go_loopw [3] (fun i wr => ∃ j : Nat,j ≤ l.length ∧ i = .int .i64 j ∧ Hid (R = riseG (z35 l j) (l.drop j)) ∧ Hid (∀ c,z35 l j = some c → mayP c = true) ∧ Below w.heap.size w wr) (fun i _ => l.length - (intOf i).toNat)
 case atStart => exact ⟨0,Nat.zero_le _,rfl,HR0,fun c hc => (by cases hc),Below.refl _ _⟩
 case round =>
  obtain ⟨j,hj,rfl,HRJ,HPJ,hbw⟩:=hrel
  by_cases hlt : j < l.length
  ·obtain ⟨g,off,rfl,hg,hcell⟩:=HC0.out j hlt
   have hgr : g < wr.heap.size:=Nat.lt_of_lt_of_le hg hbw.size
   have hlI : (j : Int) < (l.length : Int):=by omega
   have hj0 : (0 : Int) ≤ (j : Int):=by omega
   obtain ⟨⟨a,p⟩,hap⟩ : ∃ e,l[j] = e:=⟨_,rfl⟩
   have hia : in64 a:=by have:=HI.out _ (List.getElem_mem hlt); rw [hap] at this; exact this
   have hca:=hcell j hlt
   rw [hap] at hca
   have hra:=rise_step l j hlt
   rw [← HRJ.out,hap] at hra
   have HM:=fun W => Jh (z6k a p W hia)
   obtain ⟨my,hmy⟩ : ∃ z,mayQ a p = z:=⟨_,rfl⟩
   have hmy' : mayP (a,p) = my:=hmy
   rw [hmy] at HM
   rw [hmy'] at hra
   have vz : IntKind.i64.wrap ((j : Int) + 1) = (j : Int) + 1:=IntWalk.i64_in _ (by have:=HZ.out; omega)
   have vz' : wrap64 ((j : Int) + 1) = (j : Int) + 1:=IntWalk.wrap64_in _ (by have:=HZ.out; omega)
   have HBW:=Jh hbw
   have HG:=Jh hg
   cases my with
   | false =>
    have HE : Hid (R = false):=by rw [Hid,hra]; rfl
    have HF : Hid (∀ W,Below wr.heap.size wr W → W.cell? ⟨g,off + j * 2,none⟩ = some (.int .i64 a) ∧ W.cell? ⟨g,off + j * 2 + 1,none⟩ = some (.int .i64 p) ∧ g < W.heap.size):=fun W hW =>
     ⟨(hW.cell (p:=⟨g,_,none⟩) hgr).trans ((hbw.cell (p:=⟨g,_,none⟩) hg).trans hca.1),(hW.cell (p:=⟨g,_,none⟩) hgr).trans ((hbw.cell (p:=⟨g,_,none⟩) hg).trans hca.2),Nat.lt_of_lt_of_le hgr hW.size⟩
    clear hra hca hcell hmy hmy' hap hia hg hgr hbw HRJ HPJ
    go_upto_region 4 with fail
    refine wrd (by kernel_rfl) HF.out ((Below.refl wr.heap.size wr).drew) (fun hHeld => ?_)
    refine z00 (f:=19) (by kernel_rfl) (by assumption) [(0,true),(1,true),(2,true),(3,true)] rfl (by kernel_rfl) ?_
    repeat (refine SeqH.take (v:=?_) rfl (fun _ _ _ h => h) (by kernel_rfl) ?_ ?_; rotate_left; (· (intro w hSw; (try dsimp only at hSw); go_simp) <;> with_reducible rfl); (try simp only [Act.put,J1,J2,J3,J4,J5,J6]))
    refine SeqH.nil ?_
    refine Jr (rs:=[4]) (by kernel_rfl) (by simp) ?_
    refine Jd rfl (fun K hK => ?_) Je
    go_simp
    go_at_call 56
    refine (HM _).out.mono ?_
    rintro e wc ⟨rfl,hbc⟩
    have HBc : Hid (Below wr.heap.size wr wc):=belS ((Below.refl wr.heap.size wr).drew) hbc
    clear hbc
    try dsimp only
    refine hK.out _ _ (HF.out _ HBc.out) (fun hHeld => ?_)
    clear hK K
    try simp only [Act.put,J1,J2,J3,J4,J5,J6]
    refine z00 (f:=0) (by kernel_rfl) (by assumption) [(5,true),(6,true),(7,false),(8,false),(9,false),(10,false),(11,false),(12,false),(13,false),(14,false),(15,false),(16,false),(17,false),(18,false),(19,false),(20,false),(21,false),(22,true)] rfl (by kernel_rfl) ?_
    repeat (first | (refine SeqH.skip rfl (fun _ _ _ h => h) (by kernel_rfl) ?_; (try simp only [Act.put,J1,J2,J3,J4,J5,J6])) | (refine SeqH.take (v:=?_) rfl (fun _ _ _ h => h) (by kernel_rfl) ?_ ?_; rotate_left; (· (intro w hSw; (try dsimp only at hSw); go_simp) <;> with_reducible rfl); (try simp only [Act.put,J1,J2,J3,J4,J5,J6])))
    refine SeqH.nil ?_
    refine wpAnyH_done (by kernel_rfl) ?_ _
    clear hHeld
    go_wp2_with fail
    all_goals go_ret
    all_goals exact ⟨by rw [HE.out]; rfl,HBW.out.trans (HBc.out.mono HBW.out.size)⟩
   | true =>
    rcases j with _ | j
    ·have HE : Hid (R = riseG (z35 l 1) (l.drop 1)):=by rw [Hid,hra]; show (true && true && _) = _; rw [Bool.and_self,Bool.true_and]
     have HP1 : Hid (∀ c,z35 l 1 = some c → mayP c = true):=fun c hc => by
      unfold z35 at hc
      rw [if_neg (by omega),List.getElem?_eq_getElem (by omega)] at hc
      have : l[0] = c:=Option.some.inj hc
      rw [← this,hap]; exact hmy'
     have HF : Hid (∀ W,Below wr.heap.size wr W → W.cell? ⟨g,off,none⟩ = some (.int .i64 a) ∧ W.cell? ⟨g,off + 1,none⟩ = some (.int .i64 p) ∧ g < W.heap.size):=fun W hW =>
      ⟨(hW.cell (p:=⟨g,_,none⟩) hgr).trans ((hbw.cell (p:=⟨g,_,none⟩) hg).trans (by simpa using hca.1)),(hW.cell (p:=⟨g,_,none⟩) hgr).trans ((hbw.cell (p:=⟨g,_,none⟩) hg).trans (by simpa using hca.2)),Nat.lt_of_lt_of_le hgr hW.size⟩
     have hl0 : (0 : Int) < (l.length : Int):=by omega
     clear hra hca hcell hmy hmy' hap hia hg hgr hbw HRJ HPJ vz vz' hlI hj0
     go_upto_region 4 with fail
     refine wrd (by kernel_rfl) HF.out ((Below.refl wr.heap.size wr).drew) (fun hHeld => ?_)
     refine z00 (f:=19) (by kernel_rfl) (by assumption) [(0,true),(1,true),(2,true),(3,true)] rfl (by kernel_rfl) ?_
     repeat (refine SeqH.take (v:=?_) rfl (fun _ _ _ h => h) (by kernel_rfl) ?_ ?_; rotate_left; (· (intro w hSw; (try dsimp only at hSw); go_simp) <;> with_reducible rfl); (try simp only [Act.put,J1,J2,J3,J4,J5,J6]))
     refine SeqH.nil ?_
     refine Jr (rs:=[4]) (by kernel_rfl) (by simp) ?_
     refine Jd rfl (fun K hK => ?_) Je
     go_simp
     go_at_call 56
     refine (HM _).out.mono ?_
     rintro e wc ⟨rfl,hbc⟩
     have HBc : Hid (Below wr.heap.size wr wc):=belS ((Below.refl wr.heap.size wr).drew) hbc
     clear hbc
     try dsimp only
     refine hK.out _ _ (HF.out _ HBc.out) (fun hHeld => ?_)
     clear hK K
     try simp only [Act.put,J1,J2,J3,J4,J5,J6]
     refine z00 (f:=0) (by kernel_rfl) (by assumption) [(5,true),(6,true),(7,true),(8,true),(9,true),(10,false),(11,false),(12,false),(13,false),(14,false),(15,false),(16,false),(17,false),(18,false),(19,false),(20,false),(21,true),(22,true)] rfl (by kernel_rfl) ?_
     repeat (first | (refine SeqH.skip rfl (fun _ _ _ h => h) (by kernel_rfl) ?_; (try simp only [Act.put,J1,J2,J3,J4,J5,J6])) | (refine SeqH.take (v:=?_) rfl (fun _ _ _ h => h) (by kernel_rfl) ?_ ?_; rotate_left; (· (intro w hSw; (try dsimp only at hSw); go_simp) <;> with_reducible rfl); (try simp only [Act.put,J1,J2,J3,J4,J5,J6])))
     refine SeqH.nil ?_
     refine wpAnyH_done (by kernel_rfl) ?_ _
     clear hHeld
     go_wp2_with fail
     refine ⟨⟨1,by omega,rfl,HE,HP1,HBW.out.trans (HBc.out.mono HBW.out.size)⟩,?_⟩
     simp [intOf]; omega
    ·have hji : j < l.length:=by omega
     obtain ⟨⟨b,q⟩,hbq⟩ : ∃ e,l[j] = e:=⟨_,rfl⟩
     have hah : z35 l (j + 1) = some (b,q):=by unfold z35; rw [if_neg (by omega),Nat.add_sub_cancel,List.getElem?_eq_getElem hji,hbq]
     have hmb:=HPJ.out _ hah
     have hib : in64 b:=by have:=HI.out _ (List.getElem_mem hji); rw [hbq] at this; exact this
     have hcb:=hcell j hji
     rw [hbq] at hcb
     rw [hah] at hra
     obtain ⟨d1,d2⟩:=z68 hmy
     obtain ⟨d3,d4⟩:=z68 (p:=q) hmb
     have HC:=fun W => Jh (z0x W hib hia d3 d4 d1 d2)
     have hlt':=cmpR_lt (a:=(b,q)) (b:=(a,p)) (by show 0 < q; omega) (by show 0 < p; omega)
     obtain ⟨c,hcc⟩ : ∃ c,cmpR (b,q) (a,p) = c:=⟨_,rfl⟩
     rw [hcc] at HC hlt'
     have HP1 : Hid (∀ c,z35 l (j + 1 + 1) = some c → mayP c = true):=fun c hc => by
      unfold z35 at hc
      rw [if_neg (by omega),Nat.add_sub_cancel,List.getElem?_eq_getElem hlt] at hc
      have : l[j + 1] = c:=Option.some.inj hc
      rw [← this,hap]; exact hmy'
     have HF : Hid (∀ W,Below wr.heap.size wr W → W.cell? ⟨g,off + (j + 1) * 2,none⟩ = some (.int .i64 a) ∧ W.cell? ⟨g,off + (j + 1) * 2 + 1,none⟩ = some (.int .i64 p) ∧ W.cell? ⟨g,off + j * 2,none⟩ = some (.int .i64 b) ∧ W.cell? ⟨g,off + j * 2 + 1,none⟩ = some (.int .i64 q) ∧ g < W.heap.size):=fun W hW =>
      ⟨(hW.cell (p:=⟨g,_,none⟩) hgr).trans ((hbw.cell (p:=⟨g,_,none⟩) hg).trans hca.1),(hW.cell (p:=⟨g,_,none⟩) hgr).trans ((hbw.cell (p:=⟨g,_,none⟩) hg).trans hca.2),(hW.cell (p:=⟨g,_,none⟩) hgr).trans ((hbw.cell (p:=⟨g,_,none⟩) hg).trans hcb.1),(hW.cell (p:=⟨g,_,none⟩) hgr).trans ((hbw.cell (p:=⟨g,_,none⟩) hg).trans hcb.2),Nat.lt_of_lt_of_le hgr hW.size⟩
     have HRA:=Jh hra
     have HLT:=Jh hlt'
     have uz : IntKind.i64.wrap (((j + 1 : Nat) : Int) - 1) = (j : Int):=by rw [IntWalk.i64_in _ (by have:=HZ.out; omega)]; omega
     have uz' : wrap64 (((j + 1 : Nat) : Int) - 1) = (j : Int):=by rw [IntWalk.wrap64_in _ (by have:=HZ.out; omega)]; omega
     have hgz : (0 : Int) < ((j + 1 : Nat) : Int):=by omega
     have hjl : (j : Int) < (l.length : Int):=by omega
     have hjz : (0 : Int) ≤ (j : Int):=by omega
     obtain ⟨J,hJ⟩ : ∃ J : Int,((j + 1 : Nat) : Int) = J:=⟨_,rfl⟩
     have hJn : J.toNat = j + 1:=by omega
     have HJ:=Jh hJ
     clear hra hca hcb hcell hmy hmy' hap hbq hah hmb hia hib hg hgr hbw HRJ HPJ d1 d2 d3 d4 hlt' hcc
     rw [hJ] at vz vz' uz uz' hgz hlI hj0 ⊢
     clear hJ
     go_upto_region 4 with fail
     refine wrd (by kernel_rfl) HF.out ((Below.refl wr.heap.size wr).drew) (fun hHeld => ?_)
     refine z00 (f:=19) (by kernel_rfl) (by assumption) [(0,true),(1,true),(2,true),(3,true)] rfl (by kernel_rfl) ?_
     repeat (refine SeqH.take (v:=?_) rfl (fun _ _ _ h => h) (by kernel_rfl) ?_ ?_; rotate_left; (· (intro w hSw; (try dsimp only at hSw); go_simp) <;> with_reducible rfl); (try simp only [Act.put,J1,J2,J3,J4,J5,J6]))
     refine SeqH.nil ?_
     refine Jr (rs:=[4]) (by kernel_rfl) (by simp) ?_
     refine Jd rfl (fun K hK => ?_) Je
     go_simp
     go_at_call 56
     refine (HM _).out.mono ?_
     rintro e wc ⟨rfl,hbc⟩
     have HBc : Hid (Below wr.heap.size wr wc):=belS ((Below.refl wr.heap.size wr).drew) hbc
     clear hbc
     try dsimp only
     refine hK.out _ _ (HF.out _ HBc.out) (fun hHeld => ?_)
     clear hK K
     try simp only [Act.put,J1,J2,J3,J4,J5,J6]
     refine z00 (f:=4) (by kernel_rfl) (by assumption) [(5,true),(6,true),(7,true),(8,true),(9,true),(10,true),(11,true),(12,true),(13,true),(14,true),(15,true),(16,true),(17,true),(18,true)] rfl (by kernel_rfl) ?_
     repeat (refine SeqH.take (v:=?_) rfl (fun _ _ _ h => h) (by kernel_rfl) ?_ ?_; rotate_left; (· (intro w hSw; (try dsimp only at hSw); go_simp) <;> with_reducible rfl); (try simp only [Act.put,J1,J2,J3,J4,J5,J6]))
     refine SeqH.nil ?_
     refine Jr (rs:=[19]) (by kernel_rfl) (by simp) ?_
     refine Jd rfl (fun K hK => ?_) Je
     go_simp
     go_at_call 166
     refine (HC _).out.mono ?_
     rintro e wd ⟨rfl,hbd⟩
     have HBd : Hid (Below wr.heap.size wr wd):=belS (HBc.out) hbd
     clear hbd
     try dsimp only
     refine hK.out _ _ (HF.out _ HBd.out) (fun hHeld => ?_)
     clear hK K
     try simp only [Act.put,J1,J2,J3,J4,J5,J6]
     refine z00 (f:=0) (by kernel_rfl) (by assumption) [(20,true),(21,true),(22,true)] rfl (by kernel_rfl) ?_
     repeat (refine SeqH.take (v:=?_) rfl (fun _ _ _ h => h) (by kernel_rfl) ?_ ?_; rotate_left; (· (intro w hSw; (try dsimp only at hSw); go_simp) <;> with_reducible rfl); (try simp only [Act.put,J1,J2,J3,J4,J5,J6]))
     refine SeqH.nil ?_
     refine wpAnyH_done (by kernel_rfl) ?_ _
     clear hHeld
     by_cases h0 : 0 ≤ c
     ·have HE : Hid (R = false):=by
       have e : ltQ b q a p = false:=by
        unfold ltQ
        rw [decide_eq_false_iff_not]
        exact fun hh => by have:=HLT.out.2 hh; omega
       rw [Hid,HRA.out]
       show (true && ltQ b q a p && _) = false
       rw [e]; rfl
      go_wp2_with fail
      all_goals go_ret
      all_goals exact ⟨by rw [HE.out]; rfl,HBW.out.trans (HBd.out.mono HBW.out.size)⟩
     ·have HE : Hid (R = riseG (z35 l (j + 1 + 1)) (l.drop (j + 1 + 1))):=by
       have e : ltQ b q a p = true:=by
        unfold ltQ
        rw [decide_eq_true_eq]
        exact HLT.out.1 (by omega)
       rw [Hid,HRA.out]
       show (true && ltQ b q a p && _) = _
       rw [e]; rfl
      go_wp2_with fail
      refine ⟨⟨j + 1 + 1,by omega,by rw [← HJ.out]; rfl,HE,HP1,HBW.out.trans (HBd.out.mono HBW.out.size)⟩,?_⟩
      have:=HJ.out
      simp [intOf]; omega
  ·have hge : l.length ≤ j:=by omega
   have HE : Hid (R = true):=by rw [Hid,HRJ.out,List.drop_eq_nil_of_le hge]; cases z35 l j <;> rfl
   have hlI : ¬ (j : Int) < (l.length : Int):=by omega
   have HBW:=Jh hbw
   clear HRJ HPJ hge hbw hlt
   go_wp2_with fail
   all_goals go_ret
   all_goals exact ⟨by rw [HE.out]; rfl,HBW.out⟩
theorem lasts114_any (a p c q : Int) (lo hi : Int) (ls hs op : Bool) (w : World) (ha : mayQ a p = true) (hc : mayQ c q = true) (ia : in64 a) (ic : in64 c) (hlo : 0 ≤ lo ∧ lo < 288230376151711744) (hhi : 0 ≤ hi ∧ hi < 288230376151711744) :
 Calls Tryz.prog 114 #[.agg #[.int .i64 a,.int .i64 p],.agg #[.int .i64 c,.int .i64 q],.agg #[.int .i64 lo,.bool ls,.int .i64 hi,.bool hs,.bool op]] w fun e w' => e = .returned (.bool (z2k (a,p) (c,q) ⟨lo,ls,hi,hs,op⟩)) ∧ Below w.heap.size w w':=by
 obtain ⟨WB,hWWB⟩ : ∃ WB,WB = ((w.alloc (.cells #[.int .i64 a,.int .i64 p] 50)).alloc (.cells #[.int .i64 c,.int .i64 q] 50)).alloc (.cells #[.int .i64 lo,.bool ls,.int .i64 hi,.bool hs,.bool op] 45):=⟨_,rfl⟩
 have hbWB : Below w.heap.size w WB:=by rw [hWWB]; exact ((z0c _ _).alloc (by simp <;> omega) _).alloc (by simp <;> omega) _
 have hx0 : WB.heap[w.heap.size]? = some (.cells #[.int .i64 a,.int .i64 p] 50 (0,0)):=by rw [hWWB]; exact (Jb _ _ _ (by simp <;> omega)).trans ((Jb _ _ _ (by simp <;> omega)).trans (z03 rfl))
 have hx1 : WB.heap[w.heap.size + 1]? = some (.cells #[.int .i64 c,.int .i64 q] 50 (0,0)):=by rw [hWWB]; exact (Jb _ _ _ (by simp <;> omega)).trans (z03 (by simp))
 have hx2 : WB.heap[w.heap.size + 1 + 1]? = some (.cells #[.int .i64 lo,.bool ls,.int .i64 hi,.bool hs,.bool op] 45 (0,0)):=by rw [hWWB]; exact z03 (by simp)
 have HX : Hid (∀ W,Below WB.heap.size WB W → W.heap[w.heap.size]? = some (.cells #[.int .i64 a,.int .i64 p] 50 (0,0)) ∧ W.heap[w.heap.size + 1]? = some (.cells #[.int .i64 c,.int .i64 q] 50 (0,0)) ∧ W.heap[w.heap.size + 1 + 1]? = some (.cells #[.int .i64 lo,.bool ls,.int .i64 hi,.bool hs,.bool op] 45 (0,0))):=fun W hW => ⟨(hW.block _ (Array.getElem?_eq_some_iff.1 hx0).1).trans hx0,(hW.block _ (Array.getElem?_eq_some_iff.1 hx1).1).trans hx1,(hW.block _ (Array.getElem?_eq_some_iff.1 hx2).1).trans hx2⟩
 have HF : Hid (∀ W,Below WB.heap.size WB W → W.cell? ⟨w.heap.size,0,none⟩ = some (.int .i64 a) ∧ W.cell? ⟨w.heap.size,1,none⟩ = some (.int .i64 p) ∧ W.cell? ⟨w.heap.size + 1,0,none⟩ = some (.int .i64 c) ∧ W.cell? ⟨w.heap.size + 1,1,none⟩ = some (.int .i64 q) ∧ W.cell? ⟨w.heap.size + 1 + 1,0,none⟩ = some (.int .i64 lo) ∧ W.cell? ⟨w.heap.size + 1 + 1,1,none⟩ = some (.bool ls) ∧ W.cell? ⟨w.heap.size + 1 + 1,2,none⟩ = some (.int .i64 hi) ∧ W.cell? ⟨w.heap.size + 1 + 1,3,none⟩ = some (.bool hs) ∧ W.cell? ⟨w.heap.size + 1 + 1,4,none⟩ = some (.bool op) ∧ w.heap.size < W.heap.size ∧ w.heap.size + 1 < W.heap.size ∧ w.heap.size + 1 + 1 < W.heap.size):=by
  intro W hW
  obtain ⟨k0,k1,k2⟩:=HX.out W hW
  exact ⟨Jc k0 0,Jc k0 1,Jc k1 0,Jc k1 1,Jc k2 0,Jc k2 1,Jc k2 2,Jc k2 3,Jc k2 4,(Array.getElem?_eq_some_iff.1 k0).1,(Array.getElem?_eq_some_iff.1 k1).1,(Array.getElem?_eq_some_iff.1 k2).1⟩
 have HBB:=Jh hbWB
 have HWB:=Jh hWWB.symm
 clear hWWB hbWB hx0 hx1 hx2
 have HD : Hid (z2k (a,p) (c,q) ⟨lo,ls,hi,hs,op⟩ = (z0s a p c q (2 * (-lo) + if ls then 0 else 1) && (op || z0s c q a p (2 * hi + if hs then 0 else 1)))):=rfl
 have cB : ∀ x : Int,-600000000000000000 ≤ x → x ≤ 600000000000000000 → z1b x = true:=checkB_small
 have e1 : (2 * (-lo) : Int) = -2 * lo:=by omega
 rw [e1] at HD
 have HA:=fun (x : Int) (h : z1b x = true) W => Jh (z6o (a:=a) (p:=p) (b:=c) (q:=q) W ha hc h ia ic)
 have HC:=fun (x : Int) (h : z1b x = true) W => Jh (z6o (a:=c) (p:=q) (b:=a) (q:=p) W hc ha h ic ia)
 obtain ⟨L0,hL0⟩ : ∃ z : Int,-2 * lo = z:=⟨_,rfl⟩
 obtain ⟨H0,hH0⟩ : ∃ z : Int,2 * hi = z:=⟨_,rfl⟩
 rw [hL0,hH0] at HD
 have w1 : IntKind.i64.wrap (-2 * lo) = L0:=by rw [hL0]; exact IntWalk.i64_in _ (by omega)
 have w1' : wrap64 (-2 * lo) = L0:=by rw [hL0]; exact IntWalk.wrap64_in _ (by omega)
 have w2 : IntKind.i64.wrap (2 * hi) = H0:=by rw [hH0]; exact IntWalk.i64_in _ (by omega)
 have w2' : wrap64 (2 * hi) = H0:=by rw [hH0]; exact IntWalk.wrap64_in _ (by omega)
 have w3 : IntKind.i64.wrap (L0 + 1) = L0 + 1:=IntWalk.i64_in _ (by omega)
 have w3' : wrap64 (L0 + 1) = L0 + 1:=IntWalk.wrap64_in _ (by omega)
 have w4 : IntKind.i64.wrap (H0 + 1) = H0 + 1:=IntWalk.i64_in _ (by omega)
 have w4' : wrap64 (H0 + 1) = H0 + 1:=IntWalk.wrap64_in _ (by omega)
 have k1 : z1b L0 = true:=cB _ (by omega) (by omega)
 have k2 : z1b (L0 + 1) = true:=cB _ (by omega) (by omega)
 have k3 : z1b H0 = true:=cB _ (by omega) (by omega)
 have k4 : z1b (H0 + 1) = true:=cB _ (by omega) (by omega)
 have HL : Hid (∀ W,Calls Tryz.prog 169 #[.agg #[.int .i64 a,.int .i64 p],.agg #[.int .i64 c,.int .i64 q],.int .i64 (L0 + if ls then 0 else 1)] W fun e w' => e = .returned (.bool (z0s a p c q (L0 + if ls then 0 else 1))) ∧ Below W.heap.size W w'):=fun W => (HA _ (by cases ls <;> simp [k1,k2]) W).out
 have HH : Hid (∀ W,Calls Tryz.prog 169 #[.agg #[.int .i64 c,.int .i64 q],.agg #[.int .i64 a,.int .i64 p],.int .i64 (H0 + if hs then 0 else 1)] W fun e w' => e = .returned (.bool (z0s c q a p (H0 + if hs then 0 else 1))) ∧ Below W.heap.size W w'):=fun W => (HC _ (by cases hs <;> simp [k3,k4]) W).out
 rw [HD.out]
 obtain ⟨KA,hKA⟩ : ∃ z,z0s a p c q (L0 + if ls then 0 else 1) = z:=⟨_,rfl⟩
 obtain ⟨KB,hKB⟩ : ∃ z,z0s c q a p (H0 + if hs then 0 else 1) = z:=⟨_,rfl⟩
 rw [hKA] at HL ⊢
 rw [hKB] at HH ⊢
 clear HD cB e1 HA HC hL0 hH0 k1 k2 k3 k4 hKA hKB ha hc ia ic hlo hhi
 go_enter Tryz.func114,Tryz.ntmps114
 go_upto_region 1 with fail
 rw [HWB.out]
 clear HWB
 obtain ⟨xf0,xf1,xf2,xf3,xf4,xf5,xf6,xf7,xf8,xf9,xf10,xf11⟩:=HF.out WB (Below.refl _ _)
 cases ls
 all_goals simp only [Bool.false_eq_true,if_false,if_true,Int.add_zero] at HL
 all_goals cases hs
 all_goals simp only [Bool.false_eq_true,if_false,if_true,Int.add_zero] at HH
 all_goals (
  go_upto_region 15 with fail
  refine (HL.out _).mono ?_
  rintro e w1 ⟨rfl,hb1⟩
  have HB1:=Jh hb1
  clear hb1 xf0 xf1 xf2 xf3 xf4 xf5 xf6 xf7 xf8 xf9 xf10 xf11
  obtain ⟨xf0,xf1,xf2,xf3,xf4,xf5,xf6,xf7,xf8,xf9,xf10,xf11⟩:=HF.out w1 HB1.out
  cases KA
  ·go_wp2_with fail
   all_goals go_ret
   all_goals exact ⟨rfl,HBB.out.trans (HB1.out.mono HBB.out.size)⟩
  ·cases op
   ·go_upto_region 15 with fail
    refine (HH.out _).mono ?_
    rintro e w2 ⟨rfl,hb2⟩
    have HB2 : Hid (Below WB.heap.size WB w2):=belS HB1.out hb2
    clear hb2
    go_wp2_with fail
    all_goals go_ret
    all_goals exact ⟨by cases KB <;> rfl,HBB.out.trans (HB2.out.mono HBB.out.size)⟩
   ·go_wp2_with fail
    all_goals go_ret
    all_goals exact ⟨rfl,HBB.out.trans (HB1.out.mono HBB.out.size)⟩)
end Go.Proofs.YtockinpjfhhkoaaGreatDoor
