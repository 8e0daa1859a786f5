/- The document's proofs: an atom. (Printed by gen_teb.py.) -/
import Derived.Deep.RegionHeld
import Derived.Deep.Cut
import Derived.LoopTactic
import Derived.Test.YtockinpjfhhkoaaGreatDoorZ23
import Derived.Test.YtockinpjfhhkoaaGreatDoorZ35
import Derived.Test.YtockinpjfhhkoaaGreatDoorZ31
import Derived.Test.YtockinpjfhhkoaaGreatDoorZ22
import Derived.Test.YtockinpjfhhkoaaGreatDoorZ27
set_option maxRecDepth 100000
set_option maxHeartbeats 16000000
open List renaming setIfInBounds_toArray → J1, set_cons_zero → J2, set_cons_succ → J3, getElem_toArray → J4, getElem_cons_zero → J5, getElem_cons_succ → J6
open Go.Lib renaming cell_of_heap → Jc, hid → Jh
open Go.AllReadyH renaming cons → Jd, nil → Je
open Go renaming wpAnyH_ready → Jr
open Go.RowKit.Below renaming heap_alloc → Jb
namespace Go.Proofs.YtockinpjfhhkoaaGreatDoor
open Go.RowKit
theorem ltQ_cmp {a b : Int × Int} (ha : mayP a = true) (hb : mayP b = true) : ltQ a.1 a.2 b.1 b.2 = decide (cmpR a b < 0):=by
 have h:=cmpR_lt (z41 ha) (z41 hb)
 unfold ltQ
 rw [Bool.eq_iff_iff,decide_eq_true_eq,decide_eq_true_eq]
 exact h.symm
theorem ltQ_le {a b : Int × Int} (ha : mayP a = true) (hb : mayP b = true) : (!ltQ b.1 b.2 a.1 a.2) = decide (cmpR a b ≤ 0):=by
 have h:=cmpR_le (z41 ha) (z41 hb)
 unfold ltQ
 rw [Bool.eq_iff_iff,decide_eq_true_eq,Bool.not_eq_true',decide_eq_false_iff_not,h]
 omega
theorem sumG_take (l : List (Int × Int)) (k : Nat) (h : k < l.length) : sumG 0 (l.take (k + 1)) = sumG 0 (l.take k) + (l[k]).1:=sum_succ l k h
theorem atomOk_step (hold : Int → Bool) (t u : Int × Int) (at_ : Int) (l : List (Int × Int)) (k : Nat) (h : k < l.length) :
 z1r hold t u at_ (l.drop k) = (!(ltQ at_ 1 u.1 u.2 && ltQ t.1 t.2 (at_ + (l[k]).1) 1 && !hold (l[k]).2) && z1r hold t u (at_ + (l[k]).1) (l.drop (k + 1))):=by
 rw [List.drop_eq_getElem_cons h,z1r]
theorem atom112_any (names : List ByteArray) (nv : Value) (h8 : names.length ≤ 8) {n : Nat} (f : FT n) (fv lv : Value) (l : List (Int × Int)) (a p c q : Int) (w : World) (hn : NRep w w.heap.size nv names) (hf : FRep w w.heap.size n f fv) (hl : Segs w w.heap.size lv l)
 (r1 : allF z04 n f = true) (r2 : allF (z0g names) n f = true) (hs : SumOk l) (hlen : l.length ≤ 100000) (ht : mayP (a,p) = true) (hu : mayP (c,q) = true) (ia : in64 a) (ic : in64 c) :
 Calls Tryz.prog 112 #[nv,fv,lv,.agg #[.int .i64 a,.int .i64 p],.agg #[.int .i64 c,.int .i64 q]] w fun e w' => e = .returned (.bool (z5x (z0b names n f) l (a,p) (c,q))) ∧ Below w.heap.size w w':=by
 obtain ⟨fk,fs,fa,fl,fc,rfl⟩:=hf.shape
 obtain ⟨na,nc,rfl,_⟩:=id hn
 obtain ⟨la,lc,rfl,_,hlc,hr⟩:=id hl
 obtain ⟨WB,hWWB⟩ : ∃ WB,WB = ((w.alloc (.cells #[.int .u8 fk,.string fs,.slice fa fl fc] 25)).alloc (.cells #[.int .i64 a,.int .i64 p] 50)).alloc (.cells #[.int .i64 c,.int .i64 q] 50):=⟨_,rfl⟩
 have hbWB : Below w.heap.size w WB:=by rw [hWWB]; exact ((z0c _ _).alloc (by simp <;> omega) _).alloc (by simp <;> omega) _
 have hx0 : WB.heap[w.heap.size]? = some (.cells #[.int .u8 fk,.string fs,.slice fa fl fc] 25 (0,0)):=by rw [hWWB]; exact (Jb _ _ _ (by simp <;> omega)).trans ((Jb _ _ _ (by simp <;> omega)).trans (z03 rfl))
 have hx1 : WB.heap[w.heap.size + 1]? = some (.cells #[.int .i64 a,.int .i64 p] 50 (0,0)):=by rw [hWWB]; exact (Jb _ _ _ (by simp <;> omega)).trans (z03 (by simp))
 have hx2 : WB.heap[w.heap.size + 1 + 1]? = some (.cells #[.int .i64 c,.int .i64 q] 50 (0,0)):=by rw [hWWB]; exact z03 (by simp)
 have HX : Hid (∀ W,Below WB.heap.size WB W → W.heap[w.heap.size]? = some (.cells #[.int .u8 fk,.string fs,.slice fa fl fc] 25 (0,0)) ∧ W.heap[w.heap.size + 1]? = some (.cells #[.int .i64 a,.int .i64 p] 50 (0,0)) ∧ W.heap[w.heap.size + 1 + 1]? = some (.cells #[.int .i64 c,.int .i64 q] 50 (0,0))):=fun W hW => ⟨(hW.block _ (Array.getElem?_eq_some_iff.1 hx0).1).trans hx0,(hW.block _ (Array.getElem?_eq_some_iff.1 hx1).1).trans hx1,(hW.block _ (Array.getElem?_eq_some_iff.1 hx2).1).trans hx2⟩
 have HF : Hid (∀ W,Below WB.heap.size WB W → W.cell? ⟨w.heap.size,0,none⟩ = some (.int .u8 fk) ∧ W.cell? ⟨w.heap.size,1,none⟩ = some (.string fs) ∧ W.cell? ⟨w.heap.size,2,none⟩ = some (.slice fa fl fc) ∧ W.cell? ⟨w.heap.size + 1,0,none⟩ = some (.int .i64 a) ∧ W.cell? ⟨w.heap.size + 1,1,none⟩ = some (.int .i64 p) ∧ W.cell? ⟨w.heap.size + 1 + 1,0,none⟩ = some (.int .i64 c) ∧ W.cell? ⟨w.heap.size + 1 + 1,1,none⟩ = some (.int .i64 q) ∧ w.heap.size < W.heap.size ∧ w.heap.size + 1 < W.heap.size ∧ w.heap.size + 1 + 1 < W.heap.size):=by
  intro W hW
  obtain ⟨k0,k1,k2⟩:=HX.out W hW
  exact ⟨Jc k0 0,Jc k0 1,Jc k0 2,Jc k1 0,Jc k1 1,Jc k2 0,Jc k2 1,(Array.getElem?_eq_some_iff.1 k0).1,(Array.getElem?_eq_some_iff.1 k1).1,(Array.getElem?_eq_some_iff.1 k2).1⟩
 have HBB:=Jh hbWB
 have HWB:=Jh hWWB.symm
 clear hWWB hbWB hx0 hx1 hx2
 have HFZ : Hid (∀ W,Below WB.heap.size WB W → W.heap[w.heap.size + 1]? = some (.cells #[.int .i64 a,.int .i64 p] 50 (0,0)) ∧ W.heap[w.heap.size + 1 + 1]? = some (.cells #[.int .i64 c,.int .i64 q] 50 (0,0))):=fun W hW => ⟨(HX.out W hW).2.1,(HX.out W hW).2.2⟩
 have HSG : Hid (∀ k (hk : k < l.length) W,Below WB.heap.size WB W → ∃ g off,la = some ⟨g,off,none⟩ ∧ g < W.heap.size ∧ W.cell? ⟨g,off + k * 2,none⟩ = some (.int .i64 l[k].1) ∧ W.cell? ⟨g,off + k * 2 + 1,none⟩ = some (.int .u8 l[k].2)):=by
  intro k hk W hW
  rcases hlc with hlc | ⟨g,off,h1,h2,h3⟩
  ·rw [hlc] at hk; simp at hk
  ·have hb:=HBB.out.trans (hW.mono HBB.out.size)
   have h4:=h3 k hk
   rw [List.getElem?_eq_getElem hk] at h4
   exact ⟨g,off,h1,Nat.lt_of_lt_of_le h2 hb.size,(hb.cell (p:=⟨g,_,none⟩) h2).trans h4.1,(hb.cell (p:=⟨g,_,none⟩) h2).trans h4.2⟩
 have HON : Hid (∀ x,0 ≤ x → x ≤ 255 → ∀ W,Below WB.heap.size WB W → Calls Tryz.prog 92 #[.slice na names.length nc,.agg #[.int .u8 fk,.string fs,.slice fa fl fc],.int .u8 x] W fun e w' => e = .returned (.bool (z0b names n f x)) ∧ Below W.heap.size W w'):=fun x x0 x1 W hW =>
  on92_any names _ h8 x x0 x1 w hn n f _ W (FRep.up (HBB.out.trans (hW.mono HBB.out.size)) (HBB.out.trans (hW.mono HBB.out.size)).size hf) (HBB.out.trans (hW.mono HBB.out.size)) r1 r2
 have HRG : Hid (∀ k (hk : k < l.length),0 ≤ l[k].2 ∧ l[k].2 ≤ 255):=fun k hk => ⟨(hr _ (List.getElem_mem hk)).2.2.1,(hr _ (List.getElem_mem hk)).2.2.2⟩
 have HSU:=Jh hs
 have HLE:=Jh hlen
 obtain ⟨p1,p2⟩:=z68 (a:=a) (p:=p) ht
 obtain ⟨q1,q2⟩:=z68 (a:=c) (p:=q) hu
 have HTU:=fun W => Jh (z0x (a:=a) (p:=p) (b:=c) (q:=q) W ia ic p1 p2 q1 q2)
 have HWT : Hid (∀ x,in64 x → ∀ W,Calls Tryz.prog 166 #[.agg #[.int .i64 x,.int .i64 1],.agg #[.int .i64 a,.int .i64 p]] W fun e w' => e = .returned (.int .i64 (cmpR (x,1) (a,p))) ∧ Below W.heap.size W w'):=fun x hx W => z0x W hx ia (by decide) (by decide) p1 p2
 have HWU : Hid (∀ x,in64 x → ∀ W,Calls Tryz.prog 166 #[.agg #[.int .i64 x,.int .i64 1],.agg #[.int .i64 c,.int .i64 q]] W fun e w' => e = .returned (.int .i64 (cmpR (x,1) (c,q))) ∧ Below W.heap.size W w'):=fun x hx W => z0x W hx ic (by decide) (by decide) q1 q2
 have HTW : Hid (∀ x,in64 x → ∀ W,Calls Tryz.prog 166 #[.agg #[.int .i64 a,.int .i64 p],.agg #[.int .i64 x,.int .i64 1]] W fun e w' => e = .returned (.int .i64 (cmpR (a,p) (x,1))) ∧ Below W.heap.size W w'):=fun x hx W => z0x W ia hx p1 p2 (by decide) (by decide)
 have HUW : Hid (∀ x,in64 x → ∀ W,Calls Tryz.prog 166 #[.agg #[.int .i64 c,.int .i64 q],.agg #[.int .i64 x,.int .i64 1]] W fun e w' => e = .returned (.int .i64 (cmpR (c,q) (x,1))) ∧ Below W.heap.size W w'):=fun x hx W => z0x W ic hx q1 q2 (by decide) (by decide)
 have HMT:=Jh ht
 have HMU:=Jh hu
 obtain ⟨hold,hhold⟩ : ∃ g,z0b names n f = g:=⟨_,rfl⟩
 rw [hhold] at HON ⊢
 obtain ⟨R,hR⟩ : ∃ R,z5x hold l (a,p) (c,q) = R:=⟨_,rfl⟩
 have HR : Hid (R = (ltQ a p c q && !ltQ a p 0 1 && z1r hold (a,p) (c,q) 0 l && !ltQ (sumG 0 l) 1 c q)):=hR.symm
 rw [hR]
 have HC0 : Hid (decide (cmpR (a,p) (c,q) < 0) = ltQ a p c q):=(ltQ_cmp HMT.out HMU.out).symm
 have HC1 : Hid (decide (cmpR (0,1) (a,p) ≤ 0) = !ltQ a p 0 1):=(ltQ_le (a:=(0,1)) (b:=(a,p)) (z26 (by omega)) HMT.out).symm
 obtain ⟨cu,hcu⟩ : ∃ z,cmpR (a,p) (c,q) = z:=⟨_,rfl⟩
 obtain ⟨ct,hct⟩ : ∃ z,cmpR (0,1) (a,p) = z:=⟨_,rfl⟩
 have HT0:=fun W => Jh (HWT.out 0 ⟨by omega,by omega⟩ W)
 have HWH:=fun (x : Int) W => Jh (whole181_any x W)
 rw [hcu] at HTU HC0
 rw [hct] at HT0 HC1
 clear hn hf hl hlc hr r1 r2 hs hlen ht hu ia ic p1 p2 q1 q2 hhold hR hcu hct HX
 go_enter Tryz.func112,Tryz.ntmps112
 go_upto_region 1 with fail
 rw [HWB.out]
 clear HWB
 go_upto_region 2 with fail
 go_cut [12] from 16 (fun okv wx => ∃ o : Bool,okv = .bool o ∧ Hid (R = (o && z1r hold (a,p) (c,q) 0 (l.drop 0) && !ltQ (sumG 0 l) 1 c q)) ∧ Hid (Below WB.heap.size WB wx))
 case first =>
  by_cases n0 : cu < 0
  rotate_left
  ·have HE0 : Hid (R = (false && z1r hold (a,p) (c,q) 0 (l.drop 0) && !ltQ (sumG 0 l) 1 c q)):=by rw [Hid,HR.out,← HC0.out,decide_eq_false n0]; rfl
   have d0 : decide (cu < 0) = false:=decide_eq_false n0
   clear n0 HR HC0 HC1
   refine wrd (by kernel_rfl) HF.out ((Below.refl WB.heap.size WB).drew) (fun hHeld => ?_)
   refine z00 (f:=9) (by kernel_rfl) (by assumption) [(0,true),(1,true)] rfl (by kernel_rfl) ?_
   repeat (refine SeqH.take (v:=?_) rfl (fun _ _ _ h => h) (by kernel_rfl) ?_ ?_; rotate_left; (· (intro w hSw; (try dsimp only at hSw); go_simp) <;> with_reducible rfl); (try simp only [Act.put,J1,J2,J3,J4,J5,J6]))
   refine SeqH.nil ?_
   refine Jr (rs:=[2]) (by kernel_rfl) (by simp) ?_
   refine Jd rfl (fun K hK => ?_) Je
   go_simp
   go_at_call 166
   refine (HTU _).out.mono ?_
   rintro e wc ⟨rfl,hbc⟩
   have HBc : Hid (Below WB.heap.size WB wc):=belS ((Below.refl WB.heap.size WB).drew) hbc
   clear hbc
   try dsimp only
   refine hK.out _ _ (HF.out _ HBc.out) (fun hHeld => ?_)
   clear hK K
   try simp only [Act.put,J1,J2,J3,J4,J5,J6]
   refine z00 (f:=0) (by kernel_rfl) (by assumption) [(3,true),(4,true),(6,false),(5,false),(7,false),(8,false),(9,true),(10,true)] rfl (by kernel_rfl) ?_
   repeat (first | (refine SeqH.skip rfl (fun _ _ _ h => h) (by kernel_rfl) ?_; (try simp only [Act.put,J1,J2,J3,J4,J5,J6])) | (refine SeqH.take (v:=?_) rfl (fun _ _ _ h => h) (by kernel_rfl) ?_ ?_; rotate_left; (· (intro w hSw; (try dsimp only at hSw); go_simp) <;> with_reducible rfl); (try simp only [Act.put,J1,J2,J3,J4,J5,J6])))
   refine SeqH.nil ?_
   refine wpAnyH_done (by kernel_rfl) ?_ _
   clear hHeld
   go_wp2_with fail
   go_meet
   exact ⟨false,rfl,HE0,HBc⟩
  ·have HE0 : Hid (R = (decide (ct ≤ 0) && z1r hold (a,p) (c,q) 0 (l.drop 0) && !ltQ (sumG 0 l) 1 c q)):=by rw [Hid,HR.out,← HC0.out,← HC1.out,decide_eq_true n0]; rfl
   have d0 : decide (cu < 0) = true:=decide_eq_true n0
   clear n0 HR HC0 HC1
   refine wrd (by kernel_rfl) HF.out ((Below.refl WB.heap.size WB).drew) (fun hHeld => ?_)
   refine z00 (f:=9) (by kernel_rfl) (by assumption) [(0,true),(1,true)] rfl (by kernel_rfl) ?_
   repeat (refine SeqH.take (v:=?_) rfl (fun _ _ _ h => h) (by kernel_rfl) ?_ ?_; rotate_left; (· (intro w hSw; (try dsimp only at hSw); go_simp) <;> with_reducible rfl); (try simp only [Act.put,J1,J2,J3,J4,J5,J6]))
   refine SeqH.nil ?_
   refine Jr (rs:=[2]) (by kernel_rfl) (by simp) ?_
   refine Jd rfl (fun K hK => ?_) Je
   go_simp
   go_at_call 166
   refine (HTU _).out.mono ?_
   rintro e wc ⟨rfl,hbc⟩
   have HBc : Hid (Below WB.heap.size WB wc):=belS ((Below.refl WB.heap.size WB).drew) hbc
   clear hbc
   try dsimp only
   refine hK.out _ _ (HF.out _ HBc.out) (fun hHeld => ?_)
   clear hK K
   try simp only [Act.put,J1,J2,J3,J4,J5,J6]
   refine z00 (f:=5) (by kernel_rfl) (by assumption) [(3,true),(4,true),(6,true)] rfl (by kernel_rfl) ?_
   repeat (refine SeqH.take (v:=?_) rfl (fun _ _ _ h => h) (by kernel_rfl) ?_ ?_; rotate_left; (· (intro w hSw; (try dsimp only at hSw); go_simp) <;> with_reducible rfl); (try simp only [Act.put,J1,J2,J3,J4,J5,J6]))
   refine SeqH.nil ?_
   refine Jr (rs:=[5]) (by kernel_rfl) (by simp) ?_
   refine Jd rfl (fun K hK => ?_) Je
   go_simp
   go_at_call 181
   refine (HWH 0 _).out.mono ?_
   rintro e wd ⟨rfl,hbd⟩
   have HBd : Hid (Below WB.heap.size WB wd):=belS (HBc.out) hbd
   clear hbd
   try dsimp only
   refine hK.out _ _ (HF.out _ HBd.out) (fun hHeld => ?_)
   clear hK K
   try simp only [Act.put,J1,J2,J3,J4,J5,J6]
   refine Jr (rs:=[7]) (by kernel_rfl) (by simp) ?_
   refine Jd rfl (fun K hK => ?_) Je
   go_simp
   go_at_call 166
   refine (HT0 _).out.mono ?_
   rintro e we ⟨rfl,hbe⟩
   have HBe : Hid (Below WB.heap.size WB we):=belS (HBd.out) hbe
   clear hbe
   try dsimp only
   refine hK.out _ _ (HF.out _ HBe.out) (fun hHeld => ?_)
   clear hK K
   try simp only [Act.put,J1,J2,J3,J4,J5,J6]
   refine z00 (f:=0) (by kernel_rfl) (by assumption) [(8,true),(9,true),(10,true)] rfl (by kernel_rfl) ?_
   repeat (refine SeqH.take (v:=?_) rfl (fun _ _ _ h => h) (by kernel_rfl) ?_ ?_; rotate_left; (· (intro w hSw; (try dsimp only at hSw); go_simp) <;> with_reducible rfl); (try simp only [Act.put,J1,J2,J3,J4,J5,J6]))
   refine SeqH.nil ?_
   refine wpAnyH_done (by kernel_rfl) ?_ _
   clear hHeld
   go_wp2_with fail
   go_meet
   exact ⟨decide (ct ≤ 0),rfl,HE0,HBe⟩
 case rest =>
  obtain ⟨o0,rfl,HE0,HBZ⟩:=hcut
  clear HR HC0 HC1 HTU HT0
  go_wp2_with fail
  go_loopw [11,12,13] (fun atv okv iv wr => ∃ (k : Nat) (o : Bool) (at_ : Int),k ≤ l.length ∧ iv = .int .i64 k ∧ okv = .bool o ∧ atv = .int .i64 at_ ∧ Hid (at_ = sumG 0 (l.take k)) ∧ Hid (R = (o && z1r hold (a,p) (c,q) at_ (l.drop k) && !ltQ (sumG 0 l) 1 c q)) ∧ Hid (Below WB.heap.size WB wr)) (fun _ _ iv _ => l.length - (intOf iv).toNat)
  case atStart => exact ⟨0,o0,0,Nat.zero_le _,rfl,rfl,rfl,rfl,HE0,HBZ⟩
  case round =>
   obtain ⟨k,o,at_,hk,rfl,rfl,rfl,HAT,HRK,HBR⟩:=hrel
   by_cases hlt : k < l.length
   ·obtain ⟨g,off,rfl,hg,hc0,hc1⟩:=HSG.out k hlt _ HBR.out
    obtain ⟨⟨y,z⟩,hyz⟩ : ∃ e,l[k] = e:=⟨_,rfl⟩
    have hrg:=HRG.out k hlt
    have hsk:=HSU.out k (by omega)
    have hsk1:=HSU.out (k + 1) (by omega)
    have hst:=atomOk_step hold (a,p) (c,q) at_ l k hlt
    have hsum:=sumG_take l k hlt
    rw [hyz] at hc0 hc1 hrg hst hsum
    dsimp only at hc0 hc1 hrg hst hsum
    rw [← HAT.out] at hsk hsum
    obtain ⟨at2,hat2⟩ : ∃ x,at_ + y = x:=⟨_,rfl⟩
    rw [hat2] at hst hsum
    rw [hsum] at hsk1
    obtain ⟨v1,v2,v3,v4,i1,i2,hk0,hkI⟩:=seg_round hsk hat2 hsk1 hlt (by have:=HLE.out; omega)
    have hm1 : mayP (at_,1) = true:=z26 (by omega)
    have hm2 : mayP (at2,1) = true:=z26 (by omega)
    have q1:=ltQ_cmp hm1 HMU.out
    have q2:=ltQ_cmp HMT.out hm2
    have HM1:=fun W => Jh (HWU.out at_ i1 W)
    have HM2:=fun W => Jh (HTW.out at2 i2 W)
    obtain ⟨m1,hm1'⟩ : ∃ x,cmpR (at_,1) (c,q) = x:=⟨_,rfl⟩
    obtain ⟨m2,hm2'⟩ : ∃ x,cmpR (a,p) (at2,1) = x:=⟨_,rfl⟩
    rw [hm1'] at HM1 q1
    rw [hm2'] at HM2 q2
    dsimp only at q1 q2
    rw [q1,q2] at hst
    have HST : Hid (R = (o && (!(decide (m1 < 0) && decide (m2 < 0) && !hold z) && z1r hold (a,p) (c,q) at2 (l.drop (k + 1))) && !ltQ (sumG 0 l) 1 c q)):=by rw [Hid,HRK.out,hst]
    have HA2 : Hid (at2 = sumG 0 (l.take (k + 1))):=hsum.symm
    have HF2 : Hid (∀ W,Below WB.heap.size WB W → W.cell? ⟨w.heap.size,0,none⟩ = some (.int .u8 fk) ∧ W.cell? ⟨w.heap.size,1,none⟩ = some (.string fs) ∧ W.cell? ⟨w.heap.size,2,none⟩ = some (.slice fa fl fc) ∧ W.cell? ⟨w.heap.size + 1,0,none⟩ = some (.int .i64 a) ∧ W.cell? ⟨w.heap.size + 1,1,none⟩ = some (.int .i64 p) ∧ W.cell? ⟨w.heap.size + 1 + 1,0,none⟩ = some (.int .i64 c) ∧ W.cell? ⟨w.heap.size + 1 + 1,1,none⟩ = some (.int .i64 q) ∧ w.heap.size < W.heap.size ∧ w.heap.size + 1 < W.heap.size ∧ w.heap.size + 1 + 1 < W.heap.size ∧ W.cell? ⟨g,off + k * 2,none⟩ = some (.int .i64 y) ∧ W.cell? ⟨g,off + k * 2 + 1,none⟩ = some (.int .u8 z) ∧ g < W.heap.size):=fun W hW => by
     obtain ⟨g',off',e,k1,k2,k3⟩:=HSG.out k hlt W hW
     have e2 : g = g' ∧ off = off':=by simpa using e
     obtain ⟨rfl,rfl⟩:=e2
     rw [hyz] at k2 k3
     have hB:=HF.out W hW
     obtain ⟨xf0,xf1,xf2,xf3,xf4,xf5,xf6,xf7,xf8,xf9⟩:=hB
     exact ⟨xf0,xf1,xf2,xf3,xf4,xf5,xf6,xf7,xf8,xf9,k2,k3,k1⟩
    have HHZ : Hid (∀ W,Below WB.heap.size WB W → Calls Tryz.prog 92 #[.slice na names.length nc,.agg #[.int .u8 fk,.string fs,.slice fa fl fc],.int .u8 z] W fun e w' => e = .returned (.bool (hold z)) ∧ Below W.heap.size W w'):=fun W hW => HON.out z hrg.1 hrg.2 W hW
    obtain ⟨hz,hhz⟩ : ∃ x,hold z = x:=⟨_,rfl⟩
    rw [hhz] at HST HHZ
    clear hc0 hc1 hrg hst hsum hsk hsk1 hat2 hm1 hm2 q1 q2 hm1' hm2' HRK HAT hyz hg i1 i2 hhz
    obtain ⟨xf0,xf1,xf2,xf3,xf4,xf5,xf6,xf7,xf8,xf9,sg0,sg1,sg2⟩:=HF2.out _ HBR.out
    go_upto_region 7 with fail
    clear xf0 xf1 xf2 xf3 xf4 xf5 xf6 xf7 xf8 xf9 sg0 sg1 sg2
    by_cases n1 : m1 < 0
    ·by_cases n2 : m2 < 0
     ·cases hz with
      | false =>
       refine wrd (by kernel_rfl) HF.out ((HBR.out).drew) (fun hHeld => ?_)
       refine z00 (f:=11) (by kernel_rfl) (by assumption) [(0,true),(2,true)] rfl (by kernel_rfl) ?_
       repeat (refine SeqH.take (v:=?_) rfl (fun _ _ _ h => h) (by kernel_rfl) ?_ ?_; rotate_left; (· (intro w hSw; (try dsimp only at hSw); go_simp) <;> with_reducible rfl); (try simp only [Act.put,J1,J2,J3,J4,J5,J6]))
       refine SeqH.nil ?_
       refine Jr (rs:=[1]) (by kernel_rfl) (by simp) ?_
       refine Jd rfl (fun K hK => ?_) Je
       go_simp
       go_at_call 181
       refine (HWH _ _).out.mono ?_
       rintro e wf ⟨rfl,hbf⟩
       have HBf : Hid (Below WB.heap.size WB wf):=belS ((HBR.out).drew) hbf
       clear hbf
       try dsimp only
       refine hK.out _ _ (HF.out _ HBf.out) (fun hHeld => ?_)
       clear hK K
       try simp only [Act.put,J1,J2,J3,J4,J5,J6]
       refine Jr (rs:=[3]) (by kernel_rfl) (by simp) ?_
       refine Jd rfl (fun K hK => ?_) Je
       go_simp
       go_at_call 166
       refine (HM1 _).out.mono ?_
       rintro e wg1 ⟨rfl,hbg1⟩
       have HBg1 : Hid (Below WB.heap.size WB wg1):=belS (HBf.out) hbg1
       clear hbg1
       try dsimp only
       refine hK.out _ _ (HF.out _ HBg1.out) (fun hHeld => ?_)
       clear hK K
       try simp only [Act.put,J1,J2,J3,J4,J5,J6]
       refine z00 (f:=5) (by kernel_rfl) (by assumption) [(4,true),(5,true),(6,true),(7,true)] rfl (by kernel_rfl) ?_
       repeat (refine SeqH.take (v:=?_) rfl (fun _ _ _ h => h) (by kernel_rfl) ?_ ?_; rotate_left; (· (intro w hSw; (try dsimp only at hSw); go_simp) <;> with_reducible rfl); (try simp only [Act.put,J1,J2,J3,J4,J5,J6]))
       refine SeqH.nil ?_
       refine Jr (rs:=[8]) (by kernel_rfl) (by simp) ?_
       refine Jd rfl (fun K hK => ?_) Je
       go_simp
       go_at_call 181
       refine (HWH _ _).out.mono ?_
       rintro e wg2 ⟨rfl,hbg2⟩
       have HBg2 : Hid (Below WB.heap.size WB wg2):=belS (HBg1.out) hbg2
       clear hbg2
       try dsimp only
       refine hK.out _ _ (HF.out _ HBg2.out) (fun hHeld => ?_)
       clear hK K
       try simp only [Act.put,J1,J2,J3,J4,J5,J6]
       refine Jr (rs:=[9]) (by kernel_rfl) (by simp) ?_
       refine Jd rfl (fun K hK => ?_) Je
       go_simp
       go_at_call 166
       refine (HM2 _).out.mono ?_
       rintro e wg3 ⟨rfl,hbg3⟩
       have HBg3 : Hid (Below WB.heap.size WB wg3):=belS (HBg2.out) hbg3
       clear hbg3
       try dsimp only
       refine hK.out _ _ (HF.out _ HBg3.out) (fun hHeld => ?_)
       clear hK K
       try simp only [Act.put,J1,J2,J3,J4,J5,J6]
       refine z00 (f:=0) (by kernel_rfl) (by assumption) [(10,true),(11,true),(12,true)] rfl (by kernel_rfl) ?_
       repeat (refine SeqH.take (v:=?_) rfl (fun _ _ _ h => h) (by kernel_rfl) ?_ ?_; rotate_left; (· (intro w hSw; (try dsimp only at hSw); go_simp) <;> with_reducible rfl); (try simp only [Act.put,J1,J2,J3,J4,J5,J6]))
       refine SeqH.nil ?_
       refine wpAnyH_done (by kernel_rfl) ?_ _
       clear hHeld
       go_upto_region 8 with fail
       refine wrd (by kernel_rfl) HF2.out ((HBg3.out).drew) (fun hHeld => ?_)
       refine z00 (f:=3) (by kernel_rfl) (by assumption) [(0,true),(1,true),(2,true),(3,true),(4,true),(5,true),(6,true),(7,true),(8,true)] rfl (by kernel_rfl) ?_
       repeat (refine SeqH.take (v:=?_) rfl (fun _ _ _ h => h) (by kernel_rfl) ?_ ?_; rotate_left; (· (intro w hSw; (try dsimp only at hSw); go_simp) <;> with_reducible rfl); (try simp only [Act.put,J1,J2,J3,J4,J5,J6]))
       refine SeqH.nil ?_
       refine Jr (rs:=[9]) (by kernel_rfl) (by simp) ?_
       refine Jd rfl (fun K hK => ?_) Je
       go_simp
       go_at_call 92
       refine (HHZ.out _ (HBg3.out).drew).mono ?_
       rintro e wh ⟨rfl,hbh⟩
       have HBh : Hid (Below WB.heap.size WB wh):=belS ((HBg3.out).drew) hbh
       clear hbh
       try dsimp only
       refine hK.out _ _ (HF2.out _ HBh.out) (fun hHeld => ?_)
       clear hK K
       try simp only [Act.put,J1,J2,J3,J4,J5,J6]
       refine z00 (f:=0) (by kernel_rfl) (by assumption) [(10,true),(11,true)] rfl (by kernel_rfl) ?_
       repeat (refine SeqH.take (v:=?_) rfl (fun _ _ _ h => h) (by kernel_rfl) ?_ ?_; rotate_left; (· (intro w hSw; (try dsimp only at hSw); go_simp) <;> with_reducible rfl); (try simp only [Act.put,J1,J2,J3,J4,J5,J6]))
       refine SeqH.nil ?_
       refine wpAnyH_done (by kernel_rfl) ?_ _
       clear hHeld
       go_wp2_with fail
       refine ⟨⟨k + 1,false,at2,by omega,by push_cast; rfl,rfl,rfl,HA2,?_,HBh⟩,meas hlt⟩
       rw [Hid,HST.out]
       rw [decide_eq_true n1,decide_eq_true n2]
       show (o && false && _) = (false && _ && _)
       rw [Bool.and_false]; rfl
      | true =>
       refine wrd (by kernel_rfl) HF.out ((HBR.out).drew) (fun hHeld => ?_)
       refine z00 (f:=11) (by kernel_rfl) (by assumption) [(0,true),(2,true)] rfl (by kernel_rfl) ?_
       repeat (refine SeqH.take (v:=?_) rfl (fun _ _ _ h => h) (by kernel_rfl) ?_ ?_; rotate_left; (· (intro w hSw; (try dsimp only at hSw); go_simp) <;> with_reducible rfl); (try simp only [Act.put,J1,J2,J3,J4,J5,J6]))
       refine SeqH.nil ?_
       refine Jr (rs:=[1]) (by kernel_rfl) (by simp) ?_
       refine Jd rfl (fun K hK => ?_) Je
       go_simp
       go_at_call 181
       refine (HWH _ _).out.mono ?_
       rintro e wf ⟨rfl,hbf⟩
       have HBf : Hid (Below WB.heap.size WB wf):=belS ((HBR.out).drew) hbf
       clear hbf
       try dsimp only
       refine hK.out _ _ (HF.out _ HBf.out) (fun hHeld => ?_)
       clear hK K
       try simp only [Act.put,J1,J2,J3,J4,J5,J6]
       refine Jr (rs:=[3]) (by kernel_rfl) (by simp) ?_
       refine Jd rfl (fun K hK => ?_) Je
       go_simp
       go_at_call 166
       refine (HM1 _).out.mono ?_
       rintro e wg1 ⟨rfl,hbg1⟩
       have HBg1 : Hid (Below WB.heap.size WB wg1):=belS (HBf.out) hbg1
       clear hbg1
       try dsimp only
       refine hK.out _ _ (HF.out _ HBg1.out) (fun hHeld => ?_)
       clear hK K
       try simp only [Act.put,J1,J2,J3,J4,J5,J6]
       refine z00 (f:=5) (by kernel_rfl) (by assumption) [(4,true),(5,true),(6,true),(7,true)] rfl (by kernel_rfl) ?_
       repeat (refine SeqH.take (v:=?_) rfl (fun _ _ _ h => h) (by kernel_rfl) ?_ ?_; rotate_left; (· (intro w hSw; (try dsimp only at hSw); go_simp) <;> with_reducible rfl); (try simp only [Act.put,J1,J2,J3,J4,J5,J6]))
       refine SeqH.nil ?_
       refine Jr (rs:=[8]) (by kernel_rfl) (by simp) ?_
       refine Jd rfl (fun K hK => ?_) Je
       go_simp
       go_at_call 181
       refine (HWH _ _).out.mono ?_
       rintro e wg2 ⟨rfl,hbg2⟩
       have HBg2 : Hid (Below WB.heap.size WB wg2):=belS (HBg1.out) hbg2
       clear hbg2
       try dsimp only
       refine hK.out _ _ (HF.out _ HBg2.out) (fun hHeld => ?_)
       clear hK K
       try simp only [Act.put,J1,J2,J3,J4,J5,J6]
       refine Jr (rs:=[9]) (by kernel_rfl) (by simp) ?_
       refine Jd rfl (fun K hK => ?_) Je
       go_simp
       go_at_call 166
       refine (HM2 _).out.mono ?_
       rintro e wg3 ⟨rfl,hbg3⟩
       have HBg3 : Hid (Below WB.heap.size WB wg3):=belS (HBg2.out) hbg3
       clear hbg3
       try dsimp only
       refine hK.out _ _ (HF.out _ HBg3.out) (fun hHeld => ?_)
       clear hK K
       try simp only [Act.put,J1,J2,J3,J4,J5,J6]
       refine z00 (f:=0) (by kernel_rfl) (by assumption) [(10,true),(11,true),(12,true)] rfl (by kernel_rfl) ?_
       repeat (refine SeqH.take (v:=?_) rfl (fun _ _ _ h => h) (by kernel_rfl) ?_ ?_; rotate_left; (· (intro w hSw; (try dsimp only at hSw); go_simp) <;> with_reducible rfl); (try simp only [Act.put,J1,J2,J3,J4,J5,J6]))
       refine SeqH.nil ?_
       refine wpAnyH_done (by kernel_rfl) ?_ _
       clear hHeld
       go_upto_region 8 with fail
       refine wrd (by kernel_rfl) HF2.out ((HBg3.out).drew) (fun hHeld => ?_)
       refine z00 (f:=3) (by kernel_rfl) (by assumption) [(0,true),(1,true),(2,true),(3,true),(4,true),(5,true),(6,true),(7,true),(8,true)] rfl (by kernel_rfl) ?_
       repeat (refine SeqH.take (v:=?_) rfl (fun _ _ _ h => h) (by kernel_rfl) ?_ ?_; rotate_left; (· (intro w hSw; (try dsimp only at hSw); go_simp) <;> with_reducible rfl); (try simp only [Act.put,J1,J2,J3,J4,J5,J6]))
       refine SeqH.nil ?_
       refine Jr (rs:=[9]) (by kernel_rfl) (by simp) ?_
       refine Jd rfl (fun K hK => ?_) Je
       go_simp
       go_at_call 92
       refine (HHZ.out _ (HBg3.out).drew).mono ?_
       rintro e wh ⟨rfl,hbh⟩
       have HBh : Hid (Below WB.heap.size WB wh):=belS ((HBg3.out).drew) hbh
       clear hbh
       try dsimp only
       refine hK.out _ _ (HF2.out _ HBh.out) (fun hHeld => ?_)
       clear hK K
       try simp only [Act.put,J1,J2,J3,J4,J5,J6]
       refine z00 (f:=0) (by kernel_rfl) (by assumption) [(10,true),(11,true)] rfl (by kernel_rfl) ?_
       repeat (refine SeqH.take (v:=?_) rfl (fun _ _ _ h => h) (by kernel_rfl) ?_ ?_; rotate_left; (· (intro w hSw; (try dsimp only at hSw); go_simp) <;> with_reducible rfl); (try simp only [Act.put,J1,J2,J3,J4,J5,J6]))
       refine SeqH.nil ?_
       refine wpAnyH_done (by kernel_rfl) ?_ _
       clear hHeld
       go_wp2_with fail
       refine ⟨⟨k + 1,o,at2,by omega,by push_cast; rfl,rfl,rfl,HA2,?_,HBh⟩,meas hlt⟩
       rw [Hid,HST.out]
       rw [decide_eq_true n1,decide_eq_true n2]
       show (o && (true && _) && _) = _
       rw [Bool.true_and]
     ·skip
      refine wrd (by kernel_rfl) HF.out ((HBR.out).drew) (fun hHeld => ?_)
      refine z00 (f:=11) (by kernel_rfl) (by assumption) [(0,true),(2,true)] rfl (by kernel_rfl) ?_
      repeat (refine SeqH.take (v:=?_) rfl (fun _ _ _ h => h) (by kernel_rfl) ?_ ?_; rotate_left; (· (intro w hSw; (try dsimp only at hSw); go_simp) <;> with_reducible rfl); (try simp only [Act.put,J1,J2,J3,J4,J5,J6]))
      refine SeqH.nil ?_
      refine Jr (rs:=[1]) (by kernel_rfl) (by simp) ?_
      refine Jd rfl (fun K hK => ?_) Je
      go_simp
      go_at_call 181
      refine (HWH _ _).out.mono ?_
      rintro e wf ⟨rfl,hbf⟩
      have HBf : Hid (Below WB.heap.size WB wf):=belS ((HBR.out).drew) hbf
      clear hbf
      try dsimp only
      refine hK.out _ _ (HF.out _ HBf.out) (fun hHeld => ?_)
      clear hK K
      try simp only [Act.put,J1,J2,J3,J4,J5,J6]
      refine Jr (rs:=[3]) (by kernel_rfl) (by simp) ?_
      refine Jd rfl (fun K hK => ?_) Je
      go_simp
      go_at_call 166
      refine (HM1 _).out.mono ?_
      rintro e wg1 ⟨rfl,hbg1⟩
      have HBg1 : Hid (Below WB.heap.size WB wg1):=belS (HBf.out) hbg1
      clear hbg1
      try dsimp only
      refine hK.out _ _ (HF.out _ HBg1.out) (fun hHeld => ?_)
      clear hK K
      try simp only [Act.put,J1,J2,J3,J4,J5,J6]
      refine z00 (f:=5) (by kernel_rfl) (by assumption) [(4,true),(5,true),(6,true),(7,true)] rfl (by kernel_rfl) ?_
      repeat (refine SeqH.take (v:=?_) rfl (fun _ _ _ h => h) (by kernel_rfl) ?_ ?_; rotate_left; (· (intro w hSw; (try dsimp only at hSw); go_simp) <;> with_reducible rfl); (try simp only [Act.put,J1,J2,J3,J4,J5,J6]))
      refine SeqH.nil ?_
      refine Jr (rs:=[8]) (by kernel_rfl) (by simp) ?_
      refine Jd rfl (fun K hK => ?_) Je
      go_simp
      go_at_call 181
      refine (HWH _ _).out.mono ?_
      rintro e wg2 ⟨rfl,hbg2⟩
      have HBg2 : Hid (Below WB.heap.size WB wg2):=belS (HBg1.out) hbg2
      clear hbg2
      try dsimp only
      refine hK.out _ _ (HF.out _ HBg2.out) (fun hHeld => ?_)
      clear hK K
      try simp only [Act.put,J1,J2,J3,J4,J5,J6]
      refine Jr (rs:=[9]) (by kernel_rfl) (by simp) ?_
      refine Jd rfl (fun K hK => ?_) Je
      go_simp
      go_at_call 166
      refine (HM2 _).out.mono ?_
      rintro e wg3 ⟨rfl,hbg3⟩
      have HBg3 : Hid (Below WB.heap.size WB wg3):=belS (HBg2.out) hbg3
      clear hbg3
      try dsimp only
      refine hK.out _ _ (HF.out _ HBg3.out) (fun hHeld => ?_)
      clear hK K
      try simp only [Act.put,J1,J2,J3,J4,J5,J6]
      refine z00 (f:=0) (by kernel_rfl) (by assumption) [(10,true),(11,true),(12,true)] rfl (by kernel_rfl) ?_
      repeat (refine SeqH.take (v:=?_) rfl (fun _ _ _ h => h) (by kernel_rfl) ?_ ?_; rotate_left; (· (intro w hSw; (try dsimp only at hSw); go_simp) <;> with_reducible rfl); (try simp only [Act.put,J1,J2,J3,J4,J5,J6]))
      refine SeqH.nil ?_
      refine wpAnyH_done (by kernel_rfl) ?_ _
      clear hHeld
      go_upto_region 8 with fail
      refine wrd (by kernel_rfl) HF2.out ((HBg3.out).drew) (fun hHeld => ?_)
      refine z00 (f:=0) (by kernel_rfl) (by assumption) [(0,true),(1,true),(2,false),(3,false),(4,false),(5,false),(6,false),(7,false),(8,false),(9,false),(10,false),(11,true)] rfl (by kernel_rfl) ?_
      repeat (first | (refine SeqH.skip rfl (fun _ _ _ h => h) (by kernel_rfl) ?_; (try simp only [Act.put,J1,J2,J3,J4,J5,J6])) | (refine SeqH.take (v:=?_) rfl (fun _ _ _ h => h) (by kernel_rfl) ?_ ?_; rotate_left; (· (intro w hSw; (try dsimp only at hSw); go_simp) <;> with_reducible rfl); (try simp only [Act.put,J1,J2,J3,J4,J5,J6])))
      refine SeqH.nil ?_
      refine wpAnyH_done (by kernel_rfl) ?_ _
      clear hHeld
      go_wp2_with fail
      refine ⟨⟨k + 1,o,at2,by omega,by push_cast; rfl,rfl,rfl,HA2,?_,Jh HBg3.out.drew⟩,meas hlt⟩
      rw [Hid,HST.out]
      rw [decide_eq_false n2,Bool.and_false]
      show (o && (true && _) && _) = _
      rw [Bool.true_and]
    ·skip
     refine wrd (by kernel_rfl) HF.out ((HBR.out).drew) (fun hHeld => ?_)
     refine z00 (f:=11) (by kernel_rfl) (by assumption) [(0,true),(2,true)] rfl (by kernel_rfl) ?_
     repeat (refine SeqH.take (v:=?_) rfl (fun _ _ _ h => h) (by kernel_rfl) ?_ ?_; rotate_left; (· (intro w hSw; (try dsimp only at hSw); go_simp) <;> with_reducible rfl); (try simp only [Act.put,J1,J2,J3,J4,J5,J6]))
     refine SeqH.nil ?_
     refine Jr (rs:=[1]) (by kernel_rfl) (by simp) ?_
     refine Jd rfl (fun K hK => ?_) Je
     go_simp
     go_at_call 181
     refine (HWH _ _).out.mono ?_
     rintro e wf ⟨rfl,hbf⟩
     have HBf : Hid (Below WB.heap.size WB wf):=belS ((HBR.out).drew) hbf
     clear hbf
     try dsimp only
     refine hK.out _ _ (HF.out _ HBf.out) (fun hHeld => ?_)
     clear hK K
     try simp only [Act.put,J1,J2,J3,J4,J5,J6]
     refine Jr (rs:=[3]) (by kernel_rfl) (by simp) ?_
     refine Jd rfl (fun K hK => ?_) Je
     go_simp
     go_at_call 166
     refine (HM1 _).out.mono ?_
     rintro e wg1 ⟨rfl,hbg1⟩
     have HBg1 : Hid (Below WB.heap.size WB wg1):=belS (HBf.out) hbg1
     clear hbg1
     try dsimp only
     refine hK.out _ _ (HF.out _ HBg1.out) (fun hHeld => ?_)
     clear hK K
     try simp only [Act.put,J1,J2,J3,J4,J5,J6]
     refine z00 (f:=0) (by kernel_rfl) (by assumption) [(4,true),(5,true),(6,false),(7,false),(8,false),(9,false),(10,false),(11,true),(12,true)] rfl (by kernel_rfl) ?_
     repeat (first | (refine SeqH.skip rfl (fun _ _ _ h => h) (by kernel_rfl) ?_; (try simp only [Act.put,J1,J2,J3,J4,J5,J6])) | (refine SeqH.take (v:=?_) rfl (fun _ _ _ h => h) (by kernel_rfl) ?_ ?_; rotate_left; (· (intro w hSw; (try dsimp only at hSw); go_simp) <;> with_reducible rfl); (try simp only [Act.put,J1,J2,J3,J4,J5,J6])))
     refine SeqH.nil ?_
     refine wpAnyH_done (by kernel_rfl) ?_ _
     clear hHeld
     go_upto_region 8 with fail
     refine wrd (by kernel_rfl) HF2.out ((HBg1.out).drew) (fun hHeld => ?_)
     refine z00 (f:=0) (by kernel_rfl) (by assumption) [(0,true),(1,true),(2,false),(3,false),(4,false),(5,false),(6,false),(7,false),(8,false),(9,false),(10,false),(11,true)] rfl (by kernel_rfl) ?_
     repeat (first | (refine SeqH.skip rfl (fun _ _ _ h => h) (by kernel_rfl) ?_; (try simp only [Act.put,J1,J2,J3,J4,J5,J6])) | (refine SeqH.take (v:=?_) rfl (fun _ _ _ h => h) (by kernel_rfl) ?_ ?_; rotate_left; (· (intro w hSw; (try dsimp only at hSw); go_simp) <;> with_reducible rfl); (try simp only [Act.put,J1,J2,J3,J4,J5,J6])))
     refine SeqH.nil ?_
     refine wpAnyH_done (by kernel_rfl) ?_ _
     clear hHeld
     go_wp2_with fail
     refine ⟨⟨k + 1,o,at2,by omega,by push_cast; rfl,rfl,rfl,HA2,?_,Jh HBg1.out.drew⟩,meas hlt⟩
     rw [Hid,HST.out]
     rw [decide_eq_false n1,Bool.false_and]
     show (o && (true && _) && _) = _
     rw [Bool.true_and]
   ·have hkl : k = l.length:=by omega
    have hnk : ¬ (k : Int) < (l.length : Int):=by omega
    have hsk:=HSU.out l.length (Nat.le_refl _)
    rw [List.take_length] at hsk
    have HAE : Hid (at_ = sumG 0 l):=by rw [Hid,HAT.out,hkl,List.take_length]
    rw [← HAE.out] at hsk
    have hm1 : mayP (at_,1) = true:=z26 (by omega)
    have q1:=ltQ_le HMU.out hm1
    have HM1:=fun W => Jh (HUW.out at_ (in64_of hsk) W)
    obtain ⟨m3,hm3⟩ : ∃ x,cmpR (c,q) (at_,1) = x:=⟨_,rfl⟩
    rw [hm3] at HM1 q1
    dsimp only at q1
    have HE : Hid (R = (o && decide (m3 ≤ 0))):=by
     rw [Hid,HRK.out,hkl,List.drop_length,← HAE.out,q1]
     show (o && true && _) = _
     rw [Bool.and_true]
    clear hsk hm1 q1 hm3 hkl hlt HRK HAT HAE
    obtain ⟨xf0,xf1,xf2,xf3,xf4,xf5,xf6,xf7,xf8,xf9⟩:=HF.out _ HBR.out
    go_upto_region 11 with fail
    clear xf0 xf1 xf2 xf3 xf4 xf5 xf6 xf7 xf8 xf9
    cases o
    ·skip
     refine wrd (by kernel_rfl) HF.out ((HBR.out).drew) (fun hHeld => ?_)
     refine z00 (f:=0) (by kernel_rfl) (by assumption) [(0,true),(1,true),(2,false),(3,false),(4,false),(5,false),(6,false),(7,true),(8,true)] rfl (by kernel_rfl) ?_
     repeat (first | (refine SeqH.skip rfl (fun _ _ _ h => h) (by kernel_rfl) ?_; (try simp only [Act.put,J1,J2,J3,J4,J5,J6])) | (refine SeqH.take (v:=?_) rfl (fun _ _ _ h => h) (by kernel_rfl) ?_ ?_; rotate_left; (· (intro w hSw; (try dsimp only at hSw); go_simp) <;> with_reducible rfl); (try simp only [Act.put,J1,J2,J3,J4,J5,J6])))
     refine SeqH.nil ?_
     refine wpAnyH_done (by kernel_rfl) ?_ _
     clear hHeld
     have HBR : Hid (Below WB.heap.size WB _):=Jh HBR.out.drew
     go_wp2_with fail
     all_goals go_ret
     all_goals exact ⟨by rw [HE.out]; first | rfl | simp,HBB.out.trans (HBR.out.mono HBB.out.size)⟩
    ·skip
     refine wrd (by kernel_rfl) HF.out ((HBR.out).drew) (fun hHeld => ?_)
     refine z00 (f:=5) (by kernel_rfl) (by assumption) [(0,true),(1,true),(2,true),(3,true)] rfl (by kernel_rfl) ?_
     repeat (refine SeqH.take (v:=?_) rfl (fun _ _ _ h => h) (by kernel_rfl) ?_ ?_; rotate_left; (· (intro w hSw; (try dsimp only at hSw); go_simp) <;> with_reducible rfl); (try simp only [Act.put,J1,J2,J3,J4,J5,J6]))
     refine SeqH.nil ?_
     refine Jr (rs:=[4]) (by kernel_rfl) (by simp) ?_
     refine Jd rfl (fun K hK => ?_) Je
     go_simp
     go_at_call 181
     refine (HWH _ _).out.mono ?_
     rintro e wk1 ⟨rfl,hbk1⟩
     have HBk1 : Hid (Below WB.heap.size WB wk1):=belS ((HBR.out).drew) hbk1
     clear hbk1
     try dsimp only
     refine hK.out _ _ (HF.out _ HBk1.out) (fun hHeld => ?_)
     clear hK K
     try simp only [Act.put,J1,J2,J3,J4,J5,J6]
     refine Jr (rs:=[5]) (by kernel_rfl) (by simp) ?_
     refine Jd rfl (fun K hK => ?_) Je
     go_simp
     go_at_call 166
     refine (HM1 _).out.mono ?_
     rintro e wk2 ⟨rfl,hbk2⟩
     have HBk2 : Hid (Below WB.heap.size WB wk2):=belS (HBk1.out) hbk2
     clear hbk2
     try dsimp only
     refine hK.out _ _ (HF.out _ HBk2.out) (fun hHeld => ?_)
     clear hK K
     try simp only [Act.put,J1,J2,J3,J4,J5,J6]
     refine z00 (f:=0) (by kernel_rfl) (by assumption) [(6,true),(7,true),(8,true)] rfl (by kernel_rfl) ?_
     repeat (refine SeqH.take (v:=?_) rfl (fun _ _ _ h => h) (by kernel_rfl) ?_ ?_; rotate_left; (· (intro w hSw; (try dsimp only at hSw); go_simp) <;> with_reducible rfl); (try simp only [Act.put,J1,J2,J3,J4,J5,J6]))
     refine SeqH.nil ?_
     refine wpAnyH_done (by kernel_rfl) ?_ _
     clear hHeld
     have HBR:=HBk2
     go_wp2_with fail
     all_goals go_ret
     all_goals exact ⟨by rw [HE.out]; first | rfl | simp,HBB.out.trans (HBR.out.mono HBB.out.size)⟩
end Go.Proofs.YtockinpjfhhkoaaGreatDoor
