/- The parser walked: Parse, where the names and the tokens are right. -/
import Derived.Test.YtockinpjfhhkoaaGreatDoorZ41
set_option maxRecDepth 100000
set_option maxHeartbeats 16000000
open List renaming setIfInBounds_toArray → J1, set_cons_zero → J2, set_cons_succ → J3, getElem?_cons_zero → J7, getElem?_toArray → J9
open Go.Lib renaming cell_of_heap → Jc, hid → Jh
open Go.AllReadyH renaming cons → Jd, nil → Je
open Go renaming wpAnyH_ready → Jr
namespace Go.Proofs.YtockinpjfhhkoaaGreatDoor
open Go.RowKit
theorem door_panic {R : Ending → World → Prop} {a : Act} {k4 k5 k6 : Nat} {x0 x1 x2 x3 x4 x5 x6 x7 : Value} {pl cd c at_ : Int} {W : World}
 (ha : a.defers = [{ target:=.fn (.func 127) #[.pointer (some ⟨k4,0,none⟩),.pointer (some ⟨k5,0,none⟩),.pointer (some ⟨k6,0,none⟩)],args:=#[] }])
 (t4 : a.tmps[4]? = some (.pointer (some ⟨k4,0,none⟩))) (t5 : a.tmps[5]? = some (.pointer (some ⟨k5,0,none⟩))) (t6 : a.tmps[6]? = some (.pointer (some ⟨k6,0,none⟩))) (hv : V3 k4 k5 k6 x0 x1 x2 x3 x4 x5 x6 x7 pl cd W)
 (hR : ∀ W',Caught k4 k5 k6 c at_ W W' → R (.returned (.tuple #[noX,.int .i64 at_,.int .i64 c])) W') : bodyPostD Tryz.prog Tryz.f65 R (Exit.panic (thr c at_)) a W:=by
 show Leaves Tryz.prog Tryz.f65 a.tmps R a.defers (.panicking (thr c at_)) W
 rw [ha]
 refine leaves_cons (f:=127) (args:=#[.pointer (some ⟨k4,0,none⟩),.pointer (some ⟨k5,0,none⟩),.pointer (some ⟨k6,0,none⟩)]) (by simp) (by simp [go_sem]) ?_
 refine (clo43_caught k4 k5 k6 _ _ _ _ _ _ _ _ _ _ c at_ W hv.1.1 hv.1.2.1 hv.1.2.2 hv.2.1 hv.2.2.1 hv.2.2.2).mono ?_
 rintro e u' w' ⟨rfl,rfl,hc⟩
 have hv' : V3Z k4 k5 k6 at_ c w':=⟨⟨hc.1,hc.2.1,hc.2.2.1⟩,hv.2⟩
 exact ⟨_,z0e t4 t5 t6 hv',hR _ hc⟩
theorem z7x {R : Ending → World → Prop} {a : Act} {k4 k5 k6 : Nat} {x0 x1 x2 x3 x4 x5 x6 x7 : Value} {pl cd : Int} {W : World}
 (ha : a.defers = [{ target:=.fn (.func 127) #[.pointer (some ⟨k4,0,none⟩),.pointer (some ⟨k5,0,none⟩),.pointer (some ⟨k6,0,none⟩)],args:=#[] }])
 (t4 : a.tmps[4]? = some (.pointer (some ⟨k4,0,none⟩))) (t5 : a.tmps[5]? = some (.pointer (some ⟨k5,0,none⟩))) (t6 : a.tmps[6]? = some (.pointer (some ⟨k6,0,none⟩))) (hv : V3 k4 k5 k6 x0 x1 x2 x3 x4 x5 x6 x7 pl cd W)
 (hR : R (.returned (.tuple #[.agg #[x0,x1,x2,x3,x4,x5,x6,x7],.int .i64 pl,.int .i64 cd])) W) : bodyPostD Tryz.prog Tryz.f65 R Exit.ret a W:=by
 show Leaves Tryz.prog Tryz.f65 a.tmps R a.defers .returning W
 rw [ha]
 refine leaves_cons (f:=127) (args:=#[.pointer (some ⟨k4,0,none⟩),.pointer (some ⟨k5,0,none⟩),.pointer (some ⟨k6,0,none⟩)]) (by simp) (by simp [go_sem]) ?_
 refine (clo43_idle _ _ _ W).mono ?_
 rintro e u' w' ⟨rfl,rfl,rfl⟩
 exact ⟨_,z0e t4 t5 t6 hv,hR⟩
theorem Caught.below {k4 k5 k6 B : Nat} {c at_ : Int} {w0 w w' : World} (h : Caught k4 k5 k6 c at_ w w') (hb : Below B w0 w) (hB : B ≤ w.heap.size) (h4 : B ≤ k4) (h5 : B ≤ k5) (h6 : B ≤ k6) : Below B w0 w' :=
 hb.trans ⟨h.2.2.2.1,h.2.2.2.2.1,h.2.2.2.2.2.1,h.2.2.2.2.2.2.1,fun j hj => h.2.2.2.2.2.2.2 j (by omega) (by omega) (by omega) (by omega)⟩
theorem XI.keep {Z : Nat} {w w' : World} {x : X} {v : Value} (h : XI (pN Z) w x v) (hz : w.heap.size ≤ w'.heap.size) (hk : ∀ b,b < w.heap.size → Z ≤ b → w'.heap[b]? = w.heap[b]?) : XI (pN Z) w' x v :=
 h.go ⟨hz,fun b hb hp => ⟨hp,hk b hb (of_decide_eq_true hp)⟩⟩
theorem parse21_good (names : List ByteArray) (nv : Value) (hs : ∀ s ∈ names,s.size ≤ 1048576) (s : ByteArray) (w : World) (hr : Rdy w) (hn : NRep w w.heap.size nv names) (hq : z0z names = 0) (hq2 : (cutR s).2.2 = 0) :
 Calls Tryz.prog 65 #[nv,.string s] w fun e w' => ∃ v at_ code,e = .returned (.tuple #[v,.int .i64 at_,.int .i64 code]) ∧ ParseIs names s w' v at_ code ∧ Below w.heap.size w w':=by
 obtain ⟨na,nc,rfl,_⟩:=id hn
 obtain ⟨k5,hk5⟩ : ∃ k5,k5 = w.heap.size + 1:=⟨_,rfl⟩
 obtain ⟨k6,hk6⟩ : ∃ k6,k6 = w.heap.size + 1 + 1:=⟨_,rfl⟩
 obtain ⟨W0,hW0⟩ : ∃ W0,W0 = ((w.alloc (.cells #[.int .u8 0,.slice none 0 0,.slice none 0 0,.int .i64 0,.bool false,.int .i64 0,.bool false,.bool false] 47)).alloc (.cells #[.int .i64 0] 3)).alloc (.cells #[.int .i64 0] 33):=⟨_,rfl⟩
 have hz0 : W0.heap.size = w.heap.size + 3:=by rw [hW0]; simp
 have hb0 : Below w.heap.size w W0:=by rw [hW0]; exact (((Below.refl _ w).alloc (Nat.le_refl _) _).alloc (by simp) _).alloc (by simp; omega) _
 have hv0 : V3Z w.heap.size k5 k6 0 0 W0:=by
  rw [hW0]
  exact ⟨⟨z1c (z1c (z0b rfl)),z1c (z0b (by rw [hk5]; simp)),z0b (by rw [hk6]; simp)⟩,by omega,by omega,by omega⟩
 have hr0:=hr.below hb0
 have hn0:=hn.up hb0 hb0.size
 have HN:=Jh (z4z names _ hs W0 hr0 hn0)
 have HV0:=Jh hv0
 have HB0:=Jh hb0
 have HR:=Jh hr
 have HNR:=Jh hn
 have HS:=Jh hs
 have HK5:=Jh hk5.symm
 have HK6:=Jh hk6.symm
 have HZ0:=Jh hz0
 have HW0:=Jh hW0.symm
 have HL : Hid (w.heap.size ≤ k5 ∧ w.heap.size ≤ k6):=by rw [Hid]; omega
 have hmf : ∀ (fn : Fn) (first cap : Array Value) (w : World),(Instr.makeFunc fn first cap).run Tryz.prog w = .ok (.func fn first cap) w:=fun _ _ _ _ => rfl
 clear hr hn hs hz0 hb0 hv0 hr0 hn0 hk5 hk6 hW0
 have HCUT : Hid (∀ W,Below w.heap.size w W → Calls Tryz.prog 126 #[.string s] W fun e w' => (∃ v',e = .returned (.tuple #[v',.int .i64 0,.int .i64 0]) ∧ OwnT w' W.heap.size v' (cutR s).1) ∧ Below W.heap.size W w'):=fun W hb => by
  have:=cut9_any s W (HR.out.below hb)
  rw [hq2,(cutR_ok hq2).2.2] at this
  exact this
 have HTOK : Hid (∀ t ∈ (cutR s).1,TokG t):=tok_good (cutR_ok hq2).2.1
 have HLEN : Hid ((cutR s).1.length ≤ 4096):=cutR_len hq2
 have HQ:=Jh hq
 have HQ2:=Jh hq2
 rw [hq] at HN
 clear hq hq2
 generalize hTS : (cutR s).1 = ts at HCUT HTOK HLEN
 have HTS:=Jh hTS
 clear hTS
 go_enter_defers Tryz.func65,Tryz.ntmps65
 go_wp2_with fail
 rw [HW0.out,HK6.out,HK5.out]
 refine HN.out.mono ?_
 rintro e w1 ⟨rfl,hb1⟩
 have hv1:=HV0.out.below hb1
 obtain ⟨_,_,c6,_,_,f6⟩:=hv1.cells
 obtain ⟨W1,hW1⟩ : ∃ W1,W1 = w1.setCell ⟨k6,0,none⟩ (.int .i64 0):=⟨_,rfl⟩
 have HV1 : Hid (V3Z w.heap.size k5 k6 0 0 W1):=by rw [Hid,hW1]; exact hv1.code 0
 have HB1 : Hid (Below w.heap.size w W1):=by rw [Hid,hW1]; exact (HB0.out.trans (hb1.mono HB0.out.size)).setCell (p:=⟨k6,0,none⟩) HL.out.2 (.int .i64 0)
 have HW1:=Jh hW1.symm
 clear hb1 hv1 hW1
 go_wp2_with fail
 rw [HW1.out]
 clear HW1
 refine (HCUT.out W1 HB1.out).mono ?_
 rintro e w2 ⟨⟨v',rfl,hown⟩,hb2⟩
 have hv2:=HV1.out.below hb2
 obtain ⟨_,c5,c6,_,f5,f6⟩:=hv2.cells
 obtain ⟨W2,hW2⟩ : ∃ W2,W2 = (w2.setCell ⟨k5,0,none⟩ (.int .i64 0)).setCell ⟨k6,0,none⟩ (.int .i64 0):=⟨_,rfl⟩
 have HV2 : Hid (V3Z w.heap.size k5 k6 0 0 W2):=by rw [Hid,hW2]; exact (hv2.place 0).code 0
 have HB2 : Hid (Below w.heap.size w W2):=by
  rw [Hid,hW2]
  exact ((HB1.out.trans (hb2.mono HB1.out.size)).setCell (p:=⟨k5,0,none⟩) HL.out.1 _).setCell (p:=⟨k6,0,none⟩) HL.out.2 _
 have HO2 : Hid (OwnT W2 W1.heap.size v' ts):=by
  rw [Hid,hW2]
  exact (hown.setOther hv2.1.2.1 (by decide) _).setOther (hv2.place 0).1.2.2 (by decide) _
 have HZ12 : Hid (w.heap.size ≤ W1.heap.size ∧ W1.heap.size ≤ W2.heap.size):=by
  rw [Hid,hW2]
  have:=hb2.size
  have:=HB1.out.size
  simp only [World.setCell,Array.size_modify]
  omega
 obtain ⟨_,d5,d6,_,g5,g6⟩:=(hv2.place 0).cells
 have HW2:=Jh hW2.symm
 clear hb2 hv2 hW2 hown
 go_upto_region 6 with fail
 rw [HW2.out]
 clear HW2 d5 d6 g5 g6 c5 c6 f5 f6
 have HAPP : Hid (∀ (o : Obj) (w4 : World),(W2.alloc o).grownBy w4 v'.ownBlock → V3Z w.heap.size k5 k6 0 0 w4 ∧ Below w.heap.size w w4):=by
  intro o w4 hg
  have hv:=HV2.out
  have hl:=hv.lt
  have hz : (W2.alloc o).heap.size = W2.heap.size + 1:=by simp
  have hkeep : ∀ k x t fz,W2.heap[k]? = some (Obj.cells x t fz) → t ≠ 194 → w4.heap[k]? = W2.heap[k]?:=fun k x t fz hk ht => by
   have hlt:=(Array.getElem?_eq_some_iff.1 hk).1
   rw [hg.block k (by omega) (fun e => own_ne HO2.out hk ht e.symm)]
   exact Lib.alloc_old _ _ _ hlt
  refine ⟨hv.same (hkeep _ _ _ _ hv.1.1 (by decide)) (hkeep _ _ _ _ hv.1.2.1 (by decide)) (hkeep _ _ _ _ hv.1.2.2 (by decide)),?_⟩
  exact (HB2.out.alloc (by have:=HZ12.out; omega) o).grown hg (by have:=HZ12.out; omega) (fun j hj => Nat.le_trans HZ12.out.1 (World.ownsRow.lt HO2.out j hj).1)
 obtain ⟨i0,hi,hz0,hz1,hz2⟩:=info_parts Tryz.info194
 have HLT:=HLEN.out
 have HZB:=HZ12.out.2
 go_wp2_with (at_builtin; refine wpList_append_own_at _ rfl _ _ 186 rfl W1.heap.size 194 i0 _ 3 32 Tryz.underlying186 hi hz0 hz1 hz2 rfl (by decide) _ _ _ rfl (World.ownsRow.alloc (show World.ownsRow _ _ _ _ _ _ _ from HO2.out) _) _ 1 1 [.int .u8 0,.string ⟨#[]⟩,.int .i64 s.size] rfl rfl (z0u _ _ _ _ _) ?c2 ?c3 ?c4 ?c5 ?_)
 case c2 => first | exact ⟨rfl,rfl,rfl⟩ | (intro u hu; simp at hu; rcases hu with rfl | rfl | rfl <;> rfl)
 case c3 => first | (simp only [maxLen]; omega) | (simp [maxLen]; omega)
 case c4 => first | omega | (simp; omega)
 case c5 => first | omega | (simp; omega)
 intro v2 w4 hown' hgrow hnil hat
 have hO4:=z3m (l:=ts) (t:=⟨0,⟨#[]⟩,s.size⟩) hown'
 obtain ⟨hv4,hb4⟩:=HAPP.out _ w4 hgrow
 obtain ⟨g,cap,rfl,hBg,hlg,hPs⟩:=ps_start hO4 HTOK.out
 obtain ⟨pb,hpb⟩ : ∃ pb,pb = w4.heap.size:=⟨_,rfl⟩
 obtain ⟨W5,hW5⟩ : ∃ W5,W5 = w4.alloc (.cells #[.slice (some ⟨g,0,none⟩) (ts.length + 1) cap,.int .i64 0] 196):=⟨_,rfl⟩
 have h4w:=hb4.size
 have h4p : 4 ≤ pb:=by have:=HR.out.lt; omega
 have hv4l:=hv4.lt
 have hP5 : Ps pb g W5 (ts ++ [⟨0,⟨#[]⟩,s.size⟩]) 0:=by rw [hW5,hpb]; exact hPs
 have hB5 : Below w.heap.size w W5:=by rw [hW5]; exact hb4.alloc (by omega) _
 have hV5 : V3Z w.heap.size k5 k6 0 0 W5:=by rw [hW5]; exact hv4.below ((Below.refl _ _).alloc (Nat.le_refl _) _)
 have HNE : Hid (w.heap.size ≠ pb ∧ k5 ≠ pb ∧ k6 ≠ pb ∧ w.heap.size ≤ pb ∧ w.heap.size ≤ W5.heap.size ∧ w.heap.size ≠ g ∧ k5 ≠ g ∧ k6 ≠ g):=by
  have hz1:=HZ12.out
  have hv1:=HV1.out.lt
  rw [Hid,hW5]
  simp only [World.alloc,Array.size_push]
  omega
 have HTRE:=Jh (tre44_any pb g h4p 66 0 _ W5 (by omega) (by omega) (HR.out.below hB5) hP5)
 generalize hRES : treR 66 0 (ts ++ [⟨0,⟨#[]⟩,s.size⟩]) = RES at HTRE
 have HRES:=Jh hRES
 have HB5:=Jh hB5
 have HV5:=Jh hV5
 have HW5:=Jh hW5.symm
 have HPB:=Jh hpb.symm
 have H4P:=Jh h4p
 clear hown' hgrow hnil hat hO4 hv4 hb4 hBg hlg hPs hpb hW5 h4w h4p hv4l hP5 hB5 hV5 hRES HAPP HO2 HLT HZB HCUT HN HV0 HB0 HZ0 HW0
 go_wp2_with fail
 rw [HW5.out,HPB.out]
 clear HW5 HPB
 cases RES with
 | error c =>
  refine HTRE.out.mono ?_
  rintro e w6 ⟨rfl,hb⟩
  have HV6:=Jh (HV5.out.bt hb HNE.out.1 HNE.out.2.1 HNE.out.2.2.1)
  have HB6:=Jh (hb.below_of HB5.out HNE.out.2.2.2.2.1 HNE.out.2.2.2.1)
  clear hb
  go_wp2_with fail
  refine door_panic rfl rfl rfl rfl HV6.out (fun W' hc => ?_)
  refine ⟨_,_,_,rfl,?_,hc.below HB6.out HB6.out.size (Nat.le_refl _) HL.out.1 HL.out.2⟩
  refine .wrong HQ.out HQ2.out c.1 c.2 ?_
  rw [HTS.out]
  unfold allR
  rw [HRES.out]
 | ok xr =>
  obtain ⟨x,r⟩:=xr
  refine HTRE.out.mono ?_
  rintro e w6 ho
  obtain ⟨k1,a1,m1,c1,b1,o1,qq1,lo1,ls1,hi1,hs1,op1,rfl,hf,hp,hb⟩:=OutX.ok ho
  have hv6:=HV5.out.bt hb HNE.out.1 HNE.out.2.1 HNE.out.2.2.1
  have hb6:=hb.below_of HB5.out HNE.out.2.2.2.2.1 HNE.out.2.2.2.1
  obtain ⟨W7,hW7⟩ : ∃ W7,W7 = set8 w6 w.heap.size (.int .u8 k1) (.slice a1 m1 c1) (.slice b1 o1 qq1) (.int .i64 lo1) (.bool ls1) (.int .i64 hi1) (.bool hs1) (.bool op1):=⟨_,rfl⟩
  have HV7 : Hid (V3 w.heap.size k5 k6 (.int .u8 k1) (.slice a1 m1 c1) (.slice b1 o1 qq1) (.int .i64 lo1) (.bool ls1) (.int .i64 hi1) (.bool hs1) (.bool op1) 0 0 W7):=by rw [Hid,hW7]; exact hv6.expr _ _ _ _ _ _ _ _
  have HB7 : Hid (Below w.heap.size w W7):=by rw [Hid,hW7]; exact Below.set8 hb6 (Nat.le_refl _) _ _ _ _ _ _ _ _
  have HP7 : Hid (Ps pb g W7 r 0):=by rw [Hid,hW7]; exact hp.set8 HNE.out.1.symm HNE.out.2.2.2.2.2.1.symm _ _ _ _ _ _ _ _
  have HX7 : Hid (XI (pN W5.heap.size) W7 x (.agg #[.int .u8 k1,.slice a1 m1 c1,.slice b1 o1 qq1,.int .i64 lo1,.bool ls1,.int .i64 hi1,.bool hs1,.bool op1])):=by
   rw [Hid,hW7]
   have:=HV5.out.lt
   exact hf.keep (by rw [z0m]; exact Nat.le_refl _) fun b _ hz => z09 _ _ _ _ _ _ _ _ _ _ _ (by omega)
  have HZ7 : Hid (k5 < W5.heap.size ∧ k6 < W5.heap.size ∧ w.heap.size < W5.heap.size):=by
   have:=HV5.out.lt
   exact ⟨this.2.1,this.2.2,this.1⟩
  have HW7:=Jh hW7.symm
  obtain ⟨⟨e0,e1,e2,e3,e4,e5,e6,e7⟩,e8,e9,⟨f0,f1,f2,f3,f4,f5,f6,f7⟩,f8,f9⟩:=hv6.cells
  obtain ⟨off7,cap7,hpb7,hcl7,hcm7,_⟩:=HP7.out.blk
  have p0:=Jc hpb7 0
  simp only [J9,J7] at p0
  obtain ⟨t0,r0,hr0⟩:=hp.ends.cons
  obtain ⟨kk,ss,pp⟩:=t0
  subst hr0
  clear ho hf hp hb hv6 hb6 hW7 hpb7 hcl7 hcm7 HTRE
  go_upto_region 9 with fail
  have hw:=HW7.out
  unfold set8 at hw
  rw [hw]
  clear hw HW7 e0 e1 e2 e3 e4 e5 e6 e7 e8 e9 f0 f1 f2 f3 f4 f5 f6 f7 f8 f9
  by_cases hlen : 1 < r0.length + 1
  ·have hgt : (((r0.length + 1 : Nat) : Int) > 1):=by omega
   have HLN:=Jh hlen
   have HF:=Jh (z3s pb g 0 170 kk ss pp r0 W7 HP7.out)
   clear hlen
   go_wp2_with fail
   refine HF.out.mono ?_
   rintro e w8 ⟨rfl,hb⟩
   have HV8:=Jh (HV7.out.below hb)
   have HB8:=Jh (HB7.out.trans (hb.mono HB7.out.size))
   clear hb
   go_wp2_with fail
   refine door_panic rfl rfl rfl rfl HV8.out (fun W' hc => ?_)
   refine ⟨_,_,_,rfl,?_,hc.below HB8.out HB8.out.size (Nat.le_refl _) HL.out.1 HL.out.2⟩
   refine .wrong HQ.out HQ2.out 170 pp ?_
   rw [HTS.out]
   unfold allR
   rw [HRES.out]
   dsimp only
   exact (if_pos (show 1 < ((⟨kk,ss,pp⟩ : Tok) :: r0).length from HLN.out)).trans rfl
  ·have hgt : ¬ (((r0.length + 1 : Nat) : Int) > 1):=by omega
   have HLN:=Jh hlen
   obtain ⟨m,n,t,htx,hxr⟩:=HX7.out.real
   have HTX:=Jh htx
   have HCK:=Jh (z71 names _ HS.out m n t _ W7 (HR.out.below HB7.out) (HNR.out.up HB7.out HB7.out.size) hxr)
   have HALL : Hid (allR (cutR s).1 s.size = .ok (toX n t)):=by
    rw [Hid,HTS.out]
    unfold allR
    rw [HRES.out]
    dsimp only
    rw [htx]
    exact if_neg (show ¬ 1 < ((⟨kk,ss,pp⟩ : Tok) :: r0).length from hlen)
   clear hlen htx hxr
   obtain ⟨ck,hck⟩ : ∃ ck,ck = z0r names n t:=⟨_,rfl⟩
   rw [← hck] at HCK
   have HCKE:=Jh hck
   clear hck
   obtain ⟨⟨e0,e1,e2,e3,e4,e5,e6,e7⟩,_⟩:=HV7.out.cells
   by_cases hc0 : ck = 0
   ·subst hc0
    go_wp2_with fail
    refine HCK.out.mono ?_
    rintro e w8 ⟨rfl,hb⟩
    have hv8:=HV7.out.below hb
    have hb8:=HB7.out.trans (hb.mono HB7.out.size)
    have hx8:=HX7.out.keep hb.size fun b hb' _ => hb.block b hb'
    clear e0 e1 e2 e3 e4 e5 e6 e7
    obtain ⟨W9,hW9⟩ : ∃ W9,W9 = w8.setCell ⟨k6,0,none⟩ (.int .i64 0):=⟨_,rfl⟩
    have hv9:=hv8.code 0
    rw [← hW9] at hv9
    have hb9 : Below w.heap.size w W9:=by rw [hW9]; exact hb8.setCell (p:=⟨k6,0,none⟩) HL.out.2 _
    have hx9 : XI (pN W5.heap.size) W9 x (.agg #[.int .u8 k1,.slice a1 m1 c1,.slice b1 o1 qq1,.int .i64 lo1,.bool ls1,.int .i64 hi1,.bool hs1,.bool op1]):=by
     rw [hW9]
     have:=HZ7.out
     exact hx8.keep (by simp [World.setCell]) fun b _ hz => z04 _ _ _ _ _ (by omega)
    obtain ⟨_,_,c6,_,_,f6⟩:=hv8.cells
    have HW9:=Jh hW9.symm
    clear hb hv8 hb8 hx8 hW9
    go_upto_region 12 with fail
    rw [HW9.out]
    clear HW9 c6 f6
    obtain ⟨⟨e0,e1,e2,e3,e4,e5,e6,e7⟩,e8,e9,⟨f0,f1,f2,f3,f4,f5,f6,f7⟩,f8,f9⟩:=hv9.cells
    have hv10:=hv9.expr (.int .u8 k1) (.slice a1 m1 c1) (.slice b1 o1 qq1) (.int .i64 lo1) (.bool ls1) (.int .i64 hi1) (.bool hs1) (.bool op1)
    have hb10:=Below.set8 hb9 (Nat.le_refl _) (.int .u8 k1) (.slice a1 m1 c1) (.slice b1 o1 qq1) (.int .i64 lo1) (.bool ls1) (.int .i64 hi1) (.bool hs1) (.bool op1)
    have hx10 : XI (pN W5.heap.size) (((set8 W9 w.heap.size (.int .u8 k1) (.slice a1 m1 c1) (.slice b1 o1 qq1) (.int .i64 lo1) (.bool ls1) (.int .i64 hi1) (.bool hs1) (.bool op1)).setCell ⟨k5,0,none⟩ (.int .i64 0)).setCell ⟨k6,0,none⟩ (.int .i64 0)) x (.agg #[.int .u8 k1,.slice a1 m1 c1,.slice b1 o1 qq1,.int .i64 lo1,.bool ls1,.int .i64 hi1,.bool hs1,.bool op1]):=by
     have:=HZ7.out
     refine hx9.keep (by simp [World.setCell,z0m]) fun b _ hz => ?_
     rw [z04 _ _ _ _ _ (by omega),z04 _ _ _ _ _ (by omega),z09 _ _ _ _ _ _ _ _ _ _ _ (by omega)]
    unfold set8 at hv10 hb10 hx10
    obtain ⟨_,g8,g9,_,h8,h9⟩:=hv10.cells
    have hv11:=hv10.place 0
    obtain ⟨_,_,i9,_,_,j9⟩:=hv11.cells
    have HV12:=Jh (hv11.code 0)
    have HB12:=Jh ((hb10.setCell (p:=⟨k5,0,none⟩) HL.out.1 (.int .i64 0)).setCell (p:=⟨k6,0,none⟩) HL.out.2 (.int .i64 0))
    have HX12:=Jh hx10
    clear hv9 hb9 hx9 hv10 hb10 hx10 hv11
    go_wp2_with fail
    refine z7x rfl rfl rfl rfl HV12.out ?_
    refine ⟨_,_,_,rfl,?_,HB12.out⟩
    obtain ⟨m',n',t',h1,h2⟩:=HX12.out.real
    have hsame : toX n' t' = toX n t:=h1.trans HTX.out.symm
    exact .ok HQ.out HQ2.out m' n' t' (by rw [hsame]; exact HALL.out) (by rw [z70 names hsame]; exact HCKE.out.symm) _ h2
   ·have q3 : (ck != 0) = true:=by simpa using hc0
    have HC0:=Jh hc0
    clear hc0
    go_wp2_with fail
    refine HCK.out.mono ?_
    rintro e w8 ⟨rfl,hb⟩
    have hv8:=HV7.out.below hb
    have hb8:=HB7.out.trans (hb.mono HB7.out.size)
    clear e0 e1 e2 e3 e4 e5 e6 e7
    obtain ⟨W9,hW9⟩ : ∃ W9,W9 = w8.setCell ⟨k6,0,none⟩ (.int .i64 ck):=⟨_,rfl⟩
    have hv9:=hv8.code ck
    rw [← hW9] at hv9
    have HV9:=Jh hv9
    have HB9 : Hid (Below w.heap.size w W9):=by rw [Hid,hW9]; exact hb8.setCell (p:=⟨k6,0,none⟩) HL.out.2 _
    obtain ⟨_,_,c6,_,_,f6⟩:=hv8.cells
    have HW9:=Jh hW9.symm
    clear hb hv8 hb8 hW9 hv9
    go_wp2_with fail
    rw [HW9.out]
    clear HW9 c6 f6
    have hvy3:=HV9.out.expr (.int .u8 0) (.slice none 0 0) (.slice none 0 0) (.int .i64 0) (.bool false) (.int .i64 0) (.bool false) (.bool false)
    have hvy4:=(hvy3.drew).place 0
    have hvy5:=hvy4.code ck
    obtain ⟨Y3,hWy3⟩ : ∃ Y3,Y3 = (set8 W9 w.heap.size (.int .u8 0) (.slice none 0 0) (.slice none 0 0) (.int .i64 0) (.bool false) (.int .i64 0) (.bool false) (.bool false)).drew:=⟨_,rfl⟩
    obtain ⟨Y4,hWy4⟩ : ∃ Y4,Y4 = Y3.setCell ⟨k5,0,none⟩ (.int .i64 0):=⟨_,rfl⟩
    obtain ⟨Y5,hWy5⟩ : ∃ Y5,Y5 = Y4.setCell ⟨k6,0,none⟩ (.int .i64 ck):=⟨_,rfl⟩
    have HVy3 : Hid (V3Z w.heap.size k5 k6 0 ck Y3):=by rw [Hid,hWy3]; exact hvy3.drew
    have HVy4 : Hid (V3Z w.heap.size k5 k6 0 ck Y4):=by rw [Hid,hWy4,hWy3]; exact hvy4
    have HVy5 : Hid (V3Z w.heap.size k5 k6 0 ck Y5):=by rw [Hid,hWy5,hWy4,hWy3]; exact hvy5
    have HBy5 : Hid (Below w.heap.size w Y5):=by
     rw [Hid,hWy5,hWy4,hWy3]
     exact (((Below.set8 HB9.out (Nat.le_refl _) _ _ _ _ _ _ _ _).drew).setCell (p:=⟨k5,0,none⟩) HL.out.1 _).setCell (p:=⟨k6,0,none⟩) HL.out.2 _
    have HWy3:=Jh hWy3.symm
    have HWy4:=Jh hWy4.symm
    have HWy5:=Jh hWy5.symm
    clear hvy3 hvy4 hvy5 hWy3 hWy4 hWy5
    refine wp_region_held_drew (S:=fun _ => True) (by kernel_rfl) trivial (fun hHeld => ?_)
    clear hHeld
    refine Jr (rs:=[0,1]) (by kernel_rfl) (by simp) (Jd rfl (fun K0 hK => ?_) (Jd rfl (fun K0 hK => ?_) Je))
    ·obtain ⟨⟨e0,e1,e2,e3,e4,e5,e6,e7⟩,e8,e9,⟨f0,f1,f2,f3,f4,f5,f6,f7⟩,f8,f9⟩:=HV9.out.cells
     go_simp
     refine hK.out _ _ trivial (fun _ => ?_)
     clear hK K0 e0 e1 e2 e3 e4 e5 e6 e7 e8 e9 f0 f1 f2 f3 f4 f5 f6 f7 f8 f9
     try simp only [Act.put,J1,J2,J3]
     refine Jr (rs:=[1,2]) (by kernel_rfl) (by simp) (Jd rfl (fun K0 hK => ?_) (Jd rfl (fun K0 hK => ?_) Je))
     ·obtain ⟨⟨e0,e1,e2,e3,e4,e5,e6,e7⟩,e8,e9,⟨f0,f1,f2,f3,f4,f5,f6,f7⟩,f8,f9⟩:=HV9.out.cells
      go_simp
      refine hK.out _ _ trivial (fun _ => ?_)
      clear hK K0 e0 e1 e2 e3 e4 e5 e6 e7 e8 e9 f0 f1 f2 f3 f4 f5 f6 f7 f8 f9
      try simp only [Act.put,J1,J2,J3]
      refine Jr (rs:=[2]) (by kernel_rfl) (by simp) (Jd rfl (fun K0 hK => ?_) Je)
      ·obtain ⟨⟨e0,e1,e2,e3,e4,e5,e6,e7⟩,e8,e9,⟨f0,f1,f2,f3,f4,f5,f6,f7⟩,f8,f9⟩:=HV9.out.cells
       go_simp
       have hw:=HWy3.out
       unfold set8 at hw
       rw [hw]
       clear hw
       refine hK.out _ _ trivial (fun _ => ?_)
       clear hK K0 e0 e1 e2 e3 e4 e5 e6 e7 e8 e9 f0 f1 f2 f3 f4 f5 f6 f7 f8 f9
       try simp only [Act.put,J1,J2,J3]
       refine Jr (rs:=[3]) (by kernel_rfl) (by simp) (Jd rfl (fun K0 hK => ?_) Je)
       ·obtain ⟨⟨e0,e1,e2,e3,e4,e5,e6,e7⟩,e8,e9,⟨f0,f1,f2,f3,f4,f5,f6,f7⟩,f8,f9⟩:=HVy3.out.cells
        go_simp
        rw [HWy4.out]
        refine hK.out _ _ trivial (fun _ => ?_)
        clear hK K0 e0 e1 e2 e3 e4 e5 e6 e7 e8 e9 f0 f1 f2 f3 f4 f5 f6 f7 f8 f9
        try simp only [Act.put,J1,J2,J3]
        refine Jr (rs:=[4]) (by kernel_rfl) (by simp) (Jd rfl (fun K0 hK => ?_) Je)
        ·obtain ⟨⟨e0,e1,e2,e3,e4,e5,e6,e7⟩,e8,e9,⟨f0,f1,f2,f3,f4,f5,f6,f7⟩,f8,f9⟩:=HVy4.out.cells
         go_simp
         rw [HWy5.out]
         refine hK.out _ _ trivial (fun _ => ?_)
         clear hK K0 e0 e1 e2 e3 e4 e5 e6 e7 e8 e9 f0 f1 f2 f3 f4 f5 f6 f7 f8 f9
         try simp only [Act.put,J1,J2,J3]
         refine wpAnyH_done (by kernel_rfl) ?_ _
         go_wp2_with fail
         refine z7x rfl rfl rfl rfl HVy5.out ?_
         refine ⟨_,_,_,rfl,?_,HBy5.out⟩
         rw [HCKE.out]
         exact .check HQ.out HQ2.out m n t HALL.out (by rw [← HCKE.out]; exact HC0.out)
     ·obtain ⟨⟨e0,e1,e2,e3,e4,e5,e6,e7⟩,e8,e9,⟨f0,f1,f2,f3,f4,f5,f6,f7⟩,f8,f9⟩:=HV9.out.cells
      go_simp
      have hw:=HWy3.out
      unfold set8 at hw
      rw [hw]
      clear hw
      refine hK.out _ _ trivial (fun _ => ?_)
      clear hK K0 e0 e1 e2 e3 e4 e5 e6 e7 e8 e9 f0 f1 f2 f3 f4 f5 f6 f7 f8 f9
      try simp only [Act.put,J1,J2,J3]
      refine Jr (rs:=[1,3]) (by kernel_rfl) (by simp) (Jd rfl (fun K0 hK => ?_) (Jd rfl (fun K0 hK => ?_) Je))
      ·obtain ⟨⟨e0,e1,e2,e3,e4,e5,e6,e7⟩,e8,e9,⟨f0,f1,f2,f3,f4,f5,f6,f7⟩,f8,f9⟩:=HVy3.out.cells
       go_simp
       refine hK.out _ _ trivial (fun _ => ?_)
       clear hK K0 e0 e1 e2 e3 e4 e5 e6 e7 e8 e9 f0 f1 f2 f3 f4 f5 f6 f7 f8 f9
       try simp only [Act.put,J1,J2,J3]
       refine Jr (rs:=[3]) (by kernel_rfl) (by simp) (Jd rfl (fun K0 hK => ?_) Je)
       ·obtain ⟨⟨e0,e1,e2,e3,e4,e5,e6,e7⟩,e8,e9,⟨f0,f1,f2,f3,f4,f5,f6,f7⟩,f8,f9⟩:=HVy3.out.cells
        go_simp
        rw [HWy4.out]
        refine hK.out _ _ trivial (fun _ => ?_)
        clear hK K0 e0 e1 e2 e3 e4 e5 e6 e7 e8 e9 f0 f1 f2 f3 f4 f5 f6 f7 f8 f9
        try simp only [Act.put,J1,J2,J3]
        refine Jr (rs:=[4]) (by kernel_rfl) (by simp) (Jd rfl (fun K0 hK => ?_) Je)
        ·obtain ⟨⟨e0,e1,e2,e3,e4,e5,e6,e7⟩,e8,e9,⟨f0,f1,f2,f3,f4,f5,f6,f7⟩,f8,f9⟩:=HVy4.out.cells
         go_simp
         rw [HWy5.out]
         refine hK.out _ _ trivial (fun _ => ?_)
         clear hK K0 e0 e1 e2 e3 e4 e5 e6 e7 e8 e9 f0 f1 f2 f3 f4 f5 f6 f7 f8 f9
         try simp only [Act.put,J1,J2,J3]
         refine wpAnyH_done (by kernel_rfl) ?_ _
         go_wp2_with fail
         refine z7x rfl rfl rfl rfl HVy5.out ?_
         refine ⟨_,_,_,rfl,?_,HBy5.out⟩
         rw [HCKE.out]
         exact .check HQ.out HQ2.out m n t HALL.out (by rw [← HCKE.out]; exact HC0.out)
      ·obtain ⟨⟨e0,e1,e2,e3,e4,e5,e6,e7⟩,e8,e9,⟨f0,f1,f2,f3,f4,f5,f6,f7⟩,f8,f9⟩:=HVy3.out.cells
       go_simp
       rw [HWy4.out]
       refine hK.out _ _ trivial (fun _ => ?_)
       clear hK K0 e0 e1 e2 e3 e4 e5 e6 e7 e8 e9 f0 f1 f2 f3 f4 f5 f6 f7 f8 f9
       try simp only [Act.put,J1,J2,J3]
       refine Jr (rs:=[1]) (by kernel_rfl) (by simp) (Jd rfl (fun K0 hK => ?_) Je)
       ·obtain ⟨⟨e0,e1,e2,e3,e4,e5,e6,e7⟩,e8,e9,⟨f0,f1,f2,f3,f4,f5,f6,f7⟩,f8,f9⟩:=HVy4.out.cells
        go_simp
        refine hK.out _ _ trivial (fun _ => ?_)
        clear hK K0 e0 e1 e2 e3 e4 e5 e6 e7 e8 e9 f0 f1 f2 f3 f4 f5 f6 f7 f8 f9
        try simp only [Act.put,J1,J2,J3]
        refine Jr (rs:=[4]) (by kernel_rfl) (by simp) (Jd rfl (fun K0 hK => ?_) Je)
        ·obtain ⟨⟨e0,e1,e2,e3,e4,e5,e6,e7⟩,e8,e9,⟨f0,f1,f2,f3,f4,f5,f6,f7⟩,f8,f9⟩:=HVy4.out.cells
         go_simp
         rw [HWy5.out]
         refine hK.out _ _ trivial (fun _ => ?_)
         clear hK K0 e0 e1 e2 e3 e4 e5 e6 e7 e8 e9 f0 f1 f2 f3 f4 f5 f6 f7 f8 f9
         try simp only [Act.put,J1,J2,J3]
         refine wpAnyH_done (by kernel_rfl) ?_ _
         go_wp2_with fail
         refine z7x rfl rfl rfl rfl HVy5.out ?_
         refine ⟨_,_,_,rfl,?_,HBy5.out⟩
         rw [HCKE.out]
         exact .check HQ.out HQ2.out m n t HALL.out (by rw [← HCKE.out]; exact HC0.out)
    ·obtain ⟨⟨e0,e1,e2,e3,e4,e5,e6,e7⟩,e8,e9,⟨f0,f1,f2,f3,f4,f5,f6,f7⟩,f8,f9⟩:=HV9.out.cells
     go_simp
     refine hK.out _ _ trivial (fun _ => ?_)
     clear hK K0 e0 e1 e2 e3 e4 e5 e6 e7 e8 e9 f0 f1 f2 f3 f4 f5 f6 f7 f8 f9
     try simp only [Act.put,J1,J2,J3]
     refine Jr (rs:=[0]) (by kernel_rfl) (by simp) (Jd rfl (fun K0 hK => ?_) Je)
     ·obtain ⟨⟨e0,e1,e2,e3,e4,e5,e6,e7⟩,e8,e9,⟨f0,f1,f2,f3,f4,f5,f6,f7⟩,f8,f9⟩:=HV9.out.cells
      go_simp
      refine hK.out _ _ trivial (fun _ => ?_)
      clear hK K0 e0 e1 e2 e3 e4 e5 e6 e7 e8 e9 f0 f1 f2 f3 f4 f5 f6 f7 f8 f9
      try simp only [Act.put,J1,J2,J3]
      refine Jr (rs:=[2]) (by kernel_rfl) (by simp) (Jd rfl (fun K0 hK => ?_) Je)
      ·obtain ⟨⟨e0,e1,e2,e3,e4,e5,e6,e7⟩,e8,e9,⟨f0,f1,f2,f3,f4,f5,f6,f7⟩,f8,f9⟩:=HV9.out.cells
       go_simp
       have hw:=HWy3.out
       unfold set8 at hw
       rw [hw]
       clear hw
       refine hK.out _ _ trivial (fun _ => ?_)
       clear hK K0 e0 e1 e2 e3 e4 e5 e6 e7 e8 e9 f0 f1 f2 f3 f4 f5 f6 f7 f8 f9
       try simp only [Act.put,J1,J2,J3]
       refine Jr (rs:=[3]) (by kernel_rfl) (by simp) (Jd rfl (fun K0 hK => ?_) Je)
       ·obtain ⟨⟨e0,e1,e2,e3,e4,e5,e6,e7⟩,e8,e9,⟨f0,f1,f2,f3,f4,f5,f6,f7⟩,f8,f9⟩:=HVy3.out.cells
        go_simp
        rw [HWy4.out]
        refine hK.out _ _ trivial (fun _ => ?_)
        clear hK K0 e0 e1 e2 e3 e4 e5 e6 e7 e8 e9 f0 f1 f2 f3 f4 f5 f6 f7 f8 f9
        try simp only [Act.put,J1,J2,J3]
        refine Jr (rs:=[4]) (by kernel_rfl) (by simp) (Jd rfl (fun K0 hK => ?_) Je)
        ·obtain ⟨⟨e0,e1,e2,e3,e4,e5,e6,e7⟩,e8,e9,⟨f0,f1,f2,f3,f4,f5,f6,f7⟩,f8,f9⟩:=HVy4.out.cells
         go_simp
         rw [HWy5.out]
         refine hK.out _ _ trivial (fun _ => ?_)
         clear hK K0 e0 e1 e2 e3 e4 e5 e6 e7 e8 e9 f0 f1 f2 f3 f4 f5 f6 f7 f8 f9
         try simp only [Act.put,J1,J2,J3]
         refine wpAnyH_done (by kernel_rfl) ?_ _
         go_wp2_with fail
         refine z7x rfl rfl rfl rfl HVy5.out ?_
         refine ⟨_,_,_,rfl,?_,HBy5.out⟩
         rw [HCKE.out]
         exact .check HQ.out HQ2.out m n t HALL.out (by rw [← HCKE.out]; exact HC0.out)
theorem parse21_any (names : List ByteArray) (nv : Value) (hs : ∀ s ∈ names,s.size ≤ 1048576) (s : ByteArray) (w : World) (hr : Rdy w) (hn : NRep w w.heap.size nv names) :
 Calls Tryz.prog 65 #[nv,.string s] w fun e w' => ∃ v at_ code,e = .returned (.tuple #[v,.int .i64 at_,.int .i64 code]) ∧ ParseIs names s w' v at_ code ∧ Below w.heap.size w w':=by
 by_cases h : z0z names = 0 ∧ (cutR s).2.2 = 0
 ·exact parse21_good names nv hs s w hr hn h.1 h.2
 ·exact parse21_bad names nv hs s w hr hn h
end Go.Proofs.YtockinpjfhhkoaaGreatDoor
