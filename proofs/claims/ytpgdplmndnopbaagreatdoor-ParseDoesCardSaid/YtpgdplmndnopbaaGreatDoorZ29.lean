/- The parser walked: expressions. (Printed by gen_pst.py.) -/
import Derived.Test.YtpgdplmndnopbaaGreatDoorZ28
import Derived.Test.YtpgdplmndnopbaaGreatDoorZ02
import Derived.Test.YtpgdplmndnopbaaGreatDoorZ05
import Derived.Recover
import Derived.Deep.RegionHeld3
set_option maxRecDepth 100000
set_option maxHeartbeats 16000000
namespace Go.Proofs.YtpgdplmndnopbaaGreatDoor
open Go.RowKit
@[local go_sem] theorem run_store_fn {P : Program} {w : World} {a : Addr} {m : Mode} (fn : Fn) (x y : Array Value) : (store a (.func fn x y) m).run P w = stored P w a (.func fn x y) m:=run_store P w a _ m rfl
def catP (d deep : Nat) (l : List Tok) : PRes X:=z0g [59] (z3b (treR d) deep) (z12 4) l
def andP (d deep : Nat) (l : List Tok) : PRes X:=z0g [38] (catP d deep) (z12 3) l
theorem more_sh {tr : Nat → List Tok → PRes X} (hf : ∀ d l,Sh l (tr d l)) (deep : Nat) (l : List Tok) : Sh l (z3b tr deep l):=fun x r h => by
 unfold z3b at h
 cases e : z3o tr deep l with
 | error z => rw [e] at h; cases h
 | ok p =>
  obtain ⟨x1,r1⟩:=p
  rw [e] at h
  dsimp only at h
  have h1:=base_sh hf deep l _ _ e
  have h2:=plus_sh r1.length x1 r1
  injection h with h
  rw [h] at h2
  dsimp only at h2
  omega
theorem cat_sh (d deep : Nat) (l : List Tok) : Sh l (catP d deep l):=z2i (fun l => more_sh (fun dd l => tre_sh d dd l) deep l) l
theorem and_sh (d deep : Nat) (l : List Tok) : Sh l (andP d deep l):=z2i (fun l => cat_sh d deep l) l
theorem cat89_any (pb tb d deep kp : Nat) (hp4 : 4 ≤ pb) (htre : TreC pb tb d) (l : List Tok) (w : World) (hd : deep ≤ 64) (hdd : 64 ≤ deep + d) (hrd : Rdy w) (h : Ps pb tb w l deep) (hkp : w.heap[kp]? = some (.cells #[.pointer (some ⟨pb,0,none⟩)] 79 (0,0))) :
 Calls Tryz.prog 89 #[.pointer (some ⟨kp,0,none⟩)] w (OutX pb tb deep w (catP d deep l)):=by
 have HKPP:=Lib.hid (h.other hkp (by decide))
 obtain ⟨kr,hkr⟩ : ∃ kr,kr = w.heap.size:=⟨_,rfl⟩
 have hpb:=h.lt
 have htb:=h.tb_lt
 have hkpl:=(Array.getElem?_eq_some_iff.1 hkp).1
 obtain ⟨WIN,hWIN⟩ : ∃ WIN,WIN = w.alloc (.cells #[.int .u8 0,.slice none 0 0,.slice none 0 0,.int .i64 0,.bool false,.int .i64 0,.bool false,.bool false] 28):=⟨_,rfl⟩
 have hB : Bt pb w WIN:=by rw [hWIN]; exact (Bt.refl pb w).alloc _
 have hP : Ps pb tb WIN l deep:=by rw [hWIN]; exact h.alloc _
 have HKP : Hid (WIN.heap[kp]? = some (.cells #[.pointer (some ⟨pb,0,none⟩)] 79 (0,0))):=by rw [Hid,hWIN]; exact z0d hkp
 have HKR : Hid (WIN.heap[kr]? = some (.cells #[.int .u8 0,.slice none 0 0,.slice none 0 0,.int .i64 0,.bool false,.int .i64 0,.bool false,.bool false] 28 (0,0))):=by rw [Hid,hWIN]; exact z06 hkr
 have HS : Hid (∀ W : World,W.heap[kp]? = some (.cells #[.pointer (some ⟨pb,0,none⟩)] 79 (0,0)) → W.cell? ⟨kp,0,none⟩ = some (Value.pointer (some ⟨pb,0,none⟩))):=fun W hW => Lib.cell_of_heap hW 0
 have hCH:=z56 pb tb deep ⟨#[59]⟩ (by decide) 91 #[.pointer (some ⟨pb,0,none⟩)] #[] (z2x Tryz.func91 (by kernel_rfl) (by kernel_rfl)) WIN.heap.size 4 (z3b (treR d) deep) (fun l x r e => more_sh (fun dd l => tre_sh d dd l) deep l x r e)
  l (WIN.drew.alloc (.cells #[.int .u8 4] 5)) (hP.drew.alloc _) (z06 rfl)
  (fun w' l' hb hp => by have:=more91_any pb tb d hp4 htre deep l' w' hd hdd (hrd.bt hp4 (hB.trans (((Bt.refl pb WIN).drew.alloc _).trans hb))) hp; simpa using this)
 obtain ⟨RES,hRES⟩ : ∃ RES,RES = catP d deep l:=⟨_,rfl⟩
 rw [← hRES]
 have HCH : Hid (Calls Tryz.prog 90 #[.pointer (some ⟨pb,0,none⟩),.string ⟨#[59]⟩,.func (.func 91) #[.pointer (some ⟨pb,0,none⟩)] #[],.func (.func 141) #[] #[.pointer (some ⟨WIN.heap.size,0,none⟩)]] (WIN.drew.alloc (.cells #[.int .u8 4] 5)) (OutX pb tb deep (WIN.drew.alloc (.cells #[.int .u8 4] 5)) RES)):=by
  rw [hRES]; exact hCH
 have HB:=Lib.hid hB
 have hmf : ∀ (fn : Fn) (first cap : Array Value) (w : World),(Instr.makeFunc fn first cap).run Tryz.prog w = .ok (.func fn first cap) w:=fun _ _ _ _ => rfl
 have HWN:=Lib.hid hWIN.symm
 have HKQ:=Lib.hid hkr.symm
 have hle : w.heap.size ≤ kr:=by omega
 clear hB hP hCH hRES h hkp hrd htre hWIN hkr
 go_enter Tryz.func89,Tryz.ntmps89
 go_wp2_with fail
 rw [HWN.out,HKQ.out]
 clear HWN HKQ
 refine wp_region_held_drew (S:=fun W => W.cell? ⟨kp,0,none⟩ = some (Value.pointer (some ⟨pb,0,none⟩))) (by kernel_rfl) (HS.out _ HKP.out) (fun hHeld => ?_)
 refine wpAnyH_take (i:=0) (v:=?_) rfl (by kernel_rfl) (by kernel_rfl) (by kernel_rfl) (fun _ _ _ h => h) (Or.inl ⟨by kernel_rfl,?_⟩) (by assumption) ?_
 rotate_left
 ·(intro w hSw; (try dsimp only at hSw); go_simp)
  with_reducible rfl
 try simp only [Act.put,List.setIfInBounds_toArray]
 refine wpAnyH_take (i:=1) (v:=?_) rfl (by kernel_rfl) (by kernel_rfl) (by kernel_rfl) (fun _ _ _ h => h) (Or.inl ⟨by kernel_rfl,?_⟩) (by assumption) ?_
 rotate_left
 ·(intro w hSw; (try dsimp only at hSw); go_simp)
  with_reducible rfl
 try simp only [Act.put]
 refine wpAnyH_take (i:=2) (v:=?_) rfl (by kernel_rfl) (by kernel_rfl) (by kernel_rfl) (fun _ _ _ h => h) (Or.inl ⟨by kernel_rfl,?_⟩) (by assumption) ?_
 rotate_left
 ·(intro w hSw; (try dsimp only at hSw); go_simp)
  with_reducible rfl
 try simp only [Act.put]
 refine wpAnyH_ready (rs:=[3]) (by kernel_rfl) (by simp) ?_
 refine AllReadyH.cons rfl (fun K0 hK => ?_) AllReadyH.nil
 go_simp
 go_at_call 92
 refine (z5p 4 _).mono ?_
 rintro e wt ⟨rfl,rfl⟩
 dsimp only
 refine hK.out _ _ (HS.out _ (z0d HKP.out)) (fun _ => ?_)
 clear hK K0
 try simp only [Act.put,List.setIfInBounds_toArray,List.set_cons_zero,List.set_cons_succ]
 refine wpAnyH_ready (rs:=[4]) (by kernel_rfl) (by simp) ?_
 refine AllReadyH.cons rfl (fun K0 hK => ?_) AllReadyH.nil
 go_simp
 go_at_call 90
 cases q : RES with
 | error c =>
  refine (HCH.out.mono ?_)
  rw [q]
  rintro e w3 ⟨rfl,hb⟩
  have HB3:=Lib.hid (HB.out.trans (((Bt.refl pb WIN).drew.alloc _).trans hb))
  clear hb
  dsimp only
  go_wp2_with fail
  exact ⟨rfl,rfl,HB3.out⟩
 | ok xr =>
  obtain ⟨x,r⟩:=xr
  refine (HCH.out.mono ?_)
  rw [q]
  rintro e w3 ho
  obtain ⟨k1,a1,m1,c1,b1,o1,qq1,lo1,ls1,hi1,hs1,op1,rfl,hf,hp,hb⟩:=OutX.ok ho
  have hbw:=((Bt.refl pb WIN).drew.alloc (.cells #[.int .u8 4] 5)).trans hb
  have hkr3:=hbw.at HKR.out (by omega)
  have hkp3:=hbw.at HKP.out HKPP.out
  obtain ⟨e0,e1,e2,e3,e4,e5,e6,e7,f0,f1,f2,f3,f4,f5,f6,f7⟩:=cf8 hkr3
  have hsz:=HB.out.2.2.2.1
  have HAT : Hid ((set8 w3 kr (.int .u8 k1) (.slice a1 m1 c1) (.slice b1 o1 qq1) (.int .i64 lo1) (.bool ls1) (.int .i64 hi1) (.bool hs1) (.bool op1)).heap[kr]? = some (.cells #[.int .u8 k1,.slice a1 m1 c1,.slice b1 o1 qq1,.int .i64 lo1,.bool ls1,.int .i64 hi1,.bool hs1,.bool op1] 28 (0,0))):=z0c hkr3 _ _ _ _ _ _ _ _
  have HOUT : Hid (OutX pb tb deep w (.ok (x,r)) (.returned (.agg #[.int .u8 k1,.slice a1 m1 c1,.slice b1 o1 qq1,.int .i64 lo1,.bool ls1,.int .i64 hi1,.bool hs1,.bool op1])) (set8 w3 kr (.int .u8 k1) (.slice a1 m1 c1) (.slice b1 o1 qq1) (.int .i64 lo1) (.bool ls1) (.int .i64 hi1) (.bool hs1) (.bool op1))):=by
   refine ⟨_,rfl,?_,hp.set8 (by omega) (by omega) _ _ _ _ _ _ _ _,(HB.out.trans hbw).set8 (by omega) _ _ _ _ _ _ _ _⟩
   have hwin:=(Array.getElem?_eq_some_iff.1 HKR.out).1
   refine hf.go ⟨by rw [z0b]; exact Nat.le_refl _,fun b hbz hpn => ?_⟩
   have hpn':=of_decide_eq_true hpn
   have hws : (WIN.drew.alloc (.cells #[.int .u8 4] 5)).heap.size = WIN.heap.size + 1:=Array.size_push ..
   rw [hws] at hpn'
   exact ⟨decide_eq_true (show w.heap.size ≤ b by omega),z03 _ _ _ _ _ _ _ _ _ _ _ (by omega)⟩
  have HKP3 : Hid ((set8 w3 kr (.int .u8 k1) (.slice a1 m1 c1) (.slice b1 o1 qq1) (.int .i64 lo1) (.bool ls1) (.int .i64 hi1) (.bool hs1) (.bool op1)).cell? ⟨kp,0,none⟩ = some (Value.pointer (some ⟨pb,0,none⟩))) :=
   Lib.cell_of_heap ((z03 w3 kr _ _ _ _ _ _ _ _ kp (by omega)).trans hkp3) 0
  have hs3:=(HS.out _ hkp3)
  clear ho hf hp hb hbw hkr3 hkp3 hsz
  dsimp only
  refine hK.out _ _ hs3 (fun _ => ?_)
  clear hK K0
  try simp only [Act.put,List.setIfInBounds_toArray,List.set_cons_zero,List.set_cons_succ]
  refine wpAnyH_ready (rs:=[5]) (by kernel_rfl) (by simp) ?_
  refine AllReadyH.cons rfl (fun K0 hK => ?_) AllReadyH.nil
  go_simp
  refine hK.out _ _ HKP3.out (fun _ => ?_)
  clear hK K0
  try simp only [Act.put,List.setIfInBounds_toArray,List.set_cons_zero,List.set_cons_succ]
  refine wpAnyH_done (by kernel_rfl) ?_ _
  go_wp2_with fail
  first | refine And.intro rfl (Exists.intro _ (And.intro (results_cell_row rfl _ _ _ _ _ _ _ rfl HAT.out Tryz.underlying28 rfl (by kernel_rfl)) ?_)) | refine bodyPost_ret (results_cell_row rfl _ _ _ _ _ _ _ rfl HAT.out Tryz.underlying28 rfl (by kernel_rfl)) rfl ?_
  first | exact HOUT.out | (rw [q]; exact HOUT.out)
theorem and93_any (pb tb d deep kp kf : Nat) (hp4 : 4 ≤ pb) (htre : TreC pb tb d) (l : List Tok) (w : World) (hd : deep ≤ 64) (hdd : 64 ≤ deep + d) (hrd : Rdy w) (h : Ps pb tb w l deep) (hkp : w.heap[kp]? = some (.cells #[.pointer (some ⟨pb,0,none⟩)] 79 (0,0))) (hkf : w.heap[kf]? = some (.cells #[.func (.func 89) #[] #[.pointer (some ⟨kp,0,none⟩)]] 82 (0,0))) :
 Calls Tryz.prog 93 #[.pointer (some ⟨kp,0,none⟩),.pointer (some ⟨kf,0,none⟩)] w (OutX pb tb deep w (andP d deep l)):=by
 have HKPP:=Lib.hid (h.other hkp (by decide))
 have HKFP:=Lib.hid (h.other hkf (by decide))
 obtain ⟨kr,hkr⟩ : ∃ kr,kr = w.heap.size:=⟨_,rfl⟩
 have hpb:=h.lt
 have htb:=h.tb_lt
 have hkpl:=(Array.getElem?_eq_some_iff.1 hkp).1
 have hkfl:=(Array.getElem?_eq_some_iff.1 hkf).1
 obtain ⟨WIN,hWIN⟩ : ∃ WIN,WIN = w.alloc (.cells #[.int .u8 0,.slice none 0 0,.slice none 0 0,.int .i64 0,.bool false,.int .i64 0,.bool false,.bool false] 28):=⟨_,rfl⟩
 have hB : Bt pb w WIN:=by rw [hWIN]; exact (Bt.refl pb w).alloc _
 have hP : Ps pb tb WIN l deep:=by rw [hWIN]; exact h.alloc _
 have HKP : Hid (WIN.heap[kp]? = some (.cells #[.pointer (some ⟨pb,0,none⟩)] 79 (0,0))):=by rw [Hid,hWIN]; exact z0d hkp
 have HKF : Hid (WIN.heap[kf]? = some (.cells #[.func (.func 89) #[] #[.pointer (some ⟨kp,0,none⟩)]] 82 (0,0))):=by rw [Hid,hWIN]; exact z0d hkf
 have HKR : Hid (WIN.heap[kr]? = some (.cells #[.int .u8 0,.slice none 0 0,.slice none 0 0,.int .i64 0,.bool false,.int .i64 0,.bool false,.bool false] 28 (0,0))):=by rw [Hid,hWIN]; exact z06 hkr
 have HS : Hid (∀ W : World,W.heap[kp]? = some (.cells #[.pointer (some ⟨pb,0,none⟩)] 79 (0,0)) → W.heap[kf]? = some (.cells #[.func (.func 89) #[] #[.pointer (some ⟨kp,0,none⟩)]] 82 (0,0)) → W.cell? ⟨kp,0,none⟩ = some (Value.pointer (some ⟨pb,0,none⟩)) ∧ W.cell? ⟨kf,0,none⟩ = some (Value.func (.func 89) #[] #[.pointer (some ⟨kp,0,none⟩)])):=fun W hW hF => ⟨Lib.cell_of_heap hW 0,Lib.cell_of_heap hF 0⟩
 have hCH:=z56 pb tb deep ⟨#[38]⟩ (by decide) 89 #[] #[.pointer (some ⟨kp,0,none⟩)] (z2x Tryz.func89 (by kernel_rfl) (by kernel_rfl)) WIN.heap.size 3 (catP d deep) (fun l x r e => cat_sh d deep l x r e)
  l (WIN.drew.alloc (.cells #[.int .u8 3] 5)) (hP.drew.alloc _) (z06 rfl)
  (fun w' l' hb hp => by
   have hbb:=((Bt.refl pb WIN).drew.alloc (.cells #[.int .u8 3] 5)).trans hb
   have:=cat89_any pb tb d deep kp hp4 htre l' w' hd hdd (hrd.bt hp4 (hB.trans hbb)) hp (hbb.at HKP.out HKPP.out)
   simpa using this)
 obtain ⟨RES,hRES⟩ : ∃ RES,RES = andP d deep l:=⟨_,rfl⟩
 rw [← hRES]
 have HCH : Hid (Calls Tryz.prog 90 #[.pointer (some ⟨pb,0,none⟩),.string ⟨#[38]⟩,.func (.func 89) #[] #[.pointer (some ⟨kp,0,none⟩)],.func (.func 141) #[] #[.pointer (some ⟨WIN.heap.size,0,none⟩)]] (WIN.drew.alloc (.cells #[.int .u8 3] 5)) (OutX pb tb deep (WIN.drew.alloc (.cells #[.int .u8 3] 5)) RES)):=by
  rw [hRES]; exact hCH
 have HB:=Lib.hid hB
 have hmf : ∀ (fn : Fn) (first cap : Array Value) (w : World),(Instr.makeFunc fn first cap).run Tryz.prog w = .ok (.func fn first cap) w:=fun _ _ _ _ => rfl
 have HWN:=Lib.hid hWIN.symm
 have HKQ:=Lib.hid hkr.symm
 have hle : w.heap.size ≤ kr:=by omega
 clear hB hP hCH hRES h hkp hkf hrd htre hWIN hkr
 go_enter Tryz.func93,Tryz.ntmps93
 go_wp2_with fail
 rw [HWN.out,HKQ.out]
 clear HWN HKQ
 refine wp_region_held_drew (S:=fun W => W.cell? ⟨kp,0,none⟩ = some (Value.pointer (some ⟨pb,0,none⟩)) ∧ W.cell? ⟨kf,0,none⟩ = some (Value.func (.func 89) #[] #[.pointer (some ⟨kp,0,none⟩)])) (by kernel_rfl) (HS.out _ HKP.out HKF.out) (fun hHeld => ?_)
 refine wpAnyH_take (i:=0) (v:=?_) rfl (by kernel_rfl) (by kernel_rfl) (by kernel_rfl) (fun _ _ _ h => h) (Or.inl ⟨by kernel_rfl,?_⟩) (by assumption) ?_
 rotate_left
 ·(intro w hSw; (try dsimp only at hSw); go_simp)
  with_reducible rfl
 try simp only [Act.put,List.setIfInBounds_toArray]
 refine wpAnyH_take (i:=1) (v:=?_) rfl (by kernel_rfl) (by kernel_rfl) (by kernel_rfl) (fun _ _ _ h => h) (Or.inl ⟨by kernel_rfl,?_⟩) (by assumption) ?_
 rotate_left
 ·(intro w hSw; (try dsimp only at hSw); go_simp)
  with_reducible rfl
 try simp only [Act.put]
 refine wpAnyH_ready (rs:=[2]) (by kernel_rfl) (by simp) ?_
 refine AllReadyH.cons rfl (fun K0 hK => ?_) AllReadyH.nil
 go_simp
 go_at_call 92
 refine (z5p 3 _).mono ?_
 rintro e wt ⟨rfl,rfl⟩
 dsimp only
 refine hK.out _ _ (HS.out _ (z0d HKP.out) (z0d HKF.out)) (fun _ => ?_)
 clear hK K0
 try simp only [Act.put,List.setIfInBounds_toArray,List.set_cons_zero,List.set_cons_succ]
 refine wpAnyH_ready (rs:=[3]) (by kernel_rfl) (by simp) ?_
 refine AllReadyH.cons rfl (fun K0 hK => ?_) AllReadyH.nil
 go_simp
 go_at_call 90
 cases q : RES with
 | error c =>
  refine (HCH.out.mono ?_)
  rw [q]
  rintro e w3 ⟨rfl,hb⟩
  have HB3:=Lib.hid (HB.out.trans (((Bt.refl pb WIN).drew.alloc _).trans hb))
  clear hb
  dsimp only
  go_wp2_with fail
  exact ⟨rfl,rfl,HB3.out⟩
 | ok xr =>
  obtain ⟨x,r⟩:=xr
  refine (HCH.out.mono ?_)
  rw [q]
  rintro e w3 ho
  obtain ⟨k1,a1,m1,c1,b1,o1,qq1,lo1,ls1,hi1,hs1,op1,rfl,hf,hp,hb⟩:=OutX.ok ho
  have hbw:=((Bt.refl pb WIN).drew.alloc (.cells #[.int .u8 3] 5)).trans hb
  have hkr3:=hbw.at HKR.out (by omega)
  have hkp3:=hbw.at HKP.out HKPP.out
  have hkf3:=hbw.at HKF.out HKFP.out
  obtain ⟨e0,e1,e2,e3,e4,e5,e6,e7,f0,f1,f2,f3,f4,f5,f6,f7⟩:=cf8 hkr3
  have hsz:=HB.out.2.2.2.1
  have HAT : Hid ((set8 w3 kr (.int .u8 k1) (.slice a1 m1 c1) (.slice b1 o1 qq1) (.int .i64 lo1) (.bool ls1) (.int .i64 hi1) (.bool hs1) (.bool op1)).heap[kr]? = some (.cells #[.int .u8 k1,.slice a1 m1 c1,.slice b1 o1 qq1,.int .i64 lo1,.bool ls1,.int .i64 hi1,.bool hs1,.bool op1] 28 (0,0))):=z0c hkr3 _ _ _ _ _ _ _ _
  have HOUT : Hid (OutX pb tb deep w (.ok (x,r)) (.returned (.agg #[.int .u8 k1,.slice a1 m1 c1,.slice b1 o1 qq1,.int .i64 lo1,.bool ls1,.int .i64 hi1,.bool hs1,.bool op1])) (set8 w3 kr (.int .u8 k1) (.slice a1 m1 c1) (.slice b1 o1 qq1) (.int .i64 lo1) (.bool ls1) (.int .i64 hi1) (.bool hs1) (.bool op1))):=by
   refine ⟨_,rfl,?_,hp.set8 (by omega) (by omega) _ _ _ _ _ _ _ _,(HB.out.trans hbw).set8 (by omega) _ _ _ _ _ _ _ _⟩
   have hwin:=(Array.getElem?_eq_some_iff.1 HKR.out).1
   refine hf.go ⟨by rw [z0b]; exact Nat.le_refl _,fun b hbz hpn => ?_⟩
   have hpn':=of_decide_eq_true hpn
   have hws : (WIN.drew.alloc (.cells #[.int .u8 3] 5)).heap.size = WIN.heap.size + 1:=Array.size_push ..
   rw [hws] at hpn'
   exact ⟨decide_eq_true (show w.heap.size ≤ b by omega),z03 _ _ _ _ _ _ _ _ _ _ _ (by omega)⟩
  have HKP3 : Hid ((set8 w3 kr (.int .u8 k1) (.slice a1 m1 c1) (.slice b1 o1 qq1) (.int .i64 lo1) (.bool ls1) (.int .i64 hi1) (.bool hs1) (.bool op1)).cell? ⟨kp,0,none⟩ = some (Value.pointer (some ⟨pb,0,none⟩)) ∧ (set8 w3 kr (.int .u8 k1) (.slice a1 m1 c1) (.slice b1 o1 qq1) (.int .i64 lo1) (.bool ls1) (.int .i64 hi1) (.bool hs1) (.bool op1)).cell? ⟨kf,0,none⟩ = some (Value.func (.func 89) #[] #[.pointer (some ⟨kp,0,none⟩)])) :=
   ⟨Lib.cell_of_heap ((z03 w3 kr _ _ _ _ _ _ _ _ kp (by omega)).trans hkp3) 0,Lib.cell_of_heap ((z03 w3 kr _ _ _ _ _ _ _ _ kf (by omega)).trans hkf3) 0⟩
  have hs3:=(HS.out _ hkp3 hkf3)
  clear ho hf hp hb hbw hkr3 hkp3 hsz hkf3
  dsimp only
  refine hK.out _ _ hs3 (fun _ => ?_)
  clear hK K0
  try simp only [Act.put,List.setIfInBounds_toArray,List.set_cons_zero,List.set_cons_succ]
  refine wpAnyH_ready (rs:=[4]) (by kernel_rfl) (by simp) ?_
  refine AllReadyH.cons rfl (fun K0 hK => ?_) AllReadyH.nil
  go_simp
  refine hK.out _ _ HKP3.out (fun _ => ?_)
  clear hK K0
  try simp only [Act.put,List.setIfInBounds_toArray,List.set_cons_zero,List.set_cons_succ]
  refine wpAnyH_done (by kernel_rfl) ?_ _
  go_wp2_with fail
  first | refine And.intro rfl (Exists.intro _ (And.intro (results_cell_row rfl _ _ _ _ _ _ _ rfl HAT.out Tryz.underlying28 rfl (by kernel_rfl)) ?_)) | refine bodyPost_ret (results_cell_row rfl _ _ _ _ _ _ _ rfl HAT.out Tryz.underlying28 rfl (by kernel_rfl)) rfl ?_
  first | exact HOUT.out | (rw [q]; exact HOUT.out)
theorem tre44_any (pb tb : Nat) (hp4 : 4 ≤ pb) : ∀ d : Nat,TreC pb tb d:=by
 intro d
 induction d with
 | zero => intro deep l w hd hdd; exact absurd hdd (by omega)
 | succ d ih =>
  intro deep l w hd hdd hrd h
  obtain ⟨kp,hkpe⟩ : ∃ kp,kp = w.heap.size:=⟨_,rfl⟩
  obtain ⟨kr,hkr⟩ : ∃ kr,kr = w.heap.size + 1:=⟨_,rfl⟩
  obtain ⟨kf,hkfe⟩ : ∃ kf,kf = w.heap.size + 2:=⟨_,rfl⟩
  have hpb:=h.lt
  have htb:=h.tb_lt
  have HKPP : Hid (kp ≠ pb):=by rw [Hid]; omega
  have HKFP : Hid (kf ≠ pb):=by rw [Hid]; omega
  obtain ⟨WIN,hWIN⟩ : ∃ WIN,WIN = ((w.alloc (.cells #[.pointer (some ⟨pb,0,none⟩)] 79)).alloc (.cells #[.int .u8 0,.slice none 0 0,.slice none 0 0,.int .i64 0,.bool false,.int .i64 0,.bool false,.bool false] 28)).alloc (.cells #[.func (.func 89) #[] #[.pointer (some ⟨kp,0,none⟩)]] 82):=⟨_,rfl⟩
  have hB : Bt pb w WIN:=by rw [hWIN]; exact (((Bt.refl pb w).alloc _).alloc _).alloc _
  have hP : Ps pb tb WIN l deep:=by rw [hWIN]; exact ((h.alloc _).alloc _).alloc _
  have HKP : Hid (WIN.heap[kp]? = some (.cells #[.pointer (some ⟨pb,0,none⟩)] 79 (0,0))):=by rw [Hid,hWIN]; exact z0d (z0d (z06 hkpe))
  have HKR : Hid (WIN.heap[kr]? = some (.cells #[.int .u8 0,.slice none 0 0,.slice none 0 0,.int .i64 0,.bool false,.int .i64 0,.bool false,.bool false] 28 (0,0))):=by rw [Hid,hWIN]; exact z0d (z06 (by simp [hkr]))
  have HKF : Hid (WIN.heap[kf]? = some (.cells #[.func (.func 89) #[] #[.pointer (some ⟨kp,0,none⟩)]] 82 (0,0))):=by rw [Hid,hWIN]; exact z06 (by simp [hkfe])
  have hkpl : kp < kr:=by omega
  have HS : Hid (∀ W : World,W.heap[kp]? = some (.cells #[.pointer (some ⟨pb,0,none⟩)] 79 (0,0)) → W.cell? ⟨kp,0,none⟩ = some (Value.pointer (some ⟨pb,0,none⟩))):=fun W hW => Lib.cell_of_heap hW 0
  have hCH:=z56 pb tb deep ⟨#[124]⟩ (by decide) 93 #[] #[.pointer (some ⟨kp,0,none⟩),.pointer (some ⟨kf,0,none⟩)] (z2x Tryz.func93 (by kernel_rfl) (by kernel_rfl)) WIN.heap.size 2 (andP d deep) (fun l x r e => and_sh d deep l x r e)
   l (WIN.drew.alloc (.cells #[.int .u8 2] 5)) (hP.drew.alloc _) (z06 rfl)
   (fun w' l' hb hp => by
    have hbb:=((Bt.refl pb WIN).drew.alloc (.cells #[.int .u8 2] 5)).trans hb
    have:=and93_any pb tb d deep kp kf hp4 ih l' w' hd (by omega) (hrd.bt hp4 (hB.trans hbb)) hp (hbb.at HKP.out HKPP.out) (hbb.at HKF.out HKFP.out)
    simpa using this)
  obtain ⟨RES,hRES⟩ : ∃ RES,RES = treR (d + 1) deep l:=⟨_,rfl⟩
  rw [← hRES]
  have HCH : Hid (Calls Tryz.prog 90 #[.pointer (some ⟨pb,0,none⟩),.string ⟨#[124]⟩,.func (.func 93) #[] #[.pointer (some ⟨kp,0,none⟩),.pointer (some ⟨kf,0,none⟩)],.func (.func 141) #[] #[.pointer (some ⟨WIN.heap.size,0,none⟩)]] (WIN.drew.alloc (.cells #[.int .u8 2] 5)) (OutX pb tb deep (WIN.drew.alloc (.cells #[.int .u8 2] 5)) RES)):=by
   rw [hRES]; exact hCH
  have HB:=Lib.hid hB
  have hmf : ∀ (fn : Fn) (first cap : Array Value) (w : World),(Instr.makeFunc fn first cap).run Tryz.prog w = .ok (.func fn first cap) w:=fun _ _ _ _ => rfl
  have HWN:=Lib.hid hWIN.symm
  have HKQ:=Lib.hid hkr.symm
  have HKO:=Lib.hid hkpe.symm
  have HKG:=Lib.hid hkfe.symm
  have hle : w.heap.size ≤ kr:=by omega
  clear hB hP hCH hRES h hrd ih hWIN hkr hkpe hkfe
  go_enter Tryz.func44,Tryz.ntmps44
  go_wp2_with fail
  try rw [HKG.out]
  rw [HKQ.out,HKO.out]
  rw [HWN.out]
  clear HWN HKQ HKO
  refine wp_region_held_drew (S:=fun W => W.cell? ⟨kp,0,none⟩ = some (Value.pointer (some ⟨pb,0,none⟩))) (by kernel_rfl) (HS.out _ HKP.out) (fun hHeld => ?_)
  refine wpAnyH_take (i:=0) (v:=?_) rfl (by kernel_rfl) (by kernel_rfl) (by kernel_rfl) (fun _ _ _ h => h) (Or.inl ⟨by kernel_rfl,?_⟩) (by assumption) ?_
  rotate_left
  ·(intro w hSw; (try dsimp only at hSw); go_simp)
   with_reducible rfl
  try simp only [Act.put,List.setIfInBounds_toArray]
  refine wpAnyH_take (i:=1) (v:=?_) rfl (by kernel_rfl) (by kernel_rfl) (by kernel_rfl) (fun _ _ _ h => h) (Or.inl ⟨by kernel_rfl,?_⟩) (by assumption) ?_
  rotate_left
  ·(intro w hSw; (try dsimp only at hSw); go_simp)
   with_reducible rfl
  try simp only [Act.put]
  refine wpAnyH_ready (rs:=[2]) (by kernel_rfl) (by simp) ?_
  refine AllReadyH.cons rfl (fun K0 hK => ?_) AllReadyH.nil
  go_simp
  go_at_call 92
  refine (z5p 2 _).mono ?_
  rintro e wt ⟨rfl,rfl⟩
  dsimp only
  refine hK.out _ _ (HS.out _ (z0d HKP.out)) (fun _ => ?_)
  clear hK K0
  try simp only [Act.put,List.setIfInBounds_toArray,List.set_cons_zero,List.set_cons_succ]
  refine wpAnyH_ready (rs:=[3]) (by kernel_rfl) (by simp) ?_
  refine AllReadyH.cons rfl (fun K0 hK => ?_) AllReadyH.nil
  go_simp
  go_at_call 90
  cases q : RES with
  | error c =>
   refine (HCH.out.mono ?_)
   rw [q]
   rintro e w3 ⟨rfl,hb⟩
   have HB3:=Lib.hid (HB.out.trans (((Bt.refl pb WIN).drew.alloc _).trans hb))
   clear hb
   dsimp only
   go_wp2_with fail
   exact ⟨rfl,rfl,HB3.out⟩
  | ok xr =>
   obtain ⟨x,r⟩:=xr
   refine (HCH.out.mono ?_)
   rw [q]
   rintro e w3 ho
   obtain ⟨k1,a1,m1,c1,b1,o1,qq1,lo1,ls1,hi1,hs1,op1,rfl,hf,hp,hb⟩:=OutX.ok ho
   have hbw:=((Bt.refl pb WIN).drew.alloc (.cells #[.int .u8 2] 5)).trans hb
   have hkr3:=hbw.at HKR.out (by omega)
   have hkp3:=hbw.at HKP.out HKPP.out
   obtain ⟨e0,e1,e2,e3,e4,e5,e6,e7,f0,f1,f2,f3,f4,f5,f6,f7⟩:=cf8 hkr3
   have hsz:=HB.out.2.2.2.1
   have HAT : Hid ((set8 w3 kr (.int .u8 k1) (.slice a1 m1 c1) (.slice b1 o1 qq1) (.int .i64 lo1) (.bool ls1) (.int .i64 hi1) (.bool hs1) (.bool op1)).heap[kr]? = some (.cells #[.int .u8 k1,.slice a1 m1 c1,.slice b1 o1 qq1,.int .i64 lo1,.bool ls1,.int .i64 hi1,.bool hs1,.bool op1] 28 (0,0))):=z0c hkr3 _ _ _ _ _ _ _ _
   have HOUT : Hid (OutX pb tb deep w (.ok (x,r)) (.returned (.agg #[.int .u8 k1,.slice a1 m1 c1,.slice b1 o1 qq1,.int .i64 lo1,.bool ls1,.int .i64 hi1,.bool hs1,.bool op1])) (set8 w3 kr (.int .u8 k1) (.slice a1 m1 c1) (.slice b1 o1 qq1) (.int .i64 lo1) (.bool ls1) (.int .i64 hi1) (.bool hs1) (.bool op1))):=by
    refine ⟨_,rfl,?_,hp.set8 (by omega) (by omega) _ _ _ _ _ _ _ _,(HB.out.trans hbw).set8 (by omega) _ _ _ _ _ _ _ _⟩
    have hwin:=(Array.getElem?_eq_some_iff.1 HKR.out).1
    refine hf.go ⟨by rw [z0b]; exact Nat.le_refl _,fun b hbz hpn => ?_⟩
    have hpn':=of_decide_eq_true hpn
    have hws : (WIN.drew.alloc (.cells #[.int .u8 2] 5)).heap.size = WIN.heap.size + 1:=Array.size_push ..
    rw [hws] at hpn'
    exact ⟨decide_eq_true (show w.heap.size ≤ b by omega),z03 _ _ _ _ _ _ _ _ _ _ _ (by omega)⟩
   have HKP3 : Hid ((set8 w3 kr (.int .u8 k1) (.slice a1 m1 c1) (.slice b1 o1 qq1) (.int .i64 lo1) (.bool ls1) (.int .i64 hi1) (.bool hs1) (.bool op1)).cell? ⟨kp,0,none⟩ = some (Value.pointer (some ⟨pb,0,none⟩))) :=
    Lib.cell_of_heap ((z03 w3 kr _ _ _ _ _ _ _ _ kp (by omega)).trans hkp3) 0
   have hs3:=(HS.out _ hkp3)
   clear ho hf hp hb hbw hkr3 hkp3 hsz
   dsimp only
   refine hK.out _ _ hs3 (fun _ => ?_)
   clear hK K0
   try simp only [Act.put,List.setIfInBounds_toArray,List.set_cons_zero,List.set_cons_succ]
   refine wpAnyH_ready (rs:=[4]) (by kernel_rfl) (by simp) ?_
   refine AllReadyH.cons rfl (fun K0 hK => ?_) AllReadyH.nil
   go_simp
   refine hK.out _ _ HKP3.out (fun _ => ?_)
   clear hK K0
   try simp only [Act.put,List.setIfInBounds_toArray,List.set_cons_zero,List.set_cons_succ]
   refine wpAnyH_done (by kernel_rfl) ?_ _
   go_wp2_with fail
   first | refine And.intro rfl (Exists.intro _ (And.intro (results_cell_row rfl _ _ _ _ _ _ _ rfl HAT.out Tryz.underlying28 rfl (by kernel_rfl)) ?_)) | refine bodyPost_ret (results_cell_row rfl _ _ _ _ _ _ _ rfl HAT.out Tryz.underlying28 rfl (by kernel_rfl)) rfl ?_
   first | exact HOUT.out | (rw [q]; exact HOUT.out)
end Go.Proofs.YtpgdplmndnopbaaGreatDoor
namespace Go.Proofs.YtpgdplmndnopbaaGreatDoor
open Go.RowKit
theorem clo43_idle (a b c : Value) (w : World) :
 CallsD Tryz.prog 43 #[a,b,c] .returning w fun e u' w' => e = .returned (.tuple #[]) ∧ u' = .returning ∧ w' = w:=by
 refine callsD_of_wpS Tryz.func43 rfl fun c₀ cs hu => ?_
 simp only [Tryz.ntmps43,List.size_toArray,List.length_cons,List.length_nil,Nat.reduceAdd,Nat.reduceSub,Array.replicate_succ,Array.replicate_zero,List.push_toArray,List.append_toArray,List.nil_append,List.cons_append]
 apply wpS_seq
 apply wpS_region
 simp [wpOpsS,go_sem,recoverD,hu,Exit.thenS]
 refine wpS_of_wp ?_
 go_wp2_with fail
 cases c₀
 simp_all [bodyPostS,results,Tryz.results43]
theorem Below.set8 {B : Nat} {w w' : World} (h : Below B w w') {g : Nat} (hg : B ≤ g) (y0 y1 y2 y3 y4 y5 y6 y7 : Value) : Below B w (set8 w' g y0 y1 y2 y3 y4 y5 y6 y7) :=
 ((((((((h.setCell (p:=⟨g,0,none⟩) hg y0).setCell (p:=⟨g,1,none⟩) hg y1).setCell (p:=⟨g,2,none⟩) hg y2).setCell (p:=⟨g,3,none⟩) hg y3).setCell (p:=⟨g,4,none⟩) hg y4).setCell (p:=⟨g,5,none⟩) hg y5).setCell (p:=⟨g,6,none⟩) hg y6).setCell (p:=⟨g,7,none⟩) hg y7)
theorem drewh (w : World) : w.drew.heap = w.heap:=rfl
theorem assert77 (v : Value) (W : World) : (Instr.typeAssert (.iface 77 v) 20 77 true).run Tryz.prog W = .ok (.tuple #[v,.bool true]) W:=by kernel_rfl
def Caught (k4 k5 k6 : Nat) (c at_ : Int) (w w' : World) : Prop :=
 w'.heap[k4]? = some (.cells #[.int .u8 0,.slice none 0 0,.slice none 0 0,.int .i64 0,.bool false,.int .i64 0,.bool false,.bool false] 28 (0,0)) ∧
  w'.heap[k5]? = some (.cells #[.int .i64 at_] 3 (0,0)) ∧ w'.heap[k6]? = some (.cells #[.int .i64 c] 32 (0,0)) ∧
  w'.os = w.os ∧ w'.tape = w.tape ∧ w'.output = w.output ∧ w.heap.size ≤ w'.heap.size ∧ ∀ k,k < w.heap.size → k ≠ k4 → k ≠ k5 → k ≠ k6 → w'.heap[k]? = w.heap[k]?
theorem clo43_caught (k4 k5 k6 : Nat) (x0 x1 x2 x3 x4 x5 x6 x7 y z : Value) (c at_ : Int) (w : World)
 (h4 : w.heap[k4]? = some (.cells #[x0,x1,x2,x3,x4,x5,x6,x7] 28 (0,0))) (h5 : w.heap[k5]? = some (.cells #[y] 3 (0,0))) (h6 : w.heap[k6]? = some (.cells #[z] 32 (0,0))) (h45 : k4 ≠ k5) (h46 : k4 ≠ k6) (h56 : k5 ≠ k6) :
 CallsD Tryz.prog 43 #[.pointer (some ⟨k4,0,none⟩),.pointer (some ⟨k5,0,none⟩),.pointer (some ⟨k6,0,none⟩)] (.panicking (thr c at_)) w fun e u' w' =>
  e = .returned (.tuple #[]) ∧ u' = .panicking [{ v:=.iface 77 (.agg #[.int .i64 c,.int .i64 at_]),recovered:=true }] ∧ Caught k4 k5 k6 c at_ w w':=by
 obtain ⟨WA,hWA⟩ : ∃ WA,WA = w.alloc (.cells #[.int .i64 c,.int .i64 at_] 77):=⟨_,rfl⟩
 have l4:=(Array.getElem?_eq_some_iff.1 h4).1
 have l5:=(Array.getElem?_eq_some_iff.1 h5).1
 have l6:=(Array.getElem?_eq_some_iff.1 h6).1
 have g4 : WA.heap[k4]? = some (.cells #[x0,x1,x2,x3,x4,x5,x6,x7] 28 (0,0)):=by rw [hWA]; exact z0d h4
 have g5 : WA.heap[k5]? = some (.cells #[y] 3 (0,0)):=by rw [hWA]; exact z0d h5
 have g6 : WA.heap[k6]? = some (.cells #[z] 32 (0,0)):=by rw [hWA]; exact z0d h6
 have gb : WA.heap[w.heap.size]? = some (.cells #[.int .i64 c,.int .i64 at_] 77 (0,0)):=by rw [hWA]; exact z06 rfl
 have gz : WA.heap.size = w.heap.size + 1:=by rw [hWA]; simp
 obtain ⟨W1,hW1⟩ : ∃ W1,W1 = (set8 WA k4 (.int .u8 0) (.slice none 0 0) (.slice none 0 0) (.int .i64 0) (.bool false) (.int .i64 0) (.bool false) (.bool false)).drew:=⟨_,rfl⟩
 obtain ⟨W2,hW2⟩ : ∃ W2,W2 = W1.setCell ⟨k5,0,none⟩ (.int .i64 at_):=⟨_,rfl⟩
 obtain ⟨W3,hW3⟩ : ∃ W3,W3 = W2.setCell ⟨k6,0,none⟩ (.int .i64 c):=⟨_,rfl⟩
 have o1 : ∀ j,j ≠ k4 → W1.heap[j]? = WA.heap[j]?:=fun j hj => by rw [hW1,drewh]; exact z03 _ _ _ _ _ _ _ _ _ _ _ hj
 have o2 : ∀ j,j ≠ k5 → W2.heap[j]? = W1.heap[j]?:=fun j hj => by rw [hW2]; exact z02 _ _ _ _ _ hj
 have o3 : ∀ j,j ≠ k6 → W3.heap[j]? = W2.heap[j]?:=fun j hj => by rw [hW3]; exact z02 _ _ _ _ _ hj
 have a1 : W1.heap[k4]? = some (.cells #[.int .u8 0,.slice none 0 0,.slice none 0 0,.int .i64 0,.bool false,.int .i64 0,.bool false,.bool false] 28 (0,0)):=by rw [hW1,drewh]; exact z0c g4 _ _ _ _ _ _ _ _
 have a15 : W1.heap[k5]? = some (.cells #[y] 3 (0,0)):=(o1 _ h45.symm).trans g5
 have a2 : W2.heap[k5]? = some (.cells #[.int .i64 at_] 3 (0,0)):=by rw [hW2]; exact z09 a15 0 _
 have a26 : W2.heap[k6]? = some (.cells #[z] 32 (0,0)):=(o2 _ h56.symm).trans ((o1 _ h46.symm).trans g6)
 have a3 : W3.heap[k6]? = some (.cells #[.int .i64 c] 32 (0,0)):=by rw [hW3]; exact z09 a26 0 _
 have z3 : W3.heap.size = w.heap.size + 1:=by rw [hW3,hW2,hW1]; simp only [World.setCell,Array.size_modify,drewh,z0b]; exact gz
 have hB3 : Below 0 w W3:=by
  rw [hW3,hW2,hW1,hWA]
  exact ((Below.set8 ((Below.refl 0 w).alloc (Nat.zero_le _) _) (Nat.zero_le _) _ _ _ _ _ _ _ _).drew.setCell (p:=⟨k5,0,none⟩) (Nat.zero_le _) _).setCell (p:=⟨k6,0,none⟩) (Nat.zero_le _) _
 have HEND : Hid (Caught k4 k5 k6 c at_ w W3):=by
  refine ⟨(o3 _ h46).trans ((o2 _ h45).trans a1),(o3 _ h56).trans a2,a3,hB3.os,hB3.tape,hB3.output,by omega,fun k hk n4 n5 n6 => ?_⟩
  ·rw [o3 _ n6,o2 _ n5,o1 _ n4,hWA]; exact Lib.alloc_old _ _ _ hk
 have HSA : Hid (WA.cell? ⟨w.heap.size,0,none⟩ = some (.int .i64 c) ∧ WA.cell? ⟨w.heap.size,1,none⟩ = some (.int .i64 at_)):=⟨Lib.cell_of_heap gb 0,Lib.cell_of_heap gb 1⟩
 have b1:=(o1 w.heap.size (by omega)).trans gb
 have b2:=(o2 w.heap.size (by omega)).trans b1
 have b3:=(o3 w.heap.size (by omega)).trans b2
 have HS1 : Hid (W1.cell? ⟨w.heap.size,0,none⟩ = some (.int .i64 c) ∧ W1.cell? ⟨w.heap.size,1,none⟩ = some (.int .i64 at_)):=⟨Lib.cell_of_heap b1 0,Lib.cell_of_heap b1 1⟩
 have HS2 : Hid (W2.cell? ⟨w.heap.size,0,none⟩ = some (.int .i64 c) ∧ W2.cell? ⟨w.heap.size,1,none⟩ = some (.int .i64 at_)):=⟨Lib.cell_of_heap b2 0,Lib.cell_of_heap b2 1⟩
 have HS3 : Hid (W3.cell? ⟨w.heap.size,0,none⟩ = some (.int .i64 c) ∧ W3.cell? ⟨w.heap.size,1,none⟩ = some (.int .i64 at_)):=⟨Lib.cell_of_heap b3 0,Lib.cell_of_heap b3 1⟩
 have H4 : Hid (WA.heap[k4]? = some (.cells #[x0,x1,x2,x3,x4,x5,x6,x7] 28 (0,0))):=g4
 have H5:=Lib.hid a15
 have H6:=Lib.hid a26
 have HWA:=Lib.hid hWA.symm
 have HW1 : Hid ((set8 WA k4 (.int .u8 0) (.slice none 0 0) (.slice none 0 0) (.int .i64 0) (.bool false) (.int .i64 0) (.bool false) (.bool false)).drew = W1):=hW1.symm
 have HW2 : Hid (W1.setCell ⟨k5,0,none⟩ (.int .i64 at_) = W2):=hW2.symm
 have HW3 : Hid (W2.setCell ⟨k6,0,none⟩ (.int .i64 c) = W3):=hW3.symm
 have hta:=assert77 (.agg #[.int .i64 c,.int .i64 at_])
 clear hWA h4 h5 h6 h45 h46 h56 l4 l5 l6 g4 g5 g6 gb gz hW1 hW2 hW3 o1 o2 o3 a1 a15 a2 a26 a3 z3 hB3 b1 b2 b3
 refine callsD_of_wpS Tryz.func43 rfl fun c₀ cs hu => ?_
 simp only [Tryz.ntmps43,List.size_toArray,List.length_cons,List.length_nil,Nat.reduceAdd,Nat.reduceSub,Array.replicate_succ,Array.replicate_zero,List.push_toArray,List.append_toArray,List.nil_append,List.cons_append]
 apply wpS_seq
 apply wpS_region
 simp [wpOpsS,go_sem,recoverD,hu,thr,Exit.thenS]
 refine wpS_of_wp ?_
 go_wp2_with fail
 rw [HWA.out]
 clear HWA
 refine wp_region_held_drew (S:=fun W => W.cell? ⟨w.heap.size,0,none⟩ = some (.int .i64 c) ∧ W.cell? ⟨w.heap.size,1,none⟩ = some (.int .i64 at_)) (by kernel_rfl) HSA.out (fun hHeld => ?_)
 refine wpAnyH_take (i:=0) (v:=?_) rfl (by kernel_rfl) (by kernel_rfl) (by kernel_rfl) (fun _ _ _ h => h) (Or.inl ⟨by kernel_rfl,?_⟩) (by assumption) ?_
 rotate_left
 ·(intro w hSw; obtain ⟨s1,s2⟩:=hSw; go_simp)
  with_reducible rfl
 try simp only [Act.put,List.setIfInBounds_toArray]
 refine wpAnyH_take (i:=1) (v:=?_) rfl (by kernel_rfl) (by kernel_rfl) (by kernel_rfl) (fun _ _ _ h => h) (Or.inl ⟨by kernel_rfl,?_⟩) (by assumption) ?_
 rotate_left
 ·(intro w hSw; obtain ⟨s1,s2⟩:=hSw; go_simp)
  with_reducible rfl
 try simp only [Act.put]
 refine wpAnyH_take (i:=2) (v:=?_) rfl (by kernel_rfl) (by kernel_rfl) (by kernel_rfl) (fun _ _ _ h => h) (Or.inl ⟨by kernel_rfl,?_⟩) (by assumption) ?_
 rotate_left
 ·(intro w hSw; obtain ⟨s1,s2⟩:=hSw; go_simp)
  with_reducible rfl
 try simp only [Act.put]
 refine wpAnyH_take (i:=3) (v:=?_) rfl (by kernel_rfl) (by kernel_rfl) (by kernel_rfl) (fun _ _ _ h => h) (Or.inl ⟨by kernel_rfl,?_⟩) (by assumption) ?_
 rotate_left
 ·(intro w hSw; obtain ⟨s1,s2⟩:=hSw; go_simp)
  with_reducible rfl
 try simp only [Act.put]
 refine wpAnyH_take (i:=4) (v:=?_) rfl (by kernel_rfl) (by kernel_rfl) (by kernel_rfl) (fun _ _ _ h => h) (Or.inl ⟨by kernel_rfl,?_⟩) (by assumption) ?_
 rotate_left
 ·(intro w hSw; obtain ⟨s1,s2⟩:=hSw; go_simp)
  with_reducible rfl
 try simp only [Act.put]
 have hk4:=H4.out
 obtain ⟨e0,e1,e2,e3,e4,e5,e6,e7,f0,f1,f2,f3,f4,f5,f6,f7⟩:=cf8 hk4
 clear hk4
 refine wpAnyH_ready (rs:=[5]) (by kernel_rfl) (by simp) ?_
 refine AllReadyH.cons rfl (fun K0 hK => ?_) AllReadyH.nil
 go_simp
 have hw:=HW1.out
 unfold set8 at hw
 rw [hw]
 clear hw e0 e1 e2 e3 e4 e5 e6 e7 f0 f1 f2 f3 f4 f5 f6 f7 HW1
 refine hK.out _ _ HS1.out (fun _ => ?_)
 clear hK K0
 try simp only [Act.put,List.setIfInBounds_toArray,List.set_cons_zero,List.set_cons_succ]
 have hk5:=H5.out
 have e0:=Lib.cell_of_heap hk5 0
 have f0:=Lib.frozen_of_heap hk5 0
 simp only [List.getElem?_toArray,List.getElem?_cons_zero] at e0
 clear hk5
 refine wpAnyH_ready (rs:=[6]) (by kernel_rfl) (by simp) ?_
 refine AllReadyH.cons rfl (fun K0 hK => ?_) AllReadyH.nil
 go_simp
 rw [HW2.out]
 clear e0 f0 HW2
 refine hK.out _ _ HS2.out (fun _ => ?_)
 clear hK K0
 try simp only [Act.put,List.setIfInBounds_toArray,List.set_cons_zero,List.set_cons_succ]
 have hk6:=H6.out
 have e0:=Lib.cell_of_heap hk6 0
 have f0:=Lib.frozen_of_heap hk6 0
 simp only [List.getElem?_toArray,List.getElem?_cons_zero] at e0
 clear hk6
 refine wpAnyH_ready (rs:=[7]) (by kernel_rfl) (by simp) ?_
 refine AllReadyH.cons rfl (fun K0 hK => ?_) AllReadyH.nil
 go_simp
 rw [HW3.out]
 clear e0 f0 HW3
 refine hK.out _ _ HS3.out (fun _ => ?_)
 clear hK K0
 try simp only [Act.put,List.setIfInBounds_toArray,List.set_cons_zero,List.set_cons_succ]
 refine wpAnyH_done (by kernel_rfl) ?_ _
 go_wp2_with fail
 have hend:=HEND.out
 clear HEND HSA HS1 HS2 HS3 H4 H5 H6 hta
 cases c₀
 simp_all [bodyPostS,results,Tryz.results43]
end Go.Proofs.YtpgdplmndnopbaaGreatDoor
