/- The parser walked: an expression's least part. (Printed by gen_pso.py.) -/
import Derived.Test.YtockinpjfhhkoaaGreatDoorZ10
import Derived.Test.YtockinpjfhhkoaaGreatDoorZ38
import Derived.Test.YtockinpjfhhkoaaGreatDoorZ02
set_option maxRecDepth 100000
set_option maxHeartbeats 16000000
open List renaming setIfInBounds_toArray → J1, set_cons_zero → J2, set_cons_succ → J3
open Go.Lib renaming cell_of_heap → Jc, hid → Jh
open Go.AllReadyH renaming cons → Jd, nil → Je
open Go renaming wpAnyH_ready → Jr
namespace Go.Proofs.YtockinpjfhhkoaaGreatDoor
open Go.RowKit
def TreC (pb tb d : Nat) : Prop:=∀ (deep : Nat) (l : List Tok) (w : World),deep ≤ 64 → 65 ≤ deep + d → Rdy w → Ps pb tb w l deep → Calls Tryz.prog 128 #[.pointer (some ⟨pb,0,none⟩)] w (OutX pb tb deep w (treR d deep l))
theorem base140_any (pb tb d : Nat) (hp4 : 4 ≤ pb) (htre : TreC pb tb d) (deep : Nat) (l : List Tok) (w : World) (hd : deep ≤ 64) (hdd : 64 ≤ deep + d) (hrd : Rdy w) (h : Ps pb tb w l deep) :
 Calls Tryz.prog 228 #[.pointer (some ⟨pb,0,none⟩)] w (OutX pb tb deep w (zax (treR d) deep l)):=by
 obtain ⟨RES,hRES⟩ : ∃ RES,RES = zax (treR d) deep l:=⟨_,rfl⟩
 rw [← hRES]
 have HRES:=Jh hRES
 clear hRES
 have hpb:=h.lt
 have htb : tb ≠ w.heap.size:=Nat.ne_of_lt h.tb_lt
 have HP1:=Jh (h.alloc (.cells #[.int .u8 0,.slice none 0 0,.slice none 0 0,.int .i64 0,.bool false,.int .i64 0,.bool false,.bool false] 47))
 have HB1:=Jh ((BtP.refl pb w).alloc (.cells #[.int .u8 0,.slice none 0 0,.slice none 0 0,.int .i64 0,.bool false,.int .i64 0,.bool false,.bool false] 47))
 have HK1 : Hid ((w.alloc (.cells #[.int .u8 0,.slice none 0 0,.slice none 0 0,.int .i64 0,.bool false,.int .i64 0,.bool false,.bool false] 47)).heap[w.heap.size]? = some (.cells #[.int .u8 0,.slice none 0 0,.slice none 0 0,.int .i64 0,.bool false,.int .i64 0,.bool false,.bool false] 47 (0,0))):=z0b rfl
 have hmf : ∀ (fn : Fn) (first cap : Array Value) (w : World),(Instr.makeFunc fn first cap).run Tryz.prog w = .ok (.func fn first cap) w:=fun _ _ _ _ => rfl
 have hsz1 : (w.alloc (.cells #[.int .u8 0,.slice none 0 0,.slice none 0 0,.int .i64 0,.bool false,.int .i64 0,.bool false,.bool false] 47)).heap.size = w.heap.size + 1:=by simp
 have HRD:=Jh hrd
 have HTRE:=Jh htre
 clear h hrd htre
 cases qx : isT [40] l with
 | true =>
  obtain ⟨R,hR⟩ : ∃ R,z0p [40] [41] deep (treR d) l = some R:=by unfold z0p; rw [qx]; exact ⟨_,rfl⟩
  have HR : Hid (RES = R):=by rw [Hid,HRES.out]; unfold zax; rw [hR]
  by_cases h64 : deep = 64
  ·have hRe : R = .error (171,z1q l):=by
    unfold z0p at hR; rw [qx,if_pos rfl,if_pos h64] at hR; simp only [Option.some.injEq] at hR; exact hR.symm
   have HW : Hid (Calls Tryz.prog 246 #[.pointer (some ⟨pb,0,none⟩),.string ⟨#[40]⟩,.string ⟨#[41]⟩,.func (.func 128) #[.pointer (some ⟨pb,0,none⟩)] #[]] (w.alloc (.cells #[.int .u8 0,.slice none 0 0,.slice none 0 0,.int .i64 0,.bool false,.int .i64 0,.bool false,.bool false] 47)) fun e w' => e = .panicked (thr 171 (z1q l)) ∧ BtP pb (w.alloc (.cells #[.int .u8 0,.slice none 0 0,.slice none 0 0,.int .i64 0,.bool false,.int .i64 0,.bool false,.bool false] 47)) w'):=by
    have hp:=HP1.out
    rw [h64] at hp
    exact z6e pb tb ⟨#[40]⟩ ⟨#[41]⟩ (.func (.func 128) #[.pointer (some ⟨pb,0,none⟩)] #[]) l _ hp qx
   have HRE:=Jh hRe
   clear qx hR hRe h64
   go_enter Tryz.func228,Tryz.ntmps228
   go_wp2_with fail
   refine HW.out.mono ?_
   rintro e w1 ⟨rfl,hb⟩
   have HBE:=Jh (HB1.out.trans hb)
   clear hb
   go_wp2_with fail
   refine ⟨rfl,?_⟩
   rw [HR.out,HRE.out]
   exact ⟨rfl,HBE.out⟩
  ·have HW : Hid (Calls Tryz.prog 246 #[.pointer (some ⟨pb,0,none⟩),.string ⟨#[40]⟩,.string ⟨#[41]⟩,.func (.func 128) #[.pointer (some ⟨pb,0,none⟩)] #[]] (w.alloc (.cells #[.int .u8 0,.slice none 0 0,.slice none 0 0,.int .i64 0,.bool false,.int .i64 0,.bool false,.bool false] 47)) (OutWX pb tb deep (w.alloc (.cells #[.int .u8 0,.slice none 0 0,.slice none 0 0,.int .i64 0,.bool false,.int .i64 0,.bool false,.bool false] 47)) (some R))):=by
    have:=z9b pb tb deep ⟨#[40]⟩ ⟨#[41]⟩ (by decide) (by decide) 128 #[.pointer (some ⟨pb,0,none⟩)] #[] (z1r Tryz.func128 (by kernel_rfl) (by kernel_rfl)) (treR d) l _ HP1.out (by omega) qx
     (fun w' hb hp => by have:=HTRE.out (deep + 1) l.tail w' (by omega) (by omega) (HRD.out.bt hp4 (HB1.out.trans hb)) hp; simpa using this)
    have h' : Calls Tryz.prog 246 #[.pointer (some ⟨pb,0,none⟩),.string ⟨#[40]⟩,.string ⟨#[41]⟩,.func (.func 128) #[.pointer (some ⟨pb,0,none⟩)] #[]] (w.alloc (.cells #[.int .u8 0,.slice none 0 0,.slice none 0 0,.int .i64 0,.bool false,.int .i64 0,.bool false,.bool false] 47)) (OutWX pb tb deep (w.alloc (.cells #[.int .u8 0,.slice none 0 0,.slice none 0 0,.int .i64 0,.bool false,.int .i64 0,.bool false,.bool false] 47)) (z0p [40] [41] deep (treR d) l)):=this
    rw [hR] at h'
    exact h'
   clear qx hR h64
   cases R with
   | error c =>
    go_enter Tryz.func228,Tryz.ntmps228
    go_wp2_with fail
    refine HW.out.mono ?_
    rintro e w1 ⟨rfl,hb⟩
    have HBE:=Jh (HB1.out.trans hb)
    clear hb
    go_wp2_with fail
    refine ⟨rfl,?_⟩
    rw [HR.out]
    exact ⟨rfl,HBE.out⟩
   | ok xr =>
    obtain ⟨x,r⟩:=xr
    go_enter Tryz.func228,Tryz.ntmps228
    go_wp2_with fail
    refine HW.out.mono ?_
    rintro e w1 ⟨v,rfl,hf,hp,hb⟩
    obtain ⟨k1,a1,n1,c1,b1,o1,qq1,lo1,ls1,hi1,hs1,op1,rfl⟩:=hf.shape
    have hzz:=hb.2.2.2.1
    have HF:=Jh hf
    have HP:=Jh hp
    have HB:=Jh (HB1.out.trans hb)
    have HKR:=Jh (hb.at HK1.out (by omega))
    clear hf hp hb
    have hkrb:=HKR.out
    obtain ⟨e0,e1,e2,e3,e4,e5,e6,e7,f0,f1,f2,f3,f4,f5,f6,f7⟩:=cf8 hkrb
    have hltz:=(Array.getElem?_eq_some_iff.1 hkrb).1
    have HAT : Hid (((set8 w1 w.heap.size (.int .u8 k1) (.slice a1 n1 c1) (.slice b1 o1 qq1) (.int .i64 lo1) (.bool ls1) (.int .i64 hi1) (.bool hs1) (.bool op1)).alloc (.cells #[.int .u8 k1,.slice a1 n1 c1,.slice b1 o1 qq1,.int .i64 lo1,.bool ls1,.int .i64 hi1,.bool hs1,.bool op1] 47)).heap[w.heap.size]? = some (.cells #[.int .u8 k1,.slice a1 n1 c1,.slice b1 o1 qq1,.int .i64 lo1,.bool ls1,.int .i64 hi1,.bool hs1,.bool op1] 47 (0,0))):=z1c (z23 hkrb _ _ _ _ _ _ _ _)
    have HOUT : Hid (OutX pb tb deep w (.ok (x,r)) (.returned (.agg #[.int .u8 k1,.slice a1 n1 c1,.slice b1 o1 qq1,.int .i64 lo1,.bool ls1,.int .i64 hi1,.bool hs1,.bool op1])) ((set8 w1 w.heap.size (.int .u8 k1) (.slice a1 n1 c1) (.slice b1 o1 qq1) (.int .i64 lo1) (.bool ls1) (.int .i64 hi1) (.bool hs1) (.bool op1)).alloc (.cells #[.int .u8 k1,.slice a1 n1 c1,.slice b1 o1 qq1,.int .i64 lo1,.bool ls1,.int .i64 hi1,.bool hs1,.bool op1] 47))):=by
     refine ⟨_,rfl,?_,(HP.out.set8 (by omega) htb _ _ _ _ _ _ _ _).alloc _,(HB.out.set8 (Nat.le_refl _) _ _ _ _ _ _ _ _).alloc _⟩
     refine HF.out.go ⟨by simp [z0m],fun b hbz hpn => ?_⟩
     have hpn':=of_decide_eq_true hpn
     exact ⟨decide_eq_true (show w.heap.size ≤ b by omega),(Lib.alloc_old _ _ _ (by rw [z0m]; exact hbz)).trans (z09 _ _ _ _ _ _ _ _ _ _ _ (by omega))⟩
    clear hkrb
    go_wp2_with fail
    first | refine bodyPost_ret (results_cell_row rfl _ _ _ _ _ _ _ rfl HAT.out Tryz.underlying47 rfl (by kernel_rfl)) rfl ?_ | refine And.intro rfl (Exists.intro _ (And.intro (results_cell_row rfl _ _ _ _ _ _ _ rfl HAT.out Tryz.underlying47 rfl (by kernel_rfl)) ?_))
    rw [HR.out]
    exact HOUT.out
 | false =>
  have hN0 : z0p [40] [41] deep (treR d) l = none:=by unfold z0p; rw [qx]; rfl
  have HW0:=Jh (z9a pb tb deep ⟨#[40]⟩ ⟨#[41]⟩ (.func (.func 128) #[.pointer (some ⟨pb,0,none⟩)] #[]) l _ HP1.out qx)
  clear qx
  go_enter Tryz.func228,Tryz.ntmps228
  go_wp2_with fail
  refine HW0.out.mono ?_
  rintro e w0 ⟨rfl,hp,hb⟩
  obtain ⟨W1,hW1⟩ : ∃ W1,W1 = w0.alloc (.cells #[.int .u8 0,.slice none 0 0,.slice none 0 0,.int .i64 0,.bool false,.int .i64 0,.bool false,.bool false] 47):=⟨_,rfl⟩
  have HPa : Hid (Ps pb tb W1 l deep):=by rw [Hid,hW1]; exact hp.alloc _
  have HBa : Hid (BtP pb w W1):=by rw [Hid,hW1]; exact (HB1.out.trans hb).alloc _
  have HKa : Hid (W1.heap[w.heap.size]? = some (.cells #[.int .u8 0,.slice none 0 0,.slice none 0 0,.int .i64 0,.bool false,.int .i64 0,.bool false,.bool false] 47 (0,0))):=by rw [Hid,hW1]; exact z1c (hb.at HK1.out (by omega))
  have hsza:=(Array.getElem?_eq_some_iff.1 HKa.out).1
  have HWN:=Jh hW1.symm
  have HN0:=Jh hN0
  clear hp hb hW1 HP1 HB1 HK1 HW0 hN0
  go_wp2_with fail
  rw [HWN.out]
  clear HWN
  cases qx : isT [60] l with
  | true =>
   obtain ⟨R,hR⟩ : ∃ R,z0p [60] [62] deep (treR d) l = some R:=by unfold z0p; rw [qx]; exact ⟨_,rfl⟩
   have HR : Hid (RES = match (generalizing:=false) R with
    | .error e => .error e
    | .ok (x,r1) => match z0s [95] r1 with
     | .error e => .error e
     | .ok r2 => match z2g r2 with
      | .error e => .error e
      | .ok (i,r3) => .ok (.mk 6 [] [x] i,r3)):=by
    rw [Hid,HRES.out]; unfold zax; rw [HN0.out,hR]
    rcases R with e | ⟨x,r1⟩
    ·rfl
    ·dsimp only
     cases z0s [95] r1 with
     | error e => rfl
     | ok r2 =>
      dsimp only
      cases z2g r2 with
      | error e => rfl
      | ok p => rfl
   by_cases h64 : deep = 64
   ·have hRe : R = .error (171,z1q l):=by
     unfold z0p at hR; rw [qx,if_pos rfl,if_pos h64] at hR; simp only [Option.some.injEq] at hR; exact hR.symm
    have HW : Hid (Calls Tryz.prog 246 #[.pointer (some ⟨pb,0,none⟩),.string ⟨#[60]⟩,.string ⟨#[62]⟩,.func (.func 128) #[.pointer (some ⟨pb,0,none⟩)] #[]] W1 fun e w' => e = .panicked (thr 171 (z1q l)) ∧ BtP pb W1 w'):=by
     have hp:=HPa.out
     rw [h64] at hp
     exact z6e pb tb ⟨#[60]⟩ ⟨#[62]⟩ (.func (.func 128) #[.pointer (some ⟨pb,0,none⟩)] #[]) l _ hp qx
    have HRE:=Jh hRe
    clear qx hR hRe h64
    refine HW.out.mono ?_
    rintro e w1 ⟨rfl,hb⟩
    have HBE:=Jh (HBa.out.trans hb)
    clear hb
    go_wp2_with fail
    refine ⟨rfl,?_⟩
    rw [HR.out,HRE.out]
    exact ⟨rfl,HBE.out⟩
   ·have HW : Hid (Calls Tryz.prog 246 #[.pointer (some ⟨pb,0,none⟩),.string ⟨#[60]⟩,.string ⟨#[62]⟩,.func (.func 128) #[.pointer (some ⟨pb,0,none⟩)] #[]] W1 (OutWX pb tb deep W1 (some R))):=by
     have:=z9b pb tb deep ⟨#[60]⟩ ⟨#[62]⟩ (by decide) (by decide) 128 #[.pointer (some ⟨pb,0,none⟩)] #[] (z1r Tryz.func128 (by kernel_rfl) (by kernel_rfl)) (treR d) l _ HPa.out (by omega) qx
      (fun w' hb hp => by have:=HTRE.out (deep + 1) l.tail w' (by omega) (by omega) (HRD.out.bt hp4 (HBa.out.trans hb)) hp; simpa using this)
     have h' : Calls Tryz.prog 246 #[.pointer (some ⟨pb,0,none⟩),.string ⟨#[60]⟩,.string ⟨#[62]⟩,.func (.func 128) #[.pointer (some ⟨pb,0,none⟩)] #[]] W1 (OutWX pb tb deep W1 (z0p [60] [62] deep (treR d) l)):=this
     rw [hR] at h'
     exact h'
    clear qx hR h64
    cases R with
    | error c =>
     refine HW.out.mono ?_
     rintro e w1 ⟨rfl,hb⟩
     have HBE:=Jh (HBa.out.trans hb)
     clear hb
     go_wp2_with fail
     refine ⟨rfl,?_⟩
     rw [HR.out]
     exact ⟨rfl,HBE.out⟩
    | ok xr =>
     obtain ⟨x,r⟩:=xr
     refine HW.out.mono ?_
     rintro e w1 ⟨v,rfl,hf,hp,hb⟩
     obtain ⟨k1,a1,n1,c1,b1,o1,qq1,lo1,ls1,hi1,hs1,op1,rfl⟩:=hf.shape
     have hzz:=hb.2.2.2.1
     have HF:=Jh hf
     have HP:=Jh hp
     have HB:=Jh (HBa.out.trans hb)
     have HKR:=Jh (hb.at HKa.out (by omega))
     clear hf hp hb
     obtain ⟨kt,hkt⟩ : ∃ kt,kt = w1.heap.size:=⟨_,rfl⟩
     obtain ⟨W2,hW2⟩ : ∃ W2,W2 = w1.alloc (.cells #[.int .u8 k1,.slice a1 n1 c1,.slice b1 o1 qq1,.int .i64 lo1,.bool ls1,.int .i64 hi1,.bool hs1,.bool op1] 47):=⟨_,rfl⟩
     have HP2 : Hid (Ps pb tb W2 r deep):=by rw [Hid,hW2]; exact HP.out.alloc _
     have HB2 : Hid (BtP pb w W2):=by rw [Hid,hW2]; exact HB.out.alloc _
     have HKR2 : Hid (W2.heap[w.heap.size]? = some (.cells #[.int .u8 0,.slice none 0 0,.slice none 0 0,.int .i64 0,.bool false,.int .i64 0,.bool false,.bool false] 47 (0,0))):=by rw [Hid,hW2]; exact z1c HKR.out
     have HKT2 : Hid (W2.heap[kt]? = some (.cells #[.int .u8 k1,.slice a1 n1 c1,.slice b1 o1 qq1,.int .i64 lo1,.bool ls1,.int .i64 hi1,.bool hs1,.bool op1] 47 (0,0))):=by rw [Hid,hW2]; exact z0b hkt
     have HF2 : Hid (XI (fun b => decide (w.heap.size ≤ b) && b != w.heap.size) W2 x (.agg #[.int .u8 k1,.slice a1 n1 c1,.slice b1 o1 qq1,.int .i64 lo1,.bool ls1,.int .i64 hi1,.bool hs1,.bool op1])):=by
      rw [Hid,hW2]
      refine HF.out.go ⟨by simp,fun b hbz hpn => ?_⟩
      have hpn':=of_decide_eq_true hpn
      refine ⟨?_,Lib.alloc_old _ _ _ hbz⟩
      simp only [Bool.and_eq_true,decide_eq_true_eq,bne_iff_ne,ne_eq]
      omega
     have hlt1:=(Array.getElem?_eq_some_iff.1 HKR.out).1
     have hktp : kt ≠ pb:=by have:=HP.out.lt; omega
     have hktr : w.heap.size < kt:=by omega
     have HWN:=Jh hW2.symm
     have HKN:=Jh hkt.symm
     have HKZ : Hid (kt + 1 = W2.heap.size):=by rw [Hid,hW2,hkt]; simp
     clear hW2 hkt hlt1 HF HP HB HKR
     go_wp2_with fail
     rw [HWN.out]
     clear HWN
     try rw [HKN.out]
     clear HKN
     cases qt : isT [95] r with
     | false =>
      have HTR : Hid (z0s [95] r = .error (170,z1q r)):=by rw [Hid,z0s,qt]; rfl
      refine (z1u pb tb deep _ r ⟨#[95]⟩ (by decide) _ (HP2.out.alloc (.cells #[.string ⟨#[95]⟩] 9)) (z0b HKZ.out) qt).mono ?_
      rintro e w3 ⟨rfl,hb⟩
      have HBE:=Jh ((HB2.out.alloc _).trans hb)
      clear hb qt
      go_wp2_with fail
      refine ⟨rfl,?_⟩
      have hfin:=HR.out
      simp only [HTR.out] at hfin
      rw [hfin]
      exact ⟨rfl,HBE.out⟩
     | true =>
      have HTR : Hid (z0s [95] r = .ok r.tail):=by rw [Hid,z0s,qt]; rfl
      refine (z1t pb tb deep _ r ⟨#[95]⟩ (by decide) _ (HP2.out.alloc (.cells #[.string ⟨#[95]⟩] 9)) (z0b HKZ.out) qt).mono ?_
      rintro e w3 ⟨rfl,hp,hb⟩
      have hb23:=((BtP.refl pb W2).alloc (.cells #[.string ⟨#[95]⟩] 9)).trans hb
      have HP3:=Jh hp
      have HB3:=Jh (HB2.out.trans hb23)
      have HKR3:=Jh (hb23.at HKR2.out (by omega))
      have HKT3:=Jh (hb23.at HKT2.out hktp)
      have HF3 : Hid (XI (fun b => decide (w.heap.size ≤ b) && b != w.heap.size) w3 x (.agg #[.int .u8 k1,.slice a1 n1 c1,.slice b1 o1 qq1,.int .i64 lo1,.bool ls1,.int .i64 hi1,.bool hs1,.bool op1])):=by
       refine HF2.out.go ⟨hb23.2.2.2.1,fun b hbz hpn => ⟨hpn,hb23.2.2.2.2 b hbz ?_⟩⟩
       simp only [Bool.and_eq_true,decide_eq_true_eq,bne_iff_ne,ne_eq] at hpn
       omega
      have hr2:=HR.out
      simp only [HTR.out] at hr2
      have HR2:=Jh hr2
      clear hr2
      clear hp hb hb23 qt HTR HR HP2 HB2 HKR2 HKT2 HF2
      have HS : Hid (∀ W,BtP pb w3 W → W.cell? ⟨kt,0,none⟩ = some (.int .u8 k1) ∧ W.cell? ⟨kt,1,none⟩ = some (.slice a1 n1 c1) ∧ W.cell? ⟨kt,2,none⟩ = some (.slice b1 o1 qq1) ∧ W.cell? ⟨kt,3,none⟩ = some (.int .i64 lo1) ∧ W.cell? ⟨kt,4,none⟩ = some (.bool ls1) ∧ W.cell? ⟨kt,5,none⟩ = some (.int .i64 hi1) ∧ W.cell? ⟨kt,6,none⟩ = some (.bool hs1) ∧ W.cell? ⟨kt,7,none⟩ = some (.bool op1)):=by
       intro W hW
       have e:=hW.at HKT3.out hktp
       exact ⟨Jc e 0,Jc e 1,Jc e 2,Jc e 3,Jc e 4,Jc e 5,Jc e 6,Jc e 7⟩
      obtain ⟨r2,hr2⟩ : ∃ r2,r2 = r.tail:=⟨_,rfl⟩
      rw [← hr2] at HP3 HR2
      have HIC:=Jh (fun (W : World) (hp : Ps pb tb W r2 deep) => zah pb tb deep r2 W hp)
      have hself : BtP pb w3 w3.drew:=(BtP.refl _ _).drew
      clear hr2
      go_wp2_with fail
      refine wrd (by kernel_rfl) HS.out (hself) (fun hHeld => ?_)
      refine wpAnyH_take (i:=0) (v:=?_) rfl (by kernel_rfl) (by kernel_rfl) (by kernel_rfl) (fun _ _ _ h => h) (Or.inl ⟨by kernel_rfl,?_⟩) (by assumption) ?_
      rotate_left
      ·(intro w hSw; (try dsimp only at hSw); go_simp)
       with_reducible rfl
      try simp only [Act.put,J1]
      refine wpAnyH_take (i:=2) (v:=?_) rfl (by kernel_rfl) (by kernel_rfl) (by kernel_rfl) (fun _ _ _ h => h) (Or.inl ⟨by kernel_rfl,?_⟩) (by assumption) ?_
      rotate_left
      ·(intro w hSw; (try dsimp only at hSw); go_simp)
       with_reducible rfl
      try simp only [Act.put]
      refine Jr (rs:=[1,3]) (by kernel_rfl) (by simp) ?_
      refine Jd rfl (fun K0 hK => ?_) (Jd rfl (fun K0 hK => ?_) Je)
      ·go_simp
       refine hK.out _ _ (HS.out _ (hself.alloc _)) (fun _ => ?_)
       clear hK K0
       try simp only [Act.put,J1,J2,J3]
       have hb34:=hself.alloc (.cells #[.int .u8 k1,.slice a1 n1 c1,.slice b1 o1 qq1,.int .i64 lo1,.bool ls1,.int .i64 hi1,.bool hs1,.bool op1] 47)
       have HC:=Jh (HIC.out (w3.drew.alloc (.cells #[.int .u8 k1,.slice a1 n1 c1,.slice b1 o1 qq1,.int .i64 lo1,.bool ls1,.int .i64 hi1,.bool hs1,.bool op1] 47)) (HP3.out.drew.alloc _))
       have HKR4:=Jh (hb34.at HKR3.out (by omega))
       have HKX4 : Hid ((w3.drew.alloc (.cells #[.int .u8 k1,.slice a1 n1 c1,.slice b1 o1 qq1,.int .i64 lo1,.bool ls1,.int .i64 hi1,.bool hs1,.bool op1] 47)).heap[w3.heap.size]? = some (.cells #[.int .u8 k1,.slice a1 n1 c1,.slice b1 o1 qq1,.int .i64 lo1,.bool ls1,.int .i64 hi1,.bool hs1,.bool op1] 47 (0,0))):=z0b rfl
       have HB34:=Jh hb34
       clear hb34
       refine Jr (rs:=[3]) (by kernel_rfl) (by simp) ?_
       refine Jd rfl (fun K0 hK => ?_) Je
       go_simp
       cases qv : z2g r2 with
       | error c =>
        rw [qv] at HC
        refine HC.out.mono ?_
        rintro e w5 ⟨rfl,hb⟩
        have HBE:=Jh (HB3.out.trans (HB34.out.trans hb))
        clear hb hHeld hK
        dsimp only
        go_wp2_with fail
        refine ⟨rfl,?_⟩
        have hfin:=HR2.out
        simp only [qv] at hfin
        rw [hfin]
        exact ⟨rfl,HBE.out⟩
       | ok ir =>
        obtain ⟨⟨lo,ls,hi,hs,op⟩,r3⟩:=ir
        rw [qv] at HC
        have hr3:=HR2.out
        simp only [qv] at hr3
        have HR3:=Jh hr3
        clear hr3
        clear qv
        refine HC.out.mono ?_
        rintro e w5 ⟨rfl,hp5,hb5⟩
        dsimp only
        have HB5:=Jh (HB34.out.trans hb5)
        have HP5:=Jh hp5
        have HKR5:=Jh (hb5.at HKR4.out (by omega))
        have HKX5:=Jh (hb5.at HKX4.out (by have:=HP3.out.lt; omega))
        clear hp5 hb5
        refine hK.out _ _ (HS.out _ HB5.out) (fun _ => ?_)
        clear hK K0
        try simp only [Act.put,J1,J2,J3]
        refine wpAnyH_take (i:=4) (v:=?_) rfl (by kernel_rfl) (by kernel_rfl) (by kernel_rfl) (fun _ _ _ h => h) (Or.inl ⟨by kernel_rfl,?_⟩) (by assumption) ?_
        rotate_left
        ·(intro w hSw; (try dsimp only at hSw); go_simp)
         with_reducible rfl
        try simp only [Act.put,J1]
        have hkrb:=HKR5.out
        obtain ⟨e0,e1,e2,e3,e4,e5,e6,e7,f0,f1,f2,f3,f4,f5,f6,f7⟩:=cf8 hkrb
        have hlt5:=(Array.getElem?_eq_some_iff.1 hkrb).1
        have HAT : Hid ((set8 w5 w.heap.size (.int .u8 6) (.slice none 0 0) (.slice (some ⟨w3.heap.size,0,none⟩) 1 1) (.int .i64 lo) (.bool ls) (.int .i64 hi) (.bool hs) (.bool op)).heap[w.heap.size]? = some (.cells #[.int .u8 6,.slice none 0 0,.slice (some ⟨w3.heap.size,0,none⟩) 1 1,.int .i64 lo,.bool ls,.int .i64 hi,.bool hs,.bool op] 47 (0,0))):=z23 hkrb _ _ _ _ _ _ _ _
        have HOUT : Hid (OutX pb tb deep w (.ok (.mk 6 [] [x] ⟨lo,ls,hi,hs,op⟩,r3)) (.returned (.agg #[.int .u8 6,.slice none 0 0,.slice (some ⟨w3.heap.size,0,none⟩) 1 1,.int .i64 lo,.bool ls,.int .i64 hi,.bool hs,.bool op])) (set8 w5 w.heap.size (.int .u8 6) (.slice none 0 0) (.slice (some ⟨w3.heap.size,0,none⟩) 1 1) (.int .i64 lo) (.bool ls) (.int .i64 hi) (.bool hs) (.bool op))):=by
         refine ⟨_,rfl,?_,HP5.out.set8 (by omega) htb _ _ _ _ _ _ _ _,(HB3.out.trans HB5.out).set8 (Nat.le_refl _) _ _ _ _ _ _ _ _⟩
         have hzx:=(Array.getElem?_eq_some_iff.1 HKX5.out).1
         have hz3:=(Array.getElem?_eq_some_iff.1 HKR3.out).1
         have hz3':=HB5.out.2.2.2.1
         have hz4 : w3.heap.size ≤ w3.heap.size:=by first | exact Nat.le_refl _ | exact HB4.out.2.2.2.1
         have hf5 : XI (fun b => decide (w.heap.size ≤ b) && b != w.heap.size) w5 x (.agg #[.int .u8 k1,.slice a1 n1 c1,.slice b1 o1 qq1,.int .i64 lo1,.bool ls1,.int .i64 hi1,.bool hs1,.bool op1]):=by
          refine HF3.out.go ⟨hz3',fun b hbz hpn => ⟨hpn,HB5.out.2.2.2.2 b hbz ?_⟩⟩
          simp only [Bool.and_eq_true,decide_eq_true_eq,bne_iff_ne,ne_eq] at hpn
          omega
         have hf6:=XI.one hf5 6 lo hi ls hs op w3.heap.size 1 0 none (0,0) (by simp only [Bool.and_eq_true,decide_eq_true_eq,bne_iff_ne,ne_eq]; omega) HKX5.out
         refine hf6.go ⟨by rw [z0m]; exact Nat.le_refl _,fun b hbz hpc => ?_⟩
         simp only [Bool.and_eq_true,decide_eq_true_eq,bne_iff_ne,ne_eq] at hpc
         exact ⟨decide_eq_true hpc.1,z09 _ _ _ _ _ _ _ _ _ _ _ hpc.2⟩
        have hkt5:=(z09 w5 w.heap.size (.int .u8 6) (.slice none 0 0) (.slice (some ⟨w3.heap.size,0,none⟩) 1 1) (.int .i64 lo) (.bool ls) (.int .i64 hi) (.bool hs) (.bool op) kt (by omega)).trans (HB5.out.at HKT3.out hktp)
        have HS5 : Hid ((set8 w5 w.heap.size (.int .u8 6) (.slice none 0 0) (.slice (some ⟨w3.heap.size,0,none⟩) 1 1) (.int .i64 lo) (.bool ls) (.int .i64 hi) (.bool hs) (.bool op)).cell? ⟨kt,0,none⟩ = some (.int .u8 k1) ∧ (set8 w5 w.heap.size (.int .u8 6) (.slice none 0 0) (.slice (some ⟨w3.heap.size,0,none⟩) 1 1) (.int .i64 lo) (.bool ls) (.int .i64 hi) (.bool hs) (.bool op)).cell? ⟨kt,1,none⟩ = some (.slice a1 n1 c1) ∧ (set8 w5 w.heap.size (.int .u8 6) (.slice none 0 0) (.slice (some ⟨w3.heap.size,0,none⟩) 1 1) (.int .i64 lo) (.bool ls) (.int .i64 hi) (.bool hs) (.bool op)).cell? ⟨kt,2,none⟩ = some (.slice b1 o1 qq1) ∧ (set8 w5 w.heap.size (.int .u8 6) (.slice none 0 0) (.slice (some ⟨w3.heap.size,0,none⟩) 1 1) (.int .i64 lo) (.bool ls) (.int .i64 hi) (.bool hs) (.bool op)).cell? ⟨kt,3,none⟩ = some (.int .i64 lo1) ∧ (set8 w5 w.heap.size (.int .u8 6) (.slice none 0 0) (.slice (some ⟨w3.heap.size,0,none⟩) 1 1) (.int .i64 lo) (.bool ls) (.int .i64 hi) (.bool hs) (.bool op)).cell? ⟨kt,4,none⟩ = some (.bool ls1) ∧ (set8 w5 w.heap.size (.int .u8 6) (.slice none 0 0) (.slice (some ⟨w3.heap.size,0,none⟩) 1 1) (.int .i64 lo) (.bool ls) (.int .i64 hi) (.bool hs) (.bool op)).cell? ⟨kt,5,none⟩ = some (.int .i64 hi1) ∧ (set8 w5 w.heap.size (.int .u8 6) (.slice none 0 0) (.slice (some ⟨w3.heap.size,0,none⟩) 1 1) (.int .i64 lo) (.bool ls) (.int .i64 hi) (.bool hs) (.bool op)).cell? ⟨kt,6,none⟩ = some (.bool hs1) ∧ (set8 w5 w.heap.size (.int .u8 6) (.slice none 0 0) (.slice (some ⟨w3.heap.size,0,none⟩) 1 1) (.int .i64 lo) (.bool ls) (.int .i64 hi) (.bool hs) (.bool op)).cell? ⟨kt,7,none⟩ = some (.bool op1)) :=
         ⟨Jc hkt5 0,Jc hkt5 1,Jc hkt5 2,Jc hkt5 3,Jc hkt5 4,Jc hkt5 5,Jc hkt5 6,Jc hkt5 7⟩
        clear hkrb hkt5
        refine Jr (rs:=[5]) (by kernel_rfl) (by simp) ?_
        refine Jd rfl (fun K0 hK => ?_) Je
        go_simp
        refine hK.out _ _ HS5.out (fun _ => ?_)
        clear hK K0
        try simp only [Act.put,J1,J2,J3]
        refine wpAnyH_done (by kernel_rfl) ?_ _
        go_wp2_with fail
        first | refine bodyPost_ret (results_cell_row rfl _ _ _ _ _ _ _ rfl HAT.out Tryz.underlying47 rfl (by kernel_rfl)) rfl ?_ | refine And.intro rfl (Exists.intro _ (And.intro (results_cell_row rfl _ _ _ _ _ _ _ rfl HAT.out Tryz.underlying47 rfl (by kernel_rfl)) ?_))
        rw [HR3.out]
        exact HOUT.out
      ·go_simp
       have HC:=Jh (HIC.out w3.drew HP3.out.drew)
       cases qv : z2g r2 with
       | error c =>
        rw [qv] at HC
        refine HC.out.mono ?_
        rintro e w5 ⟨rfl,hb⟩
        have HBE:=Jh (HB3.out.trans (hself.trans hb))
        clear hb hHeld hK
        dsimp only
        go_wp2_with fail
        refine ⟨rfl,?_⟩
        have hfin:=HR2.out
        simp only [qv] at hfin
        rw [hfin]
        exact ⟨rfl,HBE.out⟩
       | ok ir =>
        obtain ⟨⟨lo,ls,hi,hs,op⟩,r3⟩:=ir
        rw [qv] at HC
        have hr3:=HR2.out
        simp only [qv] at hr3
        have HR3:=Jh hr3
        clear hr3
        clear qv
        refine HC.out.mono ?_
        rintro e w4 ⟨rfl,hp4',hb4⟩
        dsimp only
        have HB4:=Jh (hself.trans hb4)
        have HP4:=Jh hp4'
        clear hp4' hb4
        refine hK.out _ _ (HS.out _ HB4.out) (fun _ => ?_)
        clear hK K0
        try simp only [Act.put,J1,J2,J3]
        refine Jr (rs:=[1]) (by kernel_rfl) (by simp) ?_
        refine Jd rfl (fun K0 hK => ?_) Je
        go_simp
        obtain ⟨w5,hw5⟩ : ∃ w5,w5 = w4.alloc (.cells #[.int .u8 k1,.slice a1 n1 c1,.slice b1 o1 qq1,.int .i64 lo1,.bool ls1,.int .i64 hi1,.bool hs1,.bool op1] 47):=⟨_,rfl⟩
        have HB5 : Hid (BtP pb w3 w5):=by rw [Hid,hw5]; exact HB4.out.alloc _
        have HP5 : Hid (Ps pb tb w5 r3 deep):=by rw [Hid,hw5]; exact HP4.out.alloc _
        have HKR5:=Jh (HB5.out.at HKR3.out (by omega))
        have HKX5 : Hid (w5.heap[w4.heap.size]? = some (.cells #[.int .u8 k1,.slice a1 n1 c1,.slice b1 o1 qq1,.int .i64 lo1,.bool ls1,.int .i64 hi1,.bool hs1,.bool op1] 47 (0,0))):=by rw [Hid,hw5]; exact z0b rfl
        rw [← hw5]
        clear hw5
        refine hK.out _ _ (HS.out _ HB5.out) (fun _ => ?_)
        clear hK K0
        try simp only [Act.put,J1,J2,J3]
        refine wpAnyH_take (i:=4) (v:=?_) rfl (by kernel_rfl) (by kernel_rfl) (by kernel_rfl) (fun _ _ _ h => h) (Or.inl ⟨by kernel_rfl,?_⟩) (by assumption) ?_
        rotate_left
        ·(intro w hSw; (try dsimp only at hSw); go_simp)
         with_reducible rfl
        try simp only [Act.put,J1]
        have hkrb:=HKR5.out
        obtain ⟨e0,e1,e2,e3,e4,e5,e6,e7,f0,f1,f2,f3,f4,f5,f6,f7⟩:=cf8 hkrb
        have hlt5:=(Array.getElem?_eq_some_iff.1 hkrb).1
        have HAT : Hid ((set8 w5 w.heap.size (.int .u8 6) (.slice none 0 0) (.slice (some ⟨w4.heap.size,0,none⟩) 1 1) (.int .i64 lo) (.bool ls) (.int .i64 hi) (.bool hs) (.bool op)).heap[w.heap.size]? = some (.cells #[.int .u8 6,.slice none 0 0,.slice (some ⟨w4.heap.size,0,none⟩) 1 1,.int .i64 lo,.bool ls,.int .i64 hi,.bool hs,.bool op] 47 (0,0))):=z23 hkrb _ _ _ _ _ _ _ _
        have HOUT : Hid (OutX pb tb deep w (.ok (.mk 6 [] [x] ⟨lo,ls,hi,hs,op⟩,r3)) (.returned (.agg #[.int .u8 6,.slice none 0 0,.slice (some ⟨w4.heap.size,0,none⟩) 1 1,.int .i64 lo,.bool ls,.int .i64 hi,.bool hs,.bool op])) (set8 w5 w.heap.size (.int .u8 6) (.slice none 0 0) (.slice (some ⟨w4.heap.size,0,none⟩) 1 1) (.int .i64 lo) (.bool ls) (.int .i64 hi) (.bool hs) (.bool op))):=by
         refine ⟨_,rfl,?_,HP5.out.set8 (by omega) htb _ _ _ _ _ _ _ _,(HB3.out.trans HB5.out).set8 (Nat.le_refl _) _ _ _ _ _ _ _ _⟩
         have hzx:=(Array.getElem?_eq_some_iff.1 HKX5.out).1
         have hz3:=(Array.getElem?_eq_some_iff.1 HKR3.out).1
         have hz3':=HB5.out.2.2.2.1
         have hz4 : w3.heap.size ≤ w4.heap.size:=by first | exact Nat.le_refl _ | exact HB4.out.2.2.2.1
         have hf5 : XI (fun b => decide (w.heap.size ≤ b) && b != w.heap.size) w5 x (.agg #[.int .u8 k1,.slice a1 n1 c1,.slice b1 o1 qq1,.int .i64 lo1,.bool ls1,.int .i64 hi1,.bool hs1,.bool op1]):=by
          refine HF3.out.go ⟨hz3',fun b hbz hpn => ⟨hpn,HB5.out.2.2.2.2 b hbz ?_⟩⟩
          simp only [Bool.and_eq_true,decide_eq_true_eq,bne_iff_ne,ne_eq] at hpn
          omega
         have hf6:=XI.one hf5 6 lo hi ls hs op w4.heap.size 1 0 none (0,0) (by simp only [Bool.and_eq_true,decide_eq_true_eq,bne_iff_ne,ne_eq]; omega) HKX5.out
         refine hf6.go ⟨by rw [z0m]; exact Nat.le_refl _,fun b hbz hpc => ?_⟩
         simp only [Bool.and_eq_true,decide_eq_true_eq,bne_iff_ne,ne_eq] at hpc
         exact ⟨decide_eq_true hpc.1,z09 _ _ _ _ _ _ _ _ _ _ _ hpc.2⟩
        have hkt5:=(z09 w5 w.heap.size (.int .u8 6) (.slice none 0 0) (.slice (some ⟨w4.heap.size,0,none⟩) 1 1) (.int .i64 lo) (.bool ls) (.int .i64 hi) (.bool hs) (.bool op) kt (by omega)).trans (HB5.out.at HKT3.out hktp)
        have HS5 : Hid ((set8 w5 w.heap.size (.int .u8 6) (.slice none 0 0) (.slice (some ⟨w4.heap.size,0,none⟩) 1 1) (.int .i64 lo) (.bool ls) (.int .i64 hi) (.bool hs) (.bool op)).cell? ⟨kt,0,none⟩ = some (.int .u8 k1) ∧ (set8 w5 w.heap.size (.int .u8 6) (.slice none 0 0) (.slice (some ⟨w4.heap.size,0,none⟩) 1 1) (.int .i64 lo) (.bool ls) (.int .i64 hi) (.bool hs) (.bool op)).cell? ⟨kt,1,none⟩ = some (.slice a1 n1 c1) ∧ (set8 w5 w.heap.size (.int .u8 6) (.slice none 0 0) (.slice (some ⟨w4.heap.size,0,none⟩) 1 1) (.int .i64 lo) (.bool ls) (.int .i64 hi) (.bool hs) (.bool op)).cell? ⟨kt,2,none⟩ = some (.slice b1 o1 qq1) ∧ (set8 w5 w.heap.size (.int .u8 6) (.slice none 0 0) (.slice (some ⟨w4.heap.size,0,none⟩) 1 1) (.int .i64 lo) (.bool ls) (.int .i64 hi) (.bool hs) (.bool op)).cell? ⟨kt,3,none⟩ = some (.int .i64 lo1) ∧ (set8 w5 w.heap.size (.int .u8 6) (.slice none 0 0) (.slice (some ⟨w4.heap.size,0,none⟩) 1 1) (.int .i64 lo) (.bool ls) (.int .i64 hi) (.bool hs) (.bool op)).cell? ⟨kt,4,none⟩ = some (.bool ls1) ∧ (set8 w5 w.heap.size (.int .u8 6) (.slice none 0 0) (.slice (some ⟨w4.heap.size,0,none⟩) 1 1) (.int .i64 lo) (.bool ls) (.int .i64 hi) (.bool hs) (.bool op)).cell? ⟨kt,5,none⟩ = some (.int .i64 hi1) ∧ (set8 w5 w.heap.size (.int .u8 6) (.slice none 0 0) (.slice (some ⟨w4.heap.size,0,none⟩) 1 1) (.int .i64 lo) (.bool ls) (.int .i64 hi) (.bool hs) (.bool op)).cell? ⟨kt,6,none⟩ = some (.bool hs1) ∧ (set8 w5 w.heap.size (.int .u8 6) (.slice none 0 0) (.slice (some ⟨w4.heap.size,0,none⟩) 1 1) (.int .i64 lo) (.bool ls) (.int .i64 hi) (.bool hs) (.bool op)).cell? ⟨kt,7,none⟩ = some (.bool op1)) :=
         ⟨Jc hkt5 0,Jc hkt5 1,Jc hkt5 2,Jc hkt5 3,Jc hkt5 4,Jc hkt5 5,Jc hkt5 6,Jc hkt5 7⟩
        clear hkrb hkt5
        refine Jr (rs:=[5]) (by kernel_rfl) (by simp) ?_
        refine Jd rfl (fun K0 hK => ?_) Je
        go_simp
        refine hK.out _ _ HS5.out (fun _ => ?_)
        clear hK K0
        try simp only [Act.put,J1,J2,J3]
        refine wpAnyH_done (by kernel_rfl) ?_ _
        go_wp2_with fail
        first | refine bodyPost_ret (results_cell_row rfl _ _ _ _ _ _ _ rfl HAT.out Tryz.underlying47 rfl (by kernel_rfl)) rfl ?_ | refine And.intro rfl (Exists.intro _ (And.intro (results_cell_row rfl _ _ _ _ _ _ _ rfl HAT.out Tryz.underlying47 rfl (by kernel_rfl)) ?_))
        rw [HR3.out]
        exact HOUT.out
  | false =>
   have hN1 : z0p [60] [62] deep (treR d) l = none:=by unfold z0p; rw [qx]; rfl
   have HRF : Hid (RES = match z2h 66 deep l with
    | .error e => .error e
    | .ok (f,r) => .ok (.mk 1 [f] [] z06,r)):=by
    rw [Hid,HRES.out]; unfold zax; rw [HN0.out,hN1]; dsimp only; cases z2h 66 deep l <;> rfl
   have HW0:=Jh (z9a pb tb deep ⟨#[60]⟩ ⟨#[62]⟩ (.func (.func 128) #[.pointer (some ⟨pb,0,none⟩)] #[]) l _ HPa.out qx)
   clear qx hN1 HN0
   refine HW0.out.mono ?_
   rintro e w1 ⟨rfl,hp,hb⟩
   obtain ⟨W2,hW2⟩ : ∃ W2,W2 = w1.alloc (.cells #[.int .u8 0,.slice none 0 0,.slice none 0 0,.int .i64 0,.bool false,.int .i64 0,.bool false,.bool false] 47):=⟨_,rfl⟩
   have HP2 : Hid (Ps pb tb W2 l deep):=by rw [Hid,hW2]; exact hp.alloc _
   have HB2 : Hid (BtP pb w W2):=by rw [Hid,hW2]; exact (HBa.out.trans hb).alloc _
   have HK2 : Hid (W2.heap[w.heap.size]? = some (.cells #[.int .u8 0,.slice none 0 0,.slice none 0 0,.int .i64 0,.bool false,.int .i64 0,.bool false,.bool false] 47 (0,0))):=by rw [Hid,hW2]; exact z1c (hb.at HKa.out (by omega))
   have HWN:=Jh hW2.symm
   clear hp hb hW2 HPa HBa HKa HW0
   go_wp2_with fail
   rw [HWN.out]
   clear HWN
   have HC:=Jh (formula171_any pb tb hp4 66 deep l W2 hd (by omega) (HRD.out.bt hp4 HB2.out) HP2.out)
   cases qf : z2h 66 deep l with
   | error c =>
    rw [qf] at HC
    refine HC.out.mono ?_
    rintro e w3 ⟨rfl,hb⟩
    have HBE:=Jh (HB2.out.trans hb)
    clear hb
    go_wp2_with fail
    refine ⟨rfl,?_⟩
    have hfin:=HRF.out
    simp only [qf] at hfin
    rw [hfin]
    exact ⟨rfl,HBE.out⟩
   | ok fr =>
    obtain ⟨f,r⟩:=fr
    rw [qf] at HC
    have hr:=HRF.out
    simp only [qf] at hr
    have HR:=Jh hr
    clear hr
    clear qf HRF
    refine HC.out.mono ?_
    rintro e w3 ho
    obtain ⟨k1,s1,a1,n1,c1,rfl,hf,hp,hb⟩:=OutF.ok ho
    have HF:=Jh hf
    have HP3:=Jh hp
    have HB3:=Jh (HB2.out.trans hb)
    have hkrb:=hb.at HK2.out (by omega)
    have hz2:=(Array.getElem?_eq_some_iff.1 HK2.out).1
    clear ho hf hp hb
    obtain ⟨e0,e1,e2,e3,e4,e5,e6,e7,f0,f1,f2,f3,f4,f5,f6,f7⟩:=cf8 hkrb
    have hlt3:=(Array.getElem?_eq_some_iff.1 hkrb).1
    have HAT : Hid (((set8 w3 w.heap.size (.int .u8 1) (.slice (some ⟨w3.heap.size,0,none⟩) 1 1) (.slice none 0 0) (.int .i64 0) (.bool false) (.int .i64 0) (.bool false) (.bool false)).alloc (.cells #[.int .u8 k1,.string s1,.slice a1 n1 c1] 25)).heap[w.heap.size]? = some (.cells #[.int .u8 1,.slice (some ⟨w3.heap.size,0,none⟩) 1 1,.slice none 0 0,.int .i64 0,.bool false,.int .i64 0,.bool false,.bool false] 47 (0,0))):=z1c (z23 hkrb _ _ _ _ _ _ _ _)
    have HOUT : Hid (OutX pb tb deep w (.ok (.mk 1 [f] [] z06,r)) (.returned (.agg #[.int .u8 1,.slice (some ⟨w3.heap.size,0,none⟩) 1 1,.slice none 0 0,.int .i64 0,.bool false,.int .i64 0,.bool false,.bool false])) ((set8 w3 w.heap.size (.int .u8 1) (.slice (some ⟨w3.heap.size,0,none⟩) 1 1) (.slice none 0 0) (.int .i64 0) (.bool false) (.int .i64 0) (.bool false) (.bool false)).alloc (.cells #[.int .u8 k1,.string s1,.slice a1 n1 c1] 25))):=by
     refine ⟨_,rfl,?_,(HP3.out.set8 (by omega) htb _ _ _ _ _ _ _ _).alloc _,(HB3.out.set8 (Nat.le_refl _) _ _ _ _ _ _ _ _).alloc _⟩
     have hf1 : FI (fun b => decide (w.heap.size ≤ b) && b != w.heap.size) ((set8 w3 w.heap.size (.int .u8 1) (.slice (some ⟨w3.heap.size,0,none⟩) 1 1) (.slice none 0 0) (.int .i64 0) (.bool false) (.int .i64 0) (.bool false) (.bool false)).alloc (.cells #[.int .u8 k1,.string s1,.slice a1 n1 c1] 25)) f (.agg #[.int .u8 k1,.string s1,.slice a1 n1 c1]):=by
      refine HF.out.go ⟨by simp [z0m],fun b hbz hpn => ?_⟩
      have hpn':=of_decide_eq_true hpn
      refine ⟨?_,(Lib.alloc_old _ _ _ (by rw [z0m]; exact hbz)).trans (z09 _ _ _ _ _ _ _ _ _ _ _ (by omega))⟩
      simp only [Bool.and_eq_true,decide_eq_true_eq,bne_iff_ne,ne_eq]
      omega
     have hf2:=XI.atom hf1 1 w3.heap.size 1 0 none (0,0) (by simp only [Bool.and_eq_true,decide_eq_true_eq,bne_iff_ne,ne_eq]; omega) (z0b (by rw [z0m]))
     refine hf2.go ⟨Nat.le_refl _,fun b hbz hpc => ?_⟩
     simp only [Bool.and_eq_true,decide_eq_true_eq,bne_iff_ne,ne_eq] at hpc
     exact ⟨decide_eq_true hpc.1,rfl⟩
    clear hkrb
    go_wp2_with fail
    first | refine bodyPost_ret (results_cell_row rfl _ _ _ _ _ _ _ rfl HAT.out Tryz.underlying47 rfl (by kernel_rfl)) rfl ?_ | refine And.intro rfl (Exists.intro _ (And.intro (results_cell_row rfl _ _ _ _ _ _ _ rfl HAT.out Tryz.underlying47 rfl (by kernel_rfl)) ?_))
    rw [HR.out]
    exact HOUT.out
end Go.Proofs.YtockinpjfhhkoaaGreatDoor
