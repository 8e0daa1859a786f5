/- The parser walked: a formula's least part. -/
import Derived.Test.YtockinpjfhhkoaaGreatDoorZ35
import Derived.Test.YtockinpjfhhkoaaGreatDoorZ21
import Derived.Test.YtockinpjfhhkoaaGreatDoorZ02
set_option maxRecDepth 100000
set_option maxHeartbeats 16000000
open Go.Lib renaming hid → Jh
namespace Go.Proofs.YtockinpjfhhkoaaGreatDoor
open Go.RowKit
theorem Rdy.bt {pb : Nat} {w w' : World} (hr : Rdy w) (hp : 4 ≤ pb) (h : BtP pb w w') : Rdy w' :=
 Rdy.belowB (B:=4) (Nat.le_refl _) hr ⟨h.1,h.2.1,h.2.2.1,h.2.2.2.1,fun j hj => h.2.2.2.2 j (by have:=hr.lt; omega) (by omega)⟩
def FormC (pb tb d : Nat) : Prop:=∀ (deep : Nat) (l : List Tok) (w : World),deep ≤ 64 → 65 ≤ deep + d → Rdy w → Ps pb tb w l deep → Calls Tryz.prog 249 #[.pointer (some ⟨pb,0,none⟩)] w (OutF pb tb deep w (z2h d deep l))
theorem one183_any (pb tb d : Nat) (hp4 : 4 ≤ pb) (hform : FormC pb tb d) : ∀ (k deep : Nat) (l : List Tok) (w : World),l.length < k → deep ≤ 64 → 64 ≤ deep + d → Rdy w → Ps pb tb w l deep →
 Calls Tryz.prog 258 #[.pointer (some ⟨pb,0,none⟩)] w (OutF pb tb deep w (oneR (z2h d) deep k l)):=by
 intro k
 induction k with
 | zero => intro deep l w h; exact absurd h (by omega)
 | succ k ih =>
  intro deep l w hk hd hdd hrd h
  have hpb:=h.lt
  have htb : tb ≠ w.heap.size:=Nat.ne_of_lt h.tb_lt
  have hP1:=h.alloc (.cells #[.int .u8 0,.string ⟨#[]⟩,.slice none 0 0] 25)
  have hB1:=(BtP.refl pb w).alloc (.cells #[.int .u8 0,.string ⟨#[]⟩,.slice none 0 0] 25)
  have hK1 : (w.alloc (.cells #[.int .u8 0,.string ⟨#[]⟩,.slice none 0 0] 25)).heap[w.heap.size]? = some (.cells #[.int .u8 0,.string ⟨#[]⟩,.slice none 0 0] 25 (0,0)):=z0b rfl
  have hmf : ∀ (fn : Fn) (first cap : Array Value) (w : World),(Instr.makeFunc fn first cap).run Tryz.prog w = .ok (.func fn first cap) w:=fun _ _ _ _ => rfl
  cases q0 : isT [123] l with
  | true =>
   obtain ⟨R,hR⟩ : ∃ R,z0p [123] [125] deep (z2h d) l = some R:=by unfold z0p; rw [q0]; exact ⟨_,rfl⟩
   have HR : Hid (oneR (z2h d) deep (k + 1) l = R):=by rw [Hid]; simp only [oneR]; rw [hR]
   by_cases h64 : deep = 64
   ·subst h64
    have hRe : R = .error (171,z1q l):=by
     unfold z0p at hR; rw [q0] at hR; simp only [if_true,Option.some.injEq] at hR; exact hR.symm
    have HW:=Jh (within199_deep pb tb ⟨#[123]⟩ ⟨#[125]⟩ (.func (.func 249) #[.pointer (some ⟨pb,0,none⟩)] #[]) l _ hP1 q0)
    have HB1:=Jh hB1
    have HRE:=Jh hRe
    clear h hP1 hB1 hK1 hrd ih q0 hR hRe
    go_enter Tryz.func258,Tryz.ntmps258
    go_wp2_with fail
    refine HW.out.mono ?_
    rintro e w1 ⟨rfl,hb⟩
    have HB:=Jh (HB1.out.trans hb)
    clear hb
    go_wp2_with fail
    refine ⟨rfl,?_⟩
    rw [HR.out,HRE.out]
    exact ⟨rfl,HB.out⟩
   ·have hW:=within199_in pb tb deep ⟨#[123]⟩ ⟨#[125]⟩ (by decide) (by decide) 249 #[.pointer (some ⟨pb,0,none⟩)] #[] (z1r Tryz.func249 (by kernel_rfl) (by kernel_rfl)) (z2h d) l _ hP1 (by omega) q0
     (fun w' hb hp => by have:=hform (deep + 1) l.tail w' (by omega) (by omega) (hrd.bt hp4 (hB1.trans hb)) hp; simpa using this)
    have hW' : Calls Tryz.prog 273 #[.pointer (some ⟨pb,0,none⟩),.string ⟨#[123]⟩,.string ⟨#[125]⟩,.func (.func 249) #[.pointer (some ⟨pb,0,none⟩)] #[]] (w.alloc (.cells #[.int .u8 0,.string ⟨#[]⟩,.slice none 0 0] 25)) (OutWF pb tb deep (w.alloc (.cells #[.int .u8 0,.string ⟨#[]⟩,.slice none 0 0] 25)) (z0p [123] [125] deep (z2h d) l)):=hW
    rw [hR] at hW'
    have HW:=Jh hW'
    have HB1:=Jh hB1
    have HK1:=Jh hK1
    have hsz1 : (w.alloc (.cells #[.int .u8 0,.string ⟨#[]⟩,.slice none 0 0] 25)).heap.size = w.heap.size + 1:=by simp
    clear h hP1 hB1 hK1 hrd ih q0 hR hW hW'
    cases R with
    | error c =>
     go_enter Tryz.func258,Tryz.ntmps258
     go_wp2_with fail
     refine HW.out.mono ?_
     rintro e w1 ⟨rfl,hb⟩
     have HB:=Jh (HB1.out.trans hb)
     clear hb
     go_wp2_with fail
     refine ⟨rfl,?_⟩
     rw [HR.out]
     exact ⟨rfl,HB.out⟩
    | ok xr =>
     obtain ⟨x,r⟩:=xr
     go_enter Tryz.func258,Tryz.ntmps258
     go_wp2_with fail
     refine HW.out.mono ?_
     rintro e w1 ⟨v,rfl,hf,hp,hb⟩
     obtain ⟨k1,s1,a1,n1,c1,rfl⟩:=hf.shape
     have HF:=Jh hf
     have HP:=Jh hp
     have HB:=Jh (HB1.out.trans hb)
     have HKR:=Jh (hb.at HK1.out (by omega))
     clear hf hp hb
     have hlt1:=(Array.getElem?_eq_some_iff.1 HKR.out).1
     have hkrb:=HKR.out
     obtain ⟨e0,e1,e2,f0,f1,f2⟩:=cf3 hkrb
     have hltz:=(Array.getElem?_eq_some_iff.1 hkrb).1
     have HAT : Hid (((set3 w1 w.heap.size (.int .u8 k1) (.string s1) (.slice a1 n1 c1)).alloc (.cells #[.int .u8 k1,.string s1,.slice a1 n1 c1] 25)).heap[w.heap.size]? = some (.cells #[.int .u8 k1,.string s1,.slice a1 n1 c1] 25 (0,0))):=z1c (z31 hkrb _ _ _)
     have HOUT : Hid (OutF pb tb deep w (.ok (x,r)) (.returned (.agg #[.int .u8 k1,.string s1,.slice a1 n1 c1])) ((set3 w1 w.heap.size (.int .u8 k1) (.string s1) (.slice a1 n1 c1)).alloc (.cells #[.int .u8 k1,.string s1,.slice a1 n1 c1] 25))):=by
      refine ⟨_,rfl,?_,(HP.out.set3 (by omega) htb _ _ _).alloc _,(HB.out.set3 (Nat.le_refl _) _ _ _).alloc _⟩
      refine HF.out.go ⟨by simp [z19],fun b hbz hpn => ?_⟩
      have hpn' : (w.alloc (.cells #[.int .u8 0,.string ⟨#[]⟩,.slice none 0 0] 25)).heap.size ≤ b:=of_decide_eq_true hpn
      rw [hsz1] at hpn'
      exact ⟨decide_eq_true (show w.heap.size ≤ b by omega),(Lib.alloc_old _ _ _ (by rw [z19]; exact hbz)).trans (z0w _ _ _ _ _ _ (by omega))⟩
     clear hkrb
     go_wp2_with fail
     refine bodyPost_ret (results_cell_row rfl _ _ _ _ _ _ _ rfl HAT.out Tryz.underlying25 rfl (by kernel_rfl)) rfl ?_
     rw [HR.out]
     exact HOUT.out
  | false =>
   have hN0 : z0p [123] [125] deep (z2h d) l = none:=by unfold z0p; rw [q0]; rfl
   have HW:=Jh (within199_no pb tb deep ⟨#[123]⟩ ⟨#[125]⟩ (.func (.func 249) #[.pointer (some ⟨pb,0,none⟩)] #[]) l _ hP1 q0)
   have HB1:=Jh hB1
   have HK1:=Jh hK1
   have HRD:=Jh hrd
   have HIH:=Jh ih
   have HMAY:=Jh (fun (s : ByteArray) (hs : s.data.toList ≠ []) (W : World) (hp : Ps pb tb W l deep) => z1i pb tb deep l s hs W hp)
   clear h hP1 hB1 hK1 hrd ih q0
   go_enter Tryz.func258,Tryz.ntmps258
   go_wp2_with fail
   refine HW.out.mono ?_
   rintro e w1 ⟨rfl,hp,hb⟩
   obtain ⟨W1,hW1⟩ : ∃ W1,W1 = w1.alloc (.cells #[.int .u8 0,.string ⟨#[]⟩,.slice none 0 0] 25):=⟨_,rfl⟩
   have hP2 : Ps pb tb W1 l deep:=by rw [hW1]; exact hp.alloc _
   have hB2 : BtP pb w W1:=by rw [hW1]; exact (HB1.out.trans hb).alloc _
   have hK2 : W1.heap[w.heap.size]? = some (.cells #[.int .u8 0,.string ⟨#[]⟩,.slice none 0 0] 25 (0,0)):=by rw [hW1]; exact z1c (hb.at HK1.out (by omega))
   have HP2:=Jh hP2
   have HB2:=Jh hB2
   have HK2:=Jh hK2
   have HNW:=Jh hW1
   clear hp hb hP2 hB2 hK2 hW1
   go_wp2_with fail
   rw [← HNW.out]
   clear HNW
   have HM1 : Hid (Calls Tryz.prog 227 #[.pointer (some ⟨pb,0,none⟩),.string ⟨#[33]⟩] W1 fun e w' => e = .returned (.bool (isT [33] l)) ∧ Ps pb tb w' (if isT [33] l then l.tail else l) deep ∧ BtP pb W1 w'):=HMAY.out ⟨#[33]⟩ (by decide) W1 HP2.out
   cases q1 : isT [33] l with
   | true =>
    have HRX : Hid (oneR (z2h d) deep (k + 1) l = match oneR (z2h d) deep k l.tail with
     | .error e => .error e
     | .ok (f,r) => .ok (notI f,r)):=by
     rw [Hid]; simp only [oneR]; rw [hN0]; simp only; rw [q1]; simp only [if_true]; rcases oneR (z2h d) deep k l.tail with e | ⟨f,r⟩ <;> rfl
    rw [q1] at HM1
    simp only [if_true] at HM1
    have hlen : l.tail.length < k:=by
     obtain ⟨t0,l0,hl0⟩:=HP2.out.ends.cons
     rw [hl0] at hk ⊢; simp at hk ⊢; omega
    clear q1 hN0
    refine HM1.out.mono ?_
    rintro e w2 ⟨rfl,hp,hb⟩
    have HB3:=Jh (HB2.out.trans hb)
    have HK3:=Jh (hb.at HK2.out (by omega))
    have HC:=Jh (HIH.out deep l.tail w2 hlen hd hdd (HRD.out.bt hp4 HB3.out) hp)
    clear hp hb
    go_wp2_with fail
    cases q2 : oneR (z2h d) deep k l.tail with
    | error c =>
     have HR : Hid (oneR (z2h d) deep (k + 1) l = .error c):=by rw [Hid,HRX.out,q2]
     rw [q2] at HC
     clear q2
     refine HC.out.mono ?_
     rintro e w3 ⟨rfl,hb⟩
     have HB4:=Jh (HB3.out.trans hb)
     clear hb
     go_wp2_with fail
     refine ⟨rfl,?_⟩
     rw [HR.out]
     exact ⟨rfl,HB4.out⟩
    | ok xr =>
     obtain ⟨x,r⟩:=xr
     have HR : Hid (oneR (z2h d) deep (k + 1) l = .ok (notI x,r)):=by rw [Hid,HRX.out,q2]
     rw [q2] at HC
     clear q2
     refine HC.out.mono ?_
     rintro e w3 ho
     obtain ⟨k1,s1,a1,n1,c1,rfl,hf,hp,hb⟩:=OutF.ok ho
     have HF:=Jh hf
     have HP:=Jh hp
     have HB4:=Jh (HB3.out.trans hb)
     have HK4:=Jh (hb.at HK3.out (by omega))
     have hsz2 : w.heap.size < w2.heap.size:=(Array.getElem?_eq_some_iff.1 HK3.out).1
     have hsz3:=(Array.getElem?_eq_some_iff.1 HK4.out).1
     clear ho hf hp hb
     dsimp only
     have hkrb:=HK4.out
     obtain ⟨e0,e1,e2,f0,f1,f2⟩:=cf3 hkrb
     have hltz:=(Array.getElem?_eq_some_iff.1 hkrb).1
     have HAT : Hid (((set3 w3 w.heap.size (.int .u8 4) (.string ⟨#[]⟩) (.slice (some ⟨w3.heap.size,0,none⟩) 1 1)).alloc (.cells #[.int .u8 k1,.string s1,.slice a1 n1 c1] 25)).heap[w.heap.size]? = some (.cells #[.int .u8 4,.string ⟨#[]⟩,.slice (some ⟨w3.heap.size,0,none⟩) 1 1] 25 (0,0))):=z1c (z31 hkrb _ _ _)
     have HOUT : Hid (OutF pb tb deep w (.ok (notI x,r)) (.returned (.agg #[.int .u8 4,.string ⟨#[]⟩,.slice (some ⟨w3.heap.size,0,none⟩) 1 1])) ((set3 w3 w.heap.size (.int .u8 4) (.string ⟨#[]⟩) (.slice (some ⟨w3.heap.size,0,none⟩) 1 1)).alloc (.cells #[.int .u8 k1,.string s1,.slice a1 n1 c1] 25))):=by
      refine ⟨_,rfl,?_,(HP.out.set3 (by omega) htb _ _ _).alloc _,(HB4.out.set3 (Nat.le_refl _) _ _ _).alloc _⟩
      have hf1 : FI (fun b => decide (w.heap.size ≤ b) && b != w.heap.size) ((set3 w3 w.heap.size (.int .u8 4) (.string ⟨#[]⟩) (.slice (some ⟨w3.heap.size,0,none⟩) 1 1)).alloc (.cells #[.int .u8 k1,.string s1,.slice a1 n1 c1] 25)) x (.agg #[.int .u8 k1,.string s1,.slice a1 n1 c1]):=by
       refine HF.out.go ⟨by simp [z19],fun b hbz hpn => ?_⟩
       have hpn':=of_decide_eq_true hpn
       refine ⟨?_,(Lib.alloc_old _ _ _ (by rw [z19]; exact hbz)).trans (z0w _ _ _ _ _ _ (by omega))⟩
       simp only [Bool.and_eq_true,decide_eq_true_eq,bne_iff_ne,ne_eq]
       omega
      have hf2:=FI.one hf1 4 ⟨#[]⟩ w3.heap.size 1 (0,0) (by simp only [Bool.and_eq_true,decide_eq_true_eq,bne_iff_ne,ne_eq]; omega) (z0b (by rw [z19]))
      refine FI.go hf2 ⟨Nat.le_refl _,fun b hbz hpc => ?_⟩
      simp only [Bool.and_eq_true,decide_eq_true_eq,bne_iff_ne,ne_eq] at hpc
      exact ⟨decide_eq_true hpc.1,rfl⟩
     clear hkrb
     go_wp2_with fail
     refine bodyPost_ret (results_cell_row rfl _ _ _ _ _ _ _ rfl HAT.out Tryz.underlying25 rfl (by kernel_rfl)) rfl ?_
     rw [HR.out]
     exact HOUT.out
   | false =>
    have HMM:=HM1
    have HPI:=HP2
    have HBI:=HB2
    have HKI:=HK2
    clear HM1 HP2 HB2 HK2
    have qq:=q1
    rw [qq] at HMM
    simp only [Bool.false_eq_true,if_false] at HMM
    refine HMM.out.mono ?_
    rintro e wa ⟨rfl,hp,hb⟩
    have HPJ:=Jh hp
    have HBJ:=Jh (HBI.out.trans hb)
    have HKJ:=Jh (hb.at HKI.out (by omega))
    clear hp hb HPI HBI HKI HMM
    have HPI:=HPJ
    have HBI:=HBJ
    have HKI:=HKJ
    clear HPJ HBJ HKJ
    go_wp2_with fail
    have HMM : Hid (Calls Tryz.prog 227 #[.pointer (some ⟨pb,0,none⟩),.string ⟨#[116,114,117,101]⟩] wa fun e w' => e = .returned (.bool (isT [116,114,117,101] l)) ∧ Ps pb tb w' (if isT [116,114,117,101] l then l.tail else l) deep ∧ BtP pb wa w'):=HMAY.out ⟨#[116,114,117,101]⟩ (by decide) wa HPI.out
    clear qq
    cases qq : isT [116,114,117,101] l with
    | true =>
     have HR : Hid (oneR (z2h d) deep (k + 1) l = .ok (.mk 1 ⟨#[]⟩ [],l.tail)):=by
      rw [Hid]; simp only [oneR]; rw [hN0]; simp only; rw [q1,qq]; simp
     rw [qq] at HMM
     simp only [if_true] at HMM
     clear qq hN0 q1
     refine HMM.out.mono ?_
     rintro e w2 ⟨rfl,hp,hb⟩
     have HP3:=Jh hp
     have HB3:=Jh (HBI.out.trans hb)
     have HK3:=Jh (hb.at HKI.out (by omega))
     clear hp hb
     have hkrz : (w2).heap[w.heap.size]? = some (.cells #[.int .u8 0,.string ⟨#[]⟩,.slice none 0 0] 25 (0,0)):=HK3.out
     have hkrb:=hkrz
     obtain ⟨e0,e1,e2,f0,f1,f2⟩:=cf3 hkrb
     have hltz:=(Array.getElem?_eq_some_iff.1 hkrb).1
     have HAT : Hid ((set3 w2 w.heap.size (.int .u8 1) (.string ⟨#[]⟩) (.slice none 0 0)).heap[w.heap.size]? = some (.cells #[.int .u8 1,.string ⟨#[]⟩,.slice none 0 0] 25 (0,0))):=z31 hkrz _ _ _
     have HOUT : Hid (OutF pb tb deep w (.ok (.mk 1 ⟨#[]⟩ [],l.tail)) (.returned (.agg #[.int .u8 1,.string ⟨#[]⟩,.slice none 0 0])) (set3 w2 w.heap.size (.int .u8 1) (.string ⟨#[]⟩) (.slice none 0 0))):=by
      refine ⟨_,rfl,?_,HP3.out.set3 (by omega) htb _ _ _,HB3.out.set3 (Nat.le_refl _) _ _ _⟩
      exact FI.none _ _ 1 ⟨#[]⟩ none 0
     clear hkrz hkrb
     go_wp2_with fail
     refine bodyPost_ret (results_cell_row rfl _ _ _ _ _ _ _ rfl HAT.out Tryz.underlying25 rfl (by kernel_rfl)) rfl ?_
     rw [HR.out]
     exact HOUT.out
    | false =>
     have q2:=qq
     rw [qq] at HMM
     simp only [Bool.false_eq_true,if_false] at HMM
     refine HMM.out.mono ?_
     rintro e wb ⟨rfl,hp,hb⟩
     have HPJ:=Jh hp
     have HBJ:=Jh (HBI.out.trans hb)
     have HKJ:=Jh (hb.at HKI.out (by omega))
     clear hp hb HPI HBI HKI HMM
     have HPI:=HPJ
     have HBI:=HBJ
     have HKI:=HKJ
     clear HPJ HBJ HKJ
     go_wp2_with fail
     have HMM : Hid (Calls Tryz.prog 227 #[.pointer (some ⟨pb,0,none⟩),.string ⟨#[102,97,108,115,101]⟩] wb fun e w' => e = .returned (.bool (isT [102,97,108,115,101] l)) ∧ Ps pb tb w' (if isT [102,97,108,115,101] l then l.tail else l) deep ∧ BtP pb wb w'):=HMAY.out ⟨#[102,97,108,115,101]⟩ (by decide) wb HPI.out
     clear qq
     cases qq : isT [102,97,108,115,101] l with
     | true =>
      have HR : Hid (oneR (z2h d) deep (k + 1) l = .ok (.mk 2 ⟨#[]⟩ [],l.tail)):=by
       rw [Hid]; simp only [oneR]; rw [hN0]; simp only; rw [q1,q2,qq]; simp
      rw [qq] at HMM
      simp only [if_true] at HMM
      clear qq hN0 q1 q2
      refine HMM.out.mono ?_
      rintro e w2 ⟨rfl,hp,hb⟩
      have HP3:=Jh hp
      have HB3:=Jh (HBI.out.trans hb)
      have HK3:=Jh (hb.at HKI.out (by omega))
      clear hp hb
      have hkrz : (w2).heap[w.heap.size]? = some (.cells #[.int .u8 0,.string ⟨#[]⟩,.slice none 0 0] 25 (0,0)):=HK3.out
      have hkrb:=hkrz
      obtain ⟨e0,e1,e2,f0,f1,f2⟩:=cf3 hkrb
      have hltz:=(Array.getElem?_eq_some_iff.1 hkrb).1
      have HAT : Hid ((set3 w2 w.heap.size (.int .u8 2) (.string ⟨#[]⟩) (.slice none 0 0)).heap[w.heap.size]? = some (.cells #[.int .u8 2,.string ⟨#[]⟩,.slice none 0 0] 25 (0,0))):=z31 hkrz _ _ _
      have HOUT : Hid (OutF pb tb deep w (.ok (.mk 2 ⟨#[]⟩ [],l.tail)) (.returned (.agg #[.int .u8 2,.string ⟨#[]⟩,.slice none 0 0])) (set3 w2 w.heap.size (.int .u8 2) (.string ⟨#[]⟩) (.slice none 0 0))):=by
       refine ⟨_,rfl,?_,HP3.out.set3 (by omega) htb _ _ _,HB3.out.set3 (Nat.le_refl _) _ _ _⟩
       exact FI.none _ _ 2 ⟨#[]⟩ none 0
      clear hkrz hkrb
      go_wp2_with fail
      refine bodyPost_ret (results_cell_row rfl _ _ _ _ _ _ _ rfl HAT.out Tryz.underlying25 rfl (by kernel_rfl)) rfl ?_
      rw [HR.out]
      exact HOUT.out
     | false =>
      have q3:=qq
      rw [qq] at HMM
      simp only [Bool.false_eq_true,if_false] at HMM
      refine HMM.out.mono ?_
      rintro e wc ⟨rfl,hp,hb⟩
      have HPJ:=Jh hp
      have HBJ:=Jh (HBI.out.trans hb)
      have HKJ:=Jh (hb.at HKI.out (by omega))
      clear hp hb HPI HBI HKI HMM
      have HPI:=HPJ
      have HBI:=HBJ
      have HKI:=HKJ
      clear HPJ HBJ HKJ
      go_wp2_with fail
      obtain ⟨⟨tk,ts,tp⟩,lr,hlr⟩:=HPI.out.ends.cons
      have HRX : Hid (oneR (z2h d) deep (k + 1) l = if tk = 1 ∧ zac ts.data.toList = true then .ok (.mk 3 ts [],lr) else z7v 170 l):=by
       rw [Hid]; simp only [oneR]; rw [hN0]; simp only; rw [q1,q2,q3,hlr]; simp
      clear qq q1 q2 q3 hN0
      subst hlr
      have HFD0:=fun W => (fld51 (.int .u8 tk) (.string ts) (.int .i64 tp) W).1
      have HFD1:=fun W => (fld51 (.int .u8 tk) (.string ts) (.int .i64 tp) W).2.1
      have HNX:=Jh (fun (W : World) (hp : Ps pb tb W (⟨tk,ts,tp⟩ :: lr) deep) => z3q pb tb deep tk ts tp lr W hp)
      have HFL:=Jh (fun (W : World) (hp : Ps pb tb W (⟨tk,ts,tp⟩ :: lr) deep) => z3s pb tb deep 170 tk ts tp lr W hp)
      have hts:=(HPI.out.toks _ (List.mem_cons_self ..)).1
      have HNM:=Jh (fun (W : World) (hr : Rdy W) => name19_any ts hts W hr)
      clear hts
      refine (HNX.out _ HPI.out).mono ?_
      rintro e wd ⟨rfl,hb⟩
      have HP5:=Jh (HPI.out.below hb)
      have HB5:=Jh (HBI.out.trans (.of_below hb))
      have HK5:=Jh ((BtP.of_below (pb:=pb) hb).at HKI.out (by omega))
      clear hb
      cases qk : tk != 1 with
      | true =>
       have HR : Hid (oneR (z2h d) deep (k + 1) (⟨tk,ts,tp⟩ :: lr) = .error (170,tp)):=by
        rw [Hid,HRX.out,if_neg (by simp at qk; simp [qk])]; rfl
       go_wp2_with fail
       refine (HFL.out _ HP5.out).mono ?_
       rintro e we ⟨rfl,hb⟩
       have HB6:=Jh (HB5.out.trans (.of_below hb))
       clear hb
       go_wp2_with fail
       refine ⟨rfl,?_⟩
       rw [HR.out]
       exact ⟨rfl,HB6.out⟩
      | false =>
       go_wp2_with fail
       refine (HNX.out _ HP5.out).mono ?_
       rintro e we ⟨rfl,hb⟩
       have HP6:=Jh (HP5.out.below hb)
       have HB6:=Jh (HB5.out.trans (.of_below hb))
       have HK6:=Jh ((BtP.of_below (pb:=pb) hb).at HK5.out (by omega))
       clear hb
       go_wp2_with fail
       refine (HNM.out _ (HRD.out.bt hp4 HB6.out)).mono ?_
       rintro e wf ⟨rfl,hb⟩
       have HP7:=Jh (HP6.out.below hb)
       have HB7:=Jh (HB6.out.trans (.of_below hb))
       have HK7:=Jh ((BtP.of_below (pb:=pb) hb).at HK6.out (by omega))
       clear hb
       have hk1 : tk = 1:=by simpa using qk
       have HKK:=Jh hk1
       clear hk1
       cases qn : zac ts.data.toList with
       | false =>
        have HR : Hid (oneR (z2h d) deep (k + 1) (⟨tk,ts,tp⟩ :: lr) = .error (170,tp)):=by
         rw [Hid,HRX.out,if_neg (by rw [qn]; simp)]; rfl
        go_wp2_with fail
        refine (HFL.out _ HP7.out).mono ?_
        rintro e wg ⟨rfl,hb⟩
        have HB8:=Jh (HB7.out.trans (.of_below hb))
        clear hb
        go_wp2_with fail
        refine ⟨rfl,?_⟩
        rw [HR.out]
        exact ⟨rfl,HB8.out⟩
       | true =>
        have HR : Hid (oneR (z2h d) deep (k + 1) (⟨tk,ts,tp⟩ :: lr) = .ok (.mk 3 ts [],lr)):=by
         rw [Hid,HRX.out,if_pos ⟨HKK.out,qn⟩]
        have HPS:=Jh (z3t pb tb deep tk ts tp lr wf HP7.out (HP7.out.ends.tail (.inl (show tk ≠ 0 from by rw [HKK.out]; decide))))
        go_wp2_with fail
        refine HPS.out.mono ?_
        rintro e wg ⟨rfl,hp,hb⟩
        have HP8:=Jh hp
        have HB8:=Jh (HB7.out.trans hb)
        have HK8:=Jh (hb.at HK7.out (by omega))
        clear hp hb
        have hkrz : (wg).heap[w.heap.size]? = some (.cells #[.int .u8 0,.string ⟨#[]⟩,.slice none 0 0] 25 (0,0)):=HK8.out
        have hkrb:=hkrz
        obtain ⟨e0,e1,e2,f0,f1,f2⟩:=cf3 hkrb
        have hltz:=(Array.getElem?_eq_some_iff.1 hkrb).1
        have HAT : Hid ((set3 wg w.heap.size (.int .u8 3) (.string ts) (.slice none 0 0)).heap[w.heap.size]? = some (.cells #[.int .u8 3,.string ts,.slice none 0 0] 25 (0,0))):=z31 hkrz _ _ _
        have HOUT : Hid (OutF pb tb deep w (.ok (.mk 3 ts [],lr)) (.returned (.agg #[.int .u8 3,.string ts,.slice none 0 0])) (set3 wg w.heap.size (.int .u8 3) (.string ts) (.slice none 0 0))):=by
         refine ⟨_,rfl,?_,HP8.out.set3 (by omega) htb _ _ _,HB8.out.set3 (Nat.le_refl _) _ _ _⟩
         exact FI.none _ _ 3 ts none 0
        clear hkrz hkrb
        go_wp2_with fail
        refine bodyPost_ret (results_cell_row rfl _ _ _ _ _ _ _ rfl HAT.out Tryz.underlying25 rfl (by kernel_rfl)) rfl ?_
        rw [HR.out]
        exact HOUT.out
end Go.Proofs.YtockinpjfhhkoaaGreatDoor
