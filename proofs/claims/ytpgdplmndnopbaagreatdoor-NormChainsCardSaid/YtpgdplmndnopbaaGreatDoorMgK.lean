/- The parser walked: a formula's least part. -/
import Derived.Test.YtpgdplmndnopbaaGreatDoorMgJ
import Derived.Test.YtpgdplmndnopbaaGreatDoorMgG
namespace Go.Proofs.YtpgdplmndnopbaaGreatDoor
open Go.RowKit
theorem Rdy.bt {pb : Nat} {w w' : World} (hr : Rdy w) (hp : 4 ≤ pb) (h : Bt pb w w') : Rdy w' :=
 Rdy.belowB (B := 4) (Nat.le_refl _) hr ⟨h.1, h.2.1, h.2.2.1, h.2.2.2.1, fun j hj => h.2.2.2.2 j (by have := hr.lt; omega) (by omega)⟩
def FormC (pb tb d : Nat) : Prop := ∀ (deep : Nat) (l : List Tok) (w : World), deep ≤ 64 → 65 ≤ deep + d → Rdy w → Ps pb tb w l deep → Calls Tryz.prog 171 #[.pointer (some ⟨pb, 0, none⟩)] w (OutF pb tb deep w (formR d deep l))
set_option maxRecDepth 100000 in
set_option maxHeartbeats 16000000 in
theorem one183_any (pb tb d : Nat) (hp4 : 4 ≤ pb) (hform : FormC pb tb d) : ∀ (k deep : Nat) (l : List Tok) (w : World), l.length < k → deep ≤ 64 → 64 ≤ deep + d → Rdy w → Ps pb tb w l deep →
 Calls Tryz.prog 183 #[.pointer (some ⟨pb, 0, none⟩)] w (OutF pb tb deep w (oneR (formR d) deep k l)) := by
 intro k
 induction k with
 | zero => intro deep l w h; exact absurd h (by omega)
 | succ k ih =>
  intro deep l w hk hd hdd hrd h
  have hpb := h.lt
  have htb : tb ≠ w.heap.size := Nat.ne_of_lt h.tb_lt
  have hP1 := h.alloc (.cells #[.int .u8 0, .string ⟨#[]⟩, .slice none 0 0] 61)
  have hB1 := (Bt.refl pb w).alloc (.cells #[.int .u8 0, .string ⟨#[]⟩, .slice none 0 0] 61)
  have hK1 : (w.alloc (.cells #[.int .u8 0, .string ⟨#[]⟩, .slice none 0 0] 61)).heap[w.heap.size]? = some (.cells #[.int .u8 0, .string ⟨#[]⟩, .slice none 0 0] 61 (0, 0)) := hp_top rfl
  have hmf : ∀ (fn : Fn) (first cap : Array Value) (w : World), (Instr.makeFunc fn first cap).run Tryz.prog w = .ok (.func fn first cap) w := fun _ _ _ _ => rfl
  cases q0 : isT [123] l with
  | true =>
   obtain ⟨R, hR⟩ : ∃ R, withinR [123] [125] deep (formR d) l = some R := by unfold withinR; rw [q0]; exact ⟨_, rfl⟩
   have HR : Hid (oneR (formR d) deep (k + 1) l = R) := by rw [Hid]; simp only [oneR]; rw [hR]
   by_cases h64 : deep = 64
   ·subst h64
    have hRe : R = .error (171, placeT l) := by
     unfold withinR at hR; rw [q0] at hR; simp only [if_true, Option.some.injEq] at hR; exact hR.symm
    have HW := Lib.hid (within199_deep pb tb ⟨#[123]⟩ ⟨#[125]⟩ (.func (.func 171) #[.pointer (some ⟨pb, 0, none⟩)] #[]) l _ hP1 q0)
    have HB1 := Lib.hid hB1
    have HRE := Lib.hid hRe
    clear h hP1 hB1 hK1 hrd ih q0 hR hRe
    go_enter Tryz.func183, Tryz.ntmps183
    go_wp2_with fail
    refine HW.out.mono ?_
    rintro e w1 ⟨rfl, hb⟩
    have HB := Lib.hid (HB1.out.trans hb)
    clear hb
    go_wp2_with fail
    refine ⟨rfl, ?_⟩
    rw [HR.out, HRE.out]
    exact ⟨rfl, HB.out⟩
   ·have hW := within199_in pb tb deep ⟨#[123]⟩ ⟨#[125]⟩ (by decide) (by decide) 171 #[.pointer (some ⟨pb, 0, none⟩)] #[] (ent_of Tryz.func171 (by kernel_rfl) (by kernel_rfl)) (formR d) l _ hP1 (by omega) q0
     (fun w' hb hp => by have := hform (deep + 1) l.tail w' (by omega) (by omega) (hrd.bt hp4 (hB1.trans hb)) hp; simpa using this)
    have hW' : Calls Tryz.prog 199 #[.pointer (some ⟨pb, 0, none⟩), .string ⟨#[123]⟩, .string ⟨#[125]⟩, .func (.func 171) #[.pointer (some ⟨pb, 0, none⟩)] #[]] (w.alloc (.cells #[.int .u8 0, .string ⟨#[]⟩, .slice none 0 0] 61)) (OutWF pb tb deep (w.alloc (.cells #[.int .u8 0, .string ⟨#[]⟩, .slice none 0 0] 61)) (withinR [123] [125] deep (formR d) l)) := hW
    rw [hR] at hW'
    have HW := Lib.hid hW'
    have HB1 := Lib.hid hB1
    have HK1 := Lib.hid hK1
    have hsz1 : (w.alloc (.cells #[.int .u8 0, .string ⟨#[]⟩, .slice none 0 0] 61)).heap.size = w.heap.size + 1 := by simp
    clear h hP1 hB1 hK1 hrd ih q0 hR hW hW'
    cases R with
    | error c =>
     go_enter Tryz.func183, Tryz.ntmps183
     go_wp2_with fail
     refine HW.out.mono ?_
     rintro e w1 ⟨rfl, hb⟩
     have HB := Lib.hid (HB1.out.trans hb)
     clear hb
     go_wp2_with fail
     refine ⟨rfl, ?_⟩
     rw [HR.out]
     exact ⟨rfl, HB.out⟩
    | ok xr =>
     obtain ⟨x, r⟩ := xr
     go_enter Tryz.func183, Tryz.ntmps183
     go_wp2_with fail
     refine HW.out.mono ?_
     rintro e w1 ⟨v, rfl, hf, hp, hb⟩
     obtain ⟨k1, s1, a1, n1, c1, rfl⟩ := hf.shape
     have HF := Lib.hid hf
     have HP := Lib.hid hp
     have HB := Lib.hid (HB1.out.trans hb)
     have HKR := Lib.hid (hb.at HK1.out (by omega))
     clear hf hp hb
     have hlt1 := (Array.getElem?_eq_some_iff.1 HKR.out).1
     have hkrb := HKR.out
     have e0 := Lib.cell_of_heap hkrb 0
     have e1 := Lib.cell_of_heap hkrb 1
     have e2 := Lib.cell_of_heap hkrb 2
     have f0 := Lib.frozen_of_heap hkrb 0
     have f1 := Lib.frozen_of_heap hkrb 1
     have f2 := Lib.frozen_of_heap hkrb 2
     simp only [List.getElem?_toArray, List.getElem?_cons_zero, List.getElem?_cons_succ] at e0 e1 e2
     have hltz := (Array.getElem?_eq_some_iff.1 hkrb).1
     have HAT : Hid (((set3 w1 w.heap.size (.int .u8 k1) (.string s1) (.slice a1 n1 c1)).alloc (.cells #[.int .u8 k1, .string s1, .slice a1 n1 c1] 61)).heap[w.heap.size]? = some (.cells #[.int .u8 k1, .string s1, .slice a1 n1 c1] 61 (0, 0))) := hp_in (set3_at hkrb _ _ _)
     have HOUT : Hid (OutF pb tb deep w (.ok (x, r)) (.returned (.agg #[.int .u8 k1, .string s1, .slice a1 n1 c1])) ((set3 w1 w.heap.size (.int .u8 k1) (.string s1) (.slice a1 n1 c1)).alloc (.cells #[.int .u8 k1, .string s1, .slice a1 n1 c1] 61))) := by
      refine ⟨_, rfl, ?_, (HP.out.set3 (by omega) htb _ _ _).alloc _, (HB.out.set3 (Nat.le_refl _) _ _ _).alloc _⟩
      refine HF.out.go ⟨by simp [set3_size], fun b hbz hpn => ?_⟩
      have hpn' : (w.alloc (.cells #[.int .u8 0, .string ⟨#[]⟩, .slice none 0 0] 61)).heap.size ≤ b := of_decide_eq_true hpn
      rw [hsz1] at hpn'
      exact ⟨decide_eq_true (show w.heap.size ≤ b by omega), (Lib.alloc_old _ _ _ (by rw [set3_size]; exact hbz)).trans (set3_other _ _ _ _ _ _ (by omega))⟩
     clear hkrb
     go_wp2_with fail
     refine bodyPost_ret (results_cell_row rfl _ _ _ _ _ _ _ rfl HAT.out Tryz.underlying61 rfl (by kernel_rfl)) rfl ?_
     rw [HR.out]
     exact HOUT.out
  | false =>
   have hN0 : withinR [123] [125] deep (formR d) l = none := by unfold withinR; rw [q0]; rfl
   have HW := Lib.hid (within199_no pb tb deep ⟨#[123]⟩ ⟨#[125]⟩ (.func (.func 171) #[.pointer (some ⟨pb, 0, none⟩)] #[]) l _ hP1 q0)
   have HB1 := Lib.hid hB1
   have HK1 := Lib.hid hK1
   have HRD := Lib.hid hrd
   have HIH := Lib.hid ih
   have HMAY := Lib.hid (fun (s : ByteArray) (hs : s.data.toList ≠ []) (W : World) (hp : Ps pb tb W l deep) => may139_any pb tb deep l s hs W hp)
   clear h hP1 hB1 hK1 hrd ih q0
   go_enter Tryz.func183, Tryz.ntmps183
   go_wp2_with fail
   refine HW.out.mono ?_
   rintro e w1 ⟨rfl, hp, hb⟩
   obtain ⟨W1, hW1⟩ : ∃ W1, W1 = w1.alloc (.cells #[.int .u8 0, .string ⟨#[]⟩, .slice none 0 0] 61) := ⟨_, rfl⟩
   have hP2 : Ps pb tb W1 l deep := by rw [hW1]; exact hp.alloc _
   have hB2 : Bt pb w W1 := by rw [hW1]; exact (HB1.out.trans hb).alloc _
   have hK2 : W1.heap[w.heap.size]? = some (.cells #[.int .u8 0, .string ⟨#[]⟩, .slice none 0 0] 61 (0, 0)) := by rw [hW1]; exact hp_in (hb.at HK1.out (by omega))
   have HP2 := Lib.hid hP2
   have HB2 := Lib.hid hB2
   have HK2 := Lib.hid hK2
   have HNW := Lib.hid hW1
   clear hp hb hP2 hB2 hK2 hW1
   go_wp2_with fail
   rw [← HNW.out]
   clear HNW
   have HM1 : Hid (Calls Tryz.prog 139 #[.pointer (some ⟨pb, 0, none⟩), .string ⟨#[33]⟩] W1 fun e w' => e = .returned (.bool (isT [33] l)) ∧ Ps pb tb w' (if isT [33] l then l.tail else l) deep ∧ Bt pb W1 w') := HMAY.out ⟨#[33]⟩ (by decide) W1 HP2.out
   cases q1 : isT [33] l with
   | true =>
    have HRX : Hid (oneR (formR d) deep (k + 1) l = match oneR (formR d) deep k l.tail with
     | .error e => .error e
     | .ok (f, r) => .ok (notI f, r)) := by
     rw [Hid]; simp only [oneR]; rw [hN0]; simp only; rw [q1]; simp only [if_true]; rcases oneR (formR d) deep k l.tail with e | ⟨f, r⟩ <;> rfl
    rw [q1] at HM1
    simp only [if_true] at HM1
    have hlen : l.tail.length < k := by
     obtain ⟨t0, l0, hl0⟩ := HP2.out.ends.cons
     rw [hl0] at hk ⊢; simp at hk ⊢; omega
    clear q1 hN0
    refine HM1.out.mono ?_
    rintro e w2 ⟨rfl, hp, hb⟩
    have HB3 := Lib.hid (HB2.out.trans hb)
    have HK3 := Lib.hid (hb.at HK2.out (by omega))
    have HC := Lib.hid (HIH.out deep l.tail w2 hlen hd hdd (HRD.out.bt hp4 HB3.out) hp)
    clear hp hb
    go_wp2_with fail
    cases q2 : oneR (formR d) deep k l.tail with
    | error c =>
     have HR : Hid (oneR (formR d) deep (k + 1) l = .error c) := by rw [Hid, HRX.out, q2]
     rw [q2] at HC
     clear q2
     refine HC.out.mono ?_
     rintro e w3 ⟨rfl, hb⟩
     have HB4 := Lib.hid (HB3.out.trans hb)
     clear hb
     go_wp2_with fail
     refine ⟨rfl, ?_⟩
     rw [HR.out]
     exact ⟨rfl, HB4.out⟩
    | ok xr =>
     obtain ⟨x, r⟩ := xr
     have HR : Hid (oneR (formR d) deep (k + 1) l = .ok (notI x, r)) := by rw [Hid, HRX.out, q2]
     rw [q2] at HC
     clear q2
     refine HC.out.mono ?_
     rintro e w3 ho
     obtain ⟨k1, s1, a1, n1, c1, rfl, hf, hp, hb⟩ := OutF.ok ho
     have HF := Lib.hid hf
     have HP := Lib.hid hp
     have HB4 := Lib.hid (HB3.out.trans hb)
     have HK4 := Lib.hid (hb.at HK3.out (by omega))
     have hsz2 : w.heap.size < w2.heap.size := (Array.getElem?_eq_some_iff.1 HK3.out).1
     have hsz3 := (Array.getElem?_eq_some_iff.1 HK4.out).1
     clear ho hf hp hb
     dsimp only
     have hkrb := HK4.out
     have e0 := Lib.cell_of_heap hkrb 0
     have e1 := Lib.cell_of_heap hkrb 1
     have e2 := Lib.cell_of_heap hkrb 2
     have f0 := Lib.frozen_of_heap hkrb 0
     have f1 := Lib.frozen_of_heap hkrb 1
     have f2 := Lib.frozen_of_heap hkrb 2
     simp only [List.getElem?_toArray, List.getElem?_cons_zero, List.getElem?_cons_succ] at e0 e1 e2
     have hltz := (Array.getElem?_eq_some_iff.1 hkrb).1
     have HAT : Hid (((set3 w3 w.heap.size (.int .u8 4) (.string ⟨#[]⟩) (.slice (some ⟨w3.heap.size, 0, none⟩) 1 1)).alloc (.cells #[.int .u8 k1, .string s1, .slice a1 n1 c1] 61)).heap[w.heap.size]? = some (.cells #[.int .u8 4, .string ⟨#[]⟩, .slice (some ⟨w3.heap.size, 0, none⟩) 1 1] 61 (0, 0))) := hp_in (set3_at hkrb _ _ _)
     have HOUT : Hid (OutF pb tb deep w (.ok (notI x, r)) (.returned (.agg #[.int .u8 4, .string ⟨#[]⟩, .slice (some ⟨w3.heap.size, 0, none⟩) 1 1])) ((set3 w3 w.heap.size (.int .u8 4) (.string ⟨#[]⟩) (.slice (some ⟨w3.heap.size, 0, none⟩) 1 1)).alloc (.cells #[.int .u8 k1, .string s1, .slice a1 n1 c1] 61))) := by
      refine ⟨_, rfl, ?_, (HP.out.set3 (by omega) htb _ _ _).alloc _, (HB4.out.set3 (Nat.le_refl _) _ _ _).alloc _⟩
      have hf1 : FI (fun b => decide (w.heap.size ≤ b) && b != w.heap.size) ((set3 w3 w.heap.size (.int .u8 4) (.string ⟨#[]⟩) (.slice (some ⟨w3.heap.size, 0, none⟩) 1 1)).alloc (.cells #[.int .u8 k1, .string s1, .slice a1 n1 c1] 61)) x (.agg #[.int .u8 k1, .string s1, .slice a1 n1 c1]) := by
       refine HF.out.go ⟨by simp [set3_size], fun b hbz hpn => ?_⟩
       have hpn' := of_decide_eq_true hpn
       refine ⟨?_, (Lib.alloc_old _ _ _ (by rw [set3_size]; exact hbz)).trans (set3_other _ _ _ _ _ _ (by omega))⟩
       simp only [Bool.and_eq_true, decide_eq_true_eq, bne_iff_ne, ne_eq]
       omega
      have hf2 := FI.one hf1 4 ⟨#[]⟩ w3.heap.size 1 (0, 0) (by simp only [Bool.and_eq_true, decide_eq_true_eq, bne_iff_ne, ne_eq]; omega) (hp_top (by rw [set3_size]))
      refine FI.go hf2 ⟨Nat.le_refl _, fun b hbz hpc => ?_⟩
      simp only [Bool.and_eq_true, decide_eq_true_eq, bne_iff_ne, ne_eq] at hpc
      exact ⟨decide_eq_true hpc.1, rfl⟩
     clear hkrb
     go_wp2_with fail
     refine bodyPost_ret (results_cell_row rfl _ _ _ _ _ _ _ rfl HAT.out Tryz.underlying61 rfl (by kernel_rfl)) rfl ?_
     rw [HR.out]
     exact HOUT.out
   | false =>
    have HMM := HM1
    have HPI := HP2
    have HBI := HB2
    have HKI := HK2
    clear HM1 HP2 HB2 HK2
    have qq := q1
    rw [qq] at HMM
    simp only [Bool.false_eq_true, if_false] at HMM
    refine HMM.out.mono ?_
    rintro e wa ⟨rfl, hp, hb⟩
    have HPJ := Lib.hid hp
    have HBJ := Lib.hid (HBI.out.trans hb)
    have HKJ := Lib.hid (hb.at HKI.out (by omega))
    clear hp hb HPI HBI HKI HMM
    have HPI := HPJ
    have HBI := HBJ
    have HKI := HKJ
    clear HPJ HBJ HKJ
    go_wp2_with fail
    have HMM : Hid (Calls Tryz.prog 139 #[.pointer (some ⟨pb, 0, none⟩), .string ⟨#[116, 114, 117, 101]⟩] wa fun e w' => e = .returned (.bool (isT [116, 114, 117, 101] l)) ∧ Ps pb tb w' (if isT [116, 114, 117, 101] l then l.tail else l) deep ∧ Bt pb wa w') := HMAY.out ⟨#[116, 114, 117, 101]⟩ (by decide) wa HPI.out
    clear qq
    cases qq : isT [116, 114, 117, 101] l with
    | true =>
     have HR : Hid (oneR (formR d) deep (k + 1) l = .ok (.mk 1 ⟨#[]⟩ [], l.tail)) := by
      rw [Hid]; simp only [oneR]; rw [hN0]; simp only; rw [q1, qq]; simp
     rw [qq] at HMM
     simp only [if_true] at HMM
     clear qq hN0 q1
     refine HMM.out.mono ?_
     rintro e w2 ⟨rfl, hp, hb⟩
     have HP3 := Lib.hid hp
     have HB3 := Lib.hid (HBI.out.trans hb)
     have HK3 := Lib.hid (hb.at HKI.out (by omega))
     clear hp hb
     have hkrz : (w2).heap[w.heap.size]? = some (.cells #[.int .u8 0, .string ⟨#[]⟩, .slice none 0 0] 61 (0, 0)) := HK3.out
     have hkrb := hkrz
     have e0 := Lib.cell_of_heap hkrb 0
     have e1 := Lib.cell_of_heap hkrb 1
     have e2 := Lib.cell_of_heap hkrb 2
     have f0 := Lib.frozen_of_heap hkrb 0
     have f1 := Lib.frozen_of_heap hkrb 1
     have f2 := Lib.frozen_of_heap hkrb 2
     simp only [List.getElem?_toArray, List.getElem?_cons_zero, List.getElem?_cons_succ] at e0 e1 e2
     have hltz := (Array.getElem?_eq_some_iff.1 hkrb).1
     have HAT : Hid ((set3 w2 w.heap.size (.int .u8 1) (.string ⟨#[]⟩) (.slice none 0 0)).heap[w.heap.size]? = some (.cells #[.int .u8 1, .string ⟨#[]⟩, .slice none 0 0] 61 (0, 0))) := set3_at hkrz _ _ _
     have HOUT : Hid (OutF pb tb deep w (.ok (.mk 1 ⟨#[]⟩ [], l.tail)) (.returned (.agg #[.int .u8 1, .string ⟨#[]⟩, .slice none 0 0])) (set3 w2 w.heap.size (.int .u8 1) (.string ⟨#[]⟩) (.slice none 0 0))) := by
      refine ⟨_, rfl, ?_, HP3.out.set3 (by omega) htb _ _ _, HB3.out.set3 (Nat.le_refl _) _ _ _⟩
      exact FI.none _ _ 1 ⟨#[]⟩ none 0
     clear hkrz hkrb
     go_wp2_with fail
     refine bodyPost_ret (results_cell_row rfl _ _ _ _ _ _ _ rfl HAT.out Tryz.underlying61 rfl (by kernel_rfl)) rfl ?_
     rw [HR.out]
     exact HOUT.out
    | false =>
     have q2 := qq
     rw [qq] at HMM
     simp only [Bool.false_eq_true, if_false] at HMM
     refine HMM.out.mono ?_
     rintro e wb ⟨rfl, hp, hb⟩
     have HPJ := Lib.hid hp
     have HBJ := Lib.hid (HBI.out.trans hb)
     have HKJ := Lib.hid (hb.at HKI.out (by omega))
     clear hp hb HPI HBI HKI HMM
     have HPI := HPJ
     have HBI := HBJ
     have HKI := HKJ
     clear HPJ HBJ HKJ
     go_wp2_with fail
     have HMM : Hid (Calls Tryz.prog 139 #[.pointer (some ⟨pb, 0, none⟩), .string ⟨#[102, 97, 108, 115, 101]⟩] wb fun e w' => e = .returned (.bool (isT [102, 97, 108, 115, 101] l)) ∧ Ps pb tb w' (if isT [102, 97, 108, 115, 101] l then l.tail else l) deep ∧ Bt pb wb w') := HMAY.out ⟨#[102, 97, 108, 115, 101]⟩ (by decide) wb HPI.out
     clear qq
     cases qq : isT [102, 97, 108, 115, 101] l with
     | true =>
      have HR : Hid (oneR (formR d) deep (k + 1) l = .ok (.mk 2 ⟨#[]⟩ [], l.tail)) := by
       rw [Hid]; simp only [oneR]; rw [hN0]; simp only; rw [q1, q2, qq]; simp
      rw [qq] at HMM
      simp only [if_true] at HMM
      clear qq hN0 q1 q2
      refine HMM.out.mono ?_
      rintro e w2 ⟨rfl, hp, hb⟩
      have HP3 := Lib.hid hp
      have HB3 := Lib.hid (HBI.out.trans hb)
      have HK3 := Lib.hid (hb.at HKI.out (by omega))
      clear hp hb
      have hkrz : (w2).heap[w.heap.size]? = some (.cells #[.int .u8 0, .string ⟨#[]⟩, .slice none 0 0] 61 (0, 0)) := HK3.out
      have hkrb := hkrz
      have e0 := Lib.cell_of_heap hkrb 0
      have e1 := Lib.cell_of_heap hkrb 1
      have e2 := Lib.cell_of_heap hkrb 2
      have f0 := Lib.frozen_of_heap hkrb 0
      have f1 := Lib.frozen_of_heap hkrb 1
      have f2 := Lib.frozen_of_heap hkrb 2
      simp only [List.getElem?_toArray, List.getElem?_cons_zero, List.getElem?_cons_succ] at e0 e1 e2
      have hltz := (Array.getElem?_eq_some_iff.1 hkrb).1
      have HAT : Hid ((set3 w2 w.heap.size (.int .u8 2) (.string ⟨#[]⟩) (.slice none 0 0)).heap[w.heap.size]? = some (.cells #[.int .u8 2, .string ⟨#[]⟩, .slice none 0 0] 61 (0, 0))) := set3_at hkrz _ _ _
      have HOUT : Hid (OutF pb tb deep w (.ok (.mk 2 ⟨#[]⟩ [], l.tail)) (.returned (.agg #[.int .u8 2, .string ⟨#[]⟩, .slice none 0 0])) (set3 w2 w.heap.size (.int .u8 2) (.string ⟨#[]⟩) (.slice none 0 0))) := by
       refine ⟨_, rfl, ?_, HP3.out.set3 (by omega) htb _ _ _, HB3.out.set3 (Nat.le_refl _) _ _ _⟩
       exact FI.none _ _ 2 ⟨#[]⟩ none 0
      clear hkrz hkrb
      go_wp2_with fail
      refine bodyPost_ret (results_cell_row rfl _ _ _ _ _ _ _ rfl HAT.out Tryz.underlying61 rfl (by kernel_rfl)) rfl ?_
      rw [HR.out]
      exact HOUT.out
     | false =>
      have q3 := qq
      rw [qq] at HMM
      simp only [Bool.false_eq_true, if_false] at HMM
      refine HMM.out.mono ?_
      rintro e wc ⟨rfl, hp, hb⟩
      have HPJ := Lib.hid hp
      have HBJ := Lib.hid (HBI.out.trans hb)
      have HKJ := Lib.hid (hb.at HKI.out (by omega))
      clear hp hb HPI HBI HKI HMM
      have HPI := HPJ
      have HBI := HBJ
      have HKI := HKJ
      clear HPJ HBJ HKJ
      go_wp2_with fail
      obtain ⟨⟨tk, ts, tp⟩, lr, hlr⟩ := HPI.out.ends.cons
      have HRX : Hid (oneR (formR d) deep (k + 1) l = if tk = 1 ∧ nameB ts.data.toList = true then .ok (.mk 3 ts [], lr) else failR 170 l) := by
       rw [Hid]; simp only [oneR]; rw [hN0]; simp only; rw [q1, q2, q3, hlr]; simp
      clear qq q1 q2 q3 hN0
      subst hlr
      have HFD0 := fun W => (fld51 (.int .u8 tk) (.string ts) (.int .i64 tp) W).1
      have HFD1 := fun W => (fld51 (.int .u8 tk) (.string ts) (.int .i64 tp) W).2.1
      have HNX := Lib.hid (fun (W : World) (hp : Ps pb tb W (⟨tk, ts, tp⟩ :: lr) deep) => next94_any pb tb deep tk ts tp lr W hp)
      have HFL := Lib.hid (fun (W : World) (hp : Ps pb tb W (⟨tk, ts, tp⟩ :: lr) deep) => fail45_any pb tb deep 170 tk ts tp lr W hp)
      have hts := (HPI.out.toks _ (List.mem_cons_self ..)).1
      have HNM := Lib.hid (fun (W : World) (hr : Rdy W) => name19_any ts hts W hr)
      clear hts
      refine (HNX.out _ HPI.out).mono ?_
      rintro e wd ⟨rfl, hb⟩
      have HP5 := Lib.hid (HPI.out.below hb)
      have HB5 := Lib.hid (HBI.out.trans (.of_below hb))
      have HK5 := Lib.hid ((Bt.of_below (pb := pb) hb).at HKI.out (by omega))
      clear hb
      cases qk : tk != 1 with
      | true =>
       have HR : Hid (oneR (formR d) deep (k + 1) (⟨tk, ts, tp⟩ :: lr) = .error (170, tp)) := by
        rw [Hid, HRX.out, if_neg (by simp at qk; simp [qk])]; rfl
       go_wp2_with fail
       refine (HFL.out _ HP5.out).mono ?_
       rintro e we ⟨rfl, hb⟩
       have HB6 := Lib.hid (HB5.out.trans (.of_below hb))
       clear hb
       go_wp2_with fail
       refine ⟨rfl, ?_⟩
       rw [HR.out]
       exact ⟨rfl, HB6.out⟩
      | false =>
       go_wp2_with fail
       refine (HNX.out _ HP5.out).mono ?_
       rintro e we ⟨rfl, hb⟩
       have HP6 := Lib.hid (HP5.out.below hb)
       have HB6 := Lib.hid (HB5.out.trans (.of_below hb))
       have HK6 := Lib.hid ((Bt.of_below (pb := pb) hb).at HK5.out (by omega))
       clear hb
       go_wp2_with fail
       refine (HNM.out _ (HRD.out.bt hp4 HB6.out)).mono ?_
       rintro e wf ⟨rfl, hb⟩
       have HP7 := Lib.hid (HP6.out.below hb)
       have HB7 := Lib.hid (HB6.out.trans (.of_below hb))
       have HK7 := Lib.hid ((Bt.of_below (pb := pb) hb).at HK6.out (by omega))
       clear hb
       have hk1 : tk = 1 := by simpa using qk
       have HKK := Lib.hid hk1
       clear hk1
       cases qn : nameB ts.data.toList with
       | false =>
        have HR : Hid (oneR (formR d) deep (k + 1) (⟨tk, ts, tp⟩ :: lr) = .error (170, tp)) := by
         rw [Hid, HRX.out, if_neg (by rw [qn]; simp)]; rfl
        go_wp2_with fail
        refine (HFL.out _ HP7.out).mono ?_
        rintro e wg ⟨rfl, hb⟩
        have HB8 := Lib.hid (HB7.out.trans (.of_below hb))
        clear hb
        go_wp2_with fail
        refine ⟨rfl, ?_⟩
        rw [HR.out]
        exact ⟨rfl, HB8.out⟩
       | true =>
        have HR : Hid (oneR (formR d) deep (k + 1) (⟨tk, ts, tp⟩ :: lr) = .ok (.mk 3 ts [], lr)) := by
         rw [Hid, HRX.out, if_pos ⟨HKK.out, qn⟩]
        have HPS := Lib.hid (pass167_any pb tb deep tk ts tp lr wf HP7.out (HP7.out.ends.tail (.inl (show tk ≠ 0 from by rw [HKK.out]; decide))))
        go_wp2_with fail
        refine HPS.out.mono ?_
        rintro e wg ⟨rfl, hp, hb⟩
        have HP8 := Lib.hid hp
        have HB8 := Lib.hid (HB7.out.trans hb)
        have HK8 := Lib.hid (hb.at HK7.out (by omega))
        clear hp hb
        have hkrz : (wg).heap[w.heap.size]? = some (.cells #[.int .u8 0, .string ⟨#[]⟩, .slice none 0 0] 61 (0, 0)) := HK8.out
        have hkrb := hkrz
        have e0 := Lib.cell_of_heap hkrb 0
        have e1 := Lib.cell_of_heap hkrb 1
        have e2 := Lib.cell_of_heap hkrb 2
        have f0 := Lib.frozen_of_heap hkrb 0
        have f1 := Lib.frozen_of_heap hkrb 1
        have f2 := Lib.frozen_of_heap hkrb 2
        simp only [List.getElem?_toArray, List.getElem?_cons_zero, List.getElem?_cons_succ] at e0 e1 e2
        have hltz := (Array.getElem?_eq_some_iff.1 hkrb).1
        have HAT : Hid ((set3 wg w.heap.size (.int .u8 3) (.string ts) (.slice none 0 0)).heap[w.heap.size]? = some (.cells #[.int .u8 3, .string ts, .slice none 0 0] 61 (0, 0))) := set3_at hkrz _ _ _
        have HOUT : Hid (OutF pb tb deep w (.ok (.mk 3 ts [], lr)) (.returned (.agg #[.int .u8 3, .string ts, .slice none 0 0])) (set3 wg w.heap.size (.int .u8 3) (.string ts) (.slice none 0 0))) := by
         refine ⟨_, rfl, ?_, HP8.out.set3 (by omega) htb _ _ _, HB8.out.set3 (Nat.le_refl _) _ _ _⟩
         exact FI.none _ _ 3 ts none 0
        clear hkrz hkrb
        go_wp2_with fail
        refine bodyPost_ret (results_cell_row rfl _ _ _ _ _ _ _ rfl HAT.out Tryz.underlying61 rfl (by kernel_rfl)) rfl ?_
        rw [HR.out]
        exact HOUT.out
end Go.Proofs.YtpgdplmndnopbaaGreatDoor

/- What the parser leaves is no longer than what it began with. No program. -/
namespace Go.Proofs.YtpgdplmndnopbaaGreatDoor
open Go.RowKit
def Sh {α : Type} (l : List Tok) (a : PRes α) : Prop := ∀ x r, a = .ok (x, r) → r.length ≤ l.length
theorem isT_pos {s : List UInt8} {l : List Tok} (h : isT s l = true) : l.tail.length + 1 = l.length := by
 cases l with
 | nil => simp [isT] at h
 | cons t l => rfl
theorem take_sh {s : List UInt8} {l r : List Tok} (h : takeT s l = .ok r) : r.length + 1 = l.length := by
 unfold takeT at h
 split at h
 ·rename_i hs
  injection h with h
  subst h
  exact isT_pos hs
 ·cases h
theorem chain_sh {α : Type} {sign : List UInt8} {one : List Tok → PRes α} {join : α → α → α} (ho : ∀ l, Sh l (one l)) : ∀ (k : Nat) (x : α) (l : List Tok), Sh l (chainR sign one join k x l)
 | 0, x, l => fun y r h => by
  rw [chainR] at h
  injection h with h
  obtain ⟨rfl, rfl⟩ := Prod.mk.inj h
  exact Nat.le_refl _
 | k + 1, x, l => fun y r h => by
  rw [chainR] at h
  split at h
  ·rename_i hs
   have hl := isT_pos hs
   cases e : one l.tail with
   | error z => rw [e] at h; cases h
   | ok p =>
    obtain ⟨z, r1⟩ := p
    rw [e] at h
    have h1 := ho _ _ _ e
    have h2 := chain_sh ho k (join x z) r1 _ _ h
    omega
  ·injection h with h
   obtain ⟨rfl, rfl⟩ := Prod.mk.inj h
   exact Nat.le_refl _
theorem chainP_sh {α : Type} {sign : List UInt8} {one : List Tok → PRes α} {join : α → α → α} (ho : ∀ l, Sh l (one l)) (l : List Tok) : Sh l (chainP sign one join l) := fun y r h => by
 unfold chainP at h
 cases e : one l with
 | error z => rw [e] at h; cases h
 | ok p =>
  obtain ⟨x, r1⟩ := p
  rw [e] at h
  have h1 := ho _ _ _ e
  have h2 := chain_sh ho _ x r1 _ _ h
  omega
theorem within_sh {α : Type} {o c : List UInt8} {deep : Nat} {one : Nat → List Tok → PRes α} (ho : ∀ d l, Sh l (one d l)) {l : List Tok} {q : PRes α} (h : withinR o c deep one l = some q) : Sh l q := fun x r e => by
 subst e
 unfold withinR at h
 split at h
 ·rename_i hs
  have hl := isT_pos hs
  injection h with e
  split at e
  ·cases e
  ·cases e2 : one (deep + 1) l.tail with
   | error z => rw [e2] at e; cases e
   | ok p =>
    obtain ⟨x1, r1⟩ := p
    rw [e2] at e
    dsimp only at e
    cases e3 : takeT c r1 with
    | error z => rw [e3] at e; cases e
    | ok r2 =>
     rw [e3] at e
     injection e with e
     obtain ⟨rfl, rfl⟩ := Prod.mk.inj e
     have h1 := ho _ _ _ _ e2
     have h2 := take_sh e3
     omega
 ·cases h
theorem one_sh {fm : Nat → List Tok → PRes F} (hf : ∀ d l, Sh l (fm d l)) (deep : Nat) : ∀ (k : Nat) (l : List Tok), Sh l (oneR fm deep k l)
 | 0, l => fun x r h => by rw [oneR] at h; cases h
 | k + 1, l => fun x r h => by
  rw [oneR.eq_def] at h
  dsimp only at h
  cases e : withinR [123] [125] deep fm l with
  | some q =>
   rw [e] at h
   dsimp only at h
   exact within_sh hf e _ _ h
  | none =>
   rw [e] at h
   dsimp only at h
   split at h
   ·rename_i hs
    have hl := isT_pos hs
    cases e2 : oneR fm deep k l.tail with
    | error z => rw [e2] at h; cases h
    | ok p =>
     obtain ⟨x1, r1⟩ := p
     rw [e2] at h
     injection h with h
     obtain ⟨rfl, rfl⟩ := Prod.mk.inj h
     have := one_sh hf deep k _ _ _ e2
     omega
   ·split at h
    ·rename_i hs
     have hl := isT_pos hs
     injection h with h
     obtain ⟨rfl, rfl⟩ := Prod.mk.inj h
     omega
    ·split at h
     ·rename_i hs
      have hl := isT_pos hs
      injection h with h
      obtain ⟨rfl, rfl⟩ := Prod.mk.inj h
      omega
     ·cases l with
      | nil => cases h
      | cons t l =>
       dsimp only at h
       split at h
       ·injection h with h
        obtain ⟨rfl, rfl⟩ := Prod.mk.inj h
        simp
       ·cases h
theorem form_sh : ∀ (d deep : Nat) (l : List Tok), Sh l (formR d deep l)
 | 0, deep, l => fun x r h => by rw [formR] at h; cases h
 | d + 1, deep, l => by
  rw [formR_succ]
  exact chainP_sh (fun l => chainP_sh (fun l => one_sh (fun dd l => form_sh d dd l) deep _ l) l) l
theorem num_sh {l r : List Tok} {v : Int} (h : numR l = .ok (v, r)) : r.length + 1 = l.length := by
 cases l with
 | nil => cases h
 | cons t l =>
  have h' : (if t.kind = 2 then Except.ok (digitsV t.text.data.toList, l) else failR 170 (t :: l)) = (Except.ok (v, r) : PRes Int) := h
  split at h'
  ·injection h' with h'
   obtain ⟨rfl, rfl⟩ := Prod.mk.inj h'
   rfl
  ·cases h'
theorem may_sh {s u : List UInt8} {l r : List Tok} (h : (if isT s l = true then Except.ok l.tail else takeT u l : Except (Int × Int) (List Tok)) = .ok r) : r.length + 1 = l.length := by
 by_cases hs : isT s l = true
 ·rw [if_pos hs] at h
  injection h with h
  subst h
  exact isT_pos hs
 ·rw [if_neg hs] at h
  exact take_sh h
theorem interval_sh {l r : List Tok} {i : Spn} (h : intervalR l = .ok (i, r)) : r.length ≤ l.length := by
 unfold intervalR at h
 dsimp only at h
 cases e1 : (if isT [40] l = true then Except.ok l.tail else takeT [91] l : Except (Int × Int) (List Tok)) with
 | error z => rw [e1] at h; cases h
 | ok l1 =>
  rw [e1] at h
  have k1 := may_sh e1
  dsimp only at h
  cases e2 : numR l1 with
  | error z => rw [e2] at h; cases h
  | ok p =>
   obtain ⟨low, l2⟩ := p
   rw [e2] at h
   have k2 := num_sh e2
   dsimp only at h
   cases e3 : takeT [44] l2 with
   | error z => rw [e3] at h; cases h
   | ok l3 =>
    rw [e3] at h
    have k3 := take_sh e3
    dsimp only at h
    by_cases hs : isT [111, 111] l3 = true
    ·rw [if_pos hs] at h
     have k4 := isT_pos hs
     cases e4 : takeT [41] l3.tail with
     | error z => rw [e4] at h; cases h
     | ok l4 =>
      rw [e4] at h
      have k5 := take_sh e4
      injection h with h
      obtain ⟨rfl, rfl⟩ := Prod.mk.inj h
      omega
    ·rw [if_neg hs] at h
     cases e4 : numR l3 with
     | error z => rw [e4] at h; cases h
     | ok p =>
      obtain ⟨high, l4⟩ := p
      rw [e4] at h
      have k4 := num_sh e4
      dsimp only at h
      cases e5 : (if isT [41] l4 = true then Except.ok l4.tail else takeT [93] l4 : Except (Int × Int) (List Tok)) with
      | error z => rw [e5] at h; cases h
      | ok l5 =>
       rw [e5] at h
       have k5 := may_sh e5
       injection h with h
       obtain ⟨rfl, rfl⟩ := Prod.mk.inj h
       omega
theorem plus_sh : ∀ (k : Nat) (x : X) (l : List Tok), (plusR k x l).2.length ≤ l.length
 | 0, x, l => Nat.le_refl _
 | k + 1, x, l => by
  rw [plusR]
  split
  ·rename_i hs
   have hl := isT_pos hs
   have := plus_sh k (.mk 5 [] [x] noSpan) l.tail
   omega
  ·exact Nat.le_refl _
theorem base_sh {tr : Nat → List Tok → PRes X} (hf : ∀ d l, Sh l (tr d l)) (deep : Nat) (l : List Tok) : Sh l (baseR tr deep l) := fun x r h => by
 unfold baseR at h
 cases e : withinR [40] [41] deep tr l with
 | some q =>
  rw [e] at h
  exact within_sh hf e _ _ h
 | none =>
  rw [e] at h
  dsimp only at h
  cases e1 : withinR [60] [62] deep tr l with
  | some q =>
   rw [e1] at h
   cases q with
   | error z => cases h
   | ok p =>
    obtain ⟨x1, r1⟩ := p
    dsimp only at h
    have h1 := within_sh hf e1 _ _ rfl
    cases e2 : takeT [95] r1 with
    | error z => rw [e2] at h; cases h
    | ok r2 =>
     rw [e2] at h
     have h3 := take_sh e2
     dsimp only at h
     cases e3 : intervalR r2 with
     | error z => rw [e3] at h; cases h
     | ok p =>
      obtain ⟨i, r3⟩ := p
      rw [e3] at h
      have h4 := interval_sh e3
      injection h with h
      obtain ⟨rfl, rfl⟩ := Prod.mk.inj h
      omega
  | none =>
   rw [e1] at h
   dsimp only at h
   cases e2 : formR 66 deep l with
   | error z => rw [e2] at h; cases h
   | ok p =>
    obtain ⟨f, r1⟩ := p
    rw [e2] at h
    injection h with h
    obtain ⟨rfl, rfl⟩ := Prod.mk.inj h
    exact form_sh _ _ _ _ _ e2
theorem tre_sh : ∀ (d deep : Nat) (l : List Tok), Sh l (treR d deep l)
 | 0, deep, l => fun x r h => by rw [treR] at h; cases h
 | d + 1, deep, l => by
  rw [treR_succ]
  refine chainP_sh (fun l => chainP_sh (fun l => chainP_sh (fun l x r h => ?_) l) l) l
  unfold moreR at h
  cases e : baseR (treR d) deep l with
  | error z => rw [e] at h; cases h
  | ok p =>
   obtain ⟨x1, r1⟩ := p
   rw [e] at h
   dsimp only at h
   have h1 := base_sh (fun dd l => tre_sh d dd l) deep l _ _ e
   have h2 := plus_sh r1.length x1 r1
   injection h with h
   rw [h] at h2
   dsimp only at h2
   omega
end Go.Proofs.YtpgdplmndnopbaaGreatDoor

/- The parser walked: formulas. -/
namespace Go.Proofs.YtpgdplmndnopbaaGreatDoor
open Go.RowKit
def allP (d deep : Nat) (l : List Tok) : PRes F := chainP [38, 38] (fun l => oneR (formR d) deep (l.length + 1) l) (fun a b => .mk 5 ⟨#[]⟩ [a, b]) l
set_option maxRecDepth 100000 in
set_option maxHeartbeats 8000000 in
theorem all181_any (pb tb d deep kp : Nat) (hp4 : 4 ≤ pb) (hform : FormC pb tb d) (l : List Tok) (w : World) (hd : deep ≤ 64) (hdd : 64 ≤ deep + d) (hrd : Rdy w) (h : Ps pb tb w l deep) (hkp : w.heap[kp]? = some (.cells #[.pointer (some ⟨pb, 0, none⟩)] 79 (0, 0))) :
 Calls Tryz.prog 181 #[.pointer (some ⟨kp, 0, none⟩)] w (OutF pb tb deep w (allP d deep l)) := by
 have HKPP := Lib.hid (h.other hkp (by decide))
 obtain ⟨kr, hkr⟩ : ∃ kr, kr = w.heap.size := ⟨_, rfl⟩
 have hpb := h.lt
 have htb := h.tb_lt
 have hkpl := (Array.getElem?_eq_some_iff.1 hkp).1
 obtain ⟨WIN, hWIN⟩ : ∃ WIN, WIN = w.alloc (.cells #[.int .u8 0, .string ⟨#[]⟩, .slice none 0 0] 61) := ⟨_, rfl⟩
 have hB : Bt pb w WIN := by rw [hWIN]; exact (Bt.refl pb w).alloc _
 have hP : Ps pb tb WIN l deep := by rw [hWIN]; exact h.alloc _
 have HKP : Hid (WIN.heap[kp]? = some (.cells #[.pointer (some ⟨pb, 0, none⟩)] 79 (0, 0))) := by rw [Hid, hWIN]; exact hp_in hkp
 have HKR : Hid (WIN.heap[kr]? = some (.cells #[.int .u8 0, .string ⟨#[]⟩, .slice none 0 0] 61 (0, 0))) := by rw [Hid, hWIN]; exact hp_top hkr
 have HS : Hid (∀ W : World, W.heap[kp]? = some (.cells #[.pointer (some ⟨pb, 0, none⟩)] 79 (0, 0)) → W.cell? ⟨kp, 0, none⟩ = some (Value.pointer (some ⟨pb, 0, none⟩))) := fun W hW => Lib.cell_of_heap hW 0
 have hCH := chain182_any pb tb deep ⟨#[38, 38]⟩ (by decide) 183 #[.pointer (some ⟨pb, 0, none⟩)] #[] (ent_of Tryz.func183 (by kernel_rfl) (by kernel_rfl)) WIN.heap.size 5 (fun l => oneR (formR d) deep (l.length + 1) l) (fun l x r e => one_sh (form_sh d) deep _ l x r e)
  l (WIN.drew.alloc (.cells #[.int .u8 5] 5)) (hP.drew.alloc _) (hp_top rfl)
  (fun w' l' hb hp => by have := one183_any pb tb d hp4 hform (l'.length + 1) deep l' w' (by omega) hd hdd (hrd.bt hp4 (hB.trans (((Bt.refl pb WIN).drew.alloc _).trans hb))) hp; simpa using this)
 obtain ⟨RES, hRES⟩ : ∃ RES, RES = allP d deep l := ⟨_, rfl⟩
 rw [← hRES]
 have HCH : Hid (Calls Tryz.prog 182 #[.pointer (some ⟨pb, 0, none⟩), .string ⟨#[38, 38]⟩, .func (.func 183) #[.pointer (some ⟨pb, 0, none⟩)] #[], .func (.func 200) #[] #[.pointer (some ⟨WIN.heap.size, 0, none⟩)]] (WIN.drew.alloc (.cells #[.int .u8 5] 5)) (OutF pb tb deep (WIN.drew.alloc (.cells #[.int .u8 5] 5)) RES)) := by
  rw [hRES]; exact hCH
 have HB := Lib.hid hB
 have hmf : ∀ (fn : Fn) (first cap : Array Value) (w : World), (Instr.makeFunc fn first cap).run Tryz.prog w = .ok (.func fn first cap) w := fun _ _ _ _ => rfl
 have HWN := Lib.hid hWIN.symm
 have HKQ := Lib.hid hkr.symm
 have hle : w.heap.size ≤ kr := by omega
 clear hB hP hCH hRES h hkp hrd hform hWIN hkr
 go_enter Tryz.func181, Tryz.ntmps181
 go_wp2_with fail
 rw [HWN.out, HKQ.out]
 clear HWN HKQ
 refine wp_region_held_drew (S := fun W => W.cell? ⟨kp, 0, none⟩ = some (Value.pointer (some ⟨pb, 0, none⟩))) (by kernel_rfl) (HS.out _ HKP.out) (fun hHeld => ?_)
 refine wpAnyH_take (i := 0) (v := ?_) rfl (by kernel_rfl) (by kernel_rfl) (by kernel_rfl) (fun _ _ _ h => h) (Or.inl ⟨by kernel_rfl, ?_⟩) (by assumption) ?_
 rotate_left
 ·(intro w hSw; (try dsimp only at hSw); go_simp)
  with_reducible rfl
 try simp only [Act.put, List.setIfInBounds_toArray]
 refine wpAnyH_take (i := 1) (v := ?_) rfl (by kernel_rfl) (by kernel_rfl) (by kernel_rfl) (fun _ _ _ h => h) (Or.inl ⟨by kernel_rfl, ?_⟩) (by assumption) ?_
 rotate_left
 ·(intro w hSw; (try dsimp only at hSw); go_simp)
  with_reducible rfl
 try simp only [Act.put]
 refine wpAnyH_take (i := 2) (v := ?_) rfl (by kernel_rfl) (by kernel_rfl) (by kernel_rfl) (fun _ _ _ h => h) (Or.inl ⟨by kernel_rfl, ?_⟩) (by assumption) ?_
 rotate_left
 ·(intro w hSw; (try dsimp only at hSw); go_simp)
  with_reducible rfl
 try simp only [Act.put]
 refine wpAnyH_ready (rs := [3]) (by kernel_rfl) (by simp) ?_
 refine AllReadyH.cons rfl (fun K0 hK => ?_) AllReadyH.nil
 go_simp
 go_at_call 184
 refine (two184_any 5 _).mono ?_
 rintro e wt ⟨rfl, rfl⟩
 dsimp only
 refine hK.out _ _ (HS.out _ (hp_in HKP.out)) (fun _ => ?_)
 clear hK K0
 try simp only [Act.put, List.setIfInBounds_toArray, List.set_cons_zero, List.set_cons_succ]
 refine wpAnyH_ready (rs := [4]) (by kernel_rfl) (by simp) ?_
 refine AllReadyH.cons rfl (fun K0 hK => ?_) AllReadyH.nil
 go_simp
 go_at_call 182
 cases q : RES with
 | error c =>
  refine (HCH.out.mono ?_)
  rw [q]
  rintro e w3 ⟨rfl, hb⟩
  have HB3 := Lib.hid (HB.out.trans (((Bt.refl pb WIN).drew.alloc _).trans hb))
  clear hb
  dsimp only
  go_wp2_with fail
  exact ⟨rfl, rfl, HB3.out⟩
 | ok xr =>
  obtain ⟨x, r⟩ := xr
  refine (HCH.out.mono ?_)
  rw [q]
  rintro e w3 ho
  obtain ⟨k1, s1, a1, n1, c1, rfl, hf, hp, hb⟩ := OutF.ok ho
  have hbw := ((Bt.refl pb WIN).drew.alloc (.cells #[.int .u8 5] 5)).trans hb
  have hkr3 := hbw.at HKR.out (by omega)
  have hkp3 := hbw.at HKP.out HKPP.out
  have e0 := Lib.cell_of_heap hkr3 0
  have e1 := Lib.cell_of_heap hkr3 1
  have e2 := Lib.cell_of_heap hkr3 2
  have f0 := Lib.frozen_of_heap hkr3 0
  have f1 := Lib.frozen_of_heap hkr3 1
  have f2 := Lib.frozen_of_heap hkr3 2
  simp only [List.getElem?_toArray, List.getElem?_cons_zero, List.getElem?_cons_succ] at e0 e1 e2
  have hsz := HB.out.2.2.2.1
  have HAT : Hid ((set3 w3 kr (.int .u8 k1) (.string s1) (.slice a1 n1 c1)).heap[kr]? = some (.cells #[.int .u8 k1, .string s1, .slice a1 n1 c1] 61 (0, 0))) := set3_at hkr3 _ _ _
  have HOUT : Hid (OutF pb tb deep w (.ok (x, r)) (.returned (.agg #[.int .u8 k1, .string s1, .slice a1 n1 c1])) (set3 w3 kr (.int .u8 k1) (.string s1) (.slice a1 n1 c1))) := by
   refine ⟨_, rfl, ?_, hp.set3 (by omega) (by omega) _ _ _, (HB.out.trans hbw).set3 (by omega) _ _ _⟩
   have hwin := (Array.getElem?_eq_some_iff.1 HKR.out).1
   refine hf.go ⟨by rw [set3_size]; exact Nat.le_refl _, fun b hbz hpn => ?_⟩
   have hpn' := of_decide_eq_true hpn
   have hws : (WIN.drew.alloc (.cells #[.int .u8 5] 5)).heap.size = WIN.heap.size + 1 := Array.size_push ..
   rw [hws] at hpn'
   exact ⟨decide_eq_true (show w.heap.size ≤ b by omega), set3_other _ _ _ _ _ _ (by omega)⟩
  have HKP3 : Hid ((set3 w3 kr (.int .u8 k1) (.string s1) (.slice a1 n1 c1)).cell? ⟨kp, 0, none⟩ = some (Value.pointer (some ⟨pb, 0, none⟩))) :=
   Lib.cell_of_heap ((set3_other w3 kr _ _ _ kp (by omega)).trans hkp3) 0
  have hs3 := HS.out _ hkp3
  clear ho hf hp hb hbw hkr3 hkp3 hsz
  dsimp only
  refine hK.out _ _ hs3 (fun _ => ?_)
  clear hK K0
  try simp only [Act.put, List.setIfInBounds_toArray, List.set_cons_zero, List.set_cons_succ]
  refine wpAnyH_ready (rs := [5]) (by kernel_rfl) (by simp) ?_
  refine AllReadyH.cons rfl (fun K0 hK => ?_) AllReadyH.nil
  go_simp
  refine hK.out _ _ HKP3.out (fun _ => ?_)
  clear hK K0
  try simp only [Act.put, List.setIfInBounds_toArray, List.set_cons_zero, List.set_cons_succ]
  refine wpAnyH_done (by kernel_rfl) ?_ _
  go_wp2_with fail
  refine And.intro rfl (Exists.intro _ (And.intro (results_cell_row rfl _ _ _ _ _ _ _ rfl HAT.out Tryz.underlying61 rfl (by kernel_rfl)) ?_))
  first | exact HOUT.out | (rw [q]; exact HOUT.out)
set_option maxRecDepth 100000 in
set_option maxHeartbeats 8000000 in
theorem formula171_any (pb tb : Nat) (hp4 : 4 ≤ pb) : ∀ d : Nat, FormC pb tb d := by
 intro d
 induction d with
 | zero => intro deep l w hd hdd; exact absurd hdd (by omega)
 | succ d ih =>
  intro deep l w hd hdd hrd h
  obtain ⟨kp, hkpe⟩ : ∃ kp, kp = w.heap.size := ⟨_, rfl⟩
  obtain ⟨kr, hkr⟩ : ∃ kr, kr = w.heap.size + 1 := ⟨_, rfl⟩
  have hpb := h.lt
  have htb := h.tb_lt
  have HKPP : Hid (kp ≠ pb) := by rw [Hid]; omega
  obtain ⟨WIN, hWIN⟩ : ∃ WIN, WIN = (w.alloc (.cells #[.pointer (some ⟨pb, 0, none⟩)] 79)).alloc (.cells #[.int .u8 0, .string ⟨#[]⟩, .slice none 0 0] 61) := ⟨_, rfl⟩
  have hB : Bt pb w WIN := by rw [hWIN]; exact ((Bt.refl pb w).alloc _).alloc _
  have hP : Ps pb tb WIN l deep := by rw [hWIN]; exact (h.alloc _).alloc _
  have HKP : Hid (WIN.heap[kp]? = some (.cells #[.pointer (some ⟨pb, 0, none⟩)] 79 (0, 0))) := by rw [Hid, hWIN]; exact hp_in (hp_top hkpe)
  have HKR : Hid (WIN.heap[kr]? = some (.cells #[.int .u8 0, .string ⟨#[]⟩, .slice none 0 0] 61 (0, 0))) := by rw [Hid, hWIN]; exact hp_top (by simp [hkr])
  have hkpl : kp < kr := by omega
  have HS : Hid (∀ W : World, W.heap[kp]? = some (.cells #[.pointer (some ⟨pb, 0, none⟩)] 79 (0, 0)) → W.cell? ⟨kp, 0, none⟩ = some (Value.pointer (some ⟨pb, 0, none⟩))) := fun W hW => Lib.cell_of_heap hW 0
  have hCH := chain182_any pb tb deep ⟨#[124, 124]⟩ (by decide) 181 #[] #[.pointer (some ⟨kp, 0, none⟩)] (ent_of Tryz.func181 (by kernel_rfl) (by kernel_rfl)) WIN.heap.size 6 (allP d deep) (fun l x r e => chainP_sh (fun l => one_sh (form_sh d) deep _ l) l x r e)
   l (WIN.drew.alloc (.cells #[.int .u8 6] 5)) (hP.drew.alloc _) (hp_top rfl)
   (fun w' l' hb hp => by
    have hbb := ((Bt.refl pb WIN).drew.alloc (.cells #[.int .u8 6] 5)).trans hb
    have := all181_any pb tb d deep kp hp4 ih l' w' hd (by omega) (hrd.bt hp4 (hB.trans hbb)) hp (hbb.at HKP.out HKPP.out)
    simpa using this)
  obtain ⟨RES, hRES⟩ : ∃ RES, RES = formR (d + 1) deep l := ⟨_, rfl⟩
  rw [← hRES]
  have HCH : Hid (Calls Tryz.prog 182 #[.pointer (some ⟨pb, 0, none⟩), .string ⟨#[124, 124]⟩, .func (.func 181) #[] #[.pointer (some ⟨kp, 0, none⟩)], .func (.func 200) #[] #[.pointer (some ⟨WIN.heap.size, 0, none⟩)]] (WIN.drew.alloc (.cells #[.int .u8 6] 5)) (OutF pb tb deep (WIN.drew.alloc (.cells #[.int .u8 6] 5)) RES)) := by
   rw [hRES]; exact hCH
  have HB := Lib.hid hB
  have hmf : ∀ (fn : Fn) (first cap : Array Value) (w : World), (Instr.makeFunc fn first cap).run Tryz.prog w = .ok (.func fn first cap) w := fun _ _ _ _ => rfl
  have HWN := Lib.hid hWIN.symm
  have HKQ := Lib.hid hkr.symm
  have HKO := Lib.hid hkpe.symm
  have hle : w.heap.size ≤ kr := by omega
  clear hB hP hCH hRES h hrd ih hWIN hkr hkpe
  go_enter Tryz.func171, Tryz.ntmps171
  go_wp2_with fail
  rw [HWN.out, HKQ.out, HKO.out]
  clear HWN HKQ HKO
  refine wp_region_held_drew (S := fun W => W.cell? ⟨kp, 0, none⟩ = some (Value.pointer (some ⟨pb, 0, none⟩))) (by kernel_rfl) (HS.out _ HKP.out) (fun hHeld => ?_)
  refine wpAnyH_take (i := 0) (v := ?_) rfl (by kernel_rfl) (by kernel_rfl) (by kernel_rfl) (fun _ _ _ h => h) (Or.inl ⟨by kernel_rfl, ?_⟩) (by assumption) ?_
  rotate_left
  ·(intro w hSw; (try dsimp only at hSw); go_simp)
   with_reducible rfl
  try simp only [Act.put, List.setIfInBounds_toArray]
  refine wpAnyH_take (i := 1) (v := ?_) rfl (by kernel_rfl) (by kernel_rfl) (by kernel_rfl) (fun _ _ _ h => h) (Or.inl ⟨by kernel_rfl, ?_⟩) (by assumption) ?_
  rotate_left
  ·(intro w hSw; (try dsimp only at hSw); go_simp)
   with_reducible rfl
  try simp only [Act.put]
  refine wpAnyH_ready (rs := [2]) (by kernel_rfl) (by simp) ?_
  refine AllReadyH.cons rfl (fun K0 hK => ?_) AllReadyH.nil
  go_simp
  go_at_call 184
  refine (two184_any 6 _).mono ?_
  rintro e wt ⟨rfl, rfl⟩
  dsimp only
  refine hK.out _ _ (HS.out _ (hp_in HKP.out)) (fun _ => ?_)
  clear hK K0
  try simp only [Act.put, List.setIfInBounds_toArray, List.set_cons_zero, List.set_cons_succ]
  refine wpAnyH_ready (rs := [3]) (by kernel_rfl) (by simp) ?_
  refine AllReadyH.cons rfl (fun K0 hK => ?_) AllReadyH.nil
  go_simp
  go_at_call 182
  cases q : RES with
  | error c =>
   refine (HCH.out.mono ?_)
   rw [q]
   rintro e w3 ⟨rfl, hb⟩
   have HB3 := Lib.hid (HB.out.trans (((Bt.refl pb WIN).drew.alloc _).trans hb))
   clear hb
   dsimp only
   go_wp2_with fail
   exact ⟨rfl, rfl, HB3.out⟩
  | ok xr =>
   obtain ⟨x, r⟩ := xr
   refine (HCH.out.mono ?_)
   rw [q]
   rintro e w3 ho
   obtain ⟨k1, s1, a1, n1, c1, rfl, hf, hp, hb⟩ := OutF.ok ho
   have hbw := ((Bt.refl pb WIN).drew.alloc (.cells #[.int .u8 6] 5)).trans hb
   have hkr3 := hbw.at HKR.out (by omega)
   have hkp3 := hbw.at HKP.out HKPP.out
   have e0 := Lib.cell_of_heap hkr3 0
   have e1 := Lib.cell_of_heap hkr3 1
   have e2 := Lib.cell_of_heap hkr3 2
   have f0 := Lib.frozen_of_heap hkr3 0
   have f1 := Lib.frozen_of_heap hkr3 1
   have f2 := Lib.frozen_of_heap hkr3 2
   simp only [List.getElem?_toArray, List.getElem?_cons_zero, List.getElem?_cons_succ] at e0 e1 e2
   have hsz := HB.out.2.2.2.1
   have HAT : Hid ((set3 w3 kr (.int .u8 k1) (.string s1) (.slice a1 n1 c1)).heap[kr]? = some (.cells #[.int .u8 k1, .string s1, .slice a1 n1 c1] 61 (0, 0))) := set3_at hkr3 _ _ _
   have HOUT : Hid (OutF pb tb deep w (.ok (x, r)) (.returned (.agg #[.int .u8 k1, .string s1, .slice a1 n1 c1])) (set3 w3 kr (.int .u8 k1) (.string s1) (.slice a1 n1 c1))) := by
    refine ⟨_, rfl, ?_, hp.set3 (by omega) (by omega) _ _ _, (HB.out.trans hbw).set3 (by omega) _ _ _⟩
    have hwin := (Array.getElem?_eq_some_iff.1 HKR.out).1
    refine hf.go ⟨by rw [set3_size]; exact Nat.le_refl _, fun b hbz hpn => ?_⟩
    have hpn' := of_decide_eq_true hpn
    have hws : (WIN.drew.alloc (.cells #[.int .u8 6] 5)).heap.size = WIN.heap.size + 1 := Array.size_push ..
    rw [hws] at hpn'
    exact ⟨decide_eq_true (show w.heap.size ≤ b by omega), set3_other _ _ _ _ _ _ (by omega)⟩
   have HKP3 : Hid ((set3 w3 kr (.int .u8 k1) (.string s1) (.slice a1 n1 c1)).cell? ⟨kp, 0, none⟩ = some (Value.pointer (some ⟨pb, 0, none⟩))) :=
    Lib.cell_of_heap ((set3_other w3 kr _ _ _ kp (by omega)).trans hkp3) 0
   have hs3 := HS.out _ hkp3
   clear ho hf hp hb hbw hkr3 hkp3 hsz
   dsimp only
   refine hK.out _ _ hs3 (fun _ => ?_)
   clear hK K0
   try simp only [Act.put, List.setIfInBounds_toArray, List.set_cons_zero, List.set_cons_succ]
   refine wpAnyH_ready (rs := [4]) (by kernel_rfl) (by simp) ?_
   refine AllReadyH.cons rfl (fun K0 hK => ?_) AllReadyH.nil
   go_simp
   refine hK.out _ _ HKP3.out (fun _ => ?_)
   clear hK K0
   try simp only [Act.put, List.setIfInBounds_toArray, List.set_cons_zero, List.set_cons_succ]
   refine wpAnyH_done (by kernel_rfl) ?_ _
   go_wp2_with fail
   refine And.intro rfl (Exists.intro _ (And.intro (results_cell_row rfl _ _ _ _ _ _ _ rfl HAT.out Tryz.underlying61 rfl (by kernel_rfl)) ?_))
   first | exact HOUT.out | (rw [q]; exact HOUT.out)
end Go.Proofs.YtpgdplmndnopbaaGreatDoor
