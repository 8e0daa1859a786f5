/- NormChains walked: grouping and repetition. (Printed by gen_noc.py.) -/
import Derived.Test.YtpgdplmndnopbaaGreatDoorNoP
import Derived.Test.YtpgdplmndnopbaaGreatDoorNoA
import Derived.Test.YtpgdplmndnopbaaGreatDoorSmA
import Derived.Test.YtpgdplmndnopbaaGreatDoorTreeJ
import Derived.Test.YtpgdplmndnopbaaGreatDoorTreeR
import Derived.Test.YtpgdplmndnopbaaGreatDoorJnD
namespace Go.Proofs.YtpgdplmndnopbaaGreatDoor
open Go.RowKit
set_option maxRecDepth 100000 in
set_option maxHeartbeats 32000000 in
theorem normChains13_any (l : List ByteArray) (nv : Value) (mA nA : Nat) (tA : XT mA nA) (vA : Value) (mB nB : Nat) (tB : XT mB nB) (vB : Value) (mC nC : Nat) (tC : XT mC nC) (vC : Value) (kd : Int) (w : World) (hk : 0 ≤ kd ∧ kd < 256) (hr : Rdy w) (hn : NRep w w.heap.size nv l) (hw : ∀ s ∈ l, s.size ≤ 281474976710656)
 (hA : XRep w w.heap.size mA nA tA vA) (hB : XRep w w.heap.size mB nB tB vB) (hC : XRep w w.heap.size mC nC tC vC) (hbA : bndX nA tA) (hbB : bndX nB tB) (hbC : bndX nC tC) :
 Calls Tryz.prog 13 #[nv, vA, vB, vC, .int .u8 kd] w fun e w' => e = .returned (.bool true) ∧ Below w.heap.size w w' := by
 obtain ⟨kA, a1A, l1A, c1A, a2A, l2A, c2A, loA, lsA, hiA, hsA, opA, rfl⟩ := hA.shape
 obtain ⟨kB, a1B, l1B, c1B, a2B, l2B, c2B, loB, lsB, hiB, hsB, opB, rfl⟩ := hB.shape
 obtain ⟨kC, a1C, l1C, c1C, a2C, l2C, c2C, loC, lsC, hiC, hsC, opC, rfl⟩ := hC.shape
 obtain ⟨na, nc, rfl, _⟩ := id hn
 obtain ⟨W0, hW0⟩ : ∃ W0, W0 = ((w.alloc (.cells #[.int .u8 kA, .slice a1A l1A c1A, .slice a2A l2A c2A, .int .i64 loA, .bool lsA, .int .i64 hiA, .bool hsA, .bool opA] 28)).alloc (.cells #[.int .u8 kB, .slice a1B l1B c1B, .slice a2B l2B c2B, .int .i64 loB, .bool lsB, .int .i64 hiB, .bool hsB, .bool opB] 28)).alloc (.cells #[.int .u8 kC, .slice a1C l1C c1C, .slice a2C l2C c2C, .int .i64 loC, .bool lsC, .int .i64 hiC, .bool hsC, .bool opC] 28) := ⟨_, rfl⟩
 have HB0 : Hid (Below w.heap.size w W0) := by rw [Hid, hW0]; exact (((Below.refl _ w).alloc (Nat.le_refl _) _).alloc (by simp) _).alloc (by simp; omega) _
 have HKA : Hid (W0.heap[w.heap.size]? = some (.cells #[.int .u8 kA, .slice a1A l1A c1A, .slice a2A l2A c2A, .int .i64 loA, .bool lsA, .int .i64 hiA, .bool hsA, .bool opA] 28 (0, 0))) := by rw [Hid, hW0]; exact hp_in (hp_in (hp_top rfl))
 have HKB : Hid (W0.heap[w.heap.size + 1]? = some (.cells #[.int .u8 kB, .slice a1B l1B c1B, .slice a2B l2B c2B, .int .i64 loB, .bool lsB, .int .i64 hiB, .bool hsB, .bool opB] 28 (0, 0))) := by rw [Hid, hW0]; exact hp_in (hp_top (by simp))
 have HKC : Hid (W0.heap[w.heap.size + 2]? = some (.cells #[.int .u8 kC, .slice a1C l1C c1C, .slice a2C l2C c2C, .int .i64 loC, .bool lsC, .int .i64 hiC, .bool hsC, .bool opC] 28 (0, 0))) := by rw [Hid, hW0]; exact hp_top (by simp)
 have HZ0 : Hid (W0.heap.size = w.heap.size + 3) := by rw [Hid, hW0]; simp
 have HR := Lib.hid hr
 have HN := Lib.hid hn
 have HXA := Lib.hid hA
 have HXB := Lib.hid hB
 have HXC := Lib.hid hC
 have HW := Lib.hid hw
 have HBA := Lib.hid hbA
 have HBB := Lib.hid hbB
 have HBC := Lib.hid hbC
 have HKD := Lib.hid hk
 have HW0 := Lib.hid hW0.symm
 have HCL : Hid (∀ W, Below W0.heap.size W0 W → W.heap[w.heap.size]? = some (.cells #[.int .u8 kA, .slice a1A l1A c1A, .slice a2A l2A c2A, .int .i64 loA, .bool lsA, .int .i64 hiA, .bool hsA, .bool opA] 28 (0, 0)) ∧ W.heap[w.heap.size + 1]? = some (.cells #[.int .u8 kB, .slice a1B l1B c1B, .slice a2B l2B c2B, .int .i64 loB, .bool lsB, .int .i64 hiB, .bool hsB, .bool opB] 28 (0, 0)) ∧ W.heap[w.heap.size + 2]? = some (.cells #[.int .u8 kC, .slice a1C l1C c1C, .slice a2C l2C c2C, .int .i64 loC, .bool lsC, .int .i64 hiC, .bool hsC, .bool opC] 28 (0, 0)) ∧ Below w.heap.size w W ∧ w.heap.size + 3 ≤ W.heap.size) := by
  intro W hW
  have := HZ0.out
  have := hW.size
  exact ⟨(hW.block _ (by omega)).trans HKA.out, (hW.block _ (by omega)).trans HKB.out, (hW.block _ (by omega)).trans HKC.out, HB0.out.trans (hW.mono HB0.out.size), by omega⟩
 have HGA : Hid (∀ W, Below w.heap.size w W → Calls Tryz.prog 15 #[.agg #[.int .u8 kA, .slice a1A l1A c1A, .slice a2A l2A c2A, .int .i64 loA, .bool lsA, .int .i64 hiA, .bool hsA, .bool opA]] W fun e w' => e = .returned (.bool (decide (2000 < sizeX nA tA 2000))) ∧ Below W.heap.size W w') := fun W h => great11_any mA nA tA _ W (HXA.out.up h h.size)
 have HGB : Hid (∀ W, Below w.heap.size w W → Calls Tryz.prog 15 #[.agg #[.int .u8 kB, .slice a1B l1B c1B, .slice a2B l2B c2B, .int .i64 loB, .bool lsB, .int .i64 hiB, .bool hsB, .bool opB]] W fun e w' => e = .returned (.bool (decide (2000 < sizeX nB tB 2000))) ∧ Below W.heap.size W w') := fun W h => great11_any mB nB tB _ W (HXB.out.up h h.size)
 have HGC : Hid (∀ W, Below w.heap.size w W → Calls Tryz.prog 15 #[.agg #[.int .u8 kC, .slice a1C l1C c1C, .slice a2C l2C c2C, .int .i64 loC, .bool lsC, .int .i64 hiC, .bool hsC, .bool opC]] W fun e w' => e = .returned (.bool (decide (2000 < sizeX nC tC 2000))) ∧ Below W.heap.size W w') := fun W h => great11_any mC nC tC _ W (HXC.out.up h h.size)
 have HGN : Hid (∀ W, Below w.heap.size w W → Calls Tryz.prog 16 #[.slice na l.length nc] W fun e w' => e = .returned (.bool (greatN l)) ∧ w' = W) := fun W h => greatNames12_any l _ W (HN.out.up h h.size)
 clear hr hn hA hB hC hbA hbB hbC hw hW0 hk
 go_enter Tryz.func13, Tryz.ntmps13
 go_wp2_with fail
 rw [HW0.out]
 clear HW0
 refine (alive30_any W0 (HR.out.below HB0.out)).mono ?_
 rintro e w1 ⟨rfl, hb1⟩
 have HB01 := Lib.hid hb1
 have HB1 := Lib.hid (HCL.out w1 hb1).2.2.2.1
 have hkA := (HCL.out w1 hb1).1
 have hltA := (Array.getElem?_eq_some_iff.1 hkA).1
 clear hb1
 have x0 := Lib.cell_of_heap hkA 0
 have x1 := Lib.cell_of_heap hkA 1
 have x2 := Lib.cell_of_heap hkA 2
 have x3 := Lib.cell_of_heap hkA 3
 have x4 := Lib.cell_of_heap hkA 4
 have x5 := Lib.cell_of_heap hkA 5
 have x6 := Lib.cell_of_heap hkA 6
 have x7 := Lib.cell_of_heap hkA 7
 simp only [List.getElem?_toArray, List.getElem?_cons_zero, List.getElem?_cons_succ] at x0 x1 x2 x3 x4 x5 x6 x7
 clear hkA
 go_wp2_with fail
 refine (HGA.out w1 HB1.out).mono ?_
 rintro e w2 ⟨rfl, hb2⟩
 have HB02 := Lib.hid (HB01.out.trans (hb2.mono HB01.out.size))
 have HB2 := Lib.hid (HCL.out w2 HB02.out).2.2.2.1
 clear hb2 x0 x1 x2 x3 x4 x5 x6 x7 hltA
 cases qA : decide (2000 < sizeX nA tA 2000) with
 | true =>
  go_wp2_with fail
  all_goals go_ret
  all_goals exact ⟨rfl, HB2.out⟩
 | false =>
  have HTA : Hid (tX nA tA ≤ 2000) := small_of HBA.out qA
  clear qA
  have hkB := (HCL.out w2 HB02.out).2.1
  have hltB := (Array.getElem?_eq_some_iff.1 hkB).1
  have x0 := Lib.cell_of_heap hkB 0
  have x1 := Lib.cell_of_heap hkB 1
  have x2 := Lib.cell_of_heap hkB 2
  have x3 := Lib.cell_of_heap hkB 3
  have x4 := Lib.cell_of_heap hkB 4
  have x5 := Lib.cell_of_heap hkB 5
  have x6 := Lib.cell_of_heap hkB 6
  have x7 := Lib.cell_of_heap hkB 7
  simp only [List.getElem?_toArray, List.getElem?_cons_zero, List.getElem?_cons_succ] at x0 x1 x2 x3 x4 x5 x6 x7
  clear hkB
  go_wp2_with fail
  refine (HGB.out w2 HB2.out).mono ?_
  rintro e w3 ⟨rfl, hb3⟩
  have HB03 := Lib.hid (HB02.out.trans (hb3.mono HB02.out.size))
  have HB3 := Lib.hid (HCL.out w3 HB03.out).2.2.2.1
  clear hb3 x0 x1 x2 x3 x4 x5 x6 x7 hltB
  cases qB : decide (2000 < sizeX nB tB 2000) with
  | true =>
   go_wp2_with fail
   all_goals go_ret
   all_goals exact ⟨rfl, HB3.out⟩
  | false =>
   have HTB : Hid (tX nB tB ≤ 2000) := small_of HBB.out qB
   clear qB
   have hkC := (HCL.out w3 HB03.out).2.2.1
   have hltC := (Array.getElem?_eq_some_iff.1 hkC).1
   have x0 := Lib.cell_of_heap hkC 0
   have x1 := Lib.cell_of_heap hkC 1
   have x2 := Lib.cell_of_heap hkC 2
   have x3 := Lib.cell_of_heap hkC 3
   have x4 := Lib.cell_of_heap hkC 4
   have x5 := Lib.cell_of_heap hkC 5
   have x6 := Lib.cell_of_heap hkC 6
   have x7 := Lib.cell_of_heap hkC 7
   simp only [List.getElem?_toArray, List.getElem?_cons_zero, List.getElem?_cons_succ] at x0 x1 x2 x3 x4 x5 x6 x7
   clear hkC
   go_wp2_with fail
   refine (HGC.out w3 HB3.out).mono ?_
   rintro e w4 ⟨rfl, hb4⟩
   have HB04 := Lib.hid (HB03.out.trans (hb4.mono HB03.out.size))
   have HB4 := Lib.hid (HCL.out w4 HB04.out).2.2.2.1
   clear hb4 x0 x1 x2 x3 x4 x5 x6 x7 hltC
   cases qC : decide (2000 < sizeX nC tC 2000) with
   | true =>
    go_wp2_with fail
    all_goals go_ret
    all_goals exact ⟨rfl, HB4.out⟩
   | false =>
    have HTC : Hid (tX nC tC ≤ 2000) := small_of HBC.out qC
    clear qC
    go_wp2_with fail
    refine (HGN.out w4 HB4.out).mono ?_
    rintro e w5 ⟨rfl, rfl⟩
    cases qn : greatN l with
    | true =>
     go_wp2_with fail
     all_goals go_ret
     all_goals exact ⟨rfl, HB4.out⟩
    | false =>
     have HSM : Hid (∀ s ∈ l, s.size ≤ 1048576) := greatN_not qn HW.out
     clear qn
     obtain ⟨k, hkd⟩ : ∃ k : Int, k = (2 + kd.tmod 3) % 256 := ⟨_, rfl⟩
     have HKK : Hid (k = 2 ∨ k = 3 ∨ k = 4) := by have := HKD.out; rw [hkd, Int.tmod_eq_emod_of_nonneg this.1]; rw [Hid]; omega
     have HKE := Lib.hid hkd.symm
     clear hkd
     go_upto_region 5 with fail
     rw [HKE.out]
     clear HKE
     obtain ⟨W6, hW6⟩ : ∃ W6, W6 = ((w5.alloc (.cells #[.int .u8 kA, .slice a1A l1A c1A, .slice a2A l2A c2A, .int .i64 loA, .bool lsA, .int .i64 hiA, .bool hsA, .bool opA, .int .u8 kB, .slice a1B l1B c1B, .slice a2B l2B c2B, .int .i64 loB, .bool lsB, .int .i64 hiB, .bool hsB, .bool opB] 28)).alloc (.cells #[.int .u8 k, .slice none 0 0, .slice (some ⟨w5.heap.size, 0, none⟩) 2 2, .int .i64 0, .bool false, .int .i64 0, .bool false, .bool false, .int .u8 kC, .slice a1C l1C c1C, .slice a2C l2C c2C, .int .i64 loC, .bool lsC, .int .i64 hiC, .bool hsC, .bool opC] 28)).alloc (.cells #[.int .u8 k, .slice none 0 0, .slice (some ⟨w5.heap.size + 1, 0, none⟩) 2 2, .int .i64 0, .bool false, .int .i64 0, .bool false, .bool false] 28) := ⟨_, rfl⟩
     have hz6 : W6.heap.size = w5.heap.size + 3 := by rw [hW6]; simp
     have hb56 : Below w5.heap.size w5 W6 := by rw [hW6]; exact (((Below.refl _ _).alloc (Nat.le_refl _) _).alloc (by simp) _).alloc (by simp; omega) _
     have h6a : W6.heap[w5.heap.size]? = some (.cells #[.int .u8 kA, .slice a1A l1A c1A, .slice a2A l2A c2A, .int .i64 loA, .bool lsA, .int .i64 hiA, .bool hsA, .bool opA, .int .u8 kB, .slice a1B l1B c1B, .slice a2B l2B c2B, .int .i64 loB, .bool lsB, .int .i64 hiB, .bool hsB, .bool opB] 28 (0, 0)) := by rw [hW6]; exact hp_in (hp_in (hp_top rfl))
     have h6b : W6.heap[w5.heap.size + 1]? = some (.cells #[.int .u8 k, .slice none 0 0, .slice (some ⟨w5.heap.size, 0, none⟩) 2 2, .int .i64 0, .bool false, .int .i64 0, .bool false, .bool false, .int .u8 kC, .slice a1C l1C c1C, .slice a2C l2C c2C, .int .i64 loC, .bool lsC, .int .i64 hiC, .bool hsC, .bool opC] 28 (0, 0)) := by rw [hW6]; exact hp_in (hp_top (by simp))
     have h6c : W6.heap[w5.heap.size + 2]? = some (.cells #[.int .u8 k, .slice none 0 0, .slice (some ⟨w5.heap.size + 1, 0, none⟩) 2 2, .int .i64 0, .bool false, .int .i64 0, .bool false, .bool false] 28 (0, 0)) := by rw [hW6]; exact hp_top (by simp)
     obtain ⟨W7, hW7⟩ : ∃ W7, W7 = ((W6.alloc (.cells #[.int .u8 kB, .slice a1B l1B c1B, .slice a2B l2B c2B, .int .i64 loB, .bool lsB, .int .i64 hiB, .bool hsB, .bool opB, .int .u8 kC, .slice a1C l1C c1C, .slice a2C l2C c2C, .int .i64 loC, .bool lsC, .int .i64 hiC, .bool hsC, .bool opC] 28)).alloc (.cells #[.int .u8 kA, .slice a1A l1A c1A, .slice a2A l2A c2A, .int .i64 loA, .bool lsA, .int .i64 hiA, .bool hsA, .bool opA, .int .u8 k, .slice none 0 0, .slice (some ⟨W6.heap.size, 0, none⟩) 2 2, .int .i64 0, .bool false, .int .i64 0, .bool false, .bool false] 28)).alloc (.cells #[.int .u8 k, .slice none 0 0, .slice (some ⟨W6.heap.size + 1, 0, none⟩) 2 2, .int .i64 0, .bool false, .int .i64 0, .bool false, .bool false] 28) := ⟨_, rfl⟩
     have hz7 : W7.heap.size = W6.heap.size + 3 := by rw [hW7]; simp
     have hb67 : Below W6.heap.size W6 W7 := by rw [hW7]; exact (((Below.refl _ _).alloc (Nat.le_refl _) _).alloc (by simp) _).alloc (by simp; omega) _
     have h7a : W7.heap[W6.heap.size]? = some (.cells #[.int .u8 kB, .slice a1B l1B c1B, .slice a2B l2B c2B, .int .i64 loB, .bool lsB, .int .i64 hiB, .bool hsB, .bool opB, .int .u8 kC, .slice a1C l1C c1C, .slice a2C l2C c2C, .int .i64 loC, .bool lsC, .int .i64 hiC, .bool hsC, .bool opC] 28 (0, 0)) := by rw [hW7]; exact hp_in (hp_in (hp_top rfl))
     have h7b : W7.heap[W6.heap.size + 1]? = some (.cells #[.int .u8 kA, .slice a1A l1A c1A, .slice a2A l2A c2A, .int .i64 loA, .bool lsA, .int .i64 hiA, .bool hsA, .bool opA, .int .u8 k, .slice none 0 0, .slice (some ⟨W6.heap.size, 0, none⟩) 2 2, .int .i64 0, .bool false, .int .i64 0, .bool false, .bool false] 28 (0, 0)) := by rw [hW7]; exact hp_in (hp_top (by simp))
     have h7c : W7.heap[W6.heap.size + 2]? = some (.cells #[.int .u8 k, .slice none 0 0, .slice (some ⟨W6.heap.size + 1, 0, none⟩) 2 2, .int .i64 0, .bool false, .int .i64 0, .bool false, .bool false] 28 (0, 0)) := by rw [hW7]; exact hp_top (by simp)
     have hb57 := hb56.trans (hb67.mono hb56.size)
     have h7d := (hb67.block _ (Array.getElem?_eq_some_iff.1 h6a).1).trans h6a
     have h7e := (hb67.block _ (Array.getElem?_eq_some_iff.1 h6b).1).trans h6b
     have h7f := (hb67.block _ (Array.getElem?_eq_some_iff.1 h6c).1).trans h6c
     have HB06 := Lib.hid (HB04.out.trans (hb56.mono HB04.out.size))
     have HB07 := Lib.hid (HB04.out.trans (hb57.mono HB04.out.size))
     have HB7 := Lib.hid (HCL.out W7 HB07.out).2.2.2.1
     have HLR : Hid (∃ (mL nL : Nat) (tL : XT mL nL) (mR nR : Nat) (tR : XT mR nR), (checkR l nL tL = checkR l nR tR ∧ nX nL tL ≤ 1000000 ∧ nX nR tR ≤ 1000000) ∧ (∀ y z, Nm.Ok y → Nm.Ok z → toX nL tL = xY y → toX nR tR = xY z → Nm.norm y = Nm.norm z) ∧ XRep W7 W7.heap.size mL nL tL (.agg #[.int .u8 k, .slice none 0 0, .slice (some ⟨w5.heap.size + 1, 0, none⟩) 2 2, .int .i64 0, .bool false, .int .i64 0, .bool false, .bool false]) ∧ XRep W7 W7.heap.size mR nR tR (.agg #[.int .u8 k, .slice none 0 0, .slice (some ⟨W6.heap.size + 1, 0, none⟩) 2 2, .int .i64 0, .bool false, .int .i64 0, .bool false, .bool false])) := by
      have xa := xi_all (HXA.out.up HB7.out HB7.out.size)
      have xb := xi_all (HXB.out.up HB7.out HB7.out.size)
      have xc := xi_all (HXC.out.up HB7.out HB7.out.size)
      obtain ⟨mL, nL, tL, eL, rL⟩ := (XI.two (XI.two xa xb k w5.heap.size 2 0 none (0, 0) rfl h7d) xc k (w5.heap.size + 1) 2 0 none (0, 0) rfl h7e).real
      obtain ⟨mR, nR, tR, eR, rR⟩ := (XI.two xa (XI.two xb xc k W6.heap.size 2 0 none (0, 0) rfl h7a) k (W6.heap.size + 1) 2 0 none (0, 0) rfl h7b).real
      exact ⟨mL, nL, tL, mR, nR, tR, chain_law l k HKK.out HTA.out HTB.out HTC.out eL eR, fun y z hy hz h h' => chain_norm HKK.out hy hz (eL.symm.trans h) (eR.symm.trans h'), rL, rR⟩
     have H7F := Lib.hid h7f
     have H7C := Lib.hid h7c
     have HW6 := Lib.hid hW6.symm
     have HW7 := Lib.hid hW7.symm
     clear hW6 hz6 hb56 h6a h6b h6c hW7 hz7 hb67 h7a h7b h7c hb57 h7d h7e h7f
     have hkA := (HCL.out w5 HB04.out).1
     have hltA := (Array.getElem?_eq_some_iff.1 hkA).1
     have hkB := (HCL.out w5 HB04.out).2.1
     have hltB := (Array.getElem?_eq_some_iff.1 hkB).1
     have hkC := (HCL.out w5 HB04.out).2.2.1
     have hltC := (Array.getElem?_eq_some_iff.1 hkC).1
     have x0 := Lib.cell_of_heap hkA 0
     have x1 := Lib.cell_of_heap hkA 1
     have x2 := Lib.cell_of_heap hkA 2
     have x3 := Lib.cell_of_heap hkA 3
     have x4 := Lib.cell_of_heap hkA 4
     have x5 := Lib.cell_of_heap hkA 5
     have x6 := Lib.cell_of_heap hkA 6
     have x7 := Lib.cell_of_heap hkA 7
     simp only [List.getElem?_toArray, List.getElem?_cons_zero, List.getElem?_cons_succ] at x0 x1 x2 x3 x4 x5 x6 x7
     have y0 := Lib.cell_of_heap hkB 0
     have y1 := Lib.cell_of_heap hkB 1
     have y2 := Lib.cell_of_heap hkB 2
     have y3 := Lib.cell_of_heap hkB 3
     have y4 := Lib.cell_of_heap hkB 4
     have y5 := Lib.cell_of_heap hkB 5
     have y6 := Lib.cell_of_heap hkB 6
     have y7 := Lib.cell_of_heap hkB 7
     simp only [List.getElem?_toArray, List.getElem?_cons_zero, List.getElem?_cons_succ] at y0 y1 y2 y3 y4 y5 y6 y7
     have z0 := Lib.cell_of_heap hkC 0
     have z1 := Lib.cell_of_heap hkC 1
     have z2 := Lib.cell_of_heap hkC 2
     have z3 := Lib.cell_of_heap hkC 3
     have z4 := Lib.cell_of_heap hkC 4
     have z5 := Lib.cell_of_heap hkC 5
     have z6 := Lib.cell_of_heap hkC 6
     have z7 := Lib.cell_of_heap hkC 7
     simp only [List.getElem?_toArray, List.getElem?_cons_zero, List.getElem?_cons_succ] at z0 z1 z2 z3 z4 z5 z6 z7
     clear hkA hkB hkC
     go_upto_region 6 with fail
     rw [HW6.out]
     clear HW6 x0 x1 x2 x3 x4 x5 x6 x7 y0 y1 y2 y3 y4 y5 y6 y7 z0 z1 z2 z3 z4 z5 z6 z7 hltA hltB hltC
     have hkA := (HCL.out W6 HB06.out).1
     have hltA := (Array.getElem?_eq_some_iff.1 hkA).1
     have hkB := (HCL.out W6 HB06.out).2.1
     have hltB := (Array.getElem?_eq_some_iff.1 hkB).1
     have hkC := (HCL.out W6 HB06.out).2.2.1
     have hltC := (Array.getElem?_eq_some_iff.1 hkC).1
     have x0 := Lib.cell_of_heap hkA 0
     have x1 := Lib.cell_of_heap hkA 1
     have x2 := Lib.cell_of_heap hkA 2
     have x3 := Lib.cell_of_heap hkA 3
     have x4 := Lib.cell_of_heap hkA 4
     have x5 := Lib.cell_of_heap hkA 5
     have x6 := Lib.cell_of_heap hkA 6
     have x7 := Lib.cell_of_heap hkA 7
     simp only [List.getElem?_toArray, List.getElem?_cons_zero, List.getElem?_cons_succ] at x0 x1 x2 x3 x4 x5 x6 x7
     have y0 := Lib.cell_of_heap hkB 0
     have y1 := Lib.cell_of_heap hkB 1
     have y2 := Lib.cell_of_heap hkB 2
     have y3 := Lib.cell_of_heap hkB 3
     have y4 := Lib.cell_of_heap hkB 4
     have y5 := Lib.cell_of_heap hkB 5
     have y6 := Lib.cell_of_heap hkB 6
     have y7 := Lib.cell_of_heap hkB 7
     simp only [List.getElem?_toArray, List.getElem?_cons_zero, List.getElem?_cons_succ] at y0 y1 y2 y3 y4 y5 y6 y7
     have z0 := Lib.cell_of_heap hkC 0
     have z1 := Lib.cell_of_heap hkC 1
     have z2 := Lib.cell_of_heap hkC 2
     have z3 := Lib.cell_of_heap hkC 3
     have z4 := Lib.cell_of_heap hkC 4
     have z5 := Lib.cell_of_heap hkC 5
     have z6 := Lib.cell_of_heap hkC 6
     have z7 := Lib.cell_of_heap hkC 7
     simp only [List.getElem?_toArray, List.getElem?_cons_zero, List.getElem?_cons_succ] at z0 z1 z2 z3 z4 z5 z6 z7
     clear hkA hkB hkC
     go_upto_region 7 with fail
     rw [HW7.out]
     clear HW7 x0 x1 x2 x3 x4 x5 x6 x7 y0 y1 y2 y3 y4 y5 y6 y7 z0 z1 z2 z3 z4 z5 z6 z7 hltA hltB hltC
     obtain ⟨mL, nL, tL, mR, nR, tR, ⟨hck, hnL, hnR⟩, hnn, rL, rR⟩ := HLR.out
     clear HLR
     have HN1 := Lib.hid (norm32_any l _ HSM.out mL nL tL _ W7 (HR.out.below HB7.out) (HN.out.up HB7.out HB7.out.size) rL hnL)
     have HCK := Lib.hid hck
     have HNN := Lib.hid hnn
     have HRR := Lib.hid rR
     have HNR := Lib.hid hnR
     clear hck hnL hnR hnn rL rR
     have hp := H7F.out
     have hpl := (Array.getElem?_eq_some_iff.1 hp).1
     have p0 := Lib.cell_of_heap hp 0
     have p1 := Lib.cell_of_heap hp 1
     have p2 := Lib.cell_of_heap hp 2
     have p3 := Lib.cell_of_heap hp 3
     have p4 := Lib.cell_of_heap hp 4
     have p5 := Lib.cell_of_heap hp 5
     have p6 := Lib.cell_of_heap hp 6
     have p7 := Lib.cell_of_heap hp 7
     simp only [List.getElem?_toArray, List.getElem?_cons_zero, List.getElem?_cons_succ] at p0 p1 p2 p3 p4 p5 p6 p7
     clear hp
     go_wp2_with fail
     refine HN1.out.mono ?_
     rintro e w8 ⟨v8, c8, rfl, hni8, hb8⟩
     obtain ⟨kP, a1P, l1P, c1P, a2P, l2P, c2P, loP, lsP, hiP, hsP, opP, rfl⟩ := hni8.shape
     obtain ⟨W9, hW9⟩ : ∃ W9, W9 = w8.alloc (.cells #[.int .u8 kP, .slice a1P l1P c1P, .slice a2P l2P c2P, .int .i64 loP, .bool lsP, .int .i64 hiP, .bool hsP, .bool opP] 28) := ⟨_, rfl⟩
     have hb89 : Below w8.heap.size w8 W9 := by rw [hW9]; exact (Below.refl _ _).alloc (Nat.le_refl _) _
     have hb79 := hb8.trans (hb89.mono hb8.size)
     have h9p : W9.heap[w8.heap.size]? = some (.cells #[.int .u8 kP, .slice a1P l1P c1P, .slice a2P l2P c2P, .int .i64 loP, .bool lsP, .int .i64 hiP, .bool hsP, .bool opP] 28 (0, 0)) := by rw [hW9]; exact hp_top rfl
     have HP9 := Lib.hid h9p
     have hp := (hb79.block _ (Array.getElem?_eq_some_iff.1 H7C.out).1).trans H7C.out
     have HB09 := Lib.hid (HB07.out.trans (hb79.mono HB07.out.size))
     have HB9 := Lib.hid (HCL.out W9 HB09.out).2.2.2.1
     have HN2 := Lib.hid (norm32_any l _ HSM.out mR nR tR _ W9 (HR.out.below HB9.out) (HN.out.up HB9.out HB9.out.size) (HRR.out.up hb79 hb79.size) HNR.out)
     have HB79 := Lib.hid hb79
     have HB89 := Lib.hid hb89
     have HNI8 := Lib.hid hni8
     have HW9 := Lib.hid hW9.symm
     clear p0 p1 p2 p3 p4 p5 p6 p7 hpl hni8 hb8 hW9 hb89 hb79 h9p HN1
     have hpl := (Array.getElem?_eq_some_iff.1 hp).1
     have p0 := Lib.cell_of_heap hp 0
     have p1 := Lib.cell_of_heap hp 1
     have p2 := Lib.cell_of_heap hp 2
     have p3 := Lib.cell_of_heap hp 3
     have p4 := Lib.cell_of_heap hp 4
     have p5 := Lib.cell_of_heap hp 5
     have p6 := Lib.cell_of_heap hp 6
     have p7 := Lib.cell_of_heap hp 7
     simp only [List.getElem?_toArray, List.getElem?_cons_zero, List.getElem?_cons_succ] at p0 p1 p2 p3 p4 p5 p6 p7
     clear hp
     go_upto_region 8 with fail
     rw [HW9.out]
     clear HW9
     go_wp2_with fail
     refine HN2.out.mono ?_
     rintro e w10 ⟨v10, c10, rfl, hni10, hb10⟩
     obtain ⟨kQ, a1Q, l1Q, c1Q, a2Q, l2Q, c2Q, loQ, lsQ, hiQ, hsQ, opQ, rfl⟩ := hni10.shape
     obtain ⟨rfl, m1, n1, m2, n2, t1, t2, heq, r1, r2⟩ := HNI8.out.same hni10 HCK.out HNN.out
     obtain ⟨W11, hW11⟩ : ∃ W11, W11 = w10.alloc (.cells #[.int .u8 kQ, .slice a1Q l1Q c1Q, .slice a2Q l2Q c2Q, .int .i64 loQ, .bool lsQ, .int .i64 hiQ, .bool hsQ, .bool opQ] 28) := ⟨_, rfl⟩
     have hb1011 : Below w10.heap.size w10 W11 := by rw [hW11]; exact (Below.refl _ _).alloc (Nat.le_refl _) _
     have hb911 := hb10.trans (hb1011.mono hb10.size)
     have hp := (hb911.block _ (Array.getElem?_eq_some_iff.1 HP9.out).1).trans HP9.out
     have hq : W11.heap[w10.heap.size]? = some (.cells #[.int .u8 kQ, .slice a1Q l1Q c1Q, .slice a2Q l2Q c2Q, .int .i64 loQ, .bool lsQ, .int .i64 hiQ, .bool hsQ, .bool opQ] 28 (0, 0)) := by rw [hW11]; exact hp_top rfl
     have HB011 := Lib.hid (HB09.out.trans (hb911.mono HB09.out.size))
     have hb811 := HB89.out.trans (hb911.mono HB89.out.size)
     have HS1 := Lib.hid (same27_any m1 m2 n1 n2 t1 t2 _ _ W11 (r1.up hb811 hb811.size) (r2.up hb1011 hb1011.size))
     have HEQ := Lib.hid heq
     have HW11 := Lib.hid hW11.symm
     clear p0 p1 p2 p3 p4 p5 p6 p7 hpl hni10 hb10 heq r1 r2 hW11 hb1011 hb911 hb811 HNI8 HCK HNN HRR HNR HN2 HP9
     have hpl := (Array.getElem?_eq_some_iff.1 hp).1
     have hql := (Array.getElem?_eq_some_iff.1 hq).1
     have p0 := Lib.cell_of_heap hp 0
     have p1 := Lib.cell_of_heap hp 1
     have p2 := Lib.cell_of_heap hp 2
     have p3 := Lib.cell_of_heap hp 3
     have p4 := Lib.cell_of_heap hp 4
     have p5 := Lib.cell_of_heap hp 5
     have p6 := Lib.cell_of_heap hp 6
     have p7 := Lib.cell_of_heap hp 7
     simp only [List.getElem?_toArray, List.getElem?_cons_zero, List.getElem?_cons_succ] at p0 p1 p2 p3 p4 p5 p6 p7
     have q0 := Lib.cell_of_heap hq 0
     have q1 := Lib.cell_of_heap hq 1
     have q2 := Lib.cell_of_heap hq 2
     have q3 := Lib.cell_of_heap hq 3
     have q4 := Lib.cell_of_heap hq 4
     have q5 := Lib.cell_of_heap hq 5
     have q6 := Lib.cell_of_heap hq 6
     have q7 := Lib.cell_of_heap hq 7
     simp only [List.getElem?_toArray, List.getElem?_cons_zero, List.getElem?_cons_succ] at q0 q1 q2 q3 q4 q5 q6 q7
     clear hp hq
     go_upto_region 9 with fail
     rw [HW11.out]
     clear HW11
     go_wp2_with fail
     refine HS1.out.mono ?_
     rintro e w12 ⟨⟨b, rfl, hbb⟩, hb12⟩
     obtain rfl := hbb.2 HEQ.out
     have HB012 := Lib.hid (HB011.out.trans (hb12.mono HB011.out.size))
     have HB12 := Lib.hid (HCL.out w12 HB012.out).2.2.2.1
     clear p0 p1 p2 p3 p4 p5 p6 p7 hpl q0 q1 q2 q3 q4 q5 q6 q7 hql hbb hb12 HS1 HEQ
     obtain ⟨W13, hW13⟩ : ∃ W13, W13 = (w12.alloc (.cells #[.int .u8 kA, .slice a1A l1A c1A, .slice a2A l2A c2A, .int .i64 loA, .bool lsA, .int .i64 hiA, .bool hsA, .bool opA] 28)).alloc (.cells #[.int .u8 5, .slice none 0 0, .slice (some ⟨w12.heap.size, 0, none⟩) 1 1, .int .i64 0, .bool false, .int .i64 0, .bool false, .bool false] 28) := ⟨_, rfl⟩
     have hz13 : W13.heap.size = w12.heap.size + 2 := by rw [hW13]; simp
     have hb1213 : Below w12.heap.size w12 W13 := by rw [hW13]; exact ((Below.refl _ _).alloc (Nat.le_refl _) _).alloc (by simp) _
     have h13a : W13.heap[w12.heap.size]? = some (.cells #[.int .u8 kA, .slice a1A l1A c1A, .slice a2A l2A c2A, .int .i64 loA, .bool lsA, .int .i64 hiA, .bool hsA, .bool opA] 28 (0, 0)) := by rw [hW13]; exact hp_in (hp_top rfl)
     have h13b : W13.heap[w12.heap.size + 1]? = some (.cells #[.int .u8 5, .slice none 0 0, .slice (some ⟨w12.heap.size, 0, none⟩) 1 1, .int .i64 0, .bool false, .int .i64 0, .bool false, .bool false] 28 (0, 0)) := by rw [hW13]; exact hp_top (by simp)
     have HB013 := Lib.hid (HB012.out.trans (hb1213.mono HB012.out.size))
     have HB13 := Lib.hid (HCL.out W13 HB013.out).2.2.2.1
     obtain ⟨mO, nO, tO, eO, rO⟩ := (xi_one (xi_all (HXA.out.up HB13.out HB13.out.size)) 5 w12.heap.size 1 (0, 0) h13a).real
     have hsO := one_small HTA.out eO
     have HN3 := Lib.hid (norm32_any l _ HSM.out mO nO tO _ W13 (HR.out.below HB13.out) (HN.out.up HB13.out HB13.out.size) rO (by have := nX_le nO tO; omega))
     have H13B := Lib.hid h13b
     have HEO := Lib.hid eO
     have HSO := Lib.hid hsO
     have HRO := Lib.hid rO
     have HW13 := Lib.hid hW13.symm
     clear hW13 hz13 hb1213 h13a h13b eO hsO rO
     have hkA := (HCL.out w12 HB012.out).1
     have hltA := (Array.getElem?_eq_some_iff.1 hkA).1
     have x0 := Lib.cell_of_heap hkA 0
     have x1 := Lib.cell_of_heap hkA 1
     have x2 := Lib.cell_of_heap hkA 2
     have x3 := Lib.cell_of_heap hkA 3
     have x4 := Lib.cell_of_heap hkA 4
     have x5 := Lib.cell_of_heap hkA 5
     have x6 := Lib.cell_of_heap hkA 6
     have x7 := Lib.cell_of_heap hkA 7
     simp only [List.getElem?_toArray, List.getElem?_cons_zero, List.getElem?_cons_succ] at x0 x1 x2 x3 x4 x5 x6 x7
     clear hkA
     go_upto_region 12 with fail
     rw [HW13.out]
     clear HW13 x0 x1 x2 x3 x4 x5 x6 x7 hltA
     have hp := H13B.out
     have hpl := (Array.getElem?_eq_some_iff.1 hp).1
     have p0 := Lib.cell_of_heap hp 0
     have p1 := Lib.cell_of_heap hp 1
     have p2 := Lib.cell_of_heap hp 2
     have p3 := Lib.cell_of_heap hp 3
     have p4 := Lib.cell_of_heap hp 4
     have p5 := Lib.cell_of_heap hp 5
     have p6 := Lib.cell_of_heap hp 6
     have p7 := Lib.cell_of_heap hp 7
     simp only [List.getElem?_toArray, List.getElem?_cons_zero, List.getElem?_cons_succ] at p0 p1 p2 p3 p4 p5 p6 p7
     clear hp
     go_wp2_with fail
     refine HN3.out.mono ?_
     rintro e w14 ⟨v14, c14, rfl, hni14, hb14⟩
     obtain ⟨kR, a1R, l1R, c1R, a2R, l2R, c2R, loR, lsR, hiR, hsR, opR, rfl⟩ := hni14.shape
     obtain ⟨W15, hW15⟩ : ∃ W15, W15 = w14.alloc (.cells #[.int .u8 kR, .slice a1R l1R c1R, .slice a2R l2R c2R, .int .i64 loR, .bool lsR, .int .i64 hiR, .bool hsR, .bool opR] 28) := ⟨_, rfl⟩
     have hb1415 : Below w14.heap.size w14 W15 := by rw [hW15]; exact (Below.refl _ _).alloc (Nat.le_refl _) _
     have hb1315 := hb14.trans (hb1415.mono hb14.size)
     have h15r : W15.heap[w14.heap.size]? = some (.cells #[.int .u8 kR, .slice a1R l1R c1R, .slice a2R l2R c2R, .int .i64 loR, .bool lsR, .int .i64 hiR, .bool hsR, .bool opR] 28 (0, 0)) := by rw [hW15]; exact hp_top rfl
     have hp := (hb1315.block _ (Array.getElem?_eq_some_iff.1 H13B.out).1).trans H13B.out
     have HB015 := Lib.hid (HB013.out.trans (hb1315.mono HB013.out.size))
     obtain ⟨W16, hW16⟩ : ∃ W16, W16 = W15.alloc (.cells #[.int .u8 5, .slice none 0 0, .slice (some ⟨w12.heap.size, 0, none⟩) 1 1, .int .i64 0, .bool false, .int .i64 0, .bool false, .bool false] 28) := ⟨_, rfl⟩
     have hb1516 : Below W15.heap.size W15 W16 := by rw [hW16]; exact (Below.refl _ _).alloc (Nat.le_refl _) _
     have h16 : W16.heap[W15.heap.size]? = some (.cells #[.int .u8 5, .slice none 0 0, .slice (some ⟨w12.heap.size, 0, none⟩) 1 1, .int .i64 0, .bool false, .int .i64 0, .bool false, .bool false] 28 (0, 0)) := by rw [hW16]; exact hp_top rfl
     have h16r := (hb1516.block _ (Array.getElem?_eq_some_iff.1 h15r).1).trans h15r
     have HB016 := Lib.hid (HB015.out.trans (hb1516.mono HB015.out.size))
     have HB16 := Lib.hid (HCL.out W16 HB016.out).2.2.2.1
     have hb1316 := hb1315.trans (hb1516.mono hb1315.size)
     obtain ⟨mT, nT, tT, eT, rT⟩ := (xi_one (xi_all (HRO.out.up hb1316 hb1316.size)) 5 W15.heap.size 1 (0, 0) h16).real
     have hsT := one_small HSO.out eT
     have HN4 := Lib.hid (norm32_any l _ HSM.out mT nT tT _ W16 (HR.out.below HB16.out) (HN.out.up HB16.out HB16.out.size) rT (by have := nX_le nT tT; omega))
     have hnn : ∀ y z, Nm.Ok y → Nm.Ok z → toX nO tO = xY y → toX nT tT = xY z → Nm.norm y = Nm.norm z := fun y z hy hz h h' => plus_norm hy hz (HEO.out.symm.trans h) (by rw [← h', eT, HEO.out])
     have HNN := Lib.hid hnn
     have HNI := Lib.hid hni14
     have HB1416 := Lib.hid (hb1415.trans (hb1516.mono hb1415.size))
     have H16R := Lib.hid h16r
     have HW15 := Lib.hid hW15.symm
     have HW16 := Lib.hid hW16.symm
     clear p0 p1 p2 p3 p4 p5 p6 p7 hpl hni14 hb14 hW15 hb1415 hb1315 h15r hW16 hb1516 h16 h16r hb1316 eT rT hsT hnn HN3 H13B HEO HSO HRO
     have hpl := (Array.getElem?_eq_some_iff.1 hp).1
     have p0 := Lib.cell_of_heap hp 0
     have p1 := Lib.cell_of_heap hp 1
     have p2 := Lib.cell_of_heap hp 2
     have p3 := Lib.cell_of_heap hp 3
     have p4 := Lib.cell_of_heap hp 4
     have p5 := Lib.cell_of_heap hp 5
     have p6 := Lib.cell_of_heap hp 6
     have p7 := Lib.cell_of_heap hp 7
     simp only [List.getElem?_toArray, List.getElem?_cons_zero, List.getElem?_cons_succ] at p0 p1 p2 p3 p4 p5 p6 p7
     clear hp
     go_upto_region 13 with fail
     rw [HW15.out]
     clear HW15
     go_wp2_with fail
     rw [HW16.out]
     clear HW16
     refine HN4.out.mono ?_
     rintro e w17 ⟨v17, c17, rfl, hni17, hb17⟩
     obtain ⟨kS, a1S, l1S, c1S, a2S, l2S, c2S, loS, lsS, hiS, hsS, opS, rfl⟩ := hni17.shape
     obtain ⟨W18, hW18⟩ : ∃ W18, W18 = w17.alloc (.cells #[.int .u8 kS, .slice a1S l1S c1S, .slice a2S l2S c2S, .int .i64 loS, .bool lsS, .int .i64 hiS, .bool hsS, .bool opS] 28) := ⟨_, rfl⟩
     have hb1718 : Below w17.heap.size w17 W18 := by rw [hW18]; exact (Below.refl _ _).alloc (Nat.le_refl _) _
     have hb1618 := hb17.trans (hb1718.mono hb17.size)
     have hp := (hb1618.block _ (Array.getElem?_eq_some_iff.1 H16R.out).1).trans H16R.out
     have hq : W18.heap[w17.heap.size]? = some (.cells #[.int .u8 kS, .slice a1S l1S c1S, .slice a2S l2S c2S, .int .i64 loS, .bool lsS, .int .i64 hiS, .bool hsS, .bool opS] 28 (0, 0)) := by rw [hW18]; exact hp_top rfl
     have HB018 := Lib.hid (HB016.out.trans (hb1618.mono HB016.out.size))
     have HB18 := Lib.hid (HCL.out W18 HB018.out).2.2.2.1
     have HB1418 := Lib.hid (HB1416.out.trans (hb1618.mono HB1416.out.size))
     have HB1718 := Lib.hid hb1718
     have hboth := HNI.out.both hni17 HNN.out
     have HW18 := Lib.hid hW18.symm
     clear p0 p1 p2 p3 p4 p5 p6 p7 hpl hni17 hb17 hW18 hb1718 hb1618 HN4 H16R HNN HNI
     go_upto_region 14 with fail
     rw [HW18.out]
     clear HW18
     rcases hboth with q | ⟨rfl, q⟩ | ⟨rfl, rfl, m1, n1, m2, n2, t1, t2, heq, r1, r2⟩
     ·clear hp hq
      go_wp2_with fail
      all_goals go_ret
      all_goals exact ⟨rfl, HB18.out⟩
     ·clear hp hq
      go_wp2_with fail
      all_goals go_ret
      all_goals exact ⟨rfl, HB18.out⟩
     ·have HS2 := Lib.hid (same27_any m1 m2 n1 n2 t1 t2 _ _ W18 (r1.up HB1418.out HB1418.out.size) (r2.up HB1718.out HB1718.out.size))
      have HEQ := Lib.hid heq
      clear heq r1 r2
      have hpl := (Array.getElem?_eq_some_iff.1 hp).1
      have hql := (Array.getElem?_eq_some_iff.1 hq).1
      have p0 := Lib.cell_of_heap hp 0
      have p1 := Lib.cell_of_heap hp 1
      have p2 := Lib.cell_of_heap hp 2
      have p3 := Lib.cell_of_heap hp 3
      have p4 := Lib.cell_of_heap hp 4
      have p5 := Lib.cell_of_heap hp 5
      have p6 := Lib.cell_of_heap hp 6
      have p7 := Lib.cell_of_heap hp 7
      simp only [List.getElem?_toArray, List.getElem?_cons_zero, List.getElem?_cons_succ] at p0 p1 p2 p3 p4 p5 p6 p7
      have q0 := Lib.cell_of_heap hq 0
      have q1 := Lib.cell_of_heap hq 1
      have q2 := Lib.cell_of_heap hq 2
      have q3 := Lib.cell_of_heap hq 3
      have q4 := Lib.cell_of_heap hq 4
      have q5 := Lib.cell_of_heap hq 5
      have q6 := Lib.cell_of_heap hq 6
      have q7 := Lib.cell_of_heap hq 7
      simp only [List.getElem?_toArray, List.getElem?_cons_zero, List.getElem?_cons_succ] at q0 q1 q2 q3 q4 q5 q6 q7
      clear hp hq
      go_wp2_with fail
      refine HS2.out.mono ?_
      rintro e w19 ⟨⟨b, rfl, hbb⟩, hb19⟩
      obtain rfl := hbb.2 HEQ.out
      have HFIN := Lib.hid (HB18.out.trans (hb19.mono HB18.out.size))
      clear p0 p1 p2 p3 p4 p5 p6 p7 hpl q0 q1 q2 q3 q4 q5 q6 q7 hql hbb hb19 HS2 HEQ
      go_wp2_with fail
      all_goals go_ret
      all_goals exact ⟨rfl, HFIN.out⟩
end Go.Proofs.YtpgdplmndnopbaaGreatDoor