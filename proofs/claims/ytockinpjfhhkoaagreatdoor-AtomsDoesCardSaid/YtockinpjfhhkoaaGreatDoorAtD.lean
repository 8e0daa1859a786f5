/- dbm.through walked: each bound made at most that by a clock. (Printed by gen_atd.py.) -/
import Derived.Deep.Cut
import Derived.Test.YtockinpjfhhkoaaGreatDoorMhC
import Derived.Test.YtockinpjfhhkoaaGreatDoorAtDa
namespace Go.Proofs.YtockinpjfhhkoaaGreatDoor
open Go.RowKit Go.Shelf
attribute [local go_sem] Oper.semAt_some

theorem bt_drewN {pb : Nat} {w w' : World} (h : Bt pb w w') (n : Nat) : Bt pb w (w'.drewN n) := h.trans ⟨rfl, rfl, rfl, Nat.le_refl _, fun _ _ _ => rfl⟩
theorem row_drewN {w : World} {g : Nat} {L : List Int} (h : RowB w g L) (n : Nat) : RowB (w.drewN n) g L := h.agree rfl
theorem Mat.go {w w' : World} {mb g n c : Nat} {L L' : List Int} (h : Mat w mb g n c L) (hb : Bt g w w') (hr : RowB w' g L') (hl : L'.length = L.length) : Mat w' mb g n c L' :=
  ⟨by rw [hl]; exact hb.at h.1 h.2.2, hr, h.2.2⟩
theorem at120_h {mb g n c i j p : Nat} {L : List Int} {w : World} (h : Mat w mb g n c L) (hl : L.length = n * n) (hn : n ≤ 4) (hi : i < n) (hj : j < n) (hp : i * n + j = p) :
    Calls Tryz.prog 120 #[.pointer (some ⟨mb, 0, none⟩), .int .i64 i, .int .i64 j] w fun e w' => e = .returned (.pointer (some ⟨g, p, none⟩)) ∧ Hid (w'.heap = w.heap ∧ Below w.heap.size w w') := by
  subst hp
  refine (at120_any h hl hn hi hj).mono ?_
  rintro e w' ⟨rfl, q, rfl⟩
  exact ⟨rfl, rfl, ⟨rfl, rfl, rfl, Nat.le_refl _, fun _ _ => rfl⟩⟩
theorem Bt.putObj {pb : Nat} {w w' : World} (h : Bt pb w w') {l : Nat} (hl : w.heap.size ≤ l) (o : Obj) : Bt pb w (w'.putObj l o) :=
  ⟨h.1, h.2.1, h.2.2.1, by simpa using h.2.2.2.1, fun k hk hp => (World.putObj_heap_other (by omega)).trans (h.2.2.2.2 k hk hp)⟩
theorem cell_heap {w w' : World} (h : w'.heap = w.heap) (a : Addr) : w'.cell? a = w.cell? a := by simp [World.cell?, h]
theorem getD_stepD {n k p : Nat} {L : List Int} {i j : Nat} (hi : p / n = i) (hj : p % n = j) : stepD n k L p = L.set p (relaxB (L.getD p 0) (L.getD (i * n + k) 0) (L.getD (k * n + j) 0)) := by
  unfold stepD; rw [hi, hj]
theorem set_same {L : List Int} {p : Nat} (h : p < L.length) : L.set p (L.getD p 0) = L := by
  rw [List.getD_eq_getElem?_getD, List.getElem?_eq_getElem h, Option.getD_some, List.set_getElem_self]
theorem diag_end {n : Nat} {L : List Int} {d : Nat} (h : ∀ i, i < d → 1 ≤ L.getD (i * n + i) 0) (hd : d = n) : diagD n L = true := diagD_yes (by subst hd; exact h)

set_option maxRecDepth 100000 in
set_option maxHeartbeats 16000000 in
theorem through123_any {mb g n c k : Nat} {L : List Int} {w : World} (h : Mat w mb g n c L) (hl : L.length = n * n) (h1 : 1 ≤ n) (hn : n ≤ 4) (hk : k < n) :
    Calls Tryz.prog 123 #[.pointer (some ⟨mb, 0, none⟩), .int .i64 k] w fun e w' => e = .returned (.bool (diagD n (throughD n k L))) ∧ RowB w' g (throughD n k L) ∧ Bt g w w' := by
  have hgl := h.2.1.lt
  have hml := (Array.getElem?_eq_some_iff.1 h.1).1
  obtain ⟨W3, hW3⟩ : ∃ W3, W3 = ((w.alloc (.cells #[.pointer (some ⟨mb, 0, none⟩)] 173)).alloc (.cells #[.int .i64 k] 3)).alloc (.cells #[.int .i64 n] 3) := ⟨_, rfl⟩
  have hb3 : Below w.heap.size w W3 := by rw [hW3]; exact ((belowA _ _).alloc (by simp) _).alloc (by simp; omega) _
  have hz3 : W3.heap.size = w.heap.size + 3 := by rw [hW3]; simp
  have hx0 : W3.heap[w.heap.size]? = some (.cells #[.pointer (some ⟨mb, 0, none⟩)] 173 (0, 0)) := by
    rw [hW3]; exact (Below.heap_alloc _ _ _ (by simp; omega)).trans ((Below.heap_alloc _ _ _ (by simp)).trans (hp_topA rfl))
  have hx1 : W3.heap[w.heap.size + 1]? = some (.cells #[.int .i64 k] 3 (0, 0)) := by
    rw [hW3]; exact (Below.heap_alloc _ _ _ (by simp)).trans (hp_topA (by simp))
  have hx2 : W3.heap[w.heap.size + 2]? = some (.cells #[.int .i64 n] 3 (0, 0)) := by
    rw [hW3]; exact hp_topA (by simp)
  have hM3 : Mat W3 mb g n c L := ⟨(hb3.block _ hml).trans h.1, h.2.1.below hb3, h.2.2⟩
  have hm0 := Lib.cell_of_heap h.1 0
  simp only [List.getElem?_toArray, List.getElem?_cons_zero] at hm0
  have HM3 := Lib.hid hM3
  have HB3 := Lib.hid hb3
  have HW3 := Lib.hid hW3.symm
  have HZ3 := Lib.hid hz3
  have HX0 := Lib.hid hx0
  have HX1 := Lib.hid hx1
  have HX2 := Lib.hid hx2
  have HL := Lib.hid hl
  have HGL := Lib.hid hgl
  have hnn : n * n ≤ 16 := Nat.mul_le_mul hn hn
  have HNN := Lib.hid hnn
  have HKN := Lib.hid hk
  clear h hW3 hz3 hb3 hx0 hx1 hx2 hM3 hl hnn hk
  -- what holds in every world of the loop
  have HI : Hid (∀ j W, RowB W g (thrTo n k L j) ∧ Bt g W3 W → Mat W mb g n c (thrTo n k L j) ∧ W.cell? ⟨w.heap.size, 0, none⟩ = some (.pointer (some ⟨mb, 0, none⟩)) ∧ W.cell? ⟨w.heap.size + 1, 0, none⟩ = some (.int .i64 k) ∧ W.cell? ⟨w.heap.size + 2, 0, none⟩ = some (.int .i64 n) ∧ W.cell? ⟨mb, 0, none⟩ = some (.int .i64 n) ∧ w.heap.size + 3 ≤ W.heap.size) := by
    intro j W ⟨hr, hbt⟩
    have hm := HM3.out.go hbt hr (thrTo_len n k L j)
    have hgl := HGL.out
    have hz := HZ3.out
    have hs := hbt.2.2.2.1
    have hM := Lib.cell_of_heap hm.1 0
    simp only [List.getElem?_toArray, List.getElem?_cons_zero] at hM
    exact ⟨hm, Lib.cell_of_heap (hbt.at HX0.out (by omega)) 0, Lib.cell_of_heap (hbt.at HX1.out (by omega)) 0, Lib.cell_of_heap (hbt.at HX2.out (by omega)) 0, hM, by omega⟩
  have h118 : Fence.wide.fn 118 := trivial
  have h120 : Fence.wide.fn 120 := trivial
  have h192 : Fence.wide.fn 192 := trivial
  refine (callsIn_wide (n := 4)).1 ?_
  refine callsIn_of_wp_marks Tryz.func123 rfl trivial ?_ rfl
  simp only [Tryz.ntmps123, List.size_toArray, List.length_cons, List.length_nil, Nat.reduceAdd, Nat.reduceSub, Array.replicate_succ, Array.replicate_zero, List.push_toArray, List.append_toArray, List.nil_append, List.cons_append]
  gi_wp2_with fail
  refine (callsIn_wide.2 (pairs118_any _ _)).mono ?_
  rintro e w3 ⟨rfl, rfl⟩
  have hsz : ((w.alloc (.cells #[.pointer (some ⟨mb, 0, none⟩)] 173)).alloc (.cells #[.int .i64 k] 3)).heap.size = w.heap.size + 2 := by simp
  rw [HW3.out, hsz]
  clear HW3 hsz
  gi_wp2_with fail
  refine rangePairs (n := n) (Bs := w.heap.size + 2) rfl rfl h1 hn (fun j W => RowB W g (thrTo n k L j) ∧ Bt g W3 W) (fun _ => False) ?hI ?hIx ?hrd ⟨HM3.out.2.1, Bt.refl _ _⟩ ?round ?done ?stop
  case hI =>
    intro j W W' ⟨hr, hb⟩ h1 h2 h3 h4 h5 h6
    have hz := HZ3.out
    have hgl := HGL.out
    refine ⟨hr.agree (h6 g (by omega) (by omega) (by omega)), h3.trans hb.1, h4.trans hb.2.1, h5.trans hb.2.2.1, by omega, fun b hb1 hb2 => (h6 b (by omega) (by omega) (by omega)).trans (hb.2.2.2.2 b hb1 hb2)⟩
  case hIx =>
    intro W W' h
    exact h.elim
  case hrd =>
    intro j W h
    obtain ⟨_, _, _, h3, _, h5⟩ := HI.out j W h
    exact ⟨h3, by omega⟩
  case stop =>
    intro W h
    exact h.elim
  case done =>
    intro W hJ hlt hK
    obtain ⟨hr, hbt⟩ := hJ
    obtain ⟨hm, q0, q1, q2, q3, q4⟩ := HI.out (n * n) W ⟨hr, hbt⟩
    have HR := Lib.hid hr
    have HBT := Lib.hid hbt
    have HM := Lib.hid hm
    have HK := Lib.hid hK
    have hmlW : mb < W.heap.size := (Array.getElem?_eq_some_iff.1 hm.1).1
    have hwl : w.heap.size < W.heap.size := by omega
    clear hr hbt hm hK q2
    gi_wp2_with fail
    gi_loopw [53] (fun i wr => ∃ d : Nat, d ≤ n ∧ i = .int .i64 d ∧ Hid (∀ i, i < d → 1 ≤ (throughD n k L).getD (i * n + i) 0) ∧ Hid (wr.heap = W.heap ∧ Below W.heap.size W wr)) (fun i _ => n - (intOf i).toNat)
    case atStart => exact ⟨0, Nat.zero_le _, rfl, fun i h => absurd h (Nat.not_lt_zero i), rfl, Below.refl _ _⟩
    case round =>
      obtain ⟨d, hd, rfl, HP, HH⟩ := hrel
      have HQ0 := Lib.hid q0
      have HWL := Lib.hid hwl
      clear q0 q1 q3 hmlW hwl
      have hc0 : wr.cell? ⟨w.heap.size, 0, none⟩ = some (.pointer (some ⟨mb, 0, none⟩)) := (cell_heap HH.out.1 _).trans HQ0.out
      have hc1 : w.heap.size < wr.heap.size := by rw [HH.out.1]; exact HWL.out
      by_cases hlt2 : d < n
      · have hdi : (d : Int) < (n : Int) := by omega
        have HMR : Hid (Mat wr mb g n c (throughD n k L)) := ⟨by rw [HH.out.1]; exact HM.out.1, HR.out.agree (by rw [HH.out.1]), HM.out.2.2⟩
        obtain ⟨p, hp⟩ : ∃ p, d * n + d = p := ⟨_, rfl⟩
        have HAT := Lib.hid (at120_h HMR.out ((through_len n k L).trans HL.out) hn hlt2 hlt2 hp)
        have hpl : p < (throughD n k L).length := by rw [through_len, HL.out, ← hp]; exact place_lt hlt2 hlt2
        obtain ⟨v, hv⟩ : ∃ v, (throughD n k L).getD p 0 = v := ⟨_, rfl⟩
        have HCV : Hid (∀ W' : World, W'.heap = wr.heap → W'.cell? ⟨g, p, none⟩ = some (.int .i64 v) ∧ g < W'.heap.size) := fun W' hW => by
          refine ⟨(cell_heap hW _).trans (by rw [← hv]; exact HMR.out.2.1.cellD p hpl), by rw [hW]; exact HMR.out.2.1.lt⟩
        have HV := Lib.hid hv
        have HP2 := Lib.hid hp
        clear hpl hv hp
        by_cases hv1 : v < 1
        · have HD : Hid (diagD n (throughD n k L) = false) := diagD_no hlt2 (by rw [HP2.out, HV.out]; exact hv1)
          have hv2 : decide (v < 1) = true := by simpa using hv1
          gi_wp2_with fail
          refine (callsIn_wide.2 HAT.out).mono ?_
          rintro e w4 ⟨rfl, HH4⟩
          obtain ⟨hcq, hcl⟩ := HCV.out w4 HH4.out.1
          gi_wp2_with fail
          have HK4 : Hid (w4.heap[W3.heap.size]? = some (.deferred (some []))) := by rw [Hid, HH4.out.1, HH.out.1]; exact HK.out
          have hgz : g ≠ W3.heap.size := by have := HGL.out; have := HZ3.out; omega
          have hzz : w.heap.size ≤ W3.heap.size := by have := HZ3.out; omega
          refine ⟨by simp, .inl ⟨_, _, rfl, run_takeDeferred HK4.out, ?_⟩⟩
          exact ⟨_, results_tmp rfl _ _ _, by rw [HD.out]; rfl, HR.out.agree ((World.putObj_heap_other hgz).trans (by rw [HH4.out.1, HH.out.1])), Bt.putObj (((Bt.of_below HB3.out).trans HBT.out).trans (.of_below (HH.out.2.trans (HH4.out.2.mono HH.out.2.size)))) hzz _⟩
        · have hv2 : decide (v < 1) = false := by simpa using hv1
          have HV1 := Lib.hid hv1
          clear hv1
          gi_wp2_with fail
          refine (callsIn_wide.2 HAT.out).mono ?_
          rintro e w4 ⟨rfl, HH4⟩
          obtain ⟨hcq, hcl⟩ := HCV.out w4 HH4.out.1
          gi_wp2_with fail
          go_roundw
          case rel => exact ⟨d + 1, by omega, by go_num, fun i hi => (by
            rcases Nat.lt_or_ge i d with h | h
            · exact HP.out i h
            · obtain rfl : i = d := by omega
              have := HV1.out
              rw [HP2.out, HV.out]; omega), HH4.out.1.trans HH.out.1, HH.out.2.trans (HH4.out.2.mono HH.out.2.size)⟩
          case measure => simp [intOf]; omega
      · have HD : Hid (diagD n (throughD n k L) = true) := diag_end HP.out (by omega)
        obtain rfl : d = n := by omega
        gi_wp2_with fail
        have HK4 : Hid (wr.heap[W3.heap.size]? = some (.deferred (some []))) := by rw [Hid, HH.out.1]; exact HK.out
        have hgz : g ≠ W3.heap.size := by have := HGL.out; have := HZ3.out; omega
        have hzz : w.heap.size ≤ W3.heap.size := by have := HZ3.out; omega
        refine ⟨by simp, .inl ⟨_, _, rfl, run_takeDeferred HK4.out, ?_⟩⟩
        exact ⟨_, results_tmp rfl _ _ _, by rw [HD.out]; rfl, HR.out.agree ((World.putObj_heap_other hgz).trans (by rw [HH.out.1])), Bt.putObj (((Bt.of_below HB3.out).trans HBT.out).trans (.of_below HH.out.2)) hzz _⟩
  case round =>
    intro m r wr hr hJ hwr
    gi_wp2
    refine ⟨trivial, ?_⟩
    intro o' hJ2
    obtain ⟨XA, hXA⟩ : ∃ XA, XA = wr.putObj (W3.heap.size + 1) (.loop o') := ⟨_, rfl⟩
    rw [← hXA] at hJ2 ⊢
    have HZX : Hid (W3.heap.size + 2 ≤ XA.heap.size) := by rw [Hid, hXA]; simpa using hwr
    have HXA := Lib.hid hXA.symm
    clear hXA
    obtain ⟨i, hi⟩ : ∃ i, r / n = i := ⟨_, rfl⟩
    obtain ⟨j, hj⟩ : ∃ j, r % n = j := ⟨_, rfl⟩
    have hiN : i < n := by rw [← hi]; exact (pair_lt hr).1
    have hjN : j < n := by rw [← hj]; exact (pair_lt hr).2.1
    have hij : i * n + j = r := by rw [← hi, ← hj]; exact (pair_lt hr).2.2
    have hci : ((r : Int) / (n : Int)) = (i : Int) := by rw [← hi]; rfl
    have hcj : ((r : Int) % (n : Int)) = (j : Int) := by rw [← hj]; rfl
    obtain ⟨M, hM⟩ : ∃ M, thrTo n k L r = M := ⟨_, rfl⟩
    have hML : M.length = n * n := by rw [← hM, thrTo_len, HL.out]
    obtain ⟨p1, hp1⟩ : ∃ p1, i * n + k = p1 := ⟨_, rfl⟩
    obtain ⟨p2, hp2⟩ : ∃ p2, k * n + j = p2 := ⟨_, rfl⟩
    obtain ⟨v1, hv1⟩ : ∃ v1, M.getD p1 0 = v1 := ⟨_, rfl⟩
    obtain ⟨v2, hv2⟩ : ∃ v2, M.getD p2 0 = v2 := ⟨_, rfl⟩
    obtain ⟨v3, hv3⟩ : ∃ v3, M.getD r 0 = v3 := ⟨_, rfl⟩
    have hl1 : p1 < M.length := by rw [hML, ← hp1]; exact place_lt hiN HKN.out
    have hl2 : p2 < M.length := by rw [hML, ← hp2]; exact place_lt HKN.out hjN
    have hl3 : r < M.length := by rw [hML]; exact hr
    have HT : Hid (thrTo n k L (r + 1) = M.set r (relaxB v3 v1 v2)) := by rw [Hid, thrTo_succ, hM, getD_stepD hi hj, hp1, hp2, hv1, hv2, hv3]
    have HMM := Lib.hid hM
    have HMg : Hid (∀ W, RowB W g M ∧ Bt g W3 W → Mat W mb g n c M ∧ W.cell? ⟨w.heap.size, 0, none⟩ = some (.pointer (some ⟨mb, 0, none⟩)) ∧ W.cell? ⟨w.heap.size + 1, 0, none⟩ = some (.int .i64 k) ∧ W.cell? ⟨g, p1, none⟩ = some (.int .i64 v1) ∧ W.cell? ⟨g, p2, none⟩ = some (.int .i64 v2) ∧ W.cell? ⟨g, r, none⟩ = some (.int .i64 v3) ∧ w.heap.size < W.heap.size ∧ w.heap.size + 1 < W.heap.size ∧ g < W.heap.size) := by
      intro W hW
      have h := HI.out r W (by rw [hM]; exact hW)
      rw [hM] at h
      obtain ⟨a1, a2, a3, a4, a5, a6⟩ := h
      exact ⟨a1, a2, a3, by rw [← hv1]; exact hW.1.cellD p1 hl1, by rw [← hv2]; exact hW.1.cellD p2 hl2, by rw [← hv3]; exact hW.1.cellD r hl3, by omega, by omega, hW.1.lt⟩
    rw [hM] at hJ2
    have HJ2 := Lib.hid hJ2
    have HML := Lib.hid hML
    have HV3 := Lib.hid hv3
    have HL3 := Lib.hid hl3
    have HIN := Lib.hid hiN
    have HJN := Lib.hid hjN
    have HP1 := Lib.hid hp1
    have HP2 := Lib.hid hp2
    have HIJ := Lib.hid hij
    have HR := Lib.hid hr
    clear hJ hJ2 hi hj hM hML hp1 hp2 hv1 hv2 hv3 hl1 hl2 hl3 hr hij hwr hiN hjN
    have hS0 := HMg.out XA.drew ⟨HJ2.out.1.agree rfl, HJ2.out.2.drew⟩
    have HS0 : Hid ((XA.drew.cell? ⟨w.heap.size, 0, none⟩ = some (.pointer (some ⟨mb, 0, none⟩)) ∧ XA.drew.cell? ⟨w.heap.size + 1, 0, none⟩ = some (.int .i64 k) ∧ XA.drew.cell? ⟨g, p1, none⟩ = some (.int .i64 v1) ∧ XA.drew.cell? ⟨g, p2, none⟩ = some (.int .i64 v2) ∧ w.heap.size < XA.drew.heap.size ∧ w.heap.size + 1 < XA.drew.heap.size ∧ g < XA.drew.heap.size)) := ⟨hS0.2.1, hS0.2.2.1, hS0.2.2.2.1, hS0.2.2.2.2.1, hS0.2.2.2.2.2.2⟩
    clear hS0
    gi_wp2
    try rw [HXA.out]
    refine region_round (S := fun W => W.cell? ⟨w.heap.size, 0, none⟩ = some (.pointer (some ⟨mb, 0, none⟩)) ∧ W.cell? ⟨w.heap.size + 1, 0, none⟩ = some (.int .i64 k) ∧ W.cell? ⟨g, p1, none⟩ = some (.int .i64 v1) ∧ W.cell? ⟨g, p2, none⟩ = some (.int .i64 v2) ∧ w.heap.size < W.heap.size ∧ w.heap.size + 1 < W.heap.size ∧ g < W.heap.size) (by kernel_rfl) (by kernel_rfl) ?_ HS0.out (fun hHeld => ?_)
    · rintro ⟨_, _, _, (⟨h, _⟩ | ⟨h, _⟩)⟩ <;> cases h
    refine wpAnyH_take (i := 0) (v := ?_) rfl (by kernel_rfl) (by kernel_rfl) (by kernel_rfl) (fun _ _ _ h => h) (Or.inl ⟨by kernel_rfl, ?_⟩) (by assumption) ?_
    rotate_left
    · (intro w hSw; (try dsimp only at hSw); go_simp)
      try with_reducible rfl
    try simp only [Act.put, List.setIfInBounds_toArray, List.set_cons_zero, List.set_cons_succ, List.getElem_toArray, List.getElem_cons_zero]
    refine wpAnyH_take (i := 1) (v := ?_) rfl (by kernel_rfl) (by kernel_rfl) (by kernel_rfl) (fun _ _ _ h => h) (Or.inl ⟨by kernel_rfl, ?_⟩) (by assumption) ?_
    rotate_left
    · (intro w hSw; (try dsimp only at hSw); go_simp)
      try with_reducible rfl
    try simp only [Act.put, List.setIfInBounds_toArray, List.set_cons_zero, List.set_cons_succ, List.getElem_toArray, List.getElem_cons_zero, List.getElem_cons_succ]
    refine wpAnyH_take (i := 2) (v := ?_) rfl (by kernel_rfl) (by kernel_rfl) (by kernel_rfl) (fun _ _ _ h => h) (Or.inl ⟨by kernel_rfl, ?_⟩) (by assumption) ?_
    rotate_left
    · (intro w hSw; (try dsimp only at hSw); go_simp)
      try with_reducible rfl
    try simp only [Act.put, List.setIfInBounds_toArray, List.set_cons_zero, List.set_cons_succ, List.getElem_toArray, List.getElem_cons_zero, List.getElem_cons_succ]
    refine wpAnyH_take (i := 6) (v := ?_) rfl (by kernel_rfl) (by kernel_rfl) (by kernel_rfl) (fun _ _ _ h => h) (Or.inl ⟨by kernel_rfl, ?_⟩) (by assumption) ?_
    rotate_left
    · (intro w hSw; (try dsimp only at hSw); go_simp)
      try with_reducible rfl
    try simp only [Act.put, List.setIfInBounds_toArray, List.set_cons_zero, List.set_cons_succ, List.getElem_toArray, List.getElem_cons_zero, List.getElem_cons_succ]
    refine wpAnyH_take (i := 7) (v := ?_) rfl (by kernel_rfl) (by kernel_rfl) (by kernel_rfl) (fun _ _ _ h => h) (Or.inl ⟨by kernel_rfl, ?_⟩) (by assumption) ?_
    rotate_left
    · (intro w hSw; (try dsimp only at hSw); go_simp)
      try with_reducible rfl
    try simp only [Act.put, List.setIfInBounds_toArray, List.set_cons_zero, List.set_cons_succ, List.getElem_toArray, List.getElem_cons_zero, List.getElem_cons_succ]
    refine wpAnyH_take (i := 8) (v := ?_) rfl (by kernel_rfl) (by kernel_rfl) (by kernel_rfl) (fun _ _ _ h => h) (Or.inl ⟨by kernel_rfl, ?_⟩) (by assumption) ?_
    rotate_left
    · (intro w hSw; (try dsimp only at hSw); go_simp)
      try with_reducible rfl
    try simp only [Act.put, List.setIfInBounds_toArray, List.set_cons_zero, List.set_cons_succ, List.getElem_toArray, List.getElem_cons_zero, List.getElem_cons_succ]
    refine wpAnyH_ready (rs := [3]) (by kernel_rfl) (by simp) ?_
    refine AllReadyH.cons rfl (fun K hK => ?_) AllReadyH.nil
    go_simp
    go_at_call 120
    refine (at120_h (mb := mb) (g := g) (c := c) (L := M) (p := p1) (HMg.out XA.drew ⟨HJ2.out.1.agree rfl, HJ2.out.2.drew⟩).1 HML.out hn HIN.out HKN.out HP1.out).mono ?_
    rintro e w4 ⟨rfl, HH4⟩
    have HB4 : Hid (RowB w4 g M ∧ Bt g W3 w4) := ⟨HJ2.out.1.agree (by rw [HH4.out.1]; rfl), HJ2.out.2.trans (.of_below (w := XA.drew) HH4.out.2)⟩
    try dsimp only
    refine hK.out _ _ ((fun h => ⟨h.2.1, h.2.2.1, h.2.2.2.1, h.2.2.2.2.1, h.2.2.2.2.2.2⟩) (HMg.out w4 HB4.out)) (fun hHeld => ?_)
    clear hK K
    try simp only [Act.put, List.setIfInBounds_toArray, List.set_cons_zero, List.set_cons_succ, List.getElem_toArray, List.getElem_cons_zero, List.getElem_cons_succ]
    refine wpAnyH_take (i := 4) (v := ?_) rfl (by kernel_rfl) (by kernel_rfl) (by kernel_rfl) (fun _ _ _ h => h) (Or.inl ⟨by kernel_rfl, ?_⟩) (by assumption) ?_
    rotate_left
    · (intro w hSw; (try dsimp only at hSw); go_simp)
      try with_reducible rfl
    try simp only [Act.put, List.setIfInBounds_toArray, List.set_cons_zero, List.set_cons_succ, List.getElem_toArray, List.getElem_cons_zero, List.getElem_cons_succ]
    refine wpAnyH_take (i := 5) (v := ?_) rfl (by kernel_rfl) (by kernel_rfl) (by kernel_rfl) (fun _ _ _ h => h) (Or.inl ⟨by kernel_rfl, ?_⟩) (by assumption) ?_
    rotate_left
    · (intro w hSw; (try dsimp only at hSw); go_simp)
      try with_reducible rfl
    try simp only [Act.put, List.setIfInBounds_toArray, List.set_cons_zero, List.set_cons_succ, List.getElem_toArray, List.getElem_cons_zero, List.getElem_cons_succ]
    refine wpAnyH_ready (rs := [9]) (by kernel_rfl) (by simp) ?_
    refine AllReadyH.cons rfl (fun K hK => ?_) AllReadyH.nil
    go_simp
    go_at_call 120
    refine (at120_h (mb := mb) (g := g) (c := c) (L := M) (p := p2) (HMg.out w4 HB4.out).1 HML.out hn HKN.out HJN.out HP2.out).mono ?_
    rintro e w5 ⟨rfl, HH5⟩
    have HB5 : Hid (RowB w5 g M ∧ Bt g W3 w5) := ⟨HB4.out.1.agree (by rw [HH5.out.1]), HB4.out.2.trans (.of_below HH5.out.2)⟩
    try dsimp only
    refine hK.out _ _ ((fun h => ⟨h.2.1, h.2.2.1, h.2.2.2.1, h.2.2.2.2.1, h.2.2.2.2.2.2⟩) (HMg.out w5 HB5.out)) (fun hHeld => ?_)
    clear hK K
    try simp only [Act.put, List.setIfInBounds_toArray, List.set_cons_zero, List.set_cons_succ, List.getElem_toArray, List.getElem_cons_zero, List.getElem_cons_succ]
    refine wpAnyH_take (i := 10) (v := ?_) rfl (by kernel_rfl) (by kernel_rfl) (by kernel_rfl) (fun _ _ _ h => h) (Or.inl ⟨by kernel_rfl, ?_⟩) (by assumption) ?_
    rotate_left
    · (intro w hSw; (try dsimp only at hSw); go_simp)
      try with_reducible rfl
    try simp only [Act.put, List.setIfInBounds_toArray, List.set_cons_zero, List.set_cons_succ, List.getElem_toArray, List.getElem_cons_zero, List.getElem_cons_succ]
    refine wpAnyH_take (i := 11) (v := ?_) rfl (by kernel_rfl) (by kernel_rfl) (by kernel_rfl) (fun _ _ _ h => h) (Or.inl ⟨by kernel_rfl, ?_⟩) (by assumption) ?_
    rotate_left
    · (intro w hSw; (try dsimp only at hSw); go_simp)
      try with_reducible rfl
    try simp only [Act.put, List.setIfInBounds_toArray, List.set_cons_zero, List.set_cons_succ, List.getElem_toArray, List.getElem_cons_zero, List.getElem_cons_succ]
    refine wpAnyH_ready (rs := [12]) (by kernel_rfl) (by simp) ?_
    refine AllReadyH.cons rfl (fun K hK => ?_) AllReadyH.nil
    go_simp
    go_at_call 192
    refine (add192_any _ _ _).mono ?_
    rintro e w6 ⟨rfl, hb6⟩
    have HB6 : Hid (RowB w6 g M ∧ Bt g W3 w6) := ⟨HB5.out.1.below hb6, HB5.out.2.trans (.of_below hb6)⟩
    have HSF : Hid (SameFrom W3.heap.size XA w6) := (SameFrom.below (w := XA.drew) HH4.out.2).trans ((SameFrom.below HH5.out.2).trans (SameFrom.below hb6))
    clear hb6
    try dsimp only
    refine hK.out _ _ ((fun h => ⟨h.2.1, h.2.2.1, h.2.2.2.1, h.2.2.2.2.1, h.2.2.2.2.2.2⟩) (HMg.out w6 HB6.out)) (fun hHeld => ?_)
    clear hK K
    try simp only [Act.put, List.setIfInBounds_toArray, List.set_cons_zero, List.set_cons_succ, List.getElem_toArray, List.getElem_cons_zero, List.getElem_cons_succ]
    refine wpAnyH_take (i := 13) (v := ?_) rfl (by kernel_rfl) (by kernel_rfl) (by kernel_rfl) (fun _ _ _ h => h) (Or.inl ⟨by kernel_rfl, ?_⟩) (by assumption) ?_
    rotate_left
    · (intro w hSw; (try dsimp only at hSw); go_simp)
      try with_reducible rfl
    try simp only [Act.put, List.setIfInBounds_toArray, List.set_cons_zero, List.set_cons_succ, List.getElem_toArray, List.getElem_cons_zero, List.getElem_cons_succ]
    refine wpAnyH_take (i := 14) (v := ?_) rfl (by kernel_rfl) (by kernel_rfl) (by kernel_rfl) (fun _ _ _ h => h) (Or.inl ⟨by kernel_rfl, ?_⟩) (by assumption) ?_
    rotate_left
    · (intro w hSw; (try dsimp only at hSw); go_simp)
      try with_reducible rfl
    try simp only [Act.put, List.setIfInBounds_toArray, List.set_cons_zero, List.set_cons_succ, List.getElem_toArray, List.getElem_cons_zero, List.getElem_cons_succ]
    refine wpAnyH_take (i := 15) (v := ?_) rfl (by kernel_rfl) (by kernel_rfl) (by kernel_rfl) (fun _ _ _ h => h) (Or.inl ⟨by kernel_rfl, ?_⟩) (by assumption) ?_
    rotate_left
    · (intro w hSw; (try dsimp only at hSw); go_simp)
      try with_reducible rfl
    try simp only [Act.put, List.setIfInBounds_toArray, List.set_cons_zero, List.set_cons_succ, List.getElem_toArray, List.getElem_cons_zero, List.getElem_cons_succ]
    refine wpAnyH_take (i := 16) (v := ?_) rfl (by kernel_rfl) (by kernel_rfl) (by kernel_rfl) (fun _ _ _ h => h) (Or.inl ⟨by kernel_rfl, ?_⟩) (by assumption) ?_
    rotate_left
    · (intro w hSw; (try dsimp only at hSw); go_simp)
      try with_reducible rfl
    try simp only [Act.put, List.setIfInBounds_toArray, List.set_cons_zero, List.set_cons_succ, List.getElem_toArray, List.getElem_cons_zero, List.getElem_cons_succ]
    refine wpAnyH_take (i := 17) (v := ?_) rfl (by kernel_rfl) (by kernel_rfl) (by kernel_rfl) (fun _ _ _ h => h) (Or.inl ⟨by kernel_rfl, ?_⟩) (by assumption) ?_
    rotate_left
    · (intro w hSw; (try dsimp only at hSw); go_simp)
      try with_reducible rfl
    try simp only [Act.put, List.setIfInBounds_toArray, List.set_cons_zero, List.set_cons_succ, List.getElem_toArray, List.getElem_cons_zero, List.getElem_cons_succ]
    refine wpAnyH_done (by kernel_rfl) ?_ _
    obtain ⟨b1, b2, b3, b4, b5, b6, b7, b8, b9⟩ := HMg.out w6 HB6.out
    have HM6 := Lib.hid b1
    clear b1 b4 b5
    have HAT := Lib.hid (at120_h (mb := mb) (g := g) (c := c) (L := M) (p := r) HM6.out HML.out hn HIN.out HJN.out HIJ.out)
    obtain ⟨s, hs⟩ : ∃ s, addB v1 v2 = s := ⟨_, rfl⟩
    rw [hs]
    have HS := Lib.hid hs
    clear hs
    by_cases hlt : s < v3
    · have hd : decide (s < v3) = true := by simpa using hlt
      have HX : Hid (relaxB v3 v1 v2 = s) := by rw [Hid, relaxB, HS.out, if_pos hlt]
      clear hlt
      gi_wp2_with fail
      refine ⟨fun hh => (by cases hh), CallsIn.mono (callsIn_wide.2 HAT.out) ?_⟩
      rintro e w7 ⟨rfl, HH7⟩
      have HB7 : Hid (RowB w7 g M ∧ Bt g W3 w7) := ⟨HB6.out.1.agree (by rw [HH7.out.1]), HB6.out.2.trans (.of_below HH7.out.2)⟩
      obtain ⟨y1, y2, y3, y4, y5, y6, y7, y8, y9⟩ := HMg.out w7 HB7.out
      have HM7 := Lib.hid y1
      clear y1 y3 y4 y5 y8
      have HAT7 := Lib.hid (at120_h (mb := mb) (g := g) (c := c) (L := M) (p := r) HM7.out HML.out hn HIN.out HJN.out HIJ.out)
      gi_wp2_with fail
      refine ⟨fun hh => (by cases hh), CallsIn.mono (callsIn_wide.2 HAT7.out) ?_⟩
      rintro e w8 ⟨rfl, HH8⟩
      have HB8 : Hid (RowB w8 g M ∧ Bt g W3 w8) := ⟨HB7.out.1.agree (by rw [HH8.out.1]), HB7.out.2.trans (.of_below HH8.out.2)⟩
      have hfz := HB8.out.1.frozen r
      have hfc := HB8.out.1.cell r HL3.out
      have hgl8 := HB8.out.1.lt
      have HSF8 : Hid (SameFrom W3.heap.size XA w8) := HSF.out.trans ((SameFrom.below HH7.out.2).trans (SameFrom.below HH8.out.2))
      gi_wp2_with fail
      refine ⟨SameFrom.kept (HSF8.out.trans ⟨by simp, fun b hb1 hb2 => setCell_other' _ _ _ _ _ (by have := HGL.out; have := HZ3.out; omega)⟩) HZX.out, ?_, HB8.out.2.set _ _⟩
      rw [HT.out, HX.out]
      exact HB8.out.1.set r HL3.out s
    · have hd : decide (s < v3) = false := by simpa using hlt
      have HX : Hid (relaxB v3 v1 v2 = v3) := by rw [Hid, relaxB, HS.out, if_neg hlt]
      clear hlt
      gi_wp2_with fail
      refine ⟨fun hh => (by cases hh), CallsIn.mono (callsIn_wide.2 HAT.out) ?_⟩
      rintro e w7 ⟨rfl, HH7⟩
      have HB7 : Hid (RowB w7 g M ∧ Bt g W3 w7) := ⟨HB6.out.1.agree (by rw [HH7.out.1]), HB6.out.2.trans (.of_below HH7.out.2)⟩
      obtain ⟨y1, y2, y3, y4, y5, y6, y7, y8, y9⟩ := HMg.out w7 HB7.out
      have HSF7 : Hid (SameFrom W3.heap.size XA w7) := HSF.out.trans (SameFrom.below HH7.out.2)
      clear y1 y2 y3 y4 y5 y7 y8
      gi_wp2_with fail
      refine ⟨HSF7.out.kept HZX.out, ?_, HB7.out.2⟩
      rw [HT.out, HX.out, ← HV3.out, set_same HL3.out]
      exact HB7.out.1
end Go.Proofs.YtockinpjfhhkoaaGreatDoor
