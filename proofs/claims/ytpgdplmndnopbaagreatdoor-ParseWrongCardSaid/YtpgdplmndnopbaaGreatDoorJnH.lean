/- ParseWrong walked: what is parsed may be; what is wrong is told where it is. -/
import Derived.Test.YtpgdplmndnopbaaGreatDoorJnE
import Derived.Test.YtpgdplmndnopbaaGreatDoorPrY
import Derived.Test.YtpgdplmndnopbaaGreatDoorJnI
namespace Go.Proofs.YtpgdplmndnopbaaGreatDoor
open Go.RowKit

theorem ParseIs.repH {names : List ByteArray} {s : ByteArray} {w : World} {v : Value} {at_ cd : Int} (h : ParseIs names s w v at_ cd) : ∃ (m n : Nat) (t : XT m n), XRep w w.heap.size m n t v := by
  cases h with
  | names => exact ⟨0, 1, _, noX_rep _ _⟩
  | cut => exact ⟨0, 1, _, noX_rep _ _⟩
  | wrong => exact ⟨0, 1, _, noX_rep _ _⟩
  | check => exact ⟨0, 1, _, noX_rep _ _⟩
  | ok _ _ m n t _ _ _ hv => exact ⟨m, n, t, hv⟩

set_option maxRecDepth 100000 in
set_option maxHeartbeats 16000000 in
theorem parseWrong6_any (l : List ByteArray) (nv : Value) (s o : ByteArray) (w : World) (hr : Rdy w) (hn : NRep w w.heap.size nv l) (hw : ∀ s ∈ l, s.size ≤ 281474976710656) :
    Calls Tryz.prog 6 #[nv, .string s, .string o] w fun e w' => e = .returned (.bool true) ∧ Below w.heap.size w w' := by
  obtain ⟨na, nc, rfl, _⟩ := id hn
  have HR := Lib.hid hr
  have HN := Lib.hid hn
  have HW := Lib.hid hw
  have HGN : Hid (∀ W, Below w.heap.size w W → Calls Tryz.prog 16 #[.slice na l.length nc] W fun e w' => e = .returned (.bool (greatN l)) ∧ w' = W) := fun W h => greatNames12_any l _ W (HN.out.up h h.size)
  clear hr hn hw
  go_enter Tryz.func6, Tryz.ntmps6
  go_wp2_with fail
  refine (alive23_any w HR.out).mono ?_
  rintro e w1 ⟨rfl, hb1⟩
  have HB1 := Lib.hid hb1
  clear hb1
  go_wp2_with fail
  refine (HGN.out w1 HB1.out).mono ?_
  rintro e w2 ⟨rfl, rfl⟩
  cases qn : greatN l with
  | true =>
    go_wp2_with fail
    all_goals go_ret
    all_goals exact ⟨rfl, HB1.out⟩
  | false =>
    have HSM : Hid (∀ s ∈ l, s.size ≤ 1048576) := greatN_not qn HW.out
    clear qn
    by_cases h4 : 4096 < s.size
    · have h4i : (4096 : Int) < (s.size : Int) := by omega
      clear h4
      go_wp2_with fail
      all_goals go_ret
      all_goals exact ⟨rfl, HB1.out⟩
    · by_cases h5 : 4096 < o.size
      · have h4i : ¬ (4096 : Int) < (s.size : Int) := by omega
        have h5i : (4096 : Int) < (o.size : Int) := by omega
        clear h4 h5
        go_wp2_with fail
        all_goals go_ret
        all_goals exact ⟨rfl, HB1.out⟩
      · have h4i : ¬ (4096 : Int) < (s.size : Int) := by omega
        have h5i : ¬ (4096 : Int) < (o.size : Int) := by omega
        have HS4 : Hid (s.size ≤ 4096) := by rw [Hid]; omega
        have HO4 : Hid (o.size ≤ 4096) := by rw [Hid]; omega
        clear h4 h5
        have HPARSE : Hid (∀ (s : ByteArray) (W : World), Below w.heap.size w W → Calls Tryz.prog 21 #[.slice na l.length nc, .string s] W fun e w' => ∃ v at_ code, e = .returned (.tuple #[v, .int .i64 at_, .int .i64 code]) ∧ ParseIs l s w' v at_ code ∧ Below W.heap.size W w') :=
          fun s W hb => parse21_any l _ HSM.out s W (HR.out.below hb) (HN.out.up hb hb.size)
        have HCUT : Hid (∀ (s : ByteArray) (W : World), Below w.heap.size w W → Calls Tryz.prog 26 #[.string s] W fun e w' =>
            (∃ v', e = .returned (.tuple #[v', .int .i64 (cutR s).2.1, .int .i64 (cutR s).2.2]) ∧ OwnT w' W.heap.size v' (cutR s).1) ∧ Below W.heap.size W w') := fun s W hb => cut9_any s W (HR.out.below hb)
        have HPA := Lib.hid (HPARSE.out s w2 HB1.out)
        go_wp2_with fail
        refine HPA.out.mono ?_
        rintro e w3 ⟨y, pl, cd, rfl, hp, hb3⟩
        have HB3 := Lib.hid (HB1.out.trans (hb3.mono HB1.out.size))
        have hz3 := HB3.out.size
        rcases hp.sorts HS4.out with ⟨rfl, rfl, m, n, t, hk, hx⟩ | ⟨hcd, rfl, p1, p2, hsort⟩
        · obtain ⟨k1, a1, l1, c1, b1, m1, d1, lo1, ls1, hi1, hs1, op1, rfl⟩ := hx.shape
          obtain ⟨w4, hw4⟩ : ∃ w4, w4 = w3.alloc (.cells #[.int .u8 k1, .slice a1 l1 c1, .slice b1 m1 d1, .int .i64 lo1, .bool ls1, .int .i64 hi1, .bool hs1, .bool op1] 28) := ⟨_, rfl⟩
          have hb34 : Below w3.heap.size w3 w4 := by rw [hw4]; exact (Below.refl _ _).alloc (Nat.le_refl _) _
          have HB4 : Hid (Below w.heap.size w w4) := HB3.out.trans (hb34.mono hz3)
          have hk4 : w4.heap[w3.heap.size]? = some (.cells #[.int .u8 k1, .slice a1 l1 c1, .slice b1 m1 d1, .int .i64 lo1, .bool ls1, .int .i64 hi1, .bool hs1, .bool op1] 28 (0, 0)) := by rw [hw4]; exact hp_top rfl
          have HCK := Lib.hid (check13_any l _ HSM.out m n t _ w4 (HR.out.below HB4.out) (HN.out.up HB4.out HB4.out.size) (hx.up hb34 hb34.size))
          rw [hk] at HCK
          have HW4 := Lib.hid hw4.symm
          have x0 := Lib.cell_of_heap hk4 0
          have x1 := Lib.cell_of_heap hk4 1
          have x2 := Lib.cell_of_heap hk4 2
          have x3 := Lib.cell_of_heap hk4 3
          have x4 := Lib.cell_of_heap hk4 4
          have x5 := Lib.cell_of_heap hk4 5
          have x6 := Lib.cell_of_heap hk4 6
          have x7 := Lib.cell_of_heap hk4 7
          simp only [List.getElem?_toArray, List.getElem?_cons_zero, List.getElem?_cons_succ] at x0 x1 x2 x3 x4 x5 x6 x7
          have hlt4 := (Array.getElem?_eq_some_iff.1 hk4).1
          clear hp hb3 hz3 hk hx hw4 hb34 hk4
          go_upto_region 5 with fail
          rw [HW4.out]
          clear HW4
          go_wp2_with fail
          refine HCK.out.mono ?_
          rintro e w5 ⟨rfl, hb5⟩
          have HB5 := Lib.hid (HB4.out.trans (hb5.mono HB4.out.size))
          clear hb5
          go_wp2_with fail
          all_goals go_ret
          all_goals exact ⟨rfl, HB5.out⟩
        · have q0 : (cd == 0) = false := by simpa using hcd
          have p1i : ¬ pl < 0 := by omega
          have p2i : ¬ ((s.size : Int) < pl) := by omega
          obtain ⟨w4, hw4⟩ : ∃ w4, w4 = w3.alloc (.cells #[.int .u8 0, .slice none 0 0, .slice none 0 0, .int .i64 0, .bool false, .int .i64 0, .bool false, .bool false] 28) := ⟨_, rfl⟩
          have hb34 : Below w3.heap.size w3 w4 := by rw [hw4]; exact (Below.refl _ _).alloc (Nat.le_refl _) _
          have HB4 : Hid (Below w.heap.size w w4) := HB3.out.trans (hb34.mono hz3)
          have hk4 : w4.heap[w3.heap.size]? = some (.cells #[.int .u8 0, .slice none 0 0, .slice none 0 0, .int .i64 0, .bool false, .int .i64 0, .bool false, .bool false] 28 (0, 0)) := by rw [hw4]; exact hp_top rfl
          have x0 := Lib.cell_of_heap hk4 0
          simp only [List.getElem?_toArray, List.getElem?_cons_zero] at x0
          have hlt4 := (Array.getElem?_eq_some_iff.1 hk4).1
          have HW4 := Lib.hid hw4.symm
          have HSORT := Lib.hid hsort
          have HPL := Lib.hid (And.intro p1 p2)
          have HCD := Lib.hid hcd
          clear hp hb3 hz3 hw4 hb34 hk4 hsort p1 p2 hcd
          unfold noX
          go_upto_region 5 with fail
          rw [HW4.out]
          clear HW4
          rcases HSORT.out with ⟨c1, c2⟩ | ⟨c1, c2⟩
          · have q1 : (cd != 170) = true := by simpa using c1
            have q2 : (cd != 171) = true := by simpa using c2
            clear c1 c2
            go_wp2_with fail
            all_goals go_ret
            all_goals exact ⟨rfl, HB4.out⟩
          · by_cases hlt : pl < s.size
            · have hge : ¬ (pl ≥ (s.size : Int)) := by omega
              obtain ⟨k, hkp, hks, hwr⟩ := c2 hlt
              subst hkp
              have hne1 : ¬ ((k : Int) ≥ (s.size : Int)) := by omega
              have HKS := Lib.hid hks
              have HWR := Lib.hid hwr
              have hsl1 := slice_pre s k (Nat.le_of_lt hks)
              have hsl2 := slice_post s k (Nat.le_of_lt hks)
              have HPP := Lib.hid (HPARSE.out (byt (s.data.toList.take k)) w4 HB4.out)
              have HC1 := Lib.hid c1
              clear hlt c2 hks hwr
              have hc12 : ((cd != 170) && (cd != 171)) = false := by rcases c1 with rfl | rfl <;> rfl
              have key : (cd != 170) = false ∨ (cd != 170) = true ∧ (cd != 171) = false := by rcases c1 with rfl | rfl <;> simp
              clear c1 hc12
              have hreg : ∃ d : Bool, d = true := ⟨true, rfl⟩
              clear hreg
              rcases key with q1 | ⟨q1, q2⟩
              all_goals
                go_wp2_with fail
                refine HPP.out.mono ?_
                rintro e w5 ⟨y5, tq, f, rfl, hp5, hb5⟩
                obtain ⟨g1, g2⟩ := HWR.out.1 _ _ _ _ hp5
                obtain ⟨M5, N5, t5, hx5⟩ := hp5.repH
                obtain ⟨k5, a5, l5, c5, b5, m5, d5, lo5, ls5, hi5, hs5, op5, rfl⟩ := hx5.shape
                obtain ⟨w6, hw6⟩ : ∃ w6, w6 = w5.alloc (.cells #[.int .u8 k5, .slice a5 l5 c5, .slice b5 m5 d5, .int .i64 lo5, .bool ls5, .int .i64 hi5, .bool hs5, .bool op5] 28) := ⟨_, rfl⟩
                have hb56 : Below w5.heap.size w5 w6 := by rw [hw6]; exact (Below.refl _ _).alloc (Nat.le_refl _) _
                have HB6 : Hid (Below w.heap.size w w6) := (HB4.out.trans (hb5.mono HB4.out.size)).trans (hb56.mono (Nat.le_trans HB4.out.size hb5.size))
                have HW6 := Lib.hid hw6.symm
                have q3 : (f == 171) = false := by simpa using g1
                have HG2 := Lib.hid g2
                clear hp5 hb5 hx5 hw6 hb56 g1 g2
                go_upto_region 12 with fail
                rw [HW6.out]
                clear HW6
                clear x0 hlt4
                have HCP := Lib.hid (HCUT.out (byt (s.data.toList.drop k)) w6 HB6.out)
                obtain ⟨tk, tks, hcp, hoth⟩ := HWR.out.2
                have hcr : cutR (byt (s.data.toList.drop k)) = (tk :: tks, 0, 0) := cutR_of (by rw [byt_list]; exact hcp) (by rw [byt_size, List.length_drop, size_list]; have := HS4.out; omega)
                rw [hcr] at HCP
                have HCP : Hid (Calls Tryz.prog 26 #[.string (byt (s.data.toList.drop k))] w6 fun e w' => (∃ v', e = .returned (.tuple #[v', .int .i64 0, .int .i64 0]) ∧ OwnT w' w6.heap.size v' (tk :: tks)) ∧ Below w6.heap.size w6 w') := HCP
                have HOTH := Lib.hid hoth
                have HTK : Hid (tk.text.size ≤ 18) := tok_short hcp tk (by simp)
                clear hcp hoth hcr
                by_cases hf : f = 170
                · obtain rfl : tq = k := HG2.out hf
                  subst hf
                  go_wp2_with fail
                  refine HCP.out.mono ?_
                  rintro e w7 ⟨⟨v7, rfl, hown⟩, hb7⟩
                  have HB67 := Lib.hid hb7
                  have HB7 : Hid (Below w.heap.size w w7) := HB6.out.trans (hb7.mono HB6.out.size)
                  obtain ⟨g, cap, rfl, hBg, hgl, hT, _⟩ := hown.at (by simp)
                  obtain ⟨_, k7, _⟩ := hT 0 (by simp)
                  have HK7 : Hid (w7.cell? ⟨g, 1, none⟩ = some (.string tk.text)) := by rw [Hid]; simpa using k7
                  have HG7 := Lib.hid hgl
                  clear hb7 hown hT k7 hBg hgl
                  go_wp2_with fail
                  refine (HCUT.out o w7 HB7.out).mono ?_
                  rintro e w8 ⟨⟨v8, rfl, hown8⟩, hb8⟩
                  have HB8 : Hid (Below w.heap.size w w8) := HB7.out.trans (hb8.mono HB7.out.size)
                  have HK8 : Hid (w8.cell? ⟨g, 1, none⟩ = some (.string tk.text)) := (hb8.cell (p := ⟨g, 1, none⟩) HG7.out).trans HK7.out
                  have HG8 : Hid (g < w8.heap.size) := Nat.lt_of_lt_of_le HG7.out hb8.size
                  obtain ⟨hc, hhc⟩ : ∃ hc, hc = (cutR o).2.2 := ⟨_, rfl⟩
                  rw [← hhc]
                  have HHC := Lib.hid hhc
                  have k8 := HK8.out
                  clear hb8 hown8 hhc
                  have hlen0 : (((tks.length : Nat) : Int) + 1 == 0) = false := beq_eq_false_iff_ne.2 (by omega)
                  have hidx : (0 : Int) < ((tks.length : Nat) : Int) + 1 := by omega
                  by_cases hc0 : hc = 0
                  · subst hc0
                    have hk4 : (k : Int) ≤ 4096 := by have := HS4.out; have := HKS.out; omega
                    have htk : (tk.text.size : Int) ≤ 18 := by have := HTK.out; omega
                    have ho4 : (o.size : Int) ≤ 4096 := by have := HO4.out; omega
                    have ha1 : wrap64 ((k : Int) + tk.text.size) = (k : Int) + tk.text.size := by simp only [wrap64]; omega
                    have ha2 : wrap64 ((k : Int) + tk.text.size + 1) = (k : Int) + tk.text.size + 1 := by simp only [wrap64]; omega
                    have ha3 : wrap64 ((k : Int) + tk.text.size + 1 + o.size) = (k : Int) + tk.text.size + 1 + o.size := by simp only [wrap64]; omega
                    by_cases h9 : 4096 < k + tk.text.size + 1 + o.size
                    · have h9i : (4096 : Int) < (k : Int) + tk.text.size + 1 + o.size := by omega
                      clear h9
                      go_wp2_with fail
                      all_goals go_ret
                      all_goals exact ⟨rfl, HB8.out⟩
                    · have h9i : ¬ (4096 : Int) < (k : Int) + tk.text.size + 1 + o.size := by omega
                      have H9 := Lib.hid h9
                      clear h9
                      go_wp2_with fail
                      have HSZ : Hid ((byt (s.data.toList.take k ++ (tk.text.data.toList ++ 32 :: o.data.toList))).size ≤ 4096) := by
                        have h9 := H9.out
                        have h1 := size_list tk.text
                        have h2 := size_list o
                        have h3 := HKS.out
                        have h4 := size_list s
                        rw [Hid, byt_size]
                        simp
                        omega
                      have hs1 : ((byt (s.data.toList.take k)).size : Int) ≤ 8388608 := by
                        rw [byt_size, List.length_take, size_list]
                        have := HS4.out
                        omega
                      have hs2 : (tk.text.size : Int) ≤ 8388608 := by omega
                      have hs3 : (((byt (s.data.toList.take k) ++ tk.text).size : Nat) : Int) ≤ 8388608 := by
                        rw [ByteArray.size_append, byt_size, List.length_take, size_list]
                        have := HS4.out
                        omega
                      have hs4 : (((byt (s.data.toList.take k) ++ tk.text ++ ⟨#[32]⟩).size : Nat) : Int) ≤ 8388608 := by
                        rw [ByteArray.size_append, ByteArray.size_append, byt_size, List.length_take, size_list]
                        have := HS4.out
                        have : (⟨#[32]⟩ : ByteArray).size = 1 := rfl
                        omega
                      have hsz32 : (⟨#[32]⟩ : ByteArray).size = 1 := rfl
                      have hsn1 : (byt (s.data.toList.take k)).size ≤ 4096 := by
                        rw [byt_size, List.length_take, size_list]
                        have := HS4.out
                        omega
                      have hsn2 : tk.text.size ≤ 18 := HTK.out
                      have hsn3 : o.size ≤ 4096 := HO4.out
                      have hs5 : (o.size : Int) ≤ 8388608 := by omega
                      have HCAT : Hid (byt (s.data.toList.take k) ++ tk.text ++ ⟨#[32]⟩ ++ o = byt (s.data.toList.take k ++ (tk.text.data.toList ++ 32 :: o.data.toList))) := by
                        have e1 : tk.text = byt tk.text.data.toList := by simp [byt]
                        have e2 : (⟨#[32]⟩ : ByteArray) = byt [32] := rfl
                        have e3 : o = byt o.data.toList := by simp [byt]
                        have key : byt (s.data.toList.take k) ++ byt tk.text.data.toList ++ byt [32] ++ byt o.data.toList = byt (s.data.toList.take k ++ (tk.text.data.toList ++ 32 :: o.data.toList)) := by
                          rw [byt_app, byt_app, byt_app]
                          simp
                        rw [← e1, ← e2, ← e3] at key
                        exact key
                      refine wp_region_held_drew (S := fun W => W.cell? ⟨g, 1, none⟩ = some (.string tk.text)) (by kernel_rfl) k8 (fun hHeld => ?_)
                      refine wpAnyH_take (i := 0) (v := ?_) rfl (by kernel_rfl) (by kernel_rfl) (by kernel_rfl) (fun _ _ _ h => h) (Or.inl ⟨by kernel_rfl, ?_⟩) (by assumption) ?_
                      rotate_left
                      · (intro w hSw; (try dsimp only at hSw); go_simp)
                        with_reducible rfl
                      try simp only [Act.put, List.setIfInBounds_toArray]
                      refine wpAnyH_take (i := 1) (v := ?_) rfl (by kernel_rfl) (by kernel_rfl) (by kernel_rfl) (fun _ _ _ h => h) (Or.inl ⟨by kernel_rfl, ?_⟩) (by assumption) ?_
                      rotate_left
                      · (intro w hSw; (try dsimp only at hSw); go_simp)
                        with_reducible rfl
                      try simp only [Act.put]
                      refine wpAnyH_take (i := 2) (v := ?_) rfl (by kernel_rfl) (by kernel_rfl) (by kernel_rfl) (fun _ _ _ h => h) (Or.inl ⟨by kernel_rfl, ?_⟩) (by assumption) ?_
                      rotate_left
                      · (intro w hSw; (try dsimp only at hSw); go_simp)
                        with_reducible rfl
                      try simp only [Act.put]
                      refine wpAnyH_take (i := 3) (v := ?_) rfl (by kernel_rfl) (by kernel_rfl) (by kernel_rfl) (fun _ _ _ h => h) (Or.inl ⟨by kernel_rfl, ?_⟩) (by assumption) ?_
                      rotate_left
                      · (intro w hSw; (try dsimp only at hSw); go_simp)
                        with_reducible rfl
                      try simp only [Act.put]
                      refine wpAnyH_take (i := 4) (v := ?_) rfl (by kernel_rfl) (by kernel_rfl) (by kernel_rfl) (fun _ _ _ h => h) (Or.inl ⟨by kernel_rfl, ?_⟩) (by assumption) ?_
                      rotate_left
                      · (intro w hSw; (try dsimp only at hSw); go_simp)
                        with_reducible rfl
                      try simp only [Act.put]
                      refine wpAnyH_take (i := 5) (v := ?_) rfl (by kernel_rfl) (by kernel_rfl) (by kernel_rfl) (fun _ _ _ h => h) (Or.inl ⟨by kernel_rfl, ?_⟩) (by assumption) ?_
                      rotate_left
                      · (intro w hSw; (try dsimp only at hSw); go_simp)
                        with_reducible rfl
                      try simp only [Act.put]
                      refine wpAnyH_take (i := 6) (v := ?_) rfl (by kernel_rfl) (by kernel_rfl) (by kernel_rfl) (fun _ _ _ h => h) (Or.inl ⟨by kernel_rfl, ?_⟩) (by assumption) ?_
                      rotate_left
                      · (intro w hSw; (try dsimp only at hSw); go_simp)
                        with_reducible rfl
                      try simp only [Act.put]
                      refine wpAnyH_take (i := 7) (v := ?_) rfl (by kernel_rfl) (by kernel_rfl) (by kernel_rfl) (fun _ _ _ h => h) (Or.inl ⟨by kernel_rfl, ?_⟩) (by assumption) ?_
                      rotate_left
                      · (intro w hSw; (try dsimp only at hSw); go_simp)
                        with_reducible rfl
                      try simp only [Act.put]
                      refine wpAnyH_take (i := 8) (v := ?_) rfl (by kernel_rfl) (by kernel_rfl) (by kernel_rfl) (fun _ _ _ h => h) (Or.inl ⟨by kernel_rfl, ?_⟩) (by assumption) ?_
                      rotate_left
                      · (intro w hSw; (try dsimp only at hSw); go_simp)
                        first | rw [if_neg (by (try simp only [ByteArray.size_append]); (try simp only [hsz32]); omega)] | with_reducible rfl
                      try simp only [Act.put]
                      refine wpAnyH_take (i := 9) (v := ?_) rfl (by kernel_rfl) (by kernel_rfl) (by kernel_rfl) (fun _ _ _ h => h) (Or.inl ⟨by kernel_rfl, ?_⟩) (by assumption) ?_
                      rotate_left
                      · (intro w hSw; (try dsimp only at hSw); go_simp)
                        first | rw [if_neg (by (try simp only [ByteArray.size_append]); (try simp only [hsz32]); omega)] | with_reducible rfl
                      try simp only [Act.put]
                      refine wpAnyH_take (i := 10) (v := ?_) rfl (by kernel_rfl) (by kernel_rfl) (by kernel_rfl) (fun _ _ _ h => h) (Or.inl ⟨by kernel_rfl, ?_⟩) (by assumption) ?_
                      rotate_left
                      · (intro w hSw; (try dsimp only at hSw); go_simp)
                        with_reducible rfl
                      try simp only [Act.put]
                      refine wpAnyH_take (i := 11) (v := ?_) rfl (by kernel_rfl) (by kernel_rfl) (by kernel_rfl) (fun _ _ _ h => h) (Or.inl ⟨by kernel_rfl, ?_⟩) (by assumption) ?_
                      rotate_left
                      · (intro w hSw; (try dsimp only at hSw); go_simp)
                        first | rw [if_neg (by (try simp only [ByteArray.size_append]); (try simp only [hsz32]); omega)] | with_reducible rfl
                      try simp only [Act.put]
                      refine wpAnyH_ready (rs := [12, 17]) (by kernel_rfl) (by simp) ?_
                      refine AllReadyH.cons rfl (fun K0 hK => ?_) (AllReadyH.cons rfl (fun K0 hK => ?_) AllReadyH.nil)
                      · go_simp
                        rw [HCAT.out]
                        refine (HPARSE.out (byt (s.data.toList.take k ++ (tk.text.data.toList ++ 32 :: o.data.toList))) w8.drew HB8.out.drew).mono ?_
                        rintro e w9 ⟨v9, at9, cd9, rfl, hp9, hb9⟩
                        obtain ⟨M9, N9, t9, hx9⟩ := hp9.repH
                        obtain ⟨k9, a9, l9, c9, b9, m9, d9, lo9, ls9, hi9, hs9, op9, rfl⟩ := hx9.shape
                        obtain ⟨hcd9, hat9⟩ := HOTH.out o.data.toList _ (cutR_ok HHC.out.symm).2.1 _ _ _ _ HSZ.out hp9
                        subst hcd9 hat9
                        have HB9 : Hid (Below w.heap.size w w9) := (HB8.out.drew).trans (hb9.mono (HB8.out.drew).size)
                        have hS9 : w9.cell? ⟨g, 1, none⟩ = some (.string tk.text) := (hb9.cell (p := ⟨g, 1, none⟩) HG8.out).trans HK8.out
                        have HG9 : Hid (g < w9.heap.size) := Nat.lt_of_lt_of_le HG8.out hb9.size
                        clear hp9 hx9 hb9
                        dsimp only
                        refine hK.out _ _ hS9 (fun _ => ?_)
                        clear hK K0
                        try simp only [Act.put, List.setIfInBounds_toArray, List.set_cons_zero, List.set_cons_succ]
                        refine wpAnyH_take (i := 13) (v := ?_) rfl (by kernel_rfl) (by kernel_rfl) (by kernel_rfl) (fun _ _ _ h => h) (Or.inl ⟨by kernel_rfl, ?_⟩) (by assumption) ?_
                        rotate_left
                        · (intro w hSw; (try dsimp only at hSw); go_simp)
                          with_reducible rfl
                        try simp only [Act.put, List.setIfInBounds_toArray]
                        refine wpAnyH_take (i := 14) (v := ?_) rfl (by kernel_rfl) (by kernel_rfl) (by kernel_rfl) (fun _ _ _ h => h) (Or.inl ⟨by kernel_rfl, ?_⟩) (by assumption) ?_
                        rotate_left
                        · (intro w hSw; (try dsimp only at hSw); go_simp)
                          with_reducible rfl
                        try simp only [Act.put]
                        refine wpAnyH_take (i := 15) (v := ?_) rfl (by kernel_rfl) (by kernel_rfl) (by kernel_rfl) (fun _ _ _ h => h) (Or.inl ⟨by kernel_rfl, ?_⟩) (by assumption) ?_
                        rotate_left
                        · (intro w hSw; (try dsimp only at hSw); go_simp)
                          with_reducible rfl
                        try simp only [Act.put]
                        refine wpAnyH_take (i := 16) (v := ?_) rfl (by kernel_rfl) (by kernel_rfl) (by kernel_rfl) (fun _ _ _ h => h) (Or.inl ⟨by kernel_rfl, ?_⟩) (by assumption) ?_
                        rotate_left
                        · (intro w hSw; (try dsimp only at hSw); go_simp)
                          with_reducible rfl
                        try simp only [Act.put]
                        refine wpAnyH_ready (rs := [17]) (by kernel_rfl) (by simp) ?_
                        refine AllReadyH.cons rfl (fun K0 hK => ?_) AllReadyH.nil
                        go_simp
                        obtain ⟨wA, hwA⟩ : ∃ wA, wA = w9.alloc (.cells #[.int .u8 0, .slice none 0 0, .slice none 0 0, .int .i64 0, .bool false, .int .i64 0, .bool false, .bool false] 28) := ⟨_, rfl⟩
                        have HBA : Hid (Below w.heap.size w wA) := by rw [Hid, hwA]; exact HB9.out.alloc HB9.out.size _
                        have hsA : wA.cell? ⟨g, 1, none⟩ = some (.string tk.text) := by rw [hwA]; exact (((Below.refl w9.heap.size w9).alloc (Nat.le_refl _) _).cell (p := ⟨g, 1, none⟩) HG9.out).trans hS9
                        have HKA : Hid (wA.heap[w9.heap.size]? = some (.cells #[.int .u8 0, .slice none 0 0, .slice none 0 0, .int .i64 0, .bool false, .int .i64 0, .bool false, .bool false] 28 (0, 0))) := by rw [Hid, hwA]; exact hp_top rfl
                        have HKB : Hid (w.heap.size ≤ w9.heap.size) := HB9.out.size
                        have HGB : Hid (g ≠ w9.heap.size) := by have := HG9.out; rw [Hid]; omega
                        rw [← hwA]
                        clear hwA
                        refine hK.out _ _ hsA (fun _ => ?_)
                        clear hK K0
                        try simp only [Act.put, List.setIfInBounds_toArray, List.set_cons_zero, List.set_cons_succ]
                        have hkb := HKA.out
                        have e0 := Lib.cell_of_heap hkb 0
                        have f0 := Lib.frozen_of_heap hkb 0
                        have e1 := Lib.cell_of_heap hkb 1
                        have f1 := Lib.frozen_of_heap hkb 1
                        have e2 := Lib.cell_of_heap hkb 2
                        have f2 := Lib.frozen_of_heap hkb 2
                        have e3 := Lib.cell_of_heap hkb 3
                        have f3 := Lib.frozen_of_heap hkb 3
                        have e4 := Lib.cell_of_heap hkb 4
                        have f4 := Lib.frozen_of_heap hkb 4
                        have e5 := Lib.cell_of_heap hkb 5
                        have f5 := Lib.frozen_of_heap hkb 5
                        have e6 := Lib.cell_of_heap hkb 6
                        have f6 := Lib.frozen_of_heap hkb 6
                        have e7 := Lib.cell_of_heap hkb 7
                        have f7 := Lib.frozen_of_heap hkb 7
                        simp only [List.getElem?_toArray, List.getElem?_cons_zero, List.getElem?_cons_succ] at e0 e1 e2 e3 e4 e5 e6 e7
                        have hltb := (Array.getElem?_eq_some_iff.1 hkb).1
                        clear hkb
                        refine wpAnyH_ready (rs := [18]) (by kernel_rfl) (by simp) ?_
                        refine AllReadyH.cons rfl (fun K0 hK => ?_) AllReadyH.nil
                        go_simp
                        obtain ⟨wE, hwE⟩ : ∃ wE, wE = set8 wA w9.heap.size (.int .u8 k9) (.slice a9 l9 c9) (.slice b9 m9 d9) (.int .i64 lo9) (.bool ls9) (.int .i64 hi9) (.bool hs9) (.bool op9) := ⟨_, rfl⟩
                        have HBE : Hid (Below w.heap.size w wE) := by rw [Hid, hwE]; exact Below.set8 HBA.out HKB.out _ _ _ _ _ _ _ _
                        have hsE : wE.cell? ⟨g, 1, none⟩ = some (.string tk.text) := by
                          have : wE.heap[g]? = wA.heap[g]? := by rw [hwE]; exact set8_other _ _ _ _ _ _ _ _ _ _ _ HGB.out
                          unfold World.cell? at *
                          simp only [this]
                          exact hsA
                        unfold set8 at hwE
                        rw [← hwE]
                        clear hwE e0 e1 e2 e3 e4 e5 e6 e7 f0 f1 f2 f3 f4 f5 f6 f7 hltb
                        refine hK.out _ _ hsE (fun _ => ?_)
                        clear hK K0
                        try simp only [Act.put, List.setIfInBounds_toArray, List.set_cons_zero, List.set_cons_succ]
                        refine wpAnyH_take (i := 19) (v := ?_) rfl (by kernel_rfl) (by kernel_rfl) (by kernel_rfl) (fun _ _ _ h => h) (Or.inl ⟨by kernel_rfl, ?_⟩) (by assumption) ?_
                        rotate_left
                        · (intro w hSw; (try dsimp only at hSw); go_simp)
                          with_reducible rfl
                        try simp only [Act.put, List.setIfInBounds_toArray]
                        refine wpAnyH_take (i := 20) (v := ?_) rfl (by kernel_rfl) (by kernel_rfl) (by kernel_rfl) (fun _ _ _ h => h) (Or.inl ⟨by kernel_rfl, ?_⟩) (by assumption) ?_
                        rotate_left
                        · (intro w hSw; (try dsimp only at hSw); go_simp)
                          with_reducible rfl
                        try simp only [Act.put]
                        refine wpAnyH_done (by kernel_rfl) ?_ _
                        go_wp2_with fail
                        all_goals go_ret
                        all_goals exact ⟨rfl, HBE.out⟩
                      · go_simp
                        obtain ⟨wA, hwA⟩ : ∃ wA, wA = (w8.alloc (.cells #[.int .u8 0, .slice none 0 0, .slice none 0 0, .int .i64 0, .bool false, .int .i64 0, .bool false, .bool false] 28)).drew := ⟨_, rfl⟩
                        have HBA : Hid (Below w.heap.size w wA) := by rw [Hid, hwA]; exact (HB8.out.alloc HB8.out.size _).drew
                        have hsA : wA.cell? ⟨g, 1, none⟩ = some (.string tk.text) := by rw [hwA]; exact (((Below.refl w8.heap.size w8).alloc (Nat.le_refl _) _).drew.cell (p := ⟨g, 1, none⟩) HG8.out).trans HK8.out
                        have HKA : Hid (wA.heap[w8.heap.size]? = some (.cells #[.int .u8 0, .slice none 0 0, .slice none 0 0, .int .i64 0, .bool false, .int .i64 0, .bool false, .bool false] 28 (0, 0))) := by rw [Hid, hwA, drewh]; exact hp_top rfl
                        have HGA : Hid (g < wA.heap.size) := by rw [Hid, hwA]; exact Nat.lt_of_lt_of_le HG8.out ((Below.refl w8.heap.size w8).alloc (Nat.le_refl _) _).drew.size
                        have HKB : Hid (w.heap.size ≤ w8.heap.size) := HB8.out.size
                        have HGB : Hid (g ≠ w8.heap.size) := by have := HG8.out; rw [Hid]; omega
                        first | rw [← hwA] | skip
                        clear hwA
                        refine hK.out _ _ hsA (fun _ => ?_)
                        clear hK K0
                        try simp only [Act.put, List.setIfInBounds_toArray, List.set_cons_zero, List.set_cons_succ]
                        refine wpAnyH_ready (rs := [12]) (by kernel_rfl) (by simp) ?_
                        refine AllReadyH.cons rfl (fun K0 hK => ?_) AllReadyH.nil
                        go_simp
                        rw [HCAT.out]
                        refine (HPARSE.out (byt (s.data.toList.take k ++ (tk.text.data.toList ++ 32 :: o.data.toList))) wA HBA.out).mono ?_
                        rintro e w9 ⟨v9, at9, cd9, rfl, hp9, hb9⟩
                        obtain ⟨M9, N9, t9, hx9⟩ := hp9.repH
                        obtain ⟨k9, a9, l9, c9, b9, m9, d9, lo9, ls9, hi9, hs9, op9, rfl⟩ := hx9.shape
                        obtain ⟨hcd9, hat9⟩ := HOTH.out o.data.toList _ (cutR_ok HHC.out.symm).2.1 _ _ _ _ HSZ.out hp9
                        subst hcd9 hat9
                        have HB9 : Hid (Below w.heap.size w w9) := (HBA.out).trans (hb9.mono (HBA.out).size)
                        have hS9 : w9.cell? ⟨g, 1, none⟩ = some (.string tk.text) := (hb9.cell (p := ⟨g, 1, none⟩) HGA.out).trans hsA
                        have HG9 : Hid (g < w9.heap.size) := Nat.lt_of_lt_of_le HGA.out hb9.size
                        have hk9 := (hb9.block _ (Array.getElem?_eq_some_iff.1 HKA.out).1).trans HKA.out
                        have HK9 := Lib.hid hk9
                        clear hp9 hx9 hb9 hk9
                        dsimp only
                        refine hK.out _ _ hS9 (fun _ => ?_)
                        clear hK K0
                        try simp only [Act.put, List.setIfInBounds_toArray, List.set_cons_zero, List.set_cons_succ]
                        refine wpAnyH_take (i := 13) (v := ?_) rfl (by kernel_rfl) (by kernel_rfl) (by kernel_rfl) (fun _ _ _ h => h) (Or.inl ⟨by kernel_rfl, ?_⟩) (by assumption) ?_
                        rotate_left
                        · (intro w hSw; (try dsimp only at hSw); go_simp)
                          with_reducible rfl
                        try simp only [Act.put, List.setIfInBounds_toArray]
                        refine wpAnyH_take (i := 14) (v := ?_) rfl (by kernel_rfl) (by kernel_rfl) (by kernel_rfl) (fun _ _ _ h => h) (Or.inl ⟨by kernel_rfl, ?_⟩) (by assumption) ?_
                        rotate_left
                        · (intro w hSw; (try dsimp only at hSw); go_simp)
                          with_reducible rfl
                        try simp only [Act.put]
                        refine wpAnyH_take (i := 15) (v := ?_) rfl (by kernel_rfl) (by kernel_rfl) (by kernel_rfl) (fun _ _ _ h => h) (Or.inl ⟨by kernel_rfl, ?_⟩) (by assumption) ?_
                        rotate_left
                        · (intro w hSw; (try dsimp only at hSw); go_simp)
                          with_reducible rfl
                        try simp only [Act.put]
                        refine wpAnyH_take (i := 16) (v := ?_) rfl (by kernel_rfl) (by kernel_rfl) (by kernel_rfl) (fun _ _ _ h => h) (Or.inl ⟨by kernel_rfl, ?_⟩) (by assumption) ?_
                        rotate_left
                        · (intro w hSw; (try dsimp only at hSw); go_simp)
                          with_reducible rfl
                        try simp only [Act.put]
                        have hkb := HK9.out
                        have e0 := Lib.cell_of_heap hkb 0
                        have f0 := Lib.frozen_of_heap hkb 0
                        have e1 := Lib.cell_of_heap hkb 1
                        have f1 := Lib.frozen_of_heap hkb 1
                        have e2 := Lib.cell_of_heap hkb 2
                        have f2 := Lib.frozen_of_heap hkb 2
                        have e3 := Lib.cell_of_heap hkb 3
                        have f3 := Lib.frozen_of_heap hkb 3
                        have e4 := Lib.cell_of_heap hkb 4
                        have f4 := Lib.frozen_of_heap hkb 4
                        have e5 := Lib.cell_of_heap hkb 5
                        have f5 := Lib.frozen_of_heap hkb 5
                        have e6 := Lib.cell_of_heap hkb 6
                        have f6 := Lib.frozen_of_heap hkb 6
                        have e7 := Lib.cell_of_heap hkb 7
                        have f7 := Lib.frozen_of_heap hkb 7
                        simp only [List.getElem?_toArray, List.getElem?_cons_zero, List.getElem?_cons_succ] at e0 e1 e2 e3 e4 e5 e6 e7
                        have hltb := (Array.getElem?_eq_some_iff.1 hkb).1
                        clear hkb
                        refine wpAnyH_ready (rs := [18]) (by kernel_rfl) (by simp) ?_
                        refine AllReadyH.cons rfl (fun K0 hK => ?_) AllReadyH.nil
                        go_simp
                        obtain ⟨wE, hwE⟩ : ∃ wE, wE = set8 w9 w8.heap.size (.int .u8 k9) (.slice a9 l9 c9) (.slice b9 m9 d9) (.int .i64 lo9) (.bool ls9) (.int .i64 hi9) (.bool hs9) (.bool op9) := ⟨_, rfl⟩
                        have HBE : Hid (Below w.heap.size w wE) := by rw [Hid, hwE]; exact Below.set8 HB9.out HKB.out _ _ _ _ _ _ _ _
                        have hsE : wE.cell? ⟨g, 1, none⟩ = some (.string tk.text) := by
                          have : wE.heap[g]? = w9.heap[g]? := by rw [hwE]; exact set8_other _ _ _ _ _ _ _ _ _ _ _ HGB.out
                          unfold World.cell? at *
                          simp only [this]
                          exact hS9
                        unfold set8 at hwE
                        rw [← hwE]
                        clear hwE e0 e1 e2 e3 e4 e5 e6 e7 f0 f1 f2 f3 f4 f5 f6 f7 hltb
                        refine hK.out _ _ hsE (fun _ => ?_)
                        clear hK K0
                        try simp only [Act.put, List.setIfInBounds_toArray, List.set_cons_zero, List.set_cons_succ]
                        refine wpAnyH_take (i := 19) (v := ?_) rfl (by kernel_rfl) (by kernel_rfl) (by kernel_rfl) (fun _ _ _ h => h) (Or.inl ⟨by kernel_rfl, ?_⟩) (by assumption) ?_
                        rotate_left
                        · (intro w hSw; (try dsimp only at hSw); go_simp)
                          with_reducible rfl
                        try simp only [Act.put, List.setIfInBounds_toArray]
                        refine wpAnyH_take (i := 20) (v := ?_) rfl (by kernel_rfl) (by kernel_rfl) (by kernel_rfl) (fun _ _ _ h => h) (Or.inl ⟨by kernel_rfl, ?_⟩) (by assumption) ?_
                        rotate_left
                        · (intro w hSw; (try dsimp only at hSw); go_simp)
                          with_reducible rfl
                        try simp only [Act.put]
                        refine wpAnyH_done (by kernel_rfl) ?_ _
                        go_wp2_with fail
                        all_goals go_ret
                        all_goals exact ⟨rfl, HBE.out⟩
                  · have q9 : (hc != 0) = true := by simpa using hc0
                    clear hc0
                    go_wp2_with fail
                    all_goals go_ret
                    all_goals exact ⟨rfl, HB8.out⟩
                · have q4 : (f == 170) = false := by simpa using hf
                  go_wp2_with fail
                  refine HCP.out.mono ?_
                  rintro e w7 ⟨⟨v7, rfl, hown⟩, hb7⟩
                  have HB67 := Lib.hid hb7
                  have HB7 : Hid (Below w.heap.size w w7) := HB6.out.trans (hb7.mono HB6.out.size)
                  obtain ⟨g, cap, rfl, hBg, hgl, hT, _⟩ := hown.at (by simp)
                  obtain ⟨_, k7, _⟩ := hT 0 (by simp)
                  have HK7 : Hid (w7.cell? ⟨g, 1, none⟩ = some (.string tk.text)) := by rw [Hid]; simpa using k7
                  have HG7 := Lib.hid hgl
                  clear hb7 hown hT k7 hBg hgl
                  go_wp2_with fail
                  refine (HCUT.out o w7 HB7.out).mono ?_
                  rintro e w8 ⟨⟨v8, rfl, hown8⟩, hb8⟩
                  have HB8 : Hid (Below w.heap.size w w8) := HB7.out.trans (hb8.mono HB7.out.size)
                  have HK8 : Hid (w8.cell? ⟨g, 1, none⟩ = some (.string tk.text)) := (hb8.cell (p := ⟨g, 1, none⟩) HG7.out).trans HK7.out
                  have HG8 : Hid (g < w8.heap.size) := Nat.lt_of_lt_of_le HG7.out hb8.size
                  obtain ⟨hc, hhc⟩ : ∃ hc, hc = (cutR o).2.2 := ⟨_, rfl⟩
                  rw [← hhc]
                  have HHC := Lib.hid hhc
                  have k8 := HK8.out
                  clear hb8 hown8 hhc
                  have hlen0 : (((tks.length : Nat) : Int) + 1 == 0) = false := beq_eq_false_iff_ne.2 (by omega)
                  have hidx : (0 : Int) < ((tks.length : Nat) : Int) + 1 := by omega
                  by_cases hc0 : hc = 0
                  · subst hc0
                    have hk4 : (k : Int) ≤ 4096 := by have := HS4.out; have := HKS.out; omega
                    have htk : (tk.text.size : Int) ≤ 18 := by have := HTK.out; omega
                    have ho4 : (o.size : Int) ≤ 4096 := by have := HO4.out; omega
                    have ha1 : wrap64 ((k : Int) + tk.text.size) = (k : Int) + tk.text.size := by simp only [wrap64]; omega
                    have ha2 : wrap64 ((k : Int) + tk.text.size + 1) = (k : Int) + tk.text.size + 1 := by simp only [wrap64]; omega
                    have ha3 : wrap64 ((k : Int) + tk.text.size + 1 + o.size) = (k : Int) + tk.text.size + 1 + o.size := by simp only [wrap64]; omega
                    by_cases h9 : 4096 < k + tk.text.size + 1 + o.size
                    · have h9i : (4096 : Int) < (k : Int) + tk.text.size + 1 + o.size := by omega
                      clear h9
                      go_wp2_with fail
                      all_goals go_ret
                      all_goals exact ⟨rfl, HB8.out⟩
                    · have h9i : ¬ (4096 : Int) < (k : Int) + tk.text.size + 1 + o.size := by omega
                      have H9 := Lib.hid h9
                      clear h9
                      go_wp2_with fail
                      have HSZ : Hid ((byt (s.data.toList.take k ++ (tk.text.data.toList ++ 32 :: o.data.toList))).size ≤ 4096) := by
                        have h9 := H9.out
                        have h1 := size_list tk.text
                        have h2 := size_list o
                        have h3 := HKS.out
                        have h4 := size_list s
                        rw [Hid, byt_size]
                        simp
                        omega
                      have hs1 : ((byt (s.data.toList.take k)).size : Int) ≤ 8388608 := by
                        rw [byt_size, List.length_take, size_list]
                        have := HS4.out
                        omega
                      have hs2 : (tk.text.size : Int) ≤ 8388608 := by omega
                      have hs3 : (((byt (s.data.toList.take k) ++ tk.text).size : Nat) : Int) ≤ 8388608 := by
                        rw [ByteArray.size_append, byt_size, List.length_take, size_list]
                        have := HS4.out
                        omega
                      have hs4 : (((byt (s.data.toList.take k) ++ tk.text ++ ⟨#[32]⟩).size : Nat) : Int) ≤ 8388608 := by
                        rw [ByteArray.size_append, ByteArray.size_append, byt_size, List.length_take, size_list]
                        have := HS4.out
                        have : (⟨#[32]⟩ : ByteArray).size = 1 := rfl
                        omega
                      have hsz32 : (⟨#[32]⟩ : ByteArray).size = 1 := rfl
                      have hsn1 : (byt (s.data.toList.take k)).size ≤ 4096 := by
                        rw [byt_size, List.length_take, size_list]
                        have := HS4.out
                        omega
                      have hsn2 : tk.text.size ≤ 18 := HTK.out
                      have hsn3 : o.size ≤ 4096 := HO4.out
                      have hs5 : (o.size : Int) ≤ 8388608 := by omega
                      have HCAT : Hid (byt (s.data.toList.take k) ++ tk.text ++ ⟨#[32]⟩ ++ o = byt (s.data.toList.take k ++ (tk.text.data.toList ++ 32 :: o.data.toList))) := by
                        have e1 : tk.text = byt tk.text.data.toList := by simp [byt]
                        have e2 : (⟨#[32]⟩ : ByteArray) = byt [32] := rfl
                        have e3 : o = byt o.data.toList := by simp [byt]
                        have key : byt (s.data.toList.take k) ++ byt tk.text.data.toList ++ byt [32] ++ byt o.data.toList = byt (s.data.toList.take k ++ (tk.text.data.toList ++ 32 :: o.data.toList)) := by
                          rw [byt_app, byt_app, byt_app]
                          simp
                        rw [← e1, ← e2, ← e3] at key
                        exact key
                      refine wp_region_held_drew (S := fun W => W.cell? ⟨g, 1, none⟩ = some (.string tk.text)) (by kernel_rfl) k8 (fun hHeld => ?_)
                      refine wpAnyH_take (i := 0) (v := ?_) rfl (by kernel_rfl) (by kernel_rfl) (by kernel_rfl) (fun _ _ _ h => h) (Or.inl ⟨by kernel_rfl, ?_⟩) (by assumption) ?_
                      rotate_left
                      · (intro w hSw; (try dsimp only at hSw); go_simp)
                        with_reducible rfl
                      try simp only [Act.put, List.setIfInBounds_toArray]
                      refine wpAnyH_take (i := 1) (v := ?_) rfl (by kernel_rfl) (by kernel_rfl) (by kernel_rfl) (fun _ _ _ h => h) (Or.inl ⟨by kernel_rfl, ?_⟩) (by assumption) ?_
                      rotate_left
                      · (intro w hSw; (try dsimp only at hSw); go_simp)
                        with_reducible rfl
                      try simp only [Act.put]
                      refine wpAnyH_take (i := 2) (v := ?_) rfl (by kernel_rfl) (by kernel_rfl) (by kernel_rfl) (fun _ _ _ h => h) (Or.inl ⟨by kernel_rfl, ?_⟩) (by assumption) ?_
                      rotate_left
                      · (intro w hSw; (try dsimp only at hSw); go_simp)
                        with_reducible rfl
                      try simp only [Act.put]
                      refine wpAnyH_take (i := 3) (v := ?_) rfl (by kernel_rfl) (by kernel_rfl) (by kernel_rfl) (fun _ _ _ h => h) (Or.inl ⟨by kernel_rfl, ?_⟩) (by assumption) ?_
                      rotate_left
                      · (intro w hSw; (try dsimp only at hSw); go_simp)
                        with_reducible rfl
                      try simp only [Act.put]
                      refine wpAnyH_take (i := 4) (v := ?_) rfl (by kernel_rfl) (by kernel_rfl) (by kernel_rfl) (fun _ _ _ h => h) (Or.inl ⟨by kernel_rfl, ?_⟩) (by assumption) ?_
                      rotate_left
                      · (intro w hSw; (try dsimp only at hSw); go_simp)
                        with_reducible rfl
                      try simp only [Act.put]
                      refine wpAnyH_take (i := 5) (v := ?_) rfl (by kernel_rfl) (by kernel_rfl) (by kernel_rfl) (fun _ _ _ h => h) (Or.inl ⟨by kernel_rfl, ?_⟩) (by assumption) ?_
                      rotate_left
                      · (intro w hSw; (try dsimp only at hSw); go_simp)
                        with_reducible rfl
                      try simp only [Act.put]
                      refine wpAnyH_take (i := 6) (v := ?_) rfl (by kernel_rfl) (by kernel_rfl) (by kernel_rfl) (fun _ _ _ h => h) (Or.inl ⟨by kernel_rfl, ?_⟩) (by assumption) ?_
                      rotate_left
                      · (intro w hSw; (try dsimp only at hSw); go_simp)
                        with_reducible rfl
                      try simp only [Act.put]
                      refine wpAnyH_take (i := 7) (v := ?_) rfl (by kernel_rfl) (by kernel_rfl) (by kernel_rfl) (fun _ _ _ h => h) (Or.inl ⟨by kernel_rfl, ?_⟩) (by assumption) ?_
                      rotate_left
                      · (intro w hSw; (try dsimp only at hSw); go_simp)
                        with_reducible rfl
                      try simp only [Act.put]
                      refine wpAnyH_take (i := 8) (v := ?_) rfl (by kernel_rfl) (by kernel_rfl) (by kernel_rfl) (fun _ _ _ h => h) (Or.inl ⟨by kernel_rfl, ?_⟩) (by assumption) ?_
                      rotate_left
                      · (intro w hSw; (try dsimp only at hSw); go_simp)
                        first | rw [if_neg (by (try simp only [ByteArray.size_append]); (try simp only [hsz32]); omega)] | with_reducible rfl
                      try simp only [Act.put]
                      refine wpAnyH_take (i := 9) (v := ?_) rfl (by kernel_rfl) (by kernel_rfl) (by kernel_rfl) (fun _ _ _ h => h) (Or.inl ⟨by kernel_rfl, ?_⟩) (by assumption) ?_
                      rotate_left
                      · (intro w hSw; (try dsimp only at hSw); go_simp)
                        first | rw [if_neg (by (try simp only [ByteArray.size_append]); (try simp only [hsz32]); omega)] | with_reducible rfl
                      try simp only [Act.put]
                      refine wpAnyH_take (i := 10) (v := ?_) rfl (by kernel_rfl) (by kernel_rfl) (by kernel_rfl) (fun _ _ _ h => h) (Or.inl ⟨by kernel_rfl, ?_⟩) (by assumption) ?_
                      rotate_left
                      · (intro w hSw; (try dsimp only at hSw); go_simp)
                        with_reducible rfl
                      try simp only [Act.put]
                      refine wpAnyH_take (i := 11) (v := ?_) rfl (by kernel_rfl) (by kernel_rfl) (by kernel_rfl) (fun _ _ _ h => h) (Or.inl ⟨by kernel_rfl, ?_⟩) (by assumption) ?_
                      rotate_left
                      · (intro w hSw; (try dsimp only at hSw); go_simp)
                        first | rw [if_neg (by (try simp only [ByteArray.size_append]); (try simp only [hsz32]); omega)] | with_reducible rfl
                      try simp only [Act.put]
                      refine wpAnyH_ready (rs := [12, 17]) (by kernel_rfl) (by simp) ?_
                      refine AllReadyH.cons rfl (fun K0 hK => ?_) (AllReadyH.cons rfl (fun K0 hK => ?_) AllReadyH.nil)
                      · go_simp
                        rw [HCAT.out]
                        refine (HPARSE.out (byt (s.data.toList.take k ++ (tk.text.data.toList ++ 32 :: o.data.toList))) w8.drew HB8.out.drew).mono ?_
                        rintro e w9 ⟨v9, at9, cd9, rfl, hp9, hb9⟩
                        obtain ⟨M9, N9, t9, hx9⟩ := hp9.repH
                        obtain ⟨k9, a9, l9, c9, b9, m9, d9, lo9, ls9, hi9, hs9, op9, rfl⟩ := hx9.shape
                        obtain ⟨hcd9, hat9⟩ := HOTH.out o.data.toList _ (cutR_ok HHC.out.symm).2.1 _ _ _ _ HSZ.out hp9
                        subst hcd9 hat9
                        have HB9 : Hid (Below w.heap.size w w9) := (HB8.out.drew).trans (hb9.mono (HB8.out.drew).size)
                        have hS9 : w9.cell? ⟨g, 1, none⟩ = some (.string tk.text) := (hb9.cell (p := ⟨g, 1, none⟩) HG8.out).trans HK8.out
                        have HG9 : Hid (g < w9.heap.size) := Nat.lt_of_lt_of_le HG8.out hb9.size
                        clear hp9 hx9 hb9
                        dsimp only
                        refine hK.out _ _ hS9 (fun _ => ?_)
                        clear hK K0
                        try simp only [Act.put, List.setIfInBounds_toArray, List.set_cons_zero, List.set_cons_succ]
                        refine wpAnyH_take (i := 13) (v := ?_) rfl (by kernel_rfl) (by kernel_rfl) (by kernel_rfl) (fun _ _ _ h => h) (Or.inl ⟨by kernel_rfl, ?_⟩) (by assumption) ?_
                        rotate_left
                        · (intro w hSw; (try dsimp only at hSw); go_simp)
                          with_reducible rfl
                        try simp only [Act.put, List.setIfInBounds_toArray]
                        refine wpAnyH_take (i := 14) (v := ?_) rfl (by kernel_rfl) (by kernel_rfl) (by kernel_rfl) (fun _ _ _ h => h) (Or.inl ⟨by kernel_rfl, ?_⟩) (by assumption) ?_
                        rotate_left
                        · (intro w hSw; (try dsimp only at hSw); go_simp)
                          with_reducible rfl
                        try simp only [Act.put]
                        refine wpAnyH_take (i := 15) (v := ?_) rfl (by kernel_rfl) (by kernel_rfl) (by kernel_rfl) (fun _ _ _ h => h) (Or.inl ⟨by kernel_rfl, ?_⟩) (by assumption) ?_
                        rotate_left
                        · (intro w hSw; (try dsimp only at hSw); go_simp)
                          with_reducible rfl
                        try simp only [Act.put]
                        refine wpAnyH_take (i := 16) (v := ?_) rfl (by kernel_rfl) (by kernel_rfl) (by kernel_rfl) (fun _ _ _ h => h) (Or.inl ⟨by kernel_rfl, ?_⟩) (by assumption) ?_
                        rotate_left
                        · (intro w hSw; (try dsimp only at hSw); go_simp)
                          with_reducible rfl
                        try simp only [Act.put]
                        refine wpAnyH_ready (rs := [17]) (by kernel_rfl) (by simp) ?_
                        refine AllReadyH.cons rfl (fun K0 hK => ?_) AllReadyH.nil
                        go_simp
                        obtain ⟨wA, hwA⟩ : ∃ wA, wA = w9.alloc (.cells #[.int .u8 0, .slice none 0 0, .slice none 0 0, .int .i64 0, .bool false, .int .i64 0, .bool false, .bool false] 28) := ⟨_, rfl⟩
                        have HBA : Hid (Below w.heap.size w wA) := by rw [Hid, hwA]; exact HB9.out.alloc HB9.out.size _
                        have hsA : wA.cell? ⟨g, 1, none⟩ = some (.string tk.text) := by rw [hwA]; exact (((Below.refl w9.heap.size w9).alloc (Nat.le_refl _) _).cell (p := ⟨g, 1, none⟩) HG9.out).trans hS9
                        have HKA : Hid (wA.heap[w9.heap.size]? = some (.cells #[.int .u8 0, .slice none 0 0, .slice none 0 0, .int .i64 0, .bool false, .int .i64 0, .bool false, .bool false] 28 (0, 0))) := by rw [Hid, hwA]; exact hp_top rfl
                        have HKB : Hid (w.heap.size ≤ w9.heap.size) := HB9.out.size
                        have HGB : Hid (g ≠ w9.heap.size) := by have := HG9.out; rw [Hid]; omega
                        rw [← hwA]
                        clear hwA
                        refine hK.out _ _ hsA (fun _ => ?_)
                        clear hK K0
                        try simp only [Act.put, List.setIfInBounds_toArray, List.set_cons_zero, List.set_cons_succ]
                        have hkb := HKA.out
                        have e0 := Lib.cell_of_heap hkb 0
                        have f0 := Lib.frozen_of_heap hkb 0
                        have e1 := Lib.cell_of_heap hkb 1
                        have f1 := Lib.frozen_of_heap hkb 1
                        have e2 := Lib.cell_of_heap hkb 2
                        have f2 := Lib.frozen_of_heap hkb 2
                        have e3 := Lib.cell_of_heap hkb 3
                        have f3 := Lib.frozen_of_heap hkb 3
                        have e4 := Lib.cell_of_heap hkb 4
                        have f4 := Lib.frozen_of_heap hkb 4
                        have e5 := Lib.cell_of_heap hkb 5
                        have f5 := Lib.frozen_of_heap hkb 5
                        have e6 := Lib.cell_of_heap hkb 6
                        have f6 := Lib.frozen_of_heap hkb 6
                        have e7 := Lib.cell_of_heap hkb 7
                        have f7 := Lib.frozen_of_heap hkb 7
                        simp only [List.getElem?_toArray, List.getElem?_cons_zero, List.getElem?_cons_succ] at e0 e1 e2 e3 e4 e5 e6 e7
                        have hltb := (Array.getElem?_eq_some_iff.1 hkb).1
                        clear hkb
                        refine wpAnyH_ready (rs := [18]) (by kernel_rfl) (by simp) ?_
                        refine AllReadyH.cons rfl (fun K0 hK => ?_) AllReadyH.nil
                        go_simp
                        obtain ⟨wE, hwE⟩ : ∃ wE, wE = set8 wA w9.heap.size (.int .u8 k9) (.slice a9 l9 c9) (.slice b9 m9 d9) (.int .i64 lo9) (.bool ls9) (.int .i64 hi9) (.bool hs9) (.bool op9) := ⟨_, rfl⟩
                        have HBE : Hid (Below w.heap.size w wE) := by rw [Hid, hwE]; exact Below.set8 HBA.out HKB.out _ _ _ _ _ _ _ _
                        have hsE : wE.cell? ⟨g, 1, none⟩ = some (.string tk.text) := by
                          have : wE.heap[g]? = wA.heap[g]? := by rw [hwE]; exact set8_other _ _ _ _ _ _ _ _ _ _ _ HGB.out
                          unfold World.cell? at *
                          simp only [this]
                          exact hsA
                        unfold set8 at hwE
                        rw [← hwE]
                        clear hwE e0 e1 e2 e3 e4 e5 e6 e7 f0 f1 f2 f3 f4 f5 f6 f7 hltb
                        refine hK.out _ _ hsE (fun _ => ?_)
                        clear hK K0
                        try simp only [Act.put, List.setIfInBounds_toArray, List.set_cons_zero, List.set_cons_succ]
                        refine wpAnyH_take (i := 19) (v := ?_) rfl (by kernel_rfl) (by kernel_rfl) (by kernel_rfl) (fun _ _ _ h => h) (Or.inl ⟨by kernel_rfl, ?_⟩) (by assumption) ?_
                        rotate_left
                        · (intro w hSw; (try dsimp only at hSw); go_simp)
                          with_reducible rfl
                        try simp only [Act.put, List.setIfInBounds_toArray]
                        refine wpAnyH_take (i := 20) (v := ?_) rfl (by kernel_rfl) (by kernel_rfl) (by kernel_rfl) (fun _ _ _ h => h) (Or.inl ⟨by kernel_rfl, ?_⟩) (by assumption) ?_
                        rotate_left
                        · (intro w hSw; (try dsimp only at hSw); go_simp)
                          with_reducible rfl
                        try simp only [Act.put]
                        refine wpAnyH_done (by kernel_rfl) ?_ _
                        go_wp2_with fail
                        all_goals go_ret
                        all_goals exact ⟨rfl, HBE.out⟩
                      · go_simp
                        obtain ⟨wA, hwA⟩ : ∃ wA, wA = (w8.alloc (.cells #[.int .u8 0, .slice none 0 0, .slice none 0 0, .int .i64 0, .bool false, .int .i64 0, .bool false, .bool false] 28)).drew := ⟨_, rfl⟩
                        have HBA : Hid (Below w.heap.size w wA) := by rw [Hid, hwA]; exact (HB8.out.alloc HB8.out.size _).drew
                        have hsA : wA.cell? ⟨g, 1, none⟩ = some (.string tk.text) := by rw [hwA]; exact (((Below.refl w8.heap.size w8).alloc (Nat.le_refl _) _).drew.cell (p := ⟨g, 1, none⟩) HG8.out).trans HK8.out
                        have HKA : Hid (wA.heap[w8.heap.size]? = some (.cells #[.int .u8 0, .slice none 0 0, .slice none 0 0, .int .i64 0, .bool false, .int .i64 0, .bool false, .bool false] 28 (0, 0))) := by rw [Hid, hwA, drewh]; exact hp_top rfl
                        have HGA : Hid (g < wA.heap.size) := by rw [Hid, hwA]; exact Nat.lt_of_lt_of_le HG8.out ((Below.refl w8.heap.size w8).alloc (Nat.le_refl _) _).drew.size
                        have HKB : Hid (w.heap.size ≤ w8.heap.size) := HB8.out.size
                        have HGB : Hid (g ≠ w8.heap.size) := by have := HG8.out; rw [Hid]; omega
                        first | rw [← hwA] | skip
                        clear hwA
                        refine hK.out _ _ hsA (fun _ => ?_)
                        clear hK K0
                        try simp only [Act.put, List.setIfInBounds_toArray, List.set_cons_zero, List.set_cons_succ]
                        refine wpAnyH_ready (rs := [12]) (by kernel_rfl) (by simp) ?_
                        refine AllReadyH.cons rfl (fun K0 hK => ?_) AllReadyH.nil
                        go_simp
                        rw [HCAT.out]
                        refine (HPARSE.out (byt (s.data.toList.take k ++ (tk.text.data.toList ++ 32 :: o.data.toList))) wA HBA.out).mono ?_
                        rintro e w9 ⟨v9, at9, cd9, rfl, hp9, hb9⟩
                        obtain ⟨M9, N9, t9, hx9⟩ := hp9.repH
                        obtain ⟨k9, a9, l9, c9, b9, m9, d9, lo9, ls9, hi9, hs9, op9, rfl⟩ := hx9.shape
                        obtain ⟨hcd9, hat9⟩ := HOTH.out o.data.toList _ (cutR_ok HHC.out.symm).2.1 _ _ _ _ HSZ.out hp9
                        subst hcd9 hat9
                        have HB9 : Hid (Below w.heap.size w w9) := (HBA.out).trans (hb9.mono (HBA.out).size)
                        have hS9 : w9.cell? ⟨g, 1, none⟩ = some (.string tk.text) := (hb9.cell (p := ⟨g, 1, none⟩) HGA.out).trans hsA
                        have HG9 : Hid (g < w9.heap.size) := Nat.lt_of_lt_of_le HGA.out hb9.size
                        have hk9 := (hb9.block _ (Array.getElem?_eq_some_iff.1 HKA.out).1).trans HKA.out
                        have HK9 := Lib.hid hk9
                        clear hp9 hx9 hb9 hk9
                        dsimp only
                        refine hK.out _ _ hS9 (fun _ => ?_)
                        clear hK K0
                        try simp only [Act.put, List.setIfInBounds_toArray, List.set_cons_zero, List.set_cons_succ]
                        refine wpAnyH_take (i := 13) (v := ?_) rfl (by kernel_rfl) (by kernel_rfl) (by kernel_rfl) (fun _ _ _ h => h) (Or.inl ⟨by kernel_rfl, ?_⟩) (by assumption) ?_
                        rotate_left
                        · (intro w hSw; (try dsimp only at hSw); go_simp)
                          with_reducible rfl
                        try simp only [Act.put, List.setIfInBounds_toArray]
                        refine wpAnyH_take (i := 14) (v := ?_) rfl (by kernel_rfl) (by kernel_rfl) (by kernel_rfl) (fun _ _ _ h => h) (Or.inl ⟨by kernel_rfl, ?_⟩) (by assumption) ?_
                        rotate_left
                        · (intro w hSw; (try dsimp only at hSw); go_simp)
                          with_reducible rfl
                        try simp only [Act.put]
                        refine wpAnyH_take (i := 15) (v := ?_) rfl (by kernel_rfl) (by kernel_rfl) (by kernel_rfl) (fun _ _ _ h => h) (Or.inl ⟨by kernel_rfl, ?_⟩) (by assumption) ?_
                        rotate_left
                        · (intro w hSw; (try dsimp only at hSw); go_simp)
                          with_reducible rfl
                        try simp only [Act.put]
                        refine wpAnyH_take (i := 16) (v := ?_) rfl (by kernel_rfl) (by kernel_rfl) (by kernel_rfl) (fun _ _ _ h => h) (Or.inl ⟨by kernel_rfl, ?_⟩) (by assumption) ?_
                        rotate_left
                        · (intro w hSw; (try dsimp only at hSw); go_simp)
                          with_reducible rfl
                        try simp only [Act.put]
                        have hkb := HK9.out
                        have e0 := Lib.cell_of_heap hkb 0
                        have f0 := Lib.frozen_of_heap hkb 0
                        have e1 := Lib.cell_of_heap hkb 1
                        have f1 := Lib.frozen_of_heap hkb 1
                        have e2 := Lib.cell_of_heap hkb 2
                        have f2 := Lib.frozen_of_heap hkb 2
                        have e3 := Lib.cell_of_heap hkb 3
                        have f3 := Lib.frozen_of_heap hkb 3
                        have e4 := Lib.cell_of_heap hkb 4
                        have f4 := Lib.frozen_of_heap hkb 4
                        have e5 := Lib.cell_of_heap hkb 5
                        have f5 := Lib.frozen_of_heap hkb 5
                        have e6 := Lib.cell_of_heap hkb 6
                        have f6 := Lib.frozen_of_heap hkb 6
                        have e7 := Lib.cell_of_heap hkb 7
                        have f7 := Lib.frozen_of_heap hkb 7
                        simp only [List.getElem?_toArray, List.getElem?_cons_zero, List.getElem?_cons_succ] at e0 e1 e2 e3 e4 e5 e6 e7
                        have hltb := (Array.getElem?_eq_some_iff.1 hkb).1
                        clear hkb
                        refine wpAnyH_ready (rs := [18]) (by kernel_rfl) (by simp) ?_
                        refine AllReadyH.cons rfl (fun K0 hK => ?_) AllReadyH.nil
                        go_simp
                        obtain ⟨wE, hwE⟩ : ∃ wE, wE = set8 w9 w8.heap.size (.int .u8 k9) (.slice a9 l9 c9) (.slice b9 m9 d9) (.int .i64 lo9) (.bool ls9) (.int .i64 hi9) (.bool hs9) (.bool op9) := ⟨_, rfl⟩
                        have HBE : Hid (Below w.heap.size w wE) := by rw [Hid, hwE]; exact Below.set8 HB9.out HKB.out _ _ _ _ _ _ _ _
                        have hsE : wE.cell? ⟨g, 1, none⟩ = some (.string tk.text) := by
                          have : wE.heap[g]? = w9.heap[g]? := by rw [hwE]; exact set8_other _ _ _ _ _ _ _ _ _ _ _ HGB.out
                          unfold World.cell? at *
                          simp only [this]
                          exact hS9
                        unfold set8 at hwE
                        rw [← hwE]
                        clear hwE e0 e1 e2 e3 e4 e5 e6 e7 f0 f1 f2 f3 f4 f5 f6 f7 hltb
                        refine hK.out _ _ hsE (fun _ => ?_)
                        clear hK K0
                        try simp only [Act.put, List.setIfInBounds_toArray, List.set_cons_zero, List.set_cons_succ]
                        refine wpAnyH_take (i := 19) (v := ?_) rfl (by kernel_rfl) (by kernel_rfl) (by kernel_rfl) (fun _ _ _ h => h) (Or.inl ⟨by kernel_rfl, ?_⟩) (by assumption) ?_
                        rotate_left
                        · (intro w hSw; (try dsimp only at hSw); go_simp)
                          with_reducible rfl
                        try simp only [Act.put, List.setIfInBounds_toArray]
                        refine wpAnyH_take (i := 20) (v := ?_) rfl (by kernel_rfl) (by kernel_rfl) (by kernel_rfl) (fun _ _ _ h => h) (Or.inl ⟨by kernel_rfl, ?_⟩) (by assumption) ?_
                        rotate_left
                        · (intro w hSw; (try dsimp only at hSw); go_simp)
                          with_reducible rfl
                        try simp only [Act.put]
                        refine wpAnyH_done (by kernel_rfl) ?_ _
                        go_wp2_with fail
                        all_goals go_ret
                        all_goals exact ⟨rfl, HBE.out⟩
                  · have q9 : (hc != 0) = true := by simpa using hc0
                    clear hc0
                    go_wp2_with fail
                    all_goals go_ret
                    all_goals exact ⟨rfl, HB8.out⟩
            · have hge : pl ≥ (s.size : Int) := by omega
              rcases c1 with rfl | rfl
              all_goals clear hlt c2
              all_goals go_wp2_with fail
              all_goals go_ret
              all_goals exact ⟨rfl, HB4.out⟩
end Go.Proofs.YtpgdplmndnopbaaGreatDoor
