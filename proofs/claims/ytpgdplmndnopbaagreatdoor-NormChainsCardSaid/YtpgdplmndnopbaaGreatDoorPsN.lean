/- The parser walked: an interval. (Printed by gen_psn.py.) -/
import Derived.Test.YtpgdplmndnopbaaGreatDoorMgK
namespace Go.Proofs.YtpgdplmndnopbaaGreatDoor
open Go.RowKit
theorem Ps.setCell {pb tb deep : Nat} {w : World} {l : List Tok} (h : Ps pb tb w l deep) {g : Nat} (hg : pb ≠ g) (hT : tb ≠ g) (i : Nat) (v : Value) : Ps pb tb (w.setCell ⟨g, i, none⟩ v) l deep := by
 obtain ⟨off, cap, h1, h2, h3, h4, h5, h6⟩ := h.blk
 exact ⟨⟨off, cap, (setCell_other' _ _ _ _ _ hg).trans h1, h2, h3, h4, by simpa [World.setCell] using h5, h6.agree (setCell_other' _ _ _ _ _ hT)⟩, h.ends, h.toks⟩
def OutS (pb tb deep : Nat) (w : World) (r : PRes Spn) (e : Ending) (w' : World) : Prop :=
 match r with
 | .ok (i, l') => e = .returned (.agg #[.int .i64 i.low, .bool i.ls, .int .i64 i.high, .bool i.hs, .bool i.op]) ∧ Ps pb tb w' l' deep ∧ Bt pb w w'
 | .error c => e = .panicked (thr c.1 c.2) ∧ Bt pb w w'
theorem intervalR_eq (l : List Tok) : intervalR l =
 match (if isT [40] l = true then .ok l.tail else takeT [91] l) with
 | .error e => .error e
 | .ok l1 =>
  match numR l1 with
  | .error e => .error e
  | .ok (low, l2) =>
   match takeT [44] l2 with
   | .error e => .error e
   | .ok l3 =>
    if isT [111, 111] l3 = true then
     match takeT [41] l3.tail with
     | .error e => .error e
     | .ok l4 => .ok (⟨low, isT [40] l, 0, false, true⟩, l4)
    else
     match numR l3 with
     | .error e => .error e
     | .ok (high, l4) =>
      match (if isT [41] l4 = true then .ok l4.tail else takeT [93] l4) with
      | .error e => .error e
      | .ok l5 => .ok (⟨low, isT [40] l, high, isT [41] l4, false⟩, l5) := rfl
set_option maxRecDepth 100000 in
set_option maxHeartbeats 16000000 in
theorem interval170_any (pb tb deep : Nat) (l : List Tok) (w : World) (h : Ps pb tb w l deep) :
 Calls Tryz.prog 170 #[.pointer (some ⟨pb, 0, none⟩)] w (OutS pb tb deep w (intervalR l)) := by
 have hpb := h.lt
 have htb : tb ≠ w.heap.size := Nat.ne_of_lt h.tb_lt
 obtain ⟨W0, hW0⟩ : ∃ W0, W0 = w.alloc (.cells #[.int .i64 0, .bool false, .int .i64 0, .bool false, .bool false] 26) := ⟨_, rfl⟩
 have HP0 : Hid (Ps pb tb W0 l deep) := by rw [Hid, hW0]; exact h.alloc _
 have HB0 : Hid (Bt pb w W0) := by rw [Hid, hW0]; exact (Bt.refl pb w).alloc _
 have HK0 : Hid (W0.heap[w.heap.size]? = some (.cells #[.int .i64 0, .bool false, .int .i64 0, .bool false, .bool false] 26 (0, 0))) := by rw [Hid, hW0]; exact hp_top rfl
 have HW0 := Lib.hid hW0.symm
 clear h hW0
 go_enter Tryz.func170, Tryz.ntmps170
 go_wp2_with fail
 rw [HW0.out]
 clear HW0
 have HM1 := Lib.hid (may139_any pb tb deep l ⟨#[40]⟩ (by decide) _ HP0.out)
 have HM1 : Hid (Calls Tryz.prog 139 #[.pointer (some ⟨pb, 0, none⟩), .string ⟨#[40]⟩] W0 fun e w' => e = .returned (.bool (isT [40] l)) ∧ Ps pb tb w' (if isT [40] l then (l).tail else l) deep ∧ Bt pb W0 w') := HM1
 cases q2 : isT [40] l with
 | true =>
  have Q3 := Lib.hid q2
  rw [q2] at HM1
  simp only [if_true] at HM1
  clear q2
  refine HM1.out.mono ?_
  rintro e w4 ⟨rfl, hp5, hb6⟩
  have HP7 := Lib.hid hp5
  have HB8 := Lib.hid (HB0.out.trans hb6)
  have HK9 := Lib.hid (hb6.at HK0.out (by omega))
  clear hp5 hb6
  have hk10 := HK9.out
  have e11 := Lib.cell_of_heap hk10 1
  have f12 := Lib.frozen_of_heap hk10 1
  have lt13 := (Array.getElem?_eq_some_iff.1 hk10).1
  have HK15 : Hid ((w4.setCell ⟨w.heap.size, 1, none⟩ (.bool true)).heap[w.heap.size]? = some (.cells #[.int .i64 0, .bool true, .int .i64 0, .bool false, .bool false] 26 (0, 0))) := setCell_at hk10 1 _
  have g14 := Lib.cell_of_heap HK15.out 1
  simp only [List.getElem?_toArray, List.getElem?_cons_zero, List.getElem?_cons_succ] at e11 g14
  have HP16 := Lib.hid (HP7.out.setCell (g := w.heap.size) (by omega) htb 1 (.bool true))
  have HB17 := Lib.hid (HB8.out.setCell (Nat.le_refl _) 1 (.bool true))
  clear hk10
  go_wp2_with fail
  obtain ⟨⟨tk18, ts19, tp20⟩, r21, hl22⟩ := HP16.out.ends.cons
  have HX23 : Hid (Ps pb tb (w4.setCell ⟨w.heap.size, 1, none⟩ (.bool true)) (⟨tk18, ts19, tp20⟩ :: r21) deep) := Lib.hid (by have := HP16.out; rw [hl22] at this; exact this)
  have HL24 := Lib.hid hl22
  clear hl22
  by_cases q25 : tk18 = 2
  ·subst q25
   have NF29 : Hid (numR ((l).tail) = .ok (digitsV ts19.data.toList, r21)) := by rw [Hid, HL24.out]; rfl
   refine (number180_ok pb tb deep ts19 tp20 r21 _ HX23.out).mono ?_
   rintro e w26 ⟨rfl, hp27, hb28⟩
   have HP31 := Lib.hid hp27
   have HB32 := Lib.hid (HB17.out.trans hb28)
   have HK33 := Lib.hid (hb28.at HK15.out (by omega))
   clear hp27 hb28
   generalize D30E : digitsV ts19.data.toList = D30 at NF29 ⊢
   clear D30E
   have hk34 := HK33.out
   have e35 := Lib.cell_of_heap hk34 0
   have f36 := Lib.frozen_of_heap hk34 0
   have lt37 := (Array.getElem?_eq_some_iff.1 hk34).1
   have HK39 : Hid ((w26.setCell ⟨w.heap.size, 0, none⟩ (.int .i64 D30)).heap[w.heap.size]? = some (.cells #[.int .i64 D30, .bool true, .int .i64 0, .bool false, .bool false] 26 (0, 0))) := setCell_at hk34 0 _
   have g38 := Lib.cell_of_heap HK39.out 0
   simp only [List.getElem?_toArray, List.getElem?_cons_zero] at e35 g38
   have HP40 := Lib.hid (HP31.out.setCell (g := w.heap.size) (by omega) htb 0 (.int .i64 D30))
   have HB41 := Lib.hid (HB32.out.setCell (Nat.le_refl _) 0 (.int .i64 D30))
   clear hk34
   go_wp2_with fail
   cases q42 : isT [44] r21 with
   | true =>
    have TF44 : Hid (takeT [44] (r21) = .ok (r21).tail) := by rw [Hid, takeT, q42]; rfl
    refine (take169_ok pb tb deep _ r21 ⟨#[44]⟩ (by decide) _ (HP40.out.alloc (.cells #[.string ⟨#[44]⟩] 9)) (hp_top (by simp [World.setCell])) q42).mono ?_
    rintro e w45 ⟨rfl, hp46, hb47⟩
    have hb47 := ((Bt.refl pb (w26.setCell ⟨w.heap.size, 0, none⟩ (.int .i64 D30))).alloc (.cells #[.string ⟨#[44]⟩] 9)).trans hb47
    clear q42
    have HP48 := Lib.hid hp46
    have HB49 := Lib.hid (HB41.out.trans hb47)
    have HK50 := Lib.hid (hb47.at HK39.out (by omega))
    clear hp46 hb47
    go_wp2_with fail
    have HM51 := Lib.hid (may139_any pb tb deep (r21).tail ⟨#[111, 111]⟩ (by decide) _ HP48.out)
    have HM51 : Hid (Calls Tryz.prog 139 #[.pointer (some ⟨pb, 0, none⟩), .string ⟨#[111, 111]⟩] w45 fun e w' => e = .returned (.bool (isT [111, 111] (r21).tail)) ∧ Ps pb tb w' (if isT [111, 111] (r21).tail then ((r21).tail).tail else (r21).tail) deep ∧ Bt pb w45 w') := HM51
    cases q52 : isT [111, 111] (r21).tail with
    | true =>
     have Q53 := Lib.hid q52
     rw [q52] at HM51
     simp only [if_true] at HM51
     clear q52
     refine HM51.out.mono ?_
     rintro e w54 ⟨rfl, hp55, hb56⟩
     have HP57 := Lib.hid hp55
     have HB58 := Lib.hid (HB49.out.trans hb56)
     have HK59 := Lib.hid (hb56.at HK50.out (by omega))
     clear hp55 hb56
     have hk60 := HK59.out
     have e61 := Lib.cell_of_heap hk60 4
     have f62 := Lib.frozen_of_heap hk60 4
     have lt63 := (Array.getElem?_eq_some_iff.1 hk60).1
     have HK65 : Hid ((w54.setCell ⟨w.heap.size, 4, none⟩ (.bool true)).heap[w.heap.size]? = some (.cells #[.int .i64 D30, .bool true, .int .i64 0, .bool false, .bool true] 26 (0, 0))) := setCell_at hk60 4 _
     have g64 := Lib.cell_of_heap HK65.out 4
     simp only [List.getElem?_toArray, List.getElem?_cons_zero, List.getElem?_cons_succ] at e61 g64
     have HP66 := Lib.hid (HP57.out.setCell (g := w.heap.size) (by omega) htb 4 (.bool true))
     have HB67 := Lib.hid (HB58.out.setCell (Nat.le_refl _) 4 (.bool true))
     clear hk60
     go_wp2_with fail
     cases q68 : isT [41] ((r21).tail).tail with
     | true =>
      have TF70 : Hid (takeT [41] (((r21).tail).tail) = .ok (((r21).tail).tail).tail) := by rw [Hid, takeT, q68]; rfl
      refine (take169_ok pb tb deep _ ((r21).tail).tail ⟨#[41]⟩ (by decide) _ (HP66.out.alloc (.cells #[.string ⟨#[41]⟩] 9)) (hp_top (by simp [World.setCell])) q68).mono ?_
      rintro e w71 ⟨rfl, hp72, hb73⟩
      have hb73 := ((Bt.refl pb (w54.setCell ⟨w.heap.size, 4, none⟩ (.bool true))).alloc (.cells #[.string ⟨#[41]⟩] 9)).trans hb73
      clear q68
      have HP74 := Lib.hid hp72
      have HB75 := Lib.hid (HB67.out.trans hb73)
      have HK76 := Lib.hid (hb73.at HK65.out (by omega))
      clear hp72 hb73
      go_wp2_with fail
      first | refine bodyPost_ret (results_cell_row rfl _ _ _ _ _ _ _ rfl HK76.out Tryz.underlying26 rfl (by kernel_rfl)) rfl ?_ | refine And.intro rfl (Exists.intro _ (And.intro (results_cell_row rfl _ _ _ _ _ _ _ rfl HK76.out Tryz.underlying26 rfl (by kernel_rfl)) ?_))
      have hfin := intervalR_eq l
      simp only [Q3.out, NF29.out, TF44.out, Q53.out, TF70.out, if_true] at hfin
      rw [hfin]
      exact ⟨rfl, HP74.out, HB75.out⟩
     | false =>
      have TF77 : Hid (takeT [41] (((r21).tail).tail) = .error (170, placeT (((r21).tail).tail))) := by rw [Hid, takeT, q68]; rfl
      refine (take169_no pb tb deep _ ((r21).tail).tail ⟨#[41]⟩ (by decide) _ (HP66.out.alloc (.cells #[.string ⟨#[41]⟩] 9)) (hp_top (by simp [World.setCell])) q68).mono ?_
      rintro e w78 ⟨rfl, hb80⟩
      have hb80 := ((Bt.refl pb (w54.setCell ⟨w.heap.size, 4, none⟩ (.bool true))).alloc (.cells #[.string ⟨#[41]⟩] 9)).trans hb80
      clear q68
      have HE81 := Lib.hid (HB67.out.trans hb80)
      clear hb80
      go_wp2_with fail
      refine ⟨rfl, ?_⟩
      have hfin := intervalR_eq l
      simp only [Q3.out, NF29.out, TF44.out, Q53.out, TF77.out, if_true] at hfin
      rw [hfin]
      exact ⟨rfl, HE81.out⟩
    | false =>
     have Q82 := Lib.hid q52
     rw [q52] at HM51
     simp only [Bool.false_eq_true, if_false] at HM51
     clear q52
     refine HM51.out.mono ?_
     rintro e w83 ⟨rfl, hp84, hb85⟩
     have HP86 := Lib.hid hp84
     have HB87 := Lib.hid (HB49.out.trans hb85)
     have HK88 := Lib.hid (hb85.at HK50.out (by omega))
     clear hp84 hb85
     have hk89 := HK88.out
     have e90 := Lib.cell_of_heap hk89 4
     have f91 := Lib.frozen_of_heap hk89 4
     have lt92 := (Array.getElem?_eq_some_iff.1 hk89).1
     have HK94 : Hid ((w83.setCell ⟨w.heap.size, 4, none⟩ (.bool false)).heap[w.heap.size]? = some (.cells #[.int .i64 D30, .bool true, .int .i64 0, .bool false, .bool false] 26 (0, 0))) := setCell_at hk89 4 _
     have g93 := Lib.cell_of_heap HK94.out 4
     simp only [List.getElem?_toArray, List.getElem?_cons_zero, List.getElem?_cons_succ] at e90 g93
     have HP95 := Lib.hid (HP86.out.setCell (g := w.heap.size) (by omega) htb 4 (.bool false))
     have HB96 := Lib.hid (HB87.out.setCell (Nat.le_refl _) 4 (.bool false))
     clear hk89
     go_wp2_with fail
     obtain ⟨⟨tk97, ts98, tp99⟩, r100, hl101⟩ := HP95.out.ends.cons
     have HX102 : Hid (Ps pb tb (w83.setCell ⟨w.heap.size, 4, none⟩ (.bool false)) (⟨tk97, ts98, tp99⟩ :: r100) deep) := Lib.hid (by have := HP95.out; rw [hl101] at this; exact this)
     have HL103 := Lib.hid hl101
     clear hl101
     by_cases q104 : tk97 = 2
     ·subst q104
      have NF108 : Hid (numR ((r21).tail) = .ok (digitsV ts98.data.toList, r100)) := by rw [Hid, HL103.out]; rfl
      refine (number180_ok pb tb deep ts98 tp99 r100 _ HX102.out).mono ?_
      rintro e w105 ⟨rfl, hp106, hb107⟩
      have HP110 := Lib.hid hp106
      have HB111 := Lib.hid (HB96.out.trans hb107)
      have HK112 := Lib.hid (hb107.at HK94.out (by omega))
      clear hp106 hb107
      generalize D109E : digitsV ts98.data.toList = D109 at NF108 ⊢
      clear D109E
      have hk113 := HK112.out
      have e114 := Lib.cell_of_heap hk113 2
      have f115 := Lib.frozen_of_heap hk113 2
      have lt116 := (Array.getElem?_eq_some_iff.1 hk113).1
      have HK118 : Hid ((w105.setCell ⟨w.heap.size, 2, none⟩ (.int .i64 D109)).heap[w.heap.size]? = some (.cells #[.int .i64 D30, .bool true, .int .i64 D109, .bool false, .bool false] 26 (0, 0))) := setCell_at hk113 2 _
      have g117 := Lib.cell_of_heap HK118.out 2
      simp only [List.getElem?_toArray, List.getElem?_cons_zero, List.getElem?_cons_succ] at e114 g117
      have HP119 := Lib.hid (HP110.out.setCell (g := w.heap.size) (by omega) htb 2 (.int .i64 D109))
      have HB120 := Lib.hid (HB111.out.setCell (Nat.le_refl _) 2 (.int .i64 D109))
      clear hk113
      go_wp2_with fail
      have HM121 := Lib.hid (may139_any pb tb deep r100 ⟨#[41]⟩ (by decide) _ HP119.out)
      have HM121 : Hid (Calls Tryz.prog 139 #[.pointer (some ⟨pb, 0, none⟩), .string ⟨#[41]⟩] (w105.setCell ⟨w.heap.size, 2, none⟩ (.int .i64 D109)) fun e w' => e = .returned (.bool (isT [41] r100)) ∧ Ps pb tb w' (if isT [41] r100 then (r100).tail else r100) deep ∧ Bt pb (w105.setCell ⟨w.heap.size, 2, none⟩ (.int .i64 D109)) w') := HM121
      cases q122 : isT [41] r100 with
      | true =>
       have Q123 := Lib.hid q122
       rw [q122] at HM121
       simp only [if_true] at HM121
       clear q122
       refine HM121.out.mono ?_
       rintro e w124 ⟨rfl, hp125, hb126⟩
       have HP127 := Lib.hid hp125
       have HB128 := Lib.hid (HB120.out.trans hb126)
       have HK129 := Lib.hid (hb126.at HK118.out (by omega))
       clear hp125 hb126
       have hk130 := HK129.out
       have e131 := Lib.cell_of_heap hk130 3
       have f132 := Lib.frozen_of_heap hk130 3
       have lt133 := (Array.getElem?_eq_some_iff.1 hk130).1
       have HK135 : Hid ((w124.setCell ⟨w.heap.size, 3, none⟩ (.bool true)).heap[w.heap.size]? = some (.cells #[.int .i64 D30, .bool true, .int .i64 D109, .bool true, .bool false] 26 (0, 0))) := setCell_at hk130 3 _
       have g134 := Lib.cell_of_heap HK135.out 3
       simp only [List.getElem?_toArray, List.getElem?_cons_zero, List.getElem?_cons_succ] at e131 g134
       have HP136 := Lib.hid (HP127.out.setCell (g := w.heap.size) (by omega) htb 3 (.bool true))
       have HB137 := Lib.hid (HB128.out.setCell (Nat.le_refl _) 3 (.bool true))
       clear hk130
       go_wp2_with fail
       first | refine bodyPost_ret (results_cell_row rfl _ _ _ _ _ _ _ rfl HK135.out Tryz.underlying26 rfl (by kernel_rfl)) rfl ?_ | refine And.intro rfl (Exists.intro _ (And.intro (results_cell_row rfl _ _ _ _ _ _ _ rfl HK135.out Tryz.underlying26 rfl (by kernel_rfl)) ?_))
       have hfin := intervalR_eq l
       simp only [Q3.out, NF29.out, TF44.out, Q82.out, NF108.out, Q123.out, if_true, if_false, Bool.false_eq_true] at hfin
       rw [hfin]
       exact ⟨rfl, HP136.out, HB137.out⟩
      | false =>
       have Q138 := Lib.hid q122
       rw [q122] at HM121
       simp only [Bool.false_eq_true, if_false] at HM121
       clear q122
       refine HM121.out.mono ?_
       rintro e w139 ⟨rfl, hp140, hb141⟩
       have HP142 := Lib.hid hp140
       have HB143 := Lib.hid (HB120.out.trans hb141)
       have HK144 := Lib.hid (hb141.at HK118.out (by omega))
       clear hp140 hb141
       have hk145 := HK144.out
       have e146 := Lib.cell_of_heap hk145 3
       have f147 := Lib.frozen_of_heap hk145 3
       have lt148 := (Array.getElem?_eq_some_iff.1 hk145).1
       have HK150 : Hid ((w139.setCell ⟨w.heap.size, 3, none⟩ (.bool false)).heap[w.heap.size]? = some (.cells #[.int .i64 D30, .bool true, .int .i64 D109, .bool false, .bool false] 26 (0, 0))) := setCell_at hk145 3 _
       have g149 := Lib.cell_of_heap HK150.out 3
       simp only [List.getElem?_toArray, List.getElem?_cons_zero, List.getElem?_cons_succ] at e146 g149
       have HP151 := Lib.hid (HP142.out.setCell (g := w.heap.size) (by omega) htb 3 (.bool false))
       have HB152 := Lib.hid (HB143.out.setCell (Nat.le_refl _) 3 (.bool false))
       clear hk145
       go_wp2_with fail
       cases q153 : isT [93] r100 with
       | true =>
        have TF155 : Hid (takeT [93] (r100) = .ok (r100).tail) := by rw [Hid, takeT, q153]; rfl
        refine (take169_ok pb tb deep _ r100 ⟨#[93]⟩ (by decide) _ (HP151.out.alloc (.cells #[.string ⟨#[93]⟩] 9)) (hp_top (by simp [World.setCell])) q153).mono ?_
        rintro e w156 ⟨rfl, hp157, hb158⟩
        have hb158 := ((Bt.refl pb (w139.setCell ⟨w.heap.size, 3, none⟩ (.bool false))).alloc (.cells #[.string ⟨#[93]⟩] 9)).trans hb158
        clear q153
        have HP159 := Lib.hid hp157
        have HB160 := Lib.hid (HB152.out.trans hb158)
        have HK161 := Lib.hid (hb158.at HK150.out (by omega))
        clear hp157 hb158
        go_wp2_with fail
        first | refine bodyPost_ret (results_cell_row rfl _ _ _ _ _ _ _ rfl HK161.out Tryz.underlying26 rfl (by kernel_rfl)) rfl ?_ | refine And.intro rfl (Exists.intro _ (And.intro (results_cell_row rfl _ _ _ _ _ _ _ rfl HK161.out Tryz.underlying26 rfl (by kernel_rfl)) ?_))
        have hfin := intervalR_eq l
        simp only [Q3.out, NF29.out, TF44.out, Q82.out, NF108.out, Q138.out, TF155.out, if_true, if_false, Bool.false_eq_true] at hfin
        rw [hfin]
        exact ⟨rfl, HP159.out, HB160.out⟩
       | false =>
        have TF162 : Hid (takeT [93] (r100) = .error (170, placeT (r100))) := by rw [Hid, takeT, q153]; rfl
        refine (take169_no pb tb deep _ r100 ⟨#[93]⟩ (by decide) _ (HP151.out.alloc (.cells #[.string ⟨#[93]⟩] 9)) (hp_top (by simp [World.setCell])) q153).mono ?_
        rintro e w163 ⟨rfl, hb165⟩
        have hb165 := ((Bt.refl pb (w139.setCell ⟨w.heap.size, 3, none⟩ (.bool false))).alloc (.cells #[.string ⟨#[93]⟩] 9)).trans hb165
        clear q153
        have HE166 := Lib.hid (HB152.out.trans hb165)
        clear hb165
        go_wp2_with fail
        refine ⟨rfl, ?_⟩
        have hfin := intervalR_eq l
        simp only [Q3.out, NF29.out, TF44.out, Q82.out, NF108.out, Q138.out, TF162.out, if_true, if_false, Bool.false_eq_true] at hfin
        rw [hfin]
        exact ⟨rfl, HE166.out⟩
     ·have NF108 : Hid (numR ((r21).tail) = .error (170, tp99)) := by rw [Hid, HL103.out]; simp only [numR, q104, if_false, failR, placeT]
      refine (number180_no pb tb deep tk97 ts98 tp99 r100 _ HX102.out q104).mono ?_
      rintro e w105 ⟨rfl, hb107⟩
      have HE167 := Lib.hid (HB96.out.trans hb107)
      clear hb107
      go_wp2_with fail
      refine ⟨rfl, ?_⟩
      have hfin := intervalR_eq l
      simp only [Q3.out, NF29.out, TF44.out, Q82.out, NF108.out, if_true, if_false, Bool.false_eq_true] at hfin
      rw [hfin]
      exact ⟨rfl, HE167.out⟩
   | false =>
    have TF168 : Hid (takeT [44] (r21) = .error (170, placeT (r21))) := by rw [Hid, takeT, q42]; rfl
    refine (take169_no pb tb deep _ r21 ⟨#[44]⟩ (by decide) _ (HP40.out.alloc (.cells #[.string ⟨#[44]⟩] 9)) (hp_top (by simp [World.setCell])) q42).mono ?_
    rintro e w169 ⟨rfl, hb171⟩
    have hb171 := ((Bt.refl pb (w26.setCell ⟨w.heap.size, 0, none⟩ (.int .i64 D30))).alloc (.cells #[.string ⟨#[44]⟩] 9)).trans hb171
    clear q42
    have HE172 := Lib.hid (HB41.out.trans hb171)
    clear hb171
    go_wp2_with fail
    refine ⟨rfl, ?_⟩
    have hfin := intervalR_eq l
    simp only [Q3.out, NF29.out, TF168.out, if_true] at hfin
    rw [hfin]
    exact ⟨rfl, HE172.out⟩
  ·have NF29 : Hid (numR ((l).tail) = .error (170, tp20)) := by rw [Hid, HL24.out]; simp only [numR, q25, if_false, failR, placeT]
   refine (number180_no pb tb deep tk18 ts19 tp20 r21 _ HX23.out q25).mono ?_
   rintro e w26 ⟨rfl, hb28⟩
   have HE173 := Lib.hid (HB17.out.trans hb28)
   clear hb28
   go_wp2_with fail
   refine ⟨rfl, ?_⟩
   have hfin := intervalR_eq l
   simp only [Q3.out, NF29.out, if_true] at hfin
   rw [hfin]
   exact ⟨rfl, HE173.out⟩
 | false =>
  have Q174 := Lib.hid q2
  rw [q2] at HM1
  simp only [Bool.false_eq_true, if_false] at HM1
  clear q2
  refine HM1.out.mono ?_
  rintro e w175 ⟨rfl, hp176, hb177⟩
  have HP178 := Lib.hid hp176
  have HB179 := Lib.hid (HB0.out.trans hb177)
  have HK180 := Lib.hid (hb177.at HK0.out (by omega))
  clear hp176 hb177
  have hk181 := HK180.out
  have e182 := Lib.cell_of_heap hk181 1
  have f183 := Lib.frozen_of_heap hk181 1
  have lt184 := (Array.getElem?_eq_some_iff.1 hk181).1
  have HK186 : Hid ((w175.setCell ⟨w.heap.size, 1, none⟩ (.bool false)).heap[w.heap.size]? = some (.cells #[.int .i64 0, .bool false, .int .i64 0, .bool false, .bool false] 26 (0, 0))) := setCell_at hk181 1 _
  have g185 := Lib.cell_of_heap HK186.out 1
  simp only [List.getElem?_toArray, List.getElem?_cons_zero, List.getElem?_cons_succ] at e182 g185
  have HP187 := Lib.hid (HP178.out.setCell (g := w.heap.size) (by omega) htb 1 (.bool false))
  have HB188 := Lib.hid (HB179.out.setCell (Nat.le_refl _) 1 (.bool false))
  clear hk181
  go_wp2_with fail
  cases q189 : isT [91] l with
  | true =>
   have TF191 : Hid (takeT [91] (l) = .ok (l).tail) := by rw [Hid, takeT, q189]; rfl
   refine (take169_ok pb tb deep _ l ⟨#[91]⟩ (by decide) _ (HP187.out.alloc (.cells #[.string ⟨#[91]⟩] 9)) (hp_top (by simp [World.setCell])) q189).mono ?_
   rintro e w192 ⟨rfl, hp193, hb194⟩
   have hb194 := ((Bt.refl pb (w175.setCell ⟨w.heap.size, 1, none⟩ (.bool false))).alloc (.cells #[.string ⟨#[91]⟩] 9)).trans hb194
   clear q189
   have HP195 := Lib.hid hp193
   have HB196 := Lib.hid (HB188.out.trans hb194)
   have HK197 := Lib.hid (hb194.at HK186.out (by omega))
   clear hp193 hb194
   go_wp2_with fail
   obtain ⟨⟨tk198, ts199, tp200⟩, r201, hl202⟩ := HP195.out.ends.cons
   have HX203 : Hid (Ps pb tb w192 (⟨tk198, ts199, tp200⟩ :: r201) deep) := Lib.hid (by have := HP195.out; rw [hl202] at this; exact this)
   have HL204 := Lib.hid hl202
   clear hl202
   by_cases q205 : tk198 = 2
   ·subst q205
    have NF209 : Hid (numR ((l).tail) = .ok (digitsV ts199.data.toList, r201)) := by rw [Hid, HL204.out]; rfl
    refine (number180_ok pb tb deep ts199 tp200 r201 _ HX203.out).mono ?_
    rintro e w206 ⟨rfl, hp207, hb208⟩
    have HP211 := Lib.hid hp207
    have HB212 := Lib.hid (HB196.out.trans hb208)
    have HK213 := Lib.hid (hb208.at HK197.out (by omega))
    clear hp207 hb208
    generalize D210E : digitsV ts199.data.toList = D210 at NF209 ⊢
    clear D210E
    have hk214 := HK213.out
    have e215 := Lib.cell_of_heap hk214 0
    have f216 := Lib.frozen_of_heap hk214 0
    have lt217 := (Array.getElem?_eq_some_iff.1 hk214).1
    have HK219 : Hid ((w206.setCell ⟨w.heap.size, 0, none⟩ (.int .i64 D210)).heap[w.heap.size]? = some (.cells #[.int .i64 D210, .bool false, .int .i64 0, .bool false, .bool false] 26 (0, 0))) := setCell_at hk214 0 _
    have g218 := Lib.cell_of_heap HK219.out 0
    simp only [List.getElem?_toArray, List.getElem?_cons_zero] at e215 g218
    have HP220 := Lib.hid (HP211.out.setCell (g := w.heap.size) (by omega) htb 0 (.int .i64 D210))
    have HB221 := Lib.hid (HB212.out.setCell (Nat.le_refl _) 0 (.int .i64 D210))
    clear hk214
    go_wp2_with fail
    cases q222 : isT [44] r201 with
    | true =>
     have TF224 : Hid (takeT [44] (r201) = .ok (r201).tail) := by rw [Hid, takeT, q222]; rfl
     refine (take169_ok pb tb deep _ r201 ⟨#[44]⟩ (by decide) _ (HP220.out.alloc (.cells #[.string ⟨#[44]⟩] 9)) (hp_top (by simp [World.setCell])) q222).mono ?_
     rintro e w225 ⟨rfl, hp226, hb227⟩
     have hb227 := ((Bt.refl pb (w206.setCell ⟨w.heap.size, 0, none⟩ (.int .i64 D210))).alloc (.cells #[.string ⟨#[44]⟩] 9)).trans hb227
     clear q222
     have HP228 := Lib.hid hp226
     have HB229 := Lib.hid (HB221.out.trans hb227)
     have HK230 := Lib.hid (hb227.at HK219.out (by omega))
     clear hp226 hb227
     go_wp2_with fail
     have HM231 := Lib.hid (may139_any pb tb deep (r201).tail ⟨#[111, 111]⟩ (by decide) _ HP228.out)
     have HM231 : Hid (Calls Tryz.prog 139 #[.pointer (some ⟨pb, 0, none⟩), .string ⟨#[111, 111]⟩] w225 fun e w' => e = .returned (.bool (isT [111, 111] (r201).tail)) ∧ Ps pb tb w' (if isT [111, 111] (r201).tail then ((r201).tail).tail else (r201).tail) deep ∧ Bt pb w225 w') := HM231
     cases q232 : isT [111, 111] (r201).tail with
     | true =>
      have Q233 := Lib.hid q232
      rw [q232] at HM231
      simp only [if_true] at HM231
      clear q232
      refine HM231.out.mono ?_
      rintro e w234 ⟨rfl, hp235, hb236⟩
      have HP237 := Lib.hid hp235
      have HB238 := Lib.hid (HB229.out.trans hb236)
      have HK239 := Lib.hid (hb236.at HK230.out (by omega))
      clear hp235 hb236
      have hk240 := HK239.out
      have e241 := Lib.cell_of_heap hk240 4
      have f242 := Lib.frozen_of_heap hk240 4
      have lt243 := (Array.getElem?_eq_some_iff.1 hk240).1
      have HK245 : Hid ((w234.setCell ⟨w.heap.size, 4, none⟩ (.bool true)).heap[w.heap.size]? = some (.cells #[.int .i64 D210, .bool false, .int .i64 0, .bool false, .bool true] 26 (0, 0))) := setCell_at hk240 4 _
      have g244 := Lib.cell_of_heap HK245.out 4
      simp only [List.getElem?_toArray, List.getElem?_cons_zero, List.getElem?_cons_succ] at e241 g244
      have HP246 := Lib.hid (HP237.out.setCell (g := w.heap.size) (by omega) htb 4 (.bool true))
      have HB247 := Lib.hid (HB238.out.setCell (Nat.le_refl _) 4 (.bool true))
      clear hk240
      go_wp2_with fail
      cases q248 : isT [41] ((r201).tail).tail with
      | true =>
       have TF250 : Hid (takeT [41] (((r201).tail).tail) = .ok (((r201).tail).tail).tail) := by rw [Hid, takeT, q248]; rfl
       refine (take169_ok pb tb deep _ ((r201).tail).tail ⟨#[41]⟩ (by decide) _ (HP246.out.alloc (.cells #[.string ⟨#[41]⟩] 9)) (hp_top (by simp [World.setCell])) q248).mono ?_
       rintro e w251 ⟨rfl, hp252, hb253⟩
       have hb253 := ((Bt.refl pb (w234.setCell ⟨w.heap.size, 4, none⟩ (.bool true))).alloc (.cells #[.string ⟨#[41]⟩] 9)).trans hb253
       clear q248
       have HP254 := Lib.hid hp252
       have HB255 := Lib.hid (HB247.out.trans hb253)
       have HK256 := Lib.hid (hb253.at HK245.out (by omega))
       clear hp252 hb253
       go_wp2_with fail
       first | refine bodyPost_ret (results_cell_row rfl _ _ _ _ _ _ _ rfl HK256.out Tryz.underlying26 rfl (by kernel_rfl)) rfl ?_ | refine And.intro rfl (Exists.intro _ (And.intro (results_cell_row rfl _ _ _ _ _ _ _ rfl HK256.out Tryz.underlying26 rfl (by kernel_rfl)) ?_))
       have hfin := intervalR_eq l
       simp only [Q174.out, TF191.out, NF209.out, TF224.out, Q233.out, TF250.out, if_true, if_false, Bool.false_eq_true] at hfin
       rw [hfin]
       exact ⟨rfl, HP254.out, HB255.out⟩
      | false =>
       have TF257 : Hid (takeT [41] (((r201).tail).tail) = .error (170, placeT (((r201).tail).tail))) := by rw [Hid, takeT, q248]; rfl
       refine (take169_no pb tb deep _ ((r201).tail).tail ⟨#[41]⟩ (by decide) _ (HP246.out.alloc (.cells #[.string ⟨#[41]⟩] 9)) (hp_top (by simp [World.setCell])) q248).mono ?_
       rintro e w258 ⟨rfl, hb260⟩
       have hb260 := ((Bt.refl pb (w234.setCell ⟨w.heap.size, 4, none⟩ (.bool true))).alloc (.cells #[.string ⟨#[41]⟩] 9)).trans hb260
       clear q248
       have HE261 := Lib.hid (HB247.out.trans hb260)
       clear hb260
       go_wp2_with fail
       refine ⟨rfl, ?_⟩
       have hfin := intervalR_eq l
       simp only [Q174.out, TF191.out, NF209.out, TF224.out, Q233.out, TF257.out, if_true, if_false, Bool.false_eq_true] at hfin
       rw [hfin]
       exact ⟨rfl, HE261.out⟩
     | false =>
      have Q262 := Lib.hid q232
      rw [q232] at HM231
      simp only [Bool.false_eq_true, if_false] at HM231
      clear q232
      refine HM231.out.mono ?_
      rintro e w263 ⟨rfl, hp264, hb265⟩
      have HP266 := Lib.hid hp264
      have HB267 := Lib.hid (HB229.out.trans hb265)
      have HK268 := Lib.hid (hb265.at HK230.out (by omega))
      clear hp264 hb265
      have hk269 := HK268.out
      have e270 := Lib.cell_of_heap hk269 4
      have f271 := Lib.frozen_of_heap hk269 4
      have lt272 := (Array.getElem?_eq_some_iff.1 hk269).1
      have HK274 : Hid ((w263.setCell ⟨w.heap.size, 4, none⟩ (.bool false)).heap[w.heap.size]? = some (.cells #[.int .i64 D210, .bool false, .int .i64 0, .bool false, .bool false] 26 (0, 0))) := setCell_at hk269 4 _
      have g273 := Lib.cell_of_heap HK274.out 4
      simp only [List.getElem?_toArray, List.getElem?_cons_zero, List.getElem?_cons_succ] at e270 g273
      have HP275 := Lib.hid (HP266.out.setCell (g := w.heap.size) (by omega) htb 4 (.bool false))
      have HB276 := Lib.hid (HB267.out.setCell (Nat.le_refl _) 4 (.bool false))
      clear hk269
      go_wp2_with fail
      obtain ⟨⟨tk277, ts278, tp279⟩, r280, hl281⟩ := HP275.out.ends.cons
      have HX282 : Hid (Ps pb tb (w263.setCell ⟨w.heap.size, 4, none⟩ (.bool false)) (⟨tk277, ts278, tp279⟩ :: r280) deep) := Lib.hid (by have := HP275.out; rw [hl281] at this; exact this)
      have HL283 := Lib.hid hl281
      clear hl281
      by_cases q284 : tk277 = 2
      ·subst q284
       have NF288 : Hid (numR ((r201).tail) = .ok (digitsV ts278.data.toList, r280)) := by rw [Hid, HL283.out]; rfl
       refine (number180_ok pb tb deep ts278 tp279 r280 _ HX282.out).mono ?_
       rintro e w285 ⟨rfl, hp286, hb287⟩
       have HP290 := Lib.hid hp286
       have HB291 := Lib.hid (HB276.out.trans hb287)
       have HK292 := Lib.hid (hb287.at HK274.out (by omega))
       clear hp286 hb287
       generalize D289E : digitsV ts278.data.toList = D289 at NF288 ⊢
       clear D289E
       have hk293 := HK292.out
       have e294 := Lib.cell_of_heap hk293 2
       have f295 := Lib.frozen_of_heap hk293 2
       have lt296 := (Array.getElem?_eq_some_iff.1 hk293).1
       have HK298 : Hid ((w285.setCell ⟨w.heap.size, 2, none⟩ (.int .i64 D289)).heap[w.heap.size]? = some (.cells #[.int .i64 D210, .bool false, .int .i64 D289, .bool false, .bool false] 26 (0, 0))) := setCell_at hk293 2 _
       have g297 := Lib.cell_of_heap HK298.out 2
       simp only [List.getElem?_toArray, List.getElem?_cons_zero, List.getElem?_cons_succ] at e294 g297
       have HP299 := Lib.hid (HP290.out.setCell (g := w.heap.size) (by omega) htb 2 (.int .i64 D289))
       have HB300 := Lib.hid (HB291.out.setCell (Nat.le_refl _) 2 (.int .i64 D289))
       clear hk293
       go_wp2_with fail
       have HM301 := Lib.hid (may139_any pb tb deep r280 ⟨#[41]⟩ (by decide) _ HP299.out)
       have HM301 : Hid (Calls Tryz.prog 139 #[.pointer (some ⟨pb, 0, none⟩), .string ⟨#[41]⟩] (w285.setCell ⟨w.heap.size, 2, none⟩ (.int .i64 D289)) fun e w' => e = .returned (.bool (isT [41] r280)) ∧ Ps pb tb w' (if isT [41] r280 then (r280).tail else r280) deep ∧ Bt pb (w285.setCell ⟨w.heap.size, 2, none⟩ (.int .i64 D289)) w') := HM301
       cases q302 : isT [41] r280 with
       | true =>
        have Q303 := Lib.hid q302
        rw [q302] at HM301
        simp only [if_true] at HM301
        clear q302
        refine HM301.out.mono ?_
        rintro e w304 ⟨rfl, hp305, hb306⟩
        have HP307 := Lib.hid hp305
        have HB308 := Lib.hid (HB300.out.trans hb306)
        have HK309 := Lib.hid (hb306.at HK298.out (by omega))
        clear hp305 hb306
        have hk310 := HK309.out
        have e311 := Lib.cell_of_heap hk310 3
        have f312 := Lib.frozen_of_heap hk310 3
        have lt313 := (Array.getElem?_eq_some_iff.1 hk310).1
        have HK315 : Hid ((w304.setCell ⟨w.heap.size, 3, none⟩ (.bool true)).heap[w.heap.size]? = some (.cells #[.int .i64 D210, .bool false, .int .i64 D289, .bool true, .bool false] 26 (0, 0))) := setCell_at hk310 3 _
        have g314 := Lib.cell_of_heap HK315.out 3
        simp only [List.getElem?_toArray, List.getElem?_cons_zero, List.getElem?_cons_succ] at e311 g314
        have HP316 := Lib.hid (HP307.out.setCell (g := w.heap.size) (by omega) htb 3 (.bool true))
        have HB317 := Lib.hid (HB308.out.setCell (Nat.le_refl _) 3 (.bool true))
        clear hk310
        go_wp2_with fail
        first | refine bodyPost_ret (results_cell_row rfl _ _ _ _ _ _ _ rfl HK315.out Tryz.underlying26 rfl (by kernel_rfl)) rfl ?_ | refine And.intro rfl (Exists.intro _ (And.intro (results_cell_row rfl _ _ _ _ _ _ _ rfl HK315.out Tryz.underlying26 rfl (by kernel_rfl)) ?_))
        have hfin := intervalR_eq l
        simp only [Q174.out, TF191.out, NF209.out, TF224.out, Q262.out, NF288.out, Q303.out, if_true, if_false, Bool.false_eq_true] at hfin
        rw [hfin]
        exact ⟨rfl, HP316.out, HB317.out⟩
       | false =>
        have Q318 := Lib.hid q302
        rw [q302] at HM301
        simp only [Bool.false_eq_true, if_false] at HM301
        clear q302
        refine HM301.out.mono ?_
        rintro e w319 ⟨rfl, hp320, hb321⟩
        have HP322 := Lib.hid hp320
        have HB323 := Lib.hid (HB300.out.trans hb321)
        have HK324 := Lib.hid (hb321.at HK298.out (by omega))
        clear hp320 hb321
        have hk325 := HK324.out
        have e326 := Lib.cell_of_heap hk325 3
        have f327 := Lib.frozen_of_heap hk325 3
        have lt328 := (Array.getElem?_eq_some_iff.1 hk325).1
        have HK330 : Hid ((w319.setCell ⟨w.heap.size, 3, none⟩ (.bool false)).heap[w.heap.size]? = some (.cells #[.int .i64 D210, .bool false, .int .i64 D289, .bool false, .bool false] 26 (0, 0))) := setCell_at hk325 3 _
        have g329 := Lib.cell_of_heap HK330.out 3
        simp only [List.getElem?_toArray, List.getElem?_cons_zero, List.getElem?_cons_succ] at e326 g329
        have HP331 := Lib.hid (HP322.out.setCell (g := w.heap.size) (by omega) htb 3 (.bool false))
        have HB332 := Lib.hid (HB323.out.setCell (Nat.le_refl _) 3 (.bool false))
        clear hk325
        go_wp2_with fail
        cases q333 : isT [93] r280 with
        | true =>
         have TF335 : Hid (takeT [93] (r280) = .ok (r280).tail) := by rw [Hid, takeT, q333]; rfl
         refine (take169_ok pb tb deep _ r280 ⟨#[93]⟩ (by decide) _ (HP331.out.alloc (.cells #[.string ⟨#[93]⟩] 9)) (hp_top (by simp [World.setCell])) q333).mono ?_
         rintro e w336 ⟨rfl, hp337, hb338⟩
         have hb338 := ((Bt.refl pb (w319.setCell ⟨w.heap.size, 3, none⟩ (.bool false))).alloc (.cells #[.string ⟨#[93]⟩] 9)).trans hb338
         clear q333
         have HP339 := Lib.hid hp337
         have HB340 := Lib.hid (HB332.out.trans hb338)
         have HK341 := Lib.hid (hb338.at HK330.out (by omega))
         clear hp337 hb338
         go_wp2_with fail
         first | refine bodyPost_ret (results_cell_row rfl _ _ _ _ _ _ _ rfl HK341.out Tryz.underlying26 rfl (by kernel_rfl)) rfl ?_ | refine And.intro rfl (Exists.intro _ (And.intro (results_cell_row rfl _ _ _ _ _ _ _ rfl HK341.out Tryz.underlying26 rfl (by kernel_rfl)) ?_))
         have hfin := intervalR_eq l
         simp only [Q174.out, TF191.out, NF209.out, TF224.out, Q262.out, NF288.out, Q318.out, TF335.out, if_false, Bool.false_eq_true] at hfin
         rw [hfin]
         exact ⟨rfl, HP339.out, HB340.out⟩
        | false =>
         have TF342 : Hid (takeT [93] (r280) = .error (170, placeT (r280))) := by rw [Hid, takeT, q333]; rfl
         refine (take169_no pb tb deep _ r280 ⟨#[93]⟩ (by decide) _ (HP331.out.alloc (.cells #[.string ⟨#[93]⟩] 9)) (hp_top (by simp [World.setCell])) q333).mono ?_
         rintro e w343 ⟨rfl, hb345⟩
         have hb345 := ((Bt.refl pb (w319.setCell ⟨w.heap.size, 3, none⟩ (.bool false))).alloc (.cells #[.string ⟨#[93]⟩] 9)).trans hb345
         clear q333
         have HE346 := Lib.hid (HB332.out.trans hb345)
         clear hb345
         go_wp2_with fail
         refine ⟨rfl, ?_⟩
         have hfin := intervalR_eq l
         simp only [Q174.out, TF191.out, NF209.out, TF224.out, Q262.out, NF288.out, Q318.out, TF342.out, if_false, Bool.false_eq_true] at hfin
         rw [hfin]
         exact ⟨rfl, HE346.out⟩
      ·have NF288 : Hid (numR ((r201).tail) = .error (170, tp279)) := by rw [Hid, HL283.out]; simp only [numR, q284, if_false, failR, placeT]
       refine (number180_no pb tb deep tk277 ts278 tp279 r280 _ HX282.out q284).mono ?_
       rintro e w285 ⟨rfl, hb287⟩
       have HE347 := Lib.hid (HB276.out.trans hb287)
       clear hb287
       go_wp2_with fail
       refine ⟨rfl, ?_⟩
       have hfin := intervalR_eq l
       simp only [Q174.out, TF191.out, NF209.out, TF224.out, Q262.out, NF288.out, if_false, Bool.false_eq_true] at hfin
       rw [hfin]
       exact ⟨rfl, HE347.out⟩
    | false =>
     have TF348 : Hid (takeT [44] (r201) = .error (170, placeT (r201))) := by rw [Hid, takeT, q222]; rfl
     refine (take169_no pb tb deep _ r201 ⟨#[44]⟩ (by decide) _ (HP220.out.alloc (.cells #[.string ⟨#[44]⟩] 9)) (hp_top (by simp [World.setCell])) q222).mono ?_
     rintro e w349 ⟨rfl, hb351⟩
     have hb351 := ((Bt.refl pb (w206.setCell ⟨w.heap.size, 0, none⟩ (.int .i64 D210))).alloc (.cells #[.string ⟨#[44]⟩] 9)).trans hb351
     clear q222
     have HE352 := Lib.hid (HB221.out.trans hb351)
     clear hb351
     go_wp2_with fail
     refine ⟨rfl, ?_⟩
     have hfin := intervalR_eq l
     simp only [Q174.out, TF191.out, NF209.out, TF348.out, if_false, Bool.false_eq_true] at hfin
     rw [hfin]
     exact ⟨rfl, HE352.out⟩
   ·have NF209 : Hid (numR ((l).tail) = .error (170, tp200)) := by rw [Hid, HL204.out]; simp only [numR, q205, if_false, failR, placeT]
    refine (number180_no pb tb deep tk198 ts199 tp200 r201 _ HX203.out q205).mono ?_
    rintro e w206 ⟨rfl, hb208⟩
    have HE353 := Lib.hid (HB196.out.trans hb208)
    clear hb208
    go_wp2_with fail
    refine ⟨rfl, ?_⟩
    have hfin := intervalR_eq l
    simp only [Q174.out, TF191.out, NF209.out, if_false, Bool.false_eq_true] at hfin
    rw [hfin]
    exact ⟨rfl, HE353.out⟩
  | false =>
   have TF354 : Hid (takeT [91] (l) = .error (170, placeT (l))) := by rw [Hid, takeT, q189]; rfl
   refine (take169_no pb tb deep _ l ⟨#[91]⟩ (by decide) _ (HP187.out.alloc (.cells #[.string ⟨#[91]⟩] 9)) (hp_top (by simp [World.setCell])) q189).mono ?_
   rintro e w355 ⟨rfl, hb357⟩
   have hb357 := ((Bt.refl pb (w175.setCell ⟨w.heap.size, 1, none⟩ (.bool false))).alloc (.cells #[.string ⟨#[91]⟩] 9)).trans hb357
   clear q189
   have HE358 := Lib.hid (HB188.out.trans hb357)
   clear hb357
   go_wp2_with fail
   refine ⟨rfl, ?_⟩
   have hfin := intervalR_eq l
   simp only [Q174.out, TF354.out, if_false, Bool.false_eq_true] at hfin
   rw [hfin]
   exact ⟨rfl, HE358.out⟩
end Go.Proofs.YtpgdplmndnopbaaGreatDoor