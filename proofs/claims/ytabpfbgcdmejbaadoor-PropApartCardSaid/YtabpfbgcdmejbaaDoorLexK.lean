/- lex.row: the token that letters and digits in a row are. -/
import Derived.Test.YtabpfbgcdmejbaaDoorLexJ
import Derived.Test.YtabpfbgcdmejbaaDoorCutC
import Derived.Test.YtabpfbgcdmejbaaDoorLexE
import Derived.Test.YtabpfbgcdmejbaaDoorLexB
namespace Go.Proofs.YtabpfbgcdmejbaaDoor
open Go.RowKit Go.Shelf
attribute [local go_sem ↓] Go.wp_at_zero Go.wp_at_succ

def rowR (s : ByteArray) : Tok × Int :=
  match rowKind s.data.toList with
  | .ok k => (⟨k, s, 0⟩, 0)
  | .error e => (noTok, e)
theorem kindR_low (b : UInt8) : ((kindR b.toNat == 2) : Bool) = isLow b := by
  simp only [kindR, isLow]
  rw [Bool.eq_iff_iff]
  simp only [beq_iff_eq, Bool.and_eq_true, decide_eq_true_eq]
  constructor
  · intro h
    split at h
    · omega
    · split at h
      · cases h
      · split at h <;> cases h
  · rintro ⟨h1, h2⟩
    rw [if_pos ⟨by omega, by omega⟩]
theorem parse_le (M : Nat) (l : List UInt8) : ∀ a n, a ≤ M → Lib.parseUintM M a l = .ok n → n ≤ M := by
  induction l with
  | nil => intro a n ha h; simp only [Lib.parseUintM, Lib.NumEnd.ok.injEq] at h; omega
  | cons b r ih =>
    intro a n ha h
    simp only [Lib.parseUintM] at h
    split at h
    · split at h
      · cases h
      · split at h
        · cases h
        · exact ih _ _ (by omega) h
    · cases h
theorem tok_ret {t u : Tok} {c d : Int} {k : IntKind} (h : t = u) (h2 : c = d) : Ending.returned (.tuple #[t.val, .int k c]) = .returned (.tuple #[u.val, .int k d]) := by rw [h, h2]

theorem loadVar3 {P : Program} {w : World} {g : Nat} {ty : TypeId} {x y z : Value} (hagg : (isAgg ty).run P w = .ok true w) (hsz : (Go.sizeOf ty).run P w = .ok 3 w)
    (h0 : w.cell? ⟨g, 0, none⟩ = some x) (h1 : w.cell? ⟨g, 1, none⟩ = some y) (h2 : w.cell? ⟨g, 2, none⟩ = some z) : (loadVar ty ⟨g, 0, none⟩).run P w = .ok (.agg #[x, y, z]) w := by
  have hl : (loadCells ⟨g, 0, none⟩ [x, y, z].length).run P w = .ok [x, y, z].toArray w :=
    run_loadCells_list (P := P) w ⟨g, 0, none⟩ [x, y, z] (fun j v hj => by
      match j, hj with
      | 0, hj => simp at hj; subst hj; exact h0
      | 1, hj => simp at hj; subst hj; exact h1
      | 2, hj => simp at hj; subst hj; exact h2)
  have hl' : (loadCells ⟨g, 0, none⟩ 3).run P w = .ok #[x, y, z] w := hl
  simp [loadVar, Sem.run_bind, hagg, hsz, hl']
theorem results_row_tmp {fn : Func} {q u : Tmp} {ty : TypeId} (h : fn.results = #[.cell q ty, .tmp u]) {tmps : Array Value} {P : Program} {w : World} {g : Nat} {x y z v : Value}
    (hp : tmps.getD q undef = .pointer (some ⟨g, 0, none⟩)) (hv : tmps.getD u undef = v) (hagg : (isAgg ty).run P w = .ok true w) (hsz : (Go.sizeOf ty).run P w = .ok 3 w)
    (h0 : w.cell? ⟨g, 0, none⟩ = some x) (h1 : w.cell? ⟨g, 1, none⟩ = some y) (h2 : w.cell? ⟨g, 2, none⟩ = some z) : (results fn tmps).run P w = .ok (.tuple #[.agg #[x, y, z], v]) w := by
  rw [results_cell_tmp h, hp, hv]
  simp [asAddr, loadVar3 hagg hsz h0 h1 h2]

theorem set3_cells {w1 : World} {g : Nat} {x' y' z' : Value} {t : TypeId} {fz : Nat × Nat} (h : w1.heap[g]? = some (.cells #[x', y', z'] t fz)) (x y z : Value) :
    (((w1.setCell ⟨g, 0, none⟩ x).setCell ⟨g, 1, none⟩ y).setCell ⟨g, 2, none⟩ z).cell? ⟨g, 0, none⟩ = some x ∧ (((w1.setCell ⟨g, 0, none⟩ x).setCell ⟨g, 1, none⟩ y).setCell ⟨g, 2, none⟩ z).cell? ⟨g, 1, none⟩ = some y ∧
    (((w1.setCell ⟨g, 0, none⟩ x).setCell ⟨g, 1, none⟩ y).setCell ⟨g, 2, none⟩ z).cell? ⟨g, 2, none⟩ = some z := by
  have c0 := Lib.cell_of_heap h 0
  have c1 := Lib.cell_of_heap h 1
  have c2 := Lib.cell_of_heap h 2
  refine ⟨?_, ?_, ?_⟩
  · rw [World.cell?_setCell_other _ _ _ _ (by simp), World.cell?_setCell_other _ _ _ _ (by simp)]
    exact World.cell?_setCell_same _ _ _ c0
  · rw [World.cell?_setCell_other _ _ _ _ (by simp)]
    exact World.cell?_setCell_same _ _ _ ((World.cell?_setCell_other _ _ _ _ (by simp)).trans c1)
  · exact World.cell?_setCell_same _ _ _ ((World.cell?_setCell_other _ _ _ _ (by simp)).trans ((World.cell?_setCell_other _ _ _ _ (by simp)).trans c2))
theorem set3_below {B : Nat} {w w1 : World} {g : Nat} (hb : Below B w w1) (hg : B ≤ g) (x y z : Value) : Below B w (((w1.setCell ⟨g, 0, none⟩ x).setCell ⟨g, 1, none⟩ y).setCell ⟨g, 2, none⟩ z) :=
  ((hb.setCell (p := ⟨g, 0, none⟩) hg x).setCell (p := ⟨g, 1, none⟩) hg y).setCell (p := ⟨g, 2, none⟩) hg z

set_option maxRecDepth 100000 in
set_option maxHeartbeats 4000000 in
theorem row41_any (s : ByteArray) (h0 : 0 < s.size) (hs : s.size ≤ 281474976710656) (w : World) (hr : Rdy w) : Calls Tryd.prog 77 #[.string s] w fun e w' =>
    e = .returned (.tuple #[(rowR s).1.val, .int .i64 (rowR s).2]) ∧ Below w.heap.size w w' := by
  have HS := size_list s
  have hg := get_list s 0 h0
  generalize hc0 : s[0]'h0 = b at hg
  obtain ⟨r, hl⟩ : ∃ r, s.data.toList = b :: r := by
    cases h : s.data.toList with
    | nil => rw [h] at HS; simp at HS; omega
    | cons c r => simp only [h, List.getElem_cons_zero] at hg; exact ⟨r, by rw [hg]⟩
  have hrl : r.length + 1 = s.size := by rw [← HS, hl]; rfl
  have hk := kindR_low b
  clear hg
  have hw32 : wrap32 (b.toNat : Int) = (b.toNat : Int) := by have := b.toNat_lt; unfold wrap32; omega
  cases hlo : isLow b with
  | true =>
    rw [hlo] at hk
    by_cases h8 : s.size ≤ 8
    · have HE : Hid (rowR s = (⟨1, s, 0⟩, 0)) := by simp [Hid, rowR, hl, rowKind, hlo, show r.length + 1 ≤ 8 by omega]
      clear hl hlo
      go_enter Tryd.func77, Tryd.ntmps77
      go_wp2_with (go_at_call 74; refine (kind_any _ _).mono ?_; rintro e w' ⟨rfl, rfl⟩)
      exact bodyPost_ret (results_row_tmp rfl rfl rfl (Tryd.isAgg80 _) (Tryd.sizeOf80 _) (World.cell?_alloc_new ..) (World.cell?_alloc_new ..) (World.cell?_alloc_new ..)) rfl ⟨by rw [HE.out]; rfl, (Below.refl _ w).alloc (Nat.le_refl _) _⟩
    · have HE : Hid (rowR s = (noTok, 152)) := by simp [Hid, rowR, hl, rowKind, hlo, show ¬ r.length + 1 ≤ 8 by omega]
      clear hl hlo
      go_enter Tryd.func77, Tryd.ntmps77
      go_wp2_with (go_at_call 74; refine (kind_any _ _).mono ?_; rintro e w' ⟨rfl, rfl⟩)
      exact bodyPost_ret (results_row_tmp rfl rfl rfl (Tryd.isAgg80 _) (Tryd.sizeOf80 _) (World.cell?_alloc_new ..) (World.cell?_alloc_new ..) (World.cell?_alloc_new ..)) rfl ⟨by rw [HE.out]; rfl, (Below.refl _ w).alloc (Nat.le_refl _) _⟩
  | false =>
    rw [hlo] at hk
    have hne : s.data.toList ≠ [] := by rw [hl]; simp
    have HE : Hid (rowR s = if numOk s.data.toList then (⟨2, s, 0⟩, 0) else (noTok, 151)) := by
      simp only [Hid, rowR, hl, rowKind, hlo]
      cases numOk (b :: r) <;> rfl
    have HQ := Lib.hid (numOk_iff s.data.toList hne)
    clear hl hlo
    have hr1 : Rdy (w.alloc (.cells #[.int .u8 0, .string .empty, .int .i64 0] 80)) := hr.below ((Below.refl _ w).alloc (Nat.le_refl _) _)
    have HP := Lib.hid (parse49_any s (by omega) hs _ hr1)
    have HR1 := Lib.hid hr1
    clear hr1
    go_enter Tryd.func77, Tryd.ntmps77
    go_wp2_with (go_at_call 74; refine (kind_any _ _).mono ?_; rintro e w' ⟨rfl, rfl⟩)
    refine HP.out.mono ?_
    rintro e w1 ⟨⟨u, ev, rfl, hpu⟩, hb1⟩
    have HR2 := Lib.hid (HR1.out.below hb1)
    have hbw : Below w.heap.size w w1 := ((Below.refl _ w).alloc (Nat.le_refl _) _).trans (hb1.mono (by simp))
    have hblk : w1.heap[w.heap.size]? = some (.cells #[.int .u8 0, .string .empty, .int .i64 0] 80 (0, 0)) := by
      have hz : (w.alloc (.cells #[.int .u8 0, .string .empty, .int .i64 0] 80)).heap.size = w.heap.size + 1 := by simp
      rw [hb1.block w.heap.size (by rw [hz]; omega)]
      exact Array.getElem?_push_size
    have HBW := Lib.hid hbw
    have HBL := Lib.hid hblk
    clear hbw hblk hb1
    unfold Parsed at hpu
    rcases hpp : Lib.parseUintM 4611686018427387903 0 s.data.toList with n | _ | _
    · rw [hpp] at hpu
      obtain ⟨rfl, rfl⟩ := hpu
      have hn62 : u ≤ 4611686018427387903 := parse_le _ _ _ _ (by omega) hpp
      have HPP := Lib.hid hpp
      clear hpp
      have c0 := Lib.cell_of_heap HBL.out 0
      have c1 := Lib.cell_of_heap HBL.out 1
      have c2 := Lib.cell_of_heap HBL.out 2
      have f0 := Lib.frozen_of_heap HBL.out 0
      have f1 := Lib.frozen_of_heap HBL.out 1
      have f2 := Lib.frozen_of_heap HBL.out 2
      simp only [List.getElem?_toArray, List.getElem?_cons_zero, List.getElem?_cons_succ] at c0 c1 c2
      by_cases hbig : 288230376151711744 ≤ u
      · have HF : Hid (rowR s = (noTok, 151)) := by
          have : numOk s.data.toList = false := by
            rw [Bool.eq_false_iff]; intro h
            obtain ⟨n, h1, h2, _⟩ := HQ.out.1 h
            rw [HPP.out] at h1; cases h1; omega
          rw [Hid, HE.out, this]; rfl
        have hbi : (288230376151711744 : Int) ≤ u := by omega
        clear hbig
        go_wp2_with fail
        obtain ⟨k0, k1, k2⟩ := set3_cells HBL.out (.int .u8 0) (.string .empty) (.int .i64 0)
        exact bodyPost_ret (results_row_tmp rfl rfl rfl (Tryd.isAgg80 _) (Tryd.sizeOf80 _) k0 k1 k2) rfl ⟨by rw [HF.out]; rfl, set3_below HBW.out (Nat.le_refl _) _ _ _⟩
      · have hbi : (u : Int) < 288230376151711744 := by omega
        have HFM := Lib.hid (format50_any u (by omega) w1 HR2.out)
        have HBIG : Hid (u < 288230376151711744) := by rw [Hid]; omega
        clear hbig
        obtain ⟨a, ha⟩ : ∃ a : Int, (u : Int) = a := ⟨_, rfl⟩
        rw [ha] at hbi HFM ⊢
        have HAA := Lib.hid ha
        clear ha
        by_cases heq : bsOf (Lib.decDigits u) = s
        · have HF : Hid (rowR s = (⟨2, s, 0⟩, 0)) := by
            have : numOk s.data.toList = true := HQ.out.2 ⟨u, HPP.out, HBIG.out, by rw [← heq, bsOf_list]⟩
            rw [Hid, HE.out, this]; rfl
          have HEQ := Lib.hid heq
          clear heq
          go_wp2_with fail
          refine HFM.out.mono ?_
          rintro e w2 ⟨rfl, hb2⟩
          rw [HEQ.out]
          have HBW2 := Lib.hid (HBW.out.trans (hb2.mono HBW.out.size))
          have HBL2 := Lib.hid ((hb2.block w.heap.size (by exact (Array.getElem?_eq_some_iff.1 HBL.out).1)).trans HBL.out)
          clear hb2 c0 c1 c2 f0 f1 f2
          have c0 := Lib.cell_of_heap HBL2.out 0
          have c1 := Lib.cell_of_heap HBL2.out 1
          have c2 := Lib.cell_of_heap HBL2.out 2
          have f0 := Lib.frozen_of_heap HBL2.out 0
          have f1 := Lib.frozen_of_heap HBL2.out 1
          have f2 := Lib.frozen_of_heap HBL2.out 2
          simp only [List.getElem?_toArray, List.getElem?_cons_zero, List.getElem?_cons_succ] at c0 c1 c2
          go_wp2_with fail
          obtain ⟨k0, k1, k2⟩ := set3_cells HBL2.out (.int .u8 2) (.string s) (.int .i64 0)
          exact bodyPost_ret (results_row_tmp rfl rfl rfl (Tryd.isAgg80 _) (Tryd.sizeOf80 _) k0 k1 k2) rfl ⟨by rw [HF.out]; rfl, set3_below HBW2.out (Nat.le_refl _) _ _ _⟩
        · have HF : Hid (rowR s = (noTok, 151)) := by
            have : numOk s.data.toList = false := by
              rw [Bool.eq_false_iff]; intro h
              obtain ⟨n, h1, h2, h3⟩ := HQ.out.1 h
              rw [HPP.out] at h1; cases h1
              exact heq (by rw [h3, bsOf_of])
            rw [Hid, HE.out, this]; rfl
          have hss : ((bsOf (Lib.decDigits u)).toList == s.toList) = false := by simpa using fun h => heq (toList_inj h)
          generalize bsOf (Lib.decDigits u) = D at hss HFM
          clear heq
          go_wp2_with fail
          refine HFM.out.mono ?_
          rintro e w2 ⟨rfl, hb2⟩
          have HBW2 := Lib.hid (HBW.out.trans (hb2.mono HBW.out.size))
          have HBL2 := Lib.hid ((hb2.block w.heap.size (by exact (Array.getElem?_eq_some_iff.1 HBL.out).1)).trans HBL.out)
          clear hb2 c0 c1 c2 f0 f1 f2
          have c0 := Lib.cell_of_heap HBL2.out 0
          have c1 := Lib.cell_of_heap HBL2.out 1
          have c2 := Lib.cell_of_heap HBL2.out 2
          have f0 := Lib.frozen_of_heap HBL2.out 0
          have f1 := Lib.frozen_of_heap HBL2.out 1
          have f2 := Lib.frozen_of_heap HBL2.out 2
          simp only [List.getElem?_toArray, List.getElem?_cons_zero, List.getElem?_cons_succ] at c0 c1 c2
          go_wp2_with fail
          obtain ⟨k0, k1, k2⟩ := set3_cells HBL2.out (.int .u8 0) (.string .empty) (.int .i64 0)
          exact bodyPost_ret (results_row_tmp rfl rfl rfl (Tryd.isAgg80 _) (Tryd.sizeOf80 _) k0 k1 k2) rfl ⟨by rw [HF.out]; rfl, set3_below HBW2.out (Nat.le_refl _) _ _ _⟩
    · rw [hpp] at hpu
      obtain ⟨te, pe, rfl⟩ := hpu
      have HF : Hid (rowR s = (noTok, 151)) := by
        have : numOk s.data.toList = false := by
          rw [Bool.eq_false_iff]; intro h
          obtain ⟨n, h1, _⟩ := HQ.out.1 h
          rw [hpp] at h1; cases h1
        rw [Hid, HE.out, this]; rfl
      clear hpp
      have c0 := Lib.cell_of_heap HBL.out 0
      have c1 := Lib.cell_of_heap HBL.out 1
      have c2 := Lib.cell_of_heap HBL.out 2
      have f0 := Lib.frozen_of_heap HBL.out 0
      have f1 := Lib.frozen_of_heap HBL.out 1
      have f2 := Lib.frozen_of_heap HBL.out 2
      simp only [List.getElem?_toArray, List.getElem?_cons_zero, List.getElem?_cons_succ] at c0 c1 c2
      go_wp2_with fail
      obtain ⟨k0, k1, k2⟩ := set3_cells HBL.out (.int .u8 0) (.string .empty) (.int .i64 0)
      exact bodyPost_ret (results_row_tmp rfl rfl rfl (Tryd.isAgg80 _) (Tryd.sizeOf80 _) k0 k1 k2) rfl ⟨by rw [HF.out]; rfl, set3_below HBW.out (Nat.le_refl _) _ _ _⟩
    · rw [hpp] at hpu
      obtain ⟨te, pe, rfl⟩ := hpu
      have HF : Hid (rowR s = (noTok, 151)) := by
        have : numOk s.data.toList = false := by
          rw [Bool.eq_false_iff]; intro h
          obtain ⟨n, h1, _⟩ := HQ.out.1 h
          rw [hpp] at h1; cases h1
        rw [Hid, HE.out, this]; rfl
      clear hpp
      have c0 := Lib.cell_of_heap HBL.out 0
      have c1 := Lib.cell_of_heap HBL.out 1
      have c2 := Lib.cell_of_heap HBL.out 2
      have f0 := Lib.frozen_of_heap HBL.out 0
      have f1 := Lib.frozen_of_heap HBL.out 1
      have f2 := Lib.frozen_of_heap HBL.out 2
      simp only [List.getElem?_toArray, List.getElem?_cons_zero, List.getElem?_cons_succ] at c0 c1 c2
      go_wp2_with fail
      obtain ⟨k0, k1, k2⟩ := set3_cells HBL.out (.int .u8 0) (.string .empty) (.int .i64 0)
      exact bodyPost_ret (results_row_tmp rfl rfl rfl (Tryd.isAgg80 _) (Tryd.sizeOf80 _) k0 k1 k2) rfl ⟨by rw [HF.out]; rfl, set3_below HBW.out (Nat.le_refl _) _ _ _⟩
end Go.Proofs.YtabpfbgcdmejbaaDoor
