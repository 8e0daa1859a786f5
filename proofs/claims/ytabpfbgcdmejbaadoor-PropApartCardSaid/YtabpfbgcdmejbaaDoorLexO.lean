/- lex.Cut. -/
import Derived.Lib.TrimU
import Derived.WalkMore
import Derived.Test.YtabpfbgcdmejbaaDoorLexL
import Derived.Test.YtabpfbgcdmejbaaDoorCutD
import Derived.Test.YtabpfbgcdmejbaaDoorLexG
namespace Go.Proofs.YtabpfbgcdmejbaaDoor
open Go.RowKit Go.Shelf
attribute [local go_sem ↓] Go.wp_at_zero Go.wp_at_succ

theorem rune_fin : ∀ i : Fin 128, ((2 ≤ kindR i.val) ↔ isRow (UInt8.ofNat i.val) = true) ∧ ((kindR i.val = 1) ↔ isBlank (UInt8.ofNat i.val) = true) := by decide +kernel
theorem high_fin : ∀ i : Fin 256, 128 ≤ i.val → isRow (UInt8.ofNat i.val) = false ∧ isBlank (UInt8.ofNat i.val) = false ∧ isSign (UInt8.ofNat i.val) = false := by decide +kernel
/-- What the rune at a place has to do with the byte there. -/
theorem rune_facts (s : ByteArray) (i : Nat) (h : i < s.size) (b : UInt8) (hb : s[i]'h = b) :
    ((2 ≤ kindR ((Utf8.decode s i).1 : Nat)) ↔ isRow b = true) ∧ ((kindR ((Utf8.decode s i).1 : Nat) = 1) ↔ isBlank b = true) ∧
    ((decide ((((Utf8.decode s i).1 : Nat) : Int) < 128) && isSign (((Utf8.decode s i).1 : Nat) : Int).toNat.toUInt8) = isSign b) ∧
    ((isRow b = true ∨ isBlank b = true ∨ isSign b = true) → (Utf8.decode s i).1 = b.toNat ∧ (Utf8.decode s i).2 = 1 ∧ b.toNat < 128) ∧ (Utf8.decode s i).1 ≤ 1114111 := by
  refine ⟨?_, ?_, ?_, ?_, Lib.rune_le s i⟩
  all_goals by_cases ha : b.toNat < 128
  · have := (rune_fin ⟨b.toNat, ha⟩).1
    rw [decode_ascii s i h (by rw [hb]; exact ha), hb]
    simpa using this
  · have h1 := (decode_high s i h (by rw [hb]; omega)).1
    have h2 := (high_fin ⟨b.toNat, b.toNat_lt⟩ (by show 128 ≤ b.toNat; omega)).1
    simp only [UInt8.ofNat_toNat] at h2
    rw [h2]
    constructor
    · intro hk; exfalso; unfold kindR at hk; omega
    · intro hk; cases hk
  · have := (rune_fin ⟨b.toNat, ha⟩).2
    rw [decode_ascii s i h (by rw [hb]; exact ha), hb]
    simpa using this
  · have h1 := (decode_high s i h (by rw [hb]; omega)).1
    have h2 := (high_fin ⟨b.toNat, b.toNat_lt⟩ (by show 128 ≤ b.toNat; omega)).2.1
    simp only [UInt8.ofNat_toNat] at h2
    rw [h2]
    constructor
    · intro hk; exfalso; unfold kindR at hk; omega
    · intro hk; cases hk
  · rw [decode_ascii s i h (by rw [hb]; exact ha), hb]
    have : decide (((b.toNat : Nat) : Int) < 128) = true := by simp; omega
    rw [this]; simp
  · have h1 := (decode_high s i h (by rw [hb]; omega)).1
    have h2 := (high_fin ⟨b.toNat, b.toNat_lt⟩ (by show 128 ≤ b.toNat; omega)).2.2
    simp only [UInt8.ofNat_toNat] at h2
    have : decide ((((Utf8.decode s i).1 : Nat) : Int) < 128) = false := by simp; omega
    rw [this, h2]; rfl
  · intro _
    rw [decode_ascii s i h (by rw [hb]; exact ha), hb]
    exact ⟨rfl, rfl, ha⟩
  · intro hh
    have h2 := high_fin ⟨b.toNat, b.toNat_lt⟩ (by show 128 ≤ b.toNat; omega)
    simp only [UInt8.ofNat_toNat] at h2
    rcases hh with hh | hh | hh
    · rw [h2.1] at hh; cases hh
    · rw [h2.2.1] at hh; cases hh
    · rw [h2.2.2] at hh; cases hh

theorem CutSt.below {w w' : World} {B cb : Nat} {src : ByteArray} {toks : List Tok} {f : Int} (h : CutSt w B cb src toks f) (hb : Below w.heap.size w w') : CutSt w' B cb src toks f := by
  obtain ⟨lv, h1, h2⟩ := h
  exact ⟨lv, (hb.block cb (Array.getElem?_eq_some_iff.1 h1).1).trans h1, h2.below hb⟩
theorem CutSt.iter {w : World} {B cb k pos pos' : Nat} {src s : ByteArray} {toks : List Tok} {f : Int} (h : CutSt w B cb src toks f) (hk : w.heap[k]? = some (.stringIter s pos)) : CutSt (w.iterAt k s pos') B cb src toks f := by
  obtain ⟨lv, h1, h2⟩ := h
  have hne : cb ≠ k := by rintro rfl; rw [hk] at h1; cases h1
  refine ⟨lv, by rw [Lib.iterAt_other _ _ _ _ _ hne]; exact h1, ?_⟩
  refine World.ownsRow.kept h2 (row := some k) ⟨rfl, rfl, rfl, by rw [Lib.iterAt_size]; exact Nat.le_refl _, fun j _ hj => Lib.iterAt_other _ _ _ _ _ (fun e => hj (by rw [e]))⟩ (Or.inr ?_)
  intro he
  obtain ⟨c, fz, hc⟩ := own_kind h2 k he
  rw [hk] at hc; cases hc
theorem CutSt.from_ {w : World} {B cb : Nat} {src : ByteArray} {toks : List Tok} {f : Int} (h : CutSt w B cb src toks f) (x : Int) : CutSt (w.setCell ⟨cb, 2, none⟩ (.int .i64 x)) B cb src toks x := by
  obtain ⟨lv, h1, h2⟩ := h
  exact ⟨lv, heap_setCell_same _ _ _ _ _ _ h1, h2.setOther h1 (by decide) _⟩
theorem rowR_take (s : ByteArray) (f i : Nat) : rowR (s.extract f i) = match rowKind ((s.data.toList.drop f).take (i - f)) with
    | .ok k => (⟨k, bsOf ((s.data.toList.drop f).take (i - f)), 0⟩, 0)
    | .error e => (noTok, e) := by
  rw [Lib.extract_eq]
  unfold rowR
  rw [show (⟨((s.data.toList.drop f).take (i - f)).toArray⟩ : ByteArray).data.toList = (s.data.toList.drop f).take (i - f) by simp]
  rfl
theorem rowKind_errne {l : List UInt8} {e : Int} (h : rowKind l = .error e) : e ≠ 0 := by
  cases l with
  | nil => simp only [rowKind, Except.error.injEq] at h; omega
  | cons b r =>
    simp only [rowKind] at h
    split at h
    · split at h <;> simp at h; omega
    · split at h <;> simp at h; omega

/-- What end does, whether a row goes on or not: the error, or tokens and no row. -/
theorem end21_inv (cb : Nat) (s : ByteArray) (toks : List Tok) (f : Int) (i : Nat) (w : World) (B : Nat) (hB : B ≤ cb) (hBw : B ≤ w.heap.size) (hr : Rdy w) (hs : s.size ≤ 4096) (hi : i ≤ s.size)
    (hn : (s.data.toList.drop i).head?.map isRow ≠ some true) (hst : CutSt w B cb s toks f) (hI : Inv s.data.toList i toks f) :
    Calls Tryd.prog 72 #[.pointer (some ⟨cb, 0, none⟩), .int .i64 (i : Int)] w fun e w' =>
      ((∃ toks', e = .returned (.int .i64 0) ∧ CutSt w' B cb s toks' (-1) ∧ Inv s.data.toList i toks' (-1)) ∨
       (∃ (n : Nat) (er : Int), e = .returned (.int .i64 er) ∧ er ≠ 0 ∧ CutSt w' B cb s toks n ∧ cut 0 s.data.toList = .bad n er)) ∧ Below B w w' ∧ Lib.OthersKept 80 (some cb) w w' := by
  rcases inv_from hI with rfl | ⟨n, rfl, hni⟩
  · obtain ⟨lv, h1, h2⟩ := hst
    refine (end21_none cb s lv (-1) i w (by decide) h1).mono ?_
    rintro e w' ⟨rfl, rfl⟩
    exact ⟨.inl ⟨toks, rfl, ⟨lv, h1, h2⟩, hI⟩, Below.refl _ _, Lib.OthersKept.refl _ _ _⟩
  · obtain ⟨lv, h1, h2⟩ := hst
    have hl := inv_len hI
    refine (end21_row B cb s lv toks n i w hB hBw hr hni hi hs (by omega) h1 h2).mono ?_
    rintro e w' ⟨⟨rfl, hc⟩, hb, hk⟩
    refine ⟨?_, hb, hk⟩
    obtain ⟨_, _, hE⟩ := inv_end hI hn
    rw [rowR_take] at hc ⊢
    cases hrk : rowKind ((s.data.toList.drop n).take (i - n)) with
    | error er =>
      rw [hrk] at hE hc
      simp only at hE hc ⊢
      rw [if_neg (rowKind_errne hrk)] at hc
      exact .inr ⟨n, er, rfl, rowKind_errne hrk, hc, hE⟩
    | ok k =>
      rw [hrk] at hE hc
      simp only [if_true] at hE hc ⊢
      exact .inl ⟨_, by first | rfl | trivial, hc, hE⟩

set_option maxRecDepth 100000 in
set_option maxHeartbeats 16000000 in
theorem cut9_any (s : ByteArray) (w : World) (hr : Rdy w) : Calls Tryd.prog 70 #[.string s] w fun e w' =>
    (∃ v', e = .returned (.tuple #[v', .int .i64 (cutR s).2.1, .int .i64 (cutR s).2.2]) ∧ OwnT w' w.heap.size v' (cutR s).1) ∧ Below w.heap.size w w' := by
  by_cases h4 : 4096 < s.size
  · have HE : Hid (cutR s = ([], 0, 3)) := by rw [Hid, cutR, if_pos h4]
    have h4' : (4096 : Int) < (s.size : Int) := by omega
    go_enter Tryd.func70, Tryd.ntmps70
    go_wp2_with fail
    go_step3
    go_wp2_with fail
    rw [Exit.noGoto_ret]
    try go_wp2_with fail
    go_ret3
    have hE := HE.out
    rw [hE]
    exact ⟨⟨_, rfl, World.ownsRow_nil _ _ _ _⟩, Below.refl _ _⟩
  · have hs4 : s.size ≤ 4096 := by omega
    have h4' : ¬ (4096 : Int) < (s.size : Int) := by omega
    have HS := size_list s
    have HRD := Lib.hid hr
    clear h4 hr
    go_enter Tryd.func70, Tryd.ntmps70
    go_wp2_with fail
    go_step3
    go_wp2_with fail
    go_step3
    go_wp2_with fail
    go_loopw [] (fun wr => ∃ (i : Nat) (toks : List Tok) (f : Int), i ≤ s.size ∧ Hid (CutSt wr w.heap.size w.heap.size s toks f) ∧ wr.heap[w.heap.size + 1]? = some (.stringIter s i) ∧ Below w.heap.size w wr ∧ Hid (Inv s.data.toList i toks f)) (fun wr => s.size - wr.iterPos (w.heap.size + 1))
    case atStart =>
      refine ⟨0, [], -1, by omega, ⟨.slice none 0 0, ?_, World.ownsRow_nil _ _ _ _⟩, ?_, ((Below.refl _ w).alloc (Nat.le_refl _) _).alloc (by simp) _, inv_start _⟩
      · refine Eq.trans (Below.heap_alloc (w.alloc (.cells #[.string s, .slice none 0 0, .int .i64 (-1)] 94)) _ w.heap.size ?_) Array.getElem?_push_size
        show w.heap.size < (w.heap.push _).size
        simp
      · have := World.iter_heap (w.alloc (.cells #[.string s, .slice none 0 0, .int .i64 (-1)] 94)) s 0
        simpa using this
    case round =>
      obtain ⟨i, toks, f, hi, HC, hit, hbw, HI⟩ := hrel
      have hsz : w.heap.size + 1 < wr.heap.size := (Array.getElem?_eq_some_iff.1 hit).1
      by_cases hp : i < s.size
      · have hg := get_list s i hp
        obtain ⟨b, hbb⟩ : ∃ b, s[i]'hp = b := ⟨_, rfl⟩
        rw [hbb] at hg
        have HD : Hid (s.data.toList.drop i = b :: s.data.toList.drop (i + 1)) := by
          rw [Hid, List.drop_eq_getElem_cons (by rw [HS]; exact hp), ← hg]
        obtain ⟨r1, r2, r3, r4, r5⟩ := rune_facts s i hp b hbb
        have hnx : ∀ ty, (Instr.next (.pointer (some ⟨w.heap.size + 1, 0, none⟩)) true ty).run Tryd.prog wr = _ := fun ty => Lib.run_next_any_at wr (w.heap.size + 1) s i ty hit hp
        have HC1 : Hid (CutSt (wr.iterAt (w.heap.size + 1) s (i + (Utf8.decode s i).2)) w.heap.size w.heap.size s toks f) := HC.out.iter hit
        have hit1 := Lib.iterAt_heap wr (w.heap.size + 1) s i (i + (Utf8.decode s i).2) hit
        have hbw1 := Lib.below_iterAt hbw (k := w.heap.size + 1) (by omega) s (i + (Utf8.decode s i).2)
        have hsz1 : w.heap.size + 1 < (wr.iterAt (w.heap.size + 1) s (i + (Utf8.decode s i).2)).heap.size := by rw [Lib.iterAt_size]; exact hsz
        have hpos : s.size - wr.iterPos (w.heap.size + 1) = s.size - i := by simp only [World.iterPos, hit]
        have HPOS := Lib.hid hpos
        clear hg hbb hpos HC hbw hit hsz
        generalize wr.iterAt (w.heap.size + 1) s (i + (Utf8.decode s i).2) = W1 at hnx HC1 hit1 hbw1 hsz1
        generalize (Utf8.decode s i).2 = wd at r4 hit1
        generalize (Utf8.decode s i).1 = r at r1 r2 r3 r4 r5 hnx
        cases hrow : isRow b with
        | true =>
          obtain ⟨rfl, rfl, hb128⟩ := r4 (.inl hrow)
          have hk2 : (2 : Int) ≤ kindR (b.toNat : Nat) := r1.2 hrow
          have HN : Hid (Inv s.data.toList (i + 1) toks (if f < 0 then (i : Int) else f)) := inv_row HI.out HD.out hrow
          clear r1 r2 r3 r4 r5 hrow
          obtain ⟨lv, hcb, hown⟩ := HC1.out
          have c2 := Lib.cell_of_heap hcb 2
          have f2 := Lib.frozen_of_heap hcb 2
          simp only [List.getElem?_toArray, List.getElem?_cons_zero, List.getElem?_cons_succ] at c2
          clear hcb hown
          by_cases hf : f < 0
          · rw [if_pos hf] at HN
            go_wp2_with (go_at_call 74; refine (kind_any _ _).mono ?_; rintro e w' ⟨rfl, rfl⟩)
            have hit3 : (w'.setCell ⟨w.heap.size, 2, none⟩ (.int .i64 (i : Int))).heap[w.heap.size + 1]? = some (.stringIter s (i + 1)) := (Below.heap_setCell _ _ _ _ (by simp)).trans hit1
            refine ⟨⟨i + 1, toks, i, by omega, HC1.out.from_ _, hit3, hbw1.setCell (p := ⟨w.heap.size, 2, none⟩) (Nat.le_refl _) _, HN⟩, ?_⟩
            rw [HPOS.out]
            simp only [World.iterPos, hit3]
            omega
          · rw [if_neg hf] at HN
            have hf' : ¬ f < 0 := hf
            go_wp2_with (go_at_call 74; refine (kind_any _ _).mono ?_; rintro e w' ⟨rfl, rfl⟩)
            refine ⟨⟨i + 1, toks, f, by omega, HC1, hit1, hbw1, HN⟩, ?_⟩
            rw [HPOS.out]
            simp only [World.iterPos, hit1]
            omega
        | false =>
          have hk2 : kindR (r : Int) < 2 := by
            have : ¬ 2 ≤ kindR (r : Int) := fun h => by rw [r1.1 h] at hrow; cases hrow
            omega
          have HROW := Lib.hid hrow
          have HE := Lib.hid (end21_inv w.heap.size s toks f i W1 w.heap.size (Nat.le_refl _) hbw1.size (HRD.out.below hbw1) hs4 hi (by rw [HD.out]; simp [hrow]) HC1.out HI.out)
          have HR2 := Lib.hid r2
          have HR3 := Lib.hid r3
          have HR4 := Lib.hid r4
          have HIT1 := Lib.hid hit1
          have HB1 := Lib.hid hbw1
          clear r1 r2 r3 r4 hrow hit1 hbw1
          go_wp2_with (first
            | (go_at_call 74; refine (kind_any _ _).mono ?_; rintro e w' ⟨rfl, rfl⟩)
            | (go_at_call 72; refine HE.out.mono ?_))
          rintro e W2 ⟨hres, hb2, hk3⟩
          have HB2 := Lib.hid (HB1.out.trans hb2)
          have HIT2 := Lib.hid (hk3.iter HIT1.out (by omega))
          clear hb2 hk3
          rcases hres with ⟨toks', rfl, hc2, hi2⟩ | ⟨n, er, rfl, hne, hc2, hcut⟩
          · have HC2 := Lib.hid hc2
            have HI2 := Lib.hid hi2
            clear hc2 hi2
            cases hbl : isBlank b with
            | true =>
              have q1 : (kindR (r : Int) == 1) = true := by simpa using HR2.out.2 hbl
              have HN : Hid (Inv s.data.toList (i + 1) toks' (-1)) := inv_blank HI2.out HD.out hbl HROW.out
              have hwd := (HR4.out (.inr (.inl hbl))).2.1
              have HWD := Lib.hid hwd
              clear hbl hwd
              go_wp2_with fail
              have hit2 := HIT2.out
              rw [HWD.out] at hit2
              refine ⟨⟨i + 1, toks', -1, by omega, HC2, hit2, HB2.out, HN⟩, ?_⟩
              rw [HPOS.out]
              simp only [World.iterPos, hit2]
              omega
            | false =>
              have q1 : (kindR (r : Int) == 1) = false := by
                rw [Bool.eq_false_iff]; intro h
                rw [HR2.out.1 (by simpa using h)] at hbl; cases hbl
              have HBL := Lib.hid hbl
              have HCO := Lib.hid (contains24_any (r : Int) (by omega) (by omega) W2)
              clear hbl
              go_wp2_with fail
              refine HCO.out.mono ?_
              rintro e W3 ⟨rfl, hb3⟩
              rw [HR3.out]
              have HC3 := Lib.hid (HC2.out.below hb3)
              have HIT3 := Lib.hid ((hb3.block _ (Array.getElem?_eq_some_iff.1 HIT2.out).1).trans HIT2.out)
              have HB3 := Lib.hid (HB2.out.trans (hb3.mono HB2.out.size))
              clear hb3
              cases hsg : isSign b with
              | true =>
                obtain ⟨rfl, hwd, hb128⟩ := HR4.out (.inr (.inr hsg))
                have HWD := Lib.hid hwd
                have HN : Hid (Inv s.data.toList (i + 1) (signStep toks' b i) (-1)) := inv_sign HI2.out HD.out hsg
                have HSI := Lib.hid (sign22_any w.heap.size w.heap.size s toks' (-1) b hb128 (i : Int) (by omega) (by omega) W3 (Nat.le_refl _) HB3.out.size (by have := inv_len HI2.out; omega) HC3.out)
                clear hsg hwd
                go_wp2_with fail
                refine HSI.out.mono ?_
                rintro e W4 ⟨rfl, hc4, hb4, hk4⟩
                have HC4 := Lib.hid hc4
                have hit4 := hk4.iter HIT3.out (by omega)
                rw [HWD.out] at hit4
                have HB4 := Lib.hid (HB3.out.trans hb4)
                clear hc4 hb4 hk4
                go_wp2_with fail
                refine ⟨⟨i + 1, signStep toks' b i, -1, by omega, HC4, hit4, HB4.out, HN⟩, ?_⟩
                rw [HPOS.out]
                simp only [World.iterPos, hit4]
                omega
              | false =>
                have HV : Hid (cutR s = ([], (i : Int), 150)) := by
                  rw [Hid, cutR, if_neg (by omega), inv_wrong HI2.out HD.out HBL.out HROW.out hsg]
                clear hsg
                go_wp2_with fail
                rw [Exit.noGoto_ret]
                try go_wp2_with fail
                go_ret3
                rw [HV.out]
                exact ⟨⟨_, rfl, World.ownsRow_nil _ _ _ _⟩, HB3.out⟩
          · have her : (er == 0) = false := by simpa using hne
            have her2 : (er != 0) = true := by simpa using hne
            have HV : Hid (cutR s = ([], (n : Int), er)) := by rw [Hid, cutR, if_neg (by omega), hcut]
            obtain ⟨lv, hcb, _⟩ := hc2
            have c2 := Lib.cell_of_heap hcb 2
            simp only [List.getElem?_toArray, List.getElem?_cons_zero, List.getElem?_cons_succ] at c2
            clear hcb hne hcut
            go_wp2_with fail
            go_quiet (fail)
            go_wp2_with fail
            rw [Exit.noGoto_ret]
            try go_wp2_with fail
            go_ret3
            rw [HV.out]
            exact ⟨⟨_, rfl, World.ownsRow_nil _ _ _ _⟩, belowDrewN HB2.out _⟩
      · have hie : i = s.size := by omega
        subst hie
        have hdn : s.data.toList.drop s.size = [] := List.drop_of_length_le (by omega)
        have HDN := Lib.hid hdn
        have hnx : ∀ ty, (Instr.next (.pointer (some ⟨w.heap.size + 1, 0, none⟩)) true ty).run Tryd.prog wr = _ := fun ty => Lib.run_next_end_at wr (w.heap.size + 1) s s.size ty hit hp
        have HE := Lib.hid (end21_inv w.heap.size s toks f s.size wr w.heap.size (Nat.le_refl _) hbw.size (HRD.out.below hbw) hs4 (Nat.le_refl _) (by rw [hdn]; simp) HC.out HI.out)
        have HB1 := Lib.hid hbw
        clear hdn hit hbw hsz
        go_wp2_with (go_at_call 72; refine HE.out.mono ?_)
        rintro e W2 ⟨hres, hb2, hk3⟩
        have HB2 := Lib.hid (HB1.out.trans hb2)
        clear hb2 hk3
        rcases hres with ⟨toks', rfl, hc2, hi2⟩ | ⟨n, er, rfl, hne, hc2, hcut⟩
        · have HV : Hid (cutR s = (toks', 0, 0)) := by rw [Hid, cutR, if_neg (by omega), inv_done hi2 HDN.out]
          obtain ⟨lv, hcb, hown⟩ := hc2
          have c1 := Lib.cell_of_heap hcb 1
          simp only [List.getElem?_toArray, List.getElem?_cons_zero, List.getElem?_cons_succ] at c1
          have HO := Lib.hid hown
          clear hcb hown hi2
          go_wp2_with fail
          rw [Exit.noGoto_ret]
          try go_wp2_with fail
          go_ret3
          rw [HV.out]
          exact ⟨⟨_, rfl, HO.out⟩, HB2.out⟩
        · have her : (er == 0) = false := by simpa using hne
          have her2 : (er != 0) = true := by simpa using hne
          have HV : Hid (cutR s = ([], (n : Int), er)) := by rw [Hid, cutR, if_neg (by omega), hcut]
          obtain ⟨lv, hcb, _⟩ := hc2
          have c2 := Lib.cell_of_heap hcb 2
          simp only [List.getElem?_toArray, List.getElem?_cons_zero, List.getElem?_cons_succ] at c2
          clear hcb hne hcut
          go_wp2_with fail
          go_quiet (fail)
          go_wp2_with fail
          rw [Exit.noGoto_ret]
          try go_wp2_with fail
          go_ret3
          rw [HV.out]
          exact ⟨⟨_, rfl, World.ownsRow_nil _ _ _ _⟩, belowDrewN HB2.out _⟩
end Go.Proofs.YtabpfbgcdmejbaaDoor
