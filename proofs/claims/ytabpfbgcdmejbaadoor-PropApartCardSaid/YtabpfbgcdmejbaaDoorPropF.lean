/- Rows of truth values compared; prop.Alike walked. -/
import Derived.Deep.QuietTactic
import Derived.BigQuiet
import Derived.Test.YtabpfbgcdmejbaaDoorPropE
namespace Go.Proofs.YtabpfbgcdmejbaaDoor
open Go.RowKit

theorem takeB_succ {l r : List Bool} {k : Nat} (h : k < l.length) (h' : k < r.length) (ht : l.take k = r.take k) (he : l[k] = r[k]) : l.take (k + 1) = r.take (k + 1) := by
  rw [List.take_succ_eq_append_getElem h, List.take_succ_eq_append_getElem h', ht, he]
theorem drewN_below {w w' : World} {B : Nat} (h : Below B w w') (m : Nat) : Below B w (w'.drewN m) := by
  induction m with
  | zero => exact h
  | succ m ih => exact ⟨ih.os, ih.tape, ih.output, ih.size, ih.block⟩

theorem BRep.up {w w' : World} {v : Value} {l : List Bool} (h : BRep w v l) (hb : Below w.heap.size w w') : BRep w' v l := by
  obtain ⟨a, c, rfl, h⟩ := h
  refine ⟨a, c, rfl, ?_⟩
  rcases h with h | ⟨g, rfl, hg, hc⟩
  · exact .inl h
  · exact .inr ⟨g, rfl, Nat.lt_of_lt_of_le hg hb.size, fun i hi => (hb.cell (p := ⟨g, i, none⟩) hg).trans (hc i hi)⟩

set_option maxRecDepth 100000 in
set_option maxHeartbeats 4000000 in
theorem equal50_any (l r : List Bool) (v v' : Value) (w : World) (hs : BRep w v l) (hs' : BRep w v' r) (hm : l.length ≤ 256) (hm' : r.length ≤ 256) :
    Calls Tryd.prog 50 #[v, v'] w fun e w' => e = .returned (.bool (decide (l = r))) ∧ Below w.heap.size w w' := by
  obtain ⟨a, cap, rfl, h⟩ := hs
  obtain ⟨a', cap', rfl, h'⟩ := hs'
  by_cases hlen : l.length = r.length
  · have hl0 : ((l.length : Int) == (r.length : Int)) = true := by simp [hlen]
    go_enter Tryd.func50, Tryd.ntmps50
    go_wp2_with fail
    go_loopw [13] (fun i wr => ∃ (k : Nat), k ≤ l.length ∧ i = .int .i64 k ∧ Hid (l.take k = r.take k) ∧ Below w.heap.size w wr) (fun i _ => l.length - (intOf i).toNat)
    case atStart => exact ⟨0, Nat.zero_le _, rfl, rfl, Below.refl _ _⟩
    case round =>
      obtain ⟨k, hk, rfl, HT, hbw⟩ := hrel
      by_cases hlt : k < l.length
      · have hlt' : k < r.length := by omega
        rcases h with h | ⟨b, rfl, hbl, hc⟩
        · rw [h] at hlt; exact absurd hlt (by simp)
        rcases h' with h' | ⟨b', rfl, hbl', hc'⟩
        · rw [h'] at hlt'; exact absurd hlt' (by simp)
        have c1 := (hbw.cell (p := ⟨b, k, none⟩) hbl).trans (hc k hlt)
        have c1' := (hbw.cell (p := ⟨b', k, none⟩) hbl').trans (hc' k hlt')
        have hlti : (k : Int) < (r.length : Int) := by omega
        obtain ⟨x, hx⟩ : ∃ x, l[k] = x := ⟨_, rfl⟩
        obtain ⟨y, hy⟩ : ∃ y, r[k] = y := ⟨_, rfl⟩
        rw [hx] at c1
        rw [hy] at c1'
        have HX := Lib.hid hx
        have HY := Lib.hid hy
        have HB := Lib.hid hbw
        clear hc hc' hx hy
        by_cases he : x = y
        · subst he
          have HE := Lib.hid (takeB_succ hlt hlt' HT.out (HX.out.trans HY.out.symm))
          go_wp2_with fail
          go_quiet (fail)
          go_wp2_with fail
          refine ⟨⟨k + 1, by omega, by push_cast; rfl, HE, drewN_below HB.out _⟩, ?_⟩
          simp [intOf]; omega
        · have HE : Hid (decide (l = r) = false) := by
            refine decide_eq_false fun h => ?_
            subst h
            exact he (HX.out.symm.trans HY.out)
          have h2 : (x == y) = false := by simpa using he
          clear he
          go_wp2_with fail
          go_quiet (fail)
          go_wp2_with fail
          go_ret
          exact ⟨by rw [HE.out]; rfl, drewN_below HB.out _⟩
      · have hke : k = l.length := by omega
        have HE : Hid (decide (l = r) = true) := by
          have := HT.out
          rw [hke, List.take_length, hlen, List.take_length] at this
          exact decide_eq_true this
        have HB := Lib.hid hbw
        clear hbw
        go_wp2_with fail
        all_goals go_ret
        all_goals exact ⟨by rw [HE.out]; rfl, HB.out⟩
  · have hl0 : ((l.length : Int) == (r.length : Int)) = false := by rw [beq_eq_false_iff_ne]; omega
    have HE : Hid (decide (l = r) = false) := decide_eq_false fun h => hlen (by rw [h])
    go_enter Tryd.func50, Tryd.ntmps50
    go_wp2_with fail
    all_goals go_ret
    all_goals exact ⟨by rw [HE.out]; rfl, Below.refl _ _⟩
/-- What Alike answers. -/
def alikeR (names : List ByteArray) (n m : Nat) (f : FT n) (g : FT m) : Bool × Int :=
  if fmlR names n f ≠ 0 then (false, fmlR names n f) else (decide (fmlR names m g = 0) && decide (tblF names n f = tableR names m g), fmlR names m g)

theorem tableR_len (names : List ByteArray) (n : Nat) (t : FT n) (h : fmlR names n t = 0 → names.length ≤ 8) : (tableR names n t).length ≤ 256 := by
  unfold tableR
  split
  · simp
  · rename_i h0
    rw [tbl_len]
    have := h (by simpa using h0)
    exact (pow_small this).2

set_option maxRecDepth 100000 in
set_option maxHeartbeats 8000000 in
theorem alike26_any (names : List ByteArray) (nv : Value) (hs : ∀ s ∈ names, s.size ≤ 1048576) (n m : Nat) (f : FT n) (g : FT m) (v u : Value) (w : World) (hr : Rdy w) (hn : NRep w w.heap.size nv names) (hf : FRep w w.heap.size n f v) (hg : FRep w w.heap.size m g u) :
    Calls Tryd.prog 26 #[nv, v, u] w fun e w' => e = .returned (.tuple #[.bool (alikeR names n m f g).1, .int .i64 (alikeR names n m f g).2]) ∧ Below w.heap.size w w' := by
  obtain ⟨k, s, a, l, c, rfl⟩ := hf.shape
  obtain ⟨k', s', a', l', c', rfl⟩ := hg.shape
  obtain ⟨na, nc, rfl, _⟩ := id hn
  have hb : Below w.heap.size w ((w.alloc (.cells #[.int .u8 k, .string s, .slice a l c] 39)).alloc (.cells #[.int .u8 k', .string s', .slice a' l' c'] 39)) := ((Below.refl _ _).alloc (Nat.le_refl _) _).alloc (by simp) _
  have HT1 := Lib.hid (table18_any names _ hs n f _ _ (hr.below hb) (hn.up hb hb.size) (hf.up hb hb.size))
  have HT2 : Hid (∀ W, Below w.heap.size w W → Calls Tryd.prog 18 #[.slice na names.length nc, .agg #[.int .u8 k', .string s', .slice a' l' c']] W fun e w' => (∃ lv, e = .returned (.tuple #[lv, .int .i64 (fmlR names m g)]) ∧ BRep w' lv (tableR names m g)) ∧ Below W.heap.size W w') :=
    fun W h => table18_any names _ hs m g _ W (hr.below h) (hn.up h h.size) (hg.up h h.size)
  have HB := Lib.hid hb
  have hbl : ∀ w1, Below ((w.alloc (.cells #[.int .u8 k, .string s, .slice a l c] 39)).alloc (.cells #[.int .u8 k', .string s', .slice a' l' c'] 39)).heap.size ((w.alloc (.cells #[.int .u8 k, .string s, .slice a l c] 39)).alloc (.cells #[.int .u8 k', .string s', .slice a' l' c'] 39)) w1 →
      w1.heap[w.heap.size + 1]? = some (.cells #[.int .u8 k', .string s', .slice a' l' c'] 39 (0, 0)) := fun w1 h => by
    rw [h.block _ (by simp)]
    exact heap_alloc2_new _ _ _
  have HBL := Lib.hid hbl
  clear hr hs hb hf hg hn hbl
  go_enter Tryd.func26, Tryd.ntmps26
  go_wp2_with fail
  refine HT1.out.mono ?_
  rintro e w1 ⟨⟨lv, rfl, hl1⟩, hb1⟩
  have h1 := HBL.out w1 hb1
  have x0 := Lib.cell_of_heap h1 0
  have x1 := Lib.cell_of_heap h1 1
  have x2 := Lib.cell_of_heap h1 2
  simp only [List.getElem?_toArray, List.getElem?_cons_zero, List.getElem?_cons_succ] at x0 x1 x2
  have hz := (Array.getElem?_eq_some_iff.1 h1).1
  have HB1 := Lib.hid (HB.out.trans (hb1.mono HB.out.size))
  have HL1 := Lib.hid hl1
  clear hb1 h1 hl1
  by_cases h0 : fmlR names n f = 0
  · have hR1 : alikeR names n m f g = (decide (fmlR names m g = 0) && decide (tblF names n f = tableR names m g), fmlR names m g) := by rw [alikeR, if_neg (by simpa using h0)]
    have hT1 : tableR names n f = tblF names n f := by rw [tableR, if_neg (by simpa using h0)]
    have HR1 := Lib.hid hR1
    have hL1 := HL1.out
    rw [hT1] at hL1
    have HLL := Lib.hid hL1
    have hnl := namesR_len (fmlR_zero.1 h0).1
    have HN1 : Hid ((tblF names n f).length ≤ 256) := by rw [Hid, tbl_len]; exact (pow_small hnl).2
    have HN2 := Lib.hid (tableR_len names m g fun _ => hnl)
    rw [h0]
    clear hR1 hT1 hL1 HL1 h0 hnl
    go_wp2_with fail
    refine (HT2.out w1 HB1.out).mono ?_
    rintro e w2 ⟨⟨lu, rfl, hl2⟩, hb2⟩
    have HB2 := Lib.hid (HB1.out.trans (hb2.mono HB1.out.size))
    have HL2 := Lib.hid hl2
    have HL3 : Hid (BRep w2 lv (tblF names n f)) := HLL.out.up hb2
    clear hb2 hl2 x0 x1 x2 hz
    by_cases h2 : fmlR names m g = 0
    · have HR : Hid (alikeR names n m f g = (decide (tblF names n f = tableR names m g), 0)) := by rw [Hid, HR1.out, h2]; simp
      rw [h2]
      have HE := Lib.hid (equal50_any _ _ lv lu w2 HL3.out HL2.out HN1.out HN2.out)
      clear h2
      go_wp2_with fail
      refine HE.out.mono ?_
      rintro e w3 ⟨rfl, hb3⟩
      have HB3 := Lib.hid (HB2.out.trans (hb3.mono HB2.out.size))
      clear hb3
      go_wp2_with fail
      all_goals go_ret2
      all_goals exact ⟨by rw [HR.out]; rfl, HB3.out⟩
    · have q : (fmlR names m g == 0) = false := by simpa using h2
      have HR : Hid (alikeR names n m f g = (false, fmlR names m g)) := by rw [Hid, HR1.out]; simp [h2]
      clear h2
      go_wp2_with fail
      all_goals go_ret2
      all_goals exact ⟨by rw [HR.out]; rfl, HB2.out⟩
  · have q : (fmlR names n f != 0) = true := by simpa using h0
    have HR : Hid (alikeR names n m f g = (false, fmlR names n f)) := by rw [Hid, alikeR, if_pos h0]
    clear h0
    go_wp2_with fail
    all_goals go_ret2
    all_goals exact ⟨by rw [HR.out]; rfl, HB1.out⟩
end Go.Proofs.YtabpfbgcdmejbaaDoor
