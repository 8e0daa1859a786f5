/- prop.Holds walked. -/
import Derived.Test.YtabpfbgcdmejbaaDoorPropC
import Derived.Test.YtabpfbgcdmejbaaDoorTreeN
import Derived.Test.YtabpfbgcdmejbaaDoorTreeB
import Derived.Deep.RegionHeld3
namespace Go.Proofs.YtabpfbgcdmejbaaDoor
open Go.RowKit

theorem namesR_len {l : List ByteArray} (h : namesR l = 0) : l.length ≤ 8 := by
  unfold namesR at h
  rcases Nat.lt_or_ge 8 l.length with h1 | h1
  · simp [h1] at h
  · exact h1

/-- What Holds answers. -/
def holdsR (names : List ByteArray) (n : Nat) (t : FT n) (on : Int) : Bool × Int :=
  if fmlR names n t ≠ 0 then (false, fmlR names n t) else if 0 < on / 2 ^ names.length then (false, 2) else (holdsF names n t on, 0)

set_option maxRecDepth 100000 in
set_option maxHeartbeats 8000000 in
theorem holds22_any (names : List ByteArray) (nv : Value) (hs : ∀ s ∈ names, s.size ≤ 1048576) (n : Nat) (t : FT n) (v : Value) (on : Int) (w : World) (ho : 0 ≤ on) (ho2 : on ≤ 255) (hr : Rdy w) (hn : NRep w w.heap.size nv names) (hf : FRep w w.heap.size n t v) :
    Calls Tryd.prog 22 #[nv, v, .int .u8 on] w fun e w' => e = .returned (.tuple #[.bool (holdsR names n t on).1, .int .i64 (holdsR names n t on).2]) ∧ Below w.heap.size w w' := by
  obtain ⟨k, s, a, l, c, rfl⟩ := hf.shape
  obtain ⟨na, nc, rfl, _⟩ := id hn
  have hb : Below w.heap.size w (w.alloc (.cells #[.int .u8 k, .string s, .slice a l c] 39)) := (Below.refl _ _).alloc (Nat.le_refl _) _
  have HFM := Lib.hid (formula16_any names _ hs n t _ _ (hr.below hb) (hn.up hb hb.size) (hf.up hb hb.size))
  have HB := Lib.hid hb
  have HF := Lib.hid hf
  have HN := Lib.hid hn
  clear hr hs hb hf hn
  go_enter Tryd.func22, Tryd.ntmps22
  go_wp2_with fail
  refine HFM.out.mono ?_
  rintro e w1 ⟨rfl, hb1⟩
  obtain ⟨x0, x1, x2, hz⟩ := box_cells3 hb1
  have HB1 := Lib.hid (HB.out.trans (hb1.mono HB.out.size))
  clear hb1
  by_cases h0 : fmlR names n t = 0
  · obtain ⟨g1, g2, _, g4⟩ := fmlR_zero.1 h0
    have G2 := Lib.hid g2
    have G4 := Lib.hid g4
    have hnl := namesR_len g1
    rw [h0]
    have H0 := Lib.hid h0
    clear g1 g2 g4 h0
    by_cases hon : 0 < on / 2 ^ names.length
    · have HR : Hid (holdsR names n t on = (false, 2)) := by rw [Hid, holdsR, H0.out, if_neg (by simp), if_pos hon]
      go_wp2_with fail
      all_goals go_ret2
      all_goals exact ⟨by rw [HR.out]; rfl, HB1.out⟩
    · have HR : Hid (holdsR names n t on = (holdsF names n t on, 0)) := by rw [Hid, holdsR, H0.out, if_neg (by simp), if_neg hon]
      have HMD := made48_any names (.slice na names.length nc) hnl n t _ w1 (HN.out.up HB1.out HB1.out.size) (HF.out.up HB1.out HB1.out.size) G2.out G4.out
      have HM := Lib.hid HMD
      clear HMD
      go_wp2_with fail
      refine HM.out.mono ?_
      rintro e w2 ⟨⟨v', rfl, hv⟩, hb2⟩
      have HB2 := Lib.hid (HB1.out.trans (hb2.mono HB1.out.size))
      obtain ⟨K, caps, rfl, hK, hC⟩ := hv w2 fun _ _ _ => rfl
      have HC := Lib.hid (hC on)
      unfold Ent at hK
      clear hb2 hv hC
      go_wp2_with fail
      refine HC.out.mono ?_
      rintro e w3 ⟨rfl, rfl⟩
      go_wp2_with fail
      all_goals go_ret2
      all_goals exact ⟨by rw [HR.out]; rfl, HB2.out⟩
  · have HR : Hid (holdsR names n t on = (false, fmlR names n t)) := by rw [Hid, holdsR, if_pos h0]
    have q : (fmlR names n t != 0) = true := by simpa using h0
    clear h0
    go_wp2_with fail
    all_goals go_ret2
    all_goals exact ⟨by rw [HR.out]; rfl, HB1.out⟩
end Go.Proofs.YtabpfbgcdmejbaaDoor

/- prop.Table walked. -/
namespace Go.Proofs.YtabpfbgcdmejbaaDoor
open Go.RowKit
attribute [local go_sem ↓] Go.wp_at_zero Go.wp_at_succ
attribute [local go_sem] Oper.semAt_some

/-- A row of truth values in memory. -/
def BRep (w : World) (v : Value) (l : List Bool) : Prop :=
  ∃ a c, v = .slice a l.length c ∧ (l = [] ∨ ∃ g, a = some ⟨g, 0, none⟩ ∧ g < w.heap.size ∧ ∀ i (h : i < l.length), w.cell? ⟨g, i, none⟩ = some (.bool l[i]))
def tblF (names : List ByteArray) (n : Nat) (t : FT n) : List Bool := (List.range (2 ^ names.length)).map fun i : Nat => holdsF names n t (i : Int)
def tableR (names : List ByteArray) (n : Nat) (t : FT n) : List Bool := if fmlR names n t ≠ 0 then [] else tblF names n t

theorem pow_small {L : Nat} (h : L ≤ 8) : wrap64 (2 ^ L) = ((2 ^ L : Nat) : Int) ∧ 2 ^ L ≤ 256 := by
  have h9 : L < 9 := by omega
  have key : ∀ L : Fin 9, wrap64 (2 ^ L.1) = ((2 ^ L.1 : Nat) : Int) ∧ 2 ^ L.1 ≤ 256 := by
    intro L
    have hc : ((2 : Int) ^ L.1) = ((2 ^ L.1 : Nat) : Int) := by simp
    have hle : 2 ^ L.1 ≤ 2 ^ 8 := Nat.pow_le_pow_right (by omega) (by omega)
    have h8 : (2 : Nat) ^ 8 = 256 := by decide
    rw [hc]
    generalize 2 ^ L.1 = X at hle ⊢
    exact ⟨by unfold wrap64; omega, by omega⟩
  exact key ⟨L, h9⟩

theorem below_alloc {w w' : World} (h : Below w.heap.size w w') (o : Obj) : Below w.heap.size w (w'.alloc o) := h.alloc h.size o

/-- The row that was made, beside a function value that does not hang on it. -/
def Tbl0 (w wx : World) (P g : Nat) (fv : Value) (G : Int → Bool) : Prop :=
  ∃ (lo hi : Nat) (cs : Array Value), Hid (wx.heap[g]? = some (.cells cs 4 (0, 0)) ∧ cs.size = P ∧ w.heap.size ≤ g ∧ FnI wx lo hi fv G ∧ (g < lo ∨ hi ≤ g) ∧ Below w.heap.size w wx)
theorem tbl_a {w w1 W wz : World} {CS : Array Value} {fv : Value} {G : Int → Bool} {P : Nat} (hB1 : Below w.heap.size w w1) (hb : Below w1.heap.size w1 wz) (h : Hid (FnI wz W.heap.size wz.heap.size fv G ∧ Below W.heap.size W wz))
    (hW : W.heap = (w1.alloc (.cells CS 4)).heap) (hCS : CS.size = P) : Tbl0 w wz P w1.heap.size fv G := by
  have hs : W.heap.size = w1.heap.size + 1 := by rw [hW]; simp
  refine ⟨W.heap.size, wz.heap.size, CS, ?_, hCS, hB1.size, h.1, .inl (by omega), hB1.trans (hb.mono hB1.size)⟩
  rw [h.2.block _ (by omega), hW]
  exact Array.getElem?_push_size
theorem tbl_b {w w1 W wz : World} {CS : Array Value} {fv : Value} {G : Int → Bool} {P : Nat} (hB1 : Below w.heap.size w w1) (hb : Below w1.heap.size w1 wz) (h : Hid (FnI wz W.heap.size wz.heap.size fv G ∧ Below W.heap.size W wz))
    (hCS : CS.size = P) : Tbl0 w (wz.alloc (.cells CS 4)) P wz.heap.size fv G := by
  have hbw := hB1.trans (hb.mono hB1.size)
  refine ⟨W.heap.size, wz.heap.size, CS, Array.getElem?_push_size, hCS, hbw.size, h.1.agree fun b _ hb => Below.heap_alloc wz _ b hb, .inr (Nat.le_refl _), hbw.alloc hbw.size _⟩
/-- What a round of the table's loop leaves. -/
def TblI (w wx : World) (P g lo hi j : Nat) (cs : Array Value) (fv : Value) (G : Int → Bool) : Prop :=
  wx.heap[g]? = some (.cells cs 4 (0, 0)) ∧ cs.size = P ∧ (∀ q : Nat, q < j → cs[q]? = some (.bool (G (q : Int)))) ∧ FnI wx lo hi fv G ∧ Below w.heap.size w wx
theorem tbl_step {w wx : World} {P g lo hi j : Nat} {cs : Array Value} {fv : Value} {G : Int → Bool} (h : TblI w wx P g lo hi j cs fv G) (hg : w.heap.size ≤ g) (hd : g < lo ∨ hi ≤ g) (hj : j < P) :
    TblI w (wx.setCell ⟨g, j, none⟩ (.bool (G (j : Int)))) P g lo hi (j + 1) (cs.setIfInBounds j (.bool (G (j : Int)))) fv G := by
  obtain ⟨h1, h2, h3, h4, h5⟩ := h
  refine ⟨heap_setCell_same _ _ _ _ _ _ h1, by simpa using h2, fun q hq => ?_, h4.agree fun b hb1 hb2 => Below.heap_setCell _ _ _ _ (by show b ≠ g; omega), h5.setCell (p := ⟨g, j, none⟩) hg _⟩
  by_cases e : q = j
  · subst e
    simp [h2, hj]
  · rw [Array.getElem?_setIfInBounds_ne (by omega)]
    exact h3 q (by omega)

theorem tbl_len (names : List ByteArray) (n : Nat) (t : FT n) : (tblF names n t).length = 2 ^ names.length := by simp [tblF]
theorem tbl_end {w wx : World} {P g lo hi : Nat} {cs : Array Value} {fv : Value} {names : List ByteArray} {n : Nat} {t : FT n} (h : TblI w wx P g lo hi P cs fv (holdsF names n t)) (hP : P = 2 ^ names.length) :
    BRep wx (.slice (some ⟨g, 0, none⟩) P P) (tblF names n t) := by
  refine ⟨some ⟨g, 0, none⟩, P, by rw [tbl_len, ← hP], .inr ⟨g, rfl, (Array.getElem?_eq_some_iff.1 h.1).1, fun i hi => ?_⟩⟩
  rw [tbl_len, ← hP] at hi
  rw [Lib.cell_of_heap h.1 i, h.2.2.1 i hi]
  simp [tblF]

theorem info4 : (Tryd.prog.info? 4).map (fun i => (i.zero, i.size, i.bytes)) = some (some (.bool false), 1, 1) := by kernel_rfl

set_option maxRecDepth 100000 in
set_option maxHeartbeats 8000000 in
theorem table18_any (names : List ByteArray) (nv : Value) (hs : ∀ s ∈ names, s.size ≤ 1048576) (n : Nat) (t : FT n) (v : Value) (w : World) (hr : Rdy w) (hn : NRep w w.heap.size nv names) (hf : FRep w w.heap.size n t v) :
    Calls Tryd.prog 18 #[nv, v] w fun e w' => (∃ lv, e = .returned (.tuple #[lv, .int .i64 (fmlR names n t)]) ∧ BRep w' lv (tableR names n t)) ∧ Below w.heap.size w w' := by
  obtain ⟨k, s, a, l, c, rfl⟩ := hf.shape
  obtain ⟨na, nc, rfl, _⟩ := id hn
  have hb : Below w.heap.size w (w.alloc (.cells #[.int .u8 k, .string s, .slice a l c] 39)) := (Below.refl _ _).alloc (Nat.le_refl _) _
  have HFM := Lib.hid (formula16_any names _ hs n t _ _ (hr.below hb) (hn.up hb hb.size) (hf.up hb hb.size))
  have HB := Lib.hid hb
  have HF := Lib.hid hf
  have HN := Lib.hid hn
  clear hr hs hb hf hn
  go_enter Tryd.func18, Tryd.ntmps18
  go_wp2_with fail
  refine HFM.out.mono ?_
  rintro e w1 ⟨rfl, hb1⟩
  have HBX := Lib.hid (fun w2 (h2 : Below w1.heap.size w1 w2) => box_cells3 (hb1.trans (h2.mono hb1.size)))
  obtain ⟨x0, x1, x2, hz⟩ := box_cells3 hb1
  have HB1 := Lib.hid (HB.out.trans (hb1.mono HB.out.size))
  clear hb1
  by_cases h0 : fmlR names n t = 0
  · obtain ⟨g1, g2, _, g4⟩ := fmlR_zero.1 h0
    have G2 := Lib.hid g2
    have G4 := Lib.hid g4
    have hnl := namesR_len g1
    obtain ⟨hp1, hp2⟩ := pow_small hnl
    have HR : Hid (tableR names n t = tblF names n t) := by rw [Hid, tableR, if_neg (by simpa using h0)]
    rw [h0]
    have H0 := Lib.hid h0
    clear g1 g2 g4 h0
    obtain ⟨P, hP⟩ : ∃ P : Nat, P = 2 ^ names.length := ⟨_, rfl⟩
    rw [← hP] at hp1 hp2
    have HP := Lib.hid hP
    have HMD : Hid (∀ W : World, Below w1.heap.size w1 W → Calls Tryd.prog 48 #[.slice na names.length nc, .agg #[.int .u8 k, .string s, .slice a l c]] W fun e w' => (∃ K caps, e = .returned (.func (.func K) #[] caps) ∧ Hid (FnI w' W.heap.size w'.heap.size (.func (.func K) #[] caps) (holdsF names n t) ∧ Below W.heap.size W w')) ∧ Below w1.heap.size w1 w') := by
      intro W hW
      have hbW := HB1.out.trans (hW.mono HB1.out.size)
      refine (made48_any names (.slice na names.length nc) hnl n t _ W (HN.out.up hbW hbW.size) (HF.out.up hbW hbW.size) G2.out G4.out).mono ?_
      rintro e w' ⟨⟨v', rfl, h1⟩, h2⟩
      obtain ⟨K, caps, rfl, _⟩ := h1 w' fun _ _ _ => rfl
      exact ⟨⟨K, caps, rfl, h1, h2⟩, hW.trans (h2.mono hW.size)⟩
    have hp3 : IntKind.i64.wrap (2 ^ names.length) = (P : Int) := by rw [show (2 : Int) ^ names.length = (P : Int) by rw [hP]; simp]; exact IntWalk.i64_in _ (by omega)
    obtain ⟨CS, hCS, hmk⟩ : ∃ CS : Array Value, CS.size = P ∧ ∀ W : World, (Instr.makeSlice 42 (.int .i64 (P : Int)) (.int .i64 (P : Int))).run Tryd.prog W = .ok (.slice (some ⟨W.heap.size, 0, none⟩) P P) (W.alloc (.cells CS 4)) := by
      obtain ⟨i0, hi, hz0, hz1, hz2⟩ := info_parts info4
      refine ⟨madeCells (Value.bool false).cells P, by rw [size_madeCells], fun W => ?_⟩
      have hr := run_make (P := Tryd.prog) W 42 4 i0 _ Tryd.underlying42 hi hz0 .i64 .i64 (P : Int) (P : Int) (by omega) (Int.le_refl _) (by rw [hz2]; omega) (by omega)
      simp only [Int.toNat_natCast] at hr
      rw [hz1, Nat.mul_one] at hr
      exact hr
    have HCS := Lib.hid hCS
    clear hP hCS
    have hself : Below w1.heap.size w1 w1 := Below.refl _ _
    go_upto_region 4 with fail
    go_cut [7, 8] from 5 (fun sv fv wx => ∃ (g K : Nat) (caps : Array Value), sv = .slice (some ⟨g, 0, none⟩) P P ∧ fv = .func (.func K) #[] caps ∧ Tbl0 w wx P g (.func (.func K) #[] caps) (holdsF names n t))
    case first =>
      go_region_held3 (fun w' => (w'.cell? ⟨w.heap.size, 0, none⟩ = some (Value.int .u8 k) ∧ w'.cell? ⟨w.heap.size, 1, none⟩ = some (Value.string s) ∧ w'.cell? ⟨w.heap.size, 2, none⟩ = some (Value.slice a l c) ∧ w.heap.size < w'.heap.size) ∧ Below w1.heap.size w1 w')
        ((refine ⟨HBX.out _ ?_, ?_⟩ <;> first | assumption | exact Below.drew (by assumption) | exact below_alloc (by assumption) _ | exact below_alloc (Below.drew (by assumption)) _))
        (first | (go_at_call 48; refine (HMD.out _ (by first | assumption | exact Below.drew (by assumption) | exact below_alloc (by assumption) _ | exact Below.drew (below_alloc (by assumption) _) | exact below_alloc (Below.drew (by assumption)) _)).mono ?_; rintro e wz ⟨⟨K, caps, rfl, hfn⟩, hbz⟩))
      all_goals (
        go_wp2_with fail
        go_meet
        first
          | exact ⟨_, _, _, rfl, rfl, tbl_a HB1.out (by assumption) (by assumption) (by exact rfl) HCS.out⟩
          | exact ⟨_, _, _, rfl, rfl, tbl_b HB1.out (by assumption) (by assumption) HCS.out⟩)
    case rest =>
      obtain ⟨g, K, caps, rfl, rfl, lo, hi, cs0, HG⟩ := hcut
      have HD := Lib.hid HG.out.2.2.2.2.1
      have HWG := Lib.hid HG.out.2.2.1
      have HT0 : Hid (TblI w wc P g lo hi 0 cs0 (.func (.func K) #[] caps) (holdsF names n t)) := ⟨HG.out.1, HG.out.2.1, fun q h => absurd h (by omega), HG.out.2.2.2.1, HG.out.2.2.2.2.2⟩
      clear HG x0 x1 x2 hz hself hmk
      go_wp2_with fail
      go_loopw [26] (fun i wr => ∃ (j : Nat) (cs : Array Value), j ≤ P ∧ i = .int .i64 j ∧ Hid (TblI w wr P g lo hi j cs (.func (.func K) #[] caps) (holdsF names n t))) (fun i _ => P - (intOf i).toNat)
      case atStart => exact ⟨0, cs0, Nat.zero_le _, rfl, HT0⟩
      case round =>
        clear HT0
        obtain ⟨j, cs, hj, rfl, HT⟩ := hrel
        by_cases hlt : j < P
        · obtain ⟨K', caps', heq, hK, hC⟩ := HT.out.2.2.2.1 wr fun _ _ _ => rfl
          cases heq
          have HC := Lib.hid (hC (j : Int))
          unfold Ent at hK
          have hbl := HT.out.1
          have c0 := Lib.cell_of_heap hbl j
          have f0 := Lib.frozen_of_heap hbl j
          rw [Array.getElem?_eq_getElem (by rw [HT.out.2.1]; exact hlt)] at c0
          have hgl := (Array.getElem?_eq_some_iff.1 hbl).1
          have HS := Lib.hid (tbl_step HT.out HWG.out HD.out hlt)
          clear hC hbl
          go_wp2_with fail
          refine HC.out.mono ?_
          rintro e w3 ⟨rfl, rfl⟩
          go_wp2_with fail
          go_roundw
          case rel => exact ⟨j + 1, _, by omega, by go_num, HS⟩
          case measure => simp [intOf]; omega
        · have hje : j = P := by omega
          subst hje
          go_wp2_with fail
          all_goals go_ret2
          all_goals exact ⟨⟨_, by rw [H0.out]; rfl, by rw [HR.out]; exact tbl_end HT.out HP.out⟩, HT.out.2.2.2.2⟩
  · have HR : Hid (tableR names n t = []) := by rw [Hid, tableR, if_pos (by simpa using h0)]
    have q : (fmlR names n t != 0) = true := by simpa using h0
    clear h0
    go_wp2_with fail
    all_goals go_ret2
    all_goals exact ⟨⟨_, rfl, none, 0, by rw [HR.out]; rfl, .inl HR.out⟩, HB1.out⟩
end Go.Proofs.YtabpfbgcdmejbaaDoor
