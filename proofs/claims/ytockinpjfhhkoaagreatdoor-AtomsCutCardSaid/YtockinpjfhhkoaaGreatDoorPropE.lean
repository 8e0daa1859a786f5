/- prop.Holds walked. -/
import Derived.Test.YtockinpjfhhkoaaGreatDoorPropC
import Derived.Test.YtockinpjfhhkoaaGreatDoorFmA
import Derived.Test.YtockinpjfhhkoaaGreatDoorTreeB
import Derived.Deep.RegionHeld3
namespace Go.Proofs.YtockinpjfhhkoaaGreatDoor
open Go.RowKit

theorem namesR_len {l : List ByteArray} (h : namesR l = 0) : l.length ≤ 8 := by
  unfold namesR at h
  rcases Nat.lt_or_ge 8 l.length with h1 | h1
  · simp [h1] at h
  · exact h1

/-- What Holds answers. -/
def holdsR (names : List ByteArray) (n : Nat) (t : FT n) (on : Int) : Bool × Int :=
  if fmlR names n t ≠ 0 then (false, fmlR names n t) else if 0 < on / 2 ^ names.length then (false, 2) else (holdsF names n t on, 0)

set_option maxRecDepth 100000 in
set_option maxHeartbeats 8000000 in
theorem holds22_any (names : List ByteArray) (nv : Value) (hs : ∀ s ∈ names, s.size ≤ 1048576) (n : Nat) (t : FT n) (v : Value) (on : Int) (w : World) (ho : 0 ≤ on) (ho2 : on ≤ 255) (hr : Rdy w) (hn : NRep w w.heap.size nv names) (hf : FRep w w.heap.size n t v) :
    Calls Tryz.prog 40 #[nv, v, .int .u8 on] w fun e w' => e = .returned (.tuple #[.bool (holdsR names n t on).1, .int .i64 (holdsR names n t on).2]) ∧ Below w.heap.size w w' := by
  obtain ⟨k, s, a, l, c, rfl⟩ := hf.shape
  obtain ⟨na, nc, rfl, _⟩ := id hn
  have hb : Below w.heap.size w (w.alloc (.cells #[.int .u8 k, .string s, .slice a l c] 25)) := (Below.refl _ _).alloc (Nat.le_refl _) _
  have HFM := Lib.hid (formula16_any names _ hs n t _ _ (hr.below hb) (hn.up hb hb.size) (hf.up hb hb.size))
  have HB := Lib.hid hb
  have HF := Lib.hid hf
  have HN := Lib.hid hn
  clear hr hs hb hf hn
  go_enter Tryz.func40, Tryz.ntmps40
  go_wp2_with fail
  refine HFM.out.mono ?_
  rintro e w1 ⟨rfl, hb1⟩
  obtain ⟨x0, x1, x2, hz⟩ := box_cells3 hb1
  have HB1 := Lib.hid (HB.out.trans (hb1.mono HB.out.size))
  clear hb1
  by_cases h0 : fmlR names n t = 0
  · obtain ⟨g1, g2, _, g4⟩ := fmlR_zero.1 h0
    have G2 := Lib.hid g2
    have G4 := Lib.hid g4
    have hnl := namesR_len g1
    rw [h0]
    have H0 := Lib.hid h0
    clear g1 g2 g4 h0
    by_cases hon : 0 < on / 2 ^ names.length
    · have HR : Hid (holdsR names n t on = (false, 2)) := by rw [Hid, holdsR, H0.out, if_neg (by simp), if_pos hon]
      go_wp2_with fail
      all_goals go_ret2
      all_goals exact ⟨by rw [HR.out]; rfl, HB1.out⟩
    · have HR : Hid (holdsR names n t on = (holdsF names n t on, 0)) := by rw [Hid, holdsR, H0.out, if_neg (by simp), if_neg hon]
      have HMD := made48_any names (.slice na names.length nc) hnl n t _ w1 (HN.out.up HB1.out HB1.out.size) (HF.out.up HB1.out HB1.out.size) G2.out G4.out
      have HM := Lib.hid HMD
      clear HMD
      go_wp2_with fail
      refine HM.out.mono ?_
      rintro e w2 ⟨⟨v', rfl, hv⟩, hb2⟩
      have HB2 := Lib.hid (HB1.out.trans (hb2.mono HB1.out.size))
      obtain ⟨K, caps, rfl, hK, hC⟩ := hv w2 fun _ _ _ => rfl
      have HC := Lib.hid (hC on)
      unfold Ent at hK
      clear hb2 hv hC
      go_wp2_with fail
      refine HC.out.mono ?_
      rintro e w3 ⟨rfl, rfl⟩
      go_wp2_with fail
      all_goals go_ret2
      all_goals exact ⟨by rw [HR.out]; rfl, HB2.out⟩
  · have HR : Hid (holdsR names n t on = (false, fmlR names n t)) := by rw [Hid, holdsR, if_pos h0]
    have q : (fmlR names n t != 0) = true := by simpa using h0
    clear h0
    go_wp2_with fail
    all_goals go_ret2
    all_goals exact ⟨by rw [HR.out]; rfl, HB1.out⟩
end Go.Proofs.YtockinpjfhhkoaaGreatDoor

