/- rallentandolaw15.LexCuts, walked: texts are cut, and names told, as the book says; it answers true. -/
import Derived.Test.YtipbgaiaoahnmaaDoorLexR
namespace Go.Proofs.YtipbgaiaoahnmaaDoor
open Go.RowKit Go.Shelf
attribute [local go_sem ↓] Go.wp_at_zero Go.wp_at_succ

theorem cutR_len (s : ByteArray) : (cutR s).1.length ≤ 4096 := by
  by_cases h : (cutR s).2.2 = 0
  · obtain ⟨h4, hc, _⟩ := cutR_ok h
    have : ∀ (l : List UInt8) (a : Nat) (ts : List Tok), cut a l = .ok ts → ts.length ≤ l.length := by
      intro l
      induction l using cut_ind with
      | h0 => intro a ts h; simp at h; subst h; simp
      | h1 b r hb hr h ih => intro a ts hc; rw [h] at hc; have := ih _ _ hc; simp; omega
      | h2 b r e h => intro a ts hc; rw [h] at hc; cases hc
      | h3 t rest hne hk hap h ih =>
        intro a ts hc
        rw [h] at hc
        cases hq : cut (a + t.length) rest with
        | bad p e => rw [hq] at hc; cases hc
        | ok us =>
          rw [hq] at hc
          simp only [Res.cons, Res.ok.injEq] at hc
          subst hc
          have := ih _ _ hq
          have := List.length_pos_iff.2 hne
          simp; omega
    have := this _ _ _ hc
    rw [size_list] at this
    omega
  · rw [(cutR_err h).1]; simp

set_option maxRecDepth 100000 in
set_option maxHeartbeats 4000000 in
theorem lexCuts8 (src word : ByteArray) (w : World) (hr : Rdy w) : Calls Tryd.prog 8 #[.string src, .string word] w fun e w' =>
    e = .returned (.bool true) ∧ Below w.heap.size w w' := by
  by_cases h1 : src.size ≤ 100000
  · by_cases h2 : word.size ≤ 100000
    · have h1' : (src.size : Int) ≤ 100000 := by omega
      have h2' : (word.size : Int) ≤ 100000 := by omega
      have HR := Lib.hid hr
      have HL := Lib.hid (cutR_len src)
      have HA := Lib.hid (fun W hW => cut9_any src W hW)
      have HB := Lib.hid (fun W => cut18_any src W)
      have HNA := Lib.hid (fun W hW => name19_any word (by omega) W hW)
      have HNB := Lib.hid (fun W => name20_any word (by omega) W)
      clear hr h1 h2
      generalize cutR src = C at HL HA HB
      obtain ⟨l, at_, er⟩ := C
      dsimp only at HL HA HB
      generalize nameB word.data.toList = N at HNA HNB
      go_enter Tryd.func8, Tryd.ntmps8
      go_wp2_with fail
      refine (HA.out _ HR.out).mono ?_
      rintro e w1 ⟨⟨v1, rfl, hown1⟩, hb1⟩
      have HO1 := Lib.hid hown1
      have HB1 := Lib.hid hb1
      clear hown1 hb1
      go_wp2_with fail
      refine (HB.out w1).mono ?_
      rintro e w2 ⟨⟨v2, rfl, hown2⟩, hb2⟩
      have HO2 := Lib.hid hown2
      have HB2 := Lib.hid hb2
      clear hown2 hb2
      have HS : Hid (Calls Tryd.prog 17 #[v1, v2] w2 fun e w' => e = .returned (.bool true) ∧ Below w2.heap.size w2 w') :=
        (same17_any v1 v2 l l w2 ((HO1.out.below HB2.out).toks (by have := HL.out; omega)) (HO2.out.toks (by have := HL.out; omega))).mono (fun e w' ⟨h, hb⟩ => ⟨h.trans (by simp), hb⟩)
      go_wp2_with fail
      refine HS.out.mono ?_
      rintro e w3 ⟨rfl, hb3⟩
      have HB3 := Lib.hid ((HB1.out.trans (HB2.out.mono HB1.out.size)).trans (hb3.mono (Nat.le_trans HB1.out.size HB2.out.size)))
      clear hb3
      go_wp2_with fail
      refine (HNA.out w3 (HR.out.below HB3.out)).mono ?_
      rintro e w4 ⟨rfl, hb4⟩
      have HB4 := Lib.hid (HB3.out.trans (hb4.mono HB3.out.size))
      clear hb4
      go_wp2_with fail
      refine (HNB.out w4).mono ?_
      rintro e w5 ⟨rfl, rfl⟩
      go_wp2_with fail
      go_ret
      exact ⟨ret_bool' (by simp), HB4.out⟩
    · have h1' : (src.size : Int) ≤ 100000 := by omega
      have h2' : ¬ (word.size : Int) ≤ 100000 := by omega
      go_enter Tryd.func8, Tryd.ntmps8
      go_wp2_with fail
      go_ret
      exact ⟨rfl, Below.refl _ _⟩
  · have h1' : ¬ (src.size : Int) ≤ 100000 := by omega
    go_enter Tryd.func8, Tryd.ntmps8
    go_wp2_with fail
    go_ret
    exact ⟨rfl, Below.refl _ _⟩
end Go.Proofs.YtipbgaiaoahnmaaDoor
