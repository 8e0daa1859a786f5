/- rallentandolaw15: again, alive. -/
import Derived.Test.YtipbgaiaoahnmaaDoorLexV
import Derived.Test.YtipbgaiaoahnmaaDoorLexS
namespace Go.Proofs.YtipbgaiaoahnmaaDoor
open Go.RowKit Go.Shelf
attribute [local go_sem ↓] Go.wp_at_zero Go.wp_at_succ

theorem cut_sum (l : List UInt8) : ∀ a ts, cut a l = .ok ts → (ts.map (·.text.size)).sum ≤ l.length := by
  induction l using cut_ind with
  | h0 => intro a ts h; simp at h; subst h; simp
  | h1 b r hb hr h ih => intro a ts hc; rw [h] at hc; have := ih _ _ hc; simp; omega
  | h2 b r e h => intro a ts hc; rw [h] at hc; cases hc
  | h3 t rest hne hk hap h ih =>
    intro a ts hc
    rw [h] at hc
    cases hq : cut (a + t.length) rest with
    | bad p e => rw [hq] at hc; cases hc
    | ok us =>
      rw [hq] at hc
      simp only [Res.cons, Res.ok.injEq] at hc
      subst hc
      have := ih _ _ hq
      simp only [List.map_cons, List.sum_cons, bsOf_size, List.length_append]
      omega
theorem cutR_sum (s : ByteArray) : sumT (cutR s).1 (cutR s).1.length ≤ 8192 := by
  have h1 := cutR_len s
  by_cases h : (cutR s).2.2 = 0
  · obtain ⟨h4, hc, _⟩ := cutR_ok h
    have h2 := cut_sum _ _ _ hc
    rw [size_list] at h2
    simp only [sumT, List.take_length]
    omega
  · rw [(cutR_err h).1]; simp [sumT]

/-- What again answers. -/
def againP (s : ByteArray) : ByteArray := if (cutR s).2.2 = 0 ∧ (glueP (cutR s).1).2 = 0 then bsOf (glueP (cutR s).1).1 else ⟨#[]⟩

theorem str_ret {a b : ByteArray} (h : a = b) : Ending.returned (.string a) = .returned (.string b) := by rw [h]

set_option maxRecDepth 100000 in
set_option maxHeartbeats 4000000 in
theorem again12_any (s : ByteArray) (w : World) (hr : Rdy w) : Calls Tryd.prog 12 #[.string s] w fun e w' => e = .returned (.string (againP s)) ∧ Below w.heap.size w w' := by
  have HR := Lib.hid hr
  have HA := Lib.hid (cut9_any s w hr)
  have HL := Lib.hid (cutR_len s)
  have HS := Lib.hid (cutR_sum s)
  have HE : Hid (∀ l p er, cutR s = (l, p, er) → againP s = if er = 0 ∧ (glueP l).2 = 0 then bsOf (glueP l).1 else ⟨#[]⟩) := by rintro l p er h; rw [againP, h]
  clear hr
  generalize cutR s = C at HA HL HS HE
  obtain ⟨l, pl, er⟩ := C
  dsimp only at HA HL HS
  have HE' := Lib.hid (HE.out l pl er rfl)
  clear HE
  have HG := Lib.hid (fun v W hW hs => glue14_any v l W hW hs (by have := HS.out; omega))
  generalize glueP l = G at HG HE'
  obtain ⟨gt, ge⟩ := G
  dsimp only at HG HE'
  go_enter Tryd.func12, Tryd.ntmps12
  go_wp2_with fail
  refine HA.out.mono ?_
  rintro e w1 ⟨⟨v1, rfl, hown1⟩, hb1⟩
  have HO1 := Lib.hid hown1
  have HB1 := Lib.hid hb1
  clear hown1 hb1
  go_wp2_with fail
  refine (HG.out v1 w1 (HR.out.below HB1.out) (HO1.out.toks (by have := HL.out; omega))).mono ?_
  rintro e w2 ⟨rfl, hb2⟩
  have HB2 := Lib.hid (HB1.out.trans (hb2.mono HB1.out.size))
  clear hb2
  by_cases h1 : er = 0
  · subst h1
    by_cases h2 : ge = 0
    · subst h2
      go_wp2_with fail
      go_ret
      exact ⟨str_ret (by rw [HE'.out]; rfl), HB2.out⟩
    · have q : (ge != 0) = true := by simpa using h2
      have HX : Hid (againP s = ⟨#[]⟩) := by rw [Hid, HE'.out, if_neg (fun h => h2 h.2)]
      clear h2
      go_wp2_with fail
      go_ret
      exact ⟨str_ret HX.out.symm, HB2.out⟩
  · have q : (er != 0) = true := by simpa using h1
    have HX : Hid (againP s = ⟨#[]⟩) := by rw [Hid, HE'.out, if_neg (fun h => h1 h.1)]
    clear h1
    go_wp2_with fail
    go_ret
    exact ⟨str_ret HX.out.symm, HB2.out⟩

theorem again_one : againP ⟨#[32, 32, 112, 32, 124, 124, 32, 113, 32, 124, 9, 124, 32, 55, 32, 59, 32]⟩ = ⟨#[112, 124, 124, 113, 124, 32, 124, 55, 59]⟩ := by decide +kernel
theorem again_two : againP ⟨#[60, 114, 62, 32, 95, 91, 49, 32, 44, 50, 32, 41]⟩ = ⟨#[60, 114, 62, 95, 91, 49, 44, 50, 41]⟩ := by decide +kernel
theorem again_three : againP ⟨#[124, 32, 124, 32, 112, 32, 113, 32, 59]⟩ = ⟨#[124, 32, 124, 112, 32, 113, 59]⟩ := by decide +kernel
theorem again_at {s t : ByteArray} (h : againP s = t) (w : World) (hr : Rdy w) : Calls Tryd.prog 12 #[.string s] w fun e w' => e = .returned (.string t) ∧ Below w.heap.size w w' := by
  rw [← h]; exact again12_any s w hr

set_option maxRecDepth 100000 in
set_option maxHeartbeats 4000000 in
theorem alive11_any (w : World) (hr : Rdy w) : Calls Tryd.prog 11 #[] w fun e w' => e = .returned (.bool true) ∧ Below w.heap.size w w' := by
  have HR := Lib.hid hr
  have H1 := Lib.hid (again_at again_one)
  have H2 := Lib.hid (again_at again_two)
  clear hr
  go_enter Tryd.func11, Tryd.ntmps11
  go_wp2_with fail
  refine (H1.out w HR.out).mono ?_
  rintro e w1 ⟨rfl, hb1⟩
  have HB1 := Lib.hid hb1
  clear hb1
  go_wp2_with fail
  refine (H2.out w1 (HR.out.below HB1.out)).mono ?_
  rintro e w2 ⟨rfl, hb2⟩
  have HB2 := Lib.hid (HB1.out.trans (hb2.mono HB1.out.size))
  clear hb2
  go_wp2_with fail
  go_ret
  exact ⟨ret_bool' (by first | rfl | decide +kernel | simp), HB2.out⟩
end Go.Proofs.YtipbgaiaoahnmaaDoor
