/- rallentandolaw15.LexParts, walked: a text may be cut in two where a token begins; it answers true. -/
import Derived.Test.YtipbgaiaoahnmaaDoorPartsP
namespace Go.Proofs.YtipbgaiaoahnmaaDoor
open Go.RowKit Go.Shelf
attribute [local go_sem ↓] Go.wp_at_zero Go.wp_at_succ
attribute [local go_sem] eq27

theorem flatT_set_place : ∀ (l : List Tok) (j : Nat) (p : Int), (h : j < l.length) → (flatT l).set (j * 3 + 2) (.int .i64 p) = flatT (l.set j { l[j] with place := p })
  | [], j, p, h => by simp at h
  | t :: l, 0, p, _ => by simp [flatT, Tok.cells]
  | t :: l, j + 1, p, h => by
    have ih := flatT_set_place l j p (by simpa using h)
    have h2 : ∀ (u : Tok) (r : List Tok), flatT (u :: r) = u.cells ++ flatT r := fun u r => by simp [flatT]
    have h3 : t.cells.length = 3 := rfl
    rw [h2, List.set_append_right _ _ (by rw [h3]; omega), h3, show (j + 1) * 3 + 2 - 3 = j * 3 + 2 by omega, ih, List.set_cons_succ, h2]
    rfl
/-- The tokens of the second part, the first j of them moved on by k. -/
def movedT (us : List Tok) (k j : Nat) : List Tok := (us.take j).map (Tok.shift k) ++ us.drop j
theorem movedT_len (us : List Tok) (k j : Nat) (h : j ≤ us.length) : (movedT us k j).length = us.length := by simp [movedT]; omega
theorem movedT_at (us : List Tok) (k j : Nat) (h : j < us.length) (h2 : j < (movedT us k j).length) : (movedT us k j)[j] = us[j] := by
  simp only [movedT]
  rw [List.getElem_append_right (by simp; omega)]
  simp only [List.length_map, List.length_take, List.getElem_drop]
  congr 1
  omega
theorem movedT_set (us : List Tok) (k j : Nat) (h : j < us.length) : (movedT us k j).set j ((us[j]).shift k) = movedT us k (j + 1) := by
  simp only [movedT]
  rw [List.set_append_right _ _ (by simp; omega)]
  simp only [List.length_map, List.length_take]
  rw [show j - min j us.length = 0 by omega, List.drop_eq_getElem_cons h, List.set_cons_zero, List.take_succ_eq_append_getElem h, List.map_append, List.append_assoc]
  rfl
theorem movedT_now (us : List Tok) (k j : Nat) (h : j < us.length) (h2 : j < (movedT us k (j + 1)).length) : (movedT us k (j + 1))[j] = (us[j]).shift k := by
  have h3 : (movedT us k (j + 1))[j]? = some ((us[j]).shift k) := by
    rw [← movedT_set us k j h]
    rw [List.getElem?_set_self (by rw [movedT_len us k j (by omega)]; exact h)]
  rw [List.getElem?_eq_getElem h2] at h3
  exact Option.some.inj h3
theorem OwnT.cap {w : World} {B : Nat} {a : Option Addr} {n c : Nat} {l : List Tok} (h : OwnT w B (.slice a n c) l) : l.length ≤ c ∧ n = l.length := by
  rcases h.2 with ⟨h1, h0⟩ | ⟨g, cap, cur, hv, _, _, hn, _⟩
  · simp only [Value.slice.injEq] at h1; omega
  · simp only [Value.slice.injEq] at hv; omega

set_option maxRecDepth 100000 in
set_option maxHeartbeats 4000000 in
theorem parts7_long (s : ByteArray) (i : Int) (w : World) (hr : Rdy w) (h4 : ¬ s.size ≤ 4096) :
    Calls Tryd.prog 7 #[.string s, .int .i64 i] w fun e w' => e = .returned (.bool true) ∧ Below w.heap.size w w' := by
  have HR := Lib.hid hr
  have HAL := Lib.hid (fun W hW => alive11_any W hW)
  clear hr
  have h4' : (4096 : Int) < (s.size : Int) := by omega
  clear h4
  go_enter Tryd.func7, Tryd.ntmps7
  go_wp2_with fail
  refine (HAL.out w HR.out).mono ?_
  rintro e w1 ⟨rfl, hb1⟩
  have HB1 := Lib.hid hb1
  clear hb1
  go_wp2_with fail
  go_ret
  exact ⟨rfl, HB1.out⟩

set_option maxRecDepth 100000 in
set_option maxHeartbeats 4000000 in
theorem parts7_bad (s : ByteArray) (i : Int) (w : World) (hr : Rdy w) (h4 : s.size ≤ 4096) (h0 : (cutR s).2.2 ≠ 0) :
    Calls Tryd.prog 7 #[.string s, .int .i64 i] w fun e w' => e = .returned (.bool true) ∧ Below w.heap.size w w' := by
  have HR := Lib.hid hr
  have HAL := Lib.hid (fun W hW => alive11_any W hW)
  clear hr
  have h4' : ¬ (4096 : Int) < (s.size : Int) := by omega
  have HCUT := Lib.hid (fun W hW => cut9_any s W hW)
  obtain ⟨k, ts, hl0, hpl, hks, hc1, hc2⟩ := parts_bad h4 h0
  have hsl1 : ∀ W, (Instr.slice 9 (.string s) none (some (.int .i64 (k : Int))) none).run Tryd.prog W = .ok (.string (s.extract 0 k)) W := fun W => by
    rw [run_slice_string_h W 9 s Tryd.underlying9 .i64 _ (by omega) (by omega)]; rfl
  have hsl2 : ∀ W, (Instr.slice 9 (.string s) (some (.int .i64 (k : Int))) none none).run Tryd.prog W = .ok (.string (s.extract k s.size)) W := fun W => by
    rw [run_slice_string_l W 9 s Tryd.underlying9 .i64 _ (by omega) (by omega)]; rfl
  have HC1 : Hid (∀ W, Rdy W → Calls Tryd.prog 9 #[.string (s.extract 0 k)] W fun e w' => (∃ v', e = .returned (.tuple #[v', .int .i64 0, .int .i64 0]) ∧ OwnT w' W.heap.size v' ts) ∧ Below W.heap.size W w') := fun W hW => by
    have h1 := cut9_any (s.extract 0 k) W hW
    rw [hc1] at h1; exact h1
  have HC2 : Hid (∀ W, Rdy W → Calls Tryd.prog 9 #[.string (s.extract k s.size)] W fun e w' => (∃ v', e = .returned (.tuple #[v', .int .i64 0, .int .i64 (cutR s).2.2]) ∧ OwnT w' W.heap.size v' []) ∧ Below W.heap.size W w') := fun W hW => by
    have h1 := cut9_any (s.extract k s.size) W hW
    rw [hc2] at h1; exact h1
  rw [hl0, hpl] at HCUT
  have q : ((cutR s).2.2 != 0) = true := by simpa using h0
  generalize s.extract 0 k = X1 at hsl1 HC1
  generalize s.extract k s.size = X2 at hsl2 HC2
  generalize (cutR s).2.2 = er at q HCUT HC2
  clear hc1 hc2 h0 hl0 hpl h4 hks
  go_enter Tryd.func7, Tryd.ntmps7
  go_wp2_with fail
  refine (HAL.out w HR.out).mono ?_
  rintro e w1 ⟨rfl, hb1⟩
  have HB1 := Lib.hid hb1
  clear hb1
  go_wp2_with fail
  refine (HCUT.out w1 (HR.out.below HB1.out)).mono ?_
  rintro e w2 ⟨⟨v2, rfl, _⟩, hb2⟩
  have HB2 := Lib.hid (HB1.out.trans (hb2.mono HB1.out.size))
  clear hb2
  go_wp2_with fail
  refine (HC1.out w2 (HR.out.below HB2.out)).mono ?_
  rintro e w3 ⟨⟨v3, rfl, _⟩, hb3⟩
  have HB3 := Lib.hid (HB2.out.trans (hb3.mono HB2.out.size))
  clear hb3
  go_wp2_with fail
  refine (HC2.out w3 (HR.out.below HB3.out)).mono ?_
  rintro e w4 ⟨⟨v4, rfl, _⟩, hb4⟩
  have HB4 := Lib.hid (HB3.out.trans (hb4.mono HB3.out.size))
  clear hb4
  go_wp2_with fail
  go_ret
  exact ⟨ret_bool' (by simp), HB4.out⟩

set_option maxRecDepth 100000 in
set_option maxHeartbeats 4000000 in
theorem parts7_neg (s : ByteArray) (i : Int) (w : World) (hr : Rdy w) (h4 : s.size ≤ 4096) (h0 : (cutR s).2.2 = 0) (hneg : i < 0) :
    Calls Tryd.prog 7 #[.string s, .int .i64 i] w fun e w' => e = .returned (.bool true) ∧ Below w.heap.size w w' := by
  have HR := Lib.hid hr
  have HAL := Lib.hid (fun W hW => alive11_any W hW)
  clear hr
  have h4' : ¬ (4096 : Int) < (s.size : Int) := by omega
  have HCUT := Lib.hid (fun W hW => cut9_any s W hW)
  have HP := Lib.hid (fun n hn => parts_ok h0 n hn)
  have hpl := (cutR_ok h0).2.2
  have HLEN := Lib.hid (cutR_len s)
  rw [h0, hpl] at HCUT
  generalize (cutR s).1 = l at HCUT HP HLEN
  clear h0 hpl h4
  clear HP
  go_enter Tryd.func7, Tryd.ntmps7
  go_wp2_with fail
  refine (HAL.out w HR.out).mono ?_
  rintro e w1 ⟨rfl, hb1⟩
  have HB1 := Lib.hid hb1
  clear hb1
  go_wp2_with fail
  refine (HCUT.out w1 (HR.out.below HB1.out)).mono ?_
  rintro e w2 ⟨⟨v2, rfl, hown2⟩, hb2⟩
  have HB2 := Lib.hid (HB1.out.trans (hb2.mono HB1.out.size))
  obtain ⟨a2, c2, rfl⟩ := hown2.shape
  clear hb2 hown2
  go_wp2_with fail
  go_ret
  exact ⟨rfl, HB2.out⟩

set_option maxRecDepth 100000 in
set_option maxHeartbeats 4000000 in
theorem parts7_ge (s : ByteArray) (i : Int) (w : World) (hr : Rdy w) (h4 : s.size ≤ 4096) (h0 : (cutR s).2.2 = 0) (hneg : ¬ i < 0) (hin : ((cutR s).1.length : Int) ≤ i) :
    Calls Tryd.prog 7 #[.string s, .int .i64 i] w fun e w' => e = .returned (.bool true) ∧ Below w.heap.size w w' := by
  have HR := Lib.hid hr
  have HAL := Lib.hid (fun W hW => alive11_any W hW)
  clear hr
  have h4' : ¬ (4096 : Int) < (s.size : Int) := by omega
  have HCUT := Lib.hid (fun W hW => cut9_any s W hW)
  have HP := Lib.hid (fun n hn => parts_ok h0 n hn)
  have hpl := (cutR_ok h0).2.2
  have HLEN := Lib.hid (cutR_len s)
  rw [h0, hpl] at HCUT
  generalize (cutR s).1 = l at HCUT HP HLEN hin
  clear h0 hpl h4
  have hge := hin
  clear hin
  clear HP
  go_enter Tryd.func7, Tryd.ntmps7
  go_wp2_with fail
  refine (HAL.out w HR.out).mono ?_
  rintro e w1 ⟨rfl, hb1⟩
  have HB1 := Lib.hid hb1
  clear hb1
  go_wp2_with fail
  refine (HCUT.out w1 (HR.out.below HB1.out)).mono ?_
  rintro e w2 ⟨⟨v2, rfl, hown2⟩, hb2⟩
  have HB2 := Lib.hid (HB1.out.trans (hb2.mono HB1.out.size))
  obtain ⟨a2, c2, rfl⟩ := hown2.shape
  clear hb2 hown2
  go_wp2_with fail
  go_ret
  exact ⟨rfl, HB2.out⟩

set_option maxRecDepth 100000 in
set_option maxHeartbeats 4000000 in
theorem parts7_in (s : ByteArray) (i : Int) (w : World) (hr : Rdy w) (h4 : s.size ≤ 4096) (h0 : (cutR s).2.2 = 0) (hneg : ¬ i < 0) (hin : ¬ ((cutR s).1.length : Int) ≤ i) :
    Calls Tryd.prog 7 #[.string s, .int .i64 i] w fun e w' => e = .returned (.bool true) ∧ Below w.heap.size w w' := by
  have HR := Lib.hid hr
  have HAL := Lib.hid (fun W hW => alive11_any W hW)
  clear hr
  have h4' : ¬ (4096 : Int) < (s.size : Int) := by omega
  have HCUT := Lib.hid (fun W hW => cut9_any s W hW)
  have HP := Lib.hid (fun n hn => parts_ok h0 n hn)
  have hpl := (cutR_ok h0).2.2
  have HLEN := Lib.hid (cutR_len s)
  rw [h0, hpl] at HCUT
  generalize (cutR s).1 = l at HCUT HP HLEN hin
  clear h0 hpl h4
  have hge := hin
  clear hin
  obtain ⟨n, rfl⟩ : ∃ n : Nat, i = n := ⟨i.toNat, by omega⟩
  have hn : n < l.length := by omega
  have hni : (n : Int) < (l.length : Int) := by omega
  obtain ⟨k, us, hpk, hks, hc1, hc2, hlu, hall⟩ := HP.out n hn
  have hsl1 : ∀ W, (Instr.slice 9 (.string s) none (some (.int .i64 (k : Int))) none).run Tryd.prog W = .ok (.string (s.extract 0 k)) W := fun W => by
    rw [run_slice_string_h W 9 s Tryd.underlying9 .i64 _ (by omega) (by omega)]; rfl
  have hsl2 : ∀ W, (Instr.slice 9 (.string s) (some (.int .i64 (k : Int))) none none).run Tryd.prog W = .ok (.string (s.extract k s.size)) W := fun W => by
    rw [run_slice_string_l W 9 s Tryd.underlying9 .i64 _ (by omega) (by omega)]; rfl
  have HC1 : Hid (∀ W, Rdy W → Calls Tryd.prog 9 #[.string (s.extract 0 k)] W fun e w' => (∃ v', e = .returned (.tuple #[v', .int .i64 0, .int .i64 0]) ∧ OwnT w' W.heap.size v' (l.take n)) ∧ Below W.heap.size W w') := fun W hW => by
    have h1 := cut9_any (s.extract 0 k) W hW
    rw [hc1] at h1; exact h1
  have HC2 : Hid (∀ W, Rdy W → Calls Tryd.prog 9 #[.string (s.extract k s.size)] W fun e w' => (∃ v', e = .returned (.tuple #[v', .int .i64 0, .int .i64 0]) ∧ OwnT w' W.heap.size v' us) ∧ Below W.heap.size W w') := fun W hW => by
    have h1 := cut9_any (s.extract k s.size) W hW
    rw [hc2] at h1; exact h1
  generalize s.extract 0 k = X1 at hsl1 HC1
  generalize s.extract k s.size = X2 at hsl2 HC2
  have hla : (l.take n).length = n := by simp; omega
  obtain ⟨la, hlae⟩ : ∃ la, la = l.take n := ⟨_, rfl⟩
  rw [← hlae] at HC1 hla
  have HLA := Lib.hid hlae
  have HALL := Lib.hid hall
  have HPK := Lib.hid hpk
  have hwb : IntKind.i64.wrap ((l.length : Int) - (n : Int)) = (us.length : Int) := by
    have := HLEN.out
    rw [IntWalk.i64_in _ (by omega)]; omega
  clear hc1 hc2 hall hpk hlae HP
  have HLU := Lib.hid hlu
  clear hlu
  go_enter Tryd.func7, Tryd.ntmps7
  go_wp2_with fail
  refine (HAL.out w HR.out).mono ?_
  rintro e w1 ⟨rfl, hb1⟩
  have HB1 := Lib.hid hb1
  clear hb1
  go_wp2_with fail
  refine (HCUT.out w1 (HR.out.below HB1.out)).mono ?_
  rintro e w2 ⟨⟨v2, rfl, hown2⟩, hb2⟩
  have HB2 := Lib.hid (HB1.out.trans (hb2.mono HB1.out.size))
  have HO2 := Lib.hid hown2
  obtain ⟨g2, cap2, rfl, _, hgl2, ht2, _, _⟩ := hown2.at (by intro h; rw [h] at hn; simp at hn)
  have hcp2 := HO2.out.cap.1
  obtain ⟨_, _, p2⟩ := ht2 n hn
  rw [Nat.zero_add, HPK.out] at p2
  have HT2 := Lib.hid ht2
  clear hb2 hown2 ht2
  go_wp2_with fail
  refine (HC1.out w2 (HR.out.below HB2.out)).mono ?_
  rintro e w3 ⟨⟨v3, rfl, hown3⟩, hb3⟩
  have HB3 := Lib.hid (HB2.out.trans (hb3.mono HB2.out.size))
  have HT3 := Lib.hid (HT2.out.below hb3 hgl2)
  have HO3 := Lib.hid hown3
  have hgl3 : g2 < w3.heap.size := Nat.lt_of_lt_of_le hgl2 hb3.size
  clear hb3 hown3 p2
  go_wp2_with fail
  refine (HC2.out w3 (HR.out.below HB3.out)).mono ?_
  rintro e w4 ⟨⟨v4, rfl, hown4⟩, hb4⟩
  have HB4 := Lib.hid hb4
  have HO4 := Lib.hid hown4
  obtain ⟨a3, cap3, hv3⟩ := HO3.out.shape
  subst hv3
  obtain ⟨g4, cap4, rfl, hgb4, hgl4, _, _, _⟩ := hown4.at (by intro h; rw [h] at HLU; have := HLU.out; simp at this; omega)
  clear hb4 hown4
  rw [hla]
  have hq1 : ((n : Int) != (n : Int)) = false := by simp
  have hq2 : ((us.length : Int) != (us.length : Int)) = false := by simp
  have HWL : Hid (w3.heap.size ≤ w4.heap.size) := HB4.out.size
  go_wp2_with fail
  go_loopw [22] (fun i wr => ∃ (j : Nat), j ≤ us.length ∧ i = .int .i64 j ∧ w4.heap.size ≤ wr.heap.size ∧ Hid (Below w3.heap.size w3 wr ∧ OwnT wr w3.heap.size (.slice (some ⟨g4, 0, none⟩) us.length cap4) (movedT us k j))) (fun i _ => us.length - (intOf i).toNat)
  case atStart => exact ⟨0, Nat.zero_le _, rfl, Nat.le_refl _, HB4.out, by simpa [movedT] using HO4.out⟩
  case round =>
    obtain ⟨j, hj, rfl, hwr, HI⟩ := hrel
    by_cases hlt : j < us.length
    · have hm : n + j < l.length := by have := HLU.out; omega
      obtain ⟨m, hme⟩ : ∃ m, m = n + j := ⟨_, rfl⟩
      have hml : m < l.length := by omega
      obtain ⟨he, hp0, hpk⟩ := HALL.out j hlt hm
      have he' : l[m] = { us[j] with place := us[j].place + k } := by simp only [hme]; exact he
      have hlm := movedT_len us k j hj
      obtain ⟨g5, cap5, hv5, _, hgl5, hc5, hf5, hset⟩ := HI.out.2.at (by intro h; rw [h] at hlm; simp at hlm; omega)
      simp only [Value.slice.injEq, Option.some.injEq, Addr.mk.injEq, and_true] at hv5
      obtain ⟨rfl, _, rfl⟩ := hv5
      have hjm : j < (movedT us k j).length := by omega
      obtain ⟨c0, c1, c2⟩ := hc5 j hjm
      rw [movedT_at us k j hlt hjm, Nat.zero_add] at c0 c1 c2
      have hown6 := hset (j * 3 + 2) (.int .i64 (us[j].place + k)) HI.out.2
      rw [movedT_len us k j hj, flatT_set_place _ j _ hjm] at hown6
      have hown7 : OwnT (wr.setCell ⟨g4, j * 3 + 2, none⟩ (.int .i64 (us[j].place + k))) w3.heap.size (.slice (some ⟨g4, 0, none⟩) us.length cap4) (movedT us k (j + 1)) := by
        have h1 : (movedT us k j).set j { (movedT us k j)[j] with place := us[j].place + k } = movedT us k (j + 1) := by
          rw [movedT_at us k j hlt hjm, ← movedT_set us k j hlt]; rfl
        rw [h1] at hown6
        have h2 := movedT_len us k (j + 1) hlt
        show World.ownsRow _ _ _ _ _ _ _
        rw [h2]
        exact hown6
      have hb6 : Below w3.heap.size w3 (wr.setCell ⟨g4, j * 3 + 2, none⟩ (.int .i64 (us[j].place + k))) := HI.out.1.setCell (p := ⟨g4, j * 3 + 2, none⟩) hgb4 _
      have hsz6 : w4.heap.size ≤ (wr.setCell ⟨g4, j * 3 + 2, none⟩ (.int .i64 (us[j].place + k))).heap.size := by simpa [World.setCell] using hwr
      have hfz := hf5 (j * 3 + 2)
      have HOW7 := Lib.hid hown7
      have HB6 := Lib.hid hb6
      have HSZ6 := Lib.hid hsz6
      have HEJ := Lib.hid he'
      have hwp : IntKind.i64.wrap (us[j].place + (k : Int)) = us[j].place + (k : Int) := IntWalk.i64_in _ (by omega)
      have hwn : IntKind.i64.wrap ((n : Int) + (j : Int)) = (m : Int) := by
        have := HLEN.out
        rw [IntWalk.i64_in _ (by omega)]; omega
      have hji : (j : Int) < (us.length : Int) := by omega
      have hjb : j + 1 ≤ 5000 := by have := HLEN.out; have := HLU.out; omega
      have hj0 : (0 : Int) ≤ (j : Int) := by omega
      have hmi : (m : Int) < (l.length : Int) := by omega
      have hm0 : (0 : Int) ≤ (m : Int) := by omega
      have hglr : g4 < wr.heap.size := by omega
      have HNOW : Hid (∀ h2 : j < (movedT us k (j + 1)).length, (movedT us k (j + 1))[j] = { us[j] with place := us[j].place + k }) := fun h2 => movedT_now us k j hlt h2
      clear hown6 hown7 hb6 hsz6 hset hc5 hf5 hlm hme he he' hm
      generalize us[j] = u at c0 c1 c2 hp0 hpk hwp HOW7 HB6 HSZ6 HEJ HNOW ⊢
      obtain ⟨uk, ut, up⟩ := u
      dsimp only at c0 c1 c2 hp0 hpk hwp HOW7 HB6 HSZ6 HEJ HNOW
      go_upto_region 20 with fail
      generalize wr.setCell ⟨g4, j * 3 + 2, none⟩ (.int .i64 (up + (k : Int))) = W1 at HOW7 HB6 HSZ6 ⊢
      obtain ⟨g6, cap6, hv6, _, hgl6, hc6, _, _⟩ := HOW7.out.at (by intro h; have := movedT_len us k (j + 1) hlt; rw [h] at this; simp at this; omega)
      simp only [Value.slice.injEq, Option.some.injEq, Addr.mk.injEq, and_true] at hv6
      obtain ⟨rfl, _, rfl⟩ := hv6
      have hj6 : j < (movedT us k (j + 1)).length := by rw [movedT_len us k (j + 1) hlt]; exact hlt
      obtain ⟨e0, e1, e2⟩ := hc6 j hj6
      rw [HNOW.out hj6, Nat.zero_add] at e0 e1 e2
      obtain ⟨f0, f1, f2⟩ := (HT3.out.below HB6.out hgl3) m hml
      rw [HEJ.out, Nat.zero_add] at f0 f1 f2
      dsimp only at e0 e1 e2 f0 f1 f2
      clear c0 c1 c2 hc6 hfz hwp hglr
      have hg2w : g2 < W1.heap.size := Nat.lt_of_lt_of_le hgl3 HB6.out.size
      generalize up + (k : Int) = pk at e2 f2
      go_quiet (fail)
      go_wp2_with fail
      refine ⟨⟨j + 1, by omega, by push_cast; rfl, HSZ6.out, belowDrewN HB6.out _, HOW7.out.below (belowDrewN (Below.refl _ _) _)⟩, by simp [intOf]; omega⟩
    · obtain rfl : j = us.length := by omega
      have HBW := Lib.hid HI.out.1
      have HSAME : Hid (Calls Tryd.prog 17 #[.slice a3 n cap3, .slice (some ⟨g2, 0, none⟩) n cap2] wr fun e w' => e = .returned (.bool true) ∧ Below wr.heap.size wr w') := by
        have h1 : Toks wr wr.heap.size (.slice a3 n cap3) la := by
          have h2 := (HO3.out.below HBW.out).toks (by rw [hla]; have := HLEN.out; omega)
          rw [hla] at h2
          exact h2
        have h2 : Toks wr wr.heap.size (.slice (some ⟨g2, 0, none⟩) n cap2) la := by
          refine ⟨some ⟨g2, 0, none⟩, cap2, by rw [hla], by rw [hla]; have := HLEN.out; omega, .inr ⟨g2, 0, rfl, Nat.lt_of_lt_of_le hgl3 HBW.out.size, fun i hi => ?_⟩⟩
          have h3 := (HT3.out.below HBW.out hgl3) i (by omega)
          have h4 : la[i] = l[i]'(by omega) := by simp only [HLA.out, List.getElem_take]
          rw [h4]
          exact h3
        exact (same17_any _ _ la la wr h1 h2).mono (fun e w' ⟨h, hb⟩ => ⟨h.trans (by simp), hb⟩)
      have hcn : (n : Int) ≤ (cap2 : Int) := by omega
      have hcn2 : n ≤ cap2 := by omega
      go_wp2_with fail
      refine HSAME.out.mono ?_
      rintro e w5 ⟨rfl, hb5⟩
      go_wp2_with fail
      go_ret
      exact ⟨rfl, (HB3.out.trans (HBW.out.mono HB3.out.size)).trans (hb5.mono (Nat.le_trans HB3.out.size HBW.out.size))⟩

theorem lexParts7 (s : ByteArray) (i : Int) (w : World) (hr : Rdy w) :
    Calls Tryd.prog 7 #[.string s, .int .i64 i] w fun e w' => e = .returned (.bool true) ∧ Below w.heap.size w w' := by
  by_cases h4 : s.size ≤ 4096
  · by_cases h0 : (cutR s).2.2 = 0
    · by_cases hneg : i < 0
      · exact parts7_neg s i w hr h4 h0 hneg
      · by_cases hin : ((cutR s).1.length : Int) ≤ i
        · exact parts7_ge s i w hr h4 h0 hneg hin
        · exact parts7_in s i w hr h4 h0 hneg hin
    · exact parts7_bad s i w hr h4 h0
  · exact parts7_long s i w hr h4
end Go.Proofs.YtipbgaiaoahnmaaDoor
