/- The book's Cut. -/
import Derived.Test.YtipbgaiaoahnmaaDoorLexF
namespace Go.Proofs.YtipbgaiaoahnmaaDoor
open Go.RowKit Go.Shelf
attribute [local go_sem ↓] Go.wp_at_zero Go.wp_at_succ

theorem rowKind_err {b : UInt8} {r : List UInt8} {e : Int} (hb : isRow b = true) (h : rowKind (b :: r) = .error e) : e = if isLow b then 152 else if isDig b then 151 else 150 := by
  simp only [rowKind] at h
  cases hl : isLow b with
  | true =>
    simp only [hl, if_true] at h ⊢
    split at h <;> simp at h
    exact h.symm
  | false =>
    have hd : isDig b = true := by simp only [isRow, hl, Bool.false_or] at hb; exact hb
    simp only [hl, Bool.false_eq_true, if_false, hd, if_true] at h ⊢
    split at h <;> simp at h
    exact h.symm

/-- The book cuts as the plain cut does. -/
theorem cut_book (b : UInt8) (r : List UInt8) (hbl : isBlank b = false) :
    1 ≤ longN (b :: r) ∧ longN (b :: r) ≤ (b :: r).length ∧
    ((kindOf ((b :: r).take (longN (b :: r))) = 0 ∧ ∀ a, cut a (b :: r) = .bad a (if isLow b then 152 else if isDig b then 151 else 150)) ∨
     (kindOf ((b :: r).take (longN (b :: r))) ≠ 0 ∧ ∀ a, cut a (b :: r) = Res.cons ⟨kindOf ((b :: r).take (longN (b :: r))), bsOf ((b :: r).take (longN (b :: r))), a⟩ (cut (a + longN (b :: r)) ((b :: r).drop (longN (b :: r)))))) := by
  by_cases hb : isRow b = true
  · have h1 : rowN (b :: r) = (rowOf r).length + 1 := by rw [rowN, rowOf_pos b r hb]; rfl
    have hn : longN (b :: r) = rowN (b :: r) := by
      rw [longN, if_neg (fun h => by rw [h1] at h; omega)]; omega
    have ht : (b :: r).take (rowN (b :: r)) = rowOf (b :: r) := by
      have : ∀ A B L : List UInt8, L = A ++ B → L.take A.length = A := by rintro A B L rfl; simp
      exact this _ _ _ (rowOf_drop _)
    have hl : rowN (b :: r) ≤ (b :: r).length := rowOf_len _
    rw [hn, ht]
    refine ⟨by omega, hl, ?_⟩
    cases hk : rowKind (rowOf (b :: r)) with
    | error e =>
      left
      have h0 : kindOf (rowOf (b :: r)) = 0 := by
        have hall : (rowOf r).all isRow = true := List.all_takeWhile
        rw [rowOf_pos b r hb] at hk ⊢
        simp [kindOf, hb, hall, hk]
      refine ⟨h0, fun a => ?_⟩
      rw [cut_row a b r hb, hk]
      rw [rowOf_pos b r hb] at hk
      rw [rowKind_err hb hk]
    | ok k =>
      right
      have h0 := kindOf_row hb hk
      rw [h0]
      refine ⟨by rcases rowKind_ne0 hk with h | h <;> simp [h], fun a => ?_⟩
      rw [cut_row a b r hb, hk]
      rfl
  · have hb' : isRow b = false := by simpa using hb
    have h1 : rowN (b :: r) = 0 := by simp [rowN, rowOf, hb']
    by_cases h2 : 2 ≤ (b :: r).length ∧ signB ((b :: r).take 2) = true
    · have hn : longN (b :: r) = 2 := by rw [longN, if_pos ⟨h1, h2⟩]
      cases r with
      | nil => simp at h2
      | cons c r =>
        have h3 := h2.2
        rw [List.take_succ_cons, List.take_succ_cons, List.take_zero, signB_two] at h3
        simp only [Bool.and_eq_true, beq_iff_eq] at h3
        obtain ⟨ht, rfl⟩ := h3
        have hk : kindOf [c, c] = 3 := by
          simp [kindOf, hb', ht, (sign_row c).2.2.2.1 ht]
        rw [hn]
        refine ⟨by omega, by simp, .inr ⟨by simp [hk], fun a => ?_⟩⟩
        rw [cut_two a c r ht]
        simp [hk]
    · have hn : longN (b :: r) = 1 := by
        rw [longN, if_neg (fun h => h2 h.2), h1]; rfl
      rw [hn]
      have hl : isLow b = false := by simp only [isRow, Bool.or_eq_false_iff] at hb'; exact hb'.1
      have hd : isDig b = false := by simp only [isRow, Bool.or_eq_false_iff] at hb'; exact hb'.2
      refine ⟨by omega, by simp, ?_⟩
      cases hs : isSign b with
      | true =>
        right
        have hk : kindOf [b] = 3 := by simp [kindOf, hb', hs]
        refine ⟨by simp [hk], fun a => ?_⟩
        rw [cut_one a b r hb' hbl hs ?_]
        · simp [hk]
        · cases r with
          | nil => simp
          | cons c r =>
            rw [Bool.eq_false_iff]
            intro h3
            simp only [List.head?_cons, Bool.and_eq_true, beq_iff_eq, Option.some.injEq] at h3
            refine h2 ⟨by simp, ?_⟩
            rw [List.take_succ_cons, List.take_succ_cons, List.take_zero, signB_two, h3.1, h3.2]
            simp
      | false =>
        left
        refine ⟨by simp [kindOf, hb', hs], fun a => ?_⟩
        rw [cut_wrong a b r hb' hbl hs, hl, hd]
        rfl

/-- What Cut answers: tokens, a place, an error. -/
def cutR (s : ByteArray) : List Tok × Int × Int :=
  if 4096 < s.size then ([], 0, 3) else match cut 0 s.data.toList with
    | .ok l => (l, 0, 0)
    | .bad a e => ([], a, e)
theorem triple_ret {a c d : Int} {v : Value} {b : Int} (k : IntKind) (h : a = b) (h2 : c = d) : Ending.returned (.tuple #[v, .int .i64 a, .int k c]) = .returned (.tuple #[v, .int .i64 b, .int k d]) := by rw [h, h2]

set_option maxRecDepth 100000 in
set_option maxHeartbeats 8000000 in
theorem cut18_any (s : ByteArray) (w : World) : Calls Tryd.prog 18 #[.string s] w fun e w' =>
    (∃ v', e = .returned (.tuple #[v', .int .i64 (cutR s).2.1, .int .i64 (cutR s).2.2]) ∧ OwnT w' w.heap.size v' (cutR s).1) ∧ Below w.heap.size w w' := by
  obtain ⟨i0, hi, hz0, hz1, hz2⟩ := info_parts Tryd.info27
  by_cases h4 : 4096 < s.size
  · have HE : Hid (cutR s = ([], 0, 3)) := by rw [Hid, cutR, if_pos h4]
    by_cases hbig : s.size ≤ 9223372036854775807
    · go_enter Tryd.func18, Tryd.ntmps18
      go_wp2
      go_ret3
      exact ⟨⟨_, by rw [HE.out]; rfl, by rw [HE.out]; exact World.ownsRow_nil _ _ _ _⟩, Below.refl _ _⟩
    · go_enter Tryd.func18, Tryd.ntmps18
      go_wp2
      go_ret3
      exact ⟨⟨_, by rw [HE.out]; rfl, by rw [HE.out]; exact World.ownsRow_nil _ _ _ _⟩, Below.refl _ _⟩
  · have hs4 : s.size ≤ 4096 := by omega
    have HS := size_list s
    clear h4
    go_enter Tryd.func18, Tryd.ntmps18
    go_wp2_with fail
    go_loopw [5, 6] (fun u i wr => ∃ (k : Nat) (toks : List Tok), k ≤ s.size ∧ i = .int .i64 k ∧ OwnT wr w.heap.size u toks ∧ toks.length ≤ k ∧ Hid (Res.app toks (cut k (s.data.toList.drop k)) = cut 0 s.data.toList) ∧ Below w.heap.size w wr) (fun _ i _ => s.size - (intOf i).toNat)
    case atStart => exact ⟨0, [], by omega, rfl, World.ownsRow_nil _ _ _ _, by simp, by rw [Hid, Res.app_nil]; rfl, Below.refl _ _⟩
    case round =>
      obtain ⟨k, toks, hk, rfl, hown, htl, HI, hbw⟩ := hrel
      have hsw := hbw.size
      by_cases hlt : k < s.size
      · have hg := get_list s k hlt
        generalize hck : s[k]'hlt = c at hg
        have hdr : s.data.toList.drop k = c :: s.data.toList.drop (k + 1) := by
          rw [List.drop_eq_getElem_cons (by rw [HS]; exact hlt), ← hg]
        clear hg
        cases hbl : isBlank c with
        | true =>
          have HBL := Lib.hid hbl
          have HN : Hid (Res.app toks (cut (k + 1) (s.data.toList.drop (k + 1))) = cut 0 s.data.toList) := by
            have hrow : isRow c = false := by
              cases h : isRow c with
              | false => rfl
              | true => rw [(sign_row c).2.2.2.2.2 h] at hbl; cases hbl
            rw [Hid, ← HI.out, hdr, cut_blank k c _ hrow hbl]
          clear hbl hdr
          go_wp2_with fail
          refine (blank_any c _).mono ?_
          rintro e w1 ⟨rfl, rfl⟩
          rw [HBL.out]
          go_wp2_with fail
          exact ⟨⟨k + 1, toks, by omega, by push_cast; rfl, hown, by omega, HN.out, hbw⟩, by simp [intOf]; omega⟩
        | false =>
          have HBL := Lib.hid hbl
          have HLO := Lib.hid (fun W => long_any s k (by omega) hk W)
          obtain ⟨hn1, hn2, hways⟩ := cut_book c (s.data.toList.drop (k + 1)) hbl
          rw [← hdr] at hn1 hn2 hways
          obtain ⟨n, hn⟩ : ∃ n, longN (s.data.toList.drop k) = n := ⟨_, rfl⟩
          have HNN := Lib.hid hn
          rw [hn] at hn1 hn2 hways
          rw [List.length_drop, HS] at hn2
          have hkn : k + n ≤ s.size := by omega
          have hX : s.extract k (k + n) = bsOf ((s.data.toList.drop k).take n) := by
            rw [Lib.extract_eq, show k + n - k = n by omega]; rfl
          have hsl : ∀ W, (Instr.slice 9 (.string s) (some (.int .i64 (k : Int))) (some (.int .i64 ((k : Int) + (n : Int)))) none).run Tryd.prog W = .ok (.string (bsOf ((s.data.toList.drop k).take n))) W := fun W => by
            rw [run_slice_string W 9 s .i64 .i64 _ _ Tryd.underlying9 (by omega) (by omega) (by omega), ← hX]
            rfl
          have hD : ∀ a, (s.data.toList.drop k).drop a = s.data.toList.drop (k + a) := fun a => by rw [List.drop_drop]
          rw [hD] at hways
          generalize hT : (s.data.toList.drop k).take n = T at hsl hways
          have HK := Lib.hid (fun W => kind35_any (bsOf T) (by rw [bsOf_size, ← hT, List.length_take]; omega) W)
          have HKE : Hid (kindB (bsOf T).data.toList = kindOf T) := by rw [Hid, bsOf_list, kindB_eq]
          clear hX hD hn
          rcases hways with ⟨hk0, hcut⟩ | ⟨hk0, hcut⟩
          · have HK0 := Lib.hid hk0
            have HE : Hid (cutR s = ([], (k : Int), if isLow c then 152 else if isDig c then 151 else 150)) := by
              rw [Hid, cutR, if_neg (by omega), ← HI.out, hcut]; rfl
            clear hk0 hcut hdr hT hbl
            generalize bsOf T = X at hsl HKE HK
            generalize kindOf T = K at HKE HK0
            go_wp2_with fail
            refine (blank_any c _).mono ?_
            rintro e w1 ⟨rfl, rfl⟩
            rw [HBL.out]
            go_wp2_with fail
            refine (HLO.out _).mono ?_
            rintro e w2 ⟨rfl, rfl⟩
            rw [HNN.out]
            go_wp2_with fail
            refine (HK.out _).mono ?_
            rintro e w3 ⟨rfl, rfl⟩
            rw [HKE.out, HK0.out]
            cases hlo : isLow c with
            | true =>
              have HLO := Lib.hid hlo
              clear hlo
              go_wp2_with (go_at_call 36; refine (letter_any c _).mono ?_; rintro e w' ⟨rfl, rfl⟩; rw [HLO.out])
              go_ret3
              exact ⟨⟨_, by rw [HE.out, HLO.out]; rfl, by rw [HE.out]; exact World.ownsRow_nil _ _ _ _⟩, hbw⟩
            | false =>
              have HLO := Lib.hid hlo
              clear hlo
              cases hdi : isDig c with
              | true =>
                have HDI := Lib.hid hdi
                clear hdi
                go_wp2_with (first
                  | (go_at_call 36; refine (letter_any c _).mono ?_; rintro e w' ⟨rfl, rfl⟩; rw [HLO.out])
                  | (go_at_call 37; refine (digit_any c _).mono ?_; rintro e w' ⟨rfl, rfl⟩; rw [HDI.out]))
                go_ret3
                exact ⟨⟨_, by rw [HE.out, HLO.out, HDI.out]; rfl, by rw [HE.out]; exact World.ownsRow_nil _ _ _ _⟩, hbw⟩
              | false =>
                have HDI := Lib.hid hdi
                clear hdi
                go_wp2_with (first
                  | (go_at_call 36; refine (letter_any c _).mono ?_; rintro e w' ⟨rfl, rfl⟩; rw [HLO.out])
                  | (go_at_call 37; refine (digit_any c _).mono ?_; rintro e w' ⟨rfl, rfl⟩; rw [HDI.out]))
                go_ret3
                exact ⟨⟨_, by rw [HE.out, HLO.out, HDI.out]; rfl, by rw [HE.out]; exact World.ownsRow_nil _ _ _ _⟩, hbw⟩
          · have hk1 : ((kindOf T : Int) == 0) = false := by simpa using hk0
            have HN : Hid (Res.app (toks ++ [⟨kindOf T, bsOf T, (k : Int)⟩]) (cut (k + n) (s.data.toList.drop (k + n))) = cut 0 s.data.toList) := by
              rw [Hid, ← HI.out, hcut, Res.app_cons]
            clear hk0 hcut hdr hT hbl
            generalize kindOf T = K at hk1 HN HKE
            generalize bsOf T = X at hsl HN HKE HK
            go_wp2_with fail
            refine (blank_any c _).mono ?_
            rintro e w1 ⟨rfl, rfl⟩
            rw [HBL.out]
            go_wp2_with fail
            refine (HLO.out _).mono ?_
            rintro e w2 ⟨rfl, rfl⟩
            rw [HNN.out]
            go_wp2_with fail
            refine (HK.out _).mono ?_
            rintro e w3 ⟨rfl, rfl⟩
            rw [HKE.out]
            have HBW := Lib.hid hbw
            clear hbw
            go_wp2_with (at_builtin; refine wpList_append_own_at _ rfl _ _ 22 rfl w.heap.size 27 i0 _ 3 32 Tryd.underlying22 hi hz0 hz1 hz2 rfl (by decide) _ _ _ rfl (World.ownsRow.alloc hown _) _ 1 1 [.int .u8 K, .string X, .int .i64 k] rfl rfl (cells_three_new _ _ _ _ _) ?c2 ?c3 ?c4 ?c5 ?_)
            case c2 => intro u hu; simp at hu; rcases hu with rfl | rfl | rfl <;> rfl
            case c3 => simp [maxLen]; omega
            case c4 => first | omega | (simp; omega)
            case c5 => first | omega | (simp; omega)
            intro v' wz hown' hgrow hnil hat
            clear hnil hat
            have hbz : Below w.heap.size w wz := (HBW.out.alloc (by omega) _).grown hgrow (by simp; omega) (fun j hj => (World.ownsRow.lt hown j hj).1)
            clear hgrow
            go_wp2_with fail
            refine ⟨⟨k + n, toks ++ [⟨K, X, (k : Int)⟩], hkn, by push_cast; congr 1; try omega, ?_, by simp; try omega, HN, hbz⟩, by simp [intOf]; omega⟩
            show wz.ownsRow _ _ _ _ _ _
            rw [flatT_append, List.length_append]
            exact hown'
      · have hke : k = s.size := by omega
        have HE : Hid (cutR s = (toks, 0, 0)) := by
          rw [Hid, cutR, if_neg (by omega), ← HI.out, List.drop_of_length_le (by omega)]
          simp [Res.app]
        go_wp2_with fail
        go_ret3
        exact ⟨⟨_, by rw [HE.out]; rfl, by rw [HE.out]; exact hown⟩, hbw⟩
end Go.Proofs.YtipbgaiaoahnmaaDoor
