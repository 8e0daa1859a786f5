/- Bounds walked: num.Check, bound.of, told, Check, made, Value, Add, Less, Most; dbm.may. -/
import Derived.Deep.QuietTactic
import Derived.BigQuiet
import Derived.Laws.Bits128
import Derived.OwnWalk
import Derived.Test.YtockinpjfhhkoaaGreatDoorMgB
import Derived.Test.YtockinpjfhhkoaaGreatDoorMhA
namespace Go.Proofs.YtockinpjfhhkoaaGreatDoor
open Go.RowKit

theorem i64_and1 (n : Int) : bits .and .i64 n 1 = n % 2 := by
  have h1 : (BitVec.ofInt 64 1).toNat = 2 ^ 1 - 1 := by decide
  have key : (BitVec.ofInt 64 n &&& BitVec.ofInt 64 1).toNat = (n % ((2 ^ 64 : Nat) : Int)).toNat % 2 ^ 1 := by
    rw [BitVec.toNat_and, BitVec.toNat_ofInt, h1, Nat.and_two_pow_sub_one_eq_mod]
  show IntKind.i64.wrap ((BitVec.ofInt 64 n &&& BitVec.ofInt 64 1).toNat : Nat) = n % 2
  rw [key, IntKind.wrap_i64]
  omega
theorem i64_or1 {c : Int} (h0 : -4611686018427387904 ≤ c) (h1 : c < 4611686018427387904) : bits .or .i64 (c * 2) 1 = c * 2 + 1 := by
  have hx : (BitVec.ofInt 64 (c * 2)).toNat = ((c * 2) % ((2 ^ 64 : Nat) : Int)).toNat := BitVec.toNat_ofInt ..
  have ho : (BitVec.ofInt 64 1).toNat = 1 := by decide
  have hz : BitVec.ofInt 64 (c * 2) &&& BitVec.ofInt 64 1 = 0#64 := by
    apply BitVec.eq_of_toNat_eq
    rw [BitVec.toNat_and, hx, ho, Nat.and_one_is_mod]
    simp
    omega
  show IntKind.i64.wrap ((BitVec.ofInt 64 (c * 2) ||| BitVec.ofInt 64 1).toNat : Int) = _
  rw [← BitVec.add_eq_or_of_and_eq_zero _ _ hz, BitVec.toNat_add, hx, ho, IntKind.wrap_i64]
  omega

def numE (a : Int) : Int := if numOkB a = true then 0 else 10
theorem numE_ok {a : Int} (h : numOkB a = true) : numE a = 0 := by unfold numE; rw [if_pos h]
theorem numE_no {a : Int} (h : numOkB a = false) : numE a = 10 := by unfold numE; rw [h]; rfl
set_option maxRecDepth 100000 in
theorem num221_any (a : Int) (w : World) : Calls Tryz.prog 221 #[.int .i64 a] w fun e w' => e = .returned (.int .i64 (numE a)) ∧ w' = w := by
  go_enter Tryz.func221, Tryz.ntmps221
  go_wp2_with fail
  all_goals go_ret
  all_goals exact ⟨ret_i (by unfold numE numOkB; simp; omega), rfl⟩
/-- A struct that lies in a fresh block is what is handed back. -/
theorem hp_topA {w : World} {o : Obj} {n : Nat} (h : n = w.heap.size) : (w.alloc o).heap[n]? = some o := by subst h; exact Array.getElem?_push_size
theorem belowA (w : World) (o : Obj) : Below w.heap.size w (w.alloc o) := (Below.refl _ _).alloc (Nat.le_refl _) o
theorem belowAllocA {B : Nat} {w w' : World} (h : Below B w w') (hB : B ≤ w.heap.size) (o : Obj) : Below B w (w'.alloc o) := h.alloc (Nat.le_trans hB h.size) o
set_option maxRecDepth 100000 in
theorem of222_any (b : Int) (w : World) : Calls Tryz.prog 222 #[.int .i64 b] w fun e w' => e = .returned (.agg #[.int .i64 (b / 2), .bool (b % 2 == 0)]) ∧ Below w.heap.size w w' := by
  have h1 := i64_and1 b
  go_enter Tryz.func222, Tryz.ntmps222
  go_wp2_with fail
  refine bodyPost_ret (results_cell_row rfl _ _ _ _ _ _ _ rfl (hp_topA rfl) Tryz.underlying268 rfl (by kernel_rfl)) rfl ?_
  exact ⟨rfl, belowA _ _⟩
set_option maxRecDepth 100000 in
theorem told237_any (c : Int) (s : Bool) (w : World) (h : numOkB c = true) : Calls Tryz.prog 237 #[.agg #[.int .i64 c, .bool s]] w fun e w' => e = .returned (.int .i64 (toldB c s)) ∧ Below w.heap.size w w' := by
  unfold numOkB at h
  simp only [Bool.and_eq_true, decide_eq_true_eq] at h
  obtain ⟨g1, g2⟩ := h
  have h1 := i64_or1 (c := c) (by omega) (by omega)
  cases s with
  | true =>
    go_enter Tryz.func237, Tryz.ntmps237
    go_wp2_with fail
    all_goals go_ret
    exact ⟨ret_i (by unfold toldB; simp; omega), belowA _ _⟩
  | false =>
    go_enter Tryz.func237, Tryz.ntmps237
    go_wp2_with fail
    all_goals go_ret
    exact ⟨ret_i (by unfold toldB; simp; omega), belowA _ _⟩
def chkE (b : Int) : Int := if checkB b = true then 0 else 8
theorem chkE_ok {b : Int} (h : checkB b = true) : chkE b = 0 := by unfold chkE; rw [if_pos h]
theorem chkE_no {b : Int} (h : checkB b = false) : chkE b = 8 := by unfold chkE; rw [h]; rfl
theorem checkB_none : checkB noneB = true := by decide
theorem checkB_num {b : Int} (h : b ≠ noneB) : checkB b = numOkB (b / 2) := by
  unfold checkB
  have : (b == noneB) = false := by simpa using h
  rw [this, Bool.false_or]
theorem fld268 (x y : Value) (w : World) : (Instr.field 268 (.agg #[x, y]) 0).run Tryz.prog w = .ok x w ∧ (Instr.field 268 (.agg #[x, y]) 1).run Tryz.prog w = .ok y w := by
  refine ⟨?_, ?_⟩ <;> simp [Instr.field, run_underlying Tryz.underlying268, Sem.run_bind, Result.andThen, go_sem] <;> rfl
set_option maxRecDepth 100000 in
theorem check187_any (b : Int) (w : World) : Calls Tryz.prog 187 #[.int .i64 b] w fun e w' => e = .returned (.int .i64 (chkE b)) ∧ Below w.heap.size w w' := by
  by_cases hb : b = noneB
  · subst hb
    have HE := Lib.hid (chkE_ok checkB_none)
    rw [HE.out]
    unfold noneB
    go_enter Tryz.func187, Tryz.ntmps187
    go_wp2_with fail
    all_goals go_ret
    all_goals exact ⟨rfl, Below.refl _ _⟩
  · have HN := Lib.hid (checkB_num hb)
    have q1 : (b == 9223372036854775807) = false := by simpa [noneB] using hb
    have q2 : (b != 9223372036854775807) = true := by simpa [noneB] using hb
    have HO := Lib.hid (of222_any b w)
    have hfl := fun W => (fld268 (.int .i64 (b / 2)) (.bool (b % 2 == 0)) W).1
    clear hb
    cases hk : numOkB (b / 2) with
    | true =>
      have HE := Lib.hid (chkE_ok (HN.out.trans hk))
      rw [HE.out]
      have HK := Lib.hid (numE_ok hk)
      clear hk
      go_enter Tryz.func187, Tryz.ntmps187
      go_wp2_with fail
      refine HO.out.mono ?_
      rintro e w1 ⟨rfl, hb1⟩
      have HB := Lib.hid hb1
      clear hb1
      go_wp2_with fail
      refine (num221_any _ _).mono ?_
      rintro e w2 ⟨rfl, rfl⟩
      rw [HK.out]
      go_wp2_with fail
      all_goals go_ret
      all_goals exact ⟨rfl, HB.out⟩
    | false =>
      have HE := Lib.hid (chkE_no (HN.out.trans hk))
      rw [HE.out]
      have HK := Lib.hid (numE_no hk)
      clear hk
      go_enter Tryz.func187, Tryz.ntmps187
      go_wp2_with fail
      refine HO.out.mono ?_
      rintro e w1 ⟨rfl, hb1⟩
      have HB := Lib.hid hb1
      clear hb1
      go_wp2_with fail
      refine (num221_any _ _).mono ?_
      rintro e w2 ⟨rfl, rfl⟩
      rw [HK.out]
      go_wp2_with fail
      all_goals go_ret
      all_goals exact ⟨rfl, HB.out⟩
/-- What Value answers. -/
def valR (b : Int) : Int × Bool × Int := if checkB b = false then (0, false, 8) else if b = noneB then (0, false, 6) else (b / 2, b % 2 == 0, 0)
set_option maxRecDepth 100000 in
set_option maxHeartbeats 2000000 in
theorem value188_any (b : Int) (w : World) : Calls Tryz.prog 188 #[.int .i64 b] w fun e w' => e = .returned (.tuple #[.int .i64 (valR b).1, .bool (valR b).2.1, .int .i64 (valR b).2.2]) ∧ Below w.heap.size w w' := by
  have HC := Lib.hid (check187_any b w)
  cases hk : checkB b with
  | false =>
    have HV : Hid (valR b = (0, false, 8)) := by rw [Hid, valR, if_pos hk]
    have HK := Lib.hid (chkE_no hk)
    rw [HV.out]
    clear hk
    go_enter Tryz.func188, Tryz.ntmps188
    go_wp2_with fail
    refine HC.out.mono ?_
    rintro e w1 ⟨rfl, hb1⟩
    rw [HK.out]
    have HB := Lib.hid hb1
    clear hb1
    go_wp2_with fail
    all_goals go_ret3
    all_goals exact ⟨rfl, HB.out⟩
  | true =>
    have HK := Lib.hid (chkE_ok hk)
    by_cases hb : b = noneB
    · have HV : Hid (valR b = (0, false, 6)) := by rw [Hid, valR, hk, if_neg (by decide), if_pos hb]
      rw [HV.out]
      have q1 : (b == 9223372036854775807) = true := by simpa [noneB] using hb
      clear hk hb
      go_enter Tryz.func188, Tryz.ntmps188
      go_wp2_with fail
      refine HC.out.mono ?_
      rintro e w1 ⟨rfl, hb1⟩
      rw [HK.out]
      have HB := Lib.hid hb1
      clear hb1
      go_wp2_with fail
      all_goals go_ret3
      all_goals exact ⟨rfl, HB.out⟩
    · have HV : Hid (valR b = (b / 2, b % 2 == 0, 0)) := by rw [Hid, valR, hk, if_neg (by decide), if_neg hb]
      rw [HV.out]
      have q1 : (b == 9223372036854775807) = false := by simpa [noneB] using hb
      clear hk hb
      go_enter Tryz.func188, Tryz.ntmps188
      go_wp2_with fail
      refine HC.out.mono ?_
      rintro e w1 ⟨rfl, hb1⟩
      rw [HK.out]
      have HB := Lib.hid hb1
      clear hb1
      go_wp2_with fail
      refine (of222_any _ _).mono ?_
      rintro e w2 ⟨rfl, hb2⟩
      have HB2 := Lib.hid (HB.out.trans (hb2.mono HB.out.size))
      clear hb2
      go_wp2_with fail
      go_quiet (fail)
      go_wp2_with fail
      all_goals go_ret3
      all_goals exact ⟨rfl, (belowAllocA HB2.out (Nat.le_refl _) _).trans ⟨rfl, rfl, rfl, Nat.le_refl _, fun _ _ => rfl⟩⟩
/-- What made answers. -/
def madeR (c : Int) (s : Bool) : Int × Int := if numOkB c = true then (toldB c s, 0) else (0, 10)
set_option maxRecDepth 100000 in
set_option maxHeartbeats 2000000 in
theorem made224_any (c : Int) (s : Bool) (w : World) : Calls Tryz.prog 224 #[.agg #[.int .i64 c, .bool s]] w fun e w' => e = .returned (.tuple #[.int .i64 (madeR c s).1, .int .i64 (madeR c s).2]) ∧ Below w.heap.size w w' := by
  have HB := Lib.hid (belowA w (.cells #[.int .i64 c, .bool s] 268))
  cases hk : numOkB c with
  | true =>
    have HV : Hid (madeR c s = (toldB c s, 0)) := by rw [Hid, madeR, if_pos hk]
    have HK := Lib.hid (numE_ok hk)
    have HT := Lib.hid (told237_any c s (w.alloc (.cells #[.int .i64 c, .bool s] 268)) hk)
    rw [HV.out]
    clear hk
    go_enter Tryz.func224, Tryz.ntmps224
    go_wp2_with fail
    refine (num221_any _ _).mono ?_
    rintro e w2 ⟨rfl, rfl⟩
    rw [HK.out]
    go_wp2_with fail
    refine HT.out.mono ?_
    rintro e w1 ⟨rfl, hb1⟩
    have HB1 := Lib.hid (HB.out.trans (hb1.mono HB.out.size))
    clear hb1
    go_wp2_with fail
    all_goals go_ret2
    all_goals exact ⟨rfl, HB1.out⟩
  | false =>
    have HV : Hid (madeR c s = (0, 10)) := by rw [Hid, madeR, hk]; rfl
    have HK := Lib.hid (numE_no hk)
    rw [HV.out]
    clear hk
    go_enter Tryz.func224, Tryz.ntmps224
    go_wp2_with fail
    refine (num221_any _ _).mono ?_
    rintro e w2 ⟨rfl, rfl⟩
    rw [HK.out]
    go_wp2_with fail
    all_goals go_ret2
    all_goals exact ⟨rfl, HB.out⟩
set_option maxRecDepth 100000 in
theorem less232_any (c : Int) (w : World) : Calls Tryz.prog 232 #[.int .i64 c] w fun e w' => e = .returned (.tuple #[.int .i64 (madeR c true).1, .int .i64 (madeR c true).2]) ∧ Below w.heap.size w w' := by
  have HM := Lib.hid (made224_any c true w)
  go_enter Tryz.func232, Tryz.ntmps232
  go_wp2_with fail
  refine HM.out.mono ?_
  rintro e w1 ⟨rfl, hb1⟩
  go_wp2_with fail
  all_goals go_ret2
  all_goals exact ⟨rfl, hb1⟩
set_option maxRecDepth 100000 in
theorem most233_any (c : Int) (w : World) : Calls Tryz.prog 233 #[.int .i64 c] w fun e w' => e = .returned (.tuple #[.int .i64 (madeR c false).1, .int .i64 (madeR c false).2]) ∧ Below w.heap.size w w' := by
  have HM := Lib.hid (made224_any c false w)
  go_enter Tryz.func233, Tryz.ntmps233
  go_wp2_with fail
  refine HM.out.mono ?_
  rintro e w1 ⟨rfl, hb1⟩
  go_wp2_with fail
  all_goals go_ret2
  all_goals exact ⟨rfl, hb1⟩
/-- Its error, of what is added. -/
def addE (a b : Int) : Int := if (!checkB a || !checkB b) = true then 8 else if a = noneB ∨ b = noneB then 0 else (madeR (a / 2 + b / 2) (a % 2 == 0 || b % 2 == 0)).2
theorem add_bad {a b : Int} (h : (!checkB a || !checkB b) = true) : addB a b = 0 ∧ addE a b = 8 := by
  unfold addB addE
  rw [if_pos h, if_pos h]
  exact ⟨rfl, rfl⟩
theorem add_nonE {a b : Int} (h : (!checkB a || !checkB b) = false) (hn : a = noneB ∨ b = noneB) : addB a b = noneB ∧ addE a b = 0 := by
  have hq : (a == noneB || b == noneB) = true := by simpa using hn
  unfold addB addE
  rw [h, if_neg Bool.false_ne_true, if_neg Bool.false_ne_true, if_pos hq, if_pos hn]
  exact ⟨rfl, rfl⟩
theorem add_num {a b : Int} (h : (!checkB a || !checkB b) = false) (h1 : a ≠ noneB) (h2 : b ≠ noneB) : addB a b = (madeR (a / 2 + b / 2) (a % 2 == 0 || b % 2 == 0)).1 ∧ addE a b = (madeR (a / 2 + b / 2) (a % 2 == 0 || b % 2 == 0)).2 := by
  have e1 : (a == noneB || b == noneB) = false := by simp [h1, h2]
  have e2 : ¬ (a = noneB ∨ b = noneB) := by simp [h1, h2]
  unfold addB addE madeR
  rw [h, if_neg Bool.false_ne_true, if_neg Bool.false_ne_true, e1, if_neg Bool.false_ne_true, if_neg e2]
  refine ⟨?_, rfl⟩
  cases numOkB (a / 2 + b / 2) <;> rfl
set_option maxRecDepth 100000 in
set_option maxHeartbeats 4000000 in
theorem add192_any (a b : Int) (w : World) : Calls Tryz.prog 192 #[.int .i64 a, .int .i64 b] w fun e w' => e = .returned (.tuple #[.int .i64 (addB a b), .int .i64 (addE a b)]) ∧ Below w.heap.size w w' := by
  have HCA := Lib.hid (check187_any a w)
  cases hka : checkB a with
  | false =>
    obtain ⟨g1, g2⟩ := add_bad (a := a) (b := b) (by rw [hka]; rfl)
    have HK := Lib.hid (chkE_no hka)
    rw [g1, g2]
    clear hka g1 g2
    go_enter Tryz.func192, Tryz.ntmps192
    go_wp2_with fail
    refine HCA.out.mono ?_
    rintro e w1 ⟨rfl, hb1⟩
    rw [HK.out]
    have HB := Lib.hid hb1
    clear hb1
    go_wp2_with fail
    all_goals go_ret2
    all_goals exact ⟨rfl, HB.out⟩
  | true =>
    have HK := Lib.hid (chkE_ok hka)
    cases hkb : checkB b with
    | false =>
      obtain ⟨g1, g2⟩ := add_bad (a := a) (b := b) (by rw [hka, hkb]; rfl)
      have HKB := Lib.hid (chkE_no hkb)
      rw [g1, g2]
      clear hka hkb g1 g2
      go_enter Tryz.func192, Tryz.ntmps192
      go_wp2_with fail
      refine HCA.out.mono ?_
      rintro e w1 ⟨rfl, hb1⟩
      rw [HK.out]
      have HB := Lib.hid hb1
      clear hb1
      go_wp2_with fail
      refine (check187_any b w1).mono ?_
      rintro e w2 ⟨rfl, hb2⟩
      rw [HKB.out]
      have HB2 := Lib.hid (HB.out.trans (hb2.mono HB.out.size))
      clear hb2
      go_wp2_with fail
      all_goals go_ret2
      all_goals exact ⟨rfl, HB2.out⟩
    | true =>
      have HKB := Lib.hid (chkE_ok hkb)
      have hok : (!checkB a || !checkB b) = false := by rw [hka, hkb]; rfl
      by_cases hn : a = noneB ∨ b = noneB
      · obtain ⟨g1, g2⟩ := add_nonE hok hn
        rw [g1, g2]
        have q : (a == 9223372036854775807) = true ∨ ((a == 9223372036854775807) = false ∧ (b == 9223372036854775807) = true) := by
          unfold noneB at hn
          by_cases h : a = 9223372036854775807
          · left; simpa using h
          · right; refine ⟨by simpa using h, by simpa using hn.resolve_left h⟩
        clear hka hkb g1 g2 hok hn
        unfold noneB
        rcases q with q | ⟨q, q'⟩
        · go_enter Tryz.func192, Tryz.ntmps192
          go_wp2_with fail
          refine HCA.out.mono ?_
          rintro e w1 ⟨rfl, hb1⟩
          rw [HK.out]
          have HB := Lib.hid hb1
          clear hb1
          go_wp2_with fail
          refine (check187_any b w1).mono ?_
          rintro e w2 ⟨rfl, hb2⟩
          rw [HKB.out]
          have HB2 := Lib.hid (HB.out.trans (hb2.mono HB.out.size))
          clear hb2
          go_wp2_with fail
          all_goals go_ret2
          all_goals exact ⟨rfl, HB2.out⟩
        · go_enter Tryz.func192, Tryz.ntmps192
          go_wp2_with fail
          refine HCA.out.mono ?_
          rintro e w1 ⟨rfl, hb1⟩
          rw [HK.out]
          have HB := Lib.hid hb1
          clear hb1
          go_wp2_with fail
          refine (check187_any b w1).mono ?_
          rintro e w2 ⟨rfl, hb2⟩
          rw [HKB.out]
          have HB2 := Lib.hid (HB.out.trans (hb2.mono HB.out.size))
          clear hb2
          go_wp2_with fail
          all_goals go_ret2
          all_goals exact ⟨rfl, HB2.out⟩
      · have ha : a ≠ noneB := fun h => hn (.inl h)
        have hb : b ≠ noneB := fun h => hn (.inr h)
        obtain ⟨g1, g2⟩ := add_num hok ha hb
        rw [g1, g2]
        have q1 : (a == 9223372036854775807) = false := by simpa [noneB] using ha
        have q2 : (b == 9223372036854775807) = false := by simpa [noneB] using hb
        have e1 := (checkB_num ha).symm.trans hka
        have e2 := (checkB_num hb).symm.trans hkb
        unfold numOkB at e1 e2
        simp only [Bool.and_eq_true, decide_eq_true_eq] at e1 e2
        obtain ⟨r1, r2⟩ := e1
        obtain ⟨r3, r4⟩ := e2
        obtain ⟨x, hx⟩ : ∃ x, a / 2 = x := ⟨_, rfl⟩
        obtain ⟨y, hy⟩ : ∃ y, b / 2 = y := ⟨_, rfl⟩
        obtain ⟨p, hp⟩ : ∃ p, (a % 2 == 0) = p := ⟨_, rfl⟩
        obtain ⟨q, hq⟩ : ∃ q, (b % 2 == 0) = q := ⟨_, rfl⟩
        have HOA := fun W => Lib.hid (of222_any a W)
        have HOB := fun W => Lib.hid (of222_any b W)
        rw [hx, hp] at HOA
        rw [hy, hq] at HOB
        rw [hx] at r1 r2
        rw [hy] at r3 r4
        rw [hx, hy, hp, hq]
        clear hka hkb g1 g2 hok hn ha hb hx hy hp hq
        cases p with
        | true =>
          go_enter Tryz.func192, Tryz.ntmps192
          go_wp2_with fail
          refine HCA.out.mono ?_
          rintro e w1 ⟨rfl, hb1⟩
          rw [HK.out]
          have HB := Lib.hid hb1
          clear hb1
          go_wp2_with fail
          refine (check187_any b w1).mono ?_
          rintro e w2 ⟨rfl, hb2⟩
          rw [HKB.out]
          have HB2 := Lib.hid (HB.out.trans (hb2.mono HB.out.size))
          clear hb2
          go_wp2_with fail
          refine (HOA _).out.mono ?_
          rintro e w3 ⟨rfl, hb3⟩
          have HB3 := Lib.hid (HB2.out.trans (hb3.mono HB2.out.size))
          clear hb3
          go_wp2_with fail
          refine (HOB _).out.mono ?_
          rintro e w4 ⟨rfl, hb4⟩
          have HB4 := Lib.hid (HB3.out.trans (hb4.mono HB3.out.size))
          clear hb4
          go_wp2_with fail
          refine (made224_any _ _ _).mono ?_
          rintro e w5 ⟨rfl, hb5⟩
          go_wp2_with fail
          all_goals go_ret2
          all_goals exact ⟨rfl, (belowAllocA (belowAllocA HB4.out (Nat.le_refl _) _) (Nat.le_refl _) _).trans (hb5.mono (belowAllocA (belowAllocA HB4.out (Nat.le_refl _) _) (Nat.le_refl _) _).size)⟩
        | false =>
          go_enter Tryz.func192, Tryz.ntmps192
          go_wp2_with fail
          refine HCA.out.mono ?_
          rintro e w1 ⟨rfl, hb1⟩
          rw [HK.out]
          have HB := Lib.hid hb1
          clear hb1
          go_wp2_with fail
          refine (check187_any b w1).mono ?_
          rintro e w2 ⟨rfl, hb2⟩
          rw [HKB.out]
          have HB2 := Lib.hid (HB.out.trans (hb2.mono HB.out.size))
          clear hb2
          go_wp2_with fail
          refine (HOA _).out.mono ?_
          rintro e w3 ⟨rfl, hb3⟩
          have HB3 := Lib.hid (HB2.out.trans (hb3.mono HB2.out.size))
          clear hb3
          go_wp2_with fail
          refine (HOB _).out.mono ?_
          rintro e w4 ⟨rfl, hb4⟩
          have HB4 := Lib.hid (HB3.out.trans (hb4.mono HB3.out.size))
          clear hb4
          go_wp2_with fail
          refine (made224_any _ _ _).mono ?_
          rintro e w5 ⟨rfl, hb5⟩
          go_wp2_with fail
          all_goals go_ret2
          all_goals exact ⟨rfl, (belowAllocA (belowAllocA HB4.out (Nat.le_refl _) _) (Nat.le_refl _) _).trans (hb5.mono (belowAllocA (belowAllocA HB4.out (Nat.le_refl _) _) (Nat.le_refl _) _).size)⟩
set_option maxRecDepth 100000 in
set_option maxHeartbeats 2000000 in
theorem may184_any (b : Int) (w : World) : Calls Tryz.prog 184 #[.int .i64 b] w fun e w' => e = .returned (.bool (mayB b)) ∧ Below w.heap.size w w' := by
  have HV := Lib.hid (value188_any b w)
  by_cases hb : b = noneB
  · have HM : Hid (mayB b = true) := by rw [Hid, hb]; rfl
    have HR : Hid (valR b = (0, false, 6)) := by rw [Hid, hb]; rfl
    rw [HM.out]
    have q1 : (b == 9223372036854775807) = true := by simpa [noneB] using hb
    clear hb
    go_enter Tryz.func184, Tryz.ntmps184
    go_wp2_with fail
    refine HV.out.mono ?_
    rintro e w1 ⟨rfl, hb1⟩
    rw [HR.out]
    have HB := Lib.hid hb1
    clear hb1
    go_wp2_with fail
    all_goals go_ret
    all_goals exact ⟨rfl, HB.out⟩
  · have q1 : (b == 9223372036854775807) = false := by simpa [noneB] using hb
    have q2 : (b == noneB) = false := by simpa using hb
    cases hk : numOkB (b / 2) with
    | false =>
      have HM : Hid (mayB b = false) := by rw [Hid, mayB, hk, q2]; rfl
      have HR : Hid (valR b = (0, false, 8)) := by rw [Hid, valR, if_pos ((checkB_num hb).trans hk)]
      rw [HM.out]
      clear hb q2 hk
      go_enter Tryz.func184, Tryz.ntmps184
      go_wp2_with fail
      refine HV.out.mono ?_
      rintro e w1 ⟨rfl, hb1⟩
      rw [HR.out]
      have HB := Lib.hid hb1
      clear hb1
      go_wp2_with fail
      all_goals go_ret
      all_goals exact ⟨rfl, HB.out⟩
    | true =>
      obtain ⟨x, hx⟩ : ∃ x, b / 2 = x := ⟨_, rfl⟩
      have HM : Hid (mayB b = (decide (-288230376151711744 ≤ x) && decide (x ≤ 288230376151711744))) := by rw [Hid, mayB, hk, q2, hx]; rfl
      have HR : Hid (valR b = (x, b % 2 == 0, 0)) := by rw [Hid, valR, (checkB_num hb).trans hk, if_neg (by decide), if_neg hb, hx]
      rw [HM.out]
      clear hb q2 hk hx
      go_enter Tryz.func184, Tryz.ntmps184
      go_wp2_with fail
      refine HV.out.mono ?_
      rintro e w1 ⟨rfl, hb1⟩
      rw [HR.out]
      have HB := Lib.hid hb1
      clear hb1
      go_wp2_with fail
      all_goals go_ret
      all_goals exact ⟨ret_bool' (by simp_all <;> omega), HB.out⟩
set_option maxRecDepth 100000 in
theorem clo183_any (b : Int) (w : World) : Calls Tryz.prog 183 #[.int .i64 b] w fun e w' => e = .returned (.bool (!mayB b)) ∧ Below w.heap.size w w' := by
  have HV := Lib.hid (may184_any b w)
  go_enter Tryz.func183, Tryz.ntmps183
  go_wp2_with fail
  refine HV.out.mono ?_
  rintro e w1 ⟨rfl, hb1⟩
  go_wp2_with fail
  all_goals go_ret
  all_goals exact ⟨rfl, hb1⟩
end Go.Proofs.YtockinpjfhhkoaaGreatDoor
