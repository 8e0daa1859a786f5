/- tree.Same walked. (Printed by gen_sma.py.) -/
import Derived.Test.YtpgdplmndnopbaaGreatDoorMgA
import Derived.Test.YtpgdplmndnopbaaGreatDoorMgB
import Derived.Test.YtpgdplmndnopbaaGreatDoorMgN
namespace Go.Proofs.YtpgdplmndnopbaaGreatDoor
open Go.RowKit
def SaysP (p : Prop) (e : Ending) : Prop := ∃ b : Bool, e = .returned (.bool b) ∧ (b = true ↔ p)
theorem SaysP.mk {p : Prop} {b : Bool} {e : Ending} (h : e = .returned (.bool b)) (hb : b = true ↔ p) : SaysP p e := ⟨b, h, hb⟩
theorem sm_top {w : World} {o : Obj} {k : Nat} (h : k = w.heap.size) : (w.alloc o).heap[k]? = some o := by subst h; exact Array.getElem?_push_size
theorem sm_in {w : World} {o x : Obj} {k : Nat} (h : w.heap[k]? = some x) : (w.alloc o).heap[k]? = some x :=
 (Lib.alloc_old w o k (Array.getElem?_eq_some_iff.1 h).1).trans h
def EqF (n n' : Nat) : Prop := ∀ (t : FT n) (u : FT n') (v v' : Value) (w : World), FRep w w.heap.size n t v → FRep w w.heap.size n' u v' →
 Calls Tryz.prog 64 #[v, v'] w fun e w' => SaysP (toF n t = toF n' u) e ∧ Below w.heap.size w w'
set_option maxRecDepth 100000 in
set_option maxHeartbeats 8000000 in
theorem equal63_any (n n' : Nat) (ih : EqF n n') (l : List (FT n)) (l' : List (FT n')) (a a' : Option Addr) (c c' : Nat) (w : World) (hR : FRow w w.heap.size n a l) (hR' : FRow w w.heap.size n' a' l') :
 Calls Tryz.prog 63 #[.slice a l.length c, .slice a' l'.length c', .func (.func 64) #[] #[]] w fun e w' => SaysP (l.map (toF n) = l'.map (toF n')) e ∧ Below w.heap.size w w' := by
 have hK := ent_of Tryz.func64 (by kernel_rfl) (by kernel_rfl)
 unfold Ent at hK
 have HI := Lib.hid ih
 have HR := Lib.hid hR
 have HR' := Lib.hid hR'
 have hm := hR.1
 by_cases hlen : l.length = l'.length
 ·have hq : (((l.length : Nat) : Int) != ((l'.length : Nat) : Int)) = false := by simp [hlen]
  have HL := Lib.hid hlen
  clear hR hR' ih hlen
  go_enter Tryz.func63, Tryz.ntmps63
  go_wp2_with fail
  go_loopw [17] (fun i wr => ∃ j : Nat, j ≤ l.length ∧ i = .int .i64 j ∧ Hid ((l.take j).map (toF n) = (l'.take j).map (toF n')) ∧ Below w.heap.size w wr) (fun i _ => l.length - (intOf i).toNat)
  case atStart => exact ⟨0, Nat.zero_le _, rfl, rfl, Below.refl _ _⟩
  case round =>
   obtain ⟨j, hj, rfl, HT, hbw⟩ := hrel
   have HB := Lib.hid hbw
   by_cases hlt : j < l.length
   ·have hlt' : j < l'.length := HL.out ▸ hlt
    obtain ⟨p1, off1, k1, s1, sa1, sl1, sc1, rfl, hp1, x0, x1, x2, hr1⟩ := (HR.out.up hbw (Nat.le_refl _)).at j hlt
    obtain ⟨p2, off2, k2, s2, sa2, sl2, sc2, rfl, hp2, y0, y1, y2, hr2⟩ := (HR'.out.up hbw (Nat.le_refl _)).at j hlt'
    have hz := hbw.size
    have hbl1 : p1 < wr.heap.size := by omega
    have hbl2 : p2 < wr.heap.size := by omega
    have hltI : ((j : Nat) : Int) < ((l.length : Nat) : Int) := by omega
    have hltJ : ((j : Nat) : Int) < ((l'.length : Nat) : Int) := by omega
    have hb2 : Below wr.heap.size wr ((wr.alloc (.cells #[.int .u8 k1, .string s1, .slice sa1 sl1 sc1] 61)).alloc (.cells #[.int .u8 k2, .string s2, .slice sa2 sl2 sc2] 61)) := ((Below.refl _ _).alloc (Nat.le_refl _) _).alloc (by simp) _
    have HC := Lib.hid (HI.out l[j] l'[j] _ _ ((wr.alloc (.cells #[.int .u8 k1, .string s1, .slice sa1 sl1 sc1] 61)).alloc (.cells #[.int .u8 k2, .string s2, .slice sa2 sl2 sc2] 61)) (hr1.up (hb2.mono hz) (by simp; omega)) (hr2.up (hb2.mono hz) (by simp; omega)))
    have HB2 := Lib.hid (hbw.trans (hb2.mono hz))
    have HSZ : Hid (w.heap.size ≤ ((wr.alloc (.cells #[.int .u8 k1, .string s1, .slice sa1 sl1 sc1] 61)).alloc (.cells #[.int .u8 k2, .string s2, .slice sa2 sl2 sc2] 61)).heap.size) := by rw [Hid]; simp; omega
    have HS : Hid (∀ b : Bool, (b = true ↔ toF n l[j] = toF n' l'[j]) → (b = true ↔ (l.take (j + 1)).map (toF n) = (l'.take (j + 1)).map (toF n'))) := by
     intro b hb
     rw [List.take_succ_eq_append_getElem hlt, List.take_succ_eq_append_getElem hlt', List.map_append, List.map_append, HT.out, hb]
     constructor
     ·intro h; simp [h]
     ·intro h; simpa using List.append_cancel_left h
    have HNE : Hid (¬ ((l.take (j + 1)).map (toF n) = (l'.take (j + 1)).map (toF n')) → ¬ (l.map (toF n) = l'.map (toF n'))) := by
     intro h h2
     refine h ?_
     rw [List.map_take, List.map_take, h2]
    clear hr1 hr2 hb2 hbw
    go_wp2_with fail
    refine HC.out.mono ?_
    rintro e w1 ⟨⟨b, rfl, hb0⟩, hb1⟩
    have hb := Lib.hid hb0
    clear hb0
    have HB3 := Lib.hid (HB2.out.trans (hb1.mono HSZ.out))
    have HSB := Lib.hid (HS.out b hb.out)
    clear hb hb1
    cases b with
    | true =>
     go_wp2_with fail
     go_roundw
     case rel => exact ⟨j + 1, by omega, by go_num, HSB.out.1 (by first | trivial | rfl), HB3.out⟩
     case measure => simp [intOf]; omega
    | false =>
     go_wp2_with fail
     all_goals go_ret
     all_goals exact ⟨SaysP.mk (b := false) rfl ⟨fun h => (by cases h), fun h => absurd h (HNE.out (fun h => by cases HSB.out.2 h))⟩, HB3.out⟩
   ·have hje : j = l.length := by omega
    have HE : Hid (l.map (toF n) = l'.map (toF n')) := by
     rw [Hid]; have := HT.out; rw [hje, List.take_length, HL.out, List.take_length] at this; exact this
    have hltI : ¬ ((j : Nat) : Int) < ((l.length : Nat) : Int) := by omega
    clear HT
    go_wp2_with fail
    all_goals go_ret
    all_goals exact ⟨SaysP.mk (b := true) rfl ⟨fun _ => HE.out, fun _ => rfl⟩, HB.out⟩
 ·have hq : (((l.length : Nat) : Int) != ((l'.length : Nat) : Int)) = true := by simp; omega
  have HNE : Hid (¬ (l.map (toF n) = l'.map (toF n'))) := fun h => hlen (by have := congrArg List.length h; simpa using this)
  clear hR hR' ih hlen
  go_enter Tryz.func63, Tryz.ntmps63
  go_wp2_with fail
  all_goals go_ret
  all_goals exact ⟨SaysP.mk (b := false) rfl ⟨fun h => (by cases h), fun h => absurd h HNE.out⟩, Below.refl _ _⟩
set_option maxRecDepth 100000 in
set_option maxHeartbeats 8000000 in
theorem same64_any : ∀ n n' : Nat, EqF n n' := by
 intro n
 induction n with
 | zero => intro n' t u v v' w h; exact h.elim
 | succ n ih =>
  intro n' t u v v' w h h'
  cases n' with
  | zero => exact h'.elim
  | succ n' =>
   obtain ⟨k1, s1, of1⟩ := t
   obtain ⟨k2, s2, of2⟩ := u
   obtain ⟨a1, c1, rfl, hR1⟩ := h
   obtain ⟨a2, c2, rfl, hR2⟩ := h'
   have hR1 : FRow w w.heap.size n a1 of1 := hR1
   have hR2 : FRow w w.heap.size n' a2 of2 := hR2
   have HF : Hid (∀ b : Bool, (b = true ↔ (k1 = k2 ∧ s1.toList = s2.toList ∧ of1.map (toF n) = of2.map (toF n'))) → (b = true ↔ toF (n + 1) (k1, s1, of1) = toF (n' + 1) (k2, s2, of2))) := by
    intro b hb
    show b = true ↔ F.mk k1 s1 (of1.map (toF n)) = F.mk k2 s2 (of2.map (toF n'))
    rw [hb, F.mk.injEq]
    constructor
    ·rintro ⟨h1, h2, h3⟩
     refine ⟨h1, ?_, h3⟩
     rw [ByteArray.toList_eq, ByteArray.toList_eq] at h2
     have e : s1.data = s2.data := Array.toList_inj.1 h2
     cases s1; cases s2; exact congrArg _ e
    ·rintro ⟨h1, h2, h3⟩
     exact ⟨h1, by rw [h2], h3⟩
   have hb2 : Below w.heap.size w ((w.alloc (.cells #[.int .u8 k1, .string s1, .slice a1 of1.length c1] 61)).alloc (.cells #[.int .u8 k2, .string s2, .slice a2 of2.length c2] 61)) := ((Below.refl _ _).alloc (Nat.le_refl _) _).alloc (by simp) _
   have HC := Lib.hid (equal63_any n n' (ih n') of1 of2 a1 a2 c1 c2 _ (hR1.up hb2 (by simp; omega)) (hR2.up hb2 (by simp; omega)))
   have HB := Lib.hid hb2
   have HSZ : Hid (w.heap.size ≤ ((w.alloc (.cells #[.int .u8 k1, .string s1, .slice a1 of1.length c1] 61)).alloc (.cells #[.int .u8 k2, .string s2, .slice a2 of2.length c2] 61)).heap.size) := by rw [Hid]; simp; omega
   clear hR1 hR2 hb2 ih
   cases q1 : k1 == k2 with
   | false =>
    have HK : Hid (¬ k1 = k2) := by simpa [Hid] using q1
    go_enter Tryz.func64, Tryz.ntmps64
    go_wp2_with fail
    all_goals go_ret
    all_goals exact ⟨SaysP.mk rfl (HF.out false ⟨fun h => (by cases h), fun h => absurd h.1 HK.out⟩), HB.out⟩
   | true =>
    have HK : Hid (k1 = k2) := by simpa [Hid] using q1
    cases q2 : s1.toList == s2.toList with
    | false =>
     have HK2 : Hid (¬ s1.toList = s2.toList) := by rw [Hid]; exact fun h => by rw [h] at q2; simp at q2
     go_enter Tryz.func64, Tryz.ntmps64
     go_wp2_with fail
     all_goals go_ret
     all_goals exact ⟨SaysP.mk rfl (HF.out false ⟨fun h => (by cases h), fun h => absurd h.2.1 HK2.out⟩), HB.out⟩
    | true =>
     have HK2 : Hid (s1.toList = s2.toList) := by rw [Hid]; exact eq_of_beq q2
     go_enter Tryz.func64, Tryz.ntmps64
     go_wp2_with fail
     refine HC.out.mono ?_
     rintro e w1 ⟨⟨b, rfl, hb0⟩, hb1⟩
     have hb := Lib.hid hb0
     clear hb0
     have HB1 := Lib.hid (HB.out.trans (hb1.mono HSZ.out))
     clear hb1
     go_wp2_with fail
     all_goals go_ret
     all_goals exact ⟨SaysP.mk rfl (HF.out b ⟨fun h => ⟨HK.out, HK2.out, hb.out.1 h⟩, fun h => hb.out.2 h.2.2⟩), HB1.out⟩
def EqX (m m' n n' : Nat) : Prop := ∀ (t : XT m n) (u : XT m' n') (v v' : Value) (w : World), XRep w w.heap.size m n t v → XRep w w.heap.size m' n' u v' →
 Calls Tryz.prog 27 #[v, v'] w fun e w' => SaysP (toX n t = toX n' u) e ∧ Below w.heap.size w w'
set_option maxRecDepth 100000 in
set_option maxHeartbeats 8000000 in
theorem equal65_any (m m' n n' : Nat) (ih : EqX m m' n n') (l : List (XT m n)) (l' : List (XT m' n')) (a a' : Option Addr) (c c' : Nat) (w : World) (hR : XRow w w.heap.size m n a l) (hR' : XRow w w.heap.size m' n' a' l') :
 Calls Tryz.prog 65 #[.slice a l.length c, .slice a' l'.length c', .func (.func 27) #[] #[]] w fun e w' => SaysP (l.map (toX n) = l'.map (toX n')) e ∧ Below w.heap.size w w' := by
 have hK := ent_of Tryz.func27 (by kernel_rfl) (by kernel_rfl)
 unfold Ent at hK
 have HI := Lib.hid ih
 have HR := Lib.hid hR
 have HR' := Lib.hid hR'
 have hm := hR.1
 by_cases hlen : l.length = l'.length
 ·have hq : (((l.length : Nat) : Int) != ((l'.length : Nat) : Int)) = false := by simp [hlen]
  have HL := Lib.hid hlen
  clear hR hR' ih hlen
  go_enter Tryz.func65, Tryz.ntmps65
  go_wp2_with fail
  go_loopw [17] (fun i wr => ∃ j : Nat, j ≤ l.length ∧ i = .int .i64 j ∧ Hid ((l.take j).map (toX n) = (l'.take j).map (toX n')) ∧ Below w.heap.size w wr) (fun i _ => l.length - (intOf i).toNat)
  case atStart => exact ⟨0, Nat.zero_le _, rfl, rfl, Below.refl _ _⟩
  case round =>
   obtain ⟨j, hj, rfl, HT, hbw⟩ := hrel
   have HB := Lib.hid hbw
   by_cases hlt : j < l.length
   ·have hlt' : j < l'.length := HL.out ▸ hlt
    obtain ⟨p1, off1, k1, a1, l1, c1, b1, m1, d1, lo1, ls1, hi1, hs1, op1, rfl, hp1, x0, x1, x2, x3, x4, x5, x6, x7, hr1⟩ := (HR.out.up hbw (Nat.le_refl _)).at j hlt
    obtain ⟨p2, off2, k2, a2, l2, c2, b2, m2, d2, lo2, ls2, hi2, hs2, op2, rfl, hp2, y0, y1, y2, y3, y4, y5, y6, y7, hr2⟩ := (HR'.out.up hbw (Nat.le_refl _)).at j hlt'
    have hz := hbw.size
    have hbl1 : p1 < wr.heap.size := by omega
    have hbl2 : p2 < wr.heap.size := by omega
    have hltI : ((j : Nat) : Int) < ((l.length : Nat) : Int) := by omega
    have hltJ : ((j : Nat) : Int) < ((l'.length : Nat) : Int) := by omega
    have hb2 : Below wr.heap.size wr ((wr.alloc (.cells #[.int .u8 k1, .slice a1 l1 c1, .slice b1 m1 d1, .int .i64 lo1, .bool ls1, .int .i64 hi1, .bool hs1, .bool op1] 28)).alloc (.cells #[.int .u8 k2, .slice a2 l2 c2, .slice b2 m2 d2, .int .i64 lo2, .bool ls2, .int .i64 hi2, .bool hs2, .bool op2] 28)) := ((Below.refl _ _).alloc (Nat.le_refl _) _).alloc (by simp) _
    have HC := Lib.hid (HI.out l[j] l'[j] _ _ ((wr.alloc (.cells #[.int .u8 k1, .slice a1 l1 c1, .slice b1 m1 d1, .int .i64 lo1, .bool ls1, .int .i64 hi1, .bool hs1, .bool op1] 28)).alloc (.cells #[.int .u8 k2, .slice a2 l2 c2, .slice b2 m2 d2, .int .i64 lo2, .bool ls2, .int .i64 hi2, .bool hs2, .bool op2] 28)) (hr1.up (hb2.mono hz) (by simp; omega)) (hr2.up (hb2.mono hz) (by simp; omega)))
    have HB2 := Lib.hid (hbw.trans (hb2.mono hz))
    have HSZ : Hid (w.heap.size ≤ ((wr.alloc (.cells #[.int .u8 k1, .slice a1 l1 c1, .slice b1 m1 d1, .int .i64 lo1, .bool ls1, .int .i64 hi1, .bool hs1, .bool op1] 28)).alloc (.cells #[.int .u8 k2, .slice a2 l2 c2, .slice b2 m2 d2, .int .i64 lo2, .bool ls2, .int .i64 hi2, .bool hs2, .bool op2] 28)).heap.size) := by rw [Hid]; simp; omega
    have HS : Hid (∀ b : Bool, (b = true ↔ toX n l[j] = toX n' l'[j]) → (b = true ↔ (l.take (j + 1)).map (toX n) = (l'.take (j + 1)).map (toX n'))) := by
     intro b hb
     rw [List.take_succ_eq_append_getElem hlt, List.take_succ_eq_append_getElem hlt', List.map_append, List.map_append, HT.out, hb]
     constructor
     ·intro h; simp [h]
     ·intro h; simpa using List.append_cancel_left h
    have HNE : Hid (¬ ((l.take (j + 1)).map (toX n) = (l'.take (j + 1)).map (toX n')) → ¬ (l.map (toX n) = l'.map (toX n'))) := by
     intro h h2
     refine h ?_
     rw [List.map_take, List.map_take, h2]
    clear hr1 hr2 hb2 hbw
    go_wp2_with fail
    refine HC.out.mono ?_
    rintro e w1 ⟨⟨b, rfl, hb0⟩, hb1⟩
    have hb := Lib.hid hb0
    clear hb0
    have HB3 := Lib.hid (HB2.out.trans (hb1.mono HSZ.out))
    have HSB := Lib.hid (HS.out b hb.out)
    clear hb hb1
    cases b with
    | true =>
     go_wp2_with fail
     go_roundw
     case rel => exact ⟨j + 1, by omega, by go_num, HSB.out.1 (by first | trivial | rfl), HB3.out⟩
     case measure => simp [intOf]; omega
    | false =>
     go_wp2_with fail
     all_goals go_ret
     all_goals exact ⟨SaysP.mk (b := false) rfl ⟨fun h => (by cases h), fun h => absurd h (HNE.out (fun h => by cases HSB.out.2 h))⟩, HB3.out⟩
   ·have hje : j = l.length := by omega
    have HE : Hid (l.map (toX n) = l'.map (toX n')) := by
     rw [Hid]; have := HT.out; rw [hje, List.take_length, HL.out, List.take_length] at this; exact this
    have hltI : ¬ ((j : Nat) : Int) < ((l.length : Nat) : Int) := by omega
    clear HT
    go_wp2_with fail
    all_goals go_ret
    all_goals exact ⟨SaysP.mk (b := true) rfl ⟨fun _ => HE.out, fun _ => rfl⟩, HB.out⟩
 ·have hq : (((l.length : Nat) : Int) != ((l'.length : Nat) : Int)) = true := by simp; omega
  have HNE : Hid (¬ (l.map (toX n) = l'.map (toX n'))) := fun h => hlen (by have := congrArg List.length h; simpa using this)
  clear hR hR' ih hlen
  go_enter Tryz.func65, Tryz.ntmps65
  go_wp2_with fail
  all_goals go_ret
  all_goals exact ⟨SaysP.mk (b := false) rfl ⟨fun h => (by cases h), fun h => absurd h HNE.out⟩, Below.refl _ _⟩
set_option maxRecDepth 100000 in
set_option maxHeartbeats 8000000 in
theorem same27_any (m m' : Nat) : ∀ n n' : Nat, EqX m m' n n' := by
 intro n
 induction n with
 | zero => intro n' t u v v' w h; exact h.elim
 | succ n ih =>
  intro n' t u v v' w h h'
  cases n' with
  | zero => exact h'.elim
  | succ n' =>
   obtain ⟨k1, is1, of1, i1⟩ := t
   obtain ⟨k2, is2, of2, i2⟩ := u
   obtain ⟨a1, c1, b1, d1, rfl, hF1, hR1⟩ := h
   obtain ⟨a2, c2, b2, d2, rfl, hF2, hR2⟩ := h'
   have hF1 : FRow w w.heap.size m a1 is1 := hF1
   have hF2 : FRow w w.heap.size m' a2 is2 := hF2
   have hR1 : XRow w w.heap.size m n b1 of1 := hR1
   have hR2 : XRow w w.heap.size m' n' b2 of2 := hR2
   have HF : Hid (∀ b : Bool, (b = true ↔ (k1 = k2 ∧ i1 = i2 ∧ is1.map (toF m) = is2.map (toF m') ∧ of1.map (toX n) = of2.map (toX n'))) → (b = true ↔ toX (n + 1) (k1, is1, of1, i1) = toX (n' + 1) (k2, is2, of2, i2))) := by
    intro b hb
    show b = true ↔ X.mk k1 (is1.map (toF m)) (of1.map (toX n)) i1 = X.mk k2 (is2.map (toF m')) (of2.map (toX n')) i2
    rw [hb, X.mk.injEq]
    constructor
    ·rintro ⟨h1, h2, h3, h4⟩; exact ⟨h1, h3, h4, h2⟩
    ·rintro ⟨h1, h3, h4, h2⟩; exact ⟨h1, h2, h3, h4⟩
   have hb2 : Below w.heap.size w ((w.alloc (.cells #[.int .u8 k1, .slice a1 is1.length c1, .slice b1 of1.length d1, .int .i64 i1.low, .bool i1.ls, .int .i64 i1.high, .bool i1.hs, .bool i1.op] 28)).alloc (.cells #[.int .u8 k2, .slice a2 is2.length c2, .slice b2 of2.length d2, .int .i64 i2.low, .bool i2.ls, .int .i64 i2.high, .bool i2.hs, .bool i2.op] 28)) := ((Below.refl _ _).alloc (Nat.le_refl _) _).alloc (by simp) _
   have hsz : w.heap.size ≤ ((w.alloc (.cells #[.int .u8 k1, .slice a1 is1.length c1, .slice b1 of1.length d1, .int .i64 i1.low, .bool i1.ls, .int .i64 i1.high, .bool i1.hs, .bool i1.op] 28)).alloc (.cells #[.int .u8 k2, .slice a2 is2.length c2, .slice b2 of2.length d2, .int .i64 i2.low, .bool i2.ls, .int .i64 i2.high, .bool i2.hs, .bool i2.op] 28)).heap.size := by simp; omega
   have HC := Lib.hid (equal63_any m m' (same64_any m m') is1 is2 a1 a2 c1 c2 _ (hF1.up hb2 hsz) (hF2.up hb2 hsz))
   have hk1 : ((w.alloc (.cells #[.int .u8 k1, .slice a1 is1.length c1, .slice b1 of1.length d1, .int .i64 i1.low, .bool i1.ls, .int .i64 i1.high, .bool i1.hs, .bool i1.op] 28)).alloc (.cells #[.int .u8 k2, .slice a2 is2.length c2, .slice b2 of2.length d2, .int .i64 i2.low, .bool i2.ls, .int .i64 i2.high, .bool i2.hs, .bool i2.op] 28)).heap[w.heap.size]? = some (.cells #[.int .u8 k1, .slice a1 is1.length c1, .slice b1 of1.length d1, .int .i64 i1.low, .bool i1.ls, .int .i64 i1.high, .bool i1.hs, .bool i1.op] 28 (0, 0)) := sm_in (sm_top rfl)
   have hk2 : ((w.alloc (.cells #[.int .u8 k1, .slice a1 is1.length c1, .slice b1 of1.length d1, .int .i64 i1.low, .bool i1.ls, .int .i64 i1.high, .bool i1.hs, .bool i1.op] 28)).alloc (.cells #[.int .u8 k2, .slice a2 is2.length c2, .slice b2 of2.length d2, .int .i64 i2.low, .bool i2.ls, .int .i64 i2.high, .bool i2.hs, .bool i2.op] 28)).heap[w.heap.size + 1]? = some (.cells #[.int .u8 k2, .slice a2 is2.length c2, .slice b2 of2.length d2, .int .i64 i2.low, .bool i2.ls, .int .i64 i2.high, .bool i2.hs, .bool i2.op] 28 (0, 0)) := sm_top (by simp)
   have HC2 : Hid (∀ W, Below ((w.alloc (.cells #[.int .u8 k1, .slice a1 is1.length c1, .slice b1 of1.length d1, .int .i64 i1.low, .bool i1.ls, .int .i64 i1.high, .bool i1.hs, .bool i1.op] 28)).alloc (.cells #[.int .u8 k2, .slice a2 is2.length c2, .slice b2 of2.length d2, .int .i64 i2.low, .bool i2.ls, .int .i64 i2.high, .bool i2.hs, .bool i2.op] 28)).heap.size ((w.alloc (.cells #[.int .u8 k1, .slice a1 is1.length c1, .slice b1 of1.length d1, .int .i64 i1.low, .bool i1.ls, .int .i64 i1.high, .bool i1.hs, .bool i1.op] 28)).alloc (.cells #[.int .u8 k2, .slice a2 is2.length c2, .slice b2 of2.length d2, .int .i64 i2.low, .bool i2.ls, .int .i64 i2.high, .bool i2.hs, .bool i2.op] 28)) W → W.heap[w.heap.size]? = some (.cells #[.int .u8 k1, .slice a1 is1.length c1, .slice b1 of1.length d1, .int .i64 i1.low, .bool i1.ls, .int .i64 i1.high, .bool i1.hs, .bool i1.op] 28 (0, 0)) ∧ W.heap[w.heap.size + 1]? = some (.cells #[.int .u8 k2, .slice a2 is2.length c2, .slice b2 of2.length d2, .int .i64 i2.low, .bool i2.ls, .int .i64 i2.high, .bool i2.hs, .bool i2.op] 28 (0, 0)) ∧ Below w.heap.size w W ∧ w.heap.size + 2 ≤ W.heap.size ∧
    Calls Tryz.prog 65 #[.slice b1 of1.length d1, .slice b2 of2.length d2, .func (.func 27) #[] #[]] W fun e w' => SaysP (of1.map (toX n) = of2.map (toX n')) e ∧ Below W.heap.size W w') := by
    intro W hb
    have hbw := hb2.trans (hb.mono hsz)
    refine ⟨(hb.block _ (by simp; omega)).trans hk1, (hb.block _ (by simp)).trans hk2, hbw, by have := hb.size; simp at this; omega, ?_⟩
    exact equal65_any m m' n n' (ih n') of1 of2 b1 b2 d1 d2 W (hR1.up hbw hbw.size) (hR2.up hbw hbw.size)
   have HB := Lib.hid hb2
   have HSZ := Lib.hid hsz
   clear hF1 hF2 hR1 hR2 hb2 ih hk1 hk2 hsz
   cases q1 : k1 == k2 with
   | false =>
    have HK : Hid (¬ k1 = k2) := by simpa [Hid] using q1
    go_enter Tryz.func27, Tryz.ntmps27
    go_wp2_with fail
    all_goals go_ret
    all_goals exact ⟨SaysP.mk rfl (HF.out false ⟨fun h => (by cases h), fun h => absurd h.1 HK.out⟩), HB.out⟩
   | true =>
    have HK : Hid (k1 = k2) := by simpa [Hid] using q1
    obtain ⟨lo1, ls1, hi1, hs1, op1⟩ := i1
    obtain ⟨lo2, ls2, hi2, hs2, op2⟩ := i2
    dsimp only at HC HC2 HB HSZ ⊢
    go_enter Tryz.func27, Tryz.ntmps27
    go_wp2_with fail
    all_goals subst_vars
    rotate_left
    all_goals try go_ret
    rotate_right
    ·refine HC.out.mono ?_
     rintro e w1 ⟨⟨b, rfl, hb0⟩, hb1⟩
     have hb := Lib.hid hb0
     clear hb0
     obtain ⟨g1, g2, hbw, hle, hc⟩ := HC2.out w1 hb1
     have HCC := Lib.hid hc
     have HBW := Lib.hid hbw
     have e1 := Lib.cell_of_heap g1 2
     have e2 := Lib.cell_of_heap g2 2
     have lt1 := (Array.getElem?_eq_some_iff.1 g1).1
     have lt2 := (Array.getElem?_eq_some_iff.1 g2).1
     simp only [List.getElem?_toArray, List.getElem?_cons_zero, List.getElem?_cons_succ] at e1 e2
     clear g1 g2 hbw hle hc hb1
     cases b with
     | false =>
      go_wp2_with fail
      all_goals go_ret
      all_goals exact ⟨SaysP.mk rfl (HF.out false ⟨fun h => (by cases h), fun h => (by have := hb.out.2 h.2.2.1; cases this)⟩), HBW.out⟩
     | true =>
      go_wp2_with fail
      refine HCC.out.mono ?_
      rintro e w2 ⟨⟨b2, rfl, hb20⟩, hbb⟩
      have hb2 := Lib.hid hb20
      clear hb20
      have HB2 := Lib.hid (HBW.out.trans (hbb.mono HBW.out.size))
      clear hbb
      go_wp2_with fail
      all_goals go_ret
      all_goals exact ⟨SaysP.mk rfl (HF.out b2 ⟨fun h => ⟨(by first | trivial | rfl), (by first | trivial | rfl), hb.out.1 (by first | trivial | rfl), hb2.out.1 h⟩, fun h => hb2.out.2 h.2.2.2⟩), HB2.out⟩
    all_goals exact ⟨SaysP.mk (b := false) rfl (HF.out false ⟨fun h => (by cases h), fun h => (by have h2 := h.2.1; simp only [Spn.mk.injEq] at h2; simp_all)⟩), HB.out⟩
end Go.Proofs.YtpgdplmndnopbaaGreatDoor