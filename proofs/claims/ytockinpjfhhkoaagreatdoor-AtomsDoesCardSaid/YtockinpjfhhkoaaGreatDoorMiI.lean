/- AtomsDoes: rows of numbers of one's own; the document's Pick walked. (Printed by gen_dop.py.) -/
import Derived.Deep.RegionHeld
import Derived.Deep.Cut
import Derived.LoopTactic
import Derived.Deep.QuietTactic
import Derived.BigQuiet
import Derived.StillTailTactics
import Derived.Deep.DrawnRows
import Derived.Maps.AppendAt
import Derived.WalkSmall
import Derived.Test.YtockinpjfhhkoaaGreatDoorMiF
import Derived.Test.YtockinpjfhhkoaaGreatDoorMiH
import Derived.Test.YtockinpjfhhkoaaGreatDoorMiG
namespace Go.Proofs.YtockinpjfhhkoaaGreatDoor
open Go.RowKit Go.Shelf
attribute [local go_sem ↓] Go.wp_at_zero Go.wp_at_succ

theorem info3 : (Tryz.prog.info? 3).map (fun i => (i.zero, i.size, i.bytes)) = some (some (.int .i64 0), 1, 8) := by kernel_rfl
/-- A row of numbers that the call made: it owns it, from block B on. -/
def OwnI (w : World) (B : Nat) (v : Value) (l : List Int) : Prop := w.ownsRow B 3 1 v l.length (l.map fun x => Value.int .i64 x)
theorem OwnI.num {w : World} {B : Nat} {v : Value} {l : List Int} (h : OwnI w B v l) : NumS w v l := by
  have h' := h
  obtain ⟨_, hh⟩ := h
  rcases hh with ⟨rfl, h0⟩ | ⟨g, cap, cur, hv, hg, hb, hn, hm, hs, ht⟩
  · exact ⟨none, 0, by rw [h0], .inl (List.length_eq_zero_iff.1 h0)⟩
  · subst hv
    refine ⟨_, cap, rfl, .inr ⟨g, rfl, (Array.getElem?_eq_some_iff.1 hb).1, fun k hk => ?_⟩⟩
    unfold OwnI at h'
    rw [h'.cellAt k (by omega)]
    simp [hk]
theorem OwnI.below {w w' : World} {B : Nat} {v : Value} {l : List Int} (h : OwnI w B v l) (hb : Below w.heap.size w w') : OwnI w' B v l :=
  World.ownsRow.kept h (row := none) ⟨hb.os, hb.tape, hb.output, hb.size, fun j hj _ => hb.block j hj⟩ (by cases hv : v.ownBlock <;> simp)
theorem OwnI.mono {w : World} {B B' : Nat} {v : Value} {l : List Int} (h : OwnI w B v l) (hb : B' ≤ B) : OwnI w B' v l := by
  obtain ⟨h1, hh⟩ := h
  refine ⟨h1, ?_⟩
  rcases hh with h0 | ⟨g, cap, cur, hv, hg, r⟩
  · exact .inl h0
  · exact .inr ⟨g, cap, cur, hv, by omega, r⟩
theorem OwnI.shape {w : World} {B : Nat} {v : Value} {l : List Int} (h : OwnI w B v l) : ∃ a c, v = .slice a l.length c := by
  rcases h.2 with ⟨rfl, h0⟩ | ⟨g, cap, cur, hv, _⟩
  · exact ⟨none, 0, by rw [h0]⟩
  · exact ⟨_, _, hv⟩
theorem cells_one_new (w : World) (x : Value) (t : TypeId) : ∀ j u, [x][j]? = some u → (w.alloc (.cells #[x] t)).cell? ((⟨w.heap.size, 0, none⟩ : Addr).add j) = some u := by
  intro j u hj
  match j, hj with
  | 0, hj => simp at hj; subst hj; simp [Addr.add]
/-- The numbers, of the first k, that something is so of. -/
def numTo (F : Nat → Bool) (k : Nat) : List Int := ((List.range k).filter F).map fun n : Nat => (n : Int)
theorem numTo_yes {F : Nat → Bool} {k : Nat} (h : F k = true) : numTo F (k + 1) = numTo F k ++ [(k : Int)] := by
  unfold numTo
  rw [List.range_succ, List.filter_append, List.filter_cons_of_pos h, List.map_append]; rfl
theorem numTo_no {F : Nat → Bool} {k : Nat} (h : F k = false) : numTo F (k + 1) = numTo F k := by
  unfold numTo
  rw [List.range_succ, List.filter_append, List.filter_cons_of_neg (by rw [h]; simp), List.filter_nil, List.append_nil]
theorem numTo_len (F : Nat → Bool) (k : Nat) : (numTo F k).length ≤ k := by
  unfold numTo
  rw [List.length_map]
  exact Nat.le_trans (List.length_filter_le _ _) (by simp)
set_option maxRecDepth 100000 in
set_option maxHeartbeats 16000000 in
theorem pick48_any {g c N : Nat} (F : Nat → Bool) (w : World) (hN : N ≤ 1000) (hg : g < w.heap.size) (h : ∀ k, k < N → w.cell? ⟨g, k, none⟩ = some (.bool (F k))) :
    Calls Tryz.prog 48 #[.slice (some ⟨g, 0, none⟩) N c] w fun e w' => (∃ v', e = .returned v' ∧ OwnI w' w.heap.size v' (numTo F N)) ∧ Below w.heap.size w w' := by
  obtain ⟨i0, hi, hz0, hz1, hz2⟩ := info_parts info3
  have H := Lib.hid h
  clear h
  go_enter Tryz.func48, Tryz.ntmps48
  go_wp2_with fail
  go_loopw [3, 4] (fun u i wr => ∃ j : Nat, j ≤ N ∧ i = .int .i64 j ∧ OwnI wr w.heap.size u (numTo F j) ∧ Below w.heap.size w wr) (fun _ i _ => N - (intOf i).toNat)
  case atStart => exact ⟨0, Nat.zero_le _, rfl, (show OwnI w w.heap.size (Value.slice none 0 0) [] from World.ownsRow_nil _ _ _ _), Below.refl _ _⟩
  case round =>
    obtain ⟨j, hj, rfl, hown, hbw⟩ := hrel
    by_cases hlt : j < N
    · obtain ⟨x, hx⟩ : ∃ x, F j = x := ⟨_, rfl⟩
      have c0 : wr.cell? ⟨g, j, none⟩ = some (.bool x) := by rw [← hx, ← H.out j hlt]; exact World.cell?_of_block (a := ⟨g, j, none⟩) (hbw.block g hg)
      have hi0 : (0 : Int) ≤ (j : Int) := by omega
      have hi1 : (j : Int) < (N : Int) := by omega
      have hgr : g < wr.heap.size := Nat.lt_of_lt_of_le hg hbw.size
      have hsw := hbw.size
      have hTl := numTo_len F j
      obtain ⟨au, cu, rfl⟩ := hown.shape
      cases x with
      | false =>
        have HT := Lib.hid (numTo_no hx)
        have HO := Lib.hid hown
        clear hx hown hTl
        go_wp2_with fail
        refine ⟨⟨j + 1, by omega, by push_cast; rfl, by rw [HT.out]; exact HO.out, hbw⟩, ?_⟩
        simp [intOf]; omega
      | true =>
        have HT := Lib.hid (numTo_yes hx)
        clear hx
        generalize (Value.slice au (numTo F j).length cu) = vv at hown ⊢
        go_wp2_with (at_builtin; refine wpList_append_own_at _ rfl _ _ 38 rfl w.heap.size 3 i0 _ 1 8 Tryz.underlying38 hi hz0 hz1 hz2 rfl (by decide) _ _ _ rfl (World.ownsRow.alloc hown _) _ 1 1 [.int .i64 (j : Int)] rfl rfl (cells_one_new _ _ _) ?c2 ?c3 ?c4 ?c5 ?_)
        case c2 => intro u hu; simp at hu; subst hu; rfl
        case c3 => simp [maxLen]; omega
        case c4 => omega
        case c5 => simp; omega
        intro v' w1 hown' hgrow hnil hat
        go_wp2_with fail
        refine ⟨⟨j + 1, by omega, by push_cast; rfl, ?_, ?_⟩, ?_⟩
        · rw [HT.out]
          unfold OwnI
          rw [List.map_append, List.length_append]
          exact hown'
        · exact (hbw.alloc (by omega) _).grown hgrow (by simp; omega) (fun k hk => (World.ownsRow.lt hown k hk).1)
        · simp [intOf]; omega
    · obtain rfl : j = N := by omega
      have HO := Lib.hid hown
      obtain ⟨au, cu, rfl⟩ := hown.shape
      clear hown
      go_wp2_with fail
      all_goals go_ret
      all_goals exact ⟨⟨_, rfl, HO.out⟩, hbw⟩
end Go.Proofs.YtockinpjfhhkoaaGreatDoor

/- AtomsDoes: the document's Of walked. (Printed by gen_doo.py.) -/
namespace Go.Proofs.YtockinpjfhhkoaaGreatDoor
open Go.RowKit

theorem mayQ_small {a p : Int} (h0 : 0 ≤ a) (h1 : a ≤ 1000) (hp : 1 ≤ p) (hp2 : p ≤ 3) (hg : Nat.gcd (a % p).natAbs p.natAbs = 1) : mayQ a p = true := by
  rw [gcd_part] at hg
  have h2 : 0 ≤ a / p := Int.ediv_nonneg h0 (by omega)
  have h3 : a / p ≤ a := Int.ediv_le_self p h0
  unfold mayQ
  rw [decide_eq_true hp, decide_eq_true (show p ≤ 1048576 by omega), decide_eq_true (show -2305843009213693952 ≤ a / p by omega), decide_eq_true (show a / p < 2305843009213693952 by omega), hg]
  rfl
theorem at_ok {place num den : Int} (h0 : 0 ≤ place) (h1 : place ≤ 100) (h : (num = 1 ∧ den = 2) ∨ (num = 1 ∧ den = 3) ∨ (num = 2 ∧ den = 3)) :
    0 ≤ (atR place num den).1 ∧ (atR place num den).1 ≤ 1000 ∧ mayQ (atR place num den).1 (atR place num den).2 = true := by
  unfold atR
  split
  · dsimp only
    exact ⟨by omega, by omega, mayQ_small (by omega) (by omega) (by omega) (by omega) (by rw [show place / 2 % 1 = 0 by omega]; rfl)⟩
  · dsimp only
    rcases h with ⟨rfl, rfl⟩ | ⟨rfl, rfl⟩ | ⟨rfl, rfl⟩
    · exact ⟨by omega, by omega, mayQ_small (by omega) (by omega) (by omega) (by omega) (by rw [show (place / 2 * 2 + 1) % 2 = 1 by omega]; rfl)⟩
    · exact ⟨by omega, by omega, mayQ_small (by omega) (by omega) (by omega) (by omega) (by rw [show (place / 2 * 3 + 1) % 3 = 1 by omega]; rfl)⟩
    · exact ⟨by omega, by omega, mayQ_small (by omega) (by omega) (by omega) (by omega) (by rw [show (place / 2 * 3 + 2) % 3 = 2 by omega]; rfl)⟩
def setP4 (w : World) (b : Nat) (x y z u : Value) : World := (((w.setCell ⟨b, 0, none⟩ x).setCell ⟨b, 1, none⟩ y).setCell ⟨b, 2, none⟩ z).setCell ⟨b, 3, none⟩ u
theorem setP4_at {w : World} {b : Nat} {x0 y0 z0 u0 : Value} {t : TypeId} (h : w.heap[b]? = some (.cells #[x0, y0, z0, u0] t (0, 0))) (x y z u : Value) : (setP4 w b x y z u).heap[b]? = some (.cells #[x, y, z, u] t (0, 0)) := setCell_at (setCell_at (setCell_at (setCell_at h 0 x) 1 y) 2 z) 3 u
theorem setP4_other (w : World) (b : Nat) (x y z u : Value) (j : Nat) (hj : j ≠ b) : (setP4 w b x y z u).heap[j]? = w.heap[j]? := (setCell_other' _ _ _ _ j hj).trans ((setCell_other' _ _ _ _ j hj).trans ((setCell_other' _ _ _ _ j hj).trans (setCell_other' _ _ _ _ j hj)))
theorem setP4_below {B : Nat} {w w' : World} (h : Below B w w') {b : Nat} (hb : B ≤ b) (x y z u : Value) : Below B w (setP4 w' b x y z u) := (((h.setCell (p := ⟨b, 0, none⟩) hb x).setCell (p := ⟨b, 1, none⟩) hb y).setCell (p := ⟨b, 2, none⟩) hb z).setCell (p := ⟨b, 3, none⟩) hb u
/-- A pair that the document tells. -/
def okP (P : (Int × Int) × (Int × Int)) : Prop := (0 ≤ P.1.1 ∧ P.1.1 ≤ 1000 ∧ mayQ P.1.1 P.1.2 = true) ∧ (0 ≤ P.2.1 ∧ P.2.1 ≤ 1000 ∧ mayQ P.2.1 P.2.2 = true)
theorem places_in {n t : Int} (hn : 0 ≤ n) (hn2 : n ≤ 506) (ht : 1 ≤ t) (ht2 : t ≤ 6) : 0 ≤ n / 3 / (2 * t + 1) ∧ n / 3 / (2 * t + 1) ≤ 100 ∧ 0 ≤ n / 3 % (2 * t + 1) ∧ n / 3 % (2 * t + 1) < 2 * t + 1 := by
  have e0 : 0 ≤ n / 3 / (2 * t + 1) := Int.ediv_nonneg (by omega) (by omega)
  have e1 : n / 3 / (2 * t + 1) ≤ n / 3 := Int.ediv_le_self _ (by omega)
  have e2 : n / 3 / (2 * t + 1) ≤ 100 := by
    have h3 : 3 * (n / 3 / (2 * t + 1)) ≤ (2 * t + 1) * (n / 3 / (2 * t + 1)) := Int.mul_le_mul_of_nonneg_right (by omega) e0
    have h4 := Int.mul_ediv_add_emod (n / 3) (2 * t + 1)
    have h5 := Int.emod_nonneg (n / 3) (show 2 * t + 1 ≠ 0 by omega)
    omega
  have e3 := Int.emod_nonneg (n / 3) (show 2 * t + 1 ≠ 0 by omega)
  have e4 := Int.emod_lt_of_pos (n / 3) (show 0 < 2 * t + 1 by omega)
  exact ⟨e0, e2, e3, e4⟩
theorem pair_ok {n t : Int} (hn : 0 ≤ n) (hn2 : n ≤ 506) (ht : 1 ≤ t) (ht2 : t ≤ 6) : okP (pairR n t) := by
  obtain ⟨e0, e1, e2, e3⟩ := places_in hn hn2 ht ht2
  unfold pairR okP
  dsimp only
  split
  · exact ⟨at_ok e0 e1 (by omega), at_ok e2 (by omega) (by omega)⟩
  split
  · exact ⟨at_ok e0 e1 (by omega), at_ok e2 (by omega) (by omega)⟩
  · exact ⟨at_ok e0 e1 (by omega), at_ok e2 (by omega) (by omega)⟩
set_option maxRecDepth 100000 in
set_option maxHeartbeats 16000000 in
theorem of46_any (n t : Int) (w : World) (hn : 0 ≤ n) (hn2 : n ≤ 506) (ht : 1 ≤ t) (ht2 : t ≤ 6) :
    Calls Tryz.prog 46 #[.int .i64 n, .int .i64 t] w fun e w' => e = .returned (.tuple #[.agg #[.int .i64 (pairR n t).1.1, .int .i64 (pairR n t).1.2, .int .i64 (pairR n t).2.1, .int .i64 (pairR n t).2.2], .bool (isR n t)]) ∧ Below w.heap.size w w' := by
  have hOK := pair_ok hn hn2 ht ht2
  have q1 : n.tdiv 3 = n / 3 := Int.tdiv_eq_ediv_of_nonneg hn
  have q2 : n.tmod 3 = n % 3 := Int.tmod_eq_emod_of_nonneg hn
  have q3 : (n / 3).tdiv (2 * t + 1) = n / 3 / (2 * t + 1) := Int.tdiv_eq_ediv_of_nonneg (by omega)
  have q4 : (n / 3).tmod (2 * t + 1) = n / 3 % (2 * t + 1) := Int.tmod_eq_emod_of_nonneg (by omega)
  obtain ⟨e0, e1, e2, e3⟩ := places_in hn hn2 ht ht2
  have HPR : Hid (pairR n t = if n % 3 = 0 then (atR (n / 3 / (2 * t + 1)) 1 3, atR (n / 3 % (2 * t + 1)) 2 3) else if n % 3 = 2 then (atR (n / 3 / (2 * t + 1)) 2 3, atR (n / 3 % (2 * t + 1)) 1 3) else (atR (n / 3 / (2 * t + 1)) 1 2, atR (n / 3 % (2 * t + 1)) 1 2)) := rfl
  have HIS : Hid (isR n t = (numR (pairR n t).1 (pairR n t).2 t == n)) := rfl
  obtain ⟨x, hx⟩ : ∃ x, n / 3 = x := ⟨_, rfl⟩
  obtain ⟨r, hr⟩ : ∃ r, n % 3 = r := ⟨_, rfl⟩
  have hxb : 0 ≤ x ∧ x ≤ 168 := by omega
  have hrb : 0 ≤ r ∧ r ≤ 2 := by omega
  rw [hx] at q1 q3 q4 e0 e1 e2 e3 HPR
  rw [hr] at q2 HPR
  obtain ⟨k, hk⟩ : ∃ k, 2 * t + 1 = k := ⟨_, rfl⟩
  rw [hk] at q3 q4 e0 e1 e2 e3 HPR
  obtain ⟨tp, htp⟩ : ∃ tp, x / k = tp := ⟨_, rfl⟩
  obtain ⟨up, hup⟩ : ∃ up, x % k = up := ⟨_, rfl⟩
  rw [htp] at q3 e0 e1 HPR
  rw [hup] at q4 e2 e3 HPR
  have v1 : IntKind.i64.wrap x = x := IntWalk.i64_in _ (by omega)
  have v1' : wrap64 x = x := IntWalk.wrap64_in _ (by omega)
  have v2 : IntKind.i64.wrap r = r := IntWalk.i64_in _ (by omega)
  have v2' : wrap64 r = r := IntWalk.wrap64_in _ (by omega)
  have v3 : IntKind.i64.wrap (2 * t) = 2 * t := IntWalk.i64_in _ (by omega)
  have v3' : wrap64 (2 * t) = 2 * t := IntWalk.wrap64_in _ (by omega)
  have v4 : IntKind.i64.wrap (2 * t + 1) = k := by rw [hk]; exact IntWalk.i64_in _ (by omega)
  have v4' : wrap64 (2 * t + 1) = k := by rw [hk]; exact IntWalk.wrap64_in _ (by omega)
  have v5 : IntKind.i64.wrap tp = tp := IntWalk.i64_in _ (by omega)
  have v5' : wrap64 tp = tp := IntWalk.wrap64_in _ (by omega)
  have v6 : IntKind.i64.wrap up = up := IntWalk.i64_in _ (by omega)
  have v6' : wrap64 up = up := IntWalk.wrap64_in _ (by omega)
  have hk0 : (k == 0) = false := by simp; omega
  have hk1 : ¬ k = 0 := by omega
  have H12 := fun W => Lib.hid (at93_any tp 1 2 W e0 (by omega) (by omega) (by omega) (by omega) (by omega))
  have K12 := fun W => Lib.hid (at93_any up 1 2 W e2 (by omega) (by omega) (by omega) (by omega) (by omega))
  have H13 := fun W => Lib.hid (at93_any tp 1 3 W e0 (by omega) (by omega) (by omega) (by omega) (by omega))
  have K13 := fun W => Lib.hid (at93_any up 1 3 W e2 (by omega) (by omega) (by omega) (by omega) (by omega))
  have H23 := fun W => Lib.hid (at93_any tp 2 3 W e0 (by omega) (by omega) (by omega) (by omega) (by omega))
  have K23 := fun W => Lib.hid (at93_any up 2 3 W e2 (by omega) (by omega) (by omega) (by omega) (by omega))
  have HNU : Hid (∀ W, Calls Tryz.prog 94 #[.agg #[.int .i64 (pairR n t).1.1, .int .i64 (pairR n t).1.2, .int .i64 (pairR n t).2.1, .int .i64 (pairR n t).2.2], .int .i64 t] W fun e w' => e = .returned (.int .i64 (numR (pairR n t).1 (pairR n t).2 t)) ∧ Below W.heap.size W w') :=
    fun W => number94_any _ _ _ _ t W hOK.1.1 hOK.1.2.1 hOK.2.1 hOK.2.2.1 hOK.1.2.2 hOK.2.2.2 (by omega) ht2
  clear hOK hx hr hk htp hup hxb hrb e0 e1 e2 e3 hn hn2 ht ht2
  obtain ⟨⟨⟨a, p⟩, ⟨b, q⟩⟩, hP⟩ : ∃ P, pairR n t = P := ⟨_, rfl⟩
  obtain ⟨⟨a0, p0⟩, hA0⟩ : ∃ P, atR tp 1 2 = P := ⟨_, rfl⟩
  obtain ⟨⟨b0, q0⟩, hB0⟩ : ∃ P, atR up 1 2 = P := ⟨_, rfl⟩
  rw [hP] at HNU HIS HPR ⊢
  rw [hA0] at H12 HPR
  rw [hB0] at K12 HPR
  dsimp only at HNU HIS H12 K12 ⊢
  obtain ⟨nu, hnu⟩ : ∃ nu, numR (a, p) (b, q) t = nu := ⟨_, rfl⟩
  rw [hnu] at HNU HIS
  clear hnu hP hA0 hB0
  obtain ⟨WB, hWWB⟩ : ∃ WB, WB = w.alloc (.cells #[.int .i64 0, .int .i64 0, .int .i64 0, .int .i64 0] 52) := ⟨_, rfl⟩
  have hbWB : Below w.heap.size w WB := by rw [hWWB]; exact belowA _ _
  have hx0 : WB.heap[w.heap.size]? = some (.cells #[.int .i64 0, .int .i64 0, .int .i64 0, .int .i64 0] 52 (0, 0)) := by rw [hWWB]; exact hp_topA rfl
  have HX : Hid (∀ W, Below WB.heap.size WB W → W.heap[w.heap.size]? = some (.cells #[.int .i64 0, .int .i64 0, .int .i64 0, .int .i64 0] 52 (0, 0))) := fun W hW => (hW.block _ (Array.getElem?_eq_some_iff.1 hx0).1).trans hx0
  have HF : Hid (∀ W, Below WB.heap.size WB W → W.cell? ⟨w.heap.size, 0, none⟩ = some (.int .i64 0) ∧ W.cell? ⟨w.heap.size, 1, none⟩ = some (.int .i64 0) ∧ W.cell? ⟨w.heap.size, 2, none⟩ = some (.int .i64 0) ∧ W.cell? ⟨w.heap.size, 3, none⟩ = some (.int .i64 0) ∧ W.frozen? ⟨w.heap.size, 0, none⟩ = false ∧ W.frozen? ⟨w.heap.size, 1, none⟩ = false ∧ W.frozen? ⟨w.heap.size, 2, none⟩ = false ∧ W.frozen? ⟨w.heap.size, 3, none⟩ = false ∧ w.heap.size < W.heap.size) := by
    intro W hW
    have k0 := HX.out W hW
    exact ⟨Lib.cell_of_heap k0 0, Lib.cell_of_heap k0 1, Lib.cell_of_heap k0 2, Lib.cell_of_heap k0 3, Lib.frozen_of_heap k0 0, Lib.frozen_of_heap k0 1, Lib.frozen_of_heap k0 2, Lib.frozen_of_heap k0 3, (Array.getElem?_eq_some_iff.1 k0).1⟩
  have HBB := Lib.hid hbWB
  have HWB := Lib.hid hWWB.symm
  clear hWWB hbWB hx0
  go_enter Tryz.func46, Tryz.ntmps46
  go_upto_region 1 with fail
  rw [HWB.out]
  clear HWB
  go_wp2_with fail
  refine (H12 _).out.mono ?_
  rintro e w1 ⟨rfl, hb1⟩
  have HB1 : Hid (Below WB.heap.size WB w1) := hb1
  clear hb1
  go_wp2_with fail
  refine (K12 _).out.mono ?_
  rintro e w2 ⟨rfl, hb2⟩
  have HB2 : Hid (Below WB.heap.size WB w2) := belS HB1.out hb2
  clear hb2
  go_upto_region 4 with fail
  obtain ⟨WX, hWX⟩ : ∃ WX, WX = w2.alloc (.cells #[.int .i64 a0, .int .i64 p0, .int .i64 b0, .int .i64 q0] 52) := ⟨_, rfl⟩
  have hlt : w.heap.size < w2.heap.size := (Array.getElem?_eq_some_iff.1 (HX.out w2 HB2.out)).1
  have hbx : Below WB.heap.size WB WX := by rw [hWX]; exact belA' HB2.out _
  have hx0 : WX.heap[w2.heap.size]? = some (.cells #[.int .i64 a0, .int .i64 p0, .int .i64 b0, .int .i64 q0] 52 (0, 0)) := by rw [hWX]; exact hp_topA rfl
  have HX2 : Hid (∀ W, Below WX.heap.size WX W → W.heap[w.heap.size]? = some (.cells #[.int .i64 0, .int .i64 0, .int .i64 0, .int .i64 0] 52 (0, 0)) ∧ W.heap[w2.heap.size]? = some (.cells #[.int .i64 a0, .int .i64 p0, .int .i64 b0, .int .i64 q0] 52 (0, 0))) := fun W hW =>
    ⟨HX.out W (belS hbx hW), (hW.block _ (Array.getElem?_eq_some_iff.1 hx0).1).trans hx0⟩
  have HBX := Lib.hid hbx
  have HLT := Lib.hid hlt
  rw [← hWX]
  clear hWX hbx hx0 hlt
  by_cases c0 : r = 0
  · have d0 : (r == 0) = true := by simpa using c0
    rw [if_pos c0] at HPR
    clear c0
    have hA : atR tp 1 3 = (a, p) := congrArg Prod.fst HPR.out.symm
    have hB : atR up 2 3 = (b, q) := congrArg Prod.snd HPR.out.symm
    rw [hA] at H13
    rw [hB] at K23
    dsimp only at H13 K23
    clear hA hB
    go_wp2_with fail
    refine (H13 _).out.mono ?_
    rintro e w3 ⟨rfl, hb3⟩
    have HB3 : Hid (Below WX.heap.size WX w3) := hb3
    clear hb3
    go_wp2_with fail
    refine (K23 _).out.mono ?_
    rintro e w4 ⟨rfl, hb4⟩
    have HB4 : Hid (Below WX.heap.size WX w4) := belS HB3.out hb4
    clear hb4
    have k0 := (HX2.out w4 HB4.out).2
    have u0 := Lib.cell_of_heap k0 0
    have u1 := Lib.cell_of_heap k0 1
    have u2 := Lib.cell_of_heap k0 2
    have u3 := Lib.cell_of_heap k0 3
    simp only [List.getElem?_toArray, List.getElem?_cons_zero, List.getElem?_cons_succ] at u0 u1 u2 u3
    have u4 := Lib.frozen_of_heap k0 0
    have u5 := Lib.frozen_of_heap k0 1
    have u6 := Lib.frozen_of_heap k0 2
    have u7 := Lib.frozen_of_heap k0 3
    have u8 := (Array.getElem?_eq_some_iff.1 k0).1
    clear k0
    go_upto_region 8 with fail
    clear u0 u1 u2 u3 u4 u5 u6 u7 u8
    obtain ⟨WY, hWY⟩ : ∃ WY, WY = setP4 w4 w2.heap.size (.int .i64 a) (.int .i64 p) (.int .i64 b) (.int .i64 q) := ⟨_, rfl⟩
    have HY : Hid (∀ W, Below WY.heap.size WY W → W.heap[w.heap.size]? = some (.cells #[.int .i64 0, .int .i64 0, .int .i64 0, .int .i64 0] 52 (0, 0)) ∧ W.heap[w2.heap.size]? = some (.cells #[.int .i64 a, .int .i64 p, .int .i64 b, .int .i64 q] 52 (0, 0))) := by
      have m0 : WY.heap[w.heap.size]? = some (.cells #[.int .i64 0, .int .i64 0, .int .i64 0, .int .i64 0] 52 (0, 0)) := by
        rw [hWY]; exact (setP4_other w4 w2.heap.size _ _ _ _ w.heap.size (by have := HLT.out; omega)).trans (HX2.out w4 HB4.out).1
      have m1 : WY.heap[w2.heap.size]? = some (.cells #[.int .i64 a, .int .i64 p, .int .i64 b, .int .i64 q] 52 (0, 0)) := by
        rw [hWY]; exact setP4_at (HX2.out w4 HB4.out).2 _ _ _ _
      exact fun W hW => ⟨(hW.block _ (Array.getElem?_eq_some_iff.1 m0).1).trans m0, (hW.block _ (Array.getElem?_eq_some_iff.1 m1).1).trans m1⟩
    have HBY : Hid (Below w.heap.size w WY) := by
      rw [Hid, hWY]
      exact setP4_below (HBB.out.trans ((belS HBX.out HB4.out).mono HBB.out.size)) (by have := HLT.out; omega) _ _ _ _
    unfold setP4 at hWY
    rw [← hWY]
    clear hWY
    have HS : Hid (∀ W, Below WY.heap.size WY W → W.cell? ⟨w2.heap.size, 0, none⟩ = some (.int .i64 a) ∧ W.cell? ⟨w2.heap.size, 1, none⟩ = some (.int .i64 p) ∧ W.cell? ⟨w2.heap.size, 2, none⟩ = some (.int .i64 b) ∧ W.cell? ⟨w2.heap.size, 3, none⟩ = some (.int .i64 q) ∧ w2.heap.size < W.heap.size) := by
      intro W hW
      have k0 := (HY.out W hW).2
      exact ⟨Lib.cell_of_heap k0 0, Lib.cell_of_heap k0 1, Lib.cell_of_heap k0 2, Lib.cell_of_heap k0 3, (Array.getElem?_eq_some_iff.1 k0).1⟩
    have HS2 : Hid (∀ W x y z u, Below WY.heap.size WY W → (setP4 W w.heap.size x y z u).cell? ⟨w2.heap.size, 0, none⟩ = some (.int .i64 a) ∧ (setP4 W w.heap.size x y z u).cell? ⟨w2.heap.size, 1, none⟩ = some (.int .i64 p) ∧ (setP4 W w.heap.size x y z u).cell? ⟨w2.heap.size, 2, none⟩ = some (.int .i64 b) ∧ (setP4 W w.heap.size x y z u).cell? ⟨w2.heap.size, 3, none⟩ = some (.int .i64 q) ∧ w2.heap.size < (setP4 W w.heap.size x y z u).heap.size) := by
      intro W x y z u hW
      have k0 := (setP4_other W w.heap.size x y z u w2.heap.size (by have := HLT.out; omega)).trans (HY.out W hW).2
      exact ⟨Lib.cell_of_heap k0 0, Lib.cell_of_heap k0 1, Lib.cell_of_heap k0 2, Lib.cell_of_heap k0 3, (Array.getElem?_eq_some_iff.1 k0).1⟩
    refine wp_region_held_drew (S := fun W => W.cell? ⟨w2.heap.size, 0, none⟩ = some (.int .i64 a) ∧ W.cell? ⟨w2.heap.size, 1, none⟩ = some (.int .i64 p) ∧ W.cell? ⟨w2.heap.size, 2, none⟩ = some (.int .i64 b) ∧ W.cell? ⟨w2.heap.size, 3, none⟩ = some (.int .i64 q) ∧ w2.heap.size < W.heap.size) (by kernel_rfl) (HS.out _ (Below.refl WY.heap.size WY).drew) (fun hHeld => ?_)
    refine wpAnyH_take (i := 0) (v := ?_) rfl (by kernel_rfl) (by kernel_rfl) (by kernel_rfl) (fun _ _ _ h => h) (Or.inl ⟨by kernel_rfl, ?_⟩) (by assumption) ?_
    rotate_left
    · (intro w hSw; (try dsimp only at hSw); go_simp)
      try with_reducible rfl
    try simp only [Act.put, List.setIfInBounds_toArray, List.set_cons_zero, List.set_cons_succ, List.getElem_toArray, List.getElem_cons_zero]
    refine wpAnyH_take (i := 1) (v := ?_) rfl (by kernel_rfl) (by kernel_rfl) (by kernel_rfl) (fun _ _ _ h => h) (Or.inl ⟨by kernel_rfl, ?_⟩) (by assumption) ?_
    rotate_left
    · (intro w hSw; (try dsimp only at hSw); go_simp)
      try with_reducible rfl
    try simp only [Act.put, List.setIfInBounds_toArray, List.set_cons_zero, List.set_cons_succ, List.getElem_toArray, List.getElem_cons_zero, List.getElem_cons_succ]
    refine wpAnyH_take (i := 2) (v := ?_) rfl (by kernel_rfl) (by kernel_rfl) (by kernel_rfl) (fun _ _ _ h => h) (Or.inl ⟨by kernel_rfl, ?_⟩) (by assumption) ?_
    rotate_left
    · (intro w hSw; (try dsimp only at hSw); go_simp)
      try with_reducible rfl
    try simp only [Act.put, List.setIfInBounds_toArray, List.set_cons_zero, List.set_cons_succ, List.getElem_toArray, List.getElem_cons_zero, List.getElem_cons_succ]
    refine wpAnyH_take (i := 4) (v := ?_) rfl (by kernel_rfl) (by kernel_rfl) (by kernel_rfl) (fun _ _ _ h => h) (Or.inl ⟨by kernel_rfl, ?_⟩) (by assumption) ?_
    rotate_left
    · (intro w hSw; (try dsimp only at hSw); go_simp)
      try with_reducible rfl
    try simp only [Act.put, List.setIfInBounds_toArray, List.set_cons_zero, List.set_cons_succ, List.getElem_toArray, List.getElem_cons_zero, List.getElem_cons_succ]
    refine wpAnyH_ready (rs := [3]) (by kernel_rfl) (by simp) ?_
    refine AllReadyH.cons rfl (fun K hK => ?_) AllReadyH.nil
    go_simp
    go_at_call 94
    refine (HNU.out _).mono ?_
    rintro e w9 ⟨rfl, hb9⟩
    have HB9 : Hid (Below WY.heap.size WY w9) := belS (Below.refl WY.heap.size WY).drew hb9
    clear hb9
    try dsimp only
    refine hK.out _ _ (HS.out _ HB9.out) (fun hHeld => ?_)
    clear hK K
    try simp only [Act.put, List.setIfInBounds_toArray, List.set_cons_zero, List.set_cons_succ, List.getElem_toArray, List.getElem_cons_zero, List.getElem_cons_succ]
    refine wpAnyH_take (i := 5) (v := ?_) rfl (by kernel_rfl) (by kernel_rfl) (by kernel_rfl) (fun _ _ _ h => h) (Or.inl ⟨by kernel_rfl, ?_⟩) (by assumption) ?_
    rotate_left
    · (intro w hSw; (try dsimp only at hSw); go_simp)
      try with_reducible rfl
    try simp only [Act.put, List.setIfInBounds_toArray, List.set_cons_zero, List.set_cons_succ, List.getElem_toArray, List.getElem_cons_zero, List.getElem_cons_succ]
    have k0 := (HY.out w9 HB9.out).1
    have u0 := Lib.cell_of_heap k0 0
    have u1 := Lib.cell_of_heap k0 1
    have u2 := Lib.cell_of_heap k0 2
    have u3 := Lib.cell_of_heap k0 3
    simp only [List.getElem?_toArray, List.getElem?_cons_zero, List.getElem?_cons_succ] at u0 u1 u2 u3
    have u4 := Lib.frozen_of_heap k0 0
    have u5 := Lib.frozen_of_heap k0 1
    have u6 := Lib.frozen_of_heap k0 2
    have u7 := Lib.frozen_of_heap k0 3
    have u8 := (Array.getElem?_eq_some_iff.1 k0).1
    clear k0
    refine wpAnyH_ready (rs := [6]) (by kernel_rfl) (by simp) ?_
    refine AllReadyH.cons rfl (fun K hK => ?_) AllReadyH.nil
    go_simp
    refine hK.out _ _ (HS2.out w9 _ _ _ _ HB9.out) (fun hHeld => ?_)
    clear hK K
    try simp only [Act.put, List.setIfInBounds_toArray, List.set_cons_zero, List.set_cons_succ, List.getElem_toArray, List.getElem_cons_zero, List.getElem_cons_succ]
    refine wpAnyH_take (i := 7) (v := ?_) rfl (by kernel_rfl) (by kernel_rfl) (by kernel_rfl) (fun _ _ _ h => h) (Or.inl ⟨by kernel_rfl, ?_⟩) (by assumption) ?_
    rotate_left
    · (intro w hSw; (try dsimp only at hSw); go_simp)
      try with_reducible rfl
    try simp only [Act.put, List.setIfInBounds_toArray, List.set_cons_zero, List.set_cons_succ, List.getElem_toArray, List.getElem_cons_zero, List.getElem_cons_succ]
    refine wpAnyH_done (by kernel_rfl) ?_ _
    clear hHeld
    clear u0 u1 u2 u3 u4 u5 u6 u7 u8
    go_wp2_with fail
    refine bodyPost_ret (results_cell_row_tmp rfl _ _ _ _ _ _ _ _ rfl rfl (setP4_at (HY.out w9 HB9.out).1 _ _ _ _) Tryz.underlying52 rfl (by kernel_rfl)) rfl ?_
    exact ⟨by rw [HIS.out]; rfl, setP4_below (HBY.out.trans (HB9.out.mono HBY.out.size)) (Nat.le_refl _) _ _ _ _⟩
  have d0 : (r == 0) = false := by simpa using c0
  rw [if_neg c0] at HPR
  clear c0
  by_cases c2 : r = 2
  · have d2 : (r == 2) = true := by simpa using c2
    rw [if_pos c2] at HPR
    clear c2
    have hA : atR tp 2 3 = (a, p) := congrArg Prod.fst HPR.out.symm
    have hB : atR up 1 3 = (b, q) := congrArg Prod.snd HPR.out.symm
    rw [hA] at H23
    rw [hB] at K13
    dsimp only at H23 K13
    clear hA hB
    go_wp2_with fail
    refine (H23 _).out.mono ?_
    rintro e w3 ⟨rfl, hb3⟩
    have HB3 : Hid (Below WX.heap.size WX w3) := hb3
    clear hb3
    go_wp2_with fail
    refine (K13 _).out.mono ?_
    rintro e w4 ⟨rfl, hb4⟩
    have HB4 : Hid (Below WX.heap.size WX w4) := belS HB3.out hb4
    clear hb4
    have k0 := (HX2.out w4 HB4.out).2
    have u0 := Lib.cell_of_heap k0 0
    have u1 := Lib.cell_of_heap k0 1
    have u2 := Lib.cell_of_heap k0 2
    have u3 := Lib.cell_of_heap k0 3
    simp only [List.getElem?_toArray, List.getElem?_cons_zero, List.getElem?_cons_succ] at u0 u1 u2 u3
    have u4 := Lib.frozen_of_heap k0 0
    have u5 := Lib.frozen_of_heap k0 1
    have u6 := Lib.frozen_of_heap k0 2
    have u7 := Lib.frozen_of_heap k0 3
    have u8 := (Array.getElem?_eq_some_iff.1 k0).1
    clear k0
    go_upto_region 8 with fail
    clear u0 u1 u2 u3 u4 u5 u6 u7 u8
    obtain ⟨WY, hWY⟩ : ∃ WY, WY = setP4 w4 w2.heap.size (.int .i64 a) (.int .i64 p) (.int .i64 b) (.int .i64 q) := ⟨_, rfl⟩
    have HY : Hid (∀ W, Below WY.heap.size WY W → W.heap[w.heap.size]? = some (.cells #[.int .i64 0, .int .i64 0, .int .i64 0, .int .i64 0] 52 (0, 0)) ∧ W.heap[w2.heap.size]? = some (.cells #[.int .i64 a, .int .i64 p, .int .i64 b, .int .i64 q] 52 (0, 0))) := by
      have m0 : WY.heap[w.heap.size]? = some (.cells #[.int .i64 0, .int .i64 0, .int .i64 0, .int .i64 0] 52 (0, 0)) := by
        rw [hWY]; exact (setP4_other w4 w2.heap.size _ _ _ _ w.heap.size (by have := HLT.out; omega)).trans (HX2.out w4 HB4.out).1
      have m1 : WY.heap[w2.heap.size]? = some (.cells #[.int .i64 a, .int .i64 p, .int .i64 b, .int .i64 q] 52 (0, 0)) := by
        rw [hWY]; exact setP4_at (HX2.out w4 HB4.out).2 _ _ _ _
      exact fun W hW => ⟨(hW.block _ (Array.getElem?_eq_some_iff.1 m0).1).trans m0, (hW.block _ (Array.getElem?_eq_some_iff.1 m1).1).trans m1⟩
    have HBY : Hid (Below w.heap.size w WY) := by
      rw [Hid, hWY]
      exact setP4_below (HBB.out.trans ((belS HBX.out HB4.out).mono HBB.out.size)) (by have := HLT.out; omega) _ _ _ _
    unfold setP4 at hWY
    rw [← hWY]
    clear hWY
    have HS : Hid (∀ W, Below WY.heap.size WY W → W.cell? ⟨w2.heap.size, 0, none⟩ = some (.int .i64 a) ∧ W.cell? ⟨w2.heap.size, 1, none⟩ = some (.int .i64 p) ∧ W.cell? ⟨w2.heap.size, 2, none⟩ = some (.int .i64 b) ∧ W.cell? ⟨w2.heap.size, 3, none⟩ = some (.int .i64 q) ∧ w2.heap.size < W.heap.size) := by
      intro W hW
      have k0 := (HY.out W hW).2
      exact ⟨Lib.cell_of_heap k0 0, Lib.cell_of_heap k0 1, Lib.cell_of_heap k0 2, Lib.cell_of_heap k0 3, (Array.getElem?_eq_some_iff.1 k0).1⟩
    have HS2 : Hid (∀ W x y z u, Below WY.heap.size WY W → (setP4 W w.heap.size x y z u).cell? ⟨w2.heap.size, 0, none⟩ = some (.int .i64 a) ∧ (setP4 W w.heap.size x y z u).cell? ⟨w2.heap.size, 1, none⟩ = some (.int .i64 p) ∧ (setP4 W w.heap.size x y z u).cell? ⟨w2.heap.size, 2, none⟩ = some (.int .i64 b) ∧ (setP4 W w.heap.size x y z u).cell? ⟨w2.heap.size, 3, none⟩ = some (.int .i64 q) ∧ w2.heap.size < (setP4 W w.heap.size x y z u).heap.size) := by
      intro W x y z u hW
      have k0 := (setP4_other W w.heap.size x y z u w2.heap.size (by have := HLT.out; omega)).trans (HY.out W hW).2
      exact ⟨Lib.cell_of_heap k0 0, Lib.cell_of_heap k0 1, Lib.cell_of_heap k0 2, Lib.cell_of_heap k0 3, (Array.getElem?_eq_some_iff.1 k0).1⟩
    refine wp_region_held_drew (S := fun W => W.cell? ⟨w2.heap.size, 0, none⟩ = some (.int .i64 a) ∧ W.cell? ⟨w2.heap.size, 1, none⟩ = some (.int .i64 p) ∧ W.cell? ⟨w2.heap.size, 2, none⟩ = some (.int .i64 b) ∧ W.cell? ⟨w2.heap.size, 3, none⟩ = some (.int .i64 q) ∧ w2.heap.size < W.heap.size) (by kernel_rfl) (HS.out _ (Below.refl WY.heap.size WY).drew) (fun hHeld => ?_)
    refine wpAnyH_take (i := 0) (v := ?_) rfl (by kernel_rfl) (by kernel_rfl) (by kernel_rfl) (fun _ _ _ h => h) (Or.inl ⟨by kernel_rfl, ?_⟩) (by assumption) ?_
    rotate_left
    · (intro w hSw; (try dsimp only at hSw); go_simp)
      try with_reducible rfl
    try simp only [Act.put, List.setIfInBounds_toArray, List.set_cons_zero, List.set_cons_succ, List.getElem_toArray, List.getElem_cons_zero]
    refine wpAnyH_take (i := 1) (v := ?_) rfl (by kernel_rfl) (by kernel_rfl) (by kernel_rfl) (fun _ _ _ h => h) (Or.inl ⟨by kernel_rfl, ?_⟩) (by assumption) ?_
    rotate_left
    · (intro w hSw; (try dsimp only at hSw); go_simp)
      try with_reducible rfl
    try simp only [Act.put, List.setIfInBounds_toArray, List.set_cons_zero, List.set_cons_succ, List.getElem_toArray, List.getElem_cons_zero, List.getElem_cons_succ]
    refine wpAnyH_take (i := 2) (v := ?_) rfl (by kernel_rfl) (by kernel_rfl) (by kernel_rfl) (fun _ _ _ h => h) (Or.inl ⟨by kernel_rfl, ?_⟩) (by assumption) ?_
    rotate_left
    · (intro w hSw; (try dsimp only at hSw); go_simp)
      try with_reducible rfl
    try simp only [Act.put, List.setIfInBounds_toArray, List.set_cons_zero, List.set_cons_succ, List.getElem_toArray, List.getElem_cons_zero, List.getElem_cons_succ]
    refine wpAnyH_take (i := 4) (v := ?_) rfl (by kernel_rfl) (by kernel_rfl) (by kernel_rfl) (fun _ _ _ h => h) (Or.inl ⟨by kernel_rfl, ?_⟩) (by assumption) ?_
    rotate_left
    · (intro w hSw; (try dsimp only at hSw); go_simp)
      try with_reducible rfl
    try simp only [Act.put, List.setIfInBounds_toArray, List.set_cons_zero, List.set_cons_succ, List.getElem_toArray, List.getElem_cons_zero, List.getElem_cons_succ]
    refine wpAnyH_ready (rs := [3]) (by kernel_rfl) (by simp) ?_
    refine AllReadyH.cons rfl (fun K hK => ?_) AllReadyH.nil
    go_simp
    go_at_call 94
    refine (HNU.out _).mono ?_
    rintro e w9 ⟨rfl, hb9⟩
    have HB9 : Hid (Below WY.heap.size WY w9) := belS (Below.refl WY.heap.size WY).drew hb9
    clear hb9
    try dsimp only
    refine hK.out _ _ (HS.out _ HB9.out) (fun hHeld => ?_)
    clear hK K
    try simp only [Act.put, List.setIfInBounds_toArray, List.set_cons_zero, List.set_cons_succ, List.getElem_toArray, List.getElem_cons_zero, List.getElem_cons_succ]
    refine wpAnyH_take (i := 5) (v := ?_) rfl (by kernel_rfl) (by kernel_rfl) (by kernel_rfl) (fun _ _ _ h => h) (Or.inl ⟨by kernel_rfl, ?_⟩) (by assumption) ?_
    rotate_left
    · (intro w hSw; (try dsimp only at hSw); go_simp)
      try with_reducible rfl
    try simp only [Act.put, List.setIfInBounds_toArray, List.set_cons_zero, List.set_cons_succ, List.getElem_toArray, List.getElem_cons_zero, List.getElem_cons_succ]
    have k0 := (HY.out w9 HB9.out).1
    have u0 := Lib.cell_of_heap k0 0
    have u1 := Lib.cell_of_heap k0 1
    have u2 := Lib.cell_of_heap k0 2
    have u3 := Lib.cell_of_heap k0 3
    simp only [List.getElem?_toArray, List.getElem?_cons_zero, List.getElem?_cons_succ] at u0 u1 u2 u3
    have u4 := Lib.frozen_of_heap k0 0
    have u5 := Lib.frozen_of_heap k0 1
    have u6 := Lib.frozen_of_heap k0 2
    have u7 := Lib.frozen_of_heap k0 3
    have u8 := (Array.getElem?_eq_some_iff.1 k0).1
    clear k0
    refine wpAnyH_ready (rs := [6]) (by kernel_rfl) (by simp) ?_
    refine AllReadyH.cons rfl (fun K hK => ?_) AllReadyH.nil
    go_simp
    refine hK.out _ _ (HS2.out w9 _ _ _ _ HB9.out) (fun hHeld => ?_)
    clear hK K
    try simp only [Act.put, List.setIfInBounds_toArray, List.set_cons_zero, List.set_cons_succ, List.getElem_toArray, List.getElem_cons_zero, List.getElem_cons_succ]
    refine wpAnyH_take (i := 7) (v := ?_) rfl (by kernel_rfl) (by kernel_rfl) (by kernel_rfl) (fun _ _ _ h => h) (Or.inl ⟨by kernel_rfl, ?_⟩) (by assumption) ?_
    rotate_left
    · (intro w hSw; (try dsimp only at hSw); go_simp)
      try with_reducible rfl
    try simp only [Act.put, List.setIfInBounds_toArray, List.set_cons_zero, List.set_cons_succ, List.getElem_toArray, List.getElem_cons_zero, List.getElem_cons_succ]
    refine wpAnyH_done (by kernel_rfl) ?_ _
    clear hHeld
    clear u0 u1 u2 u3 u4 u5 u6 u7 u8
    go_wp2_with fail
    refine bodyPost_ret (results_cell_row_tmp rfl _ _ _ _ _ _ _ _ rfl rfl (setP4_at (HY.out w9 HB9.out).1 _ _ _ _) Tryz.underlying52 rfl (by kernel_rfl)) rfl ?_
    exact ⟨by rw [HIS.out]; rfl, setP4_below (HBY.out.trans (HB9.out.mono HBY.out.size)) (Nat.le_refl _) _ _ _ _⟩
  have d2 : (r == 2) = false := by simpa using c2
  rw [if_neg c2] at HPR
  clear c2
  have hA := congrArg Prod.fst HPR.out
  have hB := congrArg Prod.snd HPR.out
  dsimp only at hA hB
  injection hA with hA1 hA2
  injection hB with hB1 hB2
  subst hA1 hA2 hB1 hB2
  go_upto_region 8 with fail
  obtain ⟨WY, hWY⟩ : ∃ WY, WY = WX := ⟨_, rfl⟩
  subst hWY
  have HY := HX2
  have HBY : Hid (Below w.heap.size w WY) := HBB.out.trans (HBX.out.mono HBB.out.size)
  have HS : Hid (∀ W, Below WY.heap.size WY W → W.cell? ⟨w2.heap.size, 0, none⟩ = some (.int .i64 a) ∧ W.cell? ⟨w2.heap.size, 1, none⟩ = some (.int .i64 p) ∧ W.cell? ⟨w2.heap.size, 2, none⟩ = some (.int .i64 b) ∧ W.cell? ⟨w2.heap.size, 3, none⟩ = some (.int .i64 q) ∧ w2.heap.size < W.heap.size) := by
    intro W hW
    have k0 := (HY.out W hW).2
    exact ⟨Lib.cell_of_heap k0 0, Lib.cell_of_heap k0 1, Lib.cell_of_heap k0 2, Lib.cell_of_heap k0 3, (Array.getElem?_eq_some_iff.1 k0).1⟩
  have HS2 : Hid (∀ W x y z u, Below WY.heap.size WY W → (setP4 W w.heap.size x y z u).cell? ⟨w2.heap.size, 0, none⟩ = some (.int .i64 a) ∧ (setP4 W w.heap.size x y z u).cell? ⟨w2.heap.size, 1, none⟩ = some (.int .i64 p) ∧ (setP4 W w.heap.size x y z u).cell? ⟨w2.heap.size, 2, none⟩ = some (.int .i64 b) ∧ (setP4 W w.heap.size x y z u).cell? ⟨w2.heap.size, 3, none⟩ = some (.int .i64 q) ∧ w2.heap.size < (setP4 W w.heap.size x y z u).heap.size) := by
    intro W x y z u hW
    have k0 := (setP4_other W w.heap.size x y z u w2.heap.size (by have := HLT.out; omega)).trans (HY.out W hW).2
    exact ⟨Lib.cell_of_heap k0 0, Lib.cell_of_heap k0 1, Lib.cell_of_heap k0 2, Lib.cell_of_heap k0 3, (Array.getElem?_eq_some_iff.1 k0).1⟩
  refine wp_region_held_drew (S := fun W => W.cell? ⟨w2.heap.size, 0, none⟩ = some (.int .i64 a) ∧ W.cell? ⟨w2.heap.size, 1, none⟩ = some (.int .i64 p) ∧ W.cell? ⟨w2.heap.size, 2, none⟩ = some (.int .i64 b) ∧ W.cell? ⟨w2.heap.size, 3, none⟩ = some (.int .i64 q) ∧ w2.heap.size < W.heap.size) (by kernel_rfl) (HS.out _ (Below.refl WY.heap.size WY).drew) (fun hHeld => ?_)
  refine wpAnyH_take (i := 0) (v := ?_) rfl (by kernel_rfl) (by kernel_rfl) (by kernel_rfl) (fun _ _ _ h => h) (Or.inl ⟨by kernel_rfl, ?_⟩) (by assumption) ?_
  rotate_left
  · (intro w hSw; (try dsimp only at hSw); go_simp)
    try with_reducible rfl
  try simp only [Act.put, List.setIfInBounds_toArray, List.set_cons_zero, List.set_cons_succ, List.getElem_toArray, List.getElem_cons_zero]
  refine wpAnyH_take (i := 1) (v := ?_) rfl (by kernel_rfl) (by kernel_rfl) (by kernel_rfl) (fun _ _ _ h => h) (Or.inl ⟨by kernel_rfl, ?_⟩) (by assumption) ?_
  rotate_left
  · (intro w hSw; (try dsimp only at hSw); go_simp)
    try with_reducible rfl
  try simp only [Act.put, List.setIfInBounds_toArray, List.set_cons_zero, List.set_cons_succ, List.getElem_toArray, List.getElem_cons_zero, List.getElem_cons_succ]
  refine wpAnyH_take (i := 2) (v := ?_) rfl (by kernel_rfl) (by kernel_rfl) (by kernel_rfl) (fun _ _ _ h => h) (Or.inl ⟨by kernel_rfl, ?_⟩) (by assumption) ?_
  rotate_left
  · (intro w hSw; (try dsimp only at hSw); go_simp)
    try with_reducible rfl
  try simp only [Act.put, List.setIfInBounds_toArray, List.set_cons_zero, List.set_cons_succ, List.getElem_toArray, List.getElem_cons_zero, List.getElem_cons_succ]
  refine wpAnyH_take (i := 4) (v := ?_) rfl (by kernel_rfl) (by kernel_rfl) (by kernel_rfl) (fun _ _ _ h => h) (Or.inl ⟨by kernel_rfl, ?_⟩) (by assumption) ?_
  rotate_left
  · (intro w hSw; (try dsimp only at hSw); go_simp)
    try with_reducible rfl
  try simp only [Act.put, List.setIfInBounds_toArray, List.set_cons_zero, List.set_cons_succ, List.getElem_toArray, List.getElem_cons_zero, List.getElem_cons_succ]
  refine wpAnyH_ready (rs := [3]) (by kernel_rfl) (by simp) ?_
  refine AllReadyH.cons rfl (fun K hK => ?_) AllReadyH.nil
  go_simp
  go_at_call 94
  refine (HNU.out _).mono ?_
  rintro e w9 ⟨rfl, hb9⟩
  have HB9 : Hid (Below WY.heap.size WY w9) := belS (Below.refl WY.heap.size WY).drew hb9
  clear hb9
  try dsimp only
  refine hK.out _ _ (HS.out _ HB9.out) (fun hHeld => ?_)
  clear hK K
  try simp only [Act.put, List.setIfInBounds_toArray, List.set_cons_zero, List.set_cons_succ, List.getElem_toArray, List.getElem_cons_zero, List.getElem_cons_succ]
  refine wpAnyH_take (i := 5) (v := ?_) rfl (by kernel_rfl) (by kernel_rfl) (by kernel_rfl) (fun _ _ _ h => h) (Or.inl ⟨by kernel_rfl, ?_⟩) (by assumption) ?_
  rotate_left
  · (intro w hSw; (try dsimp only at hSw); go_simp)
    try with_reducible rfl
  try simp only [Act.put, List.setIfInBounds_toArray, List.set_cons_zero, List.set_cons_succ, List.getElem_toArray, List.getElem_cons_zero, List.getElem_cons_succ]
  have k0 := (HY.out w9 HB9.out).1
  have u0 := Lib.cell_of_heap k0 0
  have u1 := Lib.cell_of_heap k0 1
  have u2 := Lib.cell_of_heap k0 2
  have u3 := Lib.cell_of_heap k0 3
  simp only [List.getElem?_toArray, List.getElem?_cons_zero, List.getElem?_cons_succ] at u0 u1 u2 u3
  have u4 := Lib.frozen_of_heap k0 0
  have u5 := Lib.frozen_of_heap k0 1
  have u6 := Lib.frozen_of_heap k0 2
  have u7 := Lib.frozen_of_heap k0 3
  have u8 := (Array.getElem?_eq_some_iff.1 k0).1
  clear k0
  refine wpAnyH_ready (rs := [6]) (by kernel_rfl) (by simp) ?_
  refine AllReadyH.cons rfl (fun K hK => ?_) AllReadyH.nil
  go_simp
  refine hK.out _ _ (HS2.out w9 _ _ _ _ HB9.out) (fun hHeld => ?_)
  clear hK K
  try simp only [Act.put, List.setIfInBounds_toArray, List.set_cons_zero, List.set_cons_succ, List.getElem_toArray, List.getElem_cons_zero, List.getElem_cons_succ]
  refine wpAnyH_take (i := 7) (v := ?_) rfl (by kernel_rfl) (by kernel_rfl) (by kernel_rfl) (fun _ _ _ h => h) (Or.inl ⟨by kernel_rfl, ?_⟩) (by assumption) ?_
  rotate_left
  · (intro w hSw; (try dsimp only at hSw); go_simp)
    try with_reducible rfl
  try simp only [Act.put, List.setIfInBounds_toArray, List.set_cons_zero, List.set_cons_succ, List.getElem_toArray, List.getElem_cons_zero, List.getElem_cons_succ]
  refine wpAnyH_done (by kernel_rfl) ?_ _
  clear hHeld
  clear u0 u1 u2 u3 u4 u5 u6 u7 u8
  go_wp2_with fail
  refine bodyPost_ret (results_cell_row_tmp rfl _ _ _ _ _ _ _ _ rfl rfl (setP4_at (HY.out w9 HB9.out).1 _ _ _ _) Tryz.underlying52 rfl (by kernel_rfl)) rfl ?_
  exact ⟨by rw [HIS.out]; rfl, setP4_below (HBY.out.trans (HB9.out.mono HBY.out.size)) (Nat.le_refl _) _ _ _ _⟩
end Go.Proofs.YtockinpjfhhkoaaGreatDoor
