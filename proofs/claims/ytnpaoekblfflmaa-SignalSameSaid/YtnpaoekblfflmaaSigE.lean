/- signal.merged and rallentandoref22.Merged: neighbours that say the same are made one. -/
import Derived.Test.YtnpaoekblfflmaaSigD
import Derived.Deep.QuietTactic
import Derived.BigQuiet
import Derived.StillTailTactics
import Derived.Deep.RegionHeld3
import Derived.Deep.DrawnRows
import Derived.Maps.AppendAt
import Derived.WalkSmall
namespace Go.Proofs.Ytnpaoekblfflmaa
open Go.RowKit Go.Shelf
attribute [local go_sem ↓] Go.wp_at_zero Go.wp_at_succ

/-- One segment more. -/
def mstep (out : List (Int × Int)) (s : Int × Int) : List (Int × Int) :=
  match out.getLast? with
  | some t => if t.2 = s.2 then out.dropLast ++ [(wrap64 (t.1 + s.1), t.2)] else out ++ [s]
  | none => [s]
def mTo (l : List (Int × Int)) (k : Nat) : List (Int × Int) := (l.take k).foldl mstep []
def mergedL (l : List (Int × Int)) : List (Int × Int) := l.foldl mstep []

theorem mTo_succ (l : List (Int × Int)) (k : Nat) (h : k < l.length) : mTo l (k + 1) = mstep (mTo l k) l[k] := by
  unfold mTo
  rw [List.take_succ_eq_append_getElem h, List.foldl_append]
  rfl
theorem mTo_all (l : List (Int × Int)) : mTo l l.length = mergedL l := by rw [mTo, List.take_length]; rfl
theorem mstep_nil (s : Int × Int) : mstep [] s = [s] := rfl
theorem mstep_same (pre : List (Int × Int)) (t s : Int × Int) (h : t.2 = s.2) : mstep (pre ++ [t]) s = pre ++ [(wrap64 (t.1 + s.1), t.2)] := by simp [mstep, h]
theorem mstep_other (pre : List (Int × Int)) (t s : Int × Int) (h : t.2 ≠ s.2) : mstep (pre ++ [t]) s = pre ++ [t] ++ [s] := by simp [mstep, h]
theorem mstep_length (out : List (Int × Int)) (s : Int × Int) : (mstep out s).length ≤ out.length + 1 := by
  rcases List.eq_nil_or_concat out with rfl | ⟨pre, t, rfl⟩
  · simp [mstep_nil]
  · rw [List.concat_eq_append]
    by_cases h : t.2 = s.2
    · rw [mstep_same _ _ _ h]; simp
    · rw [mstep_other _ _ _ h]; simp
theorem mTo_length (l : List (Int × Int)) : ∀ k, k ≤ l.length → (mTo l k).length ≤ k
  | 0, _ => by simp [mTo]
  | k + 1, h => by
    rw [mTo_succ l k (by omega)]
    have := mstep_length (mTo l k) l[k]
    have := mTo_length l k (by omega)
    omega

def flatS (l : List (Int × Int)) : List Value := l.flatMap fun s => [.int .i64 s.1, .int .u8 s.2]
theorem flatS_append (a b : List (Int × Int)) : flatS (a ++ b) = flatS a ++ flatS b := by simp [flatS]
theorem flatS_one (s : Int × Int) : flatS [s] = [.int .i64 s.1, .int .u8 s.2] := rfl
theorem flatS_length : ∀ l : List (Int × Int), (flatS l).length = l.length * 2
  | [] => rfl
  | s :: l => by
    have := flatS_length l
    show (flatS ([s] ++ l)).length = _
    rw [flatS_append, List.length_append, this]
    simp [flatS_one]; omega
theorem flatS_set (pre : List (Int × Int)) (t : Int × Int) (x : Int) : (flatS (pre ++ [t])).set (pre.length * 2) (.int .i64 x) = flatS (pre ++ [(x, t.2)]) := by
  rw [flatS_append, flatS_append, List.set_append_right _ _ (by rw [flatS_length]; exact Nat.le_refl _), flatS_length]
  simp [flatS_one]
theorem flatS_get0 (pre : List (Int × Int)) (t : Int × Int) : (flatS (pre ++ [t]))[pre.length * 2]? = some (.int .i64 t.1) := by
  rw [flatS_append, List.getElem?_append_right (by rw [flatS_length]; exact Nat.le_refl _), flatS_length]
  simp [flatS_one]
theorem flatS_get1 (pre : List (Int × Int)) (t : Int × Int) : (flatS (pre ++ [t]))[pre.length * 2 + 1]? = some (.int .u8 t.2) := by
  rw [flatS_append, List.getElem?_append_right (by rw [flatS_length]; omega), flatS_length]
  simp [flatS_one]

/-- A signal that the call made: it owns its row, from block B on. -/
def OwnS (w : World) (B : Nat) (v : Value) (l : List (Int × Int)) : Prop := w.ownsRow B 39 2 v l.length (flatS l)

theorem OwnS.last {w : World} {B : Nat} {v : Value} {pre : List (Int × Int)} {t : Int × Int} (h : OwnS w B v (pre ++ [t])) :
    ∃ g cap, v = .slice (some ⟨g, 0, none⟩) (pre.length + 1) cap ∧ B ≤ g ∧ g < w.heap.size ∧ w.cell? ⟨g, pre.length * 2, none⟩ = some (.int .i64 t.1) ∧ w.cell? ⟨g, pre.length * 2 + 1, none⟩ = some (.int .u8 t.2) ∧
      w.frozen? ⟨g, pre.length * 2, none⟩ = false ∧ ∀ x, OwnS (w.setCell ⟨g, pre.length * 2, none⟩ (.int .i64 x)) B v (pre ++ [(x, t.2)]) := by
  have h' := h
  obtain ⟨_, hh⟩ := h
  rcases hh with ⟨_, h0⟩ | ⟨g, cap, cur, hv, hg, hb, hn, hm, hs, ht⟩
  · simp at h0
  · subst hv
    have hlen : (pre ++ [t]).length = pre.length + 1 := by simp
    unfold OwnS at h'
    rw [hlen] at h'
    refine ⟨g, cap, by rw [hlen], hg, (Array.getElem?_eq_some_iff.1 hb).1, ?_, ?_, h'.frozenAt _, fun x => ?_⟩
    · rw [h'.cellAt _ (by omega), flatS_get0]
    · rw [h'.cellAt _ (by omega), flatS_get1]
    · have := h'.stored (pre.length * 2) (.int .i64 x)
      rw [flatS_set] at this
      unfold OwnS
      rw [hlen]
      simpa using this.1

theorem OwnS.shape {w : World} {B : Nat} {v : Value} {l : List (Int × Int)} (h : OwnS w B v l) : ∃ a c, v = .slice a l.length c := by
  rcases h.2 with ⟨rfl, h0⟩ | ⟨g, cap, cur, hv, _⟩
  · exact ⟨none, 0, by rw [h0]⟩
  · exact ⟨_, _, hv⟩
theorem OwnS.below {w w' : World} {B : Nat} {v : Value} {l : List (Int × Int)} (h : OwnS w B v l) (hb : Below w.heap.size w w') : OwnS w' B v l :=
  World.ownsRow.kept h (row := none) ⟨hb.os, hb.tape, hb.output, hb.size, fun j hj _ => hb.block j hj⟩ (by cases hv : v.ownBlock <;> simp)
theorem OwnS.set {w : World} {B g cp : Nat} {pre : List (Int × Int)} {t : Int × Int} (h : OwnS w B (.slice (some ⟨g, 0, none⟩) (pre.length + 1) cp) (pre ++ [t])) (x : Int) :
    OwnS (w.setCell ⟨g, pre.length * 2, none⟩ (.int .i64 x)) B (.slice (some ⟨g, 0, none⟩) (pre.length + 1) cp) (pre ++ [(x, t.2)]) := by
  obtain ⟨g', cap', hv, _, _, _, _, _, hx⟩ := h.last
  injection hv with h1 h2 h3
  injection h1 with h1
  injection h1 with h1
  subst h1
  exact hx x
theorem cells_two_new (w : World) (x y : Value) (t : TypeId) : ∀ j u, [x, y][j]? = some u → (w.alloc (.cells #[x, y] t)).cell? ((⟨w.heap.size, 0, none⟩ : Addr).add j) = some u := by
  intro j u hj
  match j, hj with
  | 0, hj => simp at hj; subst hj; simp [Addr.add]
  | 1, hj => simp at hj; subst hj; simp [Addr.add]

theorem Try.info39 : (Try.prog.info? 39).map (fun i => (i.zero, i.size, i.bytes)) = some (some (.agg #[.int .i64 0, .int .u8 0]), 2, 16) := by kernel_rfl

set_option maxHeartbeats 1000000 in
theorem merged_any (v : Value) (l : List (Int × Int)) (w : World) (hs : Segs w w.heap.size v l) (hlen : l.length ≤ 10000) :
    Calls Try.prog 32 #[v] w fun e w' => (∃ v', e = .returned v' ∧ OwnS w' w.heap.size v' (mergedL l)) ∧ Below w.heap.size w w' := by
  obtain ⟨i0, hi, hz0, hz1, hz2⟩ := info_parts Try.info39
  obtain ⟨a, cap, rfl, hm, h, hr⟩ := hs
  clear hr
  go_enter Try.func32, Try.ntmps32
  go_wp2_with fail
  go_loopw [2, 8] (fun u i wr => ∃ j : Nat, j ≤ l.length ∧ i = .int .i64 j ∧ OwnS wr w.heap.size u (mTo l j) ∧ Below w.heap.size w wr) (fun _ i _ => l.length - (intOf i).toNat)
  case atStart => exact ⟨0, Nat.zero_le _, rfl, World.ownsRow_nil _ _ _ _, Below.refl _ _⟩
  case round =>
    obtain ⟨j, hj, rfl, hown, hbw⟩ := hrel
    by_cases hlt : j < l.length
    · rcases h with h | ⟨b, off, rfl, hbl, hc⟩
      · rw [h] at hlt; exact absurd hlt (by simp)
      · obtain ⟨c1, c2⟩ := (hc.below hbw hbl) j hlt
        obtain ⟨x, y, hxy⟩ : ∃ x y, l[j] = (x, y) := ⟨_, _, rfl⟩
        rw [getD_eq l j hlt, hxy] at c1 c2
        dsimp only at c1 c2
        have hT := mTo_succ l j hlt
        have hTl := mTo_length l j hj
        rw [hxy] at hT
        have HT := Lib.hid hT
        have HC := Lib.hid hc
        have hsw := hbw.size
        have hbr : b < wr.heap.size := by omega
        clear hxy hc hT
        rcases List.eq_nil_or_concat (mTo l j) with he | ⟨pre, t, he⟩
        · have HE := Lib.hid he
          rw [he] at hown
          obtain ⟨au, cu, rfl⟩ := hown.shape
          simp only [List.length_nil] at hown ⊢
          clear he hTl
          go_wp2_with fail
          go_quiet (fail)
          generalize (Value.slice au 0 cu) = vv at hown ⊢
          obtain ⟨Wq, hWq⟩ : ∃ Wq : World, (wr.alloc (.cells #[.int .i64 x, .int .u8 y] 39)).drewN nq = Wq := ⟨_, rfl⟩
          have hBq : Below wr.heap.size wr Wq := by rw [← hWq]; exact below_drewN ((Below.refl _ wr).alloc (Nat.le_refl _) _) _
          have q2 : Wq.cell? ⟨wr.heap.size, 0, none⟩ = some (.int .i64 x) := by rw [← hWq]; simp [World.cell?_alloc_at]
          have q3 : Wq.cell? ⟨wr.heap.size, 1, none⟩ = some (.int .u8 y) := by rw [← hWq]; simp [World.cell?_alloc_at]
          rw [hWq]
          have hown := hown.below hBq
          have HB := Lib.hid hBq
          have hsq := hBq.size
          clear hWq hBq
          go_wp2_with (at_builtin; refine wpList_append_own_at _ rfl _ _ 29 rfl w.heap.size 39 i0 _ 2 16 Try.underlying29 hi hz0 hz1 hz2 rfl (by decide) _ _ _ rfl (World.ownsRow.alloc hown _) _ 1 1 [.int .i64 x, .int .u8 y] rfl rfl (cells_two_new _ _ _ _) ?c2 ?c3 ?c4 ?c5 ?_)
          case c2 => intro u hu; simp at hu; rcases hu with rfl | rfl <;> rfl
          case c3 => simp [maxLen]
          case c4 => simp
          case c5 => simp; omega
          intro v' w1 hown' hgrow hnil hat
          go_wp2_with fail
          refine ⟨⟨j + 1, by omega, by push_cast; rfl, ?_, ?_⟩, ?_⟩
          · rw [HT.out, HE.out, mstep_nil]
            show w1.ownsRow _ _ _ _ _ _
            exact hown'
          · exact ((hbw.trans (HB.out.mono hsw)).alloc (by omega) _).grown hgrow (by simp; omega) (fun k hk => (World.ownsRow.lt hown k hk).1)
          · simp [intOf]; omega
        · rw [List.concat_eq_append] at he
          have HE := Lib.hid he
          rw [he] at hown
          obtain ⟨g, cp, rfl, hg, hgl, k1, k2, k3, k4⟩ := hown.last
          have HK := Lib.hid k4
          have HO := Lib.hid hown
          have hpl : pre.length < 10000 := by rw [he] at hTl; simp at hTl; omega
          clear k4 hown he hTl
          by_cases hs : t.2 = y
          · have f1 : (t.2 == y) = true := by simpa using hs
            have HS := Lib.hid hs
            clear hs
            go_wp2_with fail
            go_quiet (fail)
            go_wp2_with fail
            obtain ⟨Wq, hWq⟩ : ∃ Wq : World, (wr.alloc (.cells #[.int .i64 x, .int .u8 y] 39)).drewN nq = Wq := ⟨_, rfl⟩
            have hgr : g ≠ wr.heap.size := by omega
            have q1 : Wq.cell? ⟨g, pre.length * 2, none⟩ = some (.int .i64 t.1) := by rw [← hWq]; simp [World.cell?_alloc_past, hgl, k1]
            have q2 : Wq.cell? ⟨wr.heap.size, 0, none⟩ = some (.int .i64 x) := by rw [← hWq]; simp [World.cell?_alloc_at]
            have q3 : Wq.frozen? ⟨g, pre.length * 2, none⟩ = false := by rw [← hWq]; simp [World.frozen?_alloc_past, hgl, k3]
            rw [hWq]
            have HW := Lib.hid hWq
            clear hWq
            have hw1 : IntKind.i64.wrap ((pre.length : Int) + 1 - 1) = (pre.length : Int) := by rw [IntWalk.i64_in _ (by omega)]; omega
            have hb0 : (0 : Int) ≤ (pre.length : Int) := by omega
            have hw2 : IntKind.i64.wrap (pre.length : Int) = (pre.length : Int) := IntWalk.i64_in _ (by omega)
            have hb1 : (pre.length : Int) < (pre.length : Int) + 1 := by omega
            go_still_tail 11, (by kernel_rfl)
            change wpList _ _ _ _ _ Wq.drew
            go_wp2_with fail
            have hBq : Below wr.heap.size wr Wq := by rw [← HW.out]; exact below_drewN ((Below.refl _ wr).alloc (Nat.le_refl _) _) _
            have ho : OwnS Wq w.heap.size (.slice (some ⟨g, 0, none⟩) (pre.length + 1) cp) (pre ++ [t]) := HO.out.below hBq
            refine ⟨⟨j + 1, by omega, by push_cast; rfl, ?_, ?_⟩, ?_⟩
            · rw [HT.out, HE.out, mstep_same _ _ _ HS.out]
              exact World.ownsRow.drew (ho.set _)
            · exact ((hbw.trans (hBq.mono hsw)).setCell hg _).drew
            · simp [intOf]; omega
          · have f1 : (t.2 == y) = false := by simpa using hs
            have HS := Lib.hid hs
            clear hs
            go_wp2_with fail
            go_quiet (fail)
            clear HK k1 k2 k3 f1
            have hown := HO.out
            clear HO
            generalize (Value.slice (some ⟨g, 0, none⟩) (pre.length + 1) cp) = vv at hown ⊢
            obtain ⟨Wq, hWq⟩ : ∃ Wq : World, (wr.alloc (.cells #[.int .i64 x, .int .u8 y] 39)).drewN nq = Wq := ⟨_, rfl⟩
            have hBq : Below wr.heap.size wr Wq := by rw [← hWq]; exact below_drewN ((Below.refl _ wr).alloc (Nat.le_refl _) _) _
            have q2 : Wq.cell? ⟨wr.heap.size, 0, none⟩ = some (.int .i64 x) := by rw [← hWq]; simp [World.cell?_alloc_at]
            have q3 : Wq.cell? ⟨wr.heap.size, 1, none⟩ = some (.int .u8 y) := by rw [← hWq]; simp [World.cell?_alloc_at]
            rw [hWq]
            have hown := hown.below hBq
            have HB := Lib.hid hBq
            have hsq := hBq.size
            clear hWq hBq
            have hpl' : (pre ++ [t]).length = pre.length + 1 := by simp
            go_wp2_with (at_builtin; refine wpList_append_own_at _ rfl _ _ 29 rfl w.heap.size 39 i0 _ 2 16 Try.underlying29 hi hz0 hz1 hz2 rfl (by decide) _ _ _ rfl (World.ownsRow.alloc hown _) _ 1 1 [.int .i64 x, .int .u8 y] rfl rfl (cells_two_new _ _ _ _) ?c2 ?c3 ?c4 ?c5 ?_)
            case c2 => intro u hu; simp at hu; rcases hu with rfl | rfl <;> rfl
            case c3 => simp only [hpl', maxLen]; omega
            case c4 => simp only [hpl']; omega
            case c5 => simp; omega
            intro v' w1 hown' hgrow hnil hat
            go_wp2_with fail
            refine ⟨⟨j + 1, by omega, by push_cast; rfl, ?_, ?_⟩, ?_⟩
            · rw [HT.out, HE.out, mstep_other _ _ _ HS.out]
              show w1.ownsRow _ _ _ _ _ _
              have hh : (pre ++ [t] ++ [(x, y)]).length = (pre ++ [t]).length + 1 := by simp
              rw [flatS_append, hh, hpl']
              exact hown'
            · exact ((hbw.trans (HB.out.mono hsw)).alloc (by omega) _).grown hgrow (by simp; omega) (fun k hk => (World.ownsRow.lt hown k hk).1)
            · simp [intOf]; omega
    · have hje : j = l.length := by omega
      subst hje
      clear h hlt
      go_wp2_with fail
      go_ret
      rw [mTo_all] at hown
      exact ⟨⟨_, rfl, hown⟩, hbw⟩
end Go.Proofs.Ytnpaoekblfflmaa
