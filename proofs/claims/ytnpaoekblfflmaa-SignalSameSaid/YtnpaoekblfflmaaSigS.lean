/- signal.Cut. -/
import Derived.Test.YtnpaoekblfflmaaSigR
import Derived.Test.YtnpaoekblfflmaaSigL
import Derived.Maps.OwnIn
namespace Go.Proofs.Ytnpaoekblfflmaa
open Go.RowKit Go.Shelf
attribute [local go_sem] Oper.semAt_some

def cutStep (m : Int) (out : List (Int × Int)) (x : Int × Int × Int) : List (Int × Int) :=
  if x.1 < m ∧ m < wrap64 (x.1 + x.2.1) then out ++ [(wrap64 (m - x.1), x.2.2)] ++ [(wrap64 (x.2.1 - wrap64 (m - x.1)), x.2.2)] else out ++ [(x.2.1, x.2.2)]
def cutTo (m : Int) (l : List (Int × Int)) (k : Nat) : List (Int × Int) := (itemsTo l k).foldl (cutStep m) []
theorem cutTo_succ (m : Int) (l : List (Int × Int)) (k : Nat) : cutTo m l (k + 1) = cutStep m (cutTo m l k) (itemOf l k) := by
  rw [cutTo, itemsTo_succ, List.foldl_append]; rfl
theorem cutTo_length (m : Int) (l : List (Int × Int)) : ∀ k, (cutTo m l k).length ≤ 2 * k
  | 0 => by simp [cutTo, itemsTo]
  | k + 1 => by
    have := cutTo_length m l k
    rw [cutTo_succ, cutStep]
    split <;> simp <;> omega
/-- What Cut answers of a signal that may be. -/
def cutP (l : List (Int × Int)) (m : Int) : List (Int × Int) × Int :=
  if m < 0 ∨ total22 l < m then ([], 2) else if 1024 < (cutTo m l l.length).length then ([], 4) else (cutTo m l l.length, 0)

theorem below2c (w : World) (m : Int) : Below w.heap.size w ((w.alloc (.cells #[.int .i64 m] 3)).alloc (.cells #[.slice none 0 0] 29)) := below2' w _ _

set_option maxHeartbeats 1000000 in
theorem cut_err (p m : Int) (v : Value) (l : List (Int × Int)) (w : World) (hs : Segs w w.heap.size v l) (hck : checkP p l ≠ 0) :
    Calls Try.prog 16 #[.int .i64 p, v, .int .i64 m] w fun e W' => e = .returned (.tuple #[.slice none 0 0, .int .i64 (checkP p l)]) ∧ Below w.heap.size w W' := by
  obtain ⟨W0, hW0⟩ : ∃ W0 : World, (w.alloc (.cells #[.int .i64 m] 3)).alloc (.cells #[.slice none 0 0] 29) = W0 := ⟨_, rfl⟩
  have b0 : Below w.heap.size w W0 := by rw [← hW0]; exact below2c w m
  have hz0 : W0.heap.size = w.heap.size + 2 := by rw [← hW0]; simp
  have hS0 : Hid (Segs W0 W0.heap.size v l) := (hs.below b0).mono b0.size
  have hbe : Hid (Boxed W0 (w.heap.size + 1) 29 (.slice none 0 0)) := by rw [← hW0]; have := Boxed.new (w.alloc (.cells #[.int .i64 m] 3)) 29 (.slice none 0 0); rwa [World.size_alloc] at this
  have HC := long_any p v l W0 hS0.out
  have hne : (checkP p l != 0) = true := by simpa using hck
  obtain ⟨c, hc⟩ : ∃ c, checkP p l = c := ⟨_, rfl⟩
  rw [hc] at HC hne ⊢
  obtain ⟨a, cap, rfl, hm, h, hr⟩ := hs
  clear h hr hck hc
  go_enter Try.func16, Try.ntmps16
  go_wp2_with fail
  refine HC.mono ?_
  rintro e w1 ⟨rfl, hb1⟩
  clear HC
  have hbe1 : Boxed w1 (w.heap.size + 1) 29 (.slice none 0 0) := (hb1.block _ (by omega)).trans hbe.out
  have e1 := hbe1.cell
  have e2 := hbe1.frozen
  clear hW0
  go_wp2_with fail
  exact bodyPost_ret (v := .tuple #[.slice none 0 0, .int .i64 c]) (results_cell_tmp1 rfl rfl rfl (Try.isAgg29 _) (hbe1.set _).cell) rfl ⟨rfl, (b0.trans (hb1.mono (by omega))).setCell (p := ⟨w.heap.size + 1, 0, none⟩) (by simp) _⟩

set_option maxHeartbeats 1000000 in
theorem cut_arg (p m : Int) (v : Value) (l : List (Int × Int)) (w : World) (hs : Segs w w.heap.size v l) (hck : checkP p l = 0) (hm0 : m < 0 ∨ total22 l < m) :
    Calls Try.prog 16 #[.int .i64 p, v, .int .i64 m] w fun e W' => e = .returned (.tuple #[.slice none 0 0, .int .i64 2]) ∧ Below w.heap.size w W' := by
  obtain ⟨W0, hW0⟩ : ∃ W0 : World, (w.alloc (.cells #[.int .i64 m] 3)).alloc (.cells #[.slice none 0 0] 29) = W0 := ⟨_, rfl⟩
  have b0 : Below w.heap.size w W0 := by rw [← hW0]; exact below2c w m
  have hz0 : W0.heap.size = w.heap.size + 2 := by rw [← hW0]; simp
  have hS0 : Hid (Segs W0 W0.heap.size v l) := (hs.below b0).mono b0.size
  have hba : Hid (Boxed W0 w.heap.size 3 (.int .i64 m)) := by rw [← hW0]; exact (Boxed.new w 3 (.int .i64 m)).alloc _
  have hbe : Hid (Boxed W0 (w.heap.size + 1) 29 (.slice none 0 0)) := by rw [← hW0]; have := Boxed.new (w.alloc (.cells #[.int .i64 m] 3)) 29 (.slice none 0 0); rwa [World.size_alloc] at this
  have HC := long_any p v l W0 hS0.out
  rw [hck, long22, if_pos rfl] at HC
  obtain ⟨n, hn⟩ : ∃ n, total22 l = n := ⟨_, rfl⟩
  rw [hn] at HC hm0
  obtain ⟨a, cap, rfl, hm, h, hr⟩ := hs
  clear h hr hck hn
  by_cases hx : m < 0
  · have d1 : decide (m < 0) = true := by simpa using hx
    clear hx hm0
    go_enter Try.func16, Try.ntmps16
    go_wp2_with fail
    refine HC.mono ?_
    rintro e w1 ⟨rfl, hb1⟩
    clear HC
    have hba1 : Boxed w1 w.heap.size 3 (.int .i64 m) := (hb1.block _ (by omega)).trans hba.out
    have hbe1 : Boxed w1 (w.heap.size + 1) 29 (.slice none 0 0) := (hb1.block _ (by omega)).trans hbe.out
    have e0 := hba1.cell
    have e1 := hbe1.cell
    have e2 := hbe1.frozen
    clear hW0
    go_wp2_with fail
    exact bodyPost_ret (v := .tuple #[.slice none 0 0, .int .i64 2]) (results_cell_tmp1 rfl rfl rfl (Try.isAgg29 _) (hbe1.set _).cell) rfl ⟨rfl, (b0.trans (hb1.mono (by omega))).setCell (p := ⟨w.heap.size + 1, 0, none⟩) (by simp) _⟩
  · have d1 : decide (m < 0) = false := by simpa using hx
    have d2 : decide (n < m) = true := by simp; omega
    clear hx hm0
    go_enter Try.func16, Try.ntmps16
    go_wp2_with fail
    refine HC.mono ?_
    rintro e w1 ⟨rfl, hb1⟩
    clear HC
    have hba1 : Boxed w1 w.heap.size 3 (.int .i64 m) := (hb1.block _ (by omega)).trans hba.out
    have hbe1 : Boxed w1 (w.heap.size + 1) 29 (.slice none 0 0) := (hb1.block _ (by omega)).trans hbe.out
    have e0 := hba1.cell
    have e1 := hbe1.cell
    have e2 := hbe1.frozen
    clear hW0
    go_wp2_with fail
    exact bodyPost_ret (v := .tuple #[.slice none 0 0, .int .i64 2]) (results_cell_tmp1 rfl rfl rfl (Try.isAgg29 _) (hbe1.set _).cell) rfl ⟨rfl, (b0.trans (hb1.mono (by omega))).setCell (p := ⟨w.heap.size + 1, 0, none⟩) (by simp) _⟩

theorem segs_intro {w : World} {n₀ : Nat} {a : Option Addr} {cap : Nat} {l : List (Int × Int)} {X : World} (hm : l.length ≤ 9223372036854775807) (h : l = [] ∨ ∃ b off, a = some ⟨b, off, none⟩ ∧ b < n₀ ∧ SegC w b off l)
    (hr : ∀ s ∈ l, InR s) (hb : Below n₀ w X) : Segs X n₀ (.slice a l.length cap) l :=
  ⟨a, cap, rfl, hm, by
    rcases h with h | ⟨b, off, ha, hlt, hc⟩
    · exact .inl h
    · exact .inr ⟨b, off, ha, hlt, hc.below hb hlt⟩, hr⟩

theorem Seg1.frz {W : World} {B : Nat} {x y : Int} (h : Seg1 W B x y) : W.frozen? ⟨B, 0, none⟩ = false := by simp [World.frozen?, show W.heap[B]? = _ from h]

/-- Where a round of Cut stands. -/
structure St (B kb : Nat) (bo : Obj) (wr W3 : World) (D : Nat) (m : Int) (W : World) (v : Value) (out : List (Int × Int)) (x y : Int) : Prop where
  b5 : Boxed W B 3 (.int .i64 m)
  b6 : Boxed W (B + 1) 29 v
  own : W.ownsRow B 39 2 v out.length (flatS out)
  box : W.heap[kb]? = some bo
  bx : Seg1 W (kb + 1) x y
  blk : ∀ g, v.ownBlock = some g → g ≠ kb ∧ g ≠ kb + 1
  sz : kb + 2 ≤ W.heap.size
  hB : B + 1 < kb
  below : Below B wr W
  keeps : KeepsFrom D W3 W

theorem St.append {B kb : Nat} {bo : Obj} {wr W3 : World} {D : Nat} {m : Int} {W : World} {v : Value} {out : List (Int × Int)} {x y : Int} (h : St B kb bo wr W3 D m W v out x y) {tmp : Obj} {w1 : World} {v' : Value} {s : Int × Int}
    (hown' : w1.ownsRow B 39 2 v' (out.length + 1) (flatS out ++ [.int .i64 s.1, .int .u8 s.2])) (hgrow : (W.alloc tmp).grownBy w1 v.ownBlock) (hat : v'.ownBlock = v.ownBlock ∨ v'.ownBlock = some (W.alloc tmp).heap.size) :
    Boxed w1 (B + 1) 29 v ∧ St B kb bo wr W3 D m (w1.setCell ⟨B + 1, 0, none⟩ v') v' (out ++ [s]) x y := by
  have hown2 : w1.ownsRow B 39 2 v' (out ++ [s]).length (flatS (out ++ [s])) := by
    rw [flatS_append, List.length_append]; exact hown'
  have hBW : B ≤ W.heap.size := by have := h.sz; have := h.hB; omega
  obtain ⟨k1, k2, k3, k4, k5⟩ := h.b6.appended (by decide) h.own hBW (Nat.le_succ B) hown2 hgrow
  have hkb : ∀ j, (∀ g, v.ownBlock = some g → g ≠ j) → j ≠ B + 1 → j < W.heap.size → (w1.setCell ⟨B + 1, 0, none⟩ v').heap[j]? = W.heap[j]? := fun j hj hj1 hlt => by
    rw [Below.heap_setCell _ _ _ _ hj1, hgrow.block j (by simp; omega) (fun e => hj j e.symm rfl)]
    exact Below.heap_alloc _ _ _ hlt
  refine ⟨k1, ⟨?_, k2, k3, ?_, ?_, ?_, ?_, h.hB, h.below.trans k5, h.keeps.trans (k4.from _)⟩⟩
  · refine (hkb B (fun g hg e => ?_) (by omega) (by have := h.sz; have := h.hB; omega)).trans h.b5
    subst e
    exact h.b5.not_row (by decide) h.own hg.symm
  · exact (hkb kb (fun g hg => (h.blk g hg).1) (by have := h.hB; omega) (by have := h.sz; omega)).trans h.box
  · exact (hkb (kb + 1) (fun g hg => (h.blk g hg).2) (by have := h.hB; omega) (by have := h.sz; omega)).trans h.bx
  · intro g hg
    rcases hat with e | e
    · exact h.blk g (by rw [← e]; exact hg)
    · rw [e] at hg
      have := h.sz
      simp only [World.size_alloc, Option.some.injEq] at hg
      omega
  · have := k5.size; have := h.sz; omega

theorem St.setX {B kb : Nat} {bo : Obj} {wr W3 : World} {D : Nat} {m : Int} {W : World} {v : Value} {out : List (Int × Int)} {x y : Int} (h : St B kb bo wr W3 D m W v out x y) (x' : Int) :
    St B kb bo wr W3 D m (W.setCell ⟨kb + 1, 0, none⟩ (.int .i64 x')) v out x' y := by
  have ho : ∀ j, j ≠ kb + 1 → (W.setCell ⟨kb + 1, 0, none⟩ (.int .i64 x')).heap[j]? = W.heap[j]? := fun j hj => Below.heap_setCell _ _ _ _ hj
  have hz : (W.setCell ⟨kb + 1, 0, none⟩ (.int .i64 x')).heap.size = W.heap.size := World.size_setCell _ _ _
  have := h.hB
  refine ⟨(ho B (by omega)).trans h.b5, (ho (B + 1) (by omega)).trans h.b6, ?_, (ho kb (by omega)).trans h.box, ?_, h.blk, by rw [hz]; exact h.sz, h.hB, h.below.setCell (p := ⟨kb + 1, 0, none⟩) (by show B ≤ kb + 1; omega) _, h.keeps.trans ((KeepsOthers.setCell _ _ _).from _)⟩
  · exact h.own.kept (grownBy_setCell' W (kb + 1) _) (by
      cases hv : v.ownBlock with
      | none => exact .inl rfl
      | some g => exact .inr fun e => (h.blk g hv).2 (by injection e))
  · obtain ⟨hlt, hk⟩ := Array.getElem?_eq_some_iff.1 h.bx
    show (W.heap.modify (kb + 1) _)[kb + 1]? = _
    rw [Array.getElem?_eq_getElem (by rw [Array.size_modify]; exact hlt), Array.getElem_modify_self, hk]
    rfl

set_option maxRecDepth 100000 in
set_option maxHeartbeats 4000000 in
theorem cut_ok (p m : Int) (v : Value) (l : List (Int × Int)) (w : World) (hs : Segs w w.heap.size v l) (hck : checkP p l = 0) (hm0 : ¬(m < 0 ∨ total22 l < m)) :
    Calls Try.prog 16 #[.int .i64 p, v, .int .i64 m] w fun e W' => (∃ v', e = .returned (.tuple #[v', .int .i64 (cutP l m).2]) ∧ OwnS W' w.heap.size v' (cutP l m).1) ∧ Below w.heap.size w W' := by
  have h34 : Fence.wide.fn 34 := trivial
  have h19 : Fence.wide.fn 19 := trivial
  refine (callsIn_wide (n := 4)).1 ?_
  obtain ⟨i0, hi, hzz0, hzz1, hzz2⟩ := info_parts Try.info39
  obtain ⟨W0, hW0⟩ : ∃ W0 : World, (w.alloc (.cells #[.int .i64 m] 3)).alloc (.cells #[.slice none 0 0] 29) = W0 := ⟨_, rfl⟩
  have b0 : Below w.heap.size w W0 := by rw [← hW0]; exact below2c w m
  have hz0 : W0.heap.size = w.heap.size + 2 := by rw [← hW0]; simp
  have hS0 : Hid (Segs W0 W0.heap.size v l) := (hs.below b0).mono b0.size
  have hba : Hid (Boxed W0 w.heap.size 3 (.int .i64 m)) := by rw [← hW0]; exact (Boxed.new w 3 (.int .i64 m)).alloc _
  have hbe : Hid (Boxed W0 (w.heap.size + 1) 29 (.slice none 0 0)) := by rw [← hW0]; have := Boxed.new (w.alloc (.cells #[.int .i64 m] 3)) 29 (.slice none 0 0); rwa [World.size_alloc] at this
  have HC0 := long_any p v l W0 hS0.out
  rw [hck, long22, if_pos rfl] at HC0
  have hl4 := checkP_short hck
  obtain ⟨n, hn⟩ : ∃ n, total22 l = n := ⟨_, rfl⟩
  rw [hn] at HC0 hm0
  have HC := Lib.hid HC0
  obtain ⟨a, cap, rfl, hm, h, hr⟩ := hs
  have HH := Lib.hid h
  have HR := Lib.hid hr
  have HN := Lib.hid hn
  clear h hr hck hn HC0
  have d1 : decide (m < 0) = false := by simp; omega
  have d2 : decide (n < m) = false := by simp; omega
  have HM0 := Lib.hid hm0
  clear hm0
  refine callsIn_of_wp_marks Try.func16 rfl trivial ?_ rfl
  simp only [Try.ntmps16, List.size_toArray, List.length_cons, List.length_nil, Nat.reduceAdd, Nat.reduceSub, Array.replicate_succ, Array.replicate_zero, List.push_toArray, List.append_toArray, List.nil_append, List.cons_append]
  gi_wp2_with fail
  refine (callsIn_wide.2 HC.out).mono ?_
  rintro e w1 ⟨rfl, hb1⟩
  have hba1 : Boxed w1 w.heap.size 3 (.int .i64 m) := (hb1.block _ (by omega)).trans hba.out
  have hbe1 : Boxed w1 (w.heap.size + 1) 29 (.slice none 0 0) := (hb1.block _ (by omega)).trans hbe.out
  have e0 := hba1.cell
  have HW0 := Lib.hid hW0
  clear hW0
  gi_wp2_with fail
  refine (begins_in Fence.wide 3 trivial rfl _ _ _ _).mono ?_
  rintro e w2 ⟨rfl, rfl⟩
  gi_wp2_with fail
  obtain ⟨X, hX⟩ : ∃ X : World, w1.alloc (.cells #[.slice a l.length cap] 29) = X := ⟨_, rfl⟩
  have hz1 : W0.heap.size ≤ w1.heap.size := hb1.size
  have zX : X.heap.size = w1.heap.size + 1 := by rw [← hX]; simp
  have bX : Below w.heap.size w X := by rw [← hX]; exact (b0.trans (hb1.mono (by omega))).alloc (by omega) _
  have x5 : Boxed X w.heap.size 3 (.int .i64 m) := by rw [← hX]; exact hba1.alloc _
  have x6 : Boxed X (w.heap.size + 1) 29 (.slice none 0 0) := by rw [← hX]; exact hbe1.alloc _
  have bsX : X.cell? ⟨w1.heap.size, 0, none⟩ = some (.slice a l.length cap) := by rw [← hX]; simp [World.cell?_alloc_at]
  have SX : Segs X w.heap.size (.slice a l.length cap) l := segs_intro hm HH.out HR.out bX
  rw [hX]
  have HX := Lib.hid hX
  clear hX e0
  refine rangeBegins trivial rfl (by omega) w1.heap.size w.heap.size _ l rfl rfl bsX (by omega) SX (by omega)
    (fun k W => Boxed W w.heap.size 3 (.int .i64 m) ∧ (∃ v, Boxed W (w.heap.size + 1) 29 v ∧ W.ownsRow w.heap.size 39 2 v (cutTo m l k).length (flatS (cutTo m l k)) ∧ True) ∧ Below w.heap.size w W ∧ X.heap.size ≤ W.heap.size)
    (OwnFrom.and (Own.from (boxed_own _ _ _) _) (OwnFrom.and (Own.from (holdsRow_own _ _ _ _ _ _ _ _) _) (OwnFrom.and (ownFrom_below (Nat.le_refl _) (by omega)) (ownFrom_size _ _))))
    ⟨x5, ⟨_, x6, World.ownsRow_nil _ _ _ _, trivial⟩, bX, Nat.le_refl _⟩ ?round ?done
  case round =>
    rintro lp k wr hlp hk ⟨h5, ⟨v, h6, hown, _⟩, hB, hsz⟩ hlw
    have hT := cutTo_succ m l k
    obtain ⟨x, hx⟩ : ∃ x, itemOf l k = x := ⟨_, rfl⟩
    obtain ⟨ax, yx, zx⟩ := x
    simp only [segBox, hx, encItem]
    rw [hx] at hT
    have HT := Lib.hid hT
    clear hT hx
    gi_wp2
    refine ⟨(KeepsOthers.alloc _ _).from _, ?_⟩
    intro r o' hl
    obtain ⟨W3, hW3⟩ : ∃ W3 : World, ((wr.alloc (.cells #[.int .i64 yx, .int .u8 zx] 39)).alloc (.cells #[.int .i64 yx, .int .u8 zx] 39)).putObj lp (.loop o') = W3 := ⟨_, rfl⟩
    have hz3 : wr.heap.size + 2 ≤ W3.heap.size := by
      have := ((Below.refl 0 wr).alloc (Nat.zero_le _) (.cells #[.int .i64 yx, .int .u8 zx] 39)).alloc (Nat.zero_le _) (.cells #[.int .i64 yx, .int .u8 zx] 39)
      have h2 := (belowK_b (w := X) (n₀ := 0) (Nat.zero_le _) _ lp _ (.loop o') (by omega) hl rfl rfl).size
      rw [hW3] at h2
      simpa using h2
    have hS : St w.heap.size wr.heap.size (.cells #[.int .i64 yx, .int .u8 zx] 39) wr W3 X.heap.size m W3 v (cutTo m l k) yx zx := by
      refine ⟨?_, ?_, ?_, ?_, ?_, ?_, hz3, by omega, ?_, KeepsFrom.refl _ _⟩
      · rw [← hW3]; exact boxed_putObj ((h5.alloc _).alloc _) hl rfl _
      · rw [← hW3]; exact boxed_putObj ((h6.alloc _).alloc _) hl rfl _
      · rw [← hW3]; exact ownsRow_putObj ((hown.alloc _).alloc _) _ hl rfl
      · rw [← hW3]
        refine (World.putObj_heap_other (by omega)).trans ((Below.heap_alloc _ _ _ (by simp)).trans (World.alloc_heap_new wr _))
      · rw [← hW3]
        refine (World.putObj_heap_other (by omega)).trans ?_
        simpa using World.alloc_heap_new (wr.alloc (.cells #[.int .i64 yx, .int .u8 zx] 39)) (.cells #[.int .i64 yx, .int .u8 zx] 39)
      · intro g hg
        have := (World.ownsRow.lt hown g hg).2
        omega
      · rw [← hW3]
        exact (((Below.refl _ wr).alloc (by omega) _).alloc (by simp; omega) _).trans (belowK_b (w := X) (by omega) _ lp _ _ (by omega) hl rfl rfl)
    rw [hW3]
    have hol := cutTo_length m l k
    have HS := Lib.hid hS
    have e5 := hS.b5.cell
    have e6 := hS.b6.cell
    have e7 := hS.b6.frozen
    have g0 := hS.bx.c0
    have g1 := hS.bx.c1
    clear hW3 hl hS h5 h6 hown
    by_cases hcut : ax < m ∧ m < wrap64 (ax + yx)
    · have HE : Hid (cutTo m l (k + 1) = cutTo m l k ++ [(wrap64 (m - ax), zx)] ++ [(wrap64 (yx - wrap64 (m - ax)), zx)]) := by rw [Hid, HT.out, cutStep, if_pos hcut]
      have d3 : decide (ax < m) = true := by simpa using hcut.1
      have d4 : decide (m < wrap64 (ax + yx)) = true := by simpa using hcut.2
      clear hcut
      have tokA : Hid (0 = 0) := rfl
      gi_wp2_with (first | (gi_at_builtin; have _t := tokA; refine wpListIn_append_own_at _ rfl _ _ 29 rfl w.heap.size 39 i0 _ 2 16 Try.underlying29 hi hzz0 hzz1 hzz2 rfl (by decide) _ _ _ rfl (World.ownsRow.alloc HS.out.own _) _ 1 1 [.int .i64 (wrap64 (m - ax)), .int .u8 zx] rfl rfl (cells_two_new _ _ _ _) (by intro u hu; simp at hu; rcases hu with rfl | rfl <;> rfl) (by simp only [maxLen]; omega) (by omega) (by have := HS.out.sz; have := HS.out.hB; simp; omega) ?_; intro v' w4 hown' hgrow hnil hat; obtain ⟨g', cap', rfl⟩ := ownsRow_succ hown'; obtain ⟨hv1, hS4⟩ := HS.out.append (s := (wrap64 (m - ax), zx)) hown' hgrow hat; have q1 := hv1.cell; have q2 := hv1.frozen; obtain ⟨W5, hW5⟩ : ∃ W5 : World, w4.setCell ⟨w.heap.size + 1, 0, none⟩ (.slice (some ⟨g', 0, none⟩) ((cutTo m l k).length + 1) cap') = W5 := ⟨_, rfl⟩; rw [hW5] at hS4; obtain ⟨W6, hW6⟩ : ∃ W6 : World, W5.setCell ⟨wr.heap.size + 1, 0, none⟩ (.int .i64 (wrap64 (yx - wrap64 (m - ax)))) = W6 := ⟨_, rfl⟩; have hS6 := hS4.setX (wrap64 (yx - wrap64 (m - ax))); rw [hW6] at hS6; have r5 := hS4.b5.cell; have r0 := hS4.bx.c0; have r1 := hS4.bx.c1; have r2 := Seg1.frz hS4.bx; have s6 := hS6.b6.cell; have s7 := hS6.b6.frozen; have s0 := hS6.bx.c0; have s1 := hS6.bx.c1; have HS6 := Lib.hid hS6; have tokB : Hid (0 = 0) := rfl; clear tokA hS4 hS6 hv1 hown' hgrow hnil hat) | (gi_at_builtin; have _t := tokB; refine wpListIn_append_own_at _ rfl _ _ 29 rfl w.heap.size 39 i0 _ 2 16 Try.underlying29 hi hzz0 hzz1 hzz2 rfl (by decide) _ _ _ rfl (World.ownsRow.alloc HS6.out.own _) _ 1 1 [.int .i64 (wrap64 (yx - wrap64 (m - ax))), .int .u8 zx] rfl rfl (cells_two_new _ _ _ _) (by intro u hu; simp at hu; rcases hu with rfl | rfl <;> rfl) (by simp only [maxLen, List.length_append, List.length_cons, List.length_nil]; omega) (by simp only [List.length_append, List.length_cons, List.length_nil]; omega) (by have := HS6.out.sz; have := HS6.out.hB; simp; omega) ?_; intro v'' w7 hown' hgrow hnil hat; obtain ⟨g'', cap'', rfl⟩ := ownsRow_succ hown'; obtain ⟨hv1, hS4⟩ := HS6.out.append (s := (wrap64 (yx - wrap64 (m - ax)), zx)) hown' hgrow hat; have q1 := hv1.cell; have q2 := hv1.frozen; have HS4 := Lib.hid hS4; clear tokB hS4 hv1 hown' hgrow hnil hat))
      have hd := HS4.out
      have hlen : (cutTo m l k ++ [(wrap64 (m - ax), zx)]).length = (cutTo m l k).length + 1 := by simp
      rw [hlen] at hd
      refine ⟨by rw [← zX]; exact hd.keeps, ⟨hd.b5, ⟨_, hd.b6, by rw [HE.out]; exact hd.own⟩, hB.trans hd.below, by have := hd.sz; simp at this ⊢; omega⟩, hd.below, hd.box⟩
    · have HE : Hid (cutTo m l (k + 1) = cutTo m l k ++ [(yx, zx)]) := by rw [Hid, HT.out, cutStep, if_neg hcut]
      by_cases c1 : ax < m
      · have d3 : decide (ax < m) = true := by simpa using c1
        have d4 : decide (m < wrap64 (ax + yx)) = false := by simp; omega
        clear hcut c1
        gi_wp2_with (gi_at_builtin; refine wpListIn_append_own_at _ rfl _ _ 29 rfl w.heap.size 39 i0 _ 2 16 Try.underlying29 hi hzz0 hzz1 hzz2 rfl (by decide) _ _ _ rfl (World.ownsRow.alloc HS.out.own _) _ 1 1 [.int .i64 (yx), .int .u8 zx] rfl rfl (cells_two_new _ _ _ _) (by intro u hu; simp at hu; rcases hu with rfl | rfl <;> rfl) (by simp only [maxLen]; omega) (by omega) (by have := HS.out.sz; have := HS.out.hB; simp; omega) ?_; intro v' w4 hown' hgrow hnil hat; obtain ⟨g', cap', rfl⟩ := ownsRow_succ hown'; obtain ⟨hv1, hS4⟩ := HS.out.append (s := (yx, zx)) hown' hgrow hat; have q1 := hv1.cell; have q2 := hv1.frozen; have HS4 := Lib.hid hS4; clear hS4 hv1 hown' hgrow hnil hat)
        have hd := HS4.out
        refine ⟨by rw [← zX]; exact hd.keeps, ⟨hd.b5, ⟨_, hd.b6, by rw [HE.out]; exact hd.own⟩, hB.trans hd.below, by have := hd.sz; simp at this ⊢; omega⟩, hd.below, hd.box⟩
      · have d3 : decide (ax < m) = false := by simpa using c1
        clear hcut c1
        gi_wp2_with (gi_at_builtin; refine wpListIn_append_own_at _ rfl _ _ 29 rfl w.heap.size 39 i0 _ 2 16 Try.underlying29 hi hzz0 hzz1 hzz2 rfl (by decide) _ _ _ rfl (World.ownsRow.alloc HS.out.own _) _ 1 1 [.int .i64 (yx), .int .u8 zx] rfl rfl (cells_two_new _ _ _ _) (by intro u hu; simp at hu; rcases hu with rfl | rfl <;> rfl) (by simp only [maxLen]; omega) (by omega) (by have := HS.out.sz; have := HS.out.hB; simp; omega) ?_; intro v' w4 hown' hgrow hnil hat; obtain ⟨g', cap', rfl⟩ := ownsRow_succ hown'; obtain ⟨hv1, hS4⟩ := HS.out.append (s := (yx, zx)) hown' hgrow hat; have q1 := hv1.cell; have q2 := hv1.frozen; have HS4 := Lib.hid hS4; clear hS4 hv1 hown' hgrow hnil hat)
        have hd := HS4.out
        refine ⟨by rw [← zX]; exact hd.keeps, ⟨hd.b5, ⟨_, hd.b6, by rw [HE.out]; exact hd.own⟩, hB.trans hd.below, by have := hd.sz; simp at this ⊢; omega⟩, hd.below, hd.box⟩
  case done =>
    rintro D W hD ⟨h5, ⟨v, h6, hown, _⟩, hB, hsz⟩ hK
    have hvs : ∃ va vc, v = .slice va (cutTo m l l.length).length vc := OwnS.shape hown
    obtain ⟨va, vc, rfl⟩ := hvs
    have e6 := h6.cell
    have e7 := h6.frozen
    have hne : some (w.heap.size + 1) ≠ (Value.slice va (cutTo m l l.length).length vc).ownBlock := h6.not_row (by decide) hown
    by_cases hlong : 1024 < (cutTo m l l.length).length
    · have d3 : decide (1024 < ((cutTo m l l.length).length : Int)) = true := by simp; omega
      have HE : Hid (cutP l m = ([], 4)) := by rw [Hid, cutP, HN.out, if_neg HM0.out, if_pos hlong]
      clear hlong
      gi_wp2
      have hK2 := (KeepsOthers.setCell W ⟨w.heap.size + 1, 0, none⟩ (.slice none 0 0)).same D _ hK rfl
      refine ⟨by simp, .inl ⟨_, _, rfl, run_takeDeferred hK2, ?_⟩⟩
      refine ⟨_, results_cell_tmp1 rfl rfl rfl (Try.isAgg29 _) (boxed_putObj (h6.set (.slice none 0 0)) hK2 rfl _).cell, ⟨_, by rw [HE.out]; rfl, ?_⟩, ?_⟩
      · rw [HE.out]; exact World.ownsRow_nil _ _ _ _
      · exact (hB.setCell (p := ⟨w.heap.size + 1, 0, none⟩) (by simp) _).trans (belowK_b (w := w) (Nat.le_refl _) _ D _ _ (by omega) hK2 rfl rfl)
    · have d3 : decide (1024 < ((cutTo m l l.length).length : Int)) = false := by simp; omega
      have HE : Hid (cutP l m = (cutTo m l l.length, 0)) := by rw [Hid, cutP, HN.out, if_neg HM0.out, if_neg hlong]
      clear hlong
      gi_wp2
      have hK2 := (KeepsOthers.setCell W ⟨w.heap.size + 1, 0, none⟩ (.slice va (cutTo m l l.length).length vc)).same D _ hK rfl
      refine ⟨by simp, .inl ⟨_, _, rfl, run_takeDeferred hK2, ?_⟩⟩
      refine ⟨_, results_cell_tmp1 rfl rfl rfl (Try.isAgg29 _) (boxed_putObj (h6.set (.slice va (cutTo m l l.length).length vc)) hK2 rfl _).cell, ⟨_, by rw [HE.out]; rfl, ?_⟩, ?_⟩
      · rw [HE.out]
        exact ownsRow_putObj (hown.kept (grownBy_setCell' W (w.heap.size + 1) _) (.inr hne.symm)) _ hK2 rfl
      · exact (hB.setCell (p := ⟨w.heap.size + 1, 0, none⟩) (by simp) _).trans (belowK_b (w := w) (Nat.le_refl _) _ D _ _ (by omega) hK2 rfl rfl)

/-- What Cut answers. -/
def cutA (c : Int) (l : List (Int × Int)) (m : Int) : List (Int × Int) × Int := if c = 0 then cutP l m else ([], c)
theorem cut_any (p m : Int) (v : Value) (l : List (Int × Int)) (w : World) (hs : Segs w w.heap.size v l) :
    Calls Try.prog 16 #[.int .i64 p, v, .int .i64 m] w fun e W' => (∃ v', e = .returned (.tuple #[v', .int .i64 (cutA (checkP p l) l m).2]) ∧ OwnS W' w.heap.size v' (cutA (checkP p l) l m).1) ∧ Below w.heap.size w W' := by
  by_cases hc : checkP p l = 0
  · rw [cutA, if_pos hc]
    by_cases hm0 : m < 0 ∨ total22 l < m
    · refine (cut_arg p m v l w hs hc hm0).mono ?_
      rintro e W' ⟨he, hb⟩
      rw [cutP, if_pos hm0]
      exact ⟨⟨_, he, World.ownsRow_nil _ _ _ _⟩, hb⟩
    · exact cut_ok p m v l w hs hc hm0
  · refine (cut_err p m v l w hs hc).mono ?_
    rintro e W' ⟨he, hb⟩
    rw [cutA, if_neg hc]
    exact ⟨⟨_, he, World.ownsRow_nil _ _ _ _⟩, hb⟩
end Go.Proofs.Ytnpaoekblfflmaa
