/- dbm.Twin, slices.Equal, Same. -/
import Derived.Deep.RegionHeld3
import Derived.Deep.RegionLaw
import Derived.Test.YtockinpjfhhkoaaGreatDoorAtB
import Derived.Deep.Cut
import Derived.LoopTactic
import Derived.Test.YtockinpjfhhkoaaGreatDoorAtD
namespace Go.Proofs.YtockinpjfhhkoaaGreatDoor
open Go.RowKit

set_option maxRecDepth 100000 in
set_option maxHeartbeats 4000000 in
theorem twin122_any {n g c : Nat} {L : List Int} {w : World} (h : RowB w g L) (hn : 0 < L.length) (hn2 : L.length ≤ 100) :
    Calls Tryz.prog 122 #[.agg #[.int .i64 n, .slice (some ⟨g, 0, none⟩) L.length c]] w fun e w' => (∃ g' c', e = .returned (.agg #[.int .i64 n, .slice (some ⟨g', 0, none⟩) L.length c']) ∧ w.heap.size ≤ g' ∧ RowB w' g' L) ∧ Below w.heap.size w w' := by
  obtain ⟨W2, hW2⟩ : ∃ W2, W2 = (w.alloc (.cells #[.int .i64 n, .slice (some ⟨g, 0, none⟩) L.length c] 116)).alloc (.cells #[.int .i64 0, .slice none 0 0] 116) := ⟨_, rfl⟩
  have hb2 : Below w.heap.size w W2 := by rw [hW2]; exact (belowA _ _).alloc (by simp) _
  have hz2 : W2.heap.size = w.heap.size + 2 := by rw [hW2]; simp
  have hx2 : W2.heap[w.heap.size]? = some (.cells #[.int .i64 n, .slice (some ⟨g, 0, none⟩) L.length c] 116 (0, 0)) := by
    rw [hW2]; exact (Below.heap_alloc _ _ _ (by simp)).trans (hp_topA rfl)
  have hr2 : W2.heap[w.heap.size + 1]? = some (.cells #[.int .i64 0, .slice none 0 0] 116 (0, 0)) := by
    rw [hW2]; exact hp_topA (by simp)
  have HC : Hid (∀ W, Below W2.heap.size W2 W → Calls Tryz.prog 191 #[.slice (some ⟨g, 0, none⟩) L.length c] W fun e w' => (∃ g' c', e = .returned (.slice (some ⟨g', 0, none⟩) L.length c') ∧ W2.heap.size ≤ g' ∧ RowB w' g' L) ∧ Below W2.heap.size W2 w') := by
    intro W hW
    refine (clone191_any g c L W hn hn2 ((h.below hb2).below hW)).mono ?_
    rintro e w' ⟨⟨g', c', rfl, h1, h2⟩, h3⟩
    exact ⟨⟨g', c', rfl, Nat.le_trans hW.size h1, h2⟩, hW.trans (h3.mono hW.size)⟩
  have HX : Hid (∀ W, Below W2.heap.size W2 W → W.cell? ⟨w.heap.size, 0, none⟩ = some (.int .i64 n) ∧ W.cell? ⟨w.heap.size, 1, none⟩ = some (.slice (some ⟨g, 0, none⟩) L.length c) ∧ w.heap.size < W.heap.size) := by
    intro W hW
    have h1 : W.heap[w.heap.size]? = _ := (hW.block _ (by omega)).trans hx2
    exact ⟨Lib.cell_of_heap h1 0, Lib.cell_of_heap h1 1, (Array.getElem?_eq_some_iff.1 h1).1⟩
  have HR : Hid (∀ W, Below W2.heap.size W2 W → W.heap[w.heap.size + 1]? = some (.cells #[.int .i64 0, .slice none 0 0] 116 (0, 0))) := fun W hW => (hW.block _ (by omega)).trans hr2
  have HW2 := Lib.hid hW2.symm
  have HB2 := Lib.hid hb2
  have HZ2 := Lib.hid hz2
  have HX2 := Lib.hid hx2
  have hself : Below W2.heap.size W2 W2 := Below.refl _ _
  obtain ⟨x0, x1, x2⟩ := HX.out W2 hself
  clear h hn hn2 hb2 hz2 hx2 hr2 hW2
  go_enter Tryz.func122, Tryz.ntmps122
  go_upto_region 1 with fail
  rw [HW2.out]
  have HS2 : Hid (∀ (W : World) (vv : Value × Value), Below W2.heap.size W2 W → (((W.setCell ⟨w.heap.size + 1, 0, none⟩ vv.1).setCell ⟨w.heap.size + 1, 1, none⟩ vv.2).cell? ⟨w.heap.size, 0, none⟩ = some (.int .i64 n) ∧ ((W.setCell ⟨w.heap.size + 1, 0, none⟩ vv.1).setCell ⟨w.heap.size + 1, 1, none⟩ vv.2).cell? ⟨w.heap.size, 1, none⟩ = some (.slice (some ⟨g, 0, none⟩) L.length c) ∧ w.heap.size < ((W.setCell ⟨w.heap.size + 1, 0, none⟩ vv.1).setCell ⟨w.heap.size + 1, 1, none⟩ vv.2).heap.size)) := by
    intro W vv hW
    have h1 : W.heap[w.heap.size]? = _ := (hW.block _ (by have := HZ2.out; omega)).trans HX2.out
    have h2 := (setCell_other' (W.setCell ⟨w.heap.size + 1, 0, none⟩ vv.1) (w.heap.size + 1) 1 vv.2 w.heap.size (by omega)).trans ((setCell_other' W (w.heap.size + 1) 0 vv.1 w.heap.size (by omega)).trans h1)
    exact ⟨Lib.cell_of_heap h2 0, Lib.cell_of_heap h2 1, (Array.getElem?_eq_some_iff.1 h2).1⟩
  have HQ : Hid (∀ (W : World) (x y : Value), W.heap[w.heap.size + 1]? = some (.cells #[.int .i64 0, .slice none 0 0] 116 (0, 0)) → ((W.setCell ⟨w.heap.size + 1, 0, none⟩ x).setCell ⟨w.heap.size + 1, 1, none⟩ y).heap[w.heap.size + 1]? = some (.cells #[x, y] 116 (0, 0))) := fun W x y h => setCell_at (setCell_at h 0 x) 1 y
  refine wp_region_held_drew (S := fun W => W.cell? ⟨w.heap.size, 0, none⟩ = some (.int .i64 n) ∧ W.cell? ⟨w.heap.size, 1, none⟩ = some (.slice (some ⟨g, 0, none⟩) L.length c) ∧ w.heap.size < W.heap.size) (by kernel_rfl) (HX.out W2.drew hself.drew) (fun hHeld => ?_)
  refine wpAnyH_take (i := 0) (v := ?_) rfl (by kernel_rfl) (by kernel_rfl) (by kernel_rfl) (fun _ _ _ h => h) (Or.inl ⟨by kernel_rfl, ?_⟩) (by assumption) ?_
  rotate_left
  · (intro w hSw; (try dsimp only at hSw); go_simp)
    try with_reducible rfl
  try simp only [Act.put, List.setIfInBounds_toArray, List.set_cons_zero, List.set_cons_succ, List.getElem_toArray, List.getElem_cons_zero]
  refine wpAnyH_take (i := 1) (v := ?_) rfl (by kernel_rfl) (by kernel_rfl) (by kernel_rfl) (fun _ _ _ h => h) (Or.inl ⟨by kernel_rfl, ?_⟩) (by assumption) ?_
  rotate_left
  · (intro w hSw; (try dsimp only at hSw); go_simp)
    try with_reducible rfl
  try simp only [Act.put, List.setIfInBounds_toArray, List.getElem_toArray]
  refine wpAnyH_take (i := 2) (v := ?_) rfl (by kernel_rfl) (by kernel_rfl) (by kernel_rfl) (fun _ _ _ h => h) (Or.inl ⟨by kernel_rfl, ?_⟩) (by assumption) ?_
  rotate_left
  · (intro w hSw; (try dsimp only at hSw); go_simp)
    try with_reducible rfl
  try simp only [Act.put, List.getElem_toArray]
  refine wpAnyH_take (i := 3) (v := ?_) rfl (by kernel_rfl) (by kernel_rfl) (by kernel_rfl) (fun _ _ _ h => h) (Or.inl ⟨by kernel_rfl, ?_⟩) (by assumption) ?_
  rotate_left
  · (intro w hSw; (try dsimp only at hSw); go_simp)
    try with_reducible rfl
  try simp only [Act.put, List.getElem_toArray]
  refine wpAnyH_ready (rs := [4]) (by kernel_rfl) (by simp) ?_
  refine AllReadyH.cons rfl (fun K hK => ?_) AllReadyH.nil
  go_simp
  go_at_call 191
  refine (HC.out W2.drew hself.drew).mono ?_
  rintro e wz ⟨⟨g', c', rfl, hg', hrow⟩, hbz⟩
  have hrb := HR.out wz hbz
  have r0 := Lib.cell_of_heap hrb 0
  have r1 := Lib.cell_of_heap hrb 1
  simp only [List.getElem?_toArray, List.getElem?_cons_zero, List.getElem?_cons_succ] at r0 r1
  have f0 := Lib.frozen_of_heap hrb 0
  have f1 := Lib.frozen_of_heap hrb 1
  have rl := (Array.getElem?_eq_some_iff.1 hrb).1
  have HROW := Lib.hid hrow
  have HBZ := Lib.hid hbz
  have HG := Lib.hid hg'
  have HRB := Lib.hid hrb
  clear hrow hbz hg' hrb
  try dsimp only
  refine hK.out _ _ (HX.out wz HBZ.out) (fun hHeld => ?_)
  clear hK K
  try simp only [Act.put, List.setIfInBounds_toArray, List.set_cons_zero, List.set_cons_succ, List.getElem_toArray, List.getElem_cons_zero]
  refine wpAnyH_take (i := 5) (v := ?_) rfl (by kernel_rfl) (by kernel_rfl) (by kernel_rfl) (fun _ _ _ h => h) (Or.inl ⟨by kernel_rfl, ?_⟩) (by assumption) ?_
  rotate_left
  · (intro w hSw; (try dsimp only at hSw); go_simp)
    try with_reducible rfl
  try simp only [Act.put, List.setIfInBounds_toArray, List.getElem_toArray]
  refine wpAnyH_ready (rs := [6]) (by kernel_rfl) (by simp) ?_
  refine AllReadyH.cons rfl (fun K hK => ?_) AllReadyH.nil
  go_simp
  refine hK.out _ _ (HS2.out wz (_, _) HBZ.out) (fun hHeld => ?_)
  clear hK K
  try simp only [Act.put, List.setIfInBounds_toArray, List.set_cons_zero, List.set_cons_succ]
  refine wpAnyH_done (by kernel_rfl) ?_ _
  go_wp2_with fail
  refine bodyPost_ret (results_cell_row rfl _ _ _ _ _ _ _ rfl (HQ.out wz _ _ HRB.out) Tryz.underlying116 rfl (by kernel_rfl)) rfl ?_
  exact ⟨⟨_, _, rfl, by have := HG.out; have := HZ2.out; omega, (HROW.out.setOther _ _ _ (by have := HG.out; have := HZ2.out; omega)).setOther _ _ _ (by have := HG.out; have := HZ2.out; omega)⟩, ((HB2.out.trans (HBZ.out.mono HB2.out.size)).setCell (p := ⟨w.heap.size + 1, 0, none⟩) (by simp) _).setCell (p := ⟨w.heap.size + 1, 1, none⟩) (by simp) _⟩
end Go.Proofs.YtockinpjfhhkoaaGreatDoor

/- dbm.Close walked. -/
namespace Go.Proofs.YtockinpjfhhkoaaGreatDoor
open Go.RowKit

theorem results_cell_row_tmp {P : Program} {fn : Func} {p u : Tmp} {ty : TypeId} (h : fn.results = #[.cell p ty, .tmp u]) (tmps : Array Value) (w : World) (g : Nat) (t : TypeId) (cs : Array Value) (fr : Nat × Nat) (d : TypeDesc) (v : Value)
    (hp : tmps.getD p undef = .pointer (some ⟨g, 0, none⟩)) (hv : tmps.getD u undef = v) (hg : w.heap[g]? = some (.cells cs t fr))
    (hu : P.underlying ty = some d) (hd : (match d with | .struct _ | .array _ _ => true | _ => false) = true) (hi : (P.info? ty).map (·.size) = some cs.size) :
    (results fn tmps).run P w = .ok (.tuple #[.agg cs, v]) w := by
  rw [results_cell_tmp h, hp, hv]
  simp [asAddr, run_loadVar_row w g t ty cs fr d hg hu hd hi]

/-- What Close answers. -/
def CloseOut (n : Nat) (r : Option (List Int)) (B : Nat) (e : Ending) (w' : World) : Prop := match r with
  | none => e = .returned (.tuple #[.agg #[.int .i64 0, .slice none 0 0], .int .i64 6])
  | some L => ∃ g c, e = .returned (.tuple #[.agg #[.int .i64 n, .slice (some ⟨g, 0, none⟩) L.length c], .int .i64 0]) ∧ B ≤ g ∧ RowB w' g L
theorem goD_len {n : Nat} : ∀ {l : List Nat} {L L' : List Int}, goD n l L = some L' → L'.length = L.length
  | [], L, L', h => by rw [goD] at h; injection h with h; rw [h]
  | k :: r, L, L', h => by
    rw [goD] at h
    split at h
    · rw [goD_len h, through_len]
    · cases h
theorem closeD_len {n : Nat} {L L' : List Int} (h : closeD n L = some L') : L'.length = L.length := by
  unfold closeD at h
  split at h
  · rw [goD_len h]; exact onesTo_len n L n
  · cases h
theorem bt_below {B pb : Nat} {w w1 w' : World} (h : Below B w w1) (hb : Bt pb w1 w') (hg : B ≤ pb) (hB : B ≤ w1.heap.size) : Below B w w' := h.trans (hb.below hg hB)
def set2 (w : World) (b : Nat) (x y : Value) : World := (w.setCell ⟨b, 0, none⟩ x).setCell ⟨b, 1, none⟩ y
theorem set2_at {w : World} {b : Nat} {u v : Value} {t : TypeId} (h : w.heap[b]? = some (.cells #[u, v] t (0, 0))) (x y : Value) : (set2 w b x y).heap[b]? = some (.cells #[x, y] t (0, 0)) := setCell_at (setCell_at h 0 x) 1 y
theorem set2_other (w : World) (b : Nat) (x y : Value) (j : Nat) (hj : j ≠ b) : (set2 w b x y).heap[j]? = w.heap[j]? := (setCell_other' _ _ _ _ j hj).trans (setCell_other' _ _ _ _ j hj)
theorem set2_below {B : Nat} {w w' : World} (h : Below B w w') {b : Nat} (hb : B ≤ b) (x y : Value) : Below B w (set2 w' b x y) := (h.setCell (p := ⟨b, 0, none⟩) hb x).setCell (p := ⟨b, 1, none⟩) hb y

set_option maxRecDepth 100000 in
set_option maxHeartbeats 16000000 in
theorem close62_any {n g c : Nat} {L : List Int} {w : World} (h : RowB w g L) (hl : L.length = n * n) (h1 : 1 ≤ n) (hn : n ≤ 4) (hbd : badD L = false) :
    Calls Tryz.prog 62 #[.agg #[.int .i64 n, .slice (some ⟨g, 0, none⟩) L.length c]] w fun e w' => CloseOut n (closeD n L) w.heap.size e w' ∧ Below w.heap.size w w' := by
  have hnn : n * n ≤ 16 := Nat.mul_le_mul hn hn
  have hpos : 0 < L.length := by rw [hl]; exact Nat.mul_pos h1 h1
  have hl100 : L.length ≤ 100 := by omega
  obtain ⟨W2, hW2⟩ : ∃ W2, W2 = (w.alloc (.cells #[.int .i64 n, .slice (some ⟨g, 0, none⟩) L.length c] 116)).alloc (.cells #[.int .i64 0, .slice none 0 0] 116) := ⟨_, rfl⟩
  have hb2 : Below w.heap.size w W2 := by rw [hW2]; exact (belowA _ _).alloc (by simp) _
  have hz2 : W2.heap.size = w.heap.size + 2 := by rw [hW2]; simp
  have hx2 : W2.heap[w.heap.size]? = some (.cells #[.int .i64 n, .slice (some ⟨g, 0, none⟩) L.length c] 116 (0, 0)) := by
    rw [hW2]; exact (Below.heap_alloc _ _ _ (by simp)).trans (hp_topA rfl)
  have hr2 : W2.heap[w.heap.size + 1]? = some (.cells #[.int .i64 0, .slice none 0 0] 116 (0, 0)) := by
    rw [hW2]; exact hp_topA (by simp)
  have HCK := Lib.hid (check115_any (c := c) (h.below hb2) h1 hn hl)
  have HE : Hid (checkD L = 0) := by rw [Hid, checkD, hbd]; rfl
  have x0 := Lib.cell_of_heap hx2 0
  have x1 := Lib.cell_of_heap hx2 1
  simp only [List.getElem?_toArray, List.getElem?_cons_zero, List.getElem?_cons_succ] at x0 x1
  have xl := (Array.getElem?_eq_some_iff.1 hx2).1
  have H := Lib.hid (h.below hb2)
  have HW2 := Lib.hid hW2.symm
  have HB2 := Lib.hid hb2
  have HZ2 := Lib.hid hz2
  have HX2 := Lib.hid hx2
  have HR2 := Lib.hid hr2
  have HL := Lib.hid hl
  have HP := Lib.hid (And.intro hpos hl100)
  have HNN := Lib.hid hnn
  clear h hb2 hz2 hx2 hr2 hW2 hl hpos hl100 hnn hbd
  go_enter Tryz.func62, Tryz.ntmps62
  go_wp2_with fail
  rw [HW2.out]
  clear HW2
  go_wp2_with fail
  refine HCK.out.mono ?_
  rintro e w3 ⟨rfl, hb3⟩
  rw [HE.out]
  have hx3 := (hb3.block w.heap.size (by have := HZ2.out; omega)).trans HX2.out
  have HR3 := Lib.hid ((hb3.block (w.heap.size + 1) (by have := HZ2.out; omega)).trans HR2.out)
  have y0 := Lib.cell_of_heap hx3 0
  have y1 := Lib.cell_of_heap hx3 1
  simp only [List.getElem?_toArray, List.getElem?_cons_zero, List.getElem?_cons_succ] at y0 y1
  have yl := (Array.getElem?_eq_some_iff.1 hx3).1
  have HTW := Lib.hid (twin122_any (n := n) (c := c) (H.out.below hb3) HP.out.1 HP.out.2)
  have HB3 := Lib.hid (HB2.out.trans (hb3.mono HB2.out.size))
  have HZ3 := Lib.hid hb3.size
  clear hb3 hx3 x0 x1 xl
  go_wp2_with fail
  refine HTW.out.mono ?_
  rintro e w4 ⟨⟨g', c', rfl, hg', hrow⟩, hb4⟩
  have HB4 := Lib.hid (HB3.out.trans (hb4.mono HB3.out.size))
  have HR4 := Lib.hid ((hb4.block (w.heap.size + 1) (by have := HZ2.out; have := HZ3.out; omega)).trans HR3.out)
  have HG : Hid (w.heap.size + 2 ≤ g' ∧ g' < w4.heap.size) := ⟨by have := HZ2.out; have := HZ3.out; omega, hrow.lt⟩
  obtain ⟨W5, hW5⟩ : ∃ W5, W5 = w4.alloc (.cells #[.int .i64 n, .slice (some ⟨g', 0, none⟩) L.length c'] 175) := ⟨_, rfl⟩
  have HM5 : Hid (Mat W5 w4.heap.size g' n c' L) := by
    rw [Hid, hW5]
    exact ⟨hp_topA rfl, hrow.alloc _, by have := HG.out; omega⟩
  have HB5 : Hid (Below w.heap.size w W5) := by rw [Hid, hW5]; exact HB4.out.alloc HB4.out.size _
  have HR5 : Hid (W5.heap[w.heap.size + 1]? = some (.cells #[.int .i64 0, .slice none 0 0] 116 (0, 0))) := by
    rw [Hid, hW5]; exact (Below.heap_alloc _ _ _ (by have := HG.out; omega)).trans HR4.out
  have HZ5 : Hid (w.heap.size + 2 ≤ w4.heap.size) := by rw [Hid]; have := HG.out; omega
  have HW5 := Lib.hid hW5.symm
  have hm5 := Lib.cell_of_heap HM5.out.1 0
  simp only [List.getElem?_toArray, List.getElem?_cons_zero] at hm5
  have hml5 := (Array.getElem?_eq_some_iff.1 HM5.out.1).1
  clear hg' hrow hb4 hW5 y0 y1 yl HTW HCK
  go_wp2_with fail
  rw [HW5.out]
  clear HW5
  go_wp2_with fail
  have HIN : Hid (∀ q W, Mat W w4.heap.size g' n c' (onesTo n L q) → Bt g' W5 W → W.cell? ⟨w4.heap.size, 0, none⟩ = some (.int .i64 n) ∧ w4.heap.size < W.heap.size ∧ W.heap[w.heap.size + 1]? = some (.cells #[.int .i64 0, .slice none 0 0] 116 (0, 0)) ∧ Below w.heap.size w W) := by
    intro q W hM hB
    have hm := Lib.cell_of_heap hM.1 0
    simp only [List.getElem?_toArray, List.getElem?_cons_zero] at hm
    exact ⟨hm, (Array.getElem?_eq_some_iff.1 hM.1).1, hB.at HR5.out (by have := HG.out; omega), bt_below HB5.out hB (by have := HG.out; omega) HB5.out.size⟩
  go_loopw [23] (fun i wr => ∃ q : Nat, q ≤ n ∧ i = .int .i64 q ∧ Hid (∀ i, i < q → 1 ≤ L.getD (i * n + i) 0) ∧ Hid (Mat wr w4.heap.size g' n c' (onesTo n L q) ∧ Bt g' W5 wr)) (fun i _ => n - (intOf i).toNat)
  case atStart => exact ⟨0, Nat.zero_le _, rfl, fun i h => absurd h (Nat.not_lt_zero i), HM5.out, Bt.refl _ _⟩
  case round =>
    obtain ⟨q, hq, rfl, HPRE, HST⟩ := hrel
    clear hm5 hml5
    by_cases hlt : q < n
    · have hqi : (q : Int) < (n : Int) := by omega
      obtain ⟨p, hp⟩ : ∃ p, q * n + q = p := ⟨_, rfl⟩
      have hlen : (onesTo n L q).length = n * n := (onesTo_len n L q).trans HL.out
      have HAT := Lib.hid (at120_h HST.out.1 hlen hn hlt hlt hp)
      have hpl : p < (onesTo n L q).length := by rw [hlen, ← hp]; exact place_lt hlt hlt
      obtain ⟨v, hv⟩ : ∃ v, (onesTo n L q).getD p 0 = v := ⟨_, rfl⟩
      have hv0 : L.getD (q * n + q) 0 = v := by rw [← hv, ← hp, onesTo_get n L q q (Nat.le_refl _)]
      have HV0 := Lib.hid hv0
      have HCV : Hid (∀ W' : World, W'.heap = wr.heap → W'.cell? ⟨g', p, none⟩ = some (.int .i64 v) ∧ g' < W'.heap.size ∧ W'.frozen? ⟨g', p, none⟩ = false) := fun W' hW => by
        have hr : RowB W' g' (onesTo n L q) := HST.out.1.2.1.agree (by rw [hW])
        exact ⟨by rw [← hv]; exact hr.cellD p hpl, hr.lt, hr.frozen p⟩
      have HPL := Lib.hid hpl
      have HP2 := Lib.hid hp
      have HLEN := Lib.hid hlen
      clear hv hv0 hpl hp hlen
      by_cases hv1 : v < 1
      · have hv2 : decide (v < 1) = true := by simpa using hv1
        have HD : Hid (closeD n L = none) := closeD_no (diagD_no hlt (by rw [HV0.out]; exact hv1))
        clear hv1
        go_wp2_with fail
        refine HAT.out.mono ?_
        rintro e w6 ⟨rfl, HH6⟩
        obtain ⟨hcq, hcl, hcf⟩ := HCV.out w6 HH6.out.1
        obtain ⟨z1, z2, z3, z4⟩ := HIN.out q wr HST.out.1 HST.out.2
        have z3' : w6.heap[w.heap.size + 1]? = some (.cells #[.int .i64 0, .slice none 0 0] 116 (0, 0)) := by rw [HH6.out.1]; exact z3
        have r0 := Lib.cell_of_heap z3' 0
        have r1 := Lib.cell_of_heap z3' 1
        simp only [List.getElem?_toArray, List.getElem?_cons_zero, List.getElem?_cons_succ] at r0 r1
        have f0 := Lib.frozen_of_heap z3' 0
        have f1 := Lib.frozen_of_heap z3' 1
        have rl := (Array.getElem?_eq_some_iff.1 z3').1
        have HZ := Lib.hid z3'
        have HBW := Lib.hid (z4.trans (HH6.out.2.mono z4.size))
        clear z1 z2 z3 z4 z3'
        go_wp2_with fail
        refine bodyPost_ret (results_cell_row_tmp rfl _ _ _ _ _ _ _ _ rfl rfl (set2_at HZ.out _ _) Tryz.underlying116 rfl (by kernel_rfl)) rfl ?_
        exact ⟨by rw [HD.out]; rfl, set2_below HBW.out (by omega) _ _⟩
      · have hv2 : decide (v < 1) = false := by simpa using hv1
        have HV1 := Lib.hid hv1
        clear hv1
        go_wp2_with fail
        refine HAT.out.mono ?_
        rintro e w6 ⟨rfl, HH6⟩
        obtain ⟨hcq, hcl, hcf⟩ := HCV.out w6 HH6.out.1
        have HM6 : Hid (Mat w6 w4.heap.size g' n c' (onesTo n L q)) := ⟨by rw [HH6.out.1]; exact HST.out.1.1, HST.out.1.2.1.agree (by rw [HH6.out.1]), HST.out.1.2.2⟩
        have HAT2 := Lib.hid (at120_h HM6.out HLEN.out hn hlt hlt HP2.out)
        have HB6 : Hid (Bt g' W5 w6) := HST.out.2.trans (.of_below HH6.out.2)
        go_wp2_with fail
        refine HAT2.out.mono ?_
        rintro e w7 ⟨rfl, HH7⟩
        obtain ⟨d1, d2, d3⟩ := HCV.out w7 (HH7.out.1.trans HH6.out.1)
        have HM7 : Hid (Mat w7 w4.heap.size g' n c' (onesTo n L q)) := ⟨by rw [HH7.out.1]; exact HM6.out.1, HM6.out.2.1.agree (by rw [HH7.out.1]), HM6.out.2.2⟩
        clear hcq hcl hcf
        go_wp2_with fail
        go_roundw
        case rel =>
          refine ⟨q + 1, by omega, by go_num, fun i hi => ?_, ?_, ?_⟩
          · rcases Nat.lt_or_ge i q with h | h
            · exact HPRE.out i h
            · obtain rfl : i = q := by omega
              have := HV1.out
              rw [HV0.out]; omega
          · rw [onesTo_succ, HP2.out]
            exact ⟨by rw [List.length_set]; exact (setCell_other' _ _ _ _ _ HM7.out.2.2).trans HM7.out.1, HM7.out.2.1.set p HPL.out 1, HM7.out.2.2⟩
          · exact (HB6.out.trans (.of_below HH7.out.2)).set _ _
        case measure => simp [intOf]; omega
    · obtain rfl : q = n := by omega
      have HD : Hid (closeD q L = goD q ((List.range q).drop 0) (onesTo q L q)) := closeD_yes (diagD_yes HPRE.out)
      obtain ⟨z1, z2, z3, z4⟩ := HIN.out q wr HST.out.1 HST.out.2
      clear z3 z4
      go_wp2_with fail
      have HIN2 : Hid (∀ M W, Mat W w4.heap.size g' q c' M → Bt g' W5 W → W.cell? ⟨w4.heap.size, 0, none⟩ = some (.int .i64 q) ∧ W.cell? ⟨w4.heap.size, 1, none⟩ = some (.slice (some ⟨g', 0, none⟩) M.length c') ∧ w4.heap.size < W.heap.size ∧ W.heap[w.heap.size + 1]? = some (.cells #[.int .i64 0, .slice none 0 0] 116 (0, 0)) ∧ Below w.heap.size w W) := by
        intro M W hM hB
        have hm := Lib.cell_of_heap hM.1 0
        have hm1 := Lib.cell_of_heap hM.1 1
        simp only [List.getElem?_toArray, List.getElem?_cons_zero, List.getElem?_cons_succ] at hm hm1
        exact ⟨hm, hm1, (Array.getElem?_eq_some_iff.1 hM.1).1, hB.at HR5.out (by have := HG.out; omega), bt_below HB5.out hB (by have := HG.out; omega) HB5.out.size⟩
      go_loopw [45] (fun i wx => ∃ k : Nat, k ≤ q ∧ i = .int .i64 k ∧ ∃ M, Hid (M.length = q * q ∧ closeD q L = goD q ((List.range q).drop k) M ∧ Mat wx w4.heap.size g' q c' M ∧ Bt g' W5 wx)) (fun i _ => q - (intOf i).toNat)
      case atStart => exact ⟨0, Nat.zero_le _, rfl, _, (onesTo_len _ _ _).trans HL.out, HD.out, HST.out.1, HST.out.2⟩
      case round =>
        obtain ⟨k, hk, rfl, M, HR⟩ := hrel
        clear z1 z2
        by_cases hlt2 : k < q
        · have hki : (k : Int) < (q : Int) := by omega
          have HTH := Lib.hid (through123_any HR.out.2.2.1 HR.out.1 h1 hn hlt2)
          cases hdg : diagD q (throughD q k M) with
          | true =>
            rw [hdg] at HTH
            have HDG := Lib.hid hdg
            clear hdg
            go_wp2_with fail
            refine HTH.out.mono ?_
            rintro e w6 ⟨rfl, hrow, hbt⟩
            have HROW := Lib.hid hrow
            have HBT := Lib.hid hbt
            clear hrow hbt
            go_wp2_with fail
            go_roundw
            case rel => exact ⟨k + 1, by omega, by go_num, throughD q k M, (through_len _ _ _).trans HR.out.1, by rw [HR.out.2.1, goD_step hlt2, HDG.out, if_pos rfl], HR.out.2.2.1.go HBT.out HROW.out (through_len _ _ _), HR.out.2.2.2.trans HBT.out⟩
            case measure => simp [intOf]; omega
          | false =>
            rw [hdg] at HTH
            have HN : Hid (closeD q L = none) := by rw [Hid, HR.out.2.1, goD_step hlt2, hdg]; rfl
            clear hdg
            go_wp2_with fail
            refine HTH.out.mono ?_
            rintro e w6 ⟨rfl, hrow, hbt⟩
            obtain ⟨_, _, _, z3, z4⟩ := HIN2.out _ w6 (HR.out.2.2.1.go hbt hrow (through_len _ _ _)) (HR.out.2.2.2.trans hbt)
            have r0 := Lib.cell_of_heap z3 0
            have r1 := Lib.cell_of_heap z3 1
            simp only [List.getElem?_toArray, List.getElem?_cons_zero, List.getElem?_cons_succ] at r0 r1
            have f0 := Lib.frozen_of_heap z3 0
            have f1 := Lib.frozen_of_heap z3 1
            have rl := (Array.getElem?_eq_some_iff.1 z3).1
            have HZ := Lib.hid z3
            have HBW := Lib.hid z4
            clear z3 z4 hrow hbt
            go_wp2_with fail
            refine bodyPost_ret (results_cell_row_tmp rfl _ _ _ _ _ _ _ _ rfl rfl (set2_at HZ.out _ _) Tryz.underlying116 rfl (by kernel_rfl)) rfl ?_
            exact ⟨by rw [HN.out]; rfl, set2_below HBW.out (by omega) _ _⟩
        · obtain rfl : k = q := by omega
          have HN : Hid (closeD k L = some M) := by rw [Hid, HR.out.2.1, goD_end]
          obtain ⟨y0, y1, yl, z3, z4⟩ := HIN2.out _ wr HR.out.2.2.1 HR.out.2.2.2
          have r0 := Lib.cell_of_heap z3 0
          have r1 := Lib.cell_of_heap z3 1
          simp only [List.getElem?_toArray, List.getElem?_cons_zero, List.getElem?_cons_succ] at r0 r1
          have f0 := Lib.frozen_of_heap z3 0
          have f1 := Lib.frozen_of_heap z3 1
          have rl := (Array.getElem?_eq_some_iff.1 z3).1
          have HZ := Lib.hid z3
          have HBW := Lib.hid z4
          clear z3 z4
          go_wp2_with fail
          refine bodyPost_ret (results_cell_row_tmp rfl _ _ _ _ _ _ _ _ rfl rfl (set2_at HZ.out _ _) Tryz.underlying116 rfl (by kernel_rfl)) rfl ?_
          have HRW := Lib.hid (RowB.agree (w' := set2 wr (w.heap.size + 1) (.int .i64 k) (.slice (some ⟨g', 0, none⟩) M.length c')) HR.out.2.2.1.2.1 (set2_other _ _ _ _ _ (by have := HG.out; omega)))
          exact ⟨by rw [HN.out]; exact ⟨_, _, rfl, by have := HG.out; omega, HRW.out⟩, set2_below HBW.out (by omega) _ _⟩
end Go.Proofs.YtockinpjfhhkoaaGreatDoor
