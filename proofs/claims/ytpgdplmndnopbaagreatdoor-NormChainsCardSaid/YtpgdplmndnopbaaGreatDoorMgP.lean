/- The builder that lies in a writer, walked: copyCheck, WriteString, String, with the frame that reaches above it. -/
import Derived.Shelf.Strings.BuilderK
import Derived.Test.YtpgdplmndnopbaaGreatDoorMgA
import Derived.Test.YtpgdplmndnopbaaGreatDoorMgB
import Derived.Defers
namespace Go.Proofs.YtpgdplmndnopbaaGreatDoor
open Go.Shelf Go.RowKit
abbrev Wr (B b : Nat) (bs : List Value) (w : World) : Prop := Lib.IsBuilderF 69 5 B b bs w
def Wrote (B b : Nat) (bs : List Value) (w w' : World) : Prop := Wr B b bs w' ∧ Below B w w' ∧ Lib.OthersKept 5 (some b) w w'
theorem Wrote.trans {B b : Nat} {bs bs' : List Value} {w w' w'' : World} (h : Wrote B b bs w w') (k : Wrote B b bs' w' w'') : Wrote B b bs' w w'' :=
 ⟨k.1, h.2.1.trans k.2.1, h.2.2.trans k.2.2⟩
theorem Wr.lt {B b : Nat} {bs : List Value} {w : World} (h : Wr B b bs w) : B ≤ b ∧ b < w.heap.size := by
 rcases h with h | h
 ·exact ⟨h.1, h.lt⟩
 ·exact ⟨h.1, h.lt⟩
theorem Wr.wrote {B b : Nat} {bs : List Value} {w : World} (h : Wr B b bs w) : Wrote B b bs w w := ⟨h, Below.refl _ _, Lib.OthersKept.refl _ _ _⟩
theorem Wrote.alloc {B b : Nat} {bs : List Value} {w w' : World} (h : Wrote B b bs w w') (o : Obj) : Wrote B b bs w (w'.alloc o) := by
 have hl := Wr.lt h.1
 exact ⟨Lib.IsBuilderF.alloc h.1 o, h.2.1.alloc (by omega) o, h.2.2.alloc o⟩
theorem Wrote.drew {B b : Nat} {bs : List Value} {w w' : World} (h : Wrote B b bs w w') : Wrote B b bs w w'.drew :=
 ⟨h.1.elim (fun x => .inl x.drew) (fun x => .inr x.drew), Below.drew h.2.1, h.2.2.drew⟩
theorem Wrote.kept {B b : Nat} {bs : List Value} {w w' : World} (h : Wrote B b bs w w') {k : Nat} {cs : Array Value} {T : TypeId} {fr : Nat × Nat} (hk : w.heap[k]? = some (.cells cs T fr)) (hkb : k ≠ b) (hT : T ≠ 5) :
 w'.heap[k]? = some (.cells cs T fr) :=
 h.2.2 k _ hk (by simpa using hkb) (by intro c fz e; injection e with _ e2 _; exact hT e2)
set_option maxHeartbeats 1000000 in
set_option maxRecDepth 100000 in
theorem check162_used (b : Nat) (w : World) (h0 : w.cell? ⟨b, 0, none⟩ = some (.pointer (some ⟨b, 0, none⟩))) :
 Calls Tryz.prog 162 #[.pointer (some ⟨b, 0, none⟩)] w fun e w' => e = .returned (.tuple #[]) ∧ w' = w := by
 obtain ⟨j, hj, _⟩ := Option.map_eq_some_iff.1 (show (Tryz.prog.info? 67).map (·.size) = some 2 by kernel_rfl)
 go_enter Tryz.func162, Tryz.ntmps162
 go_wp2
 rw [Lib.run_neq_ptr_same w _ Tryz.underlying64 hj]
 go_wp2
 go_end0
 exact ⟨rfl, rfl⟩
set_option maxHeartbeats 1000000 in
set_option maxRecDepth 100000 in
theorem check162_fresh (b : Nat) (w : World) (h0 : w.cell? ⟨b, 0, none⟩ = some (.pointer none)) (hsh : w.shape? b = some (69, 2)) (hfz : w.frozen? ⟨b, 0, none⟩ = false) :
 Calls Tryz.prog 162 #[.pointer (some ⟨b, 0, none⟩)] w fun e w' => e = .returned (.tuple #[]) ∧ w' = w.setCell ⟨b, 0, none⟩ (.pointer (some ⟨b, 0, none⟩)) := by
 obtain ⟨j, hj, hjs⟩ := Option.map_eq_some_iff.1 (show (Tryz.prog.info? 67).map (·.size) = some 2 by kernel_rfl)
 go_enter Tryz.func162, Tryz.ntmps162
 go_wp2
 rw [Lib.run_to_unsafe w ⟨b, 0, none⟩ Tryz.underlying64 Tryz.underlying178 hj (by rw [hjs]; decide) hsh (Nat.zero_lt_succ 1)]
 simp only [Result.andThen]
 rw [Oper.upon_value]
 go_wp2
 rw [run_callFunc_extern Tryz.func177 (by kernel_rfl) (by kernel_rfl) (by kernel_rfl) (e := Extern.AbiNoEscape.same) (by kernel_rfl)]
 rw [Lib.run_noEscape]
 simp only [Result.andThen]
 rw [Oper.upon_value]
 go_wp2
 rw [Lib.run_from_unsafe w ⟨b, 0, none⟩ Tryz.underlying178 Tryz.underlying64 hj hsh (by kernel_rfl)]
 simp only [Result.andThen]
 rw [Oper.upon_value]
 go_wp2
 go_end0
 exact ⟨rfl, rfl⟩
theorem check162_any (B b : Nat) (bs : List Value) (w : World) (h : Wr B b bs w) :
 Calls Tryz.prog 162 #[.pointer (some ⟨b, 0, none⟩)] w fun e w' => e = .returned (.tuple #[]) ∧ (Lib.BuilderAtF 69 5 B b (.pointer (some ⟨b, 0, none⟩)) bs w' ∧ Below B w w' ∧ Lib.OthersKept 5 (some b) w w') := by
 rcases h with h | h
 ·refine (check162_fresh b w h.cell0 h.shape h.frozen0).mono ?_
  rintro e w' ⟨rfl, rfl⟩
  exact ⟨rfl, h.used _, (Below.refl B w).setCell (p := ⟨b, 0, none⟩) h.1 _, (Lib.OthersKept.refl _ _ w).setCell ⟨b, 0, none⟩ rfl _⟩
 ·refine (check162_used b w h.cell0).mono ?_
  rintro e w' ⟨rfl, rfl⟩
  exact ⟨rfl, h, Below.refl B _, Lib.OthersKept.refl _ _ _⟩
theorem infoByte : (Tryz.prog.info? 5).map (fun i => (i.zero, i.size, i.bytes)) = some (some (.int .u8 0), 1, 1) := by kernel_rfl
set_option maxHeartbeats 2000000 in
set_option maxRecDepth 100000 in
theorem write125_any (B b : Nat) (bs : List Value) (s : ByteArray) (w : World) (h : Wr B b bs w) (hlen : bs.length + s.size ≤ 140737488355328) (hBw : B ≤ w.heap.size) :
 Calls Tryz.prog 125 #[.pointer (some ⟨b, 0, none⟩), .string s] w fun e w' => e = .returned (.tuple #[.int .i64 s.size, .nilIface]) ∧ Wrote B b (bs ++ Lib.strCells s) w w' := by
 obtain ⟨i0, hi, hz0, hz1, hz2⟩ := info_parts infoByte
 go_enter Tryz.func125, Tryz.ntmps125
 go_wp2_with (go_at_call 162; refine (check162_any B b bs _ h).mono ?_)
 rintro e w1 ⟨rfl, h1, hb1, hk1⟩
 obtain ⟨hB, v, hbk, hown, hne⟩ := h1
 have c0 : w1.cell? ⟨b, 0, none⟩ = some (.pointer (some ⟨b, 0, none⟩)) := by rw [Lib.cell_of_heap hbk]; rfl
 have c1 : w1.cell? ⟨b, 1, none⟩ = some v := by rw [Lib.cell_of_heap hbk]; rfl
 go_wp2_with (at_builtin; refine Lib.wpList_append_own_stringF _ rfl _ _ 65 9 rfl B 5 i0 Tryz.underlying65 Tryz.underlying9 hi hz0 hz1 hz2 _ _ _ rfl hown s rfl ?c3 ?c4 ?c5 ?_)
 case c3 => unfold maxLen; omega
 case c4 => omega
 case c5 => have := hb1.size; omega
 intro v' w2 hown' hgrow _
 have hlt : b < w1.heap.size := by
  rcases Nat.lt_or_ge b w1.heap.size with h' | h'
  ·exact h'
  ·simp [Array.getElem?_eq_none h'] at hbk
 have hb2 : w2.heap[b]? = some (.cells #[.pointer (some ⟨b, 0, none⟩), v] 69 (0, 0)) := by
  rw [hgrow.block b hlt (fun e => hne e.symm)]
  exact hbk
 have d0 : w2.cell? ⟨b, 0, none⟩ = some (.pointer (some ⟨b, 0, none⟩)) := by rw [Lib.cell_of_heap hb2]; rfl
 have d1 : w2.cell? ⟨b, 1, none⟩ = some v := by rw [Lib.cell_of_heap hb2]; rfl
 have f1 : w2.frozen? ⟨b, 1, none⟩ = false := Lib.frozen_of_heap hb2 1
 obtain ⟨ao, n', cap, rfl⟩ : ∃ ao n' cap, v' = .slice ao n' cap := by
  rcases hown'.2 with ⟨hv, _⟩ | ⟨g, cap, cur, fz, hv, _⟩
  ·exact ⟨_, _, _, hv⟩
  ·exact ⟨_, _, _, hv⟩
 go_wp2
 go_ret2
 refine ⟨rfl, .inr ?_, ?_, (hk1.grown hgrow (Lib.ownsRowF_kind hown)).setCell ⟨b, 1, none⟩ rfl _⟩
 ·exact Lib.BuilderAtF.put (T := 69) (e := 5) hB hb2 (bs' := bs ++ Lib.strCells s) (by simpa [Lib.strCells_length] using hown') (by decide)
 ·exact (hb1.grown hgrow (by have := hb1.size; omega) (fun k hk => (hown.lt k hk).1)).setCell (p := ⟨b, 1, none⟩) hB _
set_option maxHeartbeats 1000000 in
set_option maxRecDepth 100000 in
theorem string38_any (B b : Nat) (l : List UInt8) (w : World) (h : Wr B b (Lib.byteCells l) w) (h0 : l ≠ []) :
 Calls Tryz.prog 38 #[.pointer (some ⟨b, 0, none⟩)] w fun e w' => e = .returned (.string ⟨l.toArray⟩) ∧ Wrote B b (Lib.byteCells l) w w' := by
 obtain ⟨p, hp, hAt⟩ : ∃ p, (p = .pointer none ∨ p = .pointer (some ⟨b, 0, none⟩)) ∧ Lib.BuilderAtF 69 5 B b p (Lib.byteCells l) w := by
  rcases h with h | h
  ·exact ⟨_, .inl rfl, h⟩
  ·exact ⟨_, .inr rfl, h⟩
 obtain ⟨hB, v, hbk, hown, hne⟩ := hAt
 have hl0 : l.length ≠ 0 := by simpa using h0
 rw [Lib.byteCells_length] at hown
 obtain ⟨g, cap, cur, fz, rfl, hbg, hg, hfz, hnc, hcm, hcs, htake⟩ : ∃ g cap cur fz, v = .slice (some ⟨g, 0, none⟩) l.length cap ∧ B ≤ g ∧ w.heap[g]? = some (.cells cur 5 fz) ∧ fz.2 ≤ l.length * 1 ∧ l.length ≤ cap ∧ cap ≤ maxLen ∧ cur.size = cap * 1 ∧ cur.toList.take (l.length * 1) = Lib.byteCells l := by
  rcases hown.2 with ⟨_, hz⟩ | ⟨g, cap, cur, fz, hv, r⟩
  ·exact absurd hz hl0
  ·exact ⟨g, cap, cur, fz, hv, r⟩
 have c1 : w.drew.cell? ⟨b, 1, none⟩ = some (.slice (some ⟨g, 0, none⟩) l.length cap) := by
  have : w.drew.heap[b]? = some (.cells #[p, .slice (some ⟨g, 0, none⟩) l.length cap] 69 (0, 0)) := hbk
  rw [Lib.cell_of_heap this]; rfl
 have hSD : (Builtin.unsafeSliceData_ #[65] 114 #[.slice (some ⟨g, 0, none⟩) l.length cap]).run Tryz.prog w.drew = .ok (.pointer (some ⟨g, 0, none⟩)) w.drew :=
  Lib.run_unsafeSliceData_row _ _ _ _ _ _ (by omega)
 have hUS : (Builtin.unsafeString_ #[114, 3] 9 #[.pointer (some ⟨g, 0, none⟩), .int .i64 l.length]).run Tryz.prog w.drew = .ok (.string ⟨l.toArray⟩) (w.drew.freeze ⟨g, 0, none⟩ l.length) := by
  refine Lib.run_unsafeString_row w.drew 114 3 9 5 Tryz.underlying114 (by kernel_rfl) g cur.size (by have hg' : w.drew.heap[g]? = some (.cells cur 5 fz) := hg; simp [World.shape?, hg']) l h0 (by omega) (by unfold maxLen at hcm; omega) ?_
  intro j x hx
  have := hown.cells (g := g) rfl j (.int .u8 x.toNat) (by simp [Lib.byteCells, hx])
  exact this
 have hkeep : Wr B b (Lib.byteCells l) (w.drew.freeze ⟨g, 0, none⟩ l.length) := by
  have hA : Lib.BuilderAtF 69 5 B b p (Lib.byteCells l) w.drew := ⟨hB, _, hbk, by rw [Lib.byteCells_length]; exact hown, hne⟩
  have hF := hA.froze (g := g) (cap := cap) (by rw [Lib.byteCells_length]; exact c1)
  rw [Lib.byteCells_length] at hF
  rcases hp with rfl | rfl
  ·exact .inl hF
  ·exact .inr hF
 have mixed : Tryz.prog.follows .mixedOrders = true := by kernel_rfl
 go_enter Tryz.func38, Tryz.ntmps38
 go_wp2
 go_region_o
 all_goals (go_wp2; go_ret; exact ⟨rfl, hkeep, Lib.below_freeze (Below.drew (Below.refl B w)) (p := ⟨g, 0, none⟩) hbg _, ((Lib.OthersKept.refl _ _ w).drew).freeze ⟨g, 0, none⟩ _ ⟨cur, fz, hg⟩⟩)
end Go.Proofs.YtpgdplmndnopbaaGreatDoor

/- The writer's put and around walked. -/
namespace Go.Proofs.YtpgdplmndnopbaaGreatDoor
open Go.RowKit
theorem flat_len (l : List ByteArray) : (l.flatMap Lib.strCells).length = (l.map ByteArray.size).sum := by
 induction l with
 | nil => rfl
 | cons x l ih => simp [Lib.strCells_length, ih]
theorem flat_take (l : List ByteArray) (j : Nat) (h : j < l.length) : (l.take (j + 1)).flatMap Lib.strCells = (l.take j).flatMap Lib.strCells ++ Lib.strCells l[j] := by
 rw [List.take_succ_eq_append_getElem h, List.flatMap_append, List.flatMap_cons, List.flatMap_nil, List.append_nil]
theorem sum_take' : ∀ (l : List ByteArray) (j : Nat) (h : j < l.length), ((l.take j).map ByteArray.size).sum + l[j].size ≤ (l.map ByteArray.size).sum
 | [], _, h => absurd h (by simp)
 | x :: l, 0, _ => by simp
 | x :: l, j + 1, h => by
  have := sum_take' l j (by simpa using h)
  simp only [List.take_succ_cons, List.map_cons, List.sum_cons, List.getElem_cons_succ]
  omega
theorem sum_take (l : List ByteArray) (j : Nat) (h : j < l.length) : ((l.take j).flatMap Lib.strCells).length + l[j].size ≤ (l.map ByteArray.size).sum := by
 rw [flat_len]; exact sum_take' l j h
theorem Wr.ne {B b g : Nat} {bs : List Value} {w : World} {cs : Array Value} {T : TypeId} {fr : Nat × Nat} (h : Wr B b bs w) (hg : w.heap[g]? = some (.cells cs T fr)) (hT : T ≠ 69) : g ≠ b := by
 rintro rfl
 rcases h with h | h <;> obtain ⟨_, v, hb, _⟩ := h <;> rw [hg] at hb <;> simp only [Option.some.injEq, Obj.cells.injEq] at hb <;> exact hT hb.2.1
set_option maxRecDepth 100000 in
set_option maxHeartbeats 4000000 in
theorem put79_any (B b g : Nat) (l : List ByteArray) (bs : List Value) (w : World) (h : Wr B b bs w) (hg : w.heap[g]? = some (.cells (l.map Value.string).toArray 9 (0, 0)))
 (hlen : bs.length + (l.map ByteArray.size).sum ≤ 140737488355328) (hl : l.length ≤ 3) :
 Calls Tryz.prog 79 #[.pointer (some ⟨b, 0, none⟩), .slice (some ⟨g, 0, none⟩) l.length l.length] w fun e w' => e = .returned (.tuple #[]) ∧ Wrote B b (bs ++ l.flatMap Lib.strCells) w w' := by
 have hgb : g ≠ b := h.ne hg (by decide)
 have HN := Lib.hid hgb
 have H0 := Lib.hid h.wrote
 have HG := Lib.hid hg
 have HL := Lib.hid hlen
 clear h hg hlen hgb
 go_enter Tryz.func79, Tryz.ntmps79
 go_wp2_with fail
 go_loopw [8] (fun i wr => ∃ j : Nat, j ≤ l.length ∧ i = .int .i64 j ∧ Hid (Wrote B b (bs ++ (l.take j).flatMap Lib.strCells) w wr)) (fun i _ => l.length - (intOf i).toNat)
 case atStart => exact ⟨0, Nat.zero_le _, rfl, by rw [Hid]; simpa using H0.out⟩
 case round =>
  obtain ⟨j, hj, rfl, HW⟩ := hrel
  by_cases hlt : j < l.length
  ·have hgr := HW.out.kept HG.out HN.out (by decide)
   have c0 : wr.cell? ⟨g, j, none⟩ = some (.string l[j]) := by
    rw [Lib.cell_of_heap hgr]; simp [hlt]
   have HS := Lib.hid (flat_take l j hlt)
   have HC := Lib.hid (write125_any B b _ l[j] wr HW.out.1 (by have := sum_take l j hlt; have := HL.out; rw [List.length_append]; omega) (by have := Wr.lt HW.out.1; omega))
   clear hgr
   go_wp2_with fail
   refine HC.out.mono ?_
   rintro e w3 ⟨rfl, hb4⟩
   have HB4 := Lib.hid (HW.out.trans hb4)
   clear hb4
   go_wp2_with fail
   go_roundw
   case rel => exact ⟨j + 1, by omega, by go_num, by rw [Hid, HS.out, ← List.append_assoc]; exact HB4.out⟩
   case measure => simp [intOf]; omega
  ·have hje : j = l.length := by omega
   subst hje
   go_wp2_with fail
   all_goals go_end0
   all_goals exact ⟨rfl, by have := HW.out; rwa [List.take_length] at this⟩
set_option maxRecDepth 100000 in
set_option maxHeartbeats 4000000 in
theorem put79_d (B b g : Nat) (l : List ByteArray) (bs : List Value) (u : FrameMode) (w : World) (h : Wr B b bs w) (hg : w.heap[g]? = some (.cells (l.map Value.string).toArray 9 (0, 0)))
 (hlen : bs.length + (l.map ByteArray.size).sum ≤ 140737488355328) (hl : l.length ≤ 3) :
 CallsD Tryz.prog 79 #[.pointer (some ⟨b, 0, none⟩), .slice (some ⟨g, 0, none⟩) l.length l.length] u w fun e u' w' => u' = u ∧ (e = .returned (.tuple #[]) ∧ Wrote B b (bs ++ l.flatMap Lib.strCells) w w') := by
 have hgb : g ≠ b := h.ne hg (by decide)
 have HN := Lib.hid hgb
 have H0 := Lib.hid h.wrote
 have HG := Lib.hid hg
 have HL := Lib.hid hlen
 clear h hg hlen hgb
 go_enter_d Tryz.func79, Tryz.ntmps79
 go_wp2_with fail
 go_loopw [8] (fun i wr => ∃ j : Nat, j ≤ l.length ∧ i = .int .i64 j ∧ Hid (Wrote B b (bs ++ (l.take j).flatMap Lib.strCells) w wr)) (fun i _ => l.length - (intOf i).toNat)
 case atStart => exact ⟨0, Nat.zero_le _, rfl, by rw [Hid]; simpa using H0.out⟩
 case round =>
  obtain ⟨j, hj, rfl, HW⟩ := hrel
  by_cases hlt : j < l.length
  ·have hgr := HW.out.kept HG.out HN.out (by decide)
   have c0 : wr.cell? ⟨g, j, none⟩ = some (.string l[j]) := by
    rw [Lib.cell_of_heap hgr]; simp [hlt]
   have HS := Lib.hid (flat_take l j hlt)
   have HC := Lib.hid (write125_any B b _ l[j] wr HW.out.1 (by have := sum_take l j hlt; have := HL.out; rw [List.length_append]; omega) (by have := Wr.lt HW.out.1; omega))
   clear hgr
   go_wp2_with fail
   refine HC.out.mono ?_
   rintro e w3 ⟨rfl, hb4⟩
   have HB4 := Lib.hid (HW.out.trans hb4)
   clear hb4
   go_wp2_with fail
   go_roundw
   case rel => exact ⟨j + 1, by omega, by go_num, by rw [Hid, HS.out, ← List.append_assoc]; exact HB4.out⟩
   case measure => simp [intOf]; omega
  ·have hje : j = l.length := by omega
   subst hje
   go_wp2_with fail
   all_goals go_end0
   all_goals exact ⟨rfl, by have := HW.out; rwa [List.take_length] at this⟩
set_option maxRecDepth 100000 in
set_option maxHeartbeats 4000000 in
theorem around76_any (B b : Nat) (is : Bool) (o s : ByteArray) (K : FuncId) (caps : Array Value) (bs txt : List Value) (w : World) (hE : Ent K) (h : Wr B b bs w)
 (hlen : bs.length + (if is then Lib.strCells o ++ txt ++ Lib.strCells s else txt).length ≤ 140737488355328)
 (hK : ∀ bs' w', Wrote B b bs' w w' → bs'.length + txt.length ≤ 140737488355328 → Calls Tryz.prog K caps w' fun e w'' => e = .returned (.tuple #[]) ∧ Wrote B b (bs' ++ txt) w' w'') :
 Calls Tryz.prog 76 #[.pointer (some ⟨b, 0, none⟩), .bool is, .string o, .string s, .func (.func K) #[] caps] w fun e w' => e = .returned (.tuple #[]) ∧ Wrote B b (bs ++ (if is then Lib.strCells o ++ txt ++ Lib.strCells s else txt)) w w' := by
 unfold Ent at hE
 cases is with
 | false =>
  simp only [Bool.false_eq_true, if_false] at hlen
  have HC := Lib.hid (hK bs w h.wrote (by omega))
  clear h hK
  go_enter_defers Tryz.func76, Tryz.ntmps76
  go_wp2_with fail
  refine HC.out.mono ?_
  rintro e w1 ⟨rfl, hw1⟩
  have HW := Lib.hid hw1
  clear hw1
  go_wp2_with fail
  simp [bodyPostD, Leaves, results, go_sem]
  exact HW.out
 | true =>
  simp only [if_true, List.length_append, Lib.strCells_length] at hlen
  have H1 := Lib.hid ((h.wrote.alloc (.cells #[.string s] 9)).alloc (.cells #[.string o] 9))
  have hR1 : (w.alloc (.cells #[.string s] 9)).heap[w.heap.size]? = some (.cells #[.string s] 9 (0, 0)) := Array.getElem?_push_size
  have HK := Lib.hid hK
  have HC1 := Lib.hid (put79_any B b (w.heap.size + 1) [o] bs ((w.alloc (.cells #[.string s] 9)).alloc (.cells #[.string o] 9)) H1.out.1 (heap_alloc2_new _ _ _) (by simp; omega) (by simp))
  have hR2 : ((w.alloc (.cells #[.string s] 9)).alloc (.cells #[.string o] 9)).heap[w.heap.size]? = some (.cells #[.string s] 9 (0, 0)) := (Lib.alloc_old _ _ _ (by simp)).trans hR1
  have HR2 := Lib.hid hR2
  have HNE := Lib.hid (H1.out.1.ne hR2 (by decide))
  clear h hK hR1 hR2
  go_enter_defers Tryz.func76, Tryz.ntmps76
  go_wp2_with fail
  refine HC1.out.mono ?_
  rintro e w1 ⟨rfl, hw1⟩
  have HW1 := Lib.hid (H1.out.trans hw1)
  have HS1 := Lib.hid (hw1.kept HR2.out HNE.out (by decide))
  have HC2 := Lib.hid (HK.out _ w1 HW1.out (by simp [Lib.strCells_length]; omega))
  clear hw1
  go_wp2_with fail
  refine HC2.out.mono ?_
  rintro e w2 ⟨rfl, hw2⟩
  have HW2 := Lib.hid (HW1.out.trans hw2)
  have HS2 := Lib.hid (hw2.kept HS1.out HNE.out (by decide))
  clear hw2
  go_wp2_with fail
  refine leaves_cons (f := 79) (args := #[.pointer (some ⟨b, 0, none⟩), .slice (some ⟨w.heap.size, 0, none⟩) 1 1]) (by simp) (by simp [go_sem]) ?_
  refine (put79_d B b w.heap.size [s] _ _ _ HW2.out.1 HS2.out (by simp [Lib.strCells_length]; omega) (by simp)).mono ?_
  rintro e u' w3 ⟨rfl, rfl, hw3⟩
  have HW3 := Lib.hid (HW2.out.trans hw3)
  clear hw3
  simp [Leaves, settle, results, go_sem]
  have := HW3.out
  simpa using this
end Go.Proofs.YtpgdplmndnopbaaGreatDoor
