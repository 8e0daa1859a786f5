/- The parser walked: within, of formulas. -/
import Derived.Test.YtpgdplmndnopbaaGreatDoorPsG
import Derived.Test.YtpgdplmndnopbaaGreatDoorMgF
import Derived.Test.YtpgdplmndnopbaaGreatDoorPsI
import Derived.Test.YtpgdplmndnopbaaGreatDoorMgH
namespace Go.Proofs.YtpgdplmndnopbaaGreatDoor
open Go.RowKit
theorem results_cell_row_tmp {P : Program} {fn : Func} {p u : Tmp} {ty : TypeId} (h : fn.results = #[.cell p ty, .tmp u]) (tmps : Array Value) (w : World) (g : Nat) (t : TypeId) (cs : Array Value) (fr : Nat × Nat) (d : TypeDesc) (v : Value)
 (hp : tmps.getD p undef = .pointer (some ⟨g, 0, none⟩)) (hv : tmps.getD u undef = v) (hg : w.heap[g]? = some (.cells cs t fr))
 (hu : P.underlying ty = some d) (hd : (match d with | .struct _ | .array _ _ => true | _ => false) = true) (hi : (P.info? ty).map (·.size) = some cs.size) :
 (results fn tmps).run P w = .ok (.tuple #[.agg cs, v]) w := by
 rw [results_cell_tmp h, hp, hv]
 simp [asAddr, run_loadVar_row w g t ty cs fr d hg hu hd hi]
theorem Ps.set1 {pb tb deep : Nat} {w : World} {l : List Tok} (h : Ps pb tb w l deep) (d : Nat) : Ps pb tb (w.setCell ⟨pb, 1, none⟩ (.int .i64 d)) l d ∧ Bt pb w (w.setCell ⟨pb, 1, none⟩ (.int .i64 d)) := by
 obtain ⟨off, cap, h1, h2, h3, h4, h5, h6⟩ := h.blk
 have hsz : (w.setCell ⟨pb, 1, none⟩ (.int .i64 d)).heap.size = w.heap.size := by simp [World.setCell]
 have ho : ∀ j, j ≠ pb → (w.setCell ⟨pb, 1, none⟩ (.int .i64 d)).heap[j]? = w.heap[j]? := fun j hj => setCell_other' _ _ _ _ j hj
 exact ⟨⟨⟨off, cap, setCell_at h1 1 _, h2, h3, h4, by rw [hsz]; exact h5, h6.agree (ho tb h4)⟩, h.ends, h.toks⟩, ⟨rfl, rfl, rfl, by rw [hsz]; exact Nat.le_refl _, fun k _ hk => ho k hk⟩⟩
theorem Ps.deepAt {pb tb deep : Nat} {w : World} {l : List Tok} (h : Ps pb tb w l deep) : w.cell? ⟨pb, 1, none⟩ = some (.int .i64 deep) ∧ w.frozen? ⟨pb, 1, none⟩ = false := by
 obtain ⟨off, cap, h1, _⟩ := h.blk
 exact ⟨by rw [Lib.cell_of_heap h1]; rfl, Lib.frozen_of_heap h1 1⟩
theorem wrap_up (deep : Nat) (h : deep ≤ 64) : IntKind.i64.wrap ((deep : Int) + 1) = ((deep + 1 : Nat) : Int) ∧ IntKind.i64.wrap (((deep + 1 : Nat) : Int) - 1) = (deep : Int) := by
 constructor <;> (rw [IntWalk.i64_in _ (by omega)]; omega)
def OutWF (pb tb deep : Nat) (w : World) (r : Option (PRes F)) (e : Ending) (w' : World) : Prop :=
 match r with
 | none => ∃ l, e = .returned (.tuple #[.agg #[.int .u8 0, .string ⟨#[]⟩, .slice none 0 0], .bool false]) ∧ Ps pb tb w' l deep ∧ Bt pb w w'
 | some (.ok (x, l')) => ∃ v, e = .returned (.tuple #[v, .bool true]) ∧ FI (pN w.heap.size) w' x v ∧ Ps pb tb w' l' deep ∧ Bt pb w w'
 | some (.error c) => e = .panicked (thr c.1 c.2) ∧ Bt pb w w'
set_option maxRecDepth 100000 in
set_option maxHeartbeats 8000000 in
theorem within199_no (pb tb deep : Nat) (o c : ByteArray) (fv : Value) (l : List Tok) (w : World) (h : Ps pb tb w l deep) (hi : isT o.data.toList l = false) :
 Calls Tryz.prog 199 #[.pointer (some ⟨pb, 0, none⟩), .string o, .string c, fv] w fun e w' => e = .returned (.tuple #[.agg #[.int .u8 0, .string ⟨#[]⟩, .slice none 0 0], .bool false]) ∧ Ps pb tb w' l deep ∧ Bt pb w w' := by
 have HI := Lib.hid (is166_any pb tb deep l o _ (h.alloc (.cells #[.int .u8 0, .string ⟨#[]⟩, .slice none 0 0] 61)))
 rw [hi] at HI
 have HP := Lib.hid (h.alloc (.cells #[.int .u8 0, .string ⟨#[]⟩, .slice none 0 0] 61))
 have HB := Lib.hid ((Bt.refl pb w).alloc (.cells #[.int .u8 0, .string ⟨#[]⟩, .slice none 0 0] 61))
 have HR : Hid ((w.alloc (.cells #[.int .u8 0, .string ⟨#[]⟩, .slice none 0 0] 61)).heap[w.heap.size]? = some (.cells #[.int .u8 0, .string ⟨#[]⟩, .slice none 0 0] 61 (0, 0))) := hp_top rfl
 have hpb := h.lt
 have htb : tb ≠ w.heap.size := Nat.ne_of_lt h.tb_lt
 clear h hi
 go_enter Tryz.func199, Tryz.ntmps199
 go_wp2_with fail
 refine HI.out.mono ?_
 rintro e w1 ⟨rfl, hb⟩
 have HB1 := Lib.hid (HB.out.trans (.of_below hb))
 have HP1 := Lib.hid (HP.out.below hb)
 have hkr := (Bt.of_below (pb := pb) hb).at HR.out (by omega)
 have e0 := Lib.cell_of_heap hkr 0
 have e1 := Lib.cell_of_heap hkr 1
 have e2 := Lib.cell_of_heap hkr 2
 have f0 := Lib.frozen_of_heap hkr 0
 have f1 := Lib.frozen_of_heap hkr 1
 have f2 := Lib.frozen_of_heap hkr 2
 simp only [List.getElem?_toArray, List.getElem?_cons_zero, List.getElem?_cons_succ] at e0 e1 e2
 have hlt := (Array.getElem?_eq_some_iff.1 hkr).1
 have HAT : Hid ((set3 w1 w.heap.size (.int .u8 0) (.string ⟨#[]⟩) (.slice none 0 0)).heap[w.heap.size]? = some (.cells #[.int .u8 0, .string ⟨#[]⟩, .slice none 0 0] 61 (0, 0))) := set3_at hkr _ _ _
 have HFIN : Hid (Ps pb tb (set3 w1 w.heap.size (.int .u8 0) (.string ⟨#[]⟩) (.slice none 0 0)) l deep ∧ Bt pb w (set3 w1 w.heap.size (.int .u8 0) (.string ⟨#[]⟩) (.slice none 0 0))) :=
  ⟨HP1.out.set3 (by omega) htb _ _ _, HB1.out.set3 (Nat.le_refl _) _ _ _⟩
 clear hb hkr
 go_wp2_with fail
 refine bodyPost_ret (results_cell_row_tmp rfl _ _ _ _ _ _ _ _ rfl rfl HAT.out Tryz.underlying61 rfl (by kernel_rfl)) rfl ?_
 exact ⟨rfl, HFIN.out⟩
set_option maxRecDepth 100000 in
set_option maxHeartbeats 8000000 in
theorem within199_deep (pb tb : Nat) (o c : ByteArray) (fv : Value) (l : List Tok) (w : World) (h : Ps pb tb w l 64) (hi : isT o.data.toList l = true) :
 Calls Tryz.prog 199 #[.pointer (some ⟨pb, 0, none⟩), .string o, .string c, fv] w fun e w' => e = .panicked (thr 171 (placeT l)) ∧ Bt pb w w' := by
 have HI := Lib.hid (is166_any pb tb 64 l o _ (h.alloc (.cells #[.int .u8 0, .string ⟨#[]⟩, .slice none 0 0] 61)))
 rw [hi] at HI
 have HP := Lib.hid (h.alloc (.cells #[.int .u8 0, .string ⟨#[]⟩, .slice none 0 0] 61))
 have HB := Lib.hid ((Bt.refl pb w).alloc (.cells #[.int .u8 0, .string ⟨#[]⟩, .slice none 0 0] 61))
 obtain ⟨⟨tk, ts, tp⟩, lr, rfl⟩ := h.ends.cons
 have HF := Lib.hid (fun (W : World) (hp : Ps pb tb W (⟨tk, ts, tp⟩ :: lr) 64) => fail45_any pb tb 64 171 tk ts tp lr W hp)
 clear h hi
 go_enter Tryz.func199, Tryz.ntmps199
 go_wp2_with fail
 refine HI.out.mono ?_
 rintro e w1 ⟨rfl, hb⟩
 have HB1 := Lib.hid (HB.out.trans (.of_below hb))
 have HP1 := Lib.hid (HP.out.below hb)
 obtain ⟨y0, y1⟩ := HP1.out.deepAt
 have hlt := HP1.out.lt
 clear hb
 go_wp2_with fail
 refine (HF.out _ HP1.out).mono ?_
 rintro e w2 ⟨rfl, hb⟩
 have HB2 := Lib.hid (HB1.out.trans (.of_below hb))
 clear hb
 go_wp2_with fail
 exact ⟨rfl, rfl, HB2.out⟩
set_option maxRecDepth 100000 in
set_option maxHeartbeats 8000000 in
theorem within199_in (pb tb deep : Nat) (o c : ByteArray) (ho : o.data.toList ≠ []) (hc : c.data.toList ≠ []) (K : Nat) (first caps : Array Value) (hE : Ent K) (one : Nat → List Tok → PRes F) (l : List Tok) (w : World) (h : Ps pb tb w l deep) (hd : deep < 64) (hi : isT o.data.toList l = true)
 (hone : ∀ w', Bt pb w w' → Ps pb tb w' l.tail (deep + 1) → Calls Tryz.prog K (first ++ caps) w' (OutF pb tb (deep + 1) w' (one (deep + 1) l.tail))) :
 Calls Tryz.prog 199 #[.pointer (some ⟨pb, 0, none⟩), .string o, .string c, .func (.func K) first caps] w (OutWF pb tb deep w (withinR o.data.toList c.data.toList deep one l)) := by
 have HI := Lib.hid (is166_any pb tb deep l o _ (h.alloc (.cells #[.int .u8 0, .string ⟨#[]⟩, .slice none 0 0] 61)))
 rw [hi] at HI
 have HP := Lib.hid (h.alloc (.cells #[.int .u8 0, .string ⟨#[]⟩, .slice none 0 0] 61))
 have HB := Lib.hid ((Bt.refl pb w).alloc (.cells #[.int .u8 0, .string ⟨#[]⟩, .slice none 0 0] 61))
 have HR : Hid ((w.alloc (.cells #[.int .u8 0, .string ⟨#[]⟩, .slice none 0 0] 61)).heap[w.heap.size]? = some (.cells #[.int .u8 0, .string ⟨#[]⟩, .slice none 0 0] 61 (0, 0))) := hp_top rfl
 have hpb := h.lt
 have htb : tb ≠ w.heap.size := Nat.ne_of_lt h.tb_lt
 obtain ⟨⟨tk, ts, tp⟩, lr, rfl⟩ := h.ends.cons
 have HPASS := Lib.hid (fun (W : World) (hp : Ps pb tb W (⟨tk, ts, tp⟩ :: lr) deep) => pass167_any pb tb deep tk ts tp lr W hp (hp.tail_ends ho hi))
 obtain ⟨wr1, wr2⟩ := wrap_up deep (by omega)
 have hq : ((deep : Int) == 64) = false := by simp; omega
 have HW : Hid (withinR o.data.toList c.data.toList deep one (⟨tk, ts, tp⟩ :: lr) = some (match one (deep + 1) lr with
  | .error e => .error e
  | .ok (x, r) => match takeT c.data.toList r with
   | .error e => .error e
   | .ok r' => .ok (x, r'))) := by
  rw [Hid]; unfold withinR; rw [hi, if_pos rfl, if_neg (by omega)]; simp only [List.tail_cons]
  rcases one (deep + 1) lr with e | ⟨x, r⟩
  ·rfl
  ·simp only
   cases takeT c.data.toList r <;> rfl
 have HONE := Lib.hid hone
 simp only [List.tail_cons] at HONE
 have HT1 := Lib.hid (fun (W : World) (r : List Tok) (g : Nat) (hp : Ps pb tb W r (deep + 1)) hg ht => take169_ok pb tb (deep + 1) g r c hc W hp hg ht)
 have HT2 := Lib.hid (fun (W : World) (r : List Tok) (g : Nat) (hp : Ps pb tb W r (deep + 1)) hg ht => take169_no pb tb (deep + 1) g r c hc W hp hg ht)
 obtain ⟨RES, hRES⟩ : ∃ RES, RES = withinR o.data.toList c.data.toList deep one (⟨tk, ts, tp⟩ :: lr) := ⟨_, rfl⟩
 rw [← hRES]
 have HRES := Lib.hid (hRES.trans HW.out)
 clear hRES
 unfold Ent at hE
 clear h hi hone ho hc
 go_enter Tryz.func199, Tryz.ntmps199
 go_wp2_with fail
 refine HI.out.mono ?_
 rintro e w1 ⟨rfl, hb⟩
 have HB1 := Lib.hid (HB.out.trans (.of_below hb))
 have HP1 := Lib.hid (HP.out.below hb)
 have HKR1 := Lib.hid ((Bt.of_below (pb := pb) hb).at HR.out (by omega))
 obtain ⟨y0, y1⟩ := HP1.out.deepAt
 have hlt := HP1.out.lt
 clear hb
 go_wp2_with fail
 refine (HPASS.out _ HP1.out).mono ?_
 rintro e w2 ⟨rfl, hp2, hb2⟩
 have HB2 := Lib.hid (HB1.out.trans hb2)
 have HKR2 := Lib.hid (hb2.at HKR1.out (by omega))
 obtain ⟨hp3, hb3⟩ := hp2.set1 (deep + 1)
 have HP3 := Lib.hid hp3
 have HB3 := Lib.hid (HB2.out.trans hb3)
 have HKR3 := Lib.hid (hb3.at HKR2.out (by omega))
 obtain ⟨z0, z1⟩ := hp2.deepAt
 have hlt2 := hp2.lt
 clear y0 y1 hlt hp2 hb2 hp3 hb3
 go_wp2_with fail
 have HCALL := Lib.hid (HONE.out _ HB3.out HP3.out)
 cases q : one (deep + 1) lr with
 | error c2 =>
  have HQ := Lib.hid q
  rw [q] at HCALL
  refine HCALL.out.mono ?_
  rintro e w4 ⟨rfl, hb⟩
  have HB4 := Lib.hid (HB3.out.trans hb)
  clear hb
  go_wp2_with fail
  refine ⟨rfl, ?_⟩
  rw [HRES.out, HQ.out]
  exact ⟨rfl, HB4.out⟩
 | ok xr =>
  obtain ⟨x, r⟩ := xr
  have HQ := Lib.hid q
  rw [q] at HCALL
  refine HCALL.out.mono ?_
  rintro e w4 ho4
  obtain ⟨k1, s1, a1, n1, c1, rfl, hf, hp4, hb4⟩ := OutF.ok ho4
  have hkr4 := hb4.at HKR3.out (by omega)
  have e0 := Lib.cell_of_heap hkr4 0
  have e1 := Lib.cell_of_heap hkr4 1
  have e2 := Lib.cell_of_heap hkr4 2
  have f0 := Lib.frozen_of_heap hkr4 0
  have f1 := Lib.frozen_of_heap hkr4 1
  have f2 := Lib.frozen_of_heap hkr4 2
  simp only [List.getElem?_toArray, List.getElem?_cons_zero, List.getElem?_cons_succ] at e0 e1 e2
  obtain ⟨W5, hW5⟩ : ∃ W5, W5 = set3 w4 w.heap.size (.int .u8 k1) (.string s1) (.slice a1 n1 c1) := ⟨_, rfl⟩
  have hsz3 : w.heap.size < (w2.setCell ⟨pb, 1, none⟩ (.int .i64 ((deep + 1 : Nat) : Int))).heap.size := (Array.getElem?_eq_some_iff.1 HKR3.out).1
  have HKR5 : Hid (W5.heap[w.heap.size]? = some (.cells #[.int .u8 k1, .string s1, .slice a1 n1 c1] 61 (0, 0))) := by rw [Hid, hW5]; exact set3_at hkr4 _ _ _
  have HP5 : Hid (Ps pb tb W5 r (deep + 1)) := by rw [Hid, hW5]; exact hp4.set3 (by omega) htb _ _ _
  have HB5 : Hid (Bt pb w W5) := by rw [Hid, hW5]; exact (HB3.out.trans hb4).set3 (Nat.le_refl _) _ _ _
  have HF5 : Hid (FI (fun b => decide (w.heap.size ≤ b) && b != w.heap.size) W5 x (.agg #[.int .u8 k1, .string s1, .slice a1 n1 c1])) := by
   rw [Hid, hW5]
   refine hf.go ⟨by rw [set3_size]; exact Nat.le_refl _, fun b hbz hpn => ?_⟩
   have hpn' := of_decide_eq_true hpn
   refine ⟨?_, set3_other _ _ _ _ _ _ (by omega)⟩
   simp only [Bool.and_eq_true, decide_eq_true_eq, bne_iff_ne, ne_eq]
   omega
  have HNW := Lib.hid hW5
  have HSZ5 : Hid (w4.heap.size = W5.heap.size) := by rw [Hid, hW5, set3_size]
  clear hf hp4 hb4 hkr4 ho4 hsz3 q HCALL hW5
  go_wp2_with fail
  have eW : set3 w4 w.heap.size (.int .u8 k1) (.string s1) (.slice a1 n1 c1) = W5 := HNW.out.symm
  unfold set3 at eW
  rw [eW]
  clear eW e0 e1 e2 f0 f1 f2 z0 z1 hlt2
  cases qt : isT c.data.toList r with
  | false =>
   have HTK := Lib.hid (HT2.out (W5.alloc (.cells #[.string c] 9)) r w4.heap.size (HP5.out.alloc _) (hp_top HSZ5.out) qt)
   have HTR : Hid (takeT c.data.toList r = .error (170, placeT r)) := by rw [Hid, takeT, qt]; rfl
   refine HTK.out.mono ?_
   rintro e w6 ⟨rfl, hb6⟩
   have HB6 := Lib.hid ((HB5.out.alloc _).trans hb6)
   clear hb6 qt
   go_wp2_with fail
   refine ⟨rfl, ?_⟩
   rw [HRES.out, HQ.out]
   simp only [HTR.out]
   exact ⟨rfl, HB6.out⟩
  | true =>
   have HTK := Lib.hid (HT1.out (W5.alloc (.cells #[.string c] 9)) r w4.heap.size (HP5.out.alloc _) (hp_top HSZ5.out) qt)
   have HTR : Hid (takeT c.data.toList r = .ok r.tail) := by rw [Hid, takeT, qt]; rfl
   refine HTK.out.mono ?_
   rintro e w6 ⟨rfl, hp6, hb6⟩
   have hb56 := (Bt.refl pb W5).alloc (.cells #[.string c] 9) |>.trans hb6
   obtain ⟨hp7, hb7⟩ := hp6.set1 deep
   obtain ⟨z0, z1⟩ := hp6.deepAt
   have hlt6 := hp6.lt
   have hb57 := hb56.trans hb7
   have hkr7 := hb57.at HKR5.out (by omega)
   have hkr6 := hb56.at HKR5.out (by omega)
   have g0 := Lib.cell_of_heap hkr7 0
   have g1 := Lib.cell_of_heap hkr7 1
   have g2 := Lib.cell_of_heap hkr7 2
   have f0 := Lib.frozen_of_heap hkr7 0
   have f1 := Lib.frozen_of_heap hkr7 1
   have f2 := Lib.frozen_of_heap hkr7 2
   have e0 := Lib.cell_of_heap hkr6 0
   have e1 := Lib.cell_of_heap hkr6 1
   have e2 := Lib.cell_of_heap hkr6 2
   have u0 := Lib.frozen_of_heap hkr6 0
   have u1 := Lib.frozen_of_heap hkr6 1
   have u2 := Lib.frozen_of_heap hkr6 2
   simp only [List.getElem?_toArray, List.getElem?_cons_zero, List.getElem?_cons_succ] at g0 g1 g2 e0 e1 e2
   have HAT : Hid ((set3 (w6.setCell ⟨pb, 1, none⟩ (.int .i64 deep)) w.heap.size (.int .u8 k1) (.string s1) (.slice a1 n1 c1)).heap[w.heap.size]? = some (.cells #[.int .u8 k1, .string s1, .slice a1 n1 c1] 61 (0, 0))) := set3_at hkr7 _ _ _
   have HFIN : Hid (OutWF pb tb deep w (some (.ok (x, r.tail))) (.returned (.tuple #[.agg #[.int .u8 k1, .string s1, .slice a1 n1 c1], .bool true])) (set3 (w6.setCell ⟨pb, 1, none⟩ (.int .i64 deep)) w.heap.size (.int .u8 k1) (.string s1) (.slice a1 n1 c1))) := by
    refine ⟨_, rfl, ?_, hp7.set3 (by omega) htb _ _ _, (HB5.out.trans hb57).set3 (Nat.le_refl _) _ _ _⟩
    refine HF5.out.go ⟨?_, fun b hbz hpc => ?_⟩
    ·rw [set3_size]; exact hb57.2.2.2.1
    ·simp only [Bool.and_eq_true, decide_eq_true_eq, bne_iff_ne, ne_eq] at hpc
     exact ⟨decide_eq_true hpc.1, (set3_other _ _ _ _ _ _ hpc.2).trans (hb57.2.2.2.2 b hbz (by omega))⟩
   clear hp6 hb6 hp7 hb7 hb56 hb57 hkr7 hkr6 qt
   go_wp2_with fail
   refine bodyPost_ret (results_cell_row_tmp rfl _ _ _ _ _ _ _ _ rfl rfl HAT.out Tryz.underlying61 rfl (by kernel_rfl)) rfl ?_
   rw [HRES.out, HQ.out]
   simp only [HTR.out]
   exact HFIN.out
end Go.Proofs.YtpgdplmndnopbaaGreatDoor

/- The parser walked: within, of expressions. -/
namespace Go.Proofs.YtpgdplmndnopbaaGreatDoor
open Go.RowKit
def OutWX (pb tb deep : Nat) (w : World) (r : Option (PRes X)) (e : Ending) (w' : World) : Prop :=
 match r with
 | none => ∃ l, e = .returned (.tuple #[.agg #[.int .u8 0, .slice none 0 0, .slice none 0 0, .int .i64 0, .bool false, .int .i64 0, .bool false, .bool false], .bool false]) ∧ Ps pb tb w' l deep ∧ Bt pb w w'
 | some (.ok (x, l')) => ∃ v, e = .returned (.tuple #[v, .bool true]) ∧ XI (pN w.heap.size) w' x v ∧ Ps pb tb w' l' deep ∧ Bt pb w w'
 | some (.error c) => e = .panicked (thr c.1 c.2) ∧ Bt pb w w'
set_option maxRecDepth 100000 in
set_option maxHeartbeats 8000000 in
theorem within168_no (pb tb deep : Nat) (o c : ByteArray) (fv : Value) (l : List Tok) (w : World) (h : Ps pb tb w l deep) (hi : isT o.data.toList l = false) :
 Calls Tryz.prog 168 #[.pointer (some ⟨pb, 0, none⟩), .string o, .string c, fv] w fun e w' => e = .returned (.tuple #[.agg #[.int .u8 0, .slice none 0 0, .slice none 0 0, .int .i64 0, .bool false, .int .i64 0, .bool false, .bool false], .bool false]) ∧ Ps pb tb w' l deep ∧ Bt pb w w' := by
 have HI := Lib.hid (is166_any pb tb deep l o _ (h.alloc (.cells #[.int .u8 0, .slice none 0 0, .slice none 0 0, .int .i64 0, .bool false, .int .i64 0, .bool false, .bool false] 28)))
 rw [hi] at HI
 have HP := Lib.hid (h.alloc (.cells #[.int .u8 0, .slice none 0 0, .slice none 0 0, .int .i64 0, .bool false, .int .i64 0, .bool false, .bool false] 28))
 have HB := Lib.hid ((Bt.refl pb w).alloc (.cells #[.int .u8 0, .slice none 0 0, .slice none 0 0, .int .i64 0, .bool false, .int .i64 0, .bool false, .bool false] 28))
 have HR : Hid ((w.alloc (.cells #[.int .u8 0, .slice none 0 0, .slice none 0 0, .int .i64 0, .bool false, .int .i64 0, .bool false, .bool false] 28)).heap[w.heap.size]? = some (.cells #[.int .u8 0, .slice none 0 0, .slice none 0 0, .int .i64 0, .bool false, .int .i64 0, .bool false, .bool false] 28 (0, 0))) := hp_top rfl
 have hpb := h.lt
 have htb : tb ≠ w.heap.size := Nat.ne_of_lt h.tb_lt
 clear h hi
 go_enter Tryz.func168, Tryz.ntmps168
 go_wp2_with fail
 refine HI.out.mono ?_
 rintro e w1 ⟨rfl, hb⟩
 have HB1 := Lib.hid (HB.out.trans (.of_below hb))
 have HP1 := Lib.hid (HP.out.below hb)
 have hkr := (Bt.of_below (pb := pb) hb).at HR.out (by omega)
 have e0 := Lib.cell_of_heap hkr 0
 have e1 := Lib.cell_of_heap hkr 1
 have e2 := Lib.cell_of_heap hkr 2
 have e3 := Lib.cell_of_heap hkr 3
 have e4 := Lib.cell_of_heap hkr 4
 have e5 := Lib.cell_of_heap hkr 5
 have e6 := Lib.cell_of_heap hkr 6
 have e7 := Lib.cell_of_heap hkr 7
 have f0 := Lib.frozen_of_heap hkr 0
 have f1 := Lib.frozen_of_heap hkr 1
 have f2 := Lib.frozen_of_heap hkr 2
 have f3 := Lib.frozen_of_heap hkr 3
 have f4 := Lib.frozen_of_heap hkr 4
 have f5 := Lib.frozen_of_heap hkr 5
 have f6 := Lib.frozen_of_heap hkr 6
 have f7 := Lib.frozen_of_heap hkr 7
 simp only [List.getElem?_toArray, List.getElem?_cons_zero, List.getElem?_cons_succ] at e0 e1 e2 e3 e4 e5 e6 e7
 have hlt := (Array.getElem?_eq_some_iff.1 hkr).1
 have HAT : Hid ((set8 w1 w.heap.size (.int .u8 0) (.slice none 0 0) (.slice none 0 0) (.int .i64 0) (.bool false) (.int .i64 0) (.bool false) (.bool false)).heap[w.heap.size]? = some (.cells #[.int .u8 0, .slice none 0 0, .slice none 0 0, .int .i64 0, .bool false, .int .i64 0, .bool false, .bool false] 28 (0, 0))) := set8_at hkr _ _ _ _ _ _ _ _
 have HFIN : Hid (Ps pb tb (set8 w1 w.heap.size (.int .u8 0) (.slice none 0 0) (.slice none 0 0) (.int .i64 0) (.bool false) (.int .i64 0) (.bool false) (.bool false)) l deep ∧ Bt pb w (set8 w1 w.heap.size (.int .u8 0) (.slice none 0 0) (.slice none 0 0) (.int .i64 0) (.bool false) (.int .i64 0) (.bool false) (.bool false))) :=
  ⟨HP1.out.set8 (by omega) htb _ _ _ _ _ _ _ _, HB1.out.set8 (Nat.le_refl _) _ _ _ _ _ _ _ _⟩
 clear hb hkr
 go_wp2_with fail
 refine bodyPost_ret (results_cell_row_tmp rfl _ _ _ _ _ _ _ _ rfl rfl HAT.out Tryz.underlying28 rfl (by kernel_rfl)) rfl ?_
 exact ⟨rfl, HFIN.out⟩
set_option maxRecDepth 100000 in
set_option maxHeartbeats 8000000 in
theorem within168_deep (pb tb : Nat) (o c : ByteArray) (fv : Value) (l : List Tok) (w : World) (h : Ps pb tb w l 64) (hi : isT o.data.toList l = true) :
 Calls Tryz.prog 168 #[.pointer (some ⟨pb, 0, none⟩), .string o, .string c, fv] w fun e w' => e = .panicked (thr 171 (placeT l)) ∧ Bt pb w w' := by
 have HI := Lib.hid (is166_any pb tb 64 l o _ (h.alloc (.cells #[.int .u8 0, .slice none 0 0, .slice none 0 0, .int .i64 0, .bool false, .int .i64 0, .bool false, .bool false] 28)))
 rw [hi] at HI
 have HP := Lib.hid (h.alloc (.cells #[.int .u8 0, .slice none 0 0, .slice none 0 0, .int .i64 0, .bool false, .int .i64 0, .bool false, .bool false] 28))
 have HB := Lib.hid ((Bt.refl pb w).alloc (.cells #[.int .u8 0, .slice none 0 0, .slice none 0 0, .int .i64 0, .bool false, .int .i64 0, .bool false, .bool false] 28))
 obtain ⟨⟨tk, ts, tp⟩, lr, rfl⟩ := h.ends.cons
 have HF := Lib.hid (fun (W : World) (hp : Ps pb tb W (⟨tk, ts, tp⟩ :: lr) 64) => fail45_any pb tb 64 171 tk ts tp lr W hp)
 clear h hi
 go_enter Tryz.func168, Tryz.ntmps168
 go_wp2_with fail
 refine HI.out.mono ?_
 rintro e w1 ⟨rfl, hb⟩
 have HB1 := Lib.hid (HB.out.trans (.of_below hb))
 have HP1 := Lib.hid (HP.out.below hb)
 obtain ⟨y0, y1⟩ := HP1.out.deepAt
 have hlt := HP1.out.lt
 clear hb
 go_wp2_with fail
 refine (HF.out _ HP1.out).mono ?_
 rintro e w2 ⟨rfl, hb⟩
 have HB2 := Lib.hid (HB1.out.trans (.of_below hb))
 clear hb
 go_wp2_with fail
 exact ⟨rfl, rfl, HB2.out⟩
set_option maxRecDepth 100000 in
set_option maxHeartbeats 8000000 in
theorem within168_in (pb tb deep : Nat) (o c : ByteArray) (ho : o.data.toList ≠ []) (hc : c.data.toList ≠ []) (K : Nat) (first caps : Array Value) (hE : Ent K) (one : Nat → List Tok → PRes X) (l : List Tok) (w : World) (h : Ps pb tb w l deep) (hd : deep < 64) (hi : isT o.data.toList l = true)
 (hone : ∀ w', Bt pb w w' → Ps pb tb w' l.tail (deep + 1) → Calls Tryz.prog K (first ++ caps) w' (OutX pb tb (deep + 1) w' (one (deep + 1) l.tail))) :
 Calls Tryz.prog 168 #[.pointer (some ⟨pb, 0, none⟩), .string o, .string c, .func (.func K) first caps] w (OutWX pb tb deep w (withinR o.data.toList c.data.toList deep one l)) := by
 have HI := Lib.hid (is166_any pb tb deep l o _ (h.alloc (.cells #[.int .u8 0, .slice none 0 0, .slice none 0 0, .int .i64 0, .bool false, .int .i64 0, .bool false, .bool false] 28)))
 rw [hi] at HI
 have HP := Lib.hid (h.alloc (.cells #[.int .u8 0, .slice none 0 0, .slice none 0 0, .int .i64 0, .bool false, .int .i64 0, .bool false, .bool false] 28))
 have HB := Lib.hid ((Bt.refl pb w).alloc (.cells #[.int .u8 0, .slice none 0 0, .slice none 0 0, .int .i64 0, .bool false, .int .i64 0, .bool false, .bool false] 28))
 have HR : Hid ((w.alloc (.cells #[.int .u8 0, .slice none 0 0, .slice none 0 0, .int .i64 0, .bool false, .int .i64 0, .bool false, .bool false] 28)).heap[w.heap.size]? = some (.cells #[.int .u8 0, .slice none 0 0, .slice none 0 0, .int .i64 0, .bool false, .int .i64 0, .bool false, .bool false] 28 (0, 0))) := hp_top rfl
 have hpb := h.lt
 have htb : tb ≠ w.heap.size := Nat.ne_of_lt h.tb_lt
 obtain ⟨⟨tk, ts, tp⟩, lr, rfl⟩ := h.ends.cons
 have HPASS := Lib.hid (fun (W : World) (hp : Ps pb tb W (⟨tk, ts, tp⟩ :: lr) deep) => pass167_any pb tb deep tk ts tp lr W hp (hp.tail_ends ho hi))
 obtain ⟨wr1, wr2⟩ := wrap_up deep (by omega)
 have hq : ((deep : Int) == 64) = false := by simp; omega
 have HW : Hid (withinR o.data.toList c.data.toList deep one (⟨tk, ts, tp⟩ :: lr) = some (match one (deep + 1) lr with
  | .error e => .error e
  | .ok (x, r) => match takeT c.data.toList r with
   | .error e => .error e
   | .ok r' => .ok (x, r'))) := by
  rw [Hid]; unfold withinR; rw [hi, if_pos rfl, if_neg (by omega)]; simp only [List.tail_cons]
  rcases one (deep + 1) lr with e | ⟨x, r⟩
  ·rfl
  ·simp only
   cases takeT c.data.toList r <;> rfl
 have HONE := Lib.hid hone
 simp only [List.tail_cons] at HONE
 have HT1 := Lib.hid (fun (W : World) (r : List Tok) (g : Nat) (hp : Ps pb tb W r (deep + 1)) hg ht => take169_ok pb tb (deep + 1) g r c hc W hp hg ht)
 have HT2 := Lib.hid (fun (W : World) (r : List Tok) (g : Nat) (hp : Ps pb tb W r (deep + 1)) hg ht => take169_no pb tb (deep + 1) g r c hc W hp hg ht)
 obtain ⟨RES, hRES⟩ : ∃ RES, RES = withinR o.data.toList c.data.toList deep one (⟨tk, ts, tp⟩ :: lr) := ⟨_, rfl⟩
 rw [← hRES]
 have HRES := Lib.hid (hRES.trans HW.out)
 clear hRES
 unfold Ent at hE
 clear h hi hone ho hc
 go_enter Tryz.func168, Tryz.ntmps168
 go_wp2_with fail
 refine HI.out.mono ?_
 rintro e w1 ⟨rfl, hb⟩
 have HB1 := Lib.hid (HB.out.trans (.of_below hb))
 have HP1 := Lib.hid (HP.out.below hb)
 have HKR1 := Lib.hid ((Bt.of_below (pb := pb) hb).at HR.out (by omega))
 obtain ⟨y0, y1⟩ := HP1.out.deepAt
 have hlt := HP1.out.lt
 clear hb
 go_wp2_with fail
 refine (HPASS.out _ HP1.out).mono ?_
 rintro e w2 ⟨rfl, hp2, hb2⟩
 have HB2 := Lib.hid (HB1.out.trans hb2)
 have HKR2 := Lib.hid (hb2.at HKR1.out (by omega))
 obtain ⟨hp3, hb3⟩ := hp2.set1 (deep + 1)
 have HP3 := Lib.hid hp3
 have HB3 := Lib.hid (HB2.out.trans hb3)
 have HKR3 := Lib.hid (hb3.at HKR2.out (by omega))
 obtain ⟨z0, z1⟩ := hp2.deepAt
 have hlt2 := hp2.lt
 clear y0 y1 hlt hp2 hb2 hp3 hb3
 go_wp2_with fail
 have HCALL := Lib.hid (HONE.out _ HB3.out HP3.out)
 cases q : one (deep + 1) lr with
 | error c2 =>
  have HQ := Lib.hid q
  rw [q] at HCALL
  refine HCALL.out.mono ?_
  rintro e w4 ⟨rfl, hb⟩
  have HB4 := Lib.hid (HB3.out.trans hb)
  clear hb
  go_wp2_with fail
  refine ⟨rfl, ?_⟩
  rw [HRES.out, HQ.out]
  exact ⟨rfl, HB4.out⟩
 | ok xr =>
  obtain ⟨x, r⟩ := xr
  have HQ := Lib.hid q
  rw [q] at HCALL
  refine HCALL.out.mono ?_
  rintro e w4 ho4
  obtain ⟨k1, a1, n1, c1, b1, o1, qq1, lo1, ls1, hi1, hs1, op1, rfl, hf, hp4, hb4⟩ := OutX.ok ho4
  have hkr4 := hb4.at HKR3.out (by omega)
  have e0 := Lib.cell_of_heap hkr4 0
  have e1 := Lib.cell_of_heap hkr4 1
  have e2 := Lib.cell_of_heap hkr4 2
  have e3 := Lib.cell_of_heap hkr4 3
  have e4 := Lib.cell_of_heap hkr4 4
  have e5 := Lib.cell_of_heap hkr4 5
  have e6 := Lib.cell_of_heap hkr4 6
  have e7 := Lib.cell_of_heap hkr4 7
  have f0 := Lib.frozen_of_heap hkr4 0
  have f1 := Lib.frozen_of_heap hkr4 1
  have f2 := Lib.frozen_of_heap hkr4 2
  have f3 := Lib.frozen_of_heap hkr4 3
  have f4 := Lib.frozen_of_heap hkr4 4
  have f5 := Lib.frozen_of_heap hkr4 5
  have f6 := Lib.frozen_of_heap hkr4 6
  have f7 := Lib.frozen_of_heap hkr4 7
  simp only [List.getElem?_toArray, List.getElem?_cons_zero, List.getElem?_cons_succ] at e0 e1 e2 e3 e4 e5 e6 e7
  obtain ⟨W5, hW5⟩ : ∃ W5, W5 = set8 w4 w.heap.size (.int .u8 k1) (.slice a1 n1 c1) (.slice b1 o1 qq1) (.int .i64 lo1) (.bool ls1) (.int .i64 hi1) (.bool hs1) (.bool op1) := ⟨_, rfl⟩
  have hsz3 : w.heap.size < (w2.setCell ⟨pb, 1, none⟩ (.int .i64 ((deep + 1 : Nat) : Int))).heap.size := (Array.getElem?_eq_some_iff.1 HKR3.out).1
  have HKR5 : Hid (W5.heap[w.heap.size]? = some (.cells #[.int .u8 k1, .slice a1 n1 c1, .slice b1 o1 qq1, .int .i64 lo1, .bool ls1, .int .i64 hi1, .bool hs1, .bool op1] 28 (0, 0))) := by rw [Hid, hW5]; exact set8_at hkr4 _ _ _ _ _ _ _ _
  have HP5 : Hid (Ps pb tb W5 r (deep + 1)) := by rw [Hid, hW5]; exact hp4.set8 (by omega) htb _ _ _ _ _ _ _ _
  have HB5 : Hid (Bt pb w W5) := by rw [Hid, hW5]; exact (HB3.out.trans hb4).set8 (Nat.le_refl _) _ _ _ _ _ _ _ _
  have HF5 : Hid (XI (fun b => decide (w.heap.size ≤ b) && b != w.heap.size) W5 x (.agg #[.int .u8 k1, .slice a1 n1 c1, .slice b1 o1 qq1, .int .i64 lo1, .bool ls1, .int .i64 hi1, .bool hs1, .bool op1])) := by
   rw [Hid, hW5]
   refine hf.go ⟨by rw [set8_size]; exact Nat.le_refl _, fun b hbz hpn => ?_⟩
   have hpn' := of_decide_eq_true hpn
   refine ⟨?_, set8_other _ _ _ _ _ _ _ _ _ _ _ (by omega)⟩
   simp only [Bool.and_eq_true, decide_eq_true_eq, bne_iff_ne, ne_eq]
   omega
  have HNW := Lib.hid hW5
  have HSZ5 : Hid (w4.heap.size = W5.heap.size) := by rw [Hid, hW5, set8_size]
  clear hf hp4 hb4 hkr4 ho4 hsz3 q HCALL hW5
  go_wp2_with fail
  have eW : set8 w4 w.heap.size (.int .u8 k1) (.slice a1 n1 c1) (.slice b1 o1 qq1) (.int .i64 lo1) (.bool ls1) (.int .i64 hi1) (.bool hs1) (.bool op1) = W5 := HNW.out.symm
  unfold set8 at eW
  rw [eW]
  clear eW e0 e1 e2 e3 e4 e5 e6 e7 f0 f1 f2 f3 f4 f5 f6 f7 z0 z1 hlt2
  cases qt : isT c.data.toList r with
  | false =>
   have HTK := Lib.hid (HT2.out (W5.alloc (.cells #[.string c] 9)) r w4.heap.size (HP5.out.alloc _) (hp_top HSZ5.out) qt)
   have HTR : Hid (takeT c.data.toList r = .error (170, placeT r)) := by rw [Hid, takeT, qt]; rfl
   refine HTK.out.mono ?_
   rintro e w6 ⟨rfl, hb6⟩
   have HB6 := Lib.hid ((HB5.out.alloc _).trans hb6)
   clear hb6 qt
   go_wp2_with fail
   refine ⟨rfl, ?_⟩
   rw [HRES.out, HQ.out]
   simp only [HTR.out]
   exact ⟨rfl, HB6.out⟩
  | true =>
   have HTK := Lib.hid (HT1.out (W5.alloc (.cells #[.string c] 9)) r w4.heap.size (HP5.out.alloc _) (hp_top HSZ5.out) qt)
   have HTR : Hid (takeT c.data.toList r = .ok r.tail) := by rw [Hid, takeT, qt]; rfl
   refine HTK.out.mono ?_
   rintro e w6 ⟨rfl, hp6, hb6⟩
   have hb56 := (Bt.refl pb W5).alloc (.cells #[.string c] 9) |>.trans hb6
   obtain ⟨hp7, hb7⟩ := hp6.set1 deep
   obtain ⟨z0, z1⟩ := hp6.deepAt
   have hlt6 := hp6.lt
   have hb57 := hb56.trans hb7
   have hkr7 := hb57.at HKR5.out (by omega)
   have hkr6 := hb56.at HKR5.out (by omega)
   have g0 := Lib.cell_of_heap hkr7 0
   have g1 := Lib.cell_of_heap hkr7 1
   have g2 := Lib.cell_of_heap hkr7 2
   have g3 := Lib.cell_of_heap hkr7 3
   have g4 := Lib.cell_of_heap hkr7 4
   have g5 := Lib.cell_of_heap hkr7 5
   have g6 := Lib.cell_of_heap hkr7 6
   have g7 := Lib.cell_of_heap hkr7 7
   have f0 := Lib.frozen_of_heap hkr7 0
   have f1 := Lib.frozen_of_heap hkr7 1
   have f2 := Lib.frozen_of_heap hkr7 2
   have f3 := Lib.frozen_of_heap hkr7 3
   have f4 := Lib.frozen_of_heap hkr7 4
   have f5 := Lib.frozen_of_heap hkr7 5
   have f6 := Lib.frozen_of_heap hkr7 6
   have f7 := Lib.frozen_of_heap hkr7 7
   have e0 := Lib.cell_of_heap hkr6 0
   have e1 := Lib.cell_of_heap hkr6 1
   have e2 := Lib.cell_of_heap hkr6 2
   have e3 := Lib.cell_of_heap hkr6 3
   have e4 := Lib.cell_of_heap hkr6 4
   have e5 := Lib.cell_of_heap hkr6 5
   have e6 := Lib.cell_of_heap hkr6 6
   have e7 := Lib.cell_of_heap hkr6 7
   have u0 := Lib.frozen_of_heap hkr6 0
   have u1 := Lib.frozen_of_heap hkr6 1
   have u2 := Lib.frozen_of_heap hkr6 2
   have u3 := Lib.frozen_of_heap hkr6 3
   have u4 := Lib.frozen_of_heap hkr6 4
   have u5 := Lib.frozen_of_heap hkr6 5
   have u6 := Lib.frozen_of_heap hkr6 6
   have u7 := Lib.frozen_of_heap hkr6 7
   simp only [List.getElem?_toArray, List.getElem?_cons_zero, List.getElem?_cons_succ] at g0 g1 g2 g3 g4 g5 g6 g7 e0 e1 e2 e3 e4 e5 e6 e7
   have HAT : Hid ((set8 (w6.setCell ⟨pb, 1, none⟩ (.int .i64 deep)) w.heap.size (.int .u8 k1) (.slice a1 n1 c1) (.slice b1 o1 qq1) (.int .i64 lo1) (.bool ls1) (.int .i64 hi1) (.bool hs1) (.bool op1)).heap[w.heap.size]? = some (.cells #[.int .u8 k1, .slice a1 n1 c1, .slice b1 o1 qq1, .int .i64 lo1, .bool ls1, .int .i64 hi1, .bool hs1, .bool op1] 28 (0, 0))) := set8_at hkr7 _ _ _ _ _ _ _ _
   have HFIN : Hid (OutWX pb tb deep w (some (.ok (x, r.tail))) (.returned (.tuple #[.agg #[.int .u8 k1, .slice a1 n1 c1, .slice b1 o1 qq1, .int .i64 lo1, .bool ls1, .int .i64 hi1, .bool hs1, .bool op1], .bool true])) (set8 (w6.setCell ⟨pb, 1, none⟩ (.int .i64 deep)) w.heap.size (.int .u8 k1) (.slice a1 n1 c1) (.slice b1 o1 qq1) (.int .i64 lo1) (.bool ls1) (.int .i64 hi1) (.bool hs1) (.bool op1))) := by
    refine ⟨_, rfl, ?_, hp7.set8 (by omega) htb _ _ _ _ _ _ _ _, (HB5.out.trans hb57).set8 (Nat.le_refl _) _ _ _ _ _ _ _ _⟩
    refine HF5.out.go ⟨?_, fun b hbz hpc => ?_⟩
    ·rw [set8_size]; exact hb57.2.2.2.1
    ·simp only [Bool.and_eq_true, decide_eq_true_eq, bne_iff_ne, ne_eq] at hpc
     exact ⟨decide_eq_true hpc.1, (set8_other _ _ _ _ _ _ _ _ _ _ _ hpc.2).trans (hb57.2.2.2.2 b hbz (by omega))⟩
   clear hp6 hb6 hp7 hb7 hb56 hb57 hkr7 hkr6 qt
   go_wp2_with fail
   refine bodyPost_ret (results_cell_row_tmp rfl _ _ _ _ _ _ _ _ rfl rfl HAT.out Tryz.underlying28 rfl (by kernel_rfl)) rfl ?_
   rw [HRES.out, HQ.out]
   simp only [HTR.out]
   exact HFIN.out
end Go.Proofs.YtpgdplmndnopbaaGreatDoor

/- lex.single, lex.may, lex.Near. -/
namespace Go.Proofs.YtpgdplmndnopbaaGreatDoor
open Go.RowKit Go.Shelf
attribute [local go_sem ↓] Go.wp_at_zero Go.wp_at_succ
theorem singleR_no {s : ByteArray} (h : ∀ t, (cutR s).2.2 = 0 → (cutR s).1 = [t] → t.text ≠ s) : singleR s = (noTok, false) := by
 unfold singleR
 by_cases hk : kindOf s.data.toList = 0
 ·simp [hk]
 ·exfalso
  have h1 := (cut_single s.data.toList [⟨kindOf s.data.toList, bsOf s.data.toList, 0⟩]).2 ⟨hk, rfl⟩
  have hz := kind_size hk
  have h2 : cutR s = ([⟨kindOf s.data.toList, bsOf s.data.toList, 0⟩], 0, 0) := by rw [cutR, if_neg (by omega), h1.1]
  exact h _ (by rw [h2]) (by rw [h2]) (bsOf_of s)
theorem singleR_yes {s : ByteArray} (t : Tok) (h0 : (cutR s).2.2 = 0) (h1 : (cutR s).1 = [t]) (h2 : t.text = s) : singleR s = (t, true) := by
 obtain ⟨_, hc, _⟩ := cutR_ok h0
 rw [h1] at hc
 have := (cut_single s.data.toList [t]).1 ⟨hc, rfl, by rw [List.head?_cons, Option.map_some, h2, bsOf_of]⟩
 unfold singleR
 rw [if_pos this.1]
 have ht := (List.cons.inj this.2).1
 rw [ht, bsOf_of]
set_option maxRecDepth 100000 in
set_option maxHeartbeats 4000000 in
theorem single38_any (s : ByteArray) (w : World) (hr : Rdy w) : Calls Tryz.prog 136 #[.string s] w fun e w' =>
 e = .returned (.tuple #[(singleR s).1.val, .bool (singleR s).2]) ∧ Below w.heap.size w w' := by
 have HCUT := Lib.hid (cut9_any s (w.alloc (.cells #[.int .u8 0, .string .empty, .int .i64 0] 51)) (hr.below ((Below.refl _ w).alloc (Nat.le_refl _) _)))
 have hz : (w.alloc (.cells #[.int .u8 0, .string .empty, .int .i64 0] 51)).heap.size = w.heap.size + 1 := by simp
 have HN := Lib.hid (@singleR_no s)
 have HY := Lib.hid (@singleR_yes s)
 have HRR : Hid (∀ t b, singleR s = (t, b) → (Ending.returned (.tuple #[t.val, .bool b]) : Ending) = .returned (.tuple #[(singleR s).1.val, .bool (singleR s).2])) := by rintro t b h; rw [h]
 generalize cutR s = C at HCUT HN HY
 obtain ⟨l, at_, er⟩ := C
 dsimp only at HCUT HN HY
 go_enter Tryz.func136, Tryz.ntmps136
 go_wp2_with fail
 refine HCUT.out.mono ?_
 rintro e w1 ⟨⟨v', rfl, hown⟩, hb1⟩
 have hbw : Below w.heap.size w w1 := ((Below.refl _ w).alloc (Nat.le_refl _) _).trans (hb1.mono (by rw [hz]; omega))
 have hblk : w1.heap[w.heap.size]? = some (.cells #[.int .u8 0, .string .empty, .int .i64 0] 51 (0, 0)) := by
  rw [hb1.block w.heap.size (by rw [hz]; omega)]
  exact Array.getElem?_push_size
 have HBW := Lib.hid hbw
 have HBL := Lib.hid hblk
 clear hbw hblk hb1 hz
 by_cases her : er = 0
 ·subst her
  by_cases hln : l.length = 1
  ·obtain ⟨t, rfl⟩ : ∃ t, l = [t] := List.length_eq_one_iff.1 hln
   obtain ⟨g, cp, rfl, _, hgl, hc, _, _⟩ := hown.at (by simp)
   have h3 := hc 0 (by simp)
   simp only [List.getElem_cons_zero, Nat.zero_mul, Nat.zero_add, Nat.add_zero] at h3
   obtain ⟨g0, g1, g2⟩ := h3
   have hln1 : ((([t] : List Tok).length : Int) != 1) = false := by simp
   simp only [List.length_cons, List.length_nil, Nat.zero_add] at *
   obtain ⟨tk, tt, tp⟩ := t
   dsimp only at g0 g1 g2
   clear hc hown
   by_cases hx : tt = s
   ·have HF : Hid (singleR s = (⟨tk, tt, tp⟩, true)) := HY.out _ (by trivial) rfl hx
    have HX := Lib.hid hx
    have q : (tt.toList == s.toList) = true := by rw [hx]; simp
    clear hx
    have c0 := Lib.cell_of_heap HBL.out 0
    have c1 := Lib.cell_of_heap HBL.out 1
    have c2 := Lib.cell_of_heap HBL.out 2
    have f0 := Lib.frozen_of_heap HBL.out 0
    have f1 := Lib.frozen_of_heap HBL.out 1
    have f2 := Lib.frozen_of_heap HBL.out 2
    simp only [List.getElem?_toArray, List.getElem?_cons_zero, List.getElem?_cons_succ] at c0 c1 c2
    go_wp2_with fail
    obtain ⟨k0, k1, k2⟩ := set3_cells HBL.out (.int .u8 tk) (.string tt) (.int .i64 tp)
    exact bodyPost_ret (results_row_tmp rfl rfl rfl (Tryz.isAgg51 _) (Tryz.sizeOf51 _) k0 k1 k2) rfl ⟨by rw [← HRR.out _ _ HF.out]; rfl, set3_below HBW.out (Nat.le_refl _) _ _ _⟩
   ·have HF : Hid (singleR s = (noTok, false)) := HN.out (fun t _ h => by rw [← (List.cons.inj h).1]; exact hx)
    have q : (tt.toList == s.toList) = false := by simpa using fun h => hx (toList_inj h)
    clear hx
    have c0 := Lib.cell_of_heap HBL.out 0
    have c1 := Lib.cell_of_heap HBL.out 1
    have c2 := Lib.cell_of_heap HBL.out 2
    have f0 := Lib.frozen_of_heap HBL.out 0
    have f1 := Lib.frozen_of_heap HBL.out 1
    have f2 := Lib.frozen_of_heap HBL.out 2
    simp only [List.getElem?_toArray, List.getElem?_cons_zero, List.getElem?_cons_succ] at c0 c1 c2
    go_wp2_with fail
    obtain ⟨k0, k1, k2⟩ := set3_cells HBL.out (.int .u8 0) (.string .empty) (.int .i64 0)
    exact bodyPost_ret (results_row_tmp rfl rfl rfl (Tryz.isAgg51 _) (Tryz.sizeOf51 _) k0 k1 k2) rfl ⟨by rw [← HRR.out _ _ HF.out]; rfl, set3_below HBW.out (Nat.le_refl _) _ _ _⟩
  ·have HF : Hid (singleR s = (noTok, false)) := HN.out (fun t _ h => by rw [h] at hln; exact absurd rfl hln)
   obtain ⟨a9, c9, rfl⟩ := hown.shape
   have q : ((l.length : Int) == 1) = false := by simp; omega
   have q2 : ((l.length : Int) != 1) = true := by simp; omega
   clear hln hown
   have c0 := Lib.cell_of_heap HBL.out 0
   have c1 := Lib.cell_of_heap HBL.out 1
   have c2 := Lib.cell_of_heap HBL.out 2
   have f0 := Lib.frozen_of_heap HBL.out 0
   have f1 := Lib.frozen_of_heap HBL.out 1
   have f2 := Lib.frozen_of_heap HBL.out 2
   simp only [List.getElem?_toArray, List.getElem?_cons_zero, List.getElem?_cons_succ] at c0 c1 c2
   go_wp2_with fail
   obtain ⟨k0, k1, k2⟩ := set3_cells HBL.out (.int .u8 0) (.string .empty) (.int .i64 0)
   exact bodyPost_ret (results_row_tmp rfl rfl rfl (Tryz.isAgg51 _) (Tryz.sizeOf51 _) k0 k1 k2) rfl ⟨by rw [← HRR.out _ _ HF.out]; rfl, set3_below HBW.out (Nat.le_refl _) _ _ _⟩
 ·have HF : Hid (singleR s = (noTok, false)) := HN.out (fun t h _ => absurd h her)
  have q : (er == 0) = false := by simpa using her
  have q2 : (er != 0) = true := by simpa using her
  clear her hown
  have c0 := Lib.cell_of_heap HBL.out 0
  have c1 := Lib.cell_of_heap HBL.out 1
  have c2 := Lib.cell_of_heap HBL.out 2
  have f0 := Lib.frozen_of_heap HBL.out 0
  have f1 := Lib.frozen_of_heap HBL.out 1
  have f2 := Lib.frozen_of_heap HBL.out 2
  simp only [List.getElem?_toArray, List.getElem?_cons_zero, List.getElem?_cons_succ] at c0 c1 c2
  go_wp2_with fail
  obtain ⟨k0, k1, k2⟩ := set3_cells HBL.out (.int .u8 0) (.string .empty) (.int .i64 0)
  exact bodyPost_ret (results_row_tmp rfl rfl rfl (Tryz.isAgg51 _) (Tryz.sizeOf51 _) k0 k1 k2) rfl ⟨by rw [← HRR.out _ _ HF.out]; rfl, set3_below HBW.out (Nat.le_refl _) _ _ _⟩
end Go.Proofs.YtpgdplmndnopbaaGreatDoor

/- lex.Name. -/
namespace Go.Proofs.YtpgdplmndnopbaaGreatDoor
open Go.RowKit Go.Shelf
attribute [local go_sem ↓] Go.wp_at_zero Go.wp_at_succ
def wordsL : List UInt8 := [32, 116, 114, 117, 101, 32, 102, 97, 108, 115, 101, 32, 111, 111, 32]
theorem words_fin : ∀ i : Fin 16, (wordsL.drop i.val).head? = some 32 → ((wordsL.drop i.val).drop 1).takeWhile (· != 32) = [] ∨ ((wordsL.drop i.val).drop 1).takeWhile (· != 32) = [116, 114, 117, 101] ∨ ((wordsL.drop i.val).drop 1).takeWhile (· != 32) = [102, 97, 108, 115, 101] ∨ ((wordsL.drop i.val).drop 1).takeWhile (· != 32) = [111, 111] := by decide
theorem takeWhile_sep (l x : List UInt8) (h : ∀ b ∈ l, b ≠ 32) : (l ++ 32 :: x).takeWhile (· != 32) = l := by
 induction l with
 | nil => simp
 | cons b r ih =>
  have hb : (b != 32) = true := by simpa using h b (by simp)
  rw [List.cons_append, List.takeWhile_cons, hb, if_pos rfl, ih (fun c hc => h c (by simp [hc]))]
theorem contains_word (l : List UInt8) (hne : l ≠ []) (h : ∀ b ∈ l, b ≠ 32) : Lib.contains wordsL (32 :: l ++ [32]) = (l == [116, 114, 117, 101] || l == [102, 97, 108, 115, 101] || l == [111, 111]) := by
 rw [Bool.eq_iff_iff]
 constructor
 ·intro hc
  simp only [Lib.contains, decide_eq_true_eq] at hc
  rcases Lib.index_spec wordsL (32 :: l ++ [32]) with ⟨h1, _⟩ | ⟨i, _, h2, h3, _⟩
  ·omega
  ·simp only [Lib.occAt, List.isPrefixOf_iff_prefix] at h3
   obtain ⟨x, hx⟩ := h3
   have hf := words_fin ⟨i, by have : wordsL.length = 15 := rfl; omega⟩
   simp only at hf
   rw [← hx] at hf
   have h4 : List.takeWhile (fun b : UInt8 => b != 32) (List.drop 1 (32 :: l ++ [32] ++ x)) = l := by
    have : List.drop 1 (32 :: l ++ [32] ++ x) = l ++ 32 :: x := by simp
    rw [this, takeWhile_sep l x h]
   rw [h4] at hf
   rcases hf (by simp) with e | e | e | e
   ·exact absurd e hne
   ·simp [e]
   ·simp [e]
   ·simp [e]
 ·intro hc
  simp only [Bool.or_eq_true, beq_iff_eq] at hc
  rcases hc with (e | e) | e <;> subst e <;> decide
theorem row_no_blank {l : List UInt8} (h : l.all isRow = true) : ∀ b ∈ l, b ≠ 32 := by
 rw [List.all_eq_true] at h
 rintro b hb rfl
 have := h 32 hb
 revert this; decide
theorem kindOf_one {l : List UInt8} : (kindOf l == 1) = wordB l := by
 rw [← kindB_eq]
 unfold kindB
 cases wordB l with
 | true => rfl
 | false =>
  cases numB l with
  | true => rfl
  | false => cases signB l <;> rfl
theorem wordB_row {l : List UInt8} (h : wordB l = true) : l ≠ [] ∧ l.all isRow = true ∧ l.length ≤ 8 := by
 simp only [wordB, Bool.and_eq_true, decide_eq_true_eq, beq_iff_eq] at h
 cases l with
 | nil => simp at h
 | cons b r =>
  refine ⟨by simp, ?_, h.1.1.2⟩
  have h1 : isLow b = true := by simpa using h.1.2
  have h2 : r.all isRow = true := by simpa using h.2
  simp only [List.all_cons, h2, isRow, h1, Bool.true_or, Bool.and_self]
theorem nameB_single (s : ByteArray) : nameB s.data.toList = ((singleR s).2 && ((singleR s).1.kind == 1) && !(Lib.contains wordsL (32 :: s.data.toList ++ [32]))) := by
 unfold singleR nameB
 by_cases hw : wordB s.data.toList = true
 ·have hk := kindOf_one (l := s.data.toList)
  rw [hw] at hk
  have hk1 : kindOf s.data.toList = 1 := by simpa using hk
  obtain ⟨h1, h2, _⟩ := wordB_row hw
  rw [if_pos (by rw [hk1]; decide), contains_word _ h1 (row_no_blank h2), hw]
  simp only [hk1, bne, Bool.true_and, beq_self_eq_true, Bool.not_or]
 ·have hw' : wordB s.data.toList = false := by simpa using hw
  have hk := kindOf_one (l := s.data.toList)
  rw [hw'] at hk
  rw [hw']
  split
  ·simp only [hk]; simp
  ·simp
set_option maxRecDepth 100000 in
set_option maxHeartbeats 4000000 in
theorem name19_any (s : ByteArray) (hs : s.size ≤ 1048576) (w : World) (hr : Rdy w) : Calls Tryz.prog 87 #[.string s] w fun e w' =>
 e = .returned (.bool (nameB s.data.toList)) ∧ Below w.heap.size w w' := by
 have HSI := Lib.hid (single38_any s w hr)
 have HE := Lib.hid (nameB_single s)
 have hadd1 : ∀ W, (Op.stringOp .add ⟨#[32]⟩ s).run Tryz.prog W = .ok (.string (⟨#[32]⟩ ++ s)) W := fun W => run_string_add_sum W _ s (by show 1 + s.size ≤ _; omega)
 have hsz : ((⟨#[32]⟩ : ByteArray) ++ s).size = 1 + s.size := by rw [ByteArray.size_append]; rfl
 have hadd2 : ∀ W, (Op.stringOp .add (⟨#[32]⟩ ++ s) ⟨#[32]⟩).run Tryz.prog W = .ok (.string (⟨#[32]⟩ ++ s ++ ⟨#[32]⟩)) W := fun W => run_string_add_sum W _ _ (by rw [hsz]; show 1 + s.size + 1 ≤ _; omega)
 have hL : ((⟨#[32]⟩ : ByteArray) ++ s ++ ⟨#[32]⟩).data.toList = 32 :: s.data.toList ++ [32] := by simp [ByteArray.data_append]
 have HC : Hid (∀ W, Rdy W → Calls Tryz.prog 137 #[.string ⟨#[32, 116, 114, 117, 101, 32, 102, 97, 108, 115, 101, 32, 111, 111, 32]⟩, .string (⟨#[32]⟩ ++ s ++ ⟨#[32]⟩)] W fun e w' => e = .returned (.bool (Lib.contains wordsL (32 :: s.data.toList ++ [32]))) ∧ w' = W) := by
  intro W hW
  obtain ⟨m, hm⟩ := hW.1
  have := Tryz.strings_Contains ⟨#[32, 116, 114, 117, 101, 32, 102, 97, 108, 115, 101, 32, 111, 111, 32]⟩ (⟨#[32]⟩ ++ s ++ ⟨#[32]⟩) m W (by decide) hm
  rw [hL] at this
  exact this
 have HR := Lib.hid hr
 clear hr hsz hL
 generalize (⟨#[32]⟩ : ByteArray) ++ s ++ ⟨#[32]⟩ = Y at hadd2 HC
 generalize (⟨#[32]⟩ : ByteArray) ++ s = X at hadd1 hadd2
 generalize singleR s = S at HSI HE
 obtain ⟨⟨sk, st, sp⟩, ok⟩ := S
 dsimp only [Tok.val] at HSI HE
 generalize Lib.contains wordsL (32 :: s.data.toList ++ [32]) = C at HC HE
 go_enter Tryz.func87, Tryz.ntmps87
 go_wp2_with fail
 refine HSI.out.mono ?_
 rintro e w1 ⟨rfl, hb1⟩
 have HRW := Lib.hid (HR.out.below hb1)
 have HB := Lib.hid (hb1.alloc hb1.size (.cells #[.int .u8 sk, .string st, .int .i64 sp] 51))
 clear hb1
 cases ok with
 | false =>
  go_wp2_with fail
  all_goals go_ret
  all_goals exact ⟨ret_bool' (by rw [HE.out]; rfl), HB.out⟩
 | true =>
  cases hk : sk == 1 with
  | false =>
   go_wp2_with fail
   all_goals go_ret
   all_goals exact ⟨ret_bool' (by rw [HE.out, hk]; rfl), HB.out⟩
  | true =>
   have HK := Lib.hid hk
   have HCA := Lib.hid (HC.out (w1.alloc (.cells #[.int .u8 sk, .string st, .int .i64 sp] 51)) (HRW.out.below ((Below.refl _ w1).alloc (Nat.le_refl _) _)))
   go_wp2_with (go_at_call 137; refine HCA.out.mono ?_; rintro e w2 ⟨rfl, rfl⟩)
   all_goals go_ret
   all_goals exact ⟨ret_bool' (by rw [HE.out, HK.out]; simp), HB.out⟩
end Go.Proofs.YtpgdplmndnopbaaGreatDoor
