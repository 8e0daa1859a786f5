/- The parser walked: marks of repetition. (Printed by gen_pst.py.) -/
import Derived.Test.YtpgdplmndnopbaaGreatDoorPsO
namespace Go.Proofs.YtpgdplmndnopbaaGreatDoor
open Go.RowKit
set_option maxRecDepth 100000 in
set_option maxHeartbeats 8000000 in
theorem more91_any (pb tb d : Nat) (hp4 : 4 ≤ pb) (htre : TreC pb tb d) (deep : Nat) (l : List Tok) (w : World) (hd : deep ≤ 64) (hdd : 64 ≤ deep + d) (hrd : Rdy w) (h : Ps pb tb w l deep) :
 Calls Tryz.prog 91 #[.pointer (some ⟨pb, 0, none⟩)] w (OutX pb tb deep w (moreR (treR d) deep l)) := by
 have hpb := h.lt
 have htb := h.tb_lt
 obtain ⟨W1, hW1⟩ : ∃ W1, W1 = w.alloc (.cells #[.int .u8 0, .slice none 0 0, .slice none 0 0, .int .i64 0, .bool false, .int .i64 0, .bool false, .bool false] 28) := ⟨_, rfl⟩
 have hb1 : Bt pb w W1 := by rw [hW1]; exact (Bt.refl _ _).alloc _
 have hP1 : Ps pb tb W1 l deep := by rw [hW1]; exact h.alloc _
 have HR1 : Hid (W1.heap[w.heap.size]? = some (.cells #[.int .u8 0, .slice none 0 0, .slice none 0 0, .int .i64 0, .bool false, .int .i64 0, .bool false, .bool false] 28 (0, 0))) := by rw [Hid, hW1]; exact hp_top rfl
 have hz1 : W1.heap.size = w.heap.size + 1 := by rw [hW1]; simp
 have HO := Lib.hid (base140_any pb tb d hp4 htre deep l W1 hd hdd (hrd.bt hp4 hb1) hP1)
 have HB1 := Lib.hid hb1
 have HW1 := Lib.hid hW1.symm
 clear h hb1 hP1 hrd htre hd hdd hW1
 cases q : baseR (treR d) deep l with
 | error c =>
  have HR : Hid (moreR (treR d) deep l = .error c) := by rw [Hid]; unfold moreR; rw [q]
  rw [HR.out]
  rw [q] at HO
  clear q HR
  go_enter Tryz.func91, Tryz.ntmps91
  go_wp2_with fail
  rw [HW1.out]
  refine HO.out.mono ?_
  rintro e w1 ⟨rfl, hb⟩
  have HB := Lib.hid (HB1.out.trans hb)
  clear hb
  go_wp2_with fail
  exact ⟨rfl, rfl, HB.out⟩
 | ok xr =>
  obtain ⟨x, r⟩ := xr
  have HR : Hid (moreR (treR d) deep l = .ok (plusR r.length x r)) := by rw [Hid]; unfold moreR; rw [q]
  rw [HR.out]
  rw [q] at HO
  clear q HR
  go_enter Tryz.func91, Tryz.ntmps91
  go_wp2_with fail
  rw [HW1.out]
  clear HW1
  refine HO.out.mono ?_
  rintro e w1 ho
  obtain ⟨k1, a1, m1, c1, b1, o1, qq1, lo1, ls1, hi1, hs1, op1, rfl, hf, hp, hb⟩ := OutX.ok ho
  obtain ⟨kv, hkv⟩ : ∃ kv, kv = w1.heap.size := ⟨_, rfl⟩
  have hzb := hb.2.2.2.1
  have hkr : w.heap.size ≠ kv := by omega
  have hkvp : kv ≠ pb := by omega
  have hkvt : tb ≠ kv := by omega
  have hle : w.heap.size ≤ kv := by omega
  have H0 : Hid (ChX pb tb deep w.heap.size kv w (w1.alloc (.cells #[.int .u8 k1, .slice a1 m1 c1, .slice b1 o1 qq1, .int .i64 lo1, .bool ls1, .int .i64 hi1, .bool hs1, .bool op1] 28)) x r) := by
   refine ⟨⟨k1, a1, m1, c1, b1, o1, qq1, lo1, ls1, hi1, hs1, op1, hp_top hkv, hf.go ⟨by simp, fun b hb' hpn => ⟨?_, Lib.alloc_old _ _ _ hb'⟩⟩⟩, hp.alloc _, (HB1.out.trans hb).alloc _, hp_in (hb.at HR1.out (by omega))⟩
   have : W1.heap.size ≤ b := by simpa [pN] using hpn
   simp only [pC, Bool.and_eq_true, decide_eq_true_eq, bne_iff_ne, ne_eq]
   omega
  have HKQ := Lib.hid hkv.symm
  clear ho hf hp hb HO HB1 HR1 hz1 hzb hkv
  go_wp2_with fail
  rw [HKQ.out]
  clear HKQ
  go_loopw [] (fun wr => ∃ (x' : X) (l' : List Tok) (n' : Nat), l'.length ≤ n' ∧ Hid (plusR r.length x r = plusR n' x' l') ∧ Hid (ChX pb tb deep w.heap.size kv w wr x' l')) (fun wr => leftN pb wr)
  case atStart => exact ⟨x, r, r.length, Nat.le_refl _, rfl, H0⟩
  case round =>
  clear H0
  obtain ⟨x', l', n', hn', HEQ, HC⟩ := hrel
  obtain ⟨k', a', m', c', b', o', qq', lo', ls', hi', hs', op', hkvb, hfi⟩ := HC.out.acc
  have HM := Lib.hid (may139_any pb tb deep l' ⟨#[43]⟩ (by decide) wr HC.out.ps)
  have HM : Hid (Calls Tryz.prog 139 #[.pointer (some ⟨pb, 0, none⟩), .string ⟨#[43]⟩] wr fun e w' => e = .returned (.bool (isT [43] l')) ∧ Ps pb tb w' (if isT [43] l' then l'.tail else l') deep ∧ Bt pb wr w') := HM
  have HKV := Lib.hid hkvb
  have HFI := Lib.hid hfi
  obtain ⟨t0, l0, hl0⟩ := HC.out.ps.ends.cons
  have hn1 : 1 ≤ n' := by rw [hl0] at hn'; simp at hn'; omega
  obtain ⟨n0, rfl⟩ : ∃ n0, n' = n0 + 1 := ⟨n' - 1, by omega⟩
  have HL0 := Lib.hid hl0
  have HN' := Lib.hid hn'
  clear hkvb hfi hl0 hn1 hn'
  cases qi : isT [43] l' with
  | false =>
   rw [qi] at HM
   simp only [Bool.false_eq_true, if_false] at HM
   have HFIN : Hid (plusR r.length x r = (x', l')) := by
    rw [Hid, HEQ.out]; simp only [plusR]; rw [qi]; simp
   clear qi
   go_wp2_with fail
   refine HM.out.mono ?_
   rintro e w2 ⟨rfl, hp2, hb2⟩
   have hkv2 := hb2.at HKV.out hkvp
   have hkr2 := hb2.at HC.out.res (by omega)
   have d0 := Lib.cell_of_heap hkv2 0
   have d1 := Lib.cell_of_heap hkv2 1
   have d2 := Lib.cell_of_heap hkv2 2
   have d3 := Lib.cell_of_heap hkv2 3
   have d4 := Lib.cell_of_heap hkv2 4
   have d5 := Lib.cell_of_heap hkv2 5
   have d6 := Lib.cell_of_heap hkv2 6
   have d7 := Lib.cell_of_heap hkv2 7
   simp only [List.getElem?_toArray, List.getElem?_cons_zero, List.getElem?_cons_succ] at d0 d1 d2 d3 d4 d5 d6 d7
   have e0 := Lib.cell_of_heap hkr2 0
   have e1 := Lib.cell_of_heap hkr2 1
   have e2 := Lib.cell_of_heap hkr2 2
   have e3 := Lib.cell_of_heap hkr2 3
   have e4 := Lib.cell_of_heap hkr2 4
   have e5 := Lib.cell_of_heap hkr2 5
   have e6 := Lib.cell_of_heap hkr2 6
   have e7 := Lib.cell_of_heap hkr2 7
   have f0 := Lib.frozen_of_heap hkr2 0
   have f1 := Lib.frozen_of_heap hkr2 1
   have f2 := Lib.frozen_of_heap hkr2 2
   have f3 := Lib.frozen_of_heap hkr2 3
   have f4 := Lib.frozen_of_heap hkr2 4
   have f5 := Lib.frozen_of_heap hkr2 5
   have f6 := Lib.frozen_of_heap hkr2 6
   have f7 := Lib.frozen_of_heap hkr2 7
   simp only [List.getElem?_toArray, List.getElem?_cons_zero, List.getElem?_cons_succ] at e0 e1 e2 e3 e4 e5 e6 e7
   have HAT : Hid ((set8 w2 w.heap.size (.int .u8 k') (.slice a' m' c') (.slice b' o' qq') (.int .i64 lo') (.bool ls') (.int .i64 hi') (.bool hs') (.bool op')).heap[w.heap.size]? = some (.cells #[.int .u8 k', .slice a' m' c', .slice b' o' qq', .int .i64 lo', .bool ls', .int .i64 hi', .bool hs', .bool op'] 28 (0, 0))) := set8_at hkr2 _ _ _ _ _ _ _ _
   have HOUT : Hid (OutX pb tb deep w (.ok (x', l')) (.returned (.agg #[.int .u8 k', .slice a' m' c', .slice b' o' qq', .int .i64 lo', .bool ls', .int .i64 hi', .bool hs', .bool op'])) (set8 w2 w.heap.size (.int .u8 k') (.slice a' m' c') (.slice b' o' qq') (.int .i64 lo') (.bool ls') (.int .i64 hi') (.bool hs') (.bool op'))) := by
    have hbb : Bt pb w w2 := HC.out.bt.trans hb2
    refine ⟨_, rfl, ?_, hp2.set8 (by omega) (by omega) _ _ _ _ _ _ _ _, hbb.set8 (Nat.le_refl _) _ _ _ _ _ _ _ _⟩
    refine HFI.out.go ⟨?_, fun b hbz hpc => ?_⟩
    ·rw [set8_size]; exact hb2.2.2.2.1
    ·simp only [pC, Bool.and_eq_true, decide_eq_true_eq, bne_iff_ne, ne_eq] at hpc
     exact ⟨by simpa [pN] using hpc.1.1, (set8_other _ _ _ _ _ _ _ _ _ _ _ hpc.1.2).trans (hb2.2.2.2.2 b hbz (by omega))⟩
   clear hkv2 hkr2 hp2 hb2
   go_wp2_with fail
   first | refine bodyPost_ret (results_cell_row rfl _ _ _ _ _ _ _ rfl HAT.out Tryz.underlying28 rfl (by kernel_rfl)) rfl ?_ | refine And.intro rfl (Exists.intro _ (And.intro (results_cell_row rfl _ _ _ _ _ _ _ rfl HAT.out Tryz.underlying28 rfl (by kernel_rfl)) ?_))
   rw [HFIN.out]
   exact HOUT.out
  | true =>
   rw [qi] at HM
   simp only [if_true] at HM
   have HSTEP : Hid (plusR r.length x r = plusR n0 (.mk 5 [] [x'] noSpan) l'.tail) := by
    rw [Hid, HEQ.out]; simp only [plusR]; rw [qi]; simp
   clear qi
   go_wp2_with fail
   refine HM.out.mono ?_
   rintro e w2 ⟨rfl, hp2, hb2⟩
   have hBW : Bt pb w w2 := HC.out.bt.trans hb2
   have hkv2 := hb2.at HKV.out hkvp
   have hkr2 := hb2.at HC.out.res (by omega)
   have hlt2 := (Array.getElem?_eq_some_iff.1 hkv2).1
   have e0 := Lib.cell_of_heap hkv2 0
   have e1 := Lib.cell_of_heap hkv2 1
   have e2 := Lib.cell_of_heap hkv2 2
   have e3 := Lib.cell_of_heap hkv2 3
   have e4 := Lib.cell_of_heap hkv2 4
   have e5 := Lib.cell_of_heap hkv2 5
   have e6 := Lib.cell_of_heap hkv2 6
   have e7 := Lib.cell_of_heap hkv2 7
   have f0 := Lib.frozen_of_heap hkv2 0
   have f1 := Lib.frozen_of_heap hkv2 1
   have f2 := Lib.frozen_of_heap hkv2 2
   have f3 := Lib.frozen_of_heap hkv2 3
   have f4 := Lib.frozen_of_heap hkv2 4
   have f5 := Lib.frozen_of_heap hkv2 5
   have f6 := Lib.frozen_of_heap hkv2 6
   have f7 := Lib.frozen_of_heap hkv2 7
   simp only [List.getElem?_toArray, List.getElem?_cons_zero, List.getElem?_cons_succ] at e0 e1 e2 e3 e4 e5 e6 e7
   have HNEW : Hid (ChX pb tb deep w.heap.size kv w ((set8 w2 kv (.int .u8 5) (.slice none 0 0) (.slice (some ⟨w2.heap.size, 0, none⟩) 1 1) (.int .i64 0) (.bool false) (.int .i64 0) (.bool false) (.bool false)).alloc (.cells #[.int .u8 k', .slice a' m' c', .slice b' o' qq', .int .i64 lo', .bool ls', .int .i64 hi', .bool hs', .bool op'] 28)) (.mk 5 [] [x'] noSpan) l'.tail) := by
    have hfx : XI (pC w.heap.size w.heap.size kv) ((set8 w2 kv (.int .u8 5) (.slice none 0 0) (.slice (some ⟨w2.heap.size, 0, none⟩) 1 1) (.int .i64 0) (.bool false) (.int .i64 0) (.bool false) (.bool false)).alloc (.cells #[.int .u8 k', .slice a' m' c', .slice b' o' qq', .int .i64 lo', .bool ls', .int .i64 hi', .bool hs', .bool op'] 28)) x' (.agg #[.int .u8 k', .slice a' m' c', .slice b' o' qq', .int .i64 lo', .bool ls', .int .i64 hi', .bool hs', .bool op']) := by
     refine HFI.out.go ⟨?_, fun b hbz hpc => ⟨hpc, ?_⟩⟩
     ·simp only [World.alloc, Array.size_push, set8_size]
      have := hb2.2.2.2.1
      omega
     ·simp only [pC, Bool.and_eq_true, decide_eq_true_eq, bne_iff_ne, ne_eq] at hpc
      have := hb2.2.2.2.1
      exact (Lib.alloc_old _ _ _ (by rw [set8_size]; omega)).trans ((set8_other _ _ _ _ _ _ _ _ _ _ _ hpc.2).trans (hb2.2.2.2.2 b hbz (by omega)))
    have hft := XI.one hfx 5 0 0 false false false w2.heap.size 1 0 none (0, 0) (by
     simp only [pC, Bool.and_eq_true, decide_eq_true_eq, bne_iff_ne, ne_eq]
     omega) (hp_top (by rw [set8_size]))
    exact ⟨⟨_, _, _, _, _, _, _, _, _, _, _, _, hp_in (set8_at hkv2 _ _ _ _ _ _ _ _), hft⟩, (hp2.set8 (fun e => hkvp e.symm) hkvt _ _ _ _ _ _ _ _).alloc _, (hBW.set8 hle _ _ _ _ _ _ _ _).alloc _, hp_in ((set8_other _ _ _ _ _ _ _ _ _ _ _ hkr).trans hkr2)⟩
   have HLEFT : Hid (leftN pb ((set8 w2 kv (.int .u8 5) (.slice none 0 0) (.slice (some ⟨w2.heap.size, 0, none⟩) 1 1) (.int .i64 0) (.bool false) (.int .i64 0) (.bool false) (.bool false)).alloc (.cells #[.int .u8 k', .slice a' m' c', .slice b' o' qq', .int .i64 lo', .bool ls', .int .i64 hi', .bool hs', .bool op'] 28)) < leftN pb wr) := by
    rw [Hid, HNEW.out.ps.left, HC.out.ps.left, HL0.out]
    simp
   have HLE : Hid (l'.tail.length ≤ n0) := by
    rw [Hid]
    have h2 := HN'.out
    rw [HL0.out] at h2 ⊢
    simp at h2 ⊢
    omega
   clear hp2 hb2 hBW hkv2 hkr2
   go_wp2_with fail
   go_roundw
   case rel => exact ⟨_, l'.tail, n0, HLE.out, HSTEP, HNEW⟩
   case measure => exact HLEFT.out
end Go.Proofs.YtpgdplmndnopbaaGreatDoor

/- The parser walked: expressions. (Printed by gen_pst.py.) -/
namespace Go.Proofs.YtpgdplmndnopbaaGreatDoor
open Go.RowKit
@[local go_sem] theorem run_store_fn {P : Program} {w : World} {a : Addr} {m : Mode} (fn : Fn) (x y : Array Value) : (store a (.func fn x y) m).run P w = stored P w a (.func fn x y) m := run_store P w a _ m rfl
def catP (d deep : Nat) (l : List Tok) : PRes X := chainP [59] (moreR (treR d) deep) (joinX 4) l
def andP (d deep : Nat) (l : List Tok) : PRes X := chainP [38] (catP d deep) (joinX 3) l
theorem more_sh {tr : Nat → List Tok → PRes X} (hf : ∀ d l, Sh l (tr d l)) (deep : Nat) (l : List Tok) : Sh l (moreR tr deep l) := fun x r h => by
 unfold moreR at h
 cases e : baseR tr deep l with
 | error z => rw [e] at h; cases h
 | ok p =>
  obtain ⟨x1, r1⟩ := p
  rw [e] at h
  dsimp only at h
  have h1 := base_sh hf deep l _ _ e
  have h2 := plus_sh r1.length x1 r1
  injection h with h
  rw [h] at h2
  dsimp only at h2
  omega
theorem cat_sh (d deep : Nat) (l : List Tok) : Sh l (catP d deep l) := chainP_sh (fun l => more_sh (fun dd l => tre_sh d dd l) deep l) l
theorem and_sh (d deep : Nat) (l : List Tok) : Sh l (andP d deep l) := chainP_sh (fun l => cat_sh d deep l) l
set_option maxRecDepth 100000 in
set_option maxHeartbeats 8000000 in
theorem cat89_any (pb tb d deep kp : Nat) (hp4 : 4 ≤ pb) (htre : TreC pb tb d) (l : List Tok) (w : World) (hd : deep ≤ 64) (hdd : 64 ≤ deep + d) (hrd : Rdy w) (h : Ps pb tb w l deep) (hkp : w.heap[kp]? = some (.cells #[.pointer (some ⟨pb, 0, none⟩)] 79 (0, 0))) :
 Calls Tryz.prog 89 #[.pointer (some ⟨kp, 0, none⟩)] w (OutX pb tb deep w (catP d deep l)) := by
 have HKPP := Lib.hid (h.other hkp (by decide))
 obtain ⟨kr, hkr⟩ : ∃ kr, kr = w.heap.size := ⟨_, rfl⟩
 have hpb := h.lt
 have htb := h.tb_lt
 have hkpl := (Array.getElem?_eq_some_iff.1 hkp).1
 obtain ⟨WIN, hWIN⟩ : ∃ WIN, WIN = w.alloc (.cells #[.int .u8 0, .slice none 0 0, .slice none 0 0, .int .i64 0, .bool false, .int .i64 0, .bool false, .bool false] 28) := ⟨_, rfl⟩
 have hB : Bt pb w WIN := by rw [hWIN]; exact (Bt.refl pb w).alloc _
 have hP : Ps pb tb WIN l deep := by rw [hWIN]; exact h.alloc _
 have HKP : Hid (WIN.heap[kp]? = some (.cells #[.pointer (some ⟨pb, 0, none⟩)] 79 (0, 0))) := by rw [Hid, hWIN]; exact hp_in hkp
 have HKR : Hid (WIN.heap[kr]? = some (.cells #[.int .u8 0, .slice none 0 0, .slice none 0 0, .int .i64 0, .bool false, .int .i64 0, .bool false, .bool false] 28 (0, 0))) := by rw [Hid, hWIN]; exact hp_top hkr
 have HS : Hid (∀ W : World, W.heap[kp]? = some (.cells #[.pointer (some ⟨pb, 0, none⟩)] 79 (0, 0)) → W.cell? ⟨kp, 0, none⟩ = some (Value.pointer (some ⟨pb, 0, none⟩))) := fun W hW => Lib.cell_of_heap hW 0
 have hCH := chain90_any pb tb deep ⟨#[59]⟩ (by decide) 91 #[.pointer (some ⟨pb, 0, none⟩)] #[] (ent_of Tryz.func91 (by kernel_rfl) (by kernel_rfl)) WIN.heap.size 4 (moreR (treR d) deep) (fun l x r e => more_sh (fun dd l => tre_sh d dd l) deep l x r e)
  l (WIN.drew.alloc (.cells #[.int .u8 4] 5)) (hP.drew.alloc _) (hp_top rfl)
  (fun w' l' hb hp => by have := more91_any pb tb d hp4 htre deep l' w' hd hdd (hrd.bt hp4 (hB.trans (((Bt.refl pb WIN).drew.alloc _).trans hb))) hp; simpa using this)
 obtain ⟨RES, hRES⟩ : ∃ RES, RES = catP d deep l := ⟨_, rfl⟩
 rw [← hRES]
 have HCH : Hid (Calls Tryz.prog 90 #[.pointer (some ⟨pb, 0, none⟩), .string ⟨#[59]⟩, .func (.func 91) #[.pointer (some ⟨pb, 0, none⟩)] #[], .func (.func 141) #[] #[.pointer (some ⟨WIN.heap.size, 0, none⟩)]] (WIN.drew.alloc (.cells #[.int .u8 4] 5)) (OutX pb tb deep (WIN.drew.alloc (.cells #[.int .u8 4] 5)) RES)) := by
  rw [hRES]; exact hCH
 have HB := Lib.hid hB
 have hmf : ∀ (fn : Fn) (first cap : Array Value) (w : World), (Instr.makeFunc fn first cap).run Tryz.prog w = .ok (.func fn first cap) w := fun _ _ _ _ => rfl
 have HWN := Lib.hid hWIN.symm
 have HKQ := Lib.hid hkr.symm
 have hle : w.heap.size ≤ kr := by omega
 clear hB hP hCH hRES h hkp hrd htre hWIN hkr
 go_enter Tryz.func89, Tryz.ntmps89
 go_wp2_with fail
 rw [HWN.out, HKQ.out]
 clear HWN HKQ
 refine wp_region_held_drew (S := fun W => W.cell? ⟨kp, 0, none⟩ = some (Value.pointer (some ⟨pb, 0, none⟩))) (by kernel_rfl) (HS.out _ HKP.out) (fun hHeld => ?_)
 refine wpAnyH_take (i := 0) (v := ?_) rfl (by kernel_rfl) (by kernel_rfl) (by kernel_rfl) (fun _ _ _ h => h) (Or.inl ⟨by kernel_rfl, ?_⟩) (by assumption) ?_
 rotate_left
 ·(intro w hSw; (try dsimp only at hSw); go_simp)
  with_reducible rfl
 try simp only [Act.put, List.setIfInBounds_toArray]
 refine wpAnyH_take (i := 1) (v := ?_) rfl (by kernel_rfl) (by kernel_rfl) (by kernel_rfl) (fun _ _ _ h => h) (Or.inl ⟨by kernel_rfl, ?_⟩) (by assumption) ?_
 rotate_left
 ·(intro w hSw; (try dsimp only at hSw); go_simp)
  with_reducible rfl
 try simp only [Act.put]
 refine wpAnyH_take (i := 2) (v := ?_) rfl (by kernel_rfl) (by kernel_rfl) (by kernel_rfl) (fun _ _ _ h => h) (Or.inl ⟨by kernel_rfl, ?_⟩) (by assumption) ?_
 rotate_left
 ·(intro w hSw; (try dsimp only at hSw); go_simp)
  with_reducible rfl
 try simp only [Act.put]
 refine wpAnyH_ready (rs := [3]) (by kernel_rfl) (by simp) ?_
 refine AllReadyH.cons rfl (fun K0 hK => ?_) AllReadyH.nil
 go_simp
 go_at_call 92
 refine (both92_any 4 _).mono ?_
 rintro e wt ⟨rfl, rfl⟩
 dsimp only
 refine hK.out _ _ (HS.out _ (hp_in HKP.out)) (fun _ => ?_)
 clear hK K0
 try simp only [Act.put, List.setIfInBounds_toArray, List.set_cons_zero, List.set_cons_succ]
 refine wpAnyH_ready (rs := [4]) (by kernel_rfl) (by simp) ?_
 refine AllReadyH.cons rfl (fun K0 hK => ?_) AllReadyH.nil
 go_simp
 go_at_call 90
 cases q : RES with
 | error c =>
  refine (HCH.out.mono ?_)
  rw [q]
  rintro e w3 ⟨rfl, hb⟩
  have HB3 := Lib.hid (HB.out.trans (((Bt.refl pb WIN).drew.alloc _).trans hb))
  clear hb
  dsimp only
  go_wp2_with fail
  exact ⟨rfl, rfl, HB3.out⟩
 | ok xr =>
  obtain ⟨x, r⟩ := xr
  refine (HCH.out.mono ?_)
  rw [q]
  rintro e w3 ho
  obtain ⟨k1, a1, m1, c1, b1, o1, qq1, lo1, ls1, hi1, hs1, op1, rfl, hf, hp, hb⟩ := OutX.ok ho
  have hbw := ((Bt.refl pb WIN).drew.alloc (.cells #[.int .u8 4] 5)).trans hb
  have hkr3 := hbw.at HKR.out (by omega)
  have hkp3 := hbw.at HKP.out HKPP.out
  have e0 := Lib.cell_of_heap hkr3 0
  have e1 := Lib.cell_of_heap hkr3 1
  have e2 := Lib.cell_of_heap hkr3 2
  have e3 := Lib.cell_of_heap hkr3 3
  have e4 := Lib.cell_of_heap hkr3 4
  have e5 := Lib.cell_of_heap hkr3 5
  have e6 := Lib.cell_of_heap hkr3 6
  have e7 := Lib.cell_of_heap hkr3 7
  have f0 := Lib.frozen_of_heap hkr3 0
  have f1 := Lib.frozen_of_heap hkr3 1
  have f2 := Lib.frozen_of_heap hkr3 2
  have f3 := Lib.frozen_of_heap hkr3 3
  have f4 := Lib.frozen_of_heap hkr3 4
  have f5 := Lib.frozen_of_heap hkr3 5
  have f6 := Lib.frozen_of_heap hkr3 6
  have f7 := Lib.frozen_of_heap hkr3 7
  simp only [List.getElem?_toArray, List.getElem?_cons_zero, List.getElem?_cons_succ] at e0 e1 e2 e3 e4 e5 e6 e7
  have hsz := HB.out.2.2.2.1
  have HAT : Hid ((set8 w3 kr (.int .u8 k1) (.slice a1 m1 c1) (.slice b1 o1 qq1) (.int .i64 lo1) (.bool ls1) (.int .i64 hi1) (.bool hs1) (.bool op1)).heap[kr]? = some (.cells #[.int .u8 k1, .slice a1 m1 c1, .slice b1 o1 qq1, .int .i64 lo1, .bool ls1, .int .i64 hi1, .bool hs1, .bool op1] 28 (0, 0))) := set8_at hkr3 _ _ _ _ _ _ _ _
  have HOUT : Hid (OutX pb tb deep w (.ok (x, r)) (.returned (.agg #[.int .u8 k1, .slice a1 m1 c1, .slice b1 o1 qq1, .int .i64 lo1, .bool ls1, .int .i64 hi1, .bool hs1, .bool op1])) (set8 w3 kr (.int .u8 k1) (.slice a1 m1 c1) (.slice b1 o1 qq1) (.int .i64 lo1) (.bool ls1) (.int .i64 hi1) (.bool hs1) (.bool op1))) := by
   refine ⟨_, rfl, ?_, hp.set8 (by omega) (by omega) _ _ _ _ _ _ _ _, (HB.out.trans hbw).set8 (by omega) _ _ _ _ _ _ _ _⟩
   have hwin := (Array.getElem?_eq_some_iff.1 HKR.out).1
   refine hf.go ⟨by rw [set8_size]; exact Nat.le_refl _, fun b hbz hpn => ?_⟩
   have hpn' := of_decide_eq_true hpn
   have hws : (WIN.drew.alloc (.cells #[.int .u8 4] 5)).heap.size = WIN.heap.size + 1 := Array.size_push ..
   rw [hws] at hpn'
   exact ⟨decide_eq_true (show w.heap.size ≤ b by omega), set8_other _ _ _ _ _ _ _ _ _ _ _ (by omega)⟩
  have HKP3 : Hid ((set8 w3 kr (.int .u8 k1) (.slice a1 m1 c1) (.slice b1 o1 qq1) (.int .i64 lo1) (.bool ls1) (.int .i64 hi1) (.bool hs1) (.bool op1)).cell? ⟨kp, 0, none⟩ = some (Value.pointer (some ⟨pb, 0, none⟩))) :=
   Lib.cell_of_heap ((set8_other w3 kr _ _ _ _ _ _ _ _ kp (by omega)).trans hkp3) 0
  have hs3 := (HS.out _ hkp3)
  clear ho hf hp hb hbw hkr3 hkp3 hsz
  dsimp only
  refine hK.out _ _ hs3 (fun _ => ?_)
  clear hK K0
  try simp only [Act.put, List.setIfInBounds_toArray, List.set_cons_zero, List.set_cons_succ]
  refine wpAnyH_ready (rs := [5]) (by kernel_rfl) (by simp) ?_
  refine AllReadyH.cons rfl (fun K0 hK => ?_) AllReadyH.nil
  go_simp
  refine hK.out _ _ HKP3.out (fun _ => ?_)
  clear hK K0
  try simp only [Act.put, List.setIfInBounds_toArray, List.set_cons_zero, List.set_cons_succ]
  refine wpAnyH_done (by kernel_rfl) ?_ _
  go_wp2_with fail
  first | refine And.intro rfl (Exists.intro _ (And.intro (results_cell_row rfl _ _ _ _ _ _ _ rfl HAT.out Tryz.underlying28 rfl (by kernel_rfl)) ?_)) | refine bodyPost_ret (results_cell_row rfl _ _ _ _ _ _ _ rfl HAT.out Tryz.underlying28 rfl (by kernel_rfl)) rfl ?_
  first | exact HOUT.out | (rw [q]; exact HOUT.out)
set_option maxRecDepth 100000 in
set_option maxHeartbeats 8000000 in
theorem and93_any (pb tb d deep kp kf : Nat) (hp4 : 4 ≤ pb) (htre : TreC pb tb d) (l : List Tok) (w : World) (hd : deep ≤ 64) (hdd : 64 ≤ deep + d) (hrd : Rdy w) (h : Ps pb tb w l deep) (hkp : w.heap[kp]? = some (.cells #[.pointer (some ⟨pb, 0, none⟩)] 79 (0, 0))) (hkf : w.heap[kf]? = some (.cells #[.func (.func 89) #[] #[.pointer (some ⟨kp, 0, none⟩)]] 82 (0, 0))) :
 Calls Tryz.prog 93 #[.pointer (some ⟨kp, 0, none⟩), .pointer (some ⟨kf, 0, none⟩)] w (OutX pb tb deep w (andP d deep l)) := by
 have HKPP := Lib.hid (h.other hkp (by decide))
 have HKFP := Lib.hid (h.other hkf (by decide))
 obtain ⟨kr, hkr⟩ : ∃ kr, kr = w.heap.size := ⟨_, rfl⟩
 have hpb := h.lt
 have htb := h.tb_lt
 have hkpl := (Array.getElem?_eq_some_iff.1 hkp).1
 have hkfl := (Array.getElem?_eq_some_iff.1 hkf).1
 obtain ⟨WIN, hWIN⟩ : ∃ WIN, WIN = w.alloc (.cells #[.int .u8 0, .slice none 0 0, .slice none 0 0, .int .i64 0, .bool false, .int .i64 0, .bool false, .bool false] 28) := ⟨_, rfl⟩
 have hB : Bt pb w WIN := by rw [hWIN]; exact (Bt.refl pb w).alloc _
 have hP : Ps pb tb WIN l deep := by rw [hWIN]; exact h.alloc _
 have HKP : Hid (WIN.heap[kp]? = some (.cells #[.pointer (some ⟨pb, 0, none⟩)] 79 (0, 0))) := by rw [Hid, hWIN]; exact hp_in hkp
 have HKF : Hid (WIN.heap[kf]? = some (.cells #[.func (.func 89) #[] #[.pointer (some ⟨kp, 0, none⟩)]] 82 (0, 0))) := by rw [Hid, hWIN]; exact hp_in hkf
 have HKR : Hid (WIN.heap[kr]? = some (.cells #[.int .u8 0, .slice none 0 0, .slice none 0 0, .int .i64 0, .bool false, .int .i64 0, .bool false, .bool false] 28 (0, 0))) := by rw [Hid, hWIN]; exact hp_top hkr
 have HS : Hid (∀ W : World, W.heap[kp]? = some (.cells #[.pointer (some ⟨pb, 0, none⟩)] 79 (0, 0)) → W.heap[kf]? = some (.cells #[.func (.func 89) #[] #[.pointer (some ⟨kp, 0, none⟩)]] 82 (0, 0)) → W.cell? ⟨kp, 0, none⟩ = some (Value.pointer (some ⟨pb, 0, none⟩)) ∧ W.cell? ⟨kf, 0, none⟩ = some (Value.func (.func 89) #[] #[.pointer (some ⟨kp, 0, none⟩)])) := fun W hW hF => ⟨Lib.cell_of_heap hW 0, Lib.cell_of_heap hF 0⟩
 have hCH := chain90_any pb tb deep ⟨#[38]⟩ (by decide) 89 #[] #[.pointer (some ⟨kp, 0, none⟩)] (ent_of Tryz.func89 (by kernel_rfl) (by kernel_rfl)) WIN.heap.size 3 (catP d deep) (fun l x r e => cat_sh d deep l x r e)
  l (WIN.drew.alloc (.cells #[.int .u8 3] 5)) (hP.drew.alloc _) (hp_top rfl)
  (fun w' l' hb hp => by
   have hbb := ((Bt.refl pb WIN).drew.alloc (.cells #[.int .u8 3] 5)).trans hb
   have := cat89_any pb tb d deep kp hp4 htre l' w' hd hdd (hrd.bt hp4 (hB.trans hbb)) hp (hbb.at HKP.out HKPP.out)
   simpa using this)
 obtain ⟨RES, hRES⟩ : ∃ RES, RES = andP d deep l := ⟨_, rfl⟩
 rw [← hRES]
 have HCH : Hid (Calls Tryz.prog 90 #[.pointer (some ⟨pb, 0, none⟩), .string ⟨#[38]⟩, .func (.func 89) #[] #[.pointer (some ⟨kp, 0, none⟩)], .func (.func 141) #[] #[.pointer (some ⟨WIN.heap.size, 0, none⟩)]] (WIN.drew.alloc (.cells #[.int .u8 3] 5)) (OutX pb tb deep (WIN.drew.alloc (.cells #[.int .u8 3] 5)) RES)) := by
  rw [hRES]; exact hCH
 have HB := Lib.hid hB
 have hmf : ∀ (fn : Fn) (first cap : Array Value) (w : World), (Instr.makeFunc fn first cap).run Tryz.prog w = .ok (.func fn first cap) w := fun _ _ _ _ => rfl
 have HWN := Lib.hid hWIN.symm
 have HKQ := Lib.hid hkr.symm
 have hle : w.heap.size ≤ kr := by omega
 clear hB hP hCH hRES h hkp hkf hrd htre hWIN hkr
 go_enter Tryz.func93, Tryz.ntmps93
 go_wp2_with fail
 rw [HWN.out, HKQ.out]
 clear HWN HKQ
 refine wp_region_held_drew (S := fun W => W.cell? ⟨kp, 0, none⟩ = some (Value.pointer (some ⟨pb, 0, none⟩)) ∧ W.cell? ⟨kf, 0, none⟩ = some (Value.func (.func 89) #[] #[.pointer (some ⟨kp, 0, none⟩)])) (by kernel_rfl) (HS.out _ HKP.out HKF.out) (fun hHeld => ?_)
 refine wpAnyH_take (i := 0) (v := ?_) rfl (by kernel_rfl) (by kernel_rfl) (by kernel_rfl) (fun _ _ _ h => h) (Or.inl ⟨by kernel_rfl, ?_⟩) (by assumption) ?_
 rotate_left
 ·(intro w hSw; (try dsimp only at hSw); go_simp)
  with_reducible rfl
 try simp only [Act.put, List.setIfInBounds_toArray]
 refine wpAnyH_take (i := 1) (v := ?_) rfl (by kernel_rfl) (by kernel_rfl) (by kernel_rfl) (fun _ _ _ h => h) (Or.inl ⟨by kernel_rfl, ?_⟩) (by assumption) ?_
 rotate_left
 ·(intro w hSw; (try dsimp only at hSw); go_simp)
  with_reducible rfl
 try simp only [Act.put]
 refine wpAnyH_ready (rs := [2]) (by kernel_rfl) (by simp) ?_
 refine AllReadyH.cons rfl (fun K0 hK => ?_) AllReadyH.nil
 go_simp
 go_at_call 92
 refine (both92_any 3 _).mono ?_
 rintro e wt ⟨rfl, rfl⟩
 dsimp only
 refine hK.out _ _ (HS.out _ (hp_in HKP.out) (hp_in HKF.out)) (fun _ => ?_)
 clear hK K0
 try simp only [Act.put, List.setIfInBounds_toArray, List.set_cons_zero, List.set_cons_succ]
 refine wpAnyH_ready (rs := [3]) (by kernel_rfl) (by simp) ?_
 refine AllReadyH.cons rfl (fun K0 hK => ?_) AllReadyH.nil
 go_simp
 go_at_call 90
 cases q : RES with
 | error c =>
  refine (HCH.out.mono ?_)
  rw [q]
  rintro e w3 ⟨rfl, hb⟩
  have HB3 := Lib.hid (HB.out.trans (((Bt.refl pb WIN).drew.alloc _).trans hb))
  clear hb
  dsimp only
  go_wp2_with fail
  exact ⟨rfl, rfl, HB3.out⟩
 | ok xr =>
  obtain ⟨x, r⟩ := xr
  refine (HCH.out.mono ?_)
  rw [q]
  rintro e w3 ho
  obtain ⟨k1, a1, m1, c1, b1, o1, qq1, lo1, ls1, hi1, hs1, op1, rfl, hf, hp, hb⟩ := OutX.ok ho
  have hbw := ((Bt.refl pb WIN).drew.alloc (.cells #[.int .u8 3] 5)).trans hb
  have hkr3 := hbw.at HKR.out (by omega)
  have hkp3 := hbw.at HKP.out HKPP.out
  have hkf3 := hbw.at HKF.out HKFP.out
  have e0 := Lib.cell_of_heap hkr3 0
  have e1 := Lib.cell_of_heap hkr3 1
  have e2 := Lib.cell_of_heap hkr3 2
  have e3 := Lib.cell_of_heap hkr3 3
  have e4 := Lib.cell_of_heap hkr3 4
  have e5 := Lib.cell_of_heap hkr3 5
  have e6 := Lib.cell_of_heap hkr3 6
  have e7 := Lib.cell_of_heap hkr3 7
  have f0 := Lib.frozen_of_heap hkr3 0
  have f1 := Lib.frozen_of_heap hkr3 1
  have f2 := Lib.frozen_of_heap hkr3 2
  have f3 := Lib.frozen_of_heap hkr3 3
  have f4 := Lib.frozen_of_heap hkr3 4
  have f5 := Lib.frozen_of_heap hkr3 5
  have f6 := Lib.frozen_of_heap hkr3 6
  have f7 := Lib.frozen_of_heap hkr3 7
  simp only [List.getElem?_toArray, List.getElem?_cons_zero, List.getElem?_cons_succ] at e0 e1 e2 e3 e4 e5 e6 e7
  have hsz := HB.out.2.2.2.1
  have HAT : Hid ((set8 w3 kr (.int .u8 k1) (.slice a1 m1 c1) (.slice b1 o1 qq1) (.int .i64 lo1) (.bool ls1) (.int .i64 hi1) (.bool hs1) (.bool op1)).heap[kr]? = some (.cells #[.int .u8 k1, .slice a1 m1 c1, .slice b1 o1 qq1, .int .i64 lo1, .bool ls1, .int .i64 hi1, .bool hs1, .bool op1] 28 (0, 0))) := set8_at hkr3 _ _ _ _ _ _ _ _
  have HOUT : Hid (OutX pb tb deep w (.ok (x, r)) (.returned (.agg #[.int .u8 k1, .slice a1 m1 c1, .slice b1 o1 qq1, .int .i64 lo1, .bool ls1, .int .i64 hi1, .bool hs1, .bool op1])) (set8 w3 kr (.int .u8 k1) (.slice a1 m1 c1) (.slice b1 o1 qq1) (.int .i64 lo1) (.bool ls1) (.int .i64 hi1) (.bool hs1) (.bool op1))) := by
   refine ⟨_, rfl, ?_, hp.set8 (by omega) (by omega) _ _ _ _ _ _ _ _, (HB.out.trans hbw).set8 (by omega) _ _ _ _ _ _ _ _⟩
   have hwin := (Array.getElem?_eq_some_iff.1 HKR.out).1
   refine hf.go ⟨by rw [set8_size]; exact Nat.le_refl _, fun b hbz hpn => ?_⟩
   have hpn' := of_decide_eq_true hpn
   have hws : (WIN.drew.alloc (.cells #[.int .u8 3] 5)).heap.size = WIN.heap.size + 1 := Array.size_push ..
   rw [hws] at hpn'
   exact ⟨decide_eq_true (show w.heap.size ≤ b by omega), set8_other _ _ _ _ _ _ _ _ _ _ _ (by omega)⟩
  have HKP3 : Hid ((set8 w3 kr (.int .u8 k1) (.slice a1 m1 c1) (.slice b1 o1 qq1) (.int .i64 lo1) (.bool ls1) (.int .i64 hi1) (.bool hs1) (.bool op1)).cell? ⟨kp, 0, none⟩ = some (Value.pointer (some ⟨pb, 0, none⟩)) ∧ (set8 w3 kr (.int .u8 k1) (.slice a1 m1 c1) (.slice b1 o1 qq1) (.int .i64 lo1) (.bool ls1) (.int .i64 hi1) (.bool hs1) (.bool op1)).cell? ⟨kf, 0, none⟩ = some (Value.func (.func 89) #[] #[.pointer (some ⟨kp, 0, none⟩)])) :=
   ⟨Lib.cell_of_heap ((set8_other w3 kr _ _ _ _ _ _ _ _ kp (by omega)).trans hkp3) 0, Lib.cell_of_heap ((set8_other w3 kr _ _ _ _ _ _ _ _ kf (by omega)).trans hkf3) 0⟩
  have hs3 := (HS.out _ hkp3 hkf3)
  clear ho hf hp hb hbw hkr3 hkp3 hsz hkf3
  dsimp only
  refine hK.out _ _ hs3 (fun _ => ?_)
  clear hK K0
  try simp only [Act.put, List.setIfInBounds_toArray, List.set_cons_zero, List.set_cons_succ]
  refine wpAnyH_ready (rs := [4]) (by kernel_rfl) (by simp) ?_
  refine AllReadyH.cons rfl (fun K0 hK => ?_) AllReadyH.nil
  go_simp
  refine hK.out _ _ HKP3.out (fun _ => ?_)
  clear hK K0
  try simp only [Act.put, List.setIfInBounds_toArray, List.set_cons_zero, List.set_cons_succ]
  refine wpAnyH_done (by kernel_rfl) ?_ _
  go_wp2_with fail
  first | refine And.intro rfl (Exists.intro _ (And.intro (results_cell_row rfl _ _ _ _ _ _ _ rfl HAT.out Tryz.underlying28 rfl (by kernel_rfl)) ?_)) | refine bodyPost_ret (results_cell_row rfl _ _ _ _ _ _ _ rfl HAT.out Tryz.underlying28 rfl (by kernel_rfl)) rfl ?_
  first | exact HOUT.out | (rw [q]; exact HOUT.out)
set_option maxRecDepth 100000 in
set_option maxHeartbeats 8000000 in
theorem tre44_any (pb tb : Nat) (hp4 : 4 ≤ pb) : ∀ d : Nat, TreC pb tb d := by
 intro d
 induction d with
 | zero => intro deep l w hd hdd; exact absurd hdd (by omega)
 | succ d ih =>
  intro deep l w hd hdd hrd h
  obtain ⟨kp, hkpe⟩ : ∃ kp, kp = w.heap.size := ⟨_, rfl⟩
  obtain ⟨kr, hkr⟩ : ∃ kr, kr = w.heap.size + 1 := ⟨_, rfl⟩
  obtain ⟨kf, hkfe⟩ : ∃ kf, kf = w.heap.size + 2 := ⟨_, rfl⟩
  have hpb := h.lt
  have htb := h.tb_lt
  have HKPP : Hid (kp ≠ pb) := by rw [Hid]; omega
  have HKFP : Hid (kf ≠ pb) := by rw [Hid]; omega
  obtain ⟨WIN, hWIN⟩ : ∃ WIN, WIN = ((w.alloc (.cells #[.pointer (some ⟨pb, 0, none⟩)] 79)).alloc (.cells #[.int .u8 0, .slice none 0 0, .slice none 0 0, .int .i64 0, .bool false, .int .i64 0, .bool false, .bool false] 28)).alloc (.cells #[.func (.func 89) #[] #[.pointer (some ⟨kp, 0, none⟩)]] 82) := ⟨_, rfl⟩
  have hB : Bt pb w WIN := by rw [hWIN]; exact (((Bt.refl pb w).alloc _).alloc _).alloc _
  have hP : Ps pb tb WIN l deep := by rw [hWIN]; exact ((h.alloc _).alloc _).alloc _
  have HKP : Hid (WIN.heap[kp]? = some (.cells #[.pointer (some ⟨pb, 0, none⟩)] 79 (0, 0))) := by rw [Hid, hWIN]; exact hp_in (hp_in (hp_top hkpe))
  have HKR : Hid (WIN.heap[kr]? = some (.cells #[.int .u8 0, .slice none 0 0, .slice none 0 0, .int .i64 0, .bool false, .int .i64 0, .bool false, .bool false] 28 (0, 0))) := by rw [Hid, hWIN]; exact hp_in (hp_top (by simp [hkr]))
  have HKF : Hid (WIN.heap[kf]? = some (.cells #[.func (.func 89) #[] #[.pointer (some ⟨kp, 0, none⟩)]] 82 (0, 0))) := by rw [Hid, hWIN]; exact hp_top (by simp [hkfe])
  have hkpl : kp < kr := by omega
  have HS : Hid (∀ W : World, W.heap[kp]? = some (.cells #[.pointer (some ⟨pb, 0, none⟩)] 79 (0, 0)) → W.cell? ⟨kp, 0, none⟩ = some (Value.pointer (some ⟨pb, 0, none⟩))) := fun W hW => Lib.cell_of_heap hW 0
  have hCH := chain90_any pb tb deep ⟨#[124]⟩ (by decide) 93 #[] #[.pointer (some ⟨kp, 0, none⟩), .pointer (some ⟨kf, 0, none⟩)] (ent_of Tryz.func93 (by kernel_rfl) (by kernel_rfl)) WIN.heap.size 2 (andP d deep) (fun l x r e => and_sh d deep l x r e)
   l (WIN.drew.alloc (.cells #[.int .u8 2] 5)) (hP.drew.alloc _) (hp_top rfl)
   (fun w' l' hb hp => by
    have hbb := ((Bt.refl pb WIN).drew.alloc (.cells #[.int .u8 2] 5)).trans hb
    have := and93_any pb tb d deep kp kf hp4 ih l' w' hd (by omega) (hrd.bt hp4 (hB.trans hbb)) hp (hbb.at HKP.out HKPP.out) (hbb.at HKF.out HKFP.out)
    simpa using this)
  obtain ⟨RES, hRES⟩ : ∃ RES, RES = treR (d + 1) deep l := ⟨_, rfl⟩
  rw [← hRES]
  have HCH : Hid (Calls Tryz.prog 90 #[.pointer (some ⟨pb, 0, none⟩), .string ⟨#[124]⟩, .func (.func 93) #[] #[.pointer (some ⟨kp, 0, none⟩), .pointer (some ⟨kf, 0, none⟩)], .func (.func 141) #[] #[.pointer (some ⟨WIN.heap.size, 0, none⟩)]] (WIN.drew.alloc (.cells #[.int .u8 2] 5)) (OutX pb tb deep (WIN.drew.alloc (.cells #[.int .u8 2] 5)) RES)) := by
   rw [hRES]; exact hCH
  have HB := Lib.hid hB
  have hmf : ∀ (fn : Fn) (first cap : Array Value) (w : World), (Instr.makeFunc fn first cap).run Tryz.prog w = .ok (.func fn first cap) w := fun _ _ _ _ => rfl
  have HWN := Lib.hid hWIN.symm
  have HKQ := Lib.hid hkr.symm
  have HKO := Lib.hid hkpe.symm
  have HKG := Lib.hid hkfe.symm
  have hle : w.heap.size ≤ kr := by omega
  clear hB hP hCH hRES h hrd ih hWIN hkr hkpe hkfe
  go_enter Tryz.func44, Tryz.ntmps44
  go_wp2_with fail
  try rw [HKG.out]
  rw [HKQ.out, HKO.out]
  rw [HWN.out]
  clear HWN HKQ HKO
  refine wp_region_held_drew (S := fun W => W.cell? ⟨kp, 0, none⟩ = some (Value.pointer (some ⟨pb, 0, none⟩))) (by kernel_rfl) (HS.out _ HKP.out) (fun hHeld => ?_)
  refine wpAnyH_take (i := 0) (v := ?_) rfl (by kernel_rfl) (by kernel_rfl) (by kernel_rfl) (fun _ _ _ h => h) (Or.inl ⟨by kernel_rfl, ?_⟩) (by assumption) ?_
  rotate_left
  ·(intro w hSw; (try dsimp only at hSw); go_simp)
   with_reducible rfl
  try simp only [Act.put, List.setIfInBounds_toArray]
  refine wpAnyH_take (i := 1) (v := ?_) rfl (by kernel_rfl) (by kernel_rfl) (by kernel_rfl) (fun _ _ _ h => h) (Or.inl ⟨by kernel_rfl, ?_⟩) (by assumption) ?_
  rotate_left
  ·(intro w hSw; (try dsimp only at hSw); go_simp)
   with_reducible rfl
  try simp only [Act.put]
  refine wpAnyH_ready (rs := [2]) (by kernel_rfl) (by simp) ?_
  refine AllReadyH.cons rfl (fun K0 hK => ?_) AllReadyH.nil
  go_simp
  go_at_call 92
  refine (both92_any 2 _).mono ?_
  rintro e wt ⟨rfl, rfl⟩
  dsimp only
  refine hK.out _ _ (HS.out _ (hp_in HKP.out)) (fun _ => ?_)
  clear hK K0
  try simp only [Act.put, List.setIfInBounds_toArray, List.set_cons_zero, List.set_cons_succ]
  refine wpAnyH_ready (rs := [3]) (by kernel_rfl) (by simp) ?_
  refine AllReadyH.cons rfl (fun K0 hK => ?_) AllReadyH.nil
  go_simp
  go_at_call 90
  cases q : RES with
  | error c =>
   refine (HCH.out.mono ?_)
   rw [q]
   rintro e w3 ⟨rfl, hb⟩
   have HB3 := Lib.hid (HB.out.trans (((Bt.refl pb WIN).drew.alloc _).trans hb))
   clear hb
   dsimp only
   go_wp2_with fail
   exact ⟨rfl, rfl, HB3.out⟩
  | ok xr =>
   obtain ⟨x, r⟩ := xr
   refine (HCH.out.mono ?_)
   rw [q]
   rintro e w3 ho
   obtain ⟨k1, a1, m1, c1, b1, o1, qq1, lo1, ls1, hi1, hs1, op1, rfl, hf, hp, hb⟩ := OutX.ok ho
   have hbw := ((Bt.refl pb WIN).drew.alloc (.cells #[.int .u8 2] 5)).trans hb
   have hkr3 := hbw.at HKR.out (by omega)
   have hkp3 := hbw.at HKP.out HKPP.out
   have e0 := Lib.cell_of_heap hkr3 0
   have e1 := Lib.cell_of_heap hkr3 1
   have e2 := Lib.cell_of_heap hkr3 2
   have e3 := Lib.cell_of_heap hkr3 3
   have e4 := Lib.cell_of_heap hkr3 4
   have e5 := Lib.cell_of_heap hkr3 5
   have e6 := Lib.cell_of_heap hkr3 6
   have e7 := Lib.cell_of_heap hkr3 7
   have f0 := Lib.frozen_of_heap hkr3 0
   have f1 := Lib.frozen_of_heap hkr3 1
   have f2 := Lib.frozen_of_heap hkr3 2
   have f3 := Lib.frozen_of_heap hkr3 3
   have f4 := Lib.frozen_of_heap hkr3 4
   have f5 := Lib.frozen_of_heap hkr3 5
   have f6 := Lib.frozen_of_heap hkr3 6
   have f7 := Lib.frozen_of_heap hkr3 7
   simp only [List.getElem?_toArray, List.getElem?_cons_zero, List.getElem?_cons_succ] at e0 e1 e2 e3 e4 e5 e6 e7
   have hsz := HB.out.2.2.2.1
   have HAT : Hid ((set8 w3 kr (.int .u8 k1) (.slice a1 m1 c1) (.slice b1 o1 qq1) (.int .i64 lo1) (.bool ls1) (.int .i64 hi1) (.bool hs1) (.bool op1)).heap[kr]? = some (.cells #[.int .u8 k1, .slice a1 m1 c1, .slice b1 o1 qq1, .int .i64 lo1, .bool ls1, .int .i64 hi1, .bool hs1, .bool op1] 28 (0, 0))) := set8_at hkr3 _ _ _ _ _ _ _ _
   have HOUT : Hid (OutX pb tb deep w (.ok (x, r)) (.returned (.agg #[.int .u8 k1, .slice a1 m1 c1, .slice b1 o1 qq1, .int .i64 lo1, .bool ls1, .int .i64 hi1, .bool hs1, .bool op1])) (set8 w3 kr (.int .u8 k1) (.slice a1 m1 c1) (.slice b1 o1 qq1) (.int .i64 lo1) (.bool ls1) (.int .i64 hi1) (.bool hs1) (.bool op1))) := by
    refine ⟨_, rfl, ?_, hp.set8 (by omega) (by omega) _ _ _ _ _ _ _ _, (HB.out.trans hbw).set8 (by omega) _ _ _ _ _ _ _ _⟩
    have hwin := (Array.getElem?_eq_some_iff.1 HKR.out).1
    refine hf.go ⟨by rw [set8_size]; exact Nat.le_refl _, fun b hbz hpn => ?_⟩
    have hpn' := of_decide_eq_true hpn
    have hws : (WIN.drew.alloc (.cells #[.int .u8 2] 5)).heap.size = WIN.heap.size + 1 := Array.size_push ..
    rw [hws] at hpn'
    exact ⟨decide_eq_true (show w.heap.size ≤ b by omega), set8_other _ _ _ _ _ _ _ _ _ _ _ (by omega)⟩
   have HKP3 : Hid ((set8 w3 kr (.int .u8 k1) (.slice a1 m1 c1) (.slice b1 o1 qq1) (.int .i64 lo1) (.bool ls1) (.int .i64 hi1) (.bool hs1) (.bool op1)).cell? ⟨kp, 0, none⟩ = some (Value.pointer (some ⟨pb, 0, none⟩))) :=
    Lib.cell_of_heap ((set8_other w3 kr _ _ _ _ _ _ _ _ kp (by omega)).trans hkp3) 0
   have hs3 := (HS.out _ hkp3)
   clear ho hf hp hb hbw hkr3 hkp3 hsz
   dsimp only
   refine hK.out _ _ hs3 (fun _ => ?_)
   clear hK K0
   try simp only [Act.put, List.setIfInBounds_toArray, List.set_cons_zero, List.set_cons_succ]
   refine wpAnyH_ready (rs := [4]) (by kernel_rfl) (by simp) ?_
   refine AllReadyH.cons rfl (fun K0 hK => ?_) AllReadyH.nil
   go_simp
   refine hK.out _ _ HKP3.out (fun _ => ?_)
   clear hK K0
   try simp only [Act.put, List.setIfInBounds_toArray, List.set_cons_zero, List.set_cons_succ]
   refine wpAnyH_done (by kernel_rfl) ?_ _
   go_wp2_with fail
   first | refine And.intro rfl (Exists.intro _ (And.intro (results_cell_row rfl _ _ _ _ _ _ _ rfl HAT.out Tryz.underlying28 rfl (by kernel_rfl)) ?_)) | refine bodyPost_ret (results_cell_row rfl _ _ _ _ _ _ _ rfl HAT.out Tryz.underlying28 rfl (by kernel_rfl)) rfl ?_
   first | exact HOUT.out | (rw [q]; exact HOUT.out)
end Go.Proofs.YtpgdplmndnopbaaGreatDoor
